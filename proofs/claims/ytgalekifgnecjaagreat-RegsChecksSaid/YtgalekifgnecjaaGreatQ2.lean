/- A unit whose slots have other names: plain laws -/
import Derived.Test.YtgalekifgnecjaaGreatV1
import Derived.Test.YtgalekifgnecjaaGreatS6
import Derived.Test.YtgalekifgnecjaaGreatC2
import Derived.BigQuiet
namespace Go.Proofs.YtgalekifgnecjaaGreat
open Go.RowKit
structure JP(f g:Int->Int)(a n:Int):Prop where
 fg:∀x,f (g x)=x
 gf:∀x,g (f x)=x
 lo:∀x,x<a->f x=x
 hi:∀x,n<=x->f x=x
 mid:∀x,a<=x->x<n->a<=f x/\f x<n
 a0:0<=a
def ST(a n by':Int)(s:Int):Int:=if s<a\/n<=s then s else a+(s-a+by') % (n-a)
section
variable {f g:Int->Int} {a n:Int}
theorem JP.inj(h:JP f g a n){x y:Int}(e:f x=f y):x=y:=by rw[<-h.gf x,e,h.gf]
theorem JP.neg(h:JP f g a n){x:Int}(hx:x<0):f x=x:=h.lo x (by have:=h.a0;omega)
theorem JP.pos(h:JP f g a n){x:Int}(hx:0<=x):0<=f x:=by
 have:=h.a0;by_cases h1:x<a
 ·rw[h.lo x h1];exact hx
 ·by_cases h2:x<n
  ·have:=h.mid x (by omega) h2;omega
  ·rw[h.hi x (by omega)];exact hx
theorem JP.one(h:JP f g a n)(x:Int):(f x= -1)=(x= -1):=by
 apply propext;constructor
 ·intro e
  by_cases hx:x<0
  ·rwa [h.neg hx]at e
  ·have:=h.pos (x:=x) (by omega);omega
 ·rintro rfl;exact h.neg (by omega)
theorem JP.below(h:JP f g a n)(x:Int):f x<n↔x<n:=by
 by_cases h1:x<a
 ·rw[h.lo x h1]
 ·by_cases h2:x<n
  ·have:=h.mid x (by omega) h2;omega
  ·rw[h.hi x (by omega)]
def A4(f:Int->Int)(x:zm):zm:=zY x f f
theorem OK{op:Int}(h:0<=op/\op<=32):op=0\/op=1\/op=2\/op=3\/op=4\/op=5\/op=6\/op=7\/op=8\/op=9\/op=10\/op=11\/op=12\/op=13\/op=14\/op=15\/op=16\/op=17\/op=18\/op=19\/op=20\/op=21\/op=22\/op=23\/op=24\/op=25\/op=26\/op=27\/op=28\/op=29\/op=30\/op=31\/op=32:=by omega
structure Tg(f:Int->Int)(x:zm):Prop where
 rd:zp (A4 f x)=(zp x).map f
 wr:zc (A4 f x)=f (zc x)
 pl:qR (A4 f x)=qR x
 po:zQ (A4 f x)=zQ x
 ag:jQ x=true->(A4 f x).a=x.a
end
open Go.RowKit Go.Shelf
def S5(f:Int->Int)(u:zg):zg:=⟨u.cls,u.name,u.args,u.slots,u.frame,u.code.map (A4 f),u.guards⟩
def R6(u:zg):Prop:=∀x∈u.code,0<=x.op/\x.op<=32
theorem XP{u:zg}(hw:zC u=true):R6 u:=by
 intro x hx;obtain⟨k,hk,rfl⟩:=List.getElem_of_mem hx;have hp:=zH hw;have h2:=XQ hw hk;unfold qx at h2;simp only[zJ,xf,jA,yi,yL,yB]at hp;have h1:=(hp.1.2 _ (yy hk)).1;rw[zk hk]at h2;simp only[yi,jb,yY]at h2;have e33:=h2.1.1.1.2;have e34:=h2.1.1.2;omega
section
variable {f g:Int->Int} {u:zg}
variable {a n:Int}
def S6(f:Int->Int)(x:xd):xd:=⟨x.frm,x.til,x.reads.map f,f x.wr⟩
def Mg(f:Int->Int)(l m:List Int):Prop:=∀x,f x∈m↔x∈l
def P1(f:Int->Int)(s s':List (List Int)):Prop:=∀t,Mg f (s.getD t []) (s'.getD t [])
theorem Uf(h:JP f g a n):∀ {l:List Int},l.Nodup->(l.map f).Nodup
 | [],_=>List.nodup_nil
 |x::l,hn=>by
  obtain⟨h1,h2⟩:=List.nodup_cons.1 hn;rw[j9,List.nodup_cons];refine⟨fun hm=> ?_,Uf h h2⟩;obtain⟨y,hy,e⟩:=xI.1 hm;exact h1 (h.inj e ▸ hy)
theorem Mg.len(h:JP f g a n){l m:List Int}(hr:Mg f l m)(hl:l.Nodup)(hm:m.Nodup):m.length=l.length:=by
 have h1:=yz (Uf h hl) (m:=m) (fun y hy=>by
  obtain⟨x,hx,rfl⟩:=xI.1 hy
  exact(hr x).2 hx)
 have h2:=yz hm (m:=l.map f) (fun y hy=>by
  refine xI.2 ⟨g y,(hr (g y)).1 ?_,h.fg y⟩
  rw[h.fg];exact hy)
 rw[ym]at h1 h2;omega
theorem Ys:∀(m:List Int) {l:List Int},l.Nodup->(yG l m).Nodup
 | [],_,h=>h
 |x::m,l,h=>by
  have e:yG l (x::m)=yG (if l.contains x=true then l else l++ [x]) m:=rfl;rw[e];refine Ys m ?_;split
  ·exact h
  ·rename_i hx
   rw[xn]at hx;exact List.nodup_append.2 ⟨h,by simp,fun y hy z hz e=>hx (by rw[qf.1 hz]at e;exact e ▸ hy)⟩
theorem P1.set{s s':List (List Int)}(hr:P1 f s s'){t:Nat}{l m:List Int}(h1:t<s.length)(h2:t<s'.length)(hm:Mg f l m):P1 f (s.set t l) (s'.set t m):=by
 intro k;rw[vW _ _ _ _ h1,vW _ _ _ _ h2];split
 ·exact hm
 ·exact hr k
def Fj(f:Int->Int)(l m:List (Int×Int)):Prop:=∀x y,qU (f x) (f y)∈m↔qU x y∈l
theorem ZW{x y z t:Int}:qU x y=qU z t↔(x=z/\y=t)\/(x=t/\y=z):=by
 unfold qU;rw[Prod.mk.injEq];omega
theorem Qr{l:List (Int×Int)}{s t:Int}{p:Int×Int}:p∈xu l s t↔p∈l\/(s≠t/\p=qU s t):=by
 unfold xu;split
 ·rename_i e
  simp[e]
 ·rename_i e
  rw[XV];constructor
  ·rintro(h|h)
   ·exact .inr ⟨e,h⟩
   ·exact .inl h
  ·rintro(h|⟨_,h⟩)
   ·exact .inr h
   ·exact .inl h
theorem vS{s:Int}{p:Int×Int}:∀ {bs:List Int} {l:List (Int×Int)},p∈bs.foldl (fun l b=>xu l s b) l↔p∈l\/∃b∈bs,s≠b/\p=qU s b
 | [],l=>by simp
 |b::bs,l=>by
  rw[qP,vS,Qr];simp only[xK,exists_eq_or_imp];rw[or_assoc]
theorem Fj.note(h:JP f g a n){l m:List (Int×Int)}(hr:Fj f l m)(s t:Int):Fj f (xu l s t) (xu m (f s) (f t)):=by
 intro x y;rw[Qr,Qr,hr x y,ZW,ZW];have e:∀p q:Int,(f p=f q)=(p=q):=fun p q=>propext ⟨h.inj,fun e=>by rw[e]⟩
 simp only[e,ne_eq]
theorem Fj.fold(h:JP f g a n){l m:List (Int×Int)}(hr:Fj f l m)(s:Int){bs bs':List Int}(hb:Mg f bs bs'):
  Fj f (bs.foldl (fun l b=>xu l s b) l) (bs'.foldl (fun l b=>xu l (f s) b) m):=by
 intro x y;rw[vS,vS,hr x y];have e:∀p q:Int,(f p=f q)=(p=q):=fun p q=>propext ⟨h.inj,fun e=>by rw[e]⟩
 refine or_congr_right ?_;constructor
 ·rintro⟨b,hb1,hne,hp⟩
  obtain⟨c,rfl⟩:∃c,b=f c:=⟨g b,(h.fg b).symm⟩
  rw[ZW]at hp;simp only[e]at hp;exact⟨c,(hb c).1 hb1,fun e2=>hne (by rw[e2]),ZW.2 hp⟩
 ·rintro⟨b,hb1,hne,hp⟩
  rw[ZW]at hp;refine⟨f b,(hb b).2 hb1,fun e2=>hne (h.inj e2),ZW.2 ?_⟩;simp only[e];exact hp
end
attribute [local go_sem] Oper.semAt_some
attribute [local irreducible] wpStill
def BC(w:World)(g:Nat)(l:List zm):Prop:=∃cur,w.heap[g]?=some (.cells cur 85 (0,0))/\∀i (h:i<l.length),cur[i*4]?=some (.int .i64 l[i].op)/\cur[i*4+1]?=some (.int .i64 l[i].a)/\cur[i*4+2]?=some (.int .i64 l[i].b)/\cur[i*4+3]?=some (.int .i64 l[i].c)
theorem BC.of_own{w:World}{base:Nat}{v:Value}{l:List zm}(h:y9 Yo 85 w base v l)(hne:l≠ []):∃g cap,v= .slice (some ⟨g,0,none⟩) l.length cap/\base<=g/\BC w g l/\l.length<=cap:=by
 rcases h.2 with ⟨_,h0⟩|⟨g,cap,cur,rfl,hg,hh,h1,h2,h3,h4⟩
 ·exact absurd (List.length_eq_zero_iff.1 h0) hne
 ·refine⟨g,cap,rfl,hg,⟨cur,hh,fun i hi=> ?_⟩,h1⟩
  have key:∀j,j<4->cur[i*4+j]?=(Yo.c l[i])[j]?:=fun j hj=>by
   have e:(cur.toList.take (l.length*Yo.k))[i*Yo.k+j]?=(l.flatMap Yo.c)[i*Yo.k+j]?:=by rw[h4]
   rw[List.getElem?_take,zj (show i*Yo.k+j<l.length*Yo.k from by show i*4+j<l.length*4;omega),Yo.at l i hi j hj]at e;have e':=e;simp only[Array.getElem?_toList]at e';exact e'
  exact⟨(key 0 (by omega)).trans rfl,(key 1 (by omega)).trans rfl,(key 2 (by omega)).trans rfl,(key 3 (by omega)).trans rfl⟩
theorem BC.lt{w:World}{g:Nat}{l:List zm}(h:BC w g l):g<w.heap.size:=by
 obtain⟨cur,hh,_⟩:=h;exact ze hh
theorem BC.rd{w:World}{g:Nat}{l:List zm}(h:BC w g l):Qz w (some ⟨g,0,none⟩) l:=by
 intro i hi;have hlt:=h.lt;obtain⟨cur,hh,hc⟩:=h;obtain⟨h0,h1,h2,h3⟩:=hc i hi;refine⟨g,0,rfl,hlt,?_,?_,?_,?_⟩
 ·rw[zA _ _ _ _ _ _ hh,jU];exact h0
 ·rw[zA _ _ _ _ _ _ hh,jU];exact h1
 ·rw[zA _ _ _ _ _ _ hh,jU];exact h2
 ·rw[zA _ _ _ _ _ _ hh,jU];exact h3
theorem BC.frozen{w:World}{g:Nat}{l:List zm}(h:BC w g l)(o:Nat):w.frozen? ⟨g,o,none⟩=false:=by
 obtain⟨cur,hh,_⟩:=h;simp[World.frozen?,hh]
theorem BC.keep{w w':World}{g:Nat}{l:List zm}(h:BC w g l)(e:w'.heap[g]?=w.heap[g]?):BC w' g l:=by
 obtain⟨cur,hh,hc⟩:=h;exact⟨cur,by rw[e];exact hh,hc⟩
theorem BC.below{w w':World}{g:Nat}{l:List zm}(h:BC w g l)(hb:Below w.heap.size w w'):BC w' g l:=h.keep (hb.block g h.lt)
theorem BC.setA{w:World}{g:Nat}{l:List zm}(h:BC w g l){i:Nat}(hi:i<l.length)(v:Int):BC (w.setCell ⟨g,i*4+1,none⟩ (.int .i64 v)) g (l.set i ⟨l[i].op,v,l[i].b,l[i].c⟩):=by
 obtain⟨cur,hh,hc⟩:=h;have hsz:i*4+1<cur.size:=(qM.1 (hc i hi).2.1).1;refine⟨_,yk _ _ _ _ _ _ hh,fun k hk=> ?_⟩;have hk':k<l.length:=by simpa using hk
 obtain⟨h0,h1,h2,h3⟩:=hc k hk';simp only[Array.getElem?_setIfInBounds,List.getElem_set];clear hc;by_cases e:i=k
 ·subst e
  refine⟨?_,?_,?_,?_⟩
  ·rw[zi (by omega),zj rfl];exact h0
  ·rw[zj rfl,zj hsz,zj rfl]
  ·rw[zi (by omega),zj rfl];exact h2
  ·rw[zi (by omega),zj rfl];exact h3
 ·refine⟨?_,?_,?_,?_⟩
  ·rw[zi (by omega),zi e];exact h0
  ·rw[zi (by omega),zi e];exact h1
  ·rw[zi (by omega),zi e];exact h2
  ·rw[zi (by omega),zi e];exact h3
theorem BC.setB{w:World}{g:Nat}{l:List zm}(h:BC w g l){i:Nat}(hi:i<l.length)(v:Int):BC (w.setCell ⟨g,i*4+2,none⟩ (.int .i64 v)) g (l.set i ⟨l[i].op,l[i].a,v,l[i].c⟩):=by
 obtain⟨cur,hh,hc⟩:=h;have hsz:i*4+2<cur.size:=(qM.1 (hc i hi).2.2.1).1;refine⟨_,yk _ _ _ _ _ _ hh,fun k hk=> ?_⟩;have hk':k<l.length:=by simpa using hk
 obtain⟨h0,h1,h2,h3⟩:=hc k hk';simp only[Array.getElem?_setIfInBounds,List.getElem_set];clear hc;by_cases e:i=k
 ·subst e
  refine⟨?_,?_,?_,?_⟩
  ·rw[zi (by omega),zj rfl];exact h0
  ·rw[zi (by omega),zj rfl];exact h1
  ·rw[zj rfl,zj hsz,zj rfl]
  ·rw[zi (by omega),zj rfl];exact h3
 ·refine⟨?_,?_,?_,?_⟩
  ·rw[zi (by omega),zi e];exact h0
  ·rw[zi (by omega),zi e];exact h1
  ·rw[zi (by omega),zi e];exact h2
  ·rw[zi (by omega),zi e];exact h3
theorem BC.setC{w:World}{g:Nat}{l:List zm}(h:BC w g l){i:Nat}(hi:i<l.length)(v:Int):BC (w.setCell ⟨g,i*4+3,none⟩ (.int .i64 v)) g (l.set i ⟨l[i].op,l[i].a,l[i].b,v⟩):=by
 obtain⟨cur,hh,hc⟩:=h;have hsz:i*4+3<cur.size:=(qM.1 (hc i hi).2.2.2).1;refine⟨_,yk _ _ _ _ _ _ hh,fun k hk=> ?_⟩;have hk':k<l.length:=by simpa using hk
 obtain⟨h0,h1,h2,h3⟩:=hc k hk';simp only[Array.getElem?_setIfInBounds,List.getElem_set];clear hc;by_cases e:i=k
 ·subst e
  refine⟨?_,?_,?_,?_⟩
  ·rw[zi (by omega),zj rfl];exact h0
  ·rw[zi (by omega),zj rfl];exact h1
  ·rw[zi (by omega),zj rfl];exact h2
  ·rw[zj rfl,zj hsz,zj rfl]
 ·refine⟨?_,?_,?_,?_⟩
  ·rw[zi (by omega),zi e];exact h0
  ·rw[zi (by omega),zi e];exact h1
  ·rw[zi (by omega),zi e];exact h2
  ·rw[zi (by omega),zi e];exact h3
end Go.Proofs.YtgalekifgnecjaaGreat
