/- The reference's Live, plainly: it is core's -/
import Derived.Test.YtgalekifgnecjaaGreatW1
namespace Go.Proofs.YtgalekifgnecjaaGreat
open Go.RowKit
open Go.RowKit Go.Shelf
def qN(L:List (List Int))(w:Int)(l:List Int)(b:Int):List Int:=yG l ((L.getD b.toNat []).filter fun m=>m !=w)
def Js(u:zg)(L:List (List Int))(t:Nat):List Int:=if (yZ (u.code.getD t zw)&&decide (0<=zD u t))=true then L.getD (u.guards.getD (zD u t).toNat jF).at'.toNat []else []
def ja(u:zg)(L:List (List Int))(t:Nat):List Int:=
 yG ((yU u t).foldl (qN L (zc (u.code.getD t zw))) (yG (L.getD t []) (zp (u.code.getD t zw)))) (Js u L t)
def RR(u:zg):Nat->List (List Int)×Bool->List (List Int)×Bool
 |0,s=>s
 |t+1,s=>RR u t (if (ja u s.1 t).length≠(s.1.getD t []).length then(s.1.set t (ja u s.1 t),true)else s)
theorem JO:∀(m l:List Int),∃e,yG l m=l++e
 | [],l=>⟨[],by simp[yG]⟩
 |y::m,l=>by
  have h:yG l (y::m)=yG (if l.contains y=true then l else l++ [y]) m:=rfl;rw[h];obtain⟨e,he⟩:=JO m (if l.contains y=true then l else l++ [y]);rw[he];split
  ·exact⟨e,rfl⟩
  ·exact⟨y::e,by simp⟩
theorem GO(L:List (List Int))(w:Int):∀(bs l:List Int),∃e,bs.foldl (qN L w) l=l++e
 | [],l=>⟨[],by simp⟩
 |b::bs,l=>by
  rw[qP];obtain⟨e1,h1⟩:=JO ((L.getD b.toNat []).filter fun m=>m !=w) l;obtain⟨e2,h2⟩:=GO L w bs (qN L w l b);rw[h2];unfold qN;rw[h1];exact⟨e1++e2,by simp⟩
theorem Ug(u:zg)(L:List (List Int))(t:Nat):∃e,ja u L t=L.getD t []++e:=by
 unfold ja;obtain⟨e1,h1⟩:=JO (zp (u.code.getD t zw)) (L.getD t []);obtain⟨e2,h2⟩:=GO L (zc (u.code.getD t zw)) (yU u t) (yG (L.getD t []) (zp (u.code.getD t zw)));obtain⟨e3,h3⟩:=JO (Js u L t) ((yU u t).foldl (qN L (zc (u.code.getD t zw))) (yG (L.getD t []) (zp (u.code.getD t zw))));rw[h3,h2,h1];exact⟨e1++e2++e3,by simp⟩
theorem GK(L:List (List Int))(w x:Int):∀(bs l:List Int),x∈bs.foldl (qN L w) l↔x∈l\/∃b∈bs,x∈L.getD b.toNat []/\x≠w
 | [],l=>by simp
 |b::bs,l=>by
  rw[qP,GK L w x bs];unfold qN;rw[qs,jn];simp only[xK,exists_eq_or_imp,bne_iff_ne,ne_eq];rw[or_assoc]
theorem Jt(L:List (List Int))(w:Int):∀(bs l:List Int),l.Nodup->(bs.foldl (qN L w) l).Nodup
 | [],_,h=>h
 |b::bs,l,h=>by
  rw[qP];exact Jt L w bs _ (Ys _ h)
theorem Dk{u:zg}{L:List (List Int)}{t:Nat}{x:Int}:x∈ja u L t↔x∈L.getD t []\/x∈zp (u.code.getD t zw)\/(∃b∈yU u t,x∈L.getD b.toNat []/\x≠zc (u.code.getD t zw))\/x∈Js u L t:=by
 unfold ja;rw[qs,GK,qs];simp only[or_assoc]
theorem OQ{u:zg}{L:List (List Int)}{t:Nat}(h:(L.getD t []).Nodup):(ja u L t).Nodup:=Ys _ (Jt _ _ _ _ (Ys _ h))
theorem De{op:Int}(h:1<=op/\op<=34):op=1\/op=2\/op=3\/op=4\/op=5\/op=6\/op=7\/op=8\/op=9\/op=10\/op=11\/op=12\/op=13\/op=14\/op=15\/op=16\/op=17\/op=18\/op=19\/op=20\/op=21\/op=22\/op=23\/op=24\/op=25\/op=26\/op=27\/op=28\/op=29\/op=30\/op=31\/op=32\/op=33\/op=34:=by omega
theorem Us{x:zm}(h:jA x.op=true):(zM x.op).en=qq x/\(zM x.op).rs=yZ x/\qR x=(zQ x).toList:=by
 obtain⟨op,a,b,c⟩:=x;have h2:1<=op/\op<=34:=by unfold jA at h;simpa using h
 clear h;rcases De h2 with rfl|rfl|rfl|rfl|rfl|rfl|rfl|rfl|rfl|rfl|rfl|rfl|rfl|rfl|rfl|rfl|rfl|rfl|rfl|rfl|rfl|rfl|rfl|rfl|rfl|rfl|rfl|rfl|rfl|rfl|rfl|rfl|rfl|rfl<;>exact⟨rfl,rfl,rfl⟩
theorem F7{u:zg}(hp:zJ u=true){t:Nat}(ht:t<u.code.length):jA (u.code.getD t zw).op=true:=by
 unfold zJ at hp;simp only[yi,yL]at hp;have:=hp.1.2 _ (yy ht);unfold xf at this;simp only[yi]at this;rw[zk ht];exact this.1
theorem OV{u:zg}(hp:zJ u=true){t:Nat}(ht:t<u.code.length)(L:List (List Int))(x:Int):
  (∃e∈xp u t,x∈L.getD e.1.toNat []/\(e.2==2||x !=zc (u.code.getD t zw))=true)↔(∃b∈yU u t,x∈L.getD b.toNat []/\x≠zc (u.code.getD t zw))\/x∈Js u L t:=by
 obtain⟨f1,f2,f3⟩:=Us (F7 hp ht)
 have e:∀(Q:Int×Int->Prop),(∃e∈xp u t,Q e)↔(∃b∈yU u t,Q (b,0)\/Q (b,1))/\False\/(∃e∈xp u t,Q e):=by
  intro Q;simp
 clear e
 have hl:xp u t=(XF u t).map (fun p=>(p,0))++((zQ (u.code.getD t zw)).toList).map (fun p=>(p,1)) ++
   (if (yZ (u.code.getD t zw)&&decide (0<=zD u t))=true then [((u.guards.getD (zD u t).toNat jF).at',2)]else []):=by
  unfold xp XF;rw[f1,f2,f3];split
  ·rfl
  ·rfl
 rw[hl];simp only[qr,or_and_right,exists_or,xI]
 have hg:(∃e,e∈(if (yZ (u.code.getD t zw)&&decide (0<=zD u t))=true then [((u.guards.getD (zD u t).toNat jF).at',(2:Int))]else [])/\x∈L.getD e.1.toNat []/\(e.2==2||x !=zc (u.code.getD t zw))=true)↔x∈Js u L t:=by
  unfold Js;split
  ·simp
  ·simp
 rw[hg];refine or_congr_left ?_;rw[Zn];simp only[qs,or_and_right,exists_or];refine or_congr ?_ ?_
 ·constructor
  ·rintro⟨e,⟨p,h1,rfl⟩,h2,h3⟩
   exact⟨p,h1,h2,by simpa using h3⟩
  ·rintro⟨p,h1,h2,h3⟩
   exact⟨(p,0),⟨p,h1,rfl⟩,h2,by simpa using h3⟩
 ·constructor
  ·rintro⟨e,⟨p,h1,rfl⟩,h2,h3⟩
   exact⟨p,h1,h2,by simpa using h3⟩
  ·rintro⟨p,h1,h2,h3⟩
   exact⟨(p,1),⟨p,h1,rfl⟩,h2,by simpa using h3⟩
theorem OO{u:zg}(hp:zJ u=true){t:Nat}(ht:t<u.code.length){L:List (List Int)}{x:Int}:x∈ja u L t↔x∈L.getD t []\/x∈jl u L t:=by
 rw[Dk,Jr,OV hp ht];constructor
 ·rintro(h|h|h|h)
  ·exact .inl h
  ·exact .inr (.inr h)
  ·exact .inr (.inl (.inl h))
  ·exact .inr (.inl (.inr h))
 ·rintro(h|(h|h)|h)
  ·exact .inl h
  ·exact .inr (.inr (.inl h))
  ·exact .inr (.inr (.inr h))
  ·exact .inr (.inl h)
theorem Ju{u:zg}:∀(t:Nat) (s:List (List Int)),t<=u.code.length->jL u s->(yQ u t (s,false)).2=false->(yQ u t (s,false)).1=s/\∀k,k<t->(jl u s k).length=(s.getD k []).length
 |0,s,_,_,_=>⟨rfl,fun k h=>absurd h (y_ k)⟩
 |t+1,s,ht,hg,h=>by
  unfold yQ at h ⊢;dsimp only at h ⊢;by_cases hc:(jl u s t).length≠(s.getD t []).length
  ·rw[zj hc]at h
   have:=(jN (t:=t) (s:=(s.set t (jl u s t),true)) (hg.step (by omega)) (by omega)).2.2.1 rfl;rw[this]at h;cases h
  ·rw[zi hc]at h ⊢
   obtain⟨h1,h2⟩:=Ju t s (by omega) hg h;refine⟨h1,fun k hk=> ?_⟩;by_cases e:k=t
   ·subst e;omega
   ·exact h2 k (by omega)
theorem Ea{l m:List Int}(hl:l.Nodup)(hs:∀x∈l,x∈m)(_hm:m.Nodup)(hn:m.length<=l.length):∀x∈m,x∈l:=by
 intro x hx;by_cases h:x∈l
 ·exact h
 ·have h2:=yz (l:=x::l) (m:=m) (List.nodup_cons.2 ⟨h,hl⟩) (fun y hy=>by
   rcases xK.1 hy with rfl|hy
   ·exact hx
   ·exact hs y hy)
  rw[xv]at h2;omega
theorem QJ{u:zg}:∀(f:Nat) (s:List (List Int)),jL u s->2*u.code.length*u.code.length+1<=f+xT s->∀k,k<u.code.length->∀x,x∈jl u (ZH u f s) k->x∈(ZH u f s).getD k []
 |0,s,hg,hf=>by have:=hg.total;omega
 |f+1,s,hg,hf=>by
  obtain⟨h1,h2,h3,h4⟩:=jN (s:=(s,false)) hg (zI _);unfold ZH;split
  ·rename_i hc
   have:=h4 rfl hc;dsimp only at this;exact QJ f _ h1 (by omega)
  ·rename_i hc
   obtain⟨e1,e2⟩:=Ju u.code.length s (zI _) hg (by simpa using hc);rw[e1];intro k hk x hx;exact Ea (xP (hg.so k)) (hg.inc k hk) (xP (Vo u s k)) (by rw[e2 k hk];exact zI _) x hx
theorem OR(u:zg):∀k,k<u.code.length->∀x,x∈jl u (zf u) k->x∈(zf u).getD k []:=
 QJ _ _ (jL.first u) (by omega)
theorem K_{u:zg}{s m:List (List Int)}(h:∀t x,x∈s.getD t []->x∈m.getD t [])(t:Nat){x:Int}(hx:x∈jl u s t):x∈jl u m t:=by
 rw[Jr]at hx ⊢;rcases hx with ⟨e,h1,h2,h3⟩|hx
 ·exact .inl ⟨e,h1,h _ _ h2,h3⟩
 ·exact .inr hx
theorem YN{u:zg}{m:List (List Int)}(hm:∀k,k<u.code.length->∀x,x∈jl u m k->x∈m.getD k []):∀(t:Nat) (s:List (List Int)×Bool),t<=u.code.length->s.1.length=u.code.length->(∀t x,x∈s.1.getD t []->x∈m.getD t []) ->
  (yQ u t s).1.length=u.code.length/\∀k x,x∈(yQ u t s).1.getD k []->x∈m.getD k []
 |0,s,_,hl,h=>⟨hl,h⟩
 |t+1,s,ht,hl,h=>by
  unfold yQ;split
  ·refine YN hm t _ (by omega) (by simpa using hl) fun k x hx=> ?_
   dsimp only at hx;rw[vW _ _ _ _ (by omega)]at hx;split at hx
   ·rename_i e;subst e
    exact hm k (by omega) x (K_ h k hx)
   ·exact h k x hx
  ·exact YN hm t s (by omega) hl h
theorem Jv{u:zg}{m:List (List Int)}(hm:∀k,k<u.code.length->∀x,x∈jl u m k->x∈m.getD k []):∀(f:Nat) (s:List (List Int)),s.length=u.code.length->(∀t x,x∈s.getD t []->x∈m.getD t [])->∀k x,x∈(ZH u f s).getD k []->x∈m.getD k []
 |0,s,_,h=>h
 |f+1,s,hl,h=>by
  obtain⟨h1,h2⟩:=YN hm u.code.length (s,false) (zI _) hl h;unfold ZH;split
  ·exact Jv hm f _ h1 h2
  ·exact h2
theorem Eh{u:zg}{m:List (List Int)}(hm:∀k,k<u.code.length->∀x,x∈jl u m k->x∈m.getD k []):∀k x,x∈(zf u).getD k []->x∈m.getD k []:=
 Jv hm _ _ (by simp) (fun t x hx=>by
  rw[jI]at hx;by_cases ht:t<u.code.length
  ·simp[ht]at hx
  ·simp[ht]at hx)
structure Oi(u:zg)(s:List (List Int)):Prop where
 len:s.length=u.code.length
 nd:∀t,(s.getD t []).Nodup
 sub:∀t x,x∈s.getD t []->x∈(zf u).getD t []
theorem Oi.first(u:zg):Oi u (List.replicate u.code.length []):=by
 have e:∀t,(List.replicate u.code.length ([]:List Int)).getD t []= []:=fun t=>by
  rw[jI,List.getElem?_replicate];split<;>rfl
 exact⟨by simp,fun t=>by rw[e];exact List.nodup_nil,fun t x h=>by rw[e]at h;cases h⟩
theorem Oi.step{u:zg}{s:List (List Int)}(hp:zJ u=true)(h:Oi u s){t:Nat}(ht:t<u.code.length):Oi u (s.set t (ja u s t)):=by
 have hl:=h.len;refine⟨by simpa using hl,fun k=> ?_,fun k x hx=> ?_⟩
 ·rw[vW _ _ _ _ (by omega)]
  split
  ·exact OQ (h.nd t)
  ·exact h.nd k
 ·rw[vW _ _ _ _ (by omega)]at hx
  split at hx
  ·rename_i e;subst e
   rcases(OO hp ht).1 hx with hx|hx
   ·exact h.sub k x hx
   ·exact OR u k ht x (K_ h.sub k hx)
  ·exact h.sub k x hx
theorem Oi.total{u:zg}{s:List (List Int)}(h:Oi u s):xT s<=xT (zf u):=by
 have hg:=(yq u).len;have hl:=h.len
 have e:∀(a b:List (List Int)),a.length=b.length->(∀t,(a.getD t []).length<=(b.getD t []).length)->xT a<=xT b:=by
  intro a
  induction a with
  |nil=>intro b _ _;exact zE _
  |cons x a ih=>
   intro b hb hle
   cases b with
   |nil=>cases hb
   |cons y b=>
    have h0:=hle 0;have h1:=ih b (by simpa using hb) (fun t=>hle (t+1));rw[Zt,Zt];simp only[List.getD_cons_zero]at h0;omega
 exact e s (zf u) (by omega) (fun t=>yz (h.nd t) (h.sub t))
theorem Ee{u:zg}{s:List (List Int)}{t:Nat}(ht:t<s.length)(hne:(ja u s t).length≠(s.getD t []).length):xT s+1<=xT (s.set t (ja u s t)):=by
 have h1:=QP s t (ja u s t) ht;obtain⟨e,he⟩:=Ug u s t;have h2:(ja u s t).length=(s.getD t []).length+e.length:=by rw[he,yV]
 omega
theorem Oi.done{u:zg}{s:List (List Int)}(hp:zJ u=true)(h:Oi u s)(hn:∀t,t<u.code.length->(ja u s t).length=(s.getD t []).length)(t:Nat)(x:Int):x∈s.getD t []↔x∈(zf u).getD t []:=by
 refine⟨h.sub t x,fun hx=>Eh (m:=s) (fun k hk y hy=> ?_) t x hx⟩;obtain⟨e,he⟩:=Ug u s k;have h2:(ja u s k).length=(s.getD k []).length+e.length:=by rw[he,yV]
 have h3:=hn k hk;have h4:e= []:=List.length_eq_zero_iff.1 (by omega);rw[h4,qO]at he;rw[<-he];exact(OO hp hk).2 (.inr hy)
def V9(code:List zm)(i:Nat):Int:=(i:Int)-1-(code.getD (i-1) zw).a
def Ib(code:List zm)(i f:Nat):Bool:=(List.range (i-f)).all fun j=>jQ (code.getD (f+j) zw)&&(code.getD (f+j) zw).a==(j:Int)
def Ey(code:List zm)(i:Nat):Bool:=
 ZN (code.getD i zw)&&decide (0<i)&&jQ (code.getD (i-1) zw)&&decide (0<=V9 code i)&&decide (V9 code i<i)&&Ib code i (V9 code i).toNat
def X7(code:List zm)(out:List Int)(i:Nat):List Int:=if Ey code i=true then xQ out (V9 code i).toNat ((V9 code i).toNat:Nat) (i+1-(V9 code i).toNat)else out
def Am(code:List zm):Nat->List Int
 |0=>List.replicate code.length 0
 |k+1=>qi code (Am code k) k
def JD(code:List zm):Nat->List Int
 |0=>Am code code.length
 |k+1=>X7 code (JD code k) k
theorem jg(l:List Int)(a:Nat)(v:Int):∀(n j:Nat),a+n<=l.length->(xQ l a v n).getD j 0=if a<=j/\j<a+n then v else l.getD j 0
 |0,j,_=>by rw[zi (by omega)];rfl
 |n+1,j,h=>by
  unfold xQ;rw[jO _ _ _ _ (by rw[xZ];omega),jg l a v n j (by omega)];by_cases e:j=a+n
  ·rw[zj e,zj (by omega)]
  ·rw[zi e]
   by_cases e2:a<=j/\j<a+n
   ·rw[zj e2,zj (by omega)]
   ·rw[zi e2,zi (by omega)]
theorem QW(code:List zm)(i:Nat):∀n,0<Zy code i n->jv ((code.drop (i-Zy code i n)).take (Zy code i n))=true
 |0,h=>absurd h (Nat.lt_irrefl 0)
 |n+1,h=>by
  unfold Zy at h ⊢;split at h
  ·rename_i hc;rw[zj hc];exact hc
  ·rename_i hc;rw[zi hc];exact QW code i n h
theorem Ur(code:List zm)(i:Nat):∀n m,0<m->m<=n->jv ((code.drop (i-m)).take m)=true->m<=Zy code i n
 |0,m,h0,h,_=>by omega
 |n+1,m,h0,h,hr=>by
  unfold Zy;split
  ·exact h
  ·rename_i hc
   refine Ur code i n m h0 ?_ hr;rcases(show m<=n\/m=n+1 by omega)with e|e
   ·exact e
   ·subst e;exact absurd hr hc
theorem JZ{code:List zm}{i m:Nat}(hi:i<=code.length)(hm:m<=i):jv ((code.drop (i-m)).take m)=true↔∀j,j<m->(code.getD (i-m+j) zw).a=(j:Int):=by
 have hl:((code.drop (i-m)).take m).length=m:=by rw[xm,jH];omega
 have hg:∀j,j<m->((code.drop (i-m)).take m).getD j zw=code.getD (i-m+j) zw:=fun j hj=>by
  simp only[jI,List.getElem?_take,List.getElem?_drop,zj hj]
 unfold jv;rw[hl,yL];constructor
 ·intro h j hj
  have:=h j (yR.2 hj);rw[hg j hj]at this;simpa using this
 ·intro h j hj
  have hj:=yR.1 hj;rw[hg j hj,h j hj];simp
theorem Gq{code:List zm}{i:Nat}(hi:i<=code.length){j:Nat}(h1:i-QA code i<=j)(h2:j<i):jQ (code.getD j zw)=true:=by
 have hle:=Ql hi;have h:=(Gr (r:=i-j-1) hi (by omega) (by omega)).2 (by omega);rw[zk (by omega)];have e:i-(i-j-1)-1=j:=by omega
 simp only[e]at h;exact h
theorem FK{code:List zm}{i:Nat}(hi:i<=code.length):∀m,m<=i->(∀j,i-m<=j->j<i->jQ (code.getD j zw)=true)->m<=QA code i
 |0,_,_=>zE _
 |m+1,hm,h=>by
  have ih:=FK hi m (by omega) (fun j h1 h2=>h j (by omega) h2);have h3:=h (i-m-1) (by omega) (by omega);rw[zk (by omega)]at h3;have:=(Gr hi ih (by omega)).1 h3;omega
theorem PP{code:List zm}{i:Nat}(hi:i<=code.length):(Ey code i=true↔ZN (code.getD i zw)=true/\0<xW code i)/\(Ey code i=true->(V9 code i).toNat=i-xW code i/\xW code i<=i):=by
 have hle:=Ql hi;have hgl:xW code i<=QA code i:=Yl code i _
 have hkey:Ey code i=true->ZN (code.getD i zw)=true/\0<xW code i/\(V9 code i).toNat=i-xW code i:=by
  intro h;unfold Ey at h;simp only[yi,yB]at h;obtain⟨⟨⟨⟨⟨h1,h2⟩,h3⟩,h4⟩,h5⟩,h6⟩:=h;unfold Ib at h6;rw[yL]at h6;obtain⟨f,hf⟩:∃f:Nat,V9 code i=(f:Int):=⟨(V9 code i).toNat,by omega⟩
  rw[hf]at h6 h5 ⊢;simp only[qQ]at h6 ⊢;have hfi:f<i:=by omega
  have h7:∀j,j<i-f->jQ (code.getD (f+j) zw)=true/\(code.getD (f+j) zw).a=(j:Int):=fun j hj=>by
   have:=h6 j (yR.2 hj);simpa using this
  have hrun:i-f<=QA code i:=FK hi _ (by omega) (fun j g1 g2=>by
   have:=(h7 (j-f) (by omega)).1
   rwa [show f+(j-f)=j by omega]at this)
  have hris:jv ((code.drop (i-(i-f))).take (i-f))=true:=(JZ hi (by omega)).2 (fun j hj=>by
   have:=(h7 j hj).2
   rwa [show i-(i-f)+j=f+j by omega])
  have hmax:i-f<=xW code i:=Ur code i _ _ (by omega) hrun hris;have hr2:=(JZ (m:=xW code i) hi (by omega)).1 (QW code i (QA code i) (show 0<xW code i by omega)) (xW code i-1) (by omega);have hr3:=(h7 (i-f-1) (by omega)).2;rw[show i-xW code i+(xW code i-1)=i-1 by omega]at hr2;rw[show f+(i-f-1)=i-1 by omega]at hr3;exact⟨h1,by omega,by omega⟩
 refine⟨⟨fun h=>⟨(hkey h).1,(hkey h).2.1⟩,fun⟨h1,h2⟩=> ?_⟩,fun h=>⟨(hkey h).2.2,by omega⟩⟩;obtain⟨m,hm⟩:∃m,xW code i=m:=⟨_,rfl⟩
 have hris:=QW code i (QA code i) h2;rw[show Zy code i (QA code i)=m from hm]at hris;have hat:=(JZ (m:=m) hi (by omega)).1 hris;have ha:=hat (m-1) (by omega);rw[show i-m+(m-1)=i-1 by omega]at ha;have hf:V9 code i=((i-m:Nat):Int):=by unfold V9;rw[ha];omega
 unfold Ey;rw[hf];simp only[yi,yB,qQ];refine⟨⟨⟨⟨⟨h1,by omega⟩,Gq hi (by omega) (by omega)⟩,by omega⟩,by omega⟩,?_⟩;unfold Ib;rw[yL];intro j hj;have hj:=yR.1 hj;rw[Gq hi (by omega) (by omega),hat j (by omega)];simp
theorem Xk(code:List zm):∀k,(Am code k).length=code.length
 |0=>by simp[Am]
 |k+1=>by unfold Am;rw[qL,Xk code k]
theorem LK(code:List zm):∀(k j:Nat),k<=code.length->(Am code k).getD j 0=if j<k then(if jQ (code.getD j zw)=true then -1 else(j:Int))else 0
 |0,j,_=>by
  rw[zi (by omega)];unfold Am;rw[jI,List.getElem?_replicate]
  split<;>rfl
 |k+1,j,h=>by
  unfold Am qi;rw[jO _ _ _ _ (by rw[Xk];omega),LK code k j (by omega)];by_cases e:j=k
  ·subst e;rw[zj rfl,zj (show j<j+1 by omega)]
  ·rw[zi e]
   by_cases e2:j<k
   ·rw[zj e2,zj (show j<k+1 by omega)]
   ·rw[zi e2,zi (show ¬j<k+1 by omega)]
theorem KE(code:List zm)(l:List Int)(i:Nat):(X7 code l i).length=l.length:=by
 unfold X7;split
 ·rw[xZ]
 ·rfl
theorem Zx(code:List zm):∀k,(JD code k).length=code.length
 |0=>Xk code _
 |k+1=>by unfold JD;rw[KE,Zx code k]
theorem NI(code:List zm):∀(k j:Nat),k<=code.length->j<code.length->(JD code k).getD j 0=if j<k then(qh code k).getD j 0 else(if jQ (code.getD j zw)=true then -1 else(j:Int))
 |0,j,_,hj=>by
  rw[zi (by omega)];unfold JD
  rw[LK _ _ _ (zI _),zj hj]
 |k+1,j,h,hj=>by
  obtain⟨hiff,hF⟩:=PP (code:=code) (i:=k) (by omega);have hfl:=z_ code k;have ih:=NI code k j (by omega) hj
  have e1:(qi code (qh code k) k).getD j 0=if j=k then(if jQ (code.getD k zw)=true then -1 else(k:Int))else(qh code k).getD j 0:=by
   unfold qi;rw[jO _ _ _ _ (by omega)]
  have hbase:(JD code k).getD j 0=if j<k+1 then(qi code (qh code k) k).getD j 0 else(if jQ (code.getD j zw)=true then -1 else(j:Int)):=by
   rw[ih,e1];by_cases e:j=k
   ·subst e;simp
   ·by_cases e2:j<k
    ·rw[zj e2,zj (show j<k+1 by omega),zi e]
    ·rw[zi e2,zi (show ¬j<k+1 by omega)]
  unfold JD X7;rw[show qh code (k+1)=vX code (qh code k) k from rfl];unfold vX;by_cases hb:Ey code k=true
  ·obtain⟨f1,f2⟩:=hF hb
   have hg0:=(hiff.1 hb).2;rw[zj hb,zj (hiff.1 hb),f1,show k+1-(k-xW code k)=xW code k+1 by omega];rw[jg _ _ _ _ _ (by rw[Zx];omega),jg _ _ _ _ _ (by rw[qL];omega),hbase];by_cases e:k-xW code k<=j/\j<k-xW code k+(xW code k+1)
   ·rw[zj e,zj e,zj (by omega)]
   ·rw[zi e,zi e]
  ·rw[zi hb,zi (fun e=>hb (hiff.2 e)),hbase]
theorem DL(code:List zm):JD code code.length=zl code:=by
 refine List.ext_getElem (by rw[Zx];unfold zl;rw[z_]) fun j h1 h2=> ?_
 have hj:j<code.length:=by rwa [Zx]at h1
 have:=NI code code.length j (zI _) hj;rw[zj hj,zk h1]at this;rw[this];exact zk h2
theorem Ap(code:List zm):∀(k j:Nat),k<=code.length->j<code.length->(qh code k).getD j 0<=j
 |0,j,_,_=>by
  unfold qh;rw[jI,List.getElem?_replicate];split
  ·show(0:Int)<=j;omega
  ·show(0:Int)<=j;omega
 |k+1,j,h,hj=>by
  have ih:=Ap code k j (by omega) hj;have hl:=z_ code k
  have e1:(qi code (qh code k) k).getD j 0<=j:=by
   unfold qi;rw[jO _ _ _ _ (by omega)];split
   ·rename_i e;subst e
    split
    ·omega
    ·exact Int.le_refl _
   ·exact ih
  rw[show qh code (k+1)=vX code (qh code k) k from rfl];unfold vX;split
  ·have hg:xW code k<=k:=yP (Yl code k _) (Ql (by omega))
   rw[jg _ _ _ _ _ (by rw[qL];omega)];split
   ·omega
   ·exact e1
  ·exact e1
def ZI(u:zg)(p:Int)(i:Nat):Bool:=
 (match zQ (u.code.getD i zw)with|some q=>q==p|none=>false)||(yZ (u.code.getD i zw)&&decide (0<=zD u i)&&(u.guards.getD (zD u i).toNat jF).at'==p)
def VR(u:zg)(p:Int):Bool:=(List.range u.code.length).any (ZI u p)
def qT(u:zg)(g:List Int)(k:Nat):Bool:=
 !((u.code.getD k zw).op==33)&& !((u.code.getD k zw).op==34)&& !decide (g.getD k 0<0)&&(zp (u.code.getD k zw)).all (fun s=>yr s 0 (u.slots-1)) &&
 (zc (u.code.getD k zw)== -1||yr (zc (u.code.getD k zw)) 0 (u.slots-1))&& !(decide (g.getD k 0<(k:Int))&&VR u k)
def Gu(u:zg):Bool:=
 zJ u&&u.frame==0&&decide (1<=u.slots)&&yr u.args 0 u.slots&&(List.range u.code.length).all (qT u (zl u.code))&&qq (u.code.getD (u.code.length-1) zw)
theorem DK{u:zg}{k:Int}(h:0<=zD u k):(zD u k).toNat<u.guards.length:=by
 have:=Zr (yH k) u.guards;unfold zD at *;omega
theorem IX(u:zg):Gu u=zC u:=by
 rw[Bool.eq_iff_iff];have hfl:(zl u.code).length=u.code.length:=z_ _ _;unfold Gu zC;simp only[yi,yL,yR];constructor
 ·rintro⟨⟨⟨⟨⟨h1,h2⟩,h3⟩,h4⟩,h5⟩,h6⟩
  refine⟨⟨⟨⟨⟨h1,h2⟩,h3⟩,h4⟩,h6⟩,fun k hk=> ?_⟩;have hR:=h5 k hk
  have hno:∀p:Nat,p<u.code.length->VR u p=true->jt (zl u.code) p=false:=fun p hp hl=>by
   have h:=h5 p hp;unfold qT at h;simp only[yi,jb,XI,ZQ]at h;have hle:=Ap u.code u.code.length p (zI _) hp;have hle:(zl u.code).getD p 0<=p:=hle;unfold jt;rcases h.2 with h|h
   ·have:(zl u.code).getD (p:Int).toNat 0=(p:Int):=by rw[qQ];omega
    rw[this];simp
   ·rw[hl]at h;cases h
  unfold qT at hR;simp only[yi]at hR;obtain⟨⟨⟨⟨⟨r1,r2⟩,r3⟩,r4⟩,r5⟩,r6⟩:=hR;unfold qx;simp only[yi];refine⟨⟨⟨⟨⟨⟨r4,r5⟩,r3⟩,r1⟩,r2⟩,?_⟩,?_⟩
  ·cases hp:zQ (u.code.getD k zw)with
   |none=>rfl
   |some p=>
    have hin:=jz h1 hk (by rw[<-zk hk];exact hp)
    have h:=hno p.toNat (by omega) (by
     unfold VR;rw[v_];refine⟨k,yR.2 hk,?_⟩;unfold ZI;rw[hp,jV]
     exact .inl (by simp;omega))
    rw[show((p.toNat:Nat):Int)=p by omega]at h;simp[h]
  ·rw[jb]
   cases hc:(decide (0<=zD u k)&&yZ (u.code.getD k zw))with
   |false=>rfl
   |true=>
    rw[xk];simp only[yi,yB]at hc;have hgl:=DK hc.1;have hat:=Zv h1 hgl;rw[<-zk (d:=jF) hgl]at hat
    have h:=hno (u.guards.getD (zD u k).toNat jF).at'.toNat (by omega) (by
     unfold VR;rw[v_];refine⟨k,yR.2 hk,?_⟩;unfold ZI;rw[jV];refine .inr ?_;simp only[yi,yB,qE]
     exact⟨⟨hc.2,hc.1⟩,by omega⟩)
    rwa [show(((u.guards.getD (zD u k).toNat jF).at'.toNat:Nat):Int)=(u.guards.getD (zD u k).toNat jF).at' by omega]at h
 ·rintro⟨⟨⟨⟨⟨h1,h2⟩,h3⟩,h4⟩,h6⟩,h5⟩
  refine⟨⟨⟨⟨⟨h1,h2⟩,h3⟩,h4⟩,fun k hk=> ?_⟩,h6⟩;have hR:=h5 k hk;unfold qx at hR;simp only[yi]at hR;obtain⟨⟨⟨⟨⟨⟨r4,r5⟩,r3⟩,r1⟩,r2⟩,_⟩,_⟩:=hR;unfold qT;simp only[yi];refine⟨⟨⟨⟨⟨r1,r2⟩,r3⟩,r4⟩,r5⟩,?_⟩;rw[jb,XI,ZQ]
  cases hl:VR u k with
  |false=>exact .inr rfl
  |true=>
   refine .inl ?_;unfold VR at hl;rw[v_]at hl;obtain⟨i,hi,hl⟩:=hl;have hi:=yR.1 hi;have hW:=h5 i hi;unfold qx at hW;simp only[yi]at hW;unfold ZI at hl;rw[jV]at hl
   have hdone:jt (zl u.code) k=false->¬(zl u.code).getD k 0<(k:Int):=fun h=>by
    unfold jt at h;rw[qQ]at h;have:(zl u.code).getD k 0=(k:Int):=by simpa using h
    omega
   rcases hl with hl|hl
   ·have h:=hW.1.2
    cases hp:zQ (u.code.getD i zw)with
    |none=>rw[hp]at hl;cases hl
    |some p=>
     rw[hp]at hl h;have e:p=(k:Int):=by simpa using hl
     subst e;exact hdone (by simpa using h)
   ·have h:=hW.2
    simp only[yi,yB,qE]at hl;rw[hl.2,hl.1.1,zP hl.1.2]at h;exact hdone (by simpa using h)
def js(x:zm)(t:Nat):List Int:=
 if x.op=24 then [x.a]else if x.op=26\/x.op=27\/x.op=28 then []else if x.op=25\/x.op=32 then [(t:Int)+1,x.b]else [(t:Int)+1]
def jj(s l:List Int):List Int:=l.foldl (fun s n=>xB n s) s
def xV(u:zg)(live:List (List Int))(t:Nat):List Int:=(js (u.code.getD t zw) t).foldl (fun s p=>jj s (live.getD p.toNat [])) []
def jJ(u:zg)(live:List (List Int))(t:Nat):List Int:=
 if (yZ (u.code.getD t zw)&&decide (0<=zD u t))=true then jj (xV u live t) (live.getD (u.guards.getD (zD u t).toNat jF).at'.toNat [])else xV u live t
theorem GJ{s l:List Int}{x:Int}:x∈jj s l↔x∈s\/x∈l:=jB
theorem Vu(live:List (List Int))(x:Int):∀(ps s:List Int),x∈ps.foldl (fun s p=>jj s (live.getD p.toNat [])) s↔x∈s\/∃p∈ps,x∈live.getD p.toNat []
 | [],s=>by simp
 |p::ps,s=>by
  rw[qP,Vu live x ps,GJ];simp only[xK,exists_eq_or_imp,or_assoc]
theorem Qp{u:zg}(hw:zC u=true){t:Nat}(ht:t<u.code.length)(p:Int):p∈js (u.code.getD t zw) t↔p∈yU u t:=by
 have hl:qq (u.code.getD (u.code.length-1) zw)=true:=by
  unfold zC at hw;simp only[yi]at hw;exact hw.1.2
 have hend:qq (u.code.getD t zw)=false->t+1<u.code.length:=fun h=>by
  by_cases e:t+1<u.code.length
  ·exact e
  ·rw[show u.code.length-1=t by omega,h]at hl
   cases hl
 rw[Zn,qs];unfold XF;generalize u.code.getD t zw=x at *;obtain⟨op,a,b,c⟩:=x;unfold js zQ;unfold qq at hend ⊢;simp only at hend ⊢;by_cases h1:op=24
 ·subst h1;simp
 ·by_cases h2:op=26\/op=27\/op=28
  ·have h3:op≠25/\op≠32:=by omega
   rw[zi h1,zj h2];rcases h2 with rfl|rfl|rfl<;>simp
  ·have hno:(op==24||op==26||op==27||op==28)=false:=by
    simp only[Bool.or_eq_false_iff,yY,ne_eq];omega
   have hlt:=hend hno;rw[zi h1,zi h2,hno];by_cases h3:op=25\/op=32
   ·rw[zj h3]
    rcases h3 with rfl|rfl<;>simp[hlt]
   ·rw[zi h3]
    have e1:(op==24)=false:=by simpa using h1
    have e2:(op==25||op==32)=false:=by
     simp only[Bool.or_eq_false_iff,yY,ne_eq];omega
    simp[hlt,e1,e2]
theorem YI{u:zg}(hw:zC u=true){t:Nat}(ht:t<u.code.length)(live:List (List Int))(x:Int):x∈xV u live t↔x∈qV live (yU u t):=by
 unfold xV;rw[Vu,Zh];simp only[List.not_mem_nil,false_or];constructor
 ·rintro⟨p,h1,h2⟩
  exact⟨p,(Qp hw ht p).1 h1,h2⟩
 ·rintro⟨p,h1,h2⟩
  exact⟨p,(Qp hw ht p).2 h1,h2⟩
theorem Kn{u:zg}(hw:zC u=true){t:Nat}(ht:t<u.code.length)(live:List (List Int))(x:Int):x∈jJ u live t↔x∈qV live (Zc u t):=by
 unfold jJ Zc;rw[Zh];simp only[qs,or_and_right,exists_or];rw[<-Zh (L:=live) (ps:=yU u t),<-YI hw ht];have e:(decide (0<=zD u t)&&yZ (u.code.getD t zw))=(yZ (u.code.getD t zw)&&decide (0<=zD u t)):=Bool.and_comm _ _;rw[e];split
 ·rw[GJ];simp
 ·simp
def Si(u:zg)(live:List (List Int))(t:Nat):List Int:=if 0<=zc (u.code.getD t zw)then xB (zc (u.code.getD t zw)) (xV u live t)else xV u live t
def Kh(u:zg)(live:List (List Int))(l:List (Int×Int))(t:Nat):List (Int×Int):=
 if 0<=zc (u.code.getD t zw)then(xV u live t).foldl (fun l s=>xu l (zc (u.code.getD t zw)) s) l else l
def Yq(u:zg)(live:List (List Int)):Nat->List (Int×Int)
 |0=>qd (yT [] u.args.toNat) (live.getD 0 []) u.args.toNat
 |t+1=>Kh u live (Yq u live t) t
theorem Az{u:zg}(hw:zC u=true):∀t,t<=u.code.length->∀p,p∈Yq u (zf u) t↔p∈(List.range t).foldl (ZM u (zf u)) (qd (yT [] u.args.toNat) ((zf u).getD 0 []) u.args.toNat)
 |0,_,_=>Iff.rfl
 |t+1,ht,p=>by
  have ih:=Az hw t (by omega) p;rw[Ze,jc];show p∈Kh u (zf u) (Yq u (zf u) t) t↔p∈ZM u (zf u) _ t;unfold Kh ZM;split
  ·rw[vS,vS,ih]
   refine or_congr_right ⟨?_,?_⟩
   ·rintro⟨b,h1,h2⟩
    exact⟨b,(YI hw (by omega) _ b).1 h1,h2⟩
   ·rintro⟨b,h1,h2⟩
    exact⟨b,(YI hw (by omega) _ b).2 h1,h2⟩
  ·exact ih
theorem Nr{u:zg}(hw:zC u=true)(p:Int×Int):p∈Yq u (zf u) u.code.length↔p∈zZ u:=Az hw _ (zI _) p
theorem RZ{u:zg}(hw:zC u=true)(a b:Int):ZT (Yq u (zf u) u.code.length) a b=ZT (zZ u) a b:=by
 unfold ZT;rw[Bool.eq_iff_iff,xn,xn];exact Nr hw _
def RC(f:Int->Int->Bool)(n i:Nat):Nat->List (Int×Int)
 |0=> []
 |k+1=>RC f n i k++if i<k/\k<n/\f i k=true then [((i:Int),(k:Int))]else []
def Rs(f:Int->Int->Bool)(n:Nat):Nat->List (Int×Int)
 |0=> []
 |i+1=>Rs f n i++RC f n i n
def RK(cl:List (Int×Int))(s:Nat):Nat->List Int
 |0=> []
 |k+1=>RK cl s k++if ZT cl s k=true then [(Zj cl (yl cl k) k:Int)]else []
theorem Aq(code:List zm):∀(k j:Nat),k<=code.length->j<k->0<=(qh code k).getD j 0->∀m:Nat,(qh code k).getD j 0<=(m:Int)->m<=j->(qh code k).getD m 0=(qh code k).getD j 0
 |0,j,_,hj,_,_,_,_=>absurd hj (y_ j)
 |k+1,j,hk,hj,h0,m,h1,h2=>by
  have hl:=z_ code k
  have hone:∀i,(qi code (qh code k) k).getD i 0=if i=k then(if jQ (code.getD k zw)=true then -1 else(k:Int))else(qh code k).getD i 0:=fun i=>by
   unfold qi;rw[jO _ _ _ _ (by omega)]
  have base:0<=(qi code (qh code k) k).getD j 0->(qi code (qh code k) k).getD j 0<=(m:Int)->(qi code (qh code k) k).getD m 0=(qi code (qh code k) k).getD j 0:=fun g0 g1=>by
   rw[hone]at g0 g1 ⊢;rw[hone];by_cases e:j=k
   ·subst e
    rw[zj rfl]at g0 g1 ⊢;by_cases ha:jQ (code.getD j zw)=true
    ·rw[zj ha]at g0;omega
    ·rw[zi ha]at g1 ⊢
     have:m=j:=by omega
     subst this;rw[zj rfl]
   ·rw[zi e]at g0 g1 ⊢
    rw[zi (by omega)];exact Aq code k j (by omega) (by omega) g0 m g1 h2
  rw[show qh code (k+1)=vX code (qh code k) k from rfl]at h0 h1 ⊢;unfold vX at h0 h1 ⊢;split at h0
  ·rename_i hc
   rw[zj hc]at h1 ⊢;have hg:xW code k<=k:=yP (Yl code k _) (Ql (by omega));have hs:∀i,(xQ (qi code (qh code k) k) (k-xW code k) ((k-xW code k:Nat):Int) (xW code k+1)).getD i 0=if k-xW code k<=i/\i<k-xW code k+(xW code k+1)then((k-xW code k:Nat):Int)else(qi code (qh code k) k).getD i 0:=fun i=>jg _ _ _ _ _ (by rw[qL];omega)
   rw[hs]at h0 h1 ⊢;rw[hs];by_cases e:k-xW code k<=j/\j<k-xW code k+(xW code k+1)
   ·rw[zj e]at h1 ⊢
    rw[zj (by omega)]
   ·rw[zi e]at h0 h1 ⊢
    rw[zi (by omega)];exact base h0 h1
  ·rename_i hc
   rw[zi hc]at h1 ⊢;exact base h0 h1
theorem Ij{code:List zm}{j:Nat}(hj:j<code.length)(h0:0<=(zl code).getD j 0){m:Nat}(h1:(zl code).getD j 0<=(m:Int))(h2:m<=j):(zl code).getD m 0=(zl code).getD j 0:=
 Aq code code.length j (zI _) hj h0 m h1 h2
theorem Gh{u:zg}(hw:zC u=true){k:Nat}(hk:k<u.code.length):0<=(zl u.code).getD k 0:=by
 have h:=XQ hw hk;unfold qx at h;simp only[yi,jb,ZQ]at h;have:=h.1.1.1.1.2;omega
theorem Vb{fs:List Int}{i j:Nat}(h1:i<j)(h2:j<=zS fs i)(hl:j<fs.length):fs.getD j 0=(i:Int):=by
 have:=(Xm (fs:=fs) (i:=i) (e:=j-1) (by omega) (by omega) (by omega)).2 (by omega);have e:j-1+1=j:=by omega
 simp only[e]at this;rw[zk hl];simpa using this
theorem Eb{u:zg}(hw:zC u=true){i:Nat}(_hi:i<u.code.length)(hs:(zl u.code).getD i 0=(i:Int))(hj:zS (zl u.code) i+1<u.code.length):
  (zl u.code).getD (zS (zl u.code) i+1) 0=((zS (zl u.code) i+1:Nat):Int):=by
 have hfl:(zl u.code).length=u.code.length:=z_ u.code u.code.length;have hge:=jp (zl u.code) i;generalize hE:zS (zl u.code) i=e at *;have h0:=Gh hw hj;have hle:(zl u.code).getD (e+1) 0<=((e+1:Nat):Int):=Ap u.code u.code.length (e+1) (zI _) hj;by_cases hc:(zl u.code).getD (e+1) 0=((e+1:Nat):Int)
 ·exact hc
 ·have h1:=Ij hj h0 (m:=e) (by omega) (by omega)
  have h2:(zl u.code).getD e 0=(i:Int):=by
   by_cases e2:i=e
   ·subst e2;exact hs
   ·exact Vb (by omega) (by omega) (by omega)
  have h3:=(Xm (fs:=zl u.code) (i:=i) (e:=e) hge (by omega) (by omega)).1 (by
   rw[<-zk (d:=(0:Int)) (by omega)];rw[<-h1,h2]
   simp)
  omega
theorem KW{u:zg}(hw:zC u=true):∀(f i:Nat),u.code.length<=i+f->i<=u.code.length->(i<u.code.length->(zl u.code).getD i 0=(i:Int)) ->
  ((List.range' i (u.code.length-i)).filter fun i=>(zl u.code).getD i 0==(i:Int)).map (Ym u.code (zl u.code))=jE u.code (zl u.code) f i
 |0,i,h,h1,_=>by
  rw[show u.code.length-i=0 by omega]
  rfl
 |f+1,i,h,h1,hs=>by
  unfold jE;by_cases hi:i<u.code.length
  ·rw[zj hi]
   have hfl:(zl u.code).length=u.code.length:=z_ u.code u.code.length;have hge:=jp (zl u.code) i;have hlt:zS (zl u.code) i<u.code.length:=by rw[<-hfl];exact vD (by rw[hfl];exact hi)
   have hns:zS (zl u.code) i+1<u.code.length->(zl u.code).getD (zS (zl u.code) i+1) 0=((zS (zl u.code) i+1:Nat):Int):=Eb hw hi (hs hi);have ih:=KW hw f (zS (zl u.code) i+1) (by omega) (by omega) hns;have hin:∀j,i<j->j<=zS (zl u.code) i->(zl u.code).getD j 0=(i:Int):=fun j g1 g2=>Vb g1 g2 (by omega)
   rw[<-ih];generalize zS (zl u.code) i=e at *
   have e1:List.range' i (u.code.length-i)=i::(List.range' (i+1) (e-i)++List.range' (e+1) (u.code.length-(e+1))):=by
    have e2:u.code.length-i=(e-i)+(u.code.length-(e+1))+1:=by omega
    rw[e2,List.range'_succ];congr 1;have e3:=List.range'_append (s:=i+1) (m:=e-i) (n:=u.code.length-(e+1)) (step:=1);rw[<-e3];congr 2;omega
   rw[e1,vH,zj (by rw[hs hi];simp),j9,List.filter_append]
   have e4:(List.range' (i+1) (e-i)).filter (fun i=>(zl u.code).getD i 0==(i:Int))= []:=by
    rw[List.filter_eq_nil_iff];intro j hj;have hj:=List.mem_range'_1.1 hj;rw[hin j (by omega) (by omega)];simp only[qE];omega
   rw[e4,Zd]
  ·rw[zi hi,show u.code.length-i=0 by omega]
   rfl
theorem Ik(u:zg)(hw:zC u=true)(h:0<u.code.length):(zl u.code).getD 0 0=((0:Nat):Int):=by
 have h0:=Gh hw h;have h1:(zl u.code).getD 0 0<=((0:Nat):Int):=Ap u.code u.code.length 0 (zI _) h;omega
theorem QE{u:zg}(hw:zC u=true):((List.range u.code.length).filter fun i=>(zl u.code).getD i 0==(i:Int)).map (Ym u.code (zl u.code))=yg u:=by
 have h:=KW hw u.code.length 0 (by omega) (zE _) (Ik u hw);rw[Nat.sub_zero,<-List.range_eq_range']at h;exact h
def vj(u:zg):Nat->Nat
 |0=>1
 |t+1=>if (zl u.code).getD t 0=(t:Int)then max (vj u t) (yu u.code t (zS (zl u.code) t)).length else vj u t
theorem GP{u:zg}:∀t,vj u t=Zi (((List.range t).filter fun i=>(zl u.code).getD i 0==(i:Int)).map (Ym u.code (zl u.code)))
 |0=>rfl
 |t+1=>by
  unfold vj;rw[Ze,List.filter_append,q8,GP t];by_cases h:(zl u.code).getD t 0=(t:Int)
  ·rw[zj h,vH,zj (by rw[h];simp),List.filter_nil,j9,List.map_nil,JF]
   rfl
  ·rw[zi h,vH,zi (by simpa using h),List.filter_nil,List.map_nil,qO]
theorem Lo{u:zg}(hw:zC u=true):vj u u.code.length=yd u:=by
 rw[GP,QE hw];rfl
end Go.Proofs.YtgalekifgnecjaaGreat
