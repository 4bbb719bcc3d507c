/- The list of a set; the lists of sets -/
import Derived.Test.YtgalekifgnecjaaGreatM2
import Derived.Test.YtgalekifgnecjaaGreatD2
namespace Go.Proofs.YtgalekifgnecjaaGreat
open Tryz Go.RowKit
open Go.RowKit Go.Shelf
set_option maxHeartbeats 2000000
set_option maxRecDepth 100000
attribute [local go_sem] Oper.semAt_some
theorem ZS{x:Int}:∀ {l:List Int},x∈l->(l.filter (· !=x)).length<l.length
 | [],h=>absurd h (by simp)
 |y::l,h=>by
  by_cases e:y=x
  ·subst e
   have:=ZP (· !=y) l;simp only[vH,bne_self_eq_false,XH,if_false,xv];omega
  ·have h1:x∈l:=by
    rcases xK.1 h with e1|e1
    ·exact absurd e1.symm e
    ·exact e1
   have:=ZS h1;have h2:(y !=x)=true:=by simp[e]
   simp only[vH,h2,if_true,xv];omega
structure Re(w:World)(v:Value)(S L acc:List Int)(s:Value)(wr:World):Prop where
 own:zu wr (w.heap.size+1) s acc
 hb:Below w.heap.size w wr
 rng:ZK wr w.heap.size v S L
 nd:acc.Nodup
 mem:∀x,x∈acc↔x∈S/\x∉L
 len:acc.length<=1000000
theorem yz:∀ {l m:List Int},l.Nodup->(∀x∈l,x∈m)->l.length<=m.length
 | [],_,_,_=>zE _
 |x::l,m,hn,h=>by
  obtain⟨n1,n2⟩:=List.nodup_cons.1 hn;have h1:=yz (m:=m.filter (· !=x)) n2 (fun y hy=>jn.2 ⟨h y (by simp[hy]),by have:y≠x:=fun e=>n1 (e ▸ hy);simpa using this⟩);have h2:=ZS (h x (by simp));simp only[xv];omega
theorem Ub{acc S:List Int}(hn:acc.Nodup)(hs:∀x∈acc,x∈S)(hS:xt S)(hb:∀x∈S,0<=x/\x<1000000):acc.length<=1000000:=by
 have h1:acc.length<=S.length:=yz hn hs;have h2:=Z2 (a:=0) (n:=1000000) hS hb;omega
theorem Re.room{w wr:World}{v s:Value}{S L acc:List Int}{x:Int}(h:Re w v S L acc s wr)(hS:YA w v S)(hx:x∈L):acc.length+1<=1000000:=by
 have hxS:x∈S:=h.rng.sub x hx;have hxa:x∉acc:=fun e=>((h.mem x).1 e).2 hx
 have hnd:(acc++ [x]).Nodup:=List.nodup_append.2 ⟨h.nd,by simp,fun a ha b hb' e=>hxa (by rw[qf.1 hb']at e;exact e ▸ ha)⟩
 have:=Ub hnd (fun y hy=>by
  rcases qr.1 hy with h1|h1
  ·exact((h.mem y).1 h1).1
  ·rw[qf.1 h1];exact hxS) hS.so hS.bd
 simpa using this
theorem Re.next{w wr w2 w5:World}{v s v':Value}{S L acc:List Int}{x:Int}(h:Re w v S L acc s wr)(hS:YA w v S)(hx:x∈L)(hr:ZK w2 w.heap.size v S (L.filter (· !=x)))(hb:Below w.heap.size w w2)
  (ho:zu w5 (w.heap.size+1) v' (acc++ [x])) (hg:(w2.alloc (.cells #[.int .i64 x] 3)).grownBy w5 s.ownBlock):Re w v S (L.filter (· !=x)) (acc++ [x]) v' w5:=by
 have hsz:=hb.size;have hob:=zy h.own;have hxS:x∈S:=h.rng.sub x hx;have hxa:x∉acc:=fun e=>((h.mem x).1 e).2 hx
 have hnd:(acc++ [x]).Nodup:=List.nodup_append.2 ⟨h.nd,by simp,fun a ha b hb' e=>hxa (by rw[qf.1 hb']at e;exact e ▸ ha)⟩
 have hm:∀y,y∈acc++ [x]↔y∈S/\y∉L.filter (· !=x):=fun y=>by
  rw[qr,qf,h.mem y,jn];by_cases e:y=x
  ·subst e
   simp[hxS]
  ·simp[e]
 refine⟨ho,(hb.alloc hsz _).grown hg (by simp;omega) (fun r e=>by have:=hob r e;omega),?_,hnd,hm,Ub hnd (fun y hy=>((hm y).1 hy).1) hS.so hS.bd⟩;refine(hr.below (zd w2 _)).kept hg (fun e=>by have:=hob _ e.symm;omega) (fun b e e2=> ?_);have h1:=hob b e2.symm;rcases hS with ⟨e1,_⟩|⟨b',e1,h2⟩
 ·rw[e]at e1;cases e1
 ·rw[e]at e1
  cases e1;have:=h2.lt;omega
theorem Lm(v:Value)(S:List Int)(w:World)(hs:YA w v S):Calls prog 177 #[v] w (Za S w):=by
 have HS:=za hs;clear hs
 have hvl:∀b,v= .map (some b)->b<w.heap.size:=by
  intro b e;rcases HS.out with ⟨e1,_⟩|⟨b',e1,h⟩
  ·rw[e]at e1;cases e1
  ·rw[e]at e1;cases e1;exact h.lt
 have HVL:=za hvl;clear hvl;go_enter func177,ntmps177
 go_wp2_with (first
  |(at_range;refine JS _ rfl _ rfl v S rfl HS.out ?_;intro w1 hr1 hg1 hz1;have HR1:=za hr1;have HG1:=za hg1;clear hr1 hg1 hz1))
 go_frame;go_loopg [3] S.length (fun gh s3 wr=>∃L acc:List Int,gh=0+L.length/\Hid (Re w v S L acc s3 wr))
 case atStart=>
  refine⟨S,[],by omega,za ⟨jd _ _ _ _,?_,HR1.out,.nil,by simp,by simp⟩⟩;exact⟨HG1.out.os,HG1.out.tape,HG1.out.output,HG1.out.size,fun k hk=>HG1.out.block k hk (by simp)⟩
 case round=>
  obtain⟨L,acc,rfl,HQ⟩:=hrel
  go_wp2_with (first
   |(at_next;refine VL _ rfl _ rfl _ v S L rfl HQ.out.rng ?_ ?_))
  ·intro h0
   subst h0;have HM:=za (fun x=>(HQ.out.mem x).trans (by simp:x∈S/\x∉([]:List Int)↔x∈S));have HSO:=za (FD (w.heap.size+1) _ acc S wr HQ.out.own HQ.out.nd HM.out HS.out.so HQ.out.len);have HOB:=za (zy HQ.out.own);have HB:=za HQ.out.hb;clear HQ HM
   go_wp2_with (first
    |(go_at_call 216;(with_reducible refine HSO.out.mono ?_);rintro e w3 ⟨rfl,ho,hg⟩;have HO:=za ho;have HG:=za hg;clear ho hg))
   go_ret;exact⟨HB.out.grown HG.out HB.out.size (fun r e=>by have:=HOB.out r e;omega),_,rfl,zu.mono HO.out (by omega)⟩
  ·intro x w2 hx hr2 hg2 hz2 hen
   have HX:=za hx;have HR2:=za hr2;have HG2:=za hg2;clear hx hr2 hg2 hz2;have HOB:=za (zy HQ.out.own);have HO2:Hid (zu w2 (w.heap.size+1) u3 acc):=za (yA HQ.out.own (fun b e hb=>HG2.out.block b hb (fun e2=>by cases e2;have:=HOB.out _ e;omega)));have HB2:Hid (Below w.heap.size w w2):=za (HQ.out.hb.grown HG2.out HQ.out.hb.size (fun r e=>by cases e;exact zI _));have HNX:=za (fun v' w5 ho hg=>HQ.out.next HS.out HX.out HR2.out HB2.out (v':=v') (w5:=w5) ho hg);have hal:=HQ.out.room HS.out HX.out;have hsz:=HB2.out.size;clear HQ;go_wp2_with (at_builtin;refine zv _ rfl _ _ rfl (w.heap.size+1) _ _ [x] rfl (zu.later HO2.out (zd _ _)) (some ⟨_,0,none⟩) 1 rfl (yJ _ _ _) (by simp;omega) (by simp;omega) ?_;intro v' w5 hown' hgrow hnil);go_roundg (0+(L.filter (· !=x)).length);case measure=>have:=ZS HX.out;omega
   case rel=>exact⟨_,_,rfl,za (HNX.out _ _ hown' hgrow)⟩
structure Oc where
 a:Option Addr
 n:Nat
 c:Nat
def Oc.v(x:Oc):Value:=.slice x.a x.n x.c
def Iq:Oj Oc:=⟨1,fun x=> [.slice x.a x.n x.c],fun _=>rfl,fun x u hu=>by simp at hu;subst hu;rfl,by decide⟩
theorem So:P0 Iq 95 28:=⟨Tryz.underlying95,.slice none 0 0,24,by kernel_rfl,rfl,by decide⟩
def je(w:World)(base:Nat)(v:Value)(L:List (List Int)):Prop:=
 ∃xs:List Oc,y9 Iq 28 w base v xs/\xs.length=L.length/\∀i (h:i<xs.length) (h2:i<L.length),zu w base (.slice xs[i].a xs[i].n xs[i].c) L[i]
theorem je.nil(w:World)(base:Nat):je w base (.slice none 0 0) []:=⟨[],y9.nil _ _ _,rfl,fun _i h _=>absurd h (y_ _)⟩
theorem je.later{w w':World}{base:Nat}{v:Value}{L:List (List Int)}(h:je w base v L)(hb:Below w.heap.size w w'):je w' base v L:=by
 obtain⟨xs,h1,h2,h3⟩:=h;exact⟨xs,h1.later hb,h2,fun i a b=>(h3 i a b).later hb⟩
theorem PB{w:World}{base base':Nat}{v u:Value}{xs:List Oc}{l:List Int}(h:y9 Iq 28 w base v xs)(h':zu w base' u l):∀b,u.ownBlock=some b->v.ownBlock≠some b:=by
 intro b e e';rcases h.2 with ⟨rfl,_⟩|⟨g,cap,cur,rfl,_,hg,_⟩
 ·cases e'
 ·cases e'
  rcases h'.2 with ⟨rfl,_⟩|⟨g',cap',cur',rfl,_,hg',_⟩
  ·cases e
  ·cases e
   rw[hg]at hg';cases hg'
theorem je.push{w0 w w':World}{base:Nat}{v v':Value}{xs:List Oc}{x:Oc}{L:List (List Int)}{l:List Int}(_h:Below w0.heap.size w0 w)(h1:y9 Iq 28 w base v xs)(h2:xs.length=L.length)(h3:∀i (h:i<xs.length) (h2:i<L.length),zu w base (.slice xs[i].a xs[i].n xs[i].c) L[i])
  (hx:zu w base (.slice x.a x.n x.c) l) (ho:y9 Iq 28 w' base v' (xs++ [x])) (hg:w.grownBy w' v.ownBlock):je w' base v' (L++ [l]):=by
 have hk:∀ {u:Value} {m:List Int},zu w base u m->zu w' base u m:=fun hu=>yA hu (fun b e hb=>hg.block b hb (fun e2=>PB h1 hu b e e2.symm))
 refine⟨xs++ [x],ho,by simp[h2],fun i a b=> ?_⟩;by_cases hi:i<xs.length
 ·have e1:(xs++ [x])[i]=xs[i]:=List.getElem_append_left hi
  have e2:(L++ [l])[i]=L[i]'(by omega):=List.getElem_append_left (by omega);rw[e1,e2];exact hk (h3 i hi (by omega))
 ·have hi2:i=xs.length:=by simp at a;omega
  subst hi2;have e1:(xs++ [x])[xs.length]=x:=by simp
  have e2:(L++ [l])[xs.length]'b=l:=by simp[h2]
  rw[e1,e2];exact hk hx
def IC(L:List (List Int))(w:World)(e:Ending)(w':World):Prop:=Below w.heap.size w w'/\∃v,e= .returned v/\je w' w.heap.size v L
def NO(w:World)(a:Option Addr)(L:List (List Int)):Prop:=
 ∀i (h:i<L.length),∃b off v,a=some ⟨b,off,none⟩/\b<w.heap.size/\w.cell? ⟨b,off+i,none⟩=some v/\YA w v L[i]
theorem NO.below{w w':World}{a:Option Addr}{L:List (List Int)}(h:NO w a L)(hb:Below w.heap.size w w'):NO w' a L:=by
 intro i hi;obtain⟨b,off,v,ha,hlt,hc,hs⟩:=h i hi;exact⟨b,off,v,ha,xh hlt hb.size,zK hb hc,hs.below hb⟩
theorem OP(L:List (List Int))(a:Option Addr)(cap:Nat)(w:World)(hl:NO w a L)(hll:L.length<=1000000):
  Calls prog 176 #[.slice a L.length cap,.func (.func 177) #[] #[]] w (IC L w):=by
 have HL:=za hl;clear hl;go_enter func176,ntmps176;go_wp2;go_loopg [5,10] L.length (fun gh s5 s10 wr=>∃j:Nat,j<=L.length/\gh=L.length-j/\s10= .int .i64 j/\Hid (je wr w.heap.size s5 (L.take j)/\Below w.heap.size w wr));case atStart=>exact⟨0,zE _,rfl,rfl,za ⟨je.nil _ _,zG _ _⟩⟩
 case round=>
  obtain⟨j,hj,rfl,rfl,HQ⟩:=hrel;by_cases hlj:j<L.length
  ·obtain⟨b2,off,v,ha,hlt2,hc,hs⟩:=(HL.out.below HQ.out.2) j hlj
   subst ha;have nj:(j:Int)<(L.length:Int):=by omega
   have HT:Hid (L.take (j+1)=L.take j++ [L[j]]):=za (zO hlj);have HKG:=za (Lm v L[j] wr hs);clear hs;generalize L[j]=l at *
   have HCC:=za fun(u:Value) (w':World) (hb:Below wr.heap.size wr w') (ho:zu w' wr.heap.size u l)=>(show ∃(ua:Option Addr) (uc:Nat) (xs:List Oc),u= .slice ua l.length uc/\y9 Iq 28 w' w.heap.size u5 xs/\xs.length=(L.take j).length/\(∀i (h:i<xs.length) (h2:i<(L.take j).length),zu w' w.heap.size (.slice xs[i].a xs[i].n xs[i].c) (L.take j)[i])/\xs.length<=j/\zu w' w.heap.size u l from by
    obtain⟨xs,h1,h2,h3⟩:=HQ.out.1.later hb;obtain⟨ua,uc,rfl,_⟩:=ho.rd
    exact⟨ua,uc,xs,rfl,h1,h2,h3,by rw[h2,xm];omega,zu.mono ho HQ.out.2.size⟩)
   have HBQ:=za HQ.out.2
   go_wp2_with (first
    |(go_at_call 177;(with_reducible refine HKG.out.mono ?_);rintro e w' ⟨hb,u,rfl,ho⟩;obtain⟨ua,uc,xs,rfl,h1,h2,h3,hlen,hox⟩:=HCC.out u w' hb ho;have HX1:=za h1;have HX2:=za h2;have HX3:=za h3;have HB2:=za (HBQ.out.step hb);have hsz:=HB2.out.size;have HOX:=za hox;clear hb h1 h2 h3 ho hox)
    |(at_builtin;refine qj So _ rfl _ _ rfl w.heap.size _ _ [(⟨ua,l.length,uc⟩:Oc)] rfl (y9.later HX1.out (zd _ _)) (some ⟨_,0,none⟩) 1 rfl (V2 (E:=Iq) _ ⟨ua,l.length,uc⟩ _) (by simp;omega) (by simp;omega) ?_;intro v' w5 hown' hgrow hnil))
   go_roundg (L.length-(j+1));case measure=>omega
   case rel=>
    refine⟨j+1,by omega,rfl,by go_num,za ⟨?_,((HB2.out).alloc (by omega) _).grown hgrow (by simp;omega) (zy HX1.out)⟩⟩;rw[HT.out];exact je.push (HB2.out.step (zd _ _)) (y9.later HX1.out (zd _ _)) HX2.out (fun i p q=>(HX3.out i p q).later (zd _ _)) (HOX.out.later (zd _ _)) hown' hgrow
  ·obtain rfl:j=L.length:=by omega
   go_wp2;go_ret;exact⟨HQ.out.2,_,rfl,by have:=HQ.out.1;rwa [xL]at this⟩
end Go.Proofs.YtgalekifgnecjaaGreat
