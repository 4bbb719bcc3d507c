/- A drawing region with addresses that may come up beside its end: those are taken first, th -/
import Derived.StillTailTactics
import Derived.OrdersHeld
import Derived.Test.YtgalekifgnecjaaGreatY1
import Derived.Test.YtgalekifgnecjaaGreatT20
import Derived.Test.YtgalekifgnecjaaGreatC5
import Derived.Deep.RegionHeldLaw
import Derived.Deep.AppendLies
import Derived.BigQuiet
import Derived.Deep.RegionHeld3
namespace Go.Proofs.YtgalekifgnecjaaGreat
open Tryz Go.RowKit
open Go
set_option maxHeartbeats 40000000
set_option maxRecDepth 100000
section
variable {P:Program} {ops:Array Oper} {md:Region.Mode}
def E5(md:Region.Mode)(ops:Array Oper)(n:Nat)(l0:Array Bool):Bool:=
 (List.range n).all fun i=>l0.getD i true||(List.range (n+1)).any fun j=>decide (i<j)&&Region.waitsFor md ops j i
def U6(md:Region.Mode)(ops:Array Oper)(n:Nat)(l0:Array Bool):Bool:=
 (List.range ops.size).all fun t=>decide (t<=n)||l0.getD t true||(List.range t).any fun s=>decide (n<=s)&& !(l0.getD s true)&&Region.waitsFor md ops t s
structure Kr(md:Region.Mode)(ops:Array Oper)(n:Nat)(l0 listed:Array Bool):Prop where
 closed:∀j oj,ops[j]?=some oj->listed.getD j false=true->∀e∈oj.after,Region.binds md e=true->listed.getD e.on false=true
 tail:∀t,n<=t->l0.getD t true=false->listed.getD t true=false
 mono:∀t,listed.getD t true=false->l0.getD t true=false
theorem Kr.set{n i:Nat}{l0 listed:Array Bool}(inv:Kr md ops n l0 listed)(hi:i∈Region.ready md ops listed)(hin:i<n):Kr md ops n l0 (listed.setIfInBounds i true):=by
 obtain⟨_,oi,hoi,hall⟩:=mem_ready.1 hi;refine⟨fun j oj hj hl e he hb=> ?_,fun t ht h0=>by rw[getD_set_ne true (by omega)];exact inv.tail t ht h0,fun t h=>inv.mono t ?_⟩
 ·by_cases hij:i=j
  ·subst hij
   have:oj=oi:=Option.some.inj (hj.symm.trans hoi);subst this;exact getD_set_true (hall e he hb)
  ·rw[getD_set_ne false hij]at hl
   exact getD_set_true (inv.closed j oj hj hl e he hb)
 ·by_cases hij:i=t
  ·subst hij
   exact(mem_ready.1 hi).1
  ·rw[getD_set_ne true hij]at h
   exact h
theorem IQ{n:Nat}{l0 listed:Array Bool}(hs:E5 md ops n l0=true)(hc:U6 md ops n l0=true)(inv:Kr md ops n l0 listed):
  ∀(d i:Nat),n-i=d->i<n->listed.getD i true=false->∀t,n<=t->t∉Region.ready md ops listed:=by
 intro d
 induction d using Nat.strongRecOn with
 |_ d ih=>
  intro i hd hi hun t ht hr;obtain⟨hut,ot,hot,hall⟩:=mem_ready.1 hr;have htlt:t<ops.size:=(qM.1 hot).1;by_cases htn:t=n
  ·subst htn
   have h1:=yL.1 hs i (yR.2 hi);rw[inv.mono i hun,Bool.false_or]at h1;obtain⟨j,hj,hj2⟩:=v_.1 h1;simp only[yi,yB]at hj2;obtain⟨oj,hoj,e,he,hb,hon⟩:=Region.waitsFor_spec hj2.2;have hjle:j<=t:=by have:=yR.1 hj;omega
   by_cases hjt:j=t
   ·subst hjt
    have:oj=ot:=Option.some.inj (hoj.symm.trans hot);subst this;have h2:=hall e he hb;rw[hon,getD_both hun]at h2;cases h2
   ·cases hl:listed.getD j false with
    |true=>
     have h2:=inv.closed j oj hoj hl e he hb;rw[hon,getD_both hun]at h2
     cases h2
    |false=>
     by_cases hjs:j<listed.size
     ·exact ih (t-j) (by omega) j rfl (by omega) (Go.getD_in hjs hl) t (zI _) hr
     ·have h3:t∈Region.ready md ops listed:=hr
      have h4:listed.getD t true=true:=by simp[Array.getD];intro h5;omega
      rw[h4]at hut;cases hut
  ·have h1:=yL.1 hc t (yR.2 htlt)
   rw[inv.mono t hut]at h1;simp only[jV,yB]at h1;rcases h1 with (h1|h1)|h1
   ·omega
   ·cases h1
   ·obtain⟨s,hsr,hs2⟩:=v_.1 h1
    simp only[yi,yB,jb]at hs2;obtain⟨o',ho',e,he,hb,hon⟩:=Region.waitsFor_spec hs2.2;have:o'=ot:=Option.some.inj (ho'.symm.trans hot);subst this;have h2:=hall e he hb;rw[hon,getD_both (inv.tail s hs2.1.1 hs2.1.2)]at h2;cases h2
def IT(md:Region.Mode)(ops:Array Oper):List Nat->Array Bool->Bool
 | [],listed=>(Region.ready md ops listed).isEmpty
 |k::ks,listed=>decide (Region.ready md ops listed= [k])&&IT md ops ks (listed.setIfInBounds k true)
def Ln(md:Region.Mode)(ops:Array Oper)(ts:List Nat):Nat->Nat->Array Bool->Bool
 |0,_,listed=>IT md ops ts listed
 |f+1,k,listed=>(Region.ready md ops listed).contains k&&Region.free md ops listed k&&Ln md ops ts f (k+1) (listed.setIfInBounds k true)
def Np(md:Region.Mode)(ops:Array Oper)(l0:Array Bool):Bool:=
 (List.range ops.size).all fun j=> !(l0.getD j false)||match ops[j]? with
  |some oj=>oj.after.all fun e=> !(Region.binds md e)||l0.getD e.on false
  |none=>true
end
def QN(P:Program)(md:Region.Mode)(ops:Array Oper)(Q:Exit->Act->World->Prop)(S:World->Prop)(n:Nat):Nat->Array Bool->Act->World->Prop
 |0,listed,a,w=>Region.ready md ops listed= []/\Q .normal a w
 |f+1,listed,a,w=>
  (Region.ready md ops listed= []->Q .normal a w) /\
  ∀i∈Region.ready md ops listed,wpOp P ops Q i (fun a' w'=>(i<n->S w')/\QN P md ops Q S n f (listed.setIfInBounds i true) a' w') a w
section
variable {P:Program} {ops:Array Oper} {md:Region.Mode} {Q:Exit->Act->World->Prop} {S:World->Prop} {n:Nat}
theorem Gj:∀(f:Nat) (listed:Array Bool) (a:Act) (w:World),QN P md ops Q S n f listed a w->wpAny P md ops Q f listed a w
 |0,_,_,_,h=>h
 |f+1,_,_,_,h=>⟨h.1,fun i hi=>wpOp_mono (fun a' w' h'=>Gj f _ a' w' h'.2) (h.2 i hi)⟩
theorem EV{i:Nat}{oi:Oper}{v:Value}{l0:Array Bool}(hi:ops[i]?=some oi)(hsel:∀(j:Nat) (o:Oper) cs b,ops[j]?=some o->o.op≠ .select cs b)
  (hs:E5 md ops n l0=true) (hc:U6 md ops n l0=true) (hin:i<n) (hQ:∀c a w,Q (.panic c) (a.put oi.dst v) w->Q (.panic c) a w):
  ∀(f:Nat) (listed:Array Bool) (a:Act) (w:World),Kr md ops n l0 listed ->
   (∀j oj,ops[j]?=some oj->j≠i->listed.getD j true=false->(∀e∈oj.after,Region.binds md e=true->e.on≠i)->oi.apart ops oj=true) ->
   i∈Region.ready md ops listed->YieldsIf P ops S oi v a->S w ->
   QN P md ops Q S n f (listed.setIfInBounds i true) (a.put oi.dst v) w->QN P md ops Q S n (f+1) listed a w:=by
 intro f
 induction f with
 |zero=>
  intro listed a w _ _ hr hy hS H;refine⟨fun h=>(by rw[h]at hr;cases hr),fun j hj=> ?_⟩;by_cases hji:j=i
  ·subst hji
   exact hy.wpOp hi hS ⟨fun _=>hS,H⟩
  ·have:=ready_mono hj hji
   rw[H.1]at this
   cases this
 |succ f ih=>
  intro listed a w inv hfree hr hy hS H;have hun:=(mem_ready.1 hr).1;refine⟨fun h=>(by rw[h]at hr;cases hr),fun j hj=> ?_⟩;have hjn:j<n:=Nat.lt_of_not_le fun h=>IQ hs hc inv _ i rfl hin hun j h hj
  by_cases hji:j=i
  ·subst hji
   exact hy.wpOp hi hS ⟨fun _=>hS,H⟩
  ·have h1:=H.2 j (ready_mono hj hji)
   obtain⟨hjun,oj,hoj,hall⟩:=mem_ready.1 hj
   have hnot:∀e∈oj.after,Region.binds md e=true->e.on≠i:=fun e he hb heq=>by
    have h2:=hall e he hb;rw[heq,getD_both hun]at h2;cases h2
   have h2:=wpOp_putIf hoj (hfree j oj hoj hji hjun hnot) (fun cs b=>hsel i oi cs b hi) (fun cs b=>hsel j oj cs b hoj) hQ hy h1
   have hfree':∀k ok,ops[k]?=some ok->k≠i->(listed.setIfInBounds j true).getD k true=false ->
     (∀e∈ok.after,Region.binds md e=true->e.on≠i)->oi.apart ops ok=true:=fun k ok hk hki hku hno=>by
    refine hfree k ok hk hki ?_ hno;by_cases hjk:j=k
    ·subst hjk
     exact hjun
    ·rw[getD_set_ne true hjk]at hku
     exact hku
   refine wpOp_mono (fun a' w' h3=>⟨fun _=>h3.2.1 hjn,ih (listed.setIfInBounds j true) a' w' (inv.set hj hjn) hfree' (ready_mono hr (Ne.symm hji)) h3.1 (h3.2.1 hjn) ?_⟩) h2;rw[Array.setIfInBounds_comm _ _ hji];exact h3.2.2
theorem VI:∀(ks:List Nat) (l:List Oper) (listed:Array Bool) (a:Act) (w:World),ks.map (fun k=>ops[k]?)=l.map some->(∀t∈ks,n<=t) ->
  IT md ops ks listed=true->wpList P ops Q l a w->QN P md ops Q S n ks.length listed a w
 | [],l,_,_,_,hl,_,hB,h=>by
  cases l with
  |nil=>exact⟨by simpa[IT]using hB,h⟩
  |cons _ _=>cases hl
 |k::ks,l,listed,a,w,hl,hn,hB,h=>by
  cases l with
  |nil=>cases hl
  |cons o l=>
   simp only[j9,List.cons.injEq]at hl;simp only[IT,yi,yB]at hB;refine⟨fun h1=>(by rw[hB.1]at h1;cases h1),fun i hi=> ?_⟩;rw[hB.1]at hi;have hik:i=k:=by simpa using hi
   subst hik
   have hw:wpOp P ops Q i (wpList P ops Q l) a w:=by
    unfold wpOp;simp only[hl.1];exact h
   exact wpOp_mono (fun a' w' h'=>⟨fun h3=>absurd h3 (by have:=hn i (List.mem_cons_self ..);omega),VI ks l _ a' w' hl.2 (fun t ht=>hn t (List.mem_cons_of_mem _ ht)) hB.2 h'⟩) hw
end
def JU(P:Program)(ops:Array Oper)(S:World->Prop)(L:Act->Prop):List Oper->Act->Prop
 | [],a=>L a
 |o::l,a=>∃v,YieldsIf P ops S o v a/\JU P ops S L l (a.put o.dst v)
theorem DH{P:Program}{ops:Array Oper}{S:World->Prop}{L:Act->Prop}{o:Oper}{l:List Oper}{a:Act}{v:Value}(h1:Region.wanted o (yielded ops a.tmps)=true)
  (h2:∀w,S w->(execOp a.eval o).run P w= .ok (.value v) w) (h:JU P ops S L l (a.put o.dst v)):JU P ops S L (o::l) a:=⟨v,.inl ⟨h1,h2⟩,h⟩
theorem LH{P:Program}{ops:Array Oper}{S:World->Prop}{L:Act->Prop}{a:Act}(h:L a):JU P ops S L [] a:=h
def NH(md:Region.Mode)(ops:Array Oper)(m k:Nat)(ts:List Nat)(l0:Array Bool):Bool:=
 Region.noSelect ops&&E5 md ops (m+1) l0&&U6 md ops (m+1) l0&&Np md ops l0&&ts.all (fun t=>decide (m+1<=t))&&Ln md ops (m::ts) (m-k) k l0
theorem O8{P:Program}{ops:Array Oper}{md:Region.Mode}{Q:Exit->Act->World->Prop}{S:World->Prop}{n f0:Nat}{w:World}{l0:Array Bool}{ts:List Nat}{L:Act->Prop}(hsel:Region.noSelect ops=true)(hs:E5 md ops n l0=true)(hc:U6 md ops n l0=true)
  (hQ:∀c (a:Act) (d:Option Tmp) v w,Q (.panic c) (a.put d v) w->Q (.panic c) a w) (hS:S w) (hL:∀listed a,IT md ops ts listed=true->L a->QN P md ops Q S n f0 listed a w):
  ∀(l:List Oper) (k:Nat) (listed:Array Bool) (a:Act),(∀j,j<l.length->l[j]?=ops[k+j]?)->k+l.length<n->Kr md ops n l0 listed ->
  Ln md ops ts l.length k listed=true->JU P ops S L l a->QN P md ops Q S n (l.length+f0) listed a w
 | [],k,listed,a,_,_,_,hB,h=>by
  rw[List.length_nil,jU]
  exact hL _ _ (by simpa[Ln]using hB) h
 |o::l,k,listed,a,hl,hk,inv,hB,h=>by
  have h0:ops[k]?=some o:=by simpa using (hl 0 (by simp)).symm
  simp only[xv,Ln,yi]at hB;obtain⟨⟨hr,hf⟩,hB'⟩:=hB;have hkn:k<n:=by simp only[xv]at hk;omega
  have hr':k∈Region.ready md ops listed:=by simpa using hr
  obtain⟨v,hy,hK⟩:=h;rw[show(o::l).length+f0=(l.length+f0)+1 by simp only[xv];omega]
  exact EV h0 (Region.noSelect_spec hsel) hs hc hkn (fun c a w=>hQ c a _ _ w) (l.length+f0) listed a w inv (Region.free_spec h0 hf) hr' hy hS
   (O8 hsel hs hc hQ hS hL l (k+1) _ _ (fun j hj=>by have:=hl (j+1) (by simp;omega);simpa[Nat.add_assoc,Nat.add_comm 1 j]using this) (by simp only[xv]at hk;omega) (inv.set hr' hkn) hB' hK)
theorem VN{P:Program}{md:Region.Mode}{lo:List Oper}{Q:Exit->Act->World->Prop}{a:Act}{w:World}{l0:Array Bool}(S:World->Prop)(m k:Nat)(ts:List Nat)(fuel:Nat)(hB:NH md lo.toArray m k ts l0=true)
  (hz:(decide (k<=m)&&decide (m+1<=lo.length)&&decide (fuel=(m-k)+(ts.length+1))&&decide (ts=List.range' (m+1) (lo.length-(m+1))))=true)
  (hQ:∀c (a:Act) (d:Option Tmp) v w,Q (.panic c) (a.put d v) w->Q (.panic c) a w) (hS:S w) {o:Oper} (ho:lo[m]?=some o) (hg:o.guard=none)
  (h:JU P lo.toArray S (fun a'=>∀K:Act->World->Prop,(∀a w,S w->wpList P lo.toArray Q (lo.drop (m+1)) a w->K a w)->o.wp P a' w K Q) ((lo.drop k).take (m-k)) a):wpAny P md lo.toArray Q fuel l0 a w:=by
 simp only[NH,yi]at hB;obtain⟨⟨⟨⟨⟨hsel,hs⟩,hc⟩,hcl⟩,htn⟩,hlex⟩:=hB;simp only[yi,yB]at hz;obtain⟨⟨⟨hkm,hml⟩,hf⟩,hts⟩:=hz;have htn':∀t∈ts,m+1<=t:=fun t ht=>by simpa using yL.1 htn t ht
 have inv0:Kr md lo.toArray (m+1) l0 l0:=by
  refine⟨fun j oj hj hl e he hb=> ?_,fun _ _ h=>h,fun _ h=>h⟩;have h1:=yL.1 hcl j (yR.2 (qM.1 hj).1);rw[hl,hj]at h1;simp only[Bool.not_true,Bool.false_or]at h1;have h2:=Array.all_eq_true'.1 h1 e he;rw[hb]at h2;simpa using h2
 have hlen:((lo.drop k).take (m-k)).length=m-k:=by rw[xm,jH];omega
 have hl':∀j,j<((lo.drop k).take (m-k)).length->((lo.drop k).take (m-k))[j]?=lo.toArray[k+j]?:=fun j hj=>by
  rw[List.getElem?_take_of_lt (by omega),List.getElem?_drop,List.getElem?_toArray]
 have htl:ts.map (fun k=>lo.toArray[k]?)=(lo.drop (m+1)).map some:=by
  subst hts;refine List.ext_getElem? fun j=> ?_
  simp only[List.getElem?_map,List.getElem?_toArray,List.getElem?_drop];by_cases hj:j<lo.length-(m+1)
  ·rw[List.getElem?_range' hj,Nat.one_mul]
   simp[show m+1+j<lo.length by omega]
  ·rw[YJ (by rw[List.length_range'];omega),YJ (by omega)]
   rfl
 refine Gj (S:=S) (n:=m+1) _ _ _ _ ?_;rw[hf,<-hlen];refine O8 (f0:=ts.length+1) (l0:=l0) (ts:=m::ts) hsel hs hc hQ hS ?_ _ k l0 a hl' (by rw[hlen];omega) inv0 (by rw[hlen];exact hlex) h;intro listed a' hseq hLa;simp only[IT,yi,yB]at hseq;refine⟨fun h1=>(by rw[hseq.1]at h1;cases h1),fun i hi=> ?_⟩;rw[hseq.1]at hi;have him:i=m:=by simpa using hi
 subst him;unfold wpOp;rw[List.getElem?_toArray,ho];simp only[Region.wanted,hg,if_true];exact .inl (hLa _ fun a'' w'' hS'' hl''=>⟨fun _=>hS'',VI ts _ _ _ _ htl htn' hseq.2 hl''⟩)
theorem VM{P:Program}{md:Region.Mode}{Q:Exit->Act->World->Prop}{o:Oper}{lo:List Oper}{v:Value}{fuel:Nat}{listed:Array Bool}{a:Act}{w:World}
  (hs:Region.noSelect (o::lo).toArray=true) (hf:Region.free md (o::lo).toArray listed 0=true) (hr:(Region.ready md (o::lo).toArray listed).contains 0=true)
  (hQ:∀c a w,Q (.panic c) (a.put o.dst v) w->Q (.panic c) a w) (hy:Yields P (o::lo).toArray o v a)
  (h:wpAny P md (o::lo).toArray Q fuel (listed.setIfInBounds 0 true) (a.put o.dst v) w):wpAny P md (o::lo).toArray Q (fuel+1) listed a w:=
 wpAny_take (i:=0) (oi:=o) (by simp) hs hf hr hQ hy h
open Go.RowKit Go.Shelf
attribute [local go_sem] Oper.semAt_some
attribute [local irreducible] wpStill
def XU(F:zm->zm)(l:List zm)(t:Nat):List zm:=(l.take t).map F++l.drop t
theorem Dj(F:zm->zm)(l:List zm):XU F l 0=l:=by simp[XU]
theorem Lh(F:zm->zm)(l:List zm):XU F l l.length=l.map F:=by simp[XU]
theorem Lg(F:zm->zm)(l:List zm){t:Nat}(h:t<=l.length):(XU F l t).length=l.length:=by
 unfold XU;rw[yV,ym,xm,jH];omega
theorem MT(F:zm->zm)(l:List zm){t:Nat}(h:t<l.length):(XU F l t).set t l[t]=XU F l t:=by
 unfold XU;have e:((l.take t).map F).length=t:=by rw[ym,xm];omega
 rw[List.set_append,zi (by omega),e,Nat.sub_self,List.drop_eq_getElem_cons h,List.set_cons_zero]
theorem Lf(F:zm->zm)(l:List zm){t:Nat}(h:t<l.length):(XU F l t).set t (F l[t])=XU F l (t+1):=by
 unfold XU;have e:((l.take t).map F).length=t:=by rw[ym,xm];omega
 rw[List.set_append,zi (by omega),e,Nat.sub_self,List.drop_eq_getElem_cons h,List.set_cons_zero,List.take_succ_eq_append_getElem h,q8,Yr];rfl
theorem UN{W W':World}(h:Below W.heap.size W W'):KeepsOthers W W':=⟨h.size,fun k _o hk _=>(h.block k (qM.1 hk).1).trans hk⟩
structure VK(w1 W0:World)(r:qu)(ats:List Int)(g n cap:Nat)(X:List zm)(og:Value)(W':World):Prop where
 hb:XO w1 r.ba W'
 hx:W'.heap[r.bw]?=some (RJ r (.slice (some ⟨g,0,none⟩) n cap) og)
 hc:BC W' g X
 ha:BI W' r.ba ats
 lt:r.ba<r.bw/\r.bw<g
 sz:w1.heap.size=r.bw
 ot:KeepsOthers W0 W'
section
variable {w1 W0:World} {r:qu} {ats:List Int} {g n cap:Nat} {X:List zm} {og:Value} {W' W'':World}
theorem VK.below(h:VK w1 W0 r ats g n cap X og W')(hb:Below W'.heap.size W' W''):VK w1 W0 r ats g n cap X og W'':=⟨h.hb.step hb,zb hb h.hx,h.hc.below hb,h.ha.below hb,h.lt,h.sz,h.ot.trans (UN hb)⟩
theorem VK.setA(h:VK w1 W0 r ats g n cap X og W'){t:Nat}(ht:t<X.length)(v:Int):VK w1 W0 r ats g n cap (X.set t ⟨X[t].op,v,X[t].b,X[t].c⟩) og (W'.setCell ⟨g,t*4+1,none⟩ (.int .i64 v)):=by
 have hl:=h.lt;exact⟨h.hb.setCell (p:=⟨g,t*4+1,none⟩) (.inl (by have:=h.sz;show _<=g;omega)) _,(yF _ _ _ _ (by show r.bw≠g;omega)).trans h.hx,h.hc.setA ht v,h.ha.keep (yF _ _ _ _ (by show r.ba≠g;omega)),hl,h.sz,h.ot.trans (KeepsOthers.setCell _ _ _)⟩
theorem VK.setB(h:VK w1 W0 r ats g n cap X og W'){t:Nat}(ht:t<X.length)(v:Int):VK w1 W0 r ats g n cap (X.set t ⟨X[t].op,X[t].a,v,X[t].c⟩) og (W'.setCell ⟨g,t*4+2,none⟩ (.int .i64 v)):=by
 have hl:=h.lt;exact⟨h.hb.setCell (p:=⟨g,t*4+2,none⟩) (.inl (by have:=h.sz;show _<=g;omega)) _,(yF _ _ _ _ (by show r.bw≠g;omega)).trans h.hx,h.hc.setB ht v,h.ha.keep (yF _ _ _ _ (by show r.ba≠g;omega)),hl,h.sz,h.ot.trans (KeepsOthers.setCell _ _ _)⟩
theorem VK.cells(h:VK w1 W0 r ats g n cap X og W'):W'.cell? ⟨r.bw,15,none⟩=some (.slice (some ⟨g,0,none⟩) n cap)/\W'.cell? ⟨r.bw,17,none⟩=some (.slice (some ⟨r.ba,0,none⟩) r.u.code.length r.u.code.length)/\W'.cell? ⟨r.bw,5,none⟩=some (.slice r.ca r.u.code.length r.cc)/\W'.cell? ⟨r.bw,6,none⟩=some (.slice r.ga r.u.guards.length r.gc)/\W'.cell? ⟨r.bw,16,none⟩=some og:=
 ⟨(zA _ _ 15 _ _ _ h.hx).trans rfl,(zA _ _ 17 _ _ _ h.hx).trans rfl,(zA _ _ 5 _ _ _ h.hx).trans rfl,(zA _ _ 6 _ _ _ h.hx).trans rfl,(zA _ _ 16 _ _ _ h.hx).trans rfl⟩
end
theorem VK.kept{w1 W0:World}{r:qu}{ats:List Int}{g n cap:Nat}{X:List zm}{og:Value}{W' W'':World}{row:Option Nat}(h:VK w1 W0 r ats g n cap X og W')(hg:W'.grownBy W'' row)(hr:∀k,row=some k->g<k)(hc:∀k o,row=some k->W'.heap[k]?=some o->o.isCells=true):VK w1 W0 r ats g n cap X og W'':=by
 have hl:=h.lt;have hs:=h.sz;exact⟨h.hb.grown hg h.hb.size (fun k e=> .inl (by have:=hr k e;omega)),(hg.block _ (ze h.hx) (fun e=>by have:=hr _ e.symm;omega)).trans h.hx,h.hc.keep (hg.block _ h.hc.lt (fun e=>by have:=hr _ e.symm;omega)),h.ha.keep (hg.block _ h.ha.lt (fun e=>by have:=hr _ e.symm;omega)),hl,hs,h.ot.trans (KeepsOthers.of_grownBy hg (fun j o e ho=>hc j o e ho))⟩
theorem Mc{W:World}{b:Nat}{x y z:Value}{T:TypeId}(h:W.heap[b]?=some (.cells #[x,y,z] T (0,0))):W.cell? ⟨b,0,none⟩=some x/\W.cell? ⟨b,1,none⟩=some y/\W.cell? ⟨b,2,none⟩=some z:=
 ⟨(zA _ _ 0 _ _ _ h).trans rfl,(zA _ _ 1 _ _ _ h).trans rfl,(zA _ _ 2 _ _ _ h).trans rfl⟩
theorem Nh{w1 W0:World}{r:qu}{ats:List Int}{g n cap:Nat}{X:List zm}{og v2:Value}{l0 l2:List jR}{B:Nat}{wa w9 w2:World}(ha:VK w1 W0 r ats g n cap X og wa)(h9:Below wa.heap.size wa w9)(hgB:g<B)(hB:B<=wa.heap.size)(ho:y9 Qc 90 wa B og l0)
  (hown:y9 Qc 90 w2 B v2 l2) (hg:w9.grownBy w2 og.ownBlock):
  VK w1 W0 r ats g n cap X v2 (w2.setCell ⟨r.bw,16,none⟩ v2)/\y9 Qc 90 (w2.setCell ⟨r.bw,16,none⟩ v2) B v2 l2/\B<=(w2.setCell ⟨r.bw,16,none⟩ v2).heap.size:=by
 have hl:=ha.lt;have hs:=ha.sz;have hge:=zy ho;have hge2:=zy hown
 have hF:=(ha.below h9).kept hg (fun k e=>by have:=hge k e;omega) (fun k o e hk=>by
  rcases(y9.later ho h9).2 with ⟨e1,_⟩|⟨q,c,cur,e1,_,hh,_⟩
  ·rw[e1]at e;cases e
  ·rw[e1]at e
   cases e;rw[hh]at hk;cases hk
   rfl)
 have hso:∀k,k≠r.bw->(w2.setCell ⟨r.bw,16,none⟩ v2).heap[k]?=w2.heap[k]?:=fun k hk=>yF _ _ _ _ hk
 refine⟨⟨hF.hb.setCell (p:=⟨r.bw,16,none⟩) (.inl (by show _<=r.bw;omega)) _,yk _ _ 16 _ _ _ hF.hx,hF.hc.keep (hso _ (by omega)),hF.ha.keep (hso _ (by omega)),hl,hs,hF.ot.trans (KeepsOthers.setCell _ _ _)⟩,yA hown (fun b hb _=>hso b (by have:=hge2 b hb;omega)),?_⟩;have h1:=h9.size;have h2:=hg.size;simp;omega
theorem Iy{w w9:World}{v0 v1 v2 v3 v4 v5:Value}{bx bw ba n1 n2:Nat}(hb:Below w.heap.size w w9)(h:w.cell? ⟨bw,16,none⟩=some v0/\w.cell? ⟨bx,0,none⟩=some v1/\w.cell? ⟨bx,2,none⟩=some v2/\w.cell? ⟨bw,17,none⟩=some v3/\w.cell? ⟨ba,n1,none⟩=some v4/\w.cell? ⟨ba,n2,none⟩=some v5):
  w9.cell? ⟨bw,16,none⟩=some v0/\w9.cell? ⟨bx,0,none⟩=some v1/\w9.cell? ⟨bx,2,none⟩=some v2/\w9.cell? ⟨bw,17,none⟩=some v3/\w9.cell? ⟨ba,n1,none⟩=some v4/\w9.cell? ⟨ba,n2,none⟩=some v5:=
 ⟨zK hb h.1,zK hb h.2.1,zK hb h.2.2.1,zK hb h.2.2.2.1,zK hb h.2.2.2.2.1,zK hb h.2.2.2.2.2⟩
theorem EG(w1:World)(r:qu)(xw:xN)(vc:Value)(W:World)(hm:Kq w1 r)(h:Yz w1 r xw vc (.slice none 0 0) W)(hp:zJ r.u=true)(hne:xw.code≠ [])(hal:xw.ats.length=r.u.code.length)(hcl:xw.code.length<=60000)
    (hpl:∀y∈xw.code,∀q,zQ y=some q->0<=q/\q<r.u.code.length) (hab:∀y∈xw.ats,0<=y/\y<=60000):
    Calls prog 52 #[.pointer (some ⟨r.bw,0,none⟩)] W (fun e W'=>e= .returned (.tuple #[])/\∃(g cap:Nat) (ya:Option Addr) (yc:Nat),VK w1 W r xw.ats g xw.code.length cap (xw.code.map (yK xw.ats)) (.slice ya r.u.guards.length yc) W'/\IG W' ya (r.u.guards.map (x_ r.u xw.ats xw.code.length))/\xw.code.length<=cap/\r.u.guards.length<=yc/\y9 Qc 90 W' (r.bw+1) (.slice ya r.u.guards.length yc) (r.u.guards.map (x_ r.u xw.ats xw.code.length))):=by
  obtain⟨g,cap,rfl,hg,hbc,hcap⟩:=BC.of_own h.hc hne;have HI:Hid (VK w1 W r xw.ats g xw.code.length cap xw.code (.slice none 0 0) W):=za ⟨h.hb,h.hx,hbc,h.ha,⟨h.lt,by omega⟩,h.sz,KeepsOthers.refl _⟩;have HM:=za hm;have HAL:=za hal;have HPL:=za hpl;have HAB:=za hab;have HPP:=za hp;have HCP:=za hcap;clear hm h hp hne hal hpl hab hbc hcap hg;obtain⟨k15,k17,k5,k6,k16⟩:=HI.out.cells;go_enter func52,ntmps52;go_upto_region 1 with fail;clear k15 k17 k5 k6 k16;go_loopg [13] xw.code.length (fun gh s13 wr=>∃t:Nat,t<=xw.code.length/\gh=xw.code.length-t/\s13= .int .i64 t/\Hid (VK w1 W r xw.ats g xw.code.length cap (XU (yK xw.ats) xw.code t) (.slice none 0 0) wr));case atStart=>exact⟨0,zE _,rfl,rfl,za (by rw[Dj];exact HI.out)⟩
  case round=>as_aux_lemma=>
    obtain⟨t,ht,rfl,rfl,HL⟩:=hrel;clear HI;by_cases htn:t<xw.code.length
    · have nt:(t:Int)<(xw.code.length:Int):=by omega
      have HPY:=za (HPL.out _ (yy htn));have HS0:=za (MT (yK xw.ats) xw.code htn);have HS1:=za (Lf (yK xw.ats) xw.code htn);have HLN:=za (Lg (yK xw.ats) xw.code ht);generalize XU (yK xw.ats) xw.code t=M at *;generalize xw.code[t]=y at *;have hMt:t<M.length:=by rw[HLN.out];exact htn
      have HYM:Hid (M[t]=y):=za (by
        have e:=congrArg (fun l=>l[t]?) HS0.out;simp only[List.getElem?_set_self hMt]at e;rw[q9 hMt]at e
        exact(Option.some.inj e).symm)
      obtain⟨b',o',e',_,q0,q1,q2,q3⟩:=HL.out.hc.rd t hMt;cases e';rw[HYM.out]at q0 q1 q2 q3;simp only[jU]at q0 q1 q2 q3;have HPA:=za (Qo y.op g (t*4) wr q0);obtain⟨k15,k17,k5,k6,k16⟩:=HL.out.cells;have HPD:Hid (YM y.op g (t*4)=if y.op==24 then some ⟨g,t*4+1,none⟩else if y.op==25||y.op==32 then some ⟨g,t*4+2,none⟩else none):=za rfl;have HPO:Hid (zQ y=if y.op==24 then some y.a else if y.op==25||y.op==32 then some y.b else none):=za rfl;by_cases h24:(y.op==24)=true
      · rw[zj h24]at HPD HPO
        rw[HPD.out]at HPA;have HQ:=za (HPY.out _ HPO.out);obtain⟨qn,hqn⟩:∃n:Nat,y.a=(n:Int):=⟨y.a.toNat,by have:=HQ.out;omega⟩
        have hql:qn<xw.ats.length:=by have:=HQ.out;have:=HAL.out;omega
        have HV:=za (HAB.out _ (yy hql));have kat:=HL.out.ha.at hql;have nq:(qn:Int)<(r.u.code.length:Int):=by have:=HAL.out;omega
        have HMV:Hid (yK xw.ats y=⟨y.op,xw.ats[qn],y.b,y.c⟩):=za (by unfold yK;rw[zj h24,hqn,show((qn:Int)).toNat=qn from rfl,zk hql]);have HQN:=za hqn;rw[hqn]at q1;clear hqn
        have HST:Hid (VK w1 W r xw.ats g xw.code.length cap (XU (yK xw.ats) xw.code (t+1)) (.slice none 0 0) (wr.setCell ⟨g,t*4+1,none⟩ (.int .i64 xw.ats[qn]))):=za (by
          have e:=HL.out.setA hMt xw.ats[qn];rw[HYM.out]at e;rw[<-HS1.out,HMV.out]
          exact e)
        generalize xw.ats[qn]=av at *;have fg:=HL.out.hc.frozen;clear HPY
        go_upto_region 4 with (first
          | (go_at_call 101;(with_reducible refine HPA.out.mono ?_);rintro e w3 ⟨rfl,rfl⟩))
        go_upto_region 5 with fail;go_still_tail 11,(by kernel_rfl);change wpList _ _ _ _ _ wr.drew;go_wp2;go_roundg (xw.code.length-(t+1));case measure=>omega
        case rel=>exact⟨t+1,by omega,rfl,by go_num,za (HST.out.below (zt _))⟩
      · rw[zi h24]at HPD HPO
        by_cases h25:(y.op==25||y.op==32)=true
        · rw[zj h25]at HPD HPO
          rw[HPD.out]at HPA;have HQ:=za (HPY.out _ HPO.out);obtain⟨qn,hqn⟩:∃n:Nat,y.b=(n:Int):=⟨y.b.toNat,by have:=HQ.out;omega⟩
          have hql:qn<xw.ats.length:=by have:=HQ.out;have:=HAL.out;omega
          have HV:=za (HAB.out _ (yy hql));have kat:=HL.out.ha.at hql;have nq:(qn:Int)<(r.u.code.length:Int):=by have:=HAL.out;omega
          have HMV:Hid (yK xw.ats y=⟨y.op,y.a,xw.ats[qn],y.c⟩):=za (by unfold yK;rw[zi h24,zj h25,hqn,show((qn:Int)).toNat=qn from rfl,zk hql]);have HQN:=za hqn;rw[hqn]at q2;clear hqn
          have HST:Hid (VK w1 W r xw.ats g xw.code.length cap (XU (yK xw.ats) xw.code (t+1)) (.slice none 0 0) (wr.setCell ⟨g,t*4+2,none⟩ (.int .i64 xw.ats[qn]))):=za (by
            have e:=HL.out.setB hMt xw.ats[qn];rw[HYM.out]at e;rw[<-HS1.out,HMV.out]
            exact e)
          generalize xw.ats[qn]=av at *;have fg:=HL.out.hc.frozen;clear HPY
          go_upto_region 4 with (first
            | (go_at_call 101;(with_reducible refine HPA.out.mono ?_);rintro e w3 ⟨rfl,rfl⟩))
          go_upto_region 5 with fail;go_still_tail 11,(by kernel_rfl);change wpList _ _ _ _ _ wr.drew;go_wp2;go_roundg (xw.code.length-(t+1));case measure=>omega
          case rel=>exact⟨t+1,by omega,rfl,by go_num,za (HST.out.below (zt _))⟩
        · rw[zi h25]at HPD HPO
          rw[HPD.out]at HPA;have HMV:Hid (yK xw.ats y=y):=za (by unfold yK;rw[zi h24,zi h25])
          have HST:Hid (VK w1 W r xw.ats g xw.code.length cap (XU (yK xw.ats) xw.code (t+1)) (.slice none 0 0) wr):=za (by
            rw[<-HS1.out,HMV.out,HS0.out]
            exact HL.out)
          clear HPY h24 h25
          go_wp2_with (first
            | (go_at_call 101;(with_reducible refine HPA.out.mono ?_);rintro e w3 ⟨rfl,rfl⟩))
          go_roundg (xw.code.length-(t+1));case measure=>omega
          case rel=>exact⟨t+1,by omega,rfl,by go_num,HST⟩
    · obtain rfl:t=xw.code.length:=by omega
      have nt:¬(xw.code.length:Int)<(xw.code.length:Int):=by omega
      rw[Lh]at HL;have hg4:=(z8 HPP.out).2.2.1;have hlc6:=(z8 HPP.out).2.1;obtain⟨k15,k17,k5,k6,k16⟩:=HL.out.cells;obtain⟨gaa,hgaa⟩:∃a,a=r.ga:=⟨_,rfl⟩
      rw[<-hgaa]at k6;have HGAA:=za hgaa;clear hgaa;go_upto_region 8 with fail;clear k15 k17 k5 k6 k16;have HNB:Hid (r.bw+1<=wr.heap.size):=za (by have:=ze HL.out.hx;omega);obtain⟨wz,hwz⟩:∃wz,wz=wr:=⟨_,rfl⟩
      rw[<-hwz]at HL HNB;rw[<-hwz];clear hwz;go_loopg [45] r.u.guards.length (fun gh s45 wy=>∃(j:Nat) (og:Value),j<=r.u.guards.length/\gh=r.u.guards.length-j/\s45= .int .i64 j/\Hid (VK w1 W r xw.ats g xw.code.length cap (xw.code.map (yK xw.ats)) og wy)/\Hid (y9 Qc 90 wy wz.heap.size og ((r.u.guards.map (x_ r.u xw.ats xw.code.length)).take j))/\Hid (wz.heap.size<=wy.heap.size));case atStart=>exact⟨0,.slice none 0 0,zE _,rfl,rfl,HL,za (by rw[List.take_zero];exact y9.nil _ _ _),za (zI _)⟩
      case round=>as_aux_lemma=>
        obtain⟨j,og,hj,rfl,rfl,HF,HO,HSZ⟩:=hrel;by_cases hjn:j<r.u.guards.length
        · have nj:(j:Int)<(r.u.guards.length:Int):=by omega
          obtain⟨oa,ocap,hoa,_,_,_⟩:=HO.out.rdB;obtain⟨L,hL⟩:∃L,L=(r.u.guards.map (x_ r.u xw.ats xw.code.length)).take j:=⟨_,rfl⟩
          have HLL:Hid (L.length=j):=za (by rw[hL,xm,ym];omega)
          have HLT:Hid ((r.u.guards.map (x_ r.u xw.ats xw.code.length)).take (j+1)=(r.u.guards.map (x_ r.u xw.ats xw.code.length)).take j++ [x_ r.u xw.ats xw.code.length r.u.guards[j]]):=za (by
            rw[List.take_succ_eq_append_getElem (by rw[ym];exact hjn),List.getElem_map])
          rw[<-hL]at HO hoa;subst hoa;obtain⟨p1,p2,p3,p4,p5⟩:=Zv HPP.out hjn;obtain⟨bg,og3,hga,_,q0,q1,q2⟩:=(HM.out.mu _ HF.out.hb).rg j hjn;generalize r.u.guards[j]=y at *;obtain⟨yf,yt,ya⟩:=y;dsimp only at p1 p2 p3 p4 p5 q0 q1 q2;obtain⟨fn,rfl⟩:∃n:Nat,yf=(n:Int):=⟨yf.toNat,by omega⟩
          obtain⟨tn,rfl⟩:∃n:Nat,yt=(n:Int):=⟨yt.toNat,by omega⟩
          obtain⟨an,rfl⟩:∃n:Nat,ya=(n:Int):=⟨ya.toNat,by omega⟩
          have hfl:fn<xw.ats.length:=by rw[HAL.out];omega
          have hal2:an<xw.ats.length:=by rw[HAL.out];omega
          have nf:(fn:Int)<(r.u.code.length:Int):=by omega
          have na:(an:Int)<(r.u.code.length:Int):=p2;have HGB:Hid (g<wz.heap.size):=za HL.out.hc.lt;obtain⟨k15,k17,k5,k6,k16⟩:=HF.out.cells;rw[<-HGAA.out]at hga;have HL2:=za hL;clear hL;subst hga;go_upto_region 10 with fail;clear k15 k17 k5 k6 k16 q0 q1 q2;obtain⟨bx,hbx⟩:∃b,b=wr.heap.size:=⟨_,rfl⟩
          obtain⟨wa,hwa⟩:∃w',w'=wr.alloc (.cells #[.int .i64 fn,.int .i64 tn,.int .i64 an] 90):=⟨_,rfl⟩
          have HXa:Hid (wa.heap[bx]?=some (.cells #[.int .i64 fn,.int .i64 tn,.int .i64 an] 90)):=za (by rw[hwa];exact zo _ _ _ hbx);have HFa:Hid (VK w1 W r xw.ats g xw.code.length cap (xw.code.map (yK xw.ats)) (.slice oa L.length ocap) wa):=za (by rw[hwa];exact HF.out.below (zd _ _));have HOa:Hid (y9 Qc 90 wa wz.heap.size (.slice oa L.length ocap) L):=za (by rw[hwa];exact HO.out.later (zd _ _));have HSa:Hid (wz.heap.size<=wa.heap.size):=za (by have:=HSZ.out;rw[hwa];simp;omega);rw[<-hbx,<-hwa];clear hbx hwa HF HO HSZ;obtain⟨k15,k17,k5,k6,k16⟩:=HFa.out.cells;obtain⟨x0,x1,x2⟩:=Mc HXa.out;have hc6:(xw.code.length:Int)<=60000:=by omega
          go_upto_region 11 with fail;go_quiet (fail);rename_i nq;have HF1:=za (HFa.out.below (xR (zG _ _) nq));have HO1:=za (HOa.out.later (xR (zG _ _) nq));have HX1:=za (zb (xR (zG _ _) nq) HXa.out);have HS1:Hid (wz.heap.size<=(wa.drewN nq).heap.size):=za (yP HSa.out (xR (zG 0 wa) nq).size);obtain⟨wb,hwb⟩:∃w',w'=wa.drewN nq:=⟨_,rfl⟩
          rw[<-hwb]at HF1 HO1 HX1 HS1;rw[<-hwb];clear hwb k15 k17 k5 k6 k16 x0 x1 x2 HFa HOa HXa HSa;go_upto_if 64 with fail;go_cut [6,64]from 65 to 72 (fun s6 _s64 wy=>∃tv:Int,s6= .int .i64 tv/\Hid (x_ r.u xw.ats xw.code.length ⟨(fn:Int),(tn:Int),(an:Int)⟩=⟨xw.ats[fn],tv,xw.ats[an]⟩)/\Hid (VK w1 W r xw.ats g xw.code.length cap (xw.code.map (yK xw.ats)) (.slice oa L.length ocap) wy)/\Hid (y9 Qc 90 wy wz.heap.size (.slice oa L.length ocap) L)/\Hid (wy.heap[bx]?=some (.cells #[.int .i64 fn,.int .i64 tn,.int .i64 an] 90))/\Hid (wz.heap.size<=wy.heap.size))
          case first=>as_aux_lemma=>
            by_cases hlt:(tn:Int)<(r.u.code.length:Int)
            case pos=>
              have htl:tn<xw.ats.length:=by rw[HAL.out];omega
              have HTV:Hid (x_ r.u xw.ats xw.code.length ⟨(fn:Int),(tn:Int),(an:Int)⟩=⟨xw.ats[fn],xw.ats[tn],xw.ats[an]⟩):=za (by
                unfold x_;simp only[qQ]
                rw[zj hlt,zk hfl,zk htl,zk hal2])
              go_upto_region 12 with fail;obtain⟨k15,k17,k5,k6,k16⟩:=HF1.out.cells;obtain⟨x0,x1,x2⟩:=Mc HX1.out;have kt:=HF1.out.ha.at htl;go_quiet (fail);go_wp2_with fail;go_meet;exact⟨_,rfl,HTV,za (HF1.out.below (xR (zG _ _) _)),za (HO1.out.later (xR (zG _ _) _)),za (zb (xR (zG _ _) _) HX1.out),za (yP HS1.out (xR (zG 0 wb) _).size)⟩
            case neg=>
              have HTV:Hid (x_ r.u xw.ats xw.code.length ⟨(fn:Int),(tn:Int),(an:Int)⟩=⟨xw.ats[fn],(xw.code.length:Int),xw.ats[an]⟩):=za (by
                unfold x_;simp only[qQ]
                rw[zi hlt,zk hfl,zk hal2])
              go_wp2;go_meet;exact⟨_,rfl,HTV,HF1,HO1,HX1,HS1⟩
          case rest=>as_aux_lemma=>
            obtain⟨tv,rfl,HTV,HFq,HOq,HXq,HSq⟩:=hcut;obtain⟨wq,hwq⟩:∃w',w'=wc:=⟨_,rfl⟩
            rw[<-hwq]at HFq HOq HXq HSq;rw[<-hwq];clear hwq HF1 HO1 HX1 HS1;have HIQ:=za HFq.out;obtain⟨k15,k17,k5,k6,k16⟩:=HFq.out.cells;have kf:=HFq.out.ha.at hfl;have ka:=HFq.out.ha.at hal2;obtain⟨x0,x1,x2⟩:=Mc HXq.out;have HTV2:=HTV;clear HTV;generalize xw.ats[fn]=av at *;generalize xw.ats[an]=cv at *
            skip
            have k16b:=zK (zd wq (.cells #[.int .i64 av,.int .i64 (tv),.int .i64 cv] 90)) k16
            have HGZ:Hid ((r.u.guards.map (x_ r.u xw.ats xw.code.length)).take (j+1)=L++ [⟨av,tv,cv⟩]):=za (by
              rw[HLT.out,<-HL2.out,HTV2.out])
            have HOK:=za (fun(w9:World) (hb:Below wq.heap.size wq w9)=>HOq.out.later hb);go_upto_region 13 with fail;have HCE:Hid (wq.cell? ⟨r.bw,16,none⟩=some (.slice oa L.length ocap)/\wq.cell? ⟨bx,0,none⟩=some (.int .i64 fn)/\wq.cell? ⟨bx,2,none⟩=some (.int .i64 an)/\wq.cell? ⟨r.bw,17,none⟩=some (.slice (some ⟨r.ba,0,none⟩) r.u.code.length r.u.code.length)/\wq.cell? ⟨r.ba,fn,none⟩=some (.int .i64 av)/\wq.cell? ⟨r.ba,an,none⟩=some (.int .i64 cv)):=za ⟨k16,x0,x2,k17,kf,ka⟩;refine wp_region_noPanic ?_;refine wp_region_any (by kernel_rfl) ?_;refine VM (v:=_) (by kernel_rfl) (by kernel_rfl) (by kernel_rfl) (fun _ _ _ h=>h) (Or.inl ⟨by rfl,fun w=>by go_simp;try with_reducible rfl⟩) ?_;simp only[Act.put,List.setIfInBounds_toArray];refine VN (fun W=>W.cell? ⟨r.bw,16,none⟩=some (.slice oa L.length ocap)/\W.cell? ⟨bx,0,none⟩=some (.int .i64 fn)/\W.cell? ⟨bx,2,none⟩=some (.int .i64 an)/\W.cell? ⟨r.bw,17,none⟩=some (.slice (some ⟨r.ba,0,none⟩) r.u.code.length r.u.code.length)/\W.cell? ⟨r.ba,fn,none⟩=some (.int .i64 av)/\W.cell? ⟨r.ba,an,none⟩=some (.int .i64 cv)) 24 1 [25,26,27,28,29] _ (by kernel_rfl) (by rfl) (fun _ _ _ _ _ h=>h) ?hS rfl rfl ?_;case hS=>exact Iy (zt _) HCE.out
            simp only[List.take_succ_cons,List.take_zero,List.drop_succ_cons,List.drop_zero]
            repeat
              refine DH (v:=?_) (by rfl) (fun W hW=> ?_) ?_
              rotate_left
              · ((try dsimp only at hW);go_simp;try with_reducible rfl)
              simp only[Act.put,List.setIfInBounds_toArray,List.set_cons_zero,List.set_cons_succ]
            refine LH (fun K hK=> ?_);change Oper.wp _ _ _ wq.drew K _;go_simp;refine hK _ _ (Iy (Q3 (zt _) _) HCE.out) ?_;clear hK K
            go_wp2_with (
                         at_builtin;refine qj Rm _ rfl (.tmp 78) (.tmp 97) rfl wz.heap.size (.slice oa L.length ocap) L [⟨av,tv,cv⟩] (by rfl) (HOK.out _ (by repeat (first|exact zG _ _|refine yX ?_|refine Q3 ?_ _))) (some ⟨_,0,none⟩) 1 rfl (V2 (E:=Qc) _ ⟨av,tv,cv⟩ 90) (by have:=HLL.out;simp;omega) (by have:=HSq.out;simp;omega) ?_
                         intro v2 w2 hown2 hg2 hat2;obtain⟨a2,cap2,rfl,_,_,hown3⟩:=hown2.rdB;rw[show(L++ [(⟨av,tv,cv⟩:jR)]).length=L.length+1 by rw[yV,Y8]]at hown2;have HX2:Hid (w2.heap[r.bw]?=some (RJ r (.slice (some ⟨g,0,none⟩) xw.code.length cap) (.slice oa L.length ocap))):=za ((hg2.block r.bw (by have:=ze HFq.out.hx;simp;omega) (fun e=>by have:=zy HOq.out _ e.symm;have:=HNB.out;omega)).trans (zb (by repeat (first|exact zG _ _|refine yX ?_|refine Q3 ?_ _)) HFq.out.hx));have hf:=zF 16 HX2.out;have hq:=j8 HX2.out (k:=16) rfl;have HOW:=za hown2;have HGR:=za hg2
                         clear hown2 hg2 hat2 hown3)
            refine NoPanic.normal ?_;go_wp2_with fail;obtain⟨z1,z2,z3⟩:=Nh HFq.out (by repeat (first|exact zG _ _|refine yX ?_|refine Q3 ?_ _)) HGB.out HSq.out HOq.out HOW.out HGR.out;go_roundg (r.u.guards.length-(j+1));case measure=>omega
            case rel=>exact⟨j+1,_,by omega,rfl,by go_num,za z1,za (by rw[HGZ.out];exact z2),za z3⟩
        · obtain rfl:j=r.u.guards.length:=by omega
          have nj:¬(r.u.guards.length:Int)<(r.u.guards.length:Int):=by omega
          have HO2:=HO.out;rw[List.take_of_length_le (by rw[ym];exact zI _)]at HO2;obtain⟨ya,yc,hog,hrd,hle,_⟩:=HO2.rdB;have HHO:=za hog;have HRD:=za (V3.1 hrd);have HLE:Hid (r.u.guards.length<=yc):=za (by rw[ym]at hle;exact hle);have HOM:=za (y9.mono (base':=r.bw+1) HO2 (by have:=HNB.out;omega));rw[hog,ym]at HOM;clear hog hrd hle HO2 HO;go_wp2_with fail
          go_end0
          refine⟨rfl,g,cap,ya,yc,?_,HRD.out,HCP.out,HLE.out,HOM.out⟩;have e:=HF.out;rw[HHO.out,ym]at e;exact e
end Go.Proofs.YtgalekifgnecjaaGreat
