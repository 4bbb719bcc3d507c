/- SortFunc at pairs: a slice of pairs of the call's own is sorted -/
import Derived.Test.YtgalekifgnecjaaGreatT1
import Derived.Test.YtgalekifgnecjaaGreatT2L
import Derived.Shelf.SlSortCmp.NoneTotal
import Derived.Sort.OwnSortedInts
import Derived.Test.YtgalekifgnecjaaGreatC2
import Derived.Test.YtgalekifgnecjaaGreatS6
namespace Go.Proofs.YtgalekifgnecjaaGreat
open Tryz Go.RowKit
open Go.RowKit Go.Shelf Go.Sort
set_option maxHeartbeats 8000000
set_option maxRecDepth 100000
section
variable {α: Type} [Inhabited α] {E:Oj α}
theorem Ii(E:Oj α)(l:List α):flatK E.c E.k l.toArray=(l.flatMap E.c).toArray:=by
 have hs:(flatK E.c E.k l.toArray).size=(l.flatMap E.c).toArray.size:=by rw[size_flatK,List.size_toArray,List.size_toArray,E.length]
 refine ext_get! hs fun t ht=> ?_
 rw[size_flatK,List.size_toArray]at ht;rw[get_flatK _ _ _ _ (by rw[List.size_toArray];exact ht)];have hp:=E.pos;have hi:t / E.k<l.length:=(Nat.div_lt_iff_lt_mul hp).2 ht;have hj:t % E.k<E.k:=Nat.mod_lt _ hp;have ej:t / E.k*E.k+t % E.k=t:=by rw[Nat.mul_comm];exact Nat.div_add_mod t E.k
 have h1:=E.at l (t / E.k) hi (t % E.k) hj;rw[ej]at h1;have ht2:t<(l.flatMap E.c).length:=by rw[E.length];exact ht
 rw[getElem!_pos _ t (by rw[List.size_toArray];exact ht2)];rw[q9 ht2,q9 (by rw[E.len];exact hj)]at h1;have h2:l.toArray[t / E.k]! =l[t / E.k]:=by rw[getElem!_pos _ _ (by rw[List.size_toArray];exact hi)];rfl
 rw[h2,getElem!_pos _ _ (by rw[E.len];exact hj)];exact(Option.some.inj h1).symm
theorem VT{w:World}{g:Nat}{cur:Array Value}{e:TypeId}{X:List Value}(hb:w.heap[g]?=some (.cells cur e (0,0)))(ht:cur.toList.take X.length=X):Holds id w g 0 X.toArray:=by
 intro j hj;have hj':j<X.length:=by simpa using hj
 refine⟨?_,by simp[World.frozen?,hb]⟩;have h1:(cur.toList.take X.length)[j]?=X[j]?:=by rw[ht]
 rw[List.getElem?_take_of_lt hj']at h1;simp only[World.cell?,hb,jU];simp only[Option.isSome_none,XH,if_false];rw[<-Array.getElem?_toList,h1];simp[hj']
theorem UV{w:World}{g n:Nat}{os:Array Obj}{cur:Array Value}{e:TypeId}{fr:Nat×Nat}(d:Array Value)(hb:w.heap[g]?=some (.cells cur e fr)):
  (grow (putRow id (Sort.ahead w n) g 0 d) os).heap[g]?=some (.cells (putCells id 0 d cur) e fr):=by
 have hg:g<w.heap.size:=(qM.1 hb).1;rw[heap_grow_old _ _ (by simpa using hg)];simp[putRow,mapBlock,Sort.ahead,Array.getElem?_modify,hb,onCells]
theorem VU{w:World}{g n:Nat}{os:Array Obj}(d:Array Value):w.grownBy (grow (putRow id (Sort.ahead w n) g 0 d) os) (some g):=by
 refine⟨rfl,rfl,rfl,by simp,fun k hk hne=> ?_⟩;rw[heap_grow_old _ _ (by simpa using hk)];have:g≠k:=fun e=>hne (by rw[e])
 simp[putRow,mapBlock,Sort.ahead,Array.getElem?_modify,this]
theorem Gl(cur:Array Value)(ts:List Value)(h:ts.length<=cur.size):(putCells id 0 ts.toArray cur).toList.take ts.length=ts:=by
 apply List.ext_getElem?;intro j;by_cases hj:j<ts.length
 ·rw[List.getElem?_take_of_lt hj,Array.getElem?_toList]
  simp[putCells,hj,show j<cur.size by omega]
 ·rw[List.getElem?_take_eq_none (by omega),YJ (by omega)]
end
theorem Ay{x y:Int×Int}:JI x y<0↔IE x y=true:=by
 rw[Qt];unfold JI Qe;split
 ·rename_i h
  unfold Qe;split
  ·unfold Qe;omega
  ·unfold Vh
   split
   ·omega
   ·split<;>omega
 ·unfold Vh
  split
  ·omega
  ·split<;>omega
theorem YX(x y:Int×Int):ltOf JI x y=IE x y:=by
 unfold ltOf
 cases h:IE x y with
 |true=>exact zP (Ay.2 h)
 |false=>exact yn (fun h2=>by rw[Ay.1 h2]at h;cases h)
theorem Mt:SWO (ltOf JI) where
 irrefl x:=by rw[YX];simpa using YD x
 trans x y z h1 h2:=by rw[YX]at *;exact Qs h1 h2
 ntrans x y z h1 h2:=by
  rw[YX]at *
  cases h:IE x z with
  |false=>rfl
  |true=>
   have n1:¬IE x y=true:=by rw[h1];exact Y7
   have n2:¬IE y z=true:=by rw[h2];exact Y7
   rw[Qt]at n1 n2 h;omega
theorem Sn(x y:Int×Int)(h1:ltOf JI x y=false)(h2:ltOf JI y x=false):x=y:=by
 rw[YX]at *;refine Decidable.byContradiction fun hne=> ?_
 have:=J7 (x:=x) (y:=y) (by rw[h1];exact Y7) hne;rw[h2]at this;cases this
theorem Ky{l S:List (Int×Int)}(hp:l.Perm S)(hS:vl S):(l.mergeSort fun x y=> !(ltOf JI) y x)=S:=by
 have hq:=List.mergeSort_perm l (fun x y=> !(ltOf JI) y x)
 have hs:=List.pairwise_mergeSort (le:=fun x y:Int×Int=> !(ltOf JI) y x) (fun a b c h1 h2=>by
  simp only[jb]at *
  exact Mt.ntrans _ _ _ h2 h1) (fun a b=>by
  cases h:ltOf JI b a with
  |false=>rfl
  |true=>
   cases h2:ltOf JI a b with
   |false=>rfl
   |true=>
    have:=Mt.trans _ _ _ h h2;rw[Mt.irrefl]at this
    cases this) l
 have hd:=((hq.trans hp).nodup_iff).2 (Kx hS);refine Vr ?_ hS fun x=>(hq.trans hp).mem_iff
 refine(hs.and hd).imp ?_;intro a b h;obtain⟨h1,h2⟩:=h;simp only[jb,YX]at h1;exact J7 (by rw[h1];exact Y7) (fun e=>h2 e.symm)
instance:Inhabited (Int×Int):=inferInstance
theorem AZ(base:Nat)(v:Value)(l S:List (Int×Int))(w:World)(h:y9 ZD 48 w base v l)(hp:l.Perm S)(hS:vl S)(hl:l.length<=1000000):
  Calls prog 64 #[v,.func (.func 65) #[] #[]] w fun e w'=>e= .returned (.tuple #[])/\y9 ZD 48 w' base v S/\w.grownBy w' v.ownBlock:=by
 have hlen:S.length=l.length:=hp.length_eq.symm;rcases h.2 with ⟨rfl,h0⟩|⟨g,cap,cur,rfl,hb,hg,h1,h2,h3,h4⟩
 ·have hl0:l= []:=List.eq_nil_of_length_eq_zero h0
  subst hl0;obtain rfl:S= []:=List.eq_nil_of_length_eq_zero hlen;refine(AnyF.slices_SortFunc_none Tryz.sortP none 0 _ w).mono ?_;rintro e w' ⟨rfl,rfl⟩;exact⟨rfl,y9.nil _ _ _,rfl,rfl,rfl,zI _,fun _ _ _=>rfl⟩
 ·have hX:(l.flatMap ZD.c).length=l.length*2:=ZD.length l
  have hY:(S.flatMap ZD.c).length=l.length*2:=by rw[<-hlen];exact ZD.length S
  have hH:HoldsK ZD.c 2 w g 0 l.toArray:=by
   unfold HoldsK;rw[show(2:Nat)=ZD.k from rfl,Ii ZD l];exact VT hg (by rw[hX];exact h4)
  have eg:∀args w,(callFunc 65 args).run prog w= .ok (.enter 65 args) w:=enters_of func65 (by kernel_rfl) rfl;have hcon:=AnyQ.slices_SortFunc_total Tryz.sortP 2 Tryz.isAgg48 Tryz.sizeOf48 ZD.c (fun _=>rfl) ZD.one JI Mt 65 #[] g 0 cap l.toArray w eg (fun _ _ _ _ x y=>S_ x y _) hH (ze hg) (by rw[List.size_toArray];omega) Sn;refine hcon.mono ?_;rintro e w' ⟨rfl,n,os,rfl⟩;rw[show l.toArray.toList=l from rfl,Ky hp hS];unfold sortWorldK putRowK;rw[show(2:Nat)=ZD.k from rfl,Ii ZD S];refine⟨rfl,⟨ZD.length S,.inr ⟨g,cap,_,by rw[hlen],hb,UV _ hg,by omega,h2,by simp[putCells,h3],?_⟩⟩,VU _⟩;have:=Gl cur (S.flatMap ZD.c) (by rw[hY,h3];exact Nat.mul_le_mul_right _ h1);rw[hY,<-hlen]at this;exact this
open Go.RowKit Go.Shelf
attribute [local go_sem] Oper.semAt_some
def VY(w:World)(r b:Nat)(S R:List (Int×Int)):Prop:=y8 w b S/\j_ Jq w r b (Z1 S) (Z1 R)
theorem UE(R:List (Int×Int))(x:Int×Int):(Z1 R).filter (fun p=> !decide (p.1=x))=Z1 (R.filter fun p=> !decide (p=x)):=by
 unfold Z1;rw[List.filter_map];rfl
theorem Il{R:List (Int×Int)}(hn:R.Nodup){x:Int×Int}(h:x∈R):R.Perm (x::R.filter fun p=> !decide (p=x)):=by
 induction R with
 |nil=>simp at h
 |cons y R ih=>
  obtain⟨n1,n2⟩:=List.nodup_cons.1 hn;rcases xK.1 h with e|h
  ·subst e
   have:(x::R).filter (fun p=> !decide (p=x))=R:=by
    rw[vH];simp only[decide_true,Bool.not_true,XH,if_false]
    exact List.filter_eq_self.2 fun z hz=>by
     simp only[jb,ZQ];rintro rfl;exact n1 hz
   rw[this]
  ·have hne:y≠x:=by
    rintro rfl;exact n1 h
   rw[vH,zj (by simp[hne])];exact((ih n2 h).cons y).trans (.swap _ _ _)
section
variable {w w':World} {r b:Nat} {S R:List (Int×Int)}
theorem VY.nodup(h:VY w r b S R):R.Nodup:=by
 have:=h.2.apart;unfold Zo Z1 at this;rw[List.pairwise_map]at this;exact this.imp fun h=>h
theorem VY.kept{row:Option Nat}(h:VY w r b S R)(hg:w.grownBy w' row)(hr:some r≠row)(hb:some b≠row):VY w' r b S R:=⟨h.1.kept hg hb,h.2.kept hg hr hb⟩
theorem VY.below(h:VY w r b S R)(hb:Below w.heap.size w w'):VY w' r b S R:=⟨h.1.below hb,h.2.below hb⟩
variable (w) {ops:Array Oper} {rest:List Oper} {o:Oper} {a:Act} {Q:Exit->Act->World->Prop}
theorem Q8(hg:o.guard=none)(m:Operand)(hop:o.op=Op.range 116 m)(hm:a.eval m= .map (some b))(h:y8 w b S)
  (hK:∀w',VY w' w.heap.size b S S->w.grownBy w' none->w'.heap.size=w.heap.size+1->wpList prog ops Q rest (a.put o.dst (.pointer (some ⟨w.heap.size,0,none⟩))) w'):wpList prog ops Q (o::rest) a w:=
 YR Jq w Tryz.underlying116 hg m hop b (Z1 S) hm h.mp fun w' h1 h2 h3=>hK w' ⟨h.kept h2 (by simp),h1⟩ h2 h3
theorem JT(hg:o.guard=none)(it:Operand)(hop:o.op=Op.next it false)(hit:a.eval it= .pointer (some ⟨r,0,none⟩))(h:VY w r b S R)
  (hDone:R= []->wpList prog ops Q rest (a.put o.dst (.tuple #[.bool false])) w)
  (hMore:∀(i j:Int) (w':World),(i,j)∈R->VY w' r b S (R.filter fun p=> !decide (p=(i,j)))->w.grownBy w' (some r)->w'.heap.size=w.heap.size->(Instr.entry (.pointer (some ⟨r,0,none⟩))).run prog w'= .ok (.tuple #[.agg #[.int .i64 i,.int .i64 j],.bool true]) w' ->
   wpList prog ops Q rest (a.put o.dst (.tuple #[.bool true,.agg #[.int .i64 i,.int .i64 j],.bool true])) w'):wpList prog ops Q (o::rest) a w:=by
 refine Xv Jq w hg it hop r b (Z1 S) (Z1 R) hit h.2 (fun hR=>hDone (by simpa[Z1]using hR)) ?_;intro x v w' hx hr hg2 hs hen;obtain⟨p,hp,e⟩:=xI.1 hx;have e1:p=x:=congrArg Prod.fst e;have e2:true=v:=congrArg Prod.snd e;subst e1 e2
 have hne:r≠b:=by
  obtain⟨_,_,_,hr0,_⟩:=h.2;exact hr0.ne
 rw[UE]at hr;exact hMore p.1 p.2 w' hp ⟨h.1.kept hg2 (fun e=>hne (by cases e;rfl)),hr⟩ hg2 hs hen
end
theorem KN(u:zg)(ca cc ga gc)(w:World)(hm:jo w u ca cc ga gc)(hlc:u.code.length<=1000000)(hlg:u.guards.length<=1000000)(hw:zC u=true):
  Calls prog 19 #[vU u ca cc ga gc] w fun e w'=>Below w.heap.size w w'/\∃v,e= .returned (.tuple #[v,.int .i64 0])/\y9 ZD 48 w' w.heap.size v (zZ u):=by
 have HM:=za hm;clear hm;have HW:=za (fun w' (hb:Below w.heap.size w w')=>qv u ca cc ga gc w' (HM.out.below hb) hlc hlg);rw[hw]at HW;have HCL:=za (fun w' (hb:Below w.heap.size w w')=>YG u ca cc ga gc w' (HM.out.below hb) hw);have HX1:=za (zo w (oU u ca cc ga gc) _ rfl);have HB:=za (zd w (oU u ca cc ga gc));obtain⟨w1,hw1⟩:∃w1,w1=w.alloc (oU u ca cc ga gc):=⟨_,rfl⟩
 rw[<-hw1]at HX1 HB;obtain⟨k0,k1,k2,k3,k4,k5,k6⟩:=zr HX1.out;obtain⟨S,hS⟩:∃S,S=zZ u:=⟨_,rfl⟩
 rw[<-hS]at HCL;rw[<-hS];clear hS;go_enter func19,ntmps19;go_upto_region 1 with fail;rw[<-hw1];clear hw1
 go_upto_region 5 with (first
  |(go_at_call 42;(with_reducible refine(HW.out _ HB.out).mono ?_);rintro e w2 ⟨rfl,hb⟩;obtain⟨j0,j1,j2,j3,j4,j5,j6⟩:=zr (zb hb HX1.out);have HX2:=za (zb hb HX1.out);have HB2:=za (HB.out.step hb);clear hb)
  |(go_at_call 63;(with_reducible refine(HCL.out _ HB2.out).mono ?_);rintro e w3 ⟨hb,bc,rfl,hpa,hbc⟩;have HB3:=za (HB2.out.step hb);have HC3:=za hpa;have HSO:=za hpa.so;have hsl:=Vq hpa.so hpa.bd;have HBC:=za (yP HB2.out.size hbc);clear hb hpa hbc)
  |(at_range;refine Q8 _ rfl _ rfl rfl HC3.out ?_;intro w4 hr4 hg4 hsz4;have HR4:=za hr4;have HG4:=za hg4;have HZ4:=za hsz4;clear hr4 hg4 hsz4))
 obtain⟨br,hbr⟩:∃b,b=w3.heap.size:=⟨_,rfl⟩
 have HB4:Hid (Below w.heap.size w w4):=za (HB3.out.grown HG4.out HB3.out.size (fun r e=>by cases e));have HZ:Hid (w4.heap.size=br+1/\w.heap.size<=br/\bc<br):=za ⟨by rw[hbr];exact HZ4.out,by rw[hbr];exact HB3.out.size,by rw[hbr];exact HC3.out.lt⟩;rw[<-hbr]at HR4;rw[<-hbr];clear hbr HZ4 HG4 HB3 HC3 HX2 HX1 HB HB2 k0 k1 k2 k3 k4 k5 k6 j0 j1 j2 j3 j4 j5 j6 HW HCL;go_frame;go_loopg [4] S.length (fun gh s4 wr=>∃(out:List (Int×Int)) (R:List (Int×Int)),R.length<=gh/\Hid (y9 ZD 48 wr w4.heap.size s4 out)/\Hid ((out++R).Perm S)/\Hid (VY wr br bc S R)/\Hid (Below w.heap.size w wr/\w4.heap.size<=wr.heap.size));case atStart=>exact⟨[],S,zI _,za (y9.nil _ _ _),za (by rw[Zd]),HR4,za ⟨HB4.out,zI _⟩⟩
 case round=>
  obtain⟨out,R,hR,HO,HP,HRG,HB⟩:=hrel
  go_upto_region 6 with (first
   |(at_next;refine JT _ rfl _ rfl rfl HRG.out ?_ ?_))
  ·intro hR0
   have HP2:Hid (out.Perm S):=za (by have:=HP.out;rw[hR0,qO]at this;exact this);clear hR0;have HSO2:=za (AZ w4.heap.size u4 out S wr HO.out HP2.out HSO.out (by rw[HP2.out.length_eq];exact hsl));have HOB:=za (zy HO.out)
   go_wp2_with (first
    |(go_at_call 64;(with_reducible refine HSO2.out.mono ?_);rintro e w5 ⟨rfl,ho5,hg5⟩;have HO5:=za ho5;have HG5:=za hg5;clear ho5 hg5))
   all_goals exact xJ (v:=.tuple #[u4,.int .i64 0]) (by simp[results,Tryz.results19,go_sem]) rfl ⟨HB.out.1.grown HG5.out HB.out.1.size (fun r e=>by have:=HOB.out r e;have:=HZ.out;omega),u4,rfl,HO5.out.mono (by have:=HZ.out;omega)⟩
  ·intro xi xj w5 hxR hrg5 hg5 hsz5 hen2
   have HFP:=za (Il HRG.out.nodup hxR)
   have hflt:(R.filter fun p=> !decide (p=(xi,xj))).length<R.length:=by
    have h1:=HFP.out.length_eq;simp only[xv]at h1;omega
   have hol:out.length+R.length=S.length:=by
    have:=HP.out.length_eq
    rwa [yV]at this
   have HR5:=za hrg5;have HB5:Hid (Below w.heap.size w w5/\w4.heap.size<=w5.heap.size):=za ⟨HB.out.1.grown hg5 HB.out.1.size (fun r e=>by cases e;have:=HZ.out;omega),by rw[hsz5];exact HB.out.2⟩;have HO5:Hid (y9 ZD 48 w5 w4.heap.size u4 out):=za (yA HO.out (fun b hb hlt=>hg5.block b hlt (fun e=>by cases e;have h1:=zy HO.out _ hb;have:=HZ.out;omega)));have HOB:=za (zy HO.out);clear hg5 hsz5 hrg5 hxR;have HRX:Hid (∀A,VJ ZD ((w5.alloc A).alloc (.cells #[.int .i64 xi,.int .i64 xj] 48)) (some ⟨w5.heap.size+1,0,none⟩) [(xi,xj)]):=za (fun A=>by have:=V2 (E:=ZD) (w5.alloc A) (xi,xj) 48;rw[vJ]at this;exact this);have hol2:out.length+1<=1000000:=by omega
   go_wp2_with (first
    |(at_builtin;refine qj Sq _ rfl _ _ rfl w4.heap.size u4 out [(xi,xj)] rfl (HO5.out.later ((zd _ _).step (zd _ _))) (some ⟨_,0,none⟩) 1 rfl (HRX.out _) (by simpa using hol2) (by have:=HB5.out.2;simp;omega) ?_;intro v' w6 hown' hgrow hnil;have HOW:=za hown';have HGR:=za hgrow;clear hown' hgrow hnil))
   go_roundg ((R.filter fun p=> !decide (p=(xi,xj))).length);case measure=>omega
   case rel=>
    refine⟨out++ [(xi,xj)],R.filter fun p=> !decide (p=(xi,xj)),zI _,HOW,za ?_,za ?_,za ⟨?_,?_⟩⟩
    ·refine List.Perm.trans ?_ HP.out
     rw[Yr];exact List.Perm.append_left _ HFP.out.symm
    ·exact(HR5.out.below ((zd _ _).step (zd _ _))).kept HGR.out (fun e=>by have:=HOB.out _ e.symm;have:=HZ.out;omega) (fun e=>by have:=HOB.out _ e.symm;have:=HZ.out;omega)
    ·exact(HB5.out.1.step ((zd _ _).step (zd _ _))).grown HGR.out (by have:=HB5.out.1.size;simp;omega) (fun r e=>by have:=HOB.out r e;have:=HZ.out;omega)
    ·exact yP HB5.out.2 (yP (by simp;omega) HGR.out.size)
end Go.Proofs.YtgalekifgnecjaaGreat
