/- replaced of package regs -/
import Derived.Test.YtgalekifgnecjaaGreatT13
namespace Go.Proofs.YtgalekifgnecjaaGreat
open Tryz Go.RowKit Go.Shelf
set_option maxHeartbeats 8000000
set_option maxRecDepth 100000
attribute [local go_sem] Oper.semAt_some
def Zb(x:zm)(wr:Int->Option Int):Option Int:=if 0<=zc x then ZG x.a wr else some x.a
def vz(x:zm)(rd wr:Int->Option Int):Option zm:=
 (Zb x wr).bind fun a=>
  if V4.contains x.op=true then(ZG a rd).map fun a2=>⟨x.op,a2,x.b,x.c⟩
  else if Yy.contains x.op=true then(ZG x.b rd).bind fun b=>(ZG x.c rd).map fun c=>⟨x.op,a,b,c⟩
  else if rdB.contains x.op=true then(ZG x.b rd).map fun b=>⟨x.op,a,b,x.c⟩
  else some ⟨x.op,a,x.b,x.c⟩
def Ks(o:Option zm)(w:World)(e:Ending)(w':World):Prop:=Below w.heap.size w w'/\((∃z,o=some z/\e= .returned (vI z))\/(o=none/\e= .panicked jr))
structure Q6(w:World)(x:zm)(a b c:Int)(w1:World):Prop where
 hb:Below w.heap.size w w1
 h3:w1.heap[w.heap.size]?=some (.cells #[.int .i64 x.op,.int .i64 a,.int .i64 b,.int .i64 c] 85)
 h6:w1.heap[w.heap.size+1]?=some (.cells #[.int .i64 0,.int .i64 0,.int .i64 0,.int .i64 0] 85)
 h7:w1.heap[w.heap.size+1+1]?=some (.cells #[.int .i64 x.op,.int .i64 x.a,.int .i64 x.b,.int .i64 x.c] 85)
theorem Q6.below{w:World}{x:zm}{a b c:Int}{w1 w2:World}(h:Q6 w x a b c w1)(hb:Below w1.heap.size w1 w2):Q6 w x a b c w2:=⟨h.hb.step hb,zb hb h.h3,zb hb h.h6,zb hb h.h7⟩
theorem Q6.set{w:World}{x:zm}{a b c a2 b2 c2:Int}{w1 w2:World}(h:Q6 w x a b c w1)(hg:w1.grownBy w2 (some w.heap.size))(h3:w2.heap[w.heap.size]?=some (.cells #[.int .i64 x.op,.int .i64 a2,.int .i64 b2,.int .i64 c2] 85)):Q6 w x a2 b2 c2 w2:=
 ⟨h.hb.grown hg h.hb.size (fun r e=>by cases e;exact zI _),h3,(hg.block _ (ze h.h6) (fun e=>by injection e with e;omega)).trans h.h6,(hg.block _ (ze h.h7) (fun e=>by injection e with e;omega)).trans h.h7⟩
theorem Q6.first(w:World)(x:zm):Q6 w x x.a x.b x.c (((w.alloc (.cells #[.int .i64 x.op,.int .i64 x.a,.int .i64 x.b,.int .i64 x.c] 85)).alloc (.cells #[.int .i64 0,.int .i64 0,.int .i64 0,.int .i64 0] 85)).alloc (.cells #[.int .i64 x.op,.int .i64 x.a,.int .i64 x.b,.int .i64 x.c] 85)):=
 ⟨((zd w _).step (zd _ _)).step (zd _ _),zb (zd _ _) (zb (zd _ _) (zo _ _ _ rfl)),zb (zd _ _) (zo _ _ _ (by simp)),zo _ _ _ (by simp)⟩
section
variable {w:World} {x:zm} {rd wr:Int->Option Int}
theorem Z5{F:Nat}(eg:xE F){lb:Array Value}{f:Int->Option Int}{D:Int->Prop}{a b c:Int}(k:Nat){y:Int}{w1:World}(hf:Ob F lb f D w)(h:Q6 w x a b c w1)(hy:(#[.int .i64 x.op,.int .i64 a,.int .i64 b,.int .i64 c]:Array Value)[k]?=some (.int .i64 y))(hD:0<=y->D y):
  Calls prog 179 #[.pointer (some ⟨w.heap.size,k,none⟩),.func (.func F) #[] lb] w1 (fun e w'=>(∃v,ZG y f=some v/\e= .returned (.tuple #[])/\w1.grownBy w' (some w.heap.size)/\w'.heap[w.heap.size]?=some (.cells ((#[.int .i64 x.op,.int .i64 a,.int .i64 b,.int .i64 c]:Array Value).setIfInBounds k (.int .i64 v)) 85 (0,0)))\/(ZG y f=none/\e= .panicked jr/\Below w.heap.size w w')):=by
 refine(SF F eg lb f D w w1 w.heap.size k _ 85 y hf h.hb h.h3 hy hD).mono ?_;rintro e w' ⟨hg,(⟨v,h1,h2,h3⟩|⟨h1,h2⟩)⟩
 ·exact .inl ⟨v,h1,h2,hg,h3⟩
 ·exact .inr ⟨h1,h2,h.hb.grown hg h.hb.size (fun r e=>by cases e;exact zI _)⟩
end
theorem Pv(op:Int)(hop:op=4\/op=11\/op=15\/op=16\/op=17\/op=20)(A B C:Int)(F1 F2:Nat)(e1:xE F1)(e2:xE F2)(lb1 lb2:Array Value)(rd wr:Int->Option Int)(D1 D2:Int->Prop)(w:World)(hr:Ob F1 lb1 rd D1 w)(hwc:Ob F2 lb2 wr D2 w)(hD2:0<=zc (⟨op,A,B,C⟩:zm)->0<=A->D2 A)(hD1:0<=B->D1 B):
  Calls prog 113 #[vI (⟨op,A,B,C⟩:zm),.func (.func F1) #[] lb1,.func (.func F2) #[] lb2] w (Ks (vz (⟨op,A,B,C⟩:zm) rd wr) w):=by
 have HW:=za (fun wz=>qz (⟨op,A,B,C⟩:zm) wz);have HR:=za hr;have HWR:=za hwc;have HI:=za (Q6.first w (⟨op,A,B,C⟩:zm));have HE1:=za e1;have HE2:=za e2;have HD1:=za hD2;have HDR:=za hD1;clear hr hwc e1 e2 hD2 hD1;have HO:Hid (vz (⟨op,A,B,C⟩:zm) rd wr=(Zb (⟨op,A,B,C⟩:zm) wr).bind fun a=>(ZG B rd).map fun b=>⟨op,a,b,C⟩):=za (by rcases hop with rfl|rfl|rfl|rfl|rfl|rfl<;>rfl);have HA:Hid (Zb (⟨op,A,B,C⟩:zm) wr=if 0<=zc (⟨op,A,B,C⟩:zm)then ZG A wr else some A):=za rfl;obtain⟨wi,hwi⟩:∃wi,wi=zc (⟨op,A,B,C⟩:zm):=⟨_,rfl⟩
 rw[<-hwi]at HA HW HD1;have HWN:=za hwi;clear hwi;obtain⟨o,ho⟩:∃o,o=vz (⟨op,A,B,C⟩:zm) rd wr:=⟨_,rfl⟩
 rw[<-ho];rw[<-ho]at HO;clear ho;generalize Zb (⟨op,A,B,C⟩:zm) wr=ra at *;obtain⟨wa,hwa⟩:∃wa,wa=((w.alloc (.cells #[.int .i64 op,.int .i64 A,.int .i64 B,.int .i64 C] 85)).alloc (.cells #[.int .i64 0,.int .i64 0,.int .i64 0,.int .i64 0] 85)).alloc (.cells #[.int .i64 op,.int .i64 A,.int .i64 B,.int .i64 C] 85):=⟨_,rfl⟩
 replace HI:Hid (Q6 w (⟨op,A,B,C⟩:zm) A B C wa):=za (by rw[hwa];exact HI.out);obtain⟨q0,q1,q2,q3⟩:=zX HI.out.h7;rcases hop with rfl|rfl|rfl|rfl|rfl|rfl
 all_goals as_aux_lemma=>
  go_enter func113,ntmps113;go_upto_region 3 with fail;rw[<-hwa];clear hwa;by_cases hwp:(0:Int)<=wi
  ·rw[zj hwp]at HA
   go_wp2_with (first
    |(go_at_call 71;(with_reducible refine(HW.out _).mono ?_);rintro e w1 ⟨rfl,hb⟩;have HQ0:=za (HI.out.below hb);clear hb;have S0:=za (Z5 HE2.out 1 HWR.out HQ0.out rfl (HD1.out hwp));obtain⟨q0,q1,q2,q3⟩:=zX HQ0.out.h7)
    |(go_at_call 179;(with_reducible refine S0.out.mono ?_);intro e w2 hor;refine hor.elim (fun h1=> ?_) (fun h2=>by obtain⟨hnn,rfl,hb⟩:=h2;exact⟨rfl,hb,.inr ⟨by rw[HO.out,HA.out,hnn];rfl,rfl⟩⟩);clear hor;obtain⟨v0,hv,rfl,hg,h3⟩:=h1;have E0:=za hv;have HQ1:Hid (Q6 w _ v0 B C w2):=za (HQ0.out.set hg h3);clear hv hg h3;have S1:=za (Z5 HE1.out 2 HR.out HQ1.out rfl HDR.out);obtain⟨q0,q1,q2,q3⟩:=zX HQ1.out.h7)
    |(go_at_call 179;(with_reducible refine S1.out.mono ?_);intro e w3 hor;refine hor.elim (fun h1=> ?_) (fun h2=>by obtain⟨hnn,rfl,hb⟩:=h2;exact⟨rfl,hb,.inr ⟨by rw[HO.out,HA.out,E0.out];simp only[xz,hnn];rfl,rfl⟩⟩);clear hor;obtain⟨v1,hv,rfl,hg,h3⟩:=h1;have E1:=za hv;have HQ2:Hid (Q6 w _ v0 v1 C w3):=za (HQ1.out.set hg h3);clear hv hg h3;obtain⟨x0,x1,x2,x3⟩:=zX HQ2.out.h3;obtain⟨y0,y1,y2,y3⟩:=zX HQ2.out.h6;obtain⟨q0,q1,q2,q3⟩:=zX HQ2.out.h7;have f0:=zF 0 HQ2.out.h6;have f1:=zF 1 HQ2.out.h6;have f2:=zF 2 HQ2.out.h6;have f3:=zF 3 HQ2.out.h6))
   exact xJ (v:=vI ⟨_,v0,v1,C⟩) (results_cell_row rfl _ _ (w.heap.size+1) 85 _ (0,0) _ rfl (VO HQ2.out.h6 _ _ _ _) Tryz.underlying85 rfl ZF) rfl ⟨(((HQ2.out.hb.setCell (p:=⟨w.heap.size+1,0,none⟩) (xH _) _).setCell (p:=⟨w.heap.size+1,1,none⟩) (xH _) _).setCell (p:=⟨w.heap.size+1,2,none⟩) (xH _) _).setCell (p:=⟨w.heap.size+1,3,none⟩) (xH _) _,.inl ⟨_,by rw[HO.out,HA.out,E0.out];simp only[xz,E1.out,Option.map_some],rfl⟩⟩
  ·rw[zi hwp]at HA
   go_wp2_with (first
    |(go_at_call 71;(with_reducible refine(HW.out _).mono ?_);rintro e w1 ⟨rfl,hb⟩;have HQ0:=za (HI.out.below hb);clear hb;have S0:=za (Z5 HE1.out 2 HR.out HQ0.out rfl HDR.out);obtain⟨q0,q1,q2,q3⟩:=zX HQ0.out.h7)
    |(go_at_call 179;(with_reducible refine S0.out.mono ?_);intro e w2 hor;refine hor.elim (fun h1=> ?_) (fun h2=>by obtain⟨hnn,rfl,hb⟩:=h2;exact⟨rfl,hb,.inr ⟨by rw[HO.out,HA.out];simp only[xz,hnn];rfl,rfl⟩⟩);clear hor;obtain⟨v0,hv,rfl,hg,h3⟩:=h1;have E0:=za hv;have HQ1:Hid (Q6 w _ A v0 C w2):=za (HQ0.out.set hg h3);clear hv hg h3;obtain⟨x0,x1,x2,x3⟩:=zX HQ1.out.h3;obtain⟨y0,y1,y2,y3⟩:=zX HQ1.out.h6;obtain⟨q0,q1,q2,q3⟩:=zX HQ1.out.h7;have f0:=zF 0 HQ1.out.h6;have f1:=zF 1 HQ1.out.h6;have f2:=zF 2 HQ1.out.h6;have f3:=zF 3 HQ1.out.h6))
   exact xJ (v:=vI ⟨_,A,v0,C⟩) (results_cell_row rfl _ _ (w.heap.size+1) 85 _ (0,0) _ rfl (VO HQ1.out.h6 _ _ _ _) Tryz.underlying85 rfl ZF) rfl ⟨(((HQ1.out.hb.setCell (p:=⟨w.heap.size+1,0,none⟩) (xH _) _).setCell (p:=⟨w.heap.size+1,1,none⟩) (xH _) _).setCell (p:=⟨w.heap.size+1,2,none⟩) (xH _) _).setCell (p:=⟨w.heap.size+1,3,none⟩) (xH _) _,.inl ⟨_,by rw[HO.out,HA.out];simp only[xz,E0.out,Option.map_some],rfl⟩⟩
theorem Pu(op:Int)(hop:op=18\/op=19)(A B C:Int)(F1 F2:Nat)(e1:xE F1)(e2:xE F2)(lb1 lb2:Array Value)(rd wr:Int->Option Int)(D1 D2:Int->Prop)(w:World)(hr:Ob F1 lb1 rd D1 w)(hwc:Ob F2 lb2 wr D2 w)(hD2:0<=zc (⟨op,A,B,C⟩:zm)->0<=A->D2 A)(hD1:0<=B->D1 B):
  Calls prog 113 #[vI (⟨op,A,B,C⟩:zm),.func (.func F1) #[] lb1,.func (.func F2) #[] lb2] w (Ks (vz (⟨op,A,B,C⟩:zm) rd wr) w):=by
 have HW:=za (fun wz=>qz (⟨op,A,B,C⟩:zm) wz);have HR:=za hr;have HWR:=za hwc;have HI:=za (Q6.first w (⟨op,A,B,C⟩:zm));have HE1:=za e1;have HE2:=za e2;have HD1:=za hD2;have HDR:=za hD1;clear hr hwc e1 e2 hD2 hD1;have HO:Hid (vz (⟨op,A,B,C⟩:zm) rd wr=(Zb (⟨op,A,B,C⟩:zm) wr).bind fun a=>(ZG B rd).map fun b=>⟨op,a,b,C⟩):=za (by rcases hop with rfl|rfl<;>rfl);have HA:Hid (Zb (⟨op,A,B,C⟩:zm) wr=if 0<=zc (⟨op,A,B,C⟩:zm)then ZG A wr else some A):=za rfl;obtain⟨wi,hwi⟩:∃wi,wi=zc (⟨op,A,B,C⟩:zm):=⟨_,rfl⟩
 rw[<-hwi]at HA HW HD1;have HWN:=za hwi;clear hwi;obtain⟨o,ho⟩:∃o,o=vz (⟨op,A,B,C⟩:zm) rd wr:=⟨_,rfl⟩
 rw[<-ho];rw[<-ho]at HO;clear ho;generalize Zb (⟨op,A,B,C⟩:zm) wr=ra at *;obtain⟨wa,hwa⟩:∃wa,wa=((w.alloc (.cells #[.int .i64 op,.int .i64 A,.int .i64 B,.int .i64 C] 85)).alloc (.cells #[.int .i64 0,.int .i64 0,.int .i64 0,.int .i64 0] 85)).alloc (.cells #[.int .i64 op,.int .i64 A,.int .i64 B,.int .i64 C] 85):=⟨_,rfl⟩
 replace HI:Hid (Q6 w (⟨op,A,B,C⟩:zm) A B C wa):=za (by rw[hwa];exact HI.out);obtain⟨q0,q1,q2,q3⟩:=zX HI.out.h7;rcases hop with rfl|rfl
 all_goals as_aux_lemma=>
  go_enter func113,ntmps113;go_upto_region 3 with fail;rw[<-hwa];clear hwa;by_cases hwp:(0:Int)<=wi
  ·exact absurd hwp (by rw[HWN.out];unfold zc;rw[zj (by dsimp only;decide)];omega)
  ·rw[zi hwp]at HA
   go_wp2_with (first
    |(go_at_call 71;(with_reducible refine(HW.out _).mono ?_);rintro e w1 ⟨rfl,hb⟩;have HQ0:=za (HI.out.below hb);clear hb;have S0:=za (Z5 HE1.out 2 HR.out HQ0.out rfl HDR.out);obtain⟨q0,q1,q2,q3⟩:=zX HQ0.out.h7)
    |(go_at_call 179;(with_reducible refine S0.out.mono ?_);intro e w2 hor;refine hor.elim (fun h1=> ?_) (fun h2=>by obtain⟨hnn,rfl,hb⟩:=h2;exact⟨rfl,hb,.inr ⟨by rw[HO.out,HA.out];simp only[xz,hnn];rfl,rfl⟩⟩);clear hor;obtain⟨v0,hv,rfl,hg,h3⟩:=h1;have E0:=za hv;have HQ1:Hid (Q6 w _ A v0 C w2):=za (HQ0.out.set hg h3);clear hv hg h3;obtain⟨x0,x1,x2,x3⟩:=zX HQ1.out.h3;obtain⟨y0,y1,y2,y3⟩:=zX HQ1.out.h6;obtain⟨q0,q1,q2,q3⟩:=zX HQ1.out.h7;have f0:=zF 0 HQ1.out.h6;have f1:=zF 1 HQ1.out.h6;have f2:=zF 2 HQ1.out.h6;have f3:=zF 3 HQ1.out.h6))
   exact xJ (v:=vI ⟨_,A,v0,C⟩) (results_cell_row rfl _ _ (w.heap.size+1) 85 _ (0,0) _ rfl (VO HQ1.out.h6 _ _ _ _) Tryz.underlying85 rfl ZF) rfl ⟨(((HQ1.out.hb.setCell (p:=⟨w.heap.size+1,0,none⟩) (xH _) _).setCell (p:=⟨w.heap.size+1,1,none⟩) (xH _) _).setCell (p:=⟨w.heap.size+1,2,none⟩) (xH _) _).setCell (p:=⟨w.heap.size+1,3,none⟩) (xH _) _,.inl ⟨_,by rw[HO.out,HA.out];simp only[xz,E0.out,Option.map_some],rfl⟩⟩
theorem Mz(op:Int)(hop:op=6\/op=7\/op=8\/op=9\/op=10\/op=12\/op=13\/op=14)(A B C:Int)(F1 F2:Nat)(e1:xE F1)(e2:xE F2)(lb1 lb2:Array Value)(rd wr:Int->Option Int)(D1 D2:Int->Prop)(w:World)(hr:Ob F1 lb1 rd D1 w)(hwc:Ob F2 lb2 wr D2 w)(hD2:0<=zc (⟨op,A,B,C⟩:zm)->0<=A->D2 A)(hD1:0<=B->D1 B)(hD3:0<=C->D1 C):
  Calls prog 113 #[vI (⟨op,A,B,C⟩:zm),.func (.func F1) #[] lb1,.func (.func F2) #[] lb2] w (Ks (vz (⟨op,A,B,C⟩:zm) rd wr) w):=by
 have HW:=za (fun wz=>qz (⟨op,A,B,C⟩:zm) wz);have HR:=za hr;have HWR:=za hwc;have HI:=za (Q6.first w (⟨op,A,B,C⟩:zm));have HE1:=za e1;have HE2:=za e2;have HD1:=za hD2;have HDR:=za hD1;have HDC:=za hD3;clear hr hwc e1 e2 hD2 hD1 hD3;have HO:Hid (vz (⟨op,A,B,C⟩:zm) rd wr=(Zb (⟨op,A,B,C⟩:zm) wr).bind fun a=>(ZG B rd).bind fun b=>(ZG C rd).map fun c=>⟨op,a,b,c⟩):=za (by rcases hop with rfl|rfl|rfl|rfl|rfl|rfl|rfl|rfl<;>rfl);have HA:Hid (Zb (⟨op,A,B,C⟩:zm) wr=if 0<=zc (⟨op,A,B,C⟩:zm)then ZG A wr else some A):=za rfl;obtain⟨wi,hwi⟩:∃wi,wi=zc (⟨op,A,B,C⟩:zm):=⟨_,rfl⟩
 rw[<-hwi]at HA HW HD1;have HWN:=za hwi;clear hwi;obtain⟨o,ho⟩:∃o,o=vz (⟨op,A,B,C⟩:zm) rd wr:=⟨_,rfl⟩
 rw[<-ho];rw[<-ho]at HO;clear ho;generalize Zb (⟨op,A,B,C⟩:zm) wr=ra at *;obtain⟨wa,hwa⟩:∃wa,wa=((w.alloc (.cells #[.int .i64 op,.int .i64 A,.int .i64 B,.int .i64 C] 85)).alloc (.cells #[.int .i64 0,.int .i64 0,.int .i64 0,.int .i64 0] 85)).alloc (.cells #[.int .i64 op,.int .i64 A,.int .i64 B,.int .i64 C] 85):=⟨_,rfl⟩
 replace HI:Hid (Q6 w (⟨op,A,B,C⟩:zm) A B C wa):=za (by rw[hwa];exact HI.out);obtain⟨q0,q1,q2,q3⟩:=zX HI.out.h7;rcases hop with rfl|rfl|rfl|rfl|rfl|rfl|rfl|rfl
 all_goals as_aux_lemma=>
  go_enter func113,ntmps113;go_upto_region 3 with fail;rw[<-hwa];clear hwa;by_cases hwp:(0:Int)<=wi
  ·rw[zj hwp]at HA
   go_wp2_with (first
    |(go_at_call 71;(with_reducible refine(HW.out _).mono ?_);rintro e w1 ⟨rfl,hb⟩;have HQ0:=za (HI.out.below hb);clear hb;have S0:=za (Z5 HE2.out 1 HWR.out HQ0.out rfl (HD1.out hwp));obtain⟨q0,q1,q2,q3⟩:=zX HQ0.out.h7)
    |(go_at_call 179;(with_reducible refine S0.out.mono ?_);intro e w2 hor;refine hor.elim (fun h1=> ?_) (fun h2=>by obtain⟨hnn,rfl,hb⟩:=h2;exact⟨rfl,hb,.inr ⟨by rw[HO.out,HA.out,hnn];rfl,rfl⟩⟩);clear hor;obtain⟨v0,hv,rfl,hg,h3⟩:=h1;have E0:=za hv;have HQ1:Hid (Q6 w _ v0 B C w2):=za (HQ0.out.set hg h3);clear hv hg h3;have S1:=za (Z5 HE1.out 2 HR.out HQ1.out rfl HDR.out);obtain⟨q0,q1,q2,q3⟩:=zX HQ1.out.h7)
    |(go_at_call 179;(with_reducible refine S1.out.mono ?_);intro e w3 hor;refine hor.elim (fun h1=> ?_) (fun h2=>by obtain⟨hnn,rfl,hb⟩:=h2;exact⟨rfl,hb,.inr ⟨by rw[HO.out,HA.out,E0.out];simp only[xz,hnn];rfl,rfl⟩⟩);clear hor;obtain⟨v1,hv,rfl,hg,h3⟩:=h1;have E1:=za hv;have HQ2:Hid (Q6 w _ v0 v1 C w3):=za (HQ1.out.set hg h3);clear hv hg h3;have S2:=za (Z5 HE1.out 3 HR.out HQ2.out rfl HDC.out);obtain⟨q0,q1,q2,q3⟩:=zX HQ2.out.h7)
    |(go_at_call 179;(with_reducible refine S2.out.mono ?_);intro e w4 hor;refine hor.elim (fun h1=> ?_) (fun h2=>by obtain⟨hnn,rfl,hb⟩:=h2;exact⟨rfl,hb,.inr ⟨by rw[HO.out,HA.out,E0.out];simp only[xz,E1.out,hnn];rfl,rfl⟩⟩);clear hor;obtain⟨v2,hv,rfl,hg,h3⟩:=h1;have E2:=za hv;have HQ3:Hid (Q6 w _ v0 v1 v2 w4):=za (HQ2.out.set hg h3);clear hv hg h3;obtain⟨x0,x1,x2,x3⟩:=zX HQ3.out.h3;obtain⟨y0,y1,y2,y3⟩:=zX HQ3.out.h6;obtain⟨q0,q1,q2,q3⟩:=zX HQ3.out.h7;have f0:=zF 0 HQ3.out.h6;have f1:=zF 1 HQ3.out.h6;have f2:=zF 2 HQ3.out.h6;have f3:=zF 3 HQ3.out.h6))
   exact xJ (v:=vI ⟨_,v0,v1,v2⟩) (results_cell_row rfl _ _ (w.heap.size+1) 85 _ (0,0) _ rfl (VO HQ3.out.h6 _ _ _ _) Tryz.underlying85 rfl ZF) rfl ⟨(((HQ3.out.hb.setCell (p:=⟨w.heap.size+1,0,none⟩) (xH _) _).setCell (p:=⟨w.heap.size+1,1,none⟩) (xH _) _).setCell (p:=⟨w.heap.size+1,2,none⟩) (xH _) _).setCell (p:=⟨w.heap.size+1,3,none⟩) (xH _) _,.inl ⟨_,by rw[HO.out,HA.out,E0.out];simp only[xz,E1.out,E2.out,Option.map_some],rfl⟩⟩
  ·rw[zi hwp]at HA
   go_wp2_with (first
    |(go_at_call 71;(with_reducible refine(HW.out _).mono ?_);rintro e w1 ⟨rfl,hb⟩;have HQ0:=za (HI.out.below hb);clear hb;have S0:=za (Z5 HE1.out 2 HR.out HQ0.out rfl HDR.out);obtain⟨q0,q1,q2,q3⟩:=zX HQ0.out.h7)
    |(go_at_call 179;(with_reducible refine S0.out.mono ?_);intro e w2 hor;refine hor.elim (fun h1=> ?_) (fun h2=>by obtain⟨hnn,rfl,hb⟩:=h2;exact⟨rfl,hb,.inr ⟨by rw[HO.out,HA.out];simp only[xz,hnn];rfl,rfl⟩⟩);clear hor;obtain⟨v0,hv,rfl,hg,h3⟩:=h1;have E0:=za hv;have HQ1:Hid (Q6 w _ A v0 C w2):=za (HQ0.out.set hg h3);clear hv hg h3;have S1:=za (Z5 HE1.out 3 HR.out HQ1.out rfl HDC.out);obtain⟨q0,q1,q2,q3⟩:=zX HQ1.out.h7)
    |(go_at_call 179;(with_reducible refine S1.out.mono ?_);intro e w3 hor;refine hor.elim (fun h1=> ?_) (fun h2=>by obtain⟨hnn,rfl,hb⟩:=h2;exact⟨rfl,hb,.inr ⟨by rw[HO.out,HA.out];simp only[xz,E0.out,hnn];rfl,rfl⟩⟩);clear hor;obtain⟨v1,hv,rfl,hg,h3⟩:=h1;have E1:=za hv;have HQ2:Hid (Q6 w _ A v0 v1 w3):=za (HQ1.out.set hg h3);clear hv hg h3;obtain⟨x0,x1,x2,x3⟩:=zX HQ2.out.h3;obtain⟨y0,y1,y2,y3⟩:=zX HQ2.out.h6;obtain⟨q0,q1,q2,q3⟩:=zX HQ2.out.h7;have f0:=zF 0 HQ2.out.h6;have f1:=zF 1 HQ2.out.h6;have f2:=zF 2 HQ2.out.h6;have f3:=zF 3 HQ2.out.h6))
   exact xJ (v:=vI ⟨_,A,v0,v1⟩) (results_cell_row rfl _ _ (w.heap.size+1) 85 _ (0,0) _ rfl (VO HQ2.out.h6 _ _ _ _) Tryz.underlying85 rfl ZF) rfl ⟨(((HQ2.out.hb.setCell (p:=⟨w.heap.size+1,0,none⟩) (xH _) _).setCell (p:=⟨w.heap.size+1,1,none⟩) (xH _) _).setCell (p:=⟨w.heap.size+1,2,none⟩) (xH _) _).setCell (p:=⟨w.heap.size+1,3,none⟩) (xH _) _,.inl ⟨_,by rw[HO.out,HA.out];simp only[xz,E0.out,E1.out,Option.map_some],rfl⟩⟩
theorem Pw(op:Int)(hop:op=22\/op=23\/op=28\/op=29\/op=25\/op=30\/op=32)(A B C:Int)(F1 F2:Nat)(e1:xE F1)(e2:xE F2)(lb1 lb2:Array Value)(rd wr:Int->Option Int)(D1 D2:Int->Prop)(w:World)(hr:Ob F1 lb1 rd D1 w)(hwc:Ob F2 lb2 wr D2 w)(hD2:0<=zc (⟨op,A,B,C⟩:zm)->0<=A->D2 A)(hD1:0<=A->D1 A):
  Calls prog 113 #[vI (⟨op,A,B,C⟩:zm),.func (.func F1) #[] lb1,.func (.func F2) #[] lb2] w (Ks (vz (⟨op,A,B,C⟩:zm) rd wr) w):=by
 have HW:=za (fun wz=>qz (⟨op,A,B,C⟩:zm) wz);have HR:=za hr;have HWR:=za hwc;have HI:=za (Q6.first w (⟨op,A,B,C⟩:zm));have HE1:=za e1;have HE2:=za e2;have HD1:=za hD2;have HDR:=za hD1;clear hr hwc e1 e2 hD2 hD1;have HO:Hid (vz (⟨op,A,B,C⟩:zm) rd wr=(Zb (⟨op,A,B,C⟩:zm) wr).bind fun a=>(ZG a rd).map fun a2=>⟨op,a2,B,C⟩):=za (by rcases hop with rfl|rfl|rfl|rfl|rfl|rfl|rfl<;>rfl);have HA:Hid (Zb (⟨op,A,B,C⟩:zm) wr=if 0<=zc (⟨op,A,B,C⟩:zm)then ZG A wr else some A):=za rfl;obtain⟨wi,hwi⟩:∃wi,wi=zc (⟨op,A,B,C⟩:zm):=⟨_,rfl⟩
 rw[<-hwi]at HA HW HD1;have HWN:=za hwi;clear hwi;obtain⟨o,ho⟩:∃o,o=vz (⟨op,A,B,C⟩:zm) rd wr:=⟨_,rfl⟩
 rw[<-ho];rw[<-ho]at HO;clear ho;generalize Zb (⟨op,A,B,C⟩:zm) wr=ra at *;obtain⟨wa,hwa⟩:∃wa,wa=((w.alloc (.cells #[.int .i64 op,.int .i64 A,.int .i64 B,.int .i64 C] 85)).alloc (.cells #[.int .i64 0,.int .i64 0,.int .i64 0,.int .i64 0] 85)).alloc (.cells #[.int .i64 op,.int .i64 A,.int .i64 B,.int .i64 C] 85):=⟨_,rfl⟩
 replace HI:Hid (Q6 w (⟨op,A,B,C⟩:zm) A B C wa):=za (by rw[hwa];exact HI.out);obtain⟨q0,q1,q2,q3⟩:=zX HI.out.h7;rcases hop with rfl|rfl|rfl|rfl|rfl|rfl|rfl
 all_goals as_aux_lemma=>
  go_enter func113,ntmps113;go_upto_region 3 with fail;rw[<-hwa];clear hwa;by_cases hwp:(0:Int)<=wi
  ·exact absurd hwp (by rw[HWN.out];unfold zc;rw[zj (by dsimp only;decide)];omega)
  ·rw[zi hwp]at HA
   go_wp2_with (first
    |(go_at_call 71;(with_reducible refine(HW.out _).mono ?_);rintro e w1 ⟨rfl,hb⟩;have HQ0:=za (HI.out.below hb);clear hb;have S0:=za (Z5 HE1.out 1 HR.out HQ0.out rfl HDR.out);obtain⟨q0,q1,q2,q3⟩:=zX HQ0.out.h7)
    |(go_at_call 179;(with_reducible refine S0.out.mono ?_);intro e w2 hor;refine hor.elim (fun h1=> ?_) (fun h2=>by obtain⟨hnn,rfl,hb⟩:=h2;exact⟨rfl,hb,.inr ⟨by rw[HO.out,HA.out];simp only[xz,hnn];rfl,rfl⟩⟩);clear hor;obtain⟨v0,hv,rfl,hg,h3⟩:=h1;have E0:=za hv;have HQ1:Hid (Q6 w _ v0 B C w2):=za (HQ0.out.set hg h3);clear hv hg h3;obtain⟨x0,x1,x2,x3⟩:=zX HQ1.out.h3;obtain⟨y0,y1,y2,y3⟩:=zX HQ1.out.h6;obtain⟨q0,q1,q2,q3⟩:=zX HQ1.out.h7;have f0:=zF 0 HQ1.out.h6;have f1:=zF 1 HQ1.out.h6;have f2:=zF 2 HQ1.out.h6;have f3:=zF 3 HQ1.out.h6))
   exact xJ (v:=vI ⟨_,v0,B,C⟩) (results_cell_row rfl _ _ (w.heap.size+1) 85 _ (0,0) _ rfl (VO HQ1.out.h6 _ _ _ _) Tryz.underlying85 rfl ZF) rfl ⟨(((HQ1.out.hb.setCell (p:=⟨w.heap.size+1,0,none⟩) (xH _) _).setCell (p:=⟨w.heap.size+1,1,none⟩) (xH _) _).setCell (p:=⟨w.heap.size+1,2,none⟩) (xH _) _).setCell (p:=⟨w.heap.size+1,3,none⟩) (xH _) _,.inl ⟨_,by rw[HO.out,HA.out];simp only[xz,E0.out,Option.map_some],rfl⟩⟩
theorem Mx(op:Int)(n4:op≠4)(n11:op≠11)(n15:op≠15)(n16:op≠16)(n17:op≠17)(n18:op≠18)(n19:op≠19)(n20:op≠20)(n6:op≠6)(n7:op≠7)(n8:op≠8)(n9:op≠9)(n10:op≠10)(n12:op≠12)(n13:op≠13)(n14:op≠14)(n22:op≠22)(n23:op≠23)(n28:op≠28)(n29:op≠29)(n25:op≠25)(n30:op≠30)(n32:op≠32)(A B C:Int)(F1 F2:Nat)(e1:xE F1)(e2:xE F2)(lb1 lb2:Array Value)(rd wr:Int->Option Int)(D1 D2:Int->Prop)(w:World)(hr:Ob F1 lb1 rd D1 w)(hwc:Ob F2 lb2 wr D2 w)(hD2:0<=zc (⟨op,A,B,C⟩:zm)->0<=A->D2 A):
  Calls prog 113 #[vI (⟨op,A,B,C⟩:zm),.func (.func F1) #[] lb1,.func (.func F2) #[] lb2] w (Ks (vz (⟨op,A,B,C⟩:zm) rd wr) w):=by
 have HW:=za (fun wz=>qz (⟨op,A,B,C⟩:zm) wz);have HR:=za hr;have HWR:=za hwc;have HI:=za (Q6.first w (⟨op,A,B,C⟩:zm));have HE1:=za e1;have HE2:=za e2;have HD1:=za hD2;clear hr hwc e1 e2 hD2;have d4:(op==4)=false:=by simpa using n4
 have d11:(op==11)=false:=by simpa using n11
 have d15:(op==15)=false:=by simpa using n15
 have d16:(op==16)=false:=by simpa using n16
 have d17:(op==17)=false:=by simpa using n17
 have d18:(op==18)=false:=by simpa using n18
 have d19:(op==19)=false:=by simpa using n19
 have d20:(op==20)=false:=by simpa using n20
 have d6:(op==6)=false:=by simpa using n6
 have d7:(op==7)=false:=by simpa using n7
 have d8:(op==8)=false:=by simpa using n8
 have d9:(op==9)=false:=by simpa using n9
 have d10:(op==10)=false:=by simpa using n10
 have d12:(op==12)=false:=by simpa using n12
 have d13:(op==13)=false:=by simpa using n13
 have d14:(op==14)=false:=by simpa using n14
 have d22:(op==22)=false:=by simpa using n22
 have d23:(op==23)=false:=by simpa using n23
 have d28:(op==28)=false:=by simpa using n28
 have d29:(op==29)=false:=by simpa using n29
 have d25:(op==25)=false:=by simpa using n25
 have d30:(op==30)=false:=by simpa using n30
 have d32:(op==32)=false:=by simpa using n32
 have HO:Hid (vz (⟨op,A,B,C⟩:zm) rd wr=(Zb (⟨op,A,B,C⟩:zm) wr).bind fun a=>some ⟨op,a,B,C⟩):=za (by
  unfold vz;have hA:V4.contains op=false:=by unfold V4;simp[n22,n23,n28,n29,n25,n30,n32]
  have hBC:Yy.contains op=false:=by unfold Yy;simp[n6,n7,n8,n9,n10,n12,n13,n14]
  have hB:rdB.contains op=false:=by unfold rdB;simp[n4,n11,n15,n16,n17,n18,n19,n20]
  simp only[hA,hBC,hB,XH,if_false])
 clear n4 n11 n15 n16 n17 n18 n19 n20 n6 n7 n8 n9 n10 n12 n13 n14 n22 n23 n28 n29 n25 n30 n32;have HA:Hid (Zb (⟨op,A,B,C⟩:zm) wr=if 0<=zc (⟨op,A,B,C⟩:zm)then ZG A wr else some A):=za rfl;obtain⟨wi,hwi⟩:∃wi,wi=zc (⟨op,A,B,C⟩:zm):=⟨_,rfl⟩
 rw[<-hwi]at HA HW HD1;have HWN:=za hwi;clear hwi;obtain⟨o,ho⟩:∃o,o=vz (⟨op,A,B,C⟩:zm) rd wr:=⟨_,rfl⟩
 rw[<-ho];rw[<-ho]at HO;clear ho;generalize Zb (⟨op,A,B,C⟩:zm) wr=ra at *;obtain⟨wa,hwa⟩:∃wa,wa=((w.alloc (.cells #[.int .i64 op,.int .i64 A,.int .i64 B,.int .i64 C] 85)).alloc (.cells #[.int .i64 0,.int .i64 0,.int .i64 0,.int .i64 0] 85)).alloc (.cells #[.int .i64 op,.int .i64 A,.int .i64 B,.int .i64 C] 85):=⟨_,rfl⟩
 replace HI:Hid (Q6 w (⟨op,A,B,C⟩:zm) A B C wa):=za (by rw[hwa];exact HI.out);obtain⟨q0,q1,q2,q3⟩:=zX HI.out.h7;go_enter func113,ntmps113;go_upto_region 3 with fail;rw[<-hwa];clear hwa;by_cases hwp:(0:Int)<=wi
 ·rw[zj hwp]at HA
  go_wp2_with (first
   |(go_at_call 71;(with_reducible refine(HW.out _).mono ?_);rintro e w1 ⟨rfl,hb⟩;have HQ0:=za (HI.out.below hb);clear hb;have S0:=za (Z5 HE2.out 1 HWR.out HQ0.out rfl (HD1.out hwp));obtain⟨q0,q1,q2,q3⟩:=zX HQ0.out.h7)
   |(go_at_call 179;(with_reducible refine S0.out.mono ?_);intro e w2 hor;refine hor.elim (fun h1=> ?_) (fun h2=>by obtain⟨hnn,rfl,hb⟩:=h2;exact⟨rfl,hb,.inr ⟨by rw[HO.out,HA.out,hnn];rfl,rfl⟩⟩);clear hor;obtain⟨v0,hv,rfl,hg,h3⟩:=h1;have E0:=za hv;have HQ1:Hid (Q6 w (⟨op,A,B,C⟩:zm) v0 B C w2):=za (HQ0.out.set hg h3);clear hv hg h3;obtain⟨x0,x1,x2,x3⟩:=zX HQ1.out.h3;obtain⟨y0,y1,y2,y3⟩:=zX HQ1.out.h6;obtain⟨q0,q1,q2,q3⟩:=zX HQ1.out.h7;have f0:=zF 0 HQ1.out.h6;have f1:=zF 1 HQ1.out.h6;have f2:=zF 2 HQ1.out.h6;have f3:=zF 3 HQ1.out.h6))
  exact xJ (v:=vI ⟨op,v0,B,C⟩) (results_cell_row rfl _ _ (w.heap.size+1) 85 _ (0,0) _ rfl (VO HQ1.out.h6 _ _ _ _) Tryz.underlying85 rfl ZF) rfl ⟨(((HQ1.out.hb.setCell (p:=⟨w.heap.size+1,0,none⟩) (xH _) _).setCell (p:=⟨w.heap.size+1,1,none⟩) (xH _) _).setCell (p:=⟨w.heap.size+1,2,none⟩) (xH _) _).setCell (p:=⟨w.heap.size+1,3,none⟩) (xH _) _,.inl ⟨_,by rw[HO.out,HA.out,E0.out];simp only[xz],rfl⟩⟩
 ·rw[zi hwp]at HA
  go_wp2_with (first
   |(go_at_call 71;(with_reducible refine(HW.out _).mono ?_);rintro e w1 ⟨rfl,hb⟩;have HQ0:=za (HI.out.below hb);clear hb;obtain⟨x0,x1,x2,x3⟩:=zX HQ0.out.h3;obtain⟨y0,y1,y2,y3⟩:=zX HQ0.out.h6;obtain⟨q0,q1,q2,q3⟩:=zX HQ0.out.h7;have f0:=zF 0 HQ0.out.h6;have f1:=zF 1 HQ0.out.h6;have f2:=zF 2 HQ0.out.h6;have f3:=zF 3 HQ0.out.h6))
  exact xJ (v:=vI ⟨op,A,B,C⟩) (results_cell_row rfl _ _ (w.heap.size+1) 85 _ (0,0) _ rfl (VO HQ0.out.h6 _ _ _ _) Tryz.underlying85 rfl ZF) rfl ⟨(((HQ0.out.hb.setCell (p:=⟨w.heap.size+1,0,none⟩) (xH _) _).setCell (p:=⟨w.heap.size+1,1,none⟩) (xH _) _).setCell (p:=⟨w.heap.size+1,2,none⟩) (xH _) _).setCell (p:=⟨w.heap.size+1,3,none⟩) (xH _) _,.inl ⟨_,by rw[HO.out,HA.out];simp only[xz],rfl⟩⟩
end Go.Proofs.YtgalekifgnecjaaGreat
