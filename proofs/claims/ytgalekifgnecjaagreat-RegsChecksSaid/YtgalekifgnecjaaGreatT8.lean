/- The reader of package regs: what it holds; next -/
import Derived.Test.YtgalekifgnecjaaGreatS6
import Derived.Test.YtgalekifgnecjaaGreatR1
import Derived.Laws.StructEq
namespace Go.Proofs.YtgalekifgnecjaaGreat
open Tryz Go.RowKit
open Go.RowKit Go.Shelf
set_option maxHeartbeats 8000000
set_option maxRecDepth 100000
attribute [local go_sem] Oper.semAt_some
structure qF where
 u:zg
 v:zg
 h:List Int
 t:List Int
 ca:Option Addr
 cc:Nat
 ga:Option Addr
 gc:Nat
 va:Option Addr
 vc:Nat
 da:Option Addr
 dc:Nat
 ea:Option Addr
 ec:Nat
 ha:Option Addr
 hc:Nat
 ta:Option Addr
 tc:Nat
abbrev qF.o(r:qF)(a:Nat):Obj:=.cells #[.string r.u.cls,.string r.u.name,.int .i64 r.u.args,.int .i64 r.u.slots,.int .i64 r.u.frame,.slice r.ca r.u.code.length r.cc,.slice r.ga r.u.guards.length r.gc,.slice r.va (zf r.u).length r.vc,
 .string r.v.cls,.string r.v.name,.int .i64 r.v.args,.int .i64 r.v.slots,.int .i64 r.v.frame,.slice r.da r.v.code.length r.dc,.slice r.ea r.v.guards.length r.ec,.slice r.ha r.h.length r.hc,.slice r.ta r.t.length r.tc,.int .i64 a] 179
structure Xs(w:World)(r:qF):Prop where
 mu:jo w r.u r.ca r.cc r.ga r.gc
 ml:QC w r.va (zf r.u)
 mv:jo w r.v r.da r.dc r.ea r.ec
 mh:yC w r.ha r.h
 mt:yC w r.ta r.t
theorem Xs.below{w w':World}{r:qF}(h:Xs w r)(hb:Below w.heap.size w w'):Xs w' r:=⟨h.mu.below hb,h.ml.below hb,h.mv.below hb,h.mh.below hb,h.mt.below hb⟩
structure RI(w0:World)(r:qF)(a:Nat)(w:World):Prop where
 hb:Below w0.heap.size w0 w
 hr:w.heap[w0.heap.size]?=some (r.o a)
theorem RI.below{w0:World}{r:qF}{a:Nat}{w w':World}(h:RI w0 r a w)(hb:Below w.heap.size w w'):RI w0 r a w':=⟨h.hb.step hb,zb hb h.hr⟩
theorem RI.grown{w0:World}{r:qF}{a:Nat}{w w':World}{row:Option Nat}(h:RI w0 r a w)(hg:w.grownBy w' row)(hr:∀k,row=some k->w0.heap.size<k):RI w0 r a w':=
 ⟨h.hb.grown hg h.hb.size (fun k e=>Nat.le_of_lt (hr k e)),(hg.block _ (ze h.hr) (fun e=>by have:=hr _ e.symm;omega)).trans h.hr⟩
theorem RI.set{w0:World}{r:qF}{a:Nat}{w:World}(h:RI w0 r a w)(b:Nat):RI w0 r b (w.setCell ⟨w0.heap.size,17,none⟩ (.int .i64 b)):=
 ⟨h.hb.setCell (p:=⟨w0.heap.size,17,none⟩) (zI _) _,yk _ _ 17 _ _ _ h.hr⟩
def RP(w0:World)(r:qF)(o:Option Nat)(w:World)(e:Ending)(w':World):Prop:=
 w.grownBy w' (some w0.heap.size)/\match o with
  |some b=>e= .returned (.tuple #[])/\RI w0 r b w'
  |none=>e= .panicked jr
theorem yw{w w':World}(h:Below w.heap.size w w')(row:Option Nat):w.grownBy w' row:=⟨h.os,h.tape,h.output,h.size,fun k hk _=>h.block k hk⟩
theorem vv(w:World)(row:Option Nat):w.grownBy w row:=⟨rfl,rfl,rfl,zI _,fun _ _ _=>rfl⟩
theorem YO{w W:World}{row:Option Nat}(h:w.grownBy W row){b:Nat}(o:Nat)(v:Value)(hb:row=some b\/w.heap.size<=b):w.grownBy (W.setCell ⟨b,o,none⟩ v) row:=by
 refine⟨h.os,h.tape,h.output,by simpa using h.size,fun k hk hne=> ?_⟩
 have hkb:k≠b:=by
  rintro rfl;rcases hb with e|e
  ·exact hne e.symm
  ·omega
 exact(yF _ _ _ _ hkb).trans (h.block k hk hne)
theorem qB{w W W':World}{row:Option Nat}(h:w.grownBy W row)(hb:Below W.heap.size W W'):w.grownBy W' row:=h.andThen (yw hb none) (fun _ e=>by cases e)
theorem RI.setOther{w0:World}{r:qF}{a:Nat}{w:World}(h:RI w0 r a w){b:Nat}(hb:w0.heap.size<b)(o:Nat)(v:Value):RI w0 r a (w.setCell ⟨b,o,none⟩ v):=
 ⟨h.hb.setCell (p:=⟨b,o,none⟩) (Nat.le_of_lt hb) _,(yF _ _ _ _ (by show w0.heap.size≠b;omega)).trans h.hr⟩
theorem VO{w:World}{g:Nat}{x0 x1 x2 x3:Value}{T:TypeId}(h:w.heap[g]?=some (.cells #[x0,x1,x2,x3] T (0,0)))(y0 y1 y2 y3:Value):
  ((((w.setCell ⟨g,0,none⟩ y0).setCell ⟨g,1,none⟩ y1).setCell ⟨g,2,none⟩ y2).setCell ⟨g,3,none⟩ y3).heap[g]?=some (.cells #[y0,y1,y2,y3] T (0,0)):=by
 have h0:(w.setCell ⟨g,0,none⟩ y0).heap[g]?=some (.cells #[y0,x1,x2,x3] T (0,0)):=yk _ _ 0 _ _ _ h;clear h;generalize w.setCell ⟨g,0,none⟩ y0=w at h0 ⊢;have h1:(w.setCell ⟨g,1,none⟩ y1).heap[g]?=some (.cells #[y0,y1,x2,x3] T (0,0)):=yk _ _ 1 _ _ _ h0;clear h0;generalize w.setCell ⟨g,1,none⟩ y1=w at h1 ⊢;have h2:(w.setCell ⟨g,2,none⟩ y2).heap[g]?=some (.cells #[y0,y1,y2,x3] T (0,0)):=yk _ _ 2 _ _ _ h1;clear h1;generalize w.setCell ⟨g,2,none⟩ y2=w at h2 ⊢;exact yk _ _ 3 _ _ _ h2
theorem ZF:(prog.info? 85).map (·.size)=some 4:=by kernel_rfl
def R7(w0:World)(r:qF)(a:Nat)(w:World)(e:Ending)(w':World):Prop:=
 w.grownBy w' (some w0.heap.size)/\match r.v.code[a]? with
  |some x=>e= .returned (vI x)/\RI w0 r (a+1) w'
  |none=>e= .panicked jr
theorem GG(w0:World)(r:qF)(a:Nat)(w:World)(hm:Xs w0 r)(h:RI w0 r a w)(ha:a<=1000000):
  Calls prog 217 #[.pointer (some ⟨w0.heap.size,0,none⟩)] w (R7 w0 r a w):=by
 have HM:=za (hm.below h.hb);have HM0:=za hm;have HI:=za h;have hz:w.heap.size≠w0.heap.size:=fun e=>by have:=ze h.hr;omega
 have HZ:=za hz;have HLT:=za (ze h.hr);clear hm h hz;have HI1:=za (HI.out.below (zd w (.cells #[.int .i64 0,.int .i64 0,.int .i64 0,.int .i64 0] 85)));have HX1:=za (zo w (.cells #[.int .i64 0,.int .i64 0,.int .i64 0,.int .i64 0] 85) _ rfl);obtain⟨w1,hw1⟩:∃w1,w1=w.alloc (.cells #[.int .i64 0,.int .i64 0,.int .i64 0,.int .i64 0] 85):=⟨_,rfl⟩
 rw[<-hw1]at HI1 HX1;have HB1:Hid (Below w.heap.size w w1):=za (by rw[hw1];exact zd _ _);have k17:w1.cell? ⟨w0.heap.size,17,none⟩=some (.int .i64 a):=(zA _ _ 17 _ _ _ HI1.out.hr).trans rfl;have k13:w1.cell? ⟨w0.heap.size,13,none⟩=some (.slice r.da r.v.code.length r.dc):=(zA _ _ 13 _ _ _ HI1.out.hr).trans rfl;by_cases hlt:a<r.v.code.length
 ·have n1:(a:Int)<(r.v.code.length:Int):=by omega
  have hmy:=yE;go_enter func217,ntmps217;go_upto_region 1 with fail;rw[<-hw1];clear hw1;go_still_tail 11,(by kernel_rfl);change wpList _ _ _ _ _ w1.drew;have f17:=zF 17 HI1.out.hr
  have HS:Hid (RI w0 r (a+1) (w1.setCell ⟨w0.heap.size,17,none⟩ (.int .i64 ((a:Int)+1))).drew):=za (by
   have:=(HI1.out.set (a+1)).below (zt _)
   rwa [show((a+1:Nat):Int)=(a:Int)+1 by omega]at this)
  obtain⟨bc,oc,hda,hlc,_⟩:=(HM.out.mv.rc.below (HB1.out.step (zt w1))) a hlt;rw[hda]at k13;have HHD:=za hda;have nw:(a:Int)+1<=1000001:=by omega
  clear hda hlc
  go_upto_region 3 with (first
   |(go_at_call 185;(with_reducible refine(yE _).mono ?_);rintro e w' ⟨rfl,rfl⟩))
  obtain⟨w2,hw2⟩:∃w2,w2=(w1.setCell ⟨w0.heap.size,17,none⟩ (.int .i64 ((a:Int)+1))).drew:=⟨_,rfl⟩
  have HX2:Hid (w2.heap[w.heap.size]?=some (.cells #[.int .i64 0,.int .i64 0,.int .i64 0,.int .i64 0] 85)):=za (by rw[hw2];exact(yF _ _ _ _ HZ.out).trans HX1.out);have HG2:Hid (w.grownBy w2 (some w0.heap.size)):=za (by rw[hw2];exact qB (YO (yw HB1.out _) 17 _ (.inl rfl)) (zt _));rw[<-hw2]at HS;rw[<-hw2];clear hw2 k17 k13 f17;have HM2:=za (HM0.out.below HS.out.hb);obtain⟨bc2,oc2,hda2,_,c0,c1,c2,c3⟩:=HM2.out.mv.rc a hlt;rw[HHD.out]at hda2;obtain⟨rfl,rfl⟩:bc=bc2/\oc=oc2:=by cases hda2;exact⟨rfl,rfl⟩
  clear hda2;have k17:w2.cell? ⟨w0.heap.size,17,none⟩=some (.int .i64 ((a:Int)+1)):=(zA _ _ 17 _ _ _ HS.out.hr).trans (by rw[show((a:Int)+1)=((a+1:Nat):Int) by omega];rfl);have k13:w2.cell? ⟨w0.heap.size,13,none⟩=some (.slice (some ⟨bc,oc,none⟩) r.v.code.length r.dc):=(zA _ _ 13 _ _ _ HS.out.hr).trans (by rw[<-HHD.out];rfl);obtain⟨x0,x1,x2,x3⟩:=zX HX2.out;have f0:=zF 0 HX2.out;have f1:=zF 1 HX2.out;have f2:=zF 2 HX2.out;have f3:=zF 3 HX2.out;have HE:Hid (r.v.code[a]?=some r.v.code[a]):=za (q9 hlt);generalize r.v.code[a]=y at *;have e1:IntKind.i64.wrap (a:Int)=(a:Int):=ju (by omega);go_still_tail 12,(by kernel_rfl);change wpList _ _ _ _ _ w2.drew;clear e1;go_wp2;have HX3:Hid (w2.drew.heap[w.heap.size]?=some (.cells #[.int .i64 0,.int .i64 0,.int .i64 0,.int .i64 0] 85)):=HX2;exact xJ (v:=vI y) (results_cell_row rfl _ _ w.heap.size 85 _ (0,0) _ rfl (VO HX3.out _ _ _ _) Tryz.underlying85 rfl ZF) rfl ⟨YO (YO (YO (YO (qB HG2.out (zt _)) 0 _ (.inr (zI _))) 1 _ (.inr (zI _))) 2 _ (.inr (zI _))) 3 _ (.inr (zI _)),by rw[HE.out];exact⟨rfl,((((HS.out.below (zt _)).setOther HLT.out 0 _).setOther HLT.out 1 _).setOther HLT.out 2 _).setOther HLT.out 3 _⟩⟩
 ·have n1:¬(a:Int)<(r.v.code.length:Int):=by omega
  have HE:Hid (r.v.code[a]?=none):=za (YJ (by omega));go_enter func217,ntmps217;go_upto_region 1 with fail;rw[<-hw1];clear hw1;go_still_tail 11,(by kernel_rfl);change wpList _ _ _ _ _ w1.drew
  go_wp2_with (first
   |(go_at_call 185;(with_reducible refine(yM _).mono ?_);rintro e w' ⟨rfl,rfl⟩))
  exact⟨rfl,qB (yw HB1.out _) (zt _),by rw[HE.out]⟩
theorem RY(x y:zm)(w:World):(Op.equalIn 10000 85 (vI x) (vI y)).run prog w= .ok (decide (x=y)) w:=by
 have u3:=Tryz.underlying3;have a3:=Tryz.isAgg3;have z3:=Tryz.sizeOf3;have hS:prog.underlying 85=some (.struct (prog.fieldsOf 85)):=by kernel_rfl
 have hp:prog.stoodInHeld 85=false:=by kernel_rfl
 rw[show(10000:Nat)=9999+1 from rfl,run_equalIn_agg w 9999 85 _ _ hS hp];simp only[Program.fieldsOf,Tryz.underlying85];go_simp;obtain⟨A,P,B,Q⟩:=x;obtain⟨A',P',B',Q'⟩:=y;by_cases h1:A=A'<;>by_cases h2:P=P'<;>by_cases h3:B=B'<;>by_cases h4:Q=Q'<;>simp[h1,h2,h3,h4]
def VW(x y:zm):Bool:=decide (x=y)
def Au(x y:jR):Bool:=decide (x=y)
theorem SN(x y:zm)(w:World):(binOp .eql 85 (vI x) (vI y)).run prog w= .ok (.bool (VW x y)) w:=by
 rw[run_eql_struct,RY x y];rfl
theorem RW(x y:jR)(w:World):(Op.equalIn 10000 90 (vG x) (vG y)).run prog w= .ok (decide (x=y)) w:=by
 have u3:=Tryz.underlying3;have a3:=Tryz.isAgg3;have z3:=Tryz.sizeOf3;have hS:prog.underlying 90=some (.struct (prog.fieldsOf 90)):=by kernel_rfl
 have hp:prog.stoodInHeld 90=false:=by kernel_rfl
 rw[show(10000:Nat)=9999+1 from rfl,run_equalIn_agg w 9999 90 _ _ hS hp];simp only[Program.fieldsOf,Tryz.underlying90];go_simp;obtain⟨A,P,B⟩:=x;obtain⟨A',P',B'⟩:=y;by_cases h1:A=A'<;>by_cases h2:P=P'<;>by_cases h3:B=B'<;>simp[h1,h2,h3]
theorem Tc(x y:jR)(w:World):(binOp .eql 90 (vG x) (vG y)).run prog w= .ok (.bool (Au x y)) w:=by
 rw[run_eql_struct,RW x y];rfl
theorem UP(b:Bool)(w:World):Calls prog 185 #[.bool b] w (fun e w'=>(b=true/\e= .returned (.tuple #[])/\w'=w)\/(b=false/\e= .panicked jr/\w'=w)):=by
 refine(GI b w).mono ?_;rintro e w' ⟨rfl,rfl⟩
 cases b with
 |true=>exact .inl ⟨rfl,rfl,rfl⟩
 |false=>exact .inr ⟨rfl,rfl,rfl⟩
theorem MN(w0:World)(r:qF)(a:Nat)(w:World)(hm:Xs w0 r)(h:RI w0 r a w)(ha:a<=1000000):
  Calls prog 217 #[.pointer (some ⟨w0.heap.size,0,none⟩)] w (fun e w'=>(∃x,r.v.code[a]?=some x/\e= .returned (vI x)/\RI w0 r (a+1) w'/\w.grownBy w' (some w0.heap.size))\/(r.v.code[a]?=none/\e= .panicked jr/\w.grownBy w' (some w0.heap.size))):=by
 refine(GG w0 r a w hm h ha).mono ?_;rintro e w' ⟨hg,hx⟩
 cases hy:r.v.code[a]? with
 |none=>rw[hy]at hx;exact .inr ⟨rfl,hx,hg⟩
 |some x=>rw[hy]at hx;exact .inl ⟨x,rfl,hx.1,hx.2,hg⟩
theorem Ff{v:zg}{h:List Int}{i n:Nat}(hn:vy v h i=none)(hi:i<=n):vy v h n=none:=by
 induction n with
 |zero=>
      obtain rfl:i=0:=by omega
      exact hn
 |succ n ih=>
  by_cases e:i=n+1
  ·rw[<-e];exact hn
  ·unfold vy
   rw[ih (by omega)];rfl
theorem U8{v:zg}{h:List Int}:∀ {i a:Nat},vy v h i=some a->a<=i
 |0,a,h0=>by
  cases h0
  exact zI _
 |i+1,a,h0=>by
  unfold vy at h0
  cases hb:vy v h i with
  |none=>rw[hb]at h0;cases h0
  |some b=>
   rw[hb]at h0;have:=U8 hb;simp only[xz]at h0;split at h0
   ·unfold jY at h0
    split at h0
    ·cases h0;omega
    ·cases h0
   ·cases h0;omega
theorem ET(w0:World)(r:qF)(w:World)(hm:Xs w0 r)(h:RI w0 r 0 w)(ha:0<=r.u.args/\r.u.args<=1000)(hh:r.u.args<=r.h.length):
  Calls prog 183 #[.pointer (some ⟨w0.heap.size,0,none⟩)] w (RP w0 r (vy r.v r.h r.u.args.toNat) w):=by
 have HM:=za hm;have HI:=za h;clear hm h;obtain⟨n,hn⟩:∃n:Nat,r.u.args=(n:Int):=⟨r.u.args.toNat,by omega⟩
 have HN:=za hn;have hn2:n<=1000:=by omega
 have hn3:n<=r.h.length:=by omega
 rw[show r.u.args.toNat=n by omega];clear hn ha hh;have k2:w.cell? ⟨w0.heap.size,2,none⟩=some (.int .i64 n):=by rw[<-HN.out];exact(zA _ _ 2 _ _ _ HI.out.hr).trans rfl
 have heg:prog.eqGuardType prog.depth 85=false:=by kernel_rfl
 have HNX:=za (fun a w' (h:RI w0 r a w') (ha:a<=1000000)=>MN w0 r a w' HM.out h ha);have HMU:=za (fun b w=>UP b w);have HBN:=za (fun i (hi:i<=n) (hb:vy r.v r.h i=none)=>Ff hb hi);have HBL:=za (fun i a (hb:vy r.v r.h i=some a)=>U8 hb);have HBS:Hid (∀i,vy r.v r.h (i+1)=(vy r.v r.h i).bind fun a=>if r.v.frame≠0/\0<=zh r.h i then jY r.v a (qm (zh r.h i) i)else some a):=za (fun i=>rfl);go_enter func183,ntmps183;go_upto_region 1 with fail;clear k2;go_loopg [9] n (fun gh s9 wr=>∃i a:Nat,i<=n/\gh=n-i/\s9= .int .i64 i/\Hid (vy r.v r.h i=some a)/\Hid (RI w0 r a wr)/\Hid (w.grownBy wr (some w0.heap.size)));case atStart=>exact⟨0,0,zE _,rfl,rfl,za rfl,HI,za (vv _ _)⟩
 case round=>
  obtain⟨i,a,hi,rfl,rfl,HBE,HR,HG⟩:=hrel;by_cases hin:i<n
  ·have ni:(i:Int)<(n:Int):=by omega
   have nil:(i:Int)<(r.h.length:Int):=by omega
   have hai:=HBL.out i a HBE.out;obtain⟨bh,oh,hha,_,h0⟩:=(HM.out.mh.below HR.out.hb) i (by omega);have k12:wr.cell? ⟨w0.heap.size,12,none⟩=some (.int .i64 r.v.frame):=(zA _ _ 12 _ _ _ HR.out.hr).trans rfl;have k15:wr.cell? ⟨w0.heap.size,15,none⟩=some (.slice (some ⟨bh,oh,none⟩) r.h.length r.hc):=(zA _ _ 15 _ _ _ HR.out.hr).trans (by rw[<-hha];rfl);have HHA:=za hha;clear hha;have HB1:=za (HBS.out i);rw[HBE.out,show zh r.h (i:Int)=r.h[i]'(by omega)from zk (by omega)]at HB1
   have HC0:Hid (∀w',Below w0.heap.size w0 w'->w'.cell? ⟨bh,oh+i,none⟩=some (.int .i64 (r.h[i]'(by omega)))):=za (fun w' hb=>by
    obtain⟨b2,o2,e2,_,h2⟩:=(HM.out.mh.below hb) i (by omega);rw[HHA.out]at e2;cases e2
    exact h2)
   generalize r.h[i]'(by omega)=x at *;by_cases hc:r.v.frame≠0/\0<=x
   ·obtain⟨hc1,hc2⟩:=hc
    have d1:(r.v.frame !=0)=true:=by simpa using hc1
    have HB2:Hid (vy r.v r.h (i+1)=jY r.v a (qm x i)):=za (HB1.out.trans (zj ⟨hc1,hc2⟩));go_upto_region 4 with fail;have HEQ:∀(y:zm) (w:World),(binOp .eql 85 (.agg #[.int .i64 y.op,.int .i64 y.a,.int .i64 y.b,.int .i64 y.c]) (.agg #[.int .i64 33,.int .i64 x,.int .i64 i,.int .i64 0])).run prog w= .ok (.bool (VW y (qm x i))) w:=fun y w=>SN y (qm x i) w
    have HRd:=za (HR.out.below (zt wr));have HN2:=za (HNX.out a wr.drew HRd.out (by omega));have HGd:=za (qB HG.out (zt wr));have HBn:Hid (vy r.v r.h (i+1)=none->vy r.v r.h n=none):=za (fun h=>HBN.out (i+1) (by omega) h)
    go_region_with (first
     |(go_at_call 217;(with_reducible refine HN2.out.mono ?_);intro e w7 hor;refine hor.elim (fun h1=> ?_) (fun h2=>by obtain⟨hy,rfl,hg⟩:=h2;exact⟨rfl,HGd.out.andThen hg (fun j e=> .inr e),by rw[HBn.out (HB2.out.trans (by unfold jY;rw[hy];rfl))]⟩);clear hor;obtain⟨y,hy,rfl,hri,hg⟩:=h1;have HY:=za hy;have HR7:=za hri;have HG7:=za (HGd.out.andThen hg (fun j e=> .inr e));have k15b:w7.cell? ⟨w0.heap.size,15,none⟩=some (.slice (some ⟨bh,oh,none⟩) r.h.length r.hc):=(zA _ _ 15 _ _ _ hri.hr).trans (by rw[<-HHA.out];rfl);have h0b:=HC0.out w7 hri.hb;clear hri hg hy)
     |(go_at_call 185;(with_reducible refine(HMU.out _ _).mono ?_);intro e w8 hor;refine hor.elim (fun h1=> ?_) (fun h2=>by obtain⟨hb,rfl,rfl⟩:=h2;exact⟨rfl,HG7.out,by rw[HBn.out (HB2.out.trans (by unfold jY;rw[HY.out,zi (fun e=>by unfold VW at hb;simp only[Option.some.injEq]at e;rw[zP e]at hb;cases hb)]))]⟩);clear hor;obtain⟨hb,rfl,rfl⟩:=h1;have HEB:=za hb;clear hb))
    all_goals
     have HB4:Hid (vy r.v r.h (i+1)=some (a+1)):=za (HB2.out.trans (by
      have h:=HEB.out;unfold VW at h;unfold jY
      rw[HY.out,zj (by rw[Qi h])]))
     go_wp2;go_roundg (n-(i+1))
    all_goals first
     |omega
     |exact⟨i+1,a+1,by omega,rfl,by go_num,HB4,HR7,HG7⟩
   ·have HB2:Hid (vy r.v r.h (i+1)=some a):=za (HB1.out.trans (zi hc))
    by_cases hc1:r.v.frame=0
    ·have d1:(r.v.frame !=0)=false:=by rw[hc1];rfl
     clear hc hc1;go_wp2;go_roundg (n-(i+1));case measure=>omega
     case rel=>exact⟨i+1,a,by omega,rfl,by go_num,HB2,HR,HG⟩
    ·have hc2:¬(0:Int)<=x:=fun h=>hc ⟨hc1,h⟩
     have d1:(r.v.frame !=0)=true:=by simpa using hc1
     clear hc hc1;go_wp2;go_roundg (n-(i+1));case measure=>omega
     case rel=>exact⟨i+1,a,by omega,rfl,by go_num,HB2,HR,HG⟩
  ·obtain rfl:i=n:=by omega
   have ni:¬(i:Int)<(i:Int):=by omega
   go_wp2
   go_end0
   exact⟨HG.out,by rw[HBE.out];exact⟨rfl,HR.out⟩⟩
end Go.Proofs.YtgalekifgnecjaaGreat
