/- The reference of layer 16: CheckRegs (printed by mkZY.py) -/
import Derived.Test.YtgalekifgnecjaaGreatZX
import Derived.Test.YtgalekifgnecjaaGreatZV
import Derived.Test.YtgalekifgnecjaaGreatZK
import Derived.Test.YtgalekifgnecjaaGreatX6
namespace Go.Proofs.YtgalekifgnecjaaGreat
open Go.Proofs.Tryz Go.RowKit Go.Shelf
set_option maxHeartbeats 60000000
set_option maxRecDepth 100000
attribute [local go_sem] Oper.semAt_some
attribute [local irreducible] wpStill
structure Rb(u v:zg)(h t:List Int)(ca cc ga gc)(da dc ea ec)(ha hc ta tc)(w wr:World):Prop where
 hb:Below w.heap.size w wr
 hu:wr.heap[w.heap.size]?=some (oU u ca cc ga gc)
 hv:wr.heap[w.heap.size+1]?=some (oU v da dc ea ec)
 hh:wr.heap[w.heap.size+2]?=some (.cells #[.slice ha h.length hc,.slice ta t.length tc] 30)
theorem Rb.below{u v:zg}{h t:List Int}{ca cc ga gc}{da dc ea ec}{ha hc ta tc}{w wr w':World}(s:Rb u v h t ca cc ga gc da dc ea ec ha hc ta tc w wr)(hb:Below wr.heap.size wr w'):Rb u v h t ca cc ga gc da dc ea ec ha hc ta tc w w':=⟨s.hb.step hb,zb hb s.hu,zb hb s.hv,zb hb s.hh⟩
theorem VH(u v:zg)(h t:List Int)(ca cc ga gc)(da dc ea ec)(ha:Option Addr)(hc:Nat)(ta:Option Addr)(tc:Nat)(w:World)
  (mu:jo w u ca cc ga gc) (mv:jo w v da dc ea ec) (mh:yC w ha h) (mt:yC w ta t) (hlc:u.code.length<=1000000) (hlg:u.guards.length<=1000000) (hab:∀x∈u.code,-9223372036854775808<=x.a/\x.a<=9223372036854775807)
  (hvc:v.code.length<=1000000) (hvg:v.guards.length<=1000000) (hvb:∀y∈v.code,-9223372036854775808<=y.b/\y.b<=9223372036854775807) (hwf:∀x∈h,-9223372036854775808<=x/\x<=9223372036854775807):
  Calls prog 15 #[vU u ca cc ga gc,vU v da dc ea ec,.agg #[.slice ha h.length hc,.slice ta t.length tc]] w (zV (.int .i64 (L_ u v h t)) w):=by
 have HR53:=za (fun wx (hb:Below w.heap.size w wx)=>UJ u ca cc ga gc wx (mu.below hb) hlc hlg hab)
 have HQ:Hid (L_ u v h t=if zC u=true then
   if JA u v t=true/\Yb u v h ((zf u).getD 0 []) (zZ u)=true then
    if ((Vi v h u.args.toNat).bind (XB u v (zf u) h t (List.range u.code.length)))=some v.code.length/\jS u v t=true then 0 else 11
   else 11
  else 1):=za rfl
 have HGB:=za (show Rb u v h t ca cc ga gc da dc ea ec ha hc ta tc w (((w.alloc (oU u ca cc ga gc)).alloc (oU v da dc ea ec)).alloc (.cells #[.slice ha h.length hc,.slice ta t.length tc] 30))from
  ⟨((zd _ _).step (zd _ _)).step (zd _ _),zb (zd _ _) (zb (zd _ _) (zo _ _ _ rfl)),zb (zd _ _) (zo _ _ _ (by simp)),zo _ _ _ (by simp)⟩)
 have HMU:=za mu;have HMV:=za mv;have HMH:=za mh;have HMT:=za mt;have HWF:=za hwf;have HVB:=za hvb;have HAB:=za hab;clear mu mv mh mt hwf hvb hab;generalize L_ u v h t=q at *;go_enter func15,ntmps15;go_upto_region 1 with fail;obtain⟨w1,hw1⟩:∃w1,w1=((w.alloc (oU u ca cc ga gc)).alloc (oU v da dc ea ec)).alloc (.cells #[.slice ha h.length hc,.slice ta t.length tc] 30):=⟨_,rfl⟩
 rw[<-hw1]at HGB;rw[<-hw1];clear hw1;obtain⟨k0,k1,k2,k3,k4,k5,k6⟩:=zr HGB.out.hu
 cases hw:zC u with
 |false=>
  rw[hw]at HQ;have HV:Hid (q=1):=za (HQ.out.trans (zi (by simp)));have HR:Hid (∀wx,Below w.heap.size w wx->Calls prog 53 #[vU u ca cc ga gc] wx (zV (.int .i64 1) wx)):=za (fun wx hb=>by have h9:=HR53.out wx hb;rw[hw]at h9;exact h9);clear hw;go_wp2_with (go_at_call 53;(with_reducible refine(HR.out _ HGB.out.hb).mono ?_);rintro e w2 ⟨rfl,hb2⟩;have HB2:=za (HGB.out.hb.step hb2);clear hb2);go_ret
  exact⟨by rw[HV.out];rfl,HB2.out⟩
 |true=>
 replace HQ:=za (HQ.out.trans (zj hw));have HR:Hid (∀wx,Below w.heap.size w wx->Calls prog 53 #[vU u ca cc ga gc] wx (zV (.int .i64 0) wx)):=za (fun wx hb=>by have h9:=HR53.out wx hb;rw[hw]at h9;exact h9);obtain⟨ha0,ha1,hs1,hs2⟩:=zL hw;have HW:=za hw;clear hw HR53;go_upto_region 4 with (go_at_call 53;(with_reducible refine(HR.out _ HGB.out.hb).mono ?_);rintro e w2 ⟨rfl,hb2⟩;have HB2:=za (HGB.out.below hb2);clear hb2);clear HGB HR k0 k1 k2 k3 k4 k5 k6;obtain⟨hd,hhd⟩:∃b,b=JA u v t:=⟨_,rfl⟩
 rw[<-hhd]at HQ;have HHE:=za hhd;have HHD:Hid (hd=(u.cls==v.cls&&u.name==v.name&&u.args==v.args&&yr v.frame 0 200&& !(decide (0<v.frame)&&decide (v.frame<u.args))&&yr v.slots 1 u.slots&&decide (v.code.length<=600)&&t.length==u.code.length)):=za hhd;clear hhd;have HIN1:=za (fun w=>UT v.frame 0 200 w);have HIN2:=za (fun w=>UT v.slots 1 u.slots w);generalize yr v.frame 0 200=i1 at *;generalize yr v.slots 1 u.slots=i2 at *;go_cut [80]from 16 to 80 (fun s80 wy=>s80= .bool (!hd)/\Hid (w2=wy))
 case first=>as_aux_lemma=>
  obtain⟨k0,k1,k2,k3,k4,k5,k6⟩:=zr HB2.out.hu;obtain⟨v0,v1,v2,v3,v4,v5,v6⟩:=zr HB2.out.hv;obtain⟨g0,g1,-,-⟩:=qe HB2.out.hh;clear HQ HHE HAB HVB
  cases h0:(u.cls==v.cls)with
  |false=>
   have HV:Hid (hd=false):=za (by rw[HHD.out];simp[h0]);have d0:(u.cls.toList==v.cls.toList)=false:=by rw[<-beq_toListBytes];exact h0
   have e0:(u.cls.toList !=v.cls.toList)=true:=by unfold bne;rw[d0];rfl
   clear HHD h0
   go_wp2_with (first
    |(go_at_call 56;(with_reducible refine(HIN1.out _).mono ?_);rintro e wz ⟨rfl,rfl⟩)
    |(go_at_call 56;(with_reducible refine(HIN2.out _).mono ?_);rintro e wz ⟨rfl,rfl⟩))
   go_meet
   exact⟨by rw[HV.out];rfl,za rfl⟩
  |true=>
  have d0:(u.cls.toList==v.cls.toList)=true:=by rw[<-beq_toListBytes];exact h0
  have e0:(u.cls.toList !=v.cls.toList)=false:=by unfold bne;rw[d0];rfl
  rw[h0]at HHD;clear h0
  cases h1:(u.name==v.name)with
  |false=>
   have HV:Hid (hd=false):=za (by rw[HHD.out];simp[h1]);have d1:(u.name.toList==v.name.toList)=false:=by rw[<-beq_toListBytes];exact h1
   have e1:(u.name.toList !=v.name.toList)=true:=by unfold bne;rw[d1];rfl
   clear HHD h1
   go_wp2_with (first
    |(go_at_call 56;(with_reducible refine(HIN1.out _).mono ?_);rintro e wz ⟨rfl,rfl⟩)
    |(go_at_call 56;(with_reducible refine(HIN2.out _).mono ?_);rintro e wz ⟨rfl,rfl⟩))
   go_meet
   exact⟨by rw[HV.out];rfl,za rfl⟩
  |true=>
  have d1:(u.name.toList==v.name.toList)=true:=by rw[<-beq_toListBytes];exact h1
  have e1:(u.name.toList !=v.name.toList)=false:=by unfold bne;rw[d1];rfl
  rw[h1]at HHD;clear h1
  cases h2:(u.args==v.args)with
  |false=>
   have d2:(u.args !=v.args)=true:=by unfold bne;rw[h2];rfl
   have HV:Hid (hd=false):=za (by rw[HHD.out];simp[h2]);clear HHD
   go_wp2_with (first
    |(go_at_call 56;(with_reducible refine(HIN1.out _).mono ?_);rintro e wz ⟨rfl,rfl⟩)
    |(go_at_call 56;(with_reducible refine(HIN2.out _).mono ?_);rintro e wz ⟨rfl,rfl⟩))
   go_meet
   exact⟨by rw[HV.out];rfl,za rfl⟩
  |true=>
  have d2:(u.args !=v.args)=false:=by unfold bne;rw[h2];rfl
  cases i1 with
  |false=>
   have HV:Hid (hd=false):=za (by rw[HHD.out];simp[h2]);clear HHD
   go_wp2_with (first
    |(go_at_call 56;(with_reducible refine(HIN1.out _).mono ?_);rintro e wz ⟨rfl,rfl⟩)
    |(go_at_call 56;(with_reducible refine(HIN2.out _).mono ?_);rintro e wz ⟨rfl,rfl⟩))
   go_meet
   exact⟨by rw[HV.out];rfl,za rfl⟩
  |true=>
  by_cases f0:0<v.frame
  case pos=>
   have c0:decide (0<v.frame)=true:=zP f0;by_cases f1:v.frame<u.args
   case pos=>
    have c1:decide (v.frame<u.args)=true:=zP f1;have HV:Hid (hd=false):=za (by rw[HHD.out];simp[h2,c0,c1]);clear HHD
    go_wp2_with (first
     |(go_at_call 56;(with_reducible refine(HIN1.out _).mono ?_);rintro e wz ⟨rfl,rfl⟩)
     |(go_at_call 56;(with_reducible refine(HIN2.out _).mono ?_);rintro e wz ⟨rfl,rfl⟩))
    go_meet;exact⟨by rw[HV.out];rfl,za rfl⟩
   have c1:decide (v.frame<u.args)=false:=yn f1
   cases i2 with
   |false=>
    have HV:Hid (hd=false):=za (by rw[HHD.out];simp[h2,c0,c1]);clear HHD
    go_wp2_with (first
     |(go_at_call 56;(with_reducible refine(HIN1.out _).mono ?_);rintro e wz ⟨rfl,rfl⟩)
     |(go_at_call 56;(with_reducible refine(HIN2.out _).mono ?_);rintro e wz ⟨rfl,rfl⟩))
    go_meet
    exact⟨by rw[HV.out];rfl,za rfl⟩
   |true=>
   by_cases f6:v.code.length<=600
   case neg=>
    have c6:decide (v.code.length<=600)=false:=yn f6;have n6:(600:Int)<(v.code.length:Int):=by omega
    have HV:Hid (hd=false):=za (by rw[HHD.out];simp[h2,c0,c1,c6]);clear HHD
    go_wp2_with (first
     |(go_at_call 56;(with_reducible refine(HIN1.out _).mono ?_);rintro e wz ⟨rfl,rfl⟩)
     |(go_at_call 56;(with_reducible refine(HIN2.out _).mono ?_);rintro e wz ⟨rfl,rfl⟩))
    go_meet;exact⟨by rw[HV.out];rfl,za rfl⟩
   have c6:decide (v.code.length<=600)=true:=zP f6;have n6:¬(600:Int)<(v.code.length:Int):=by omega
   have d6:decide ((600:Int)<(v.code.length:Int))=false:=yn n6
   cases c7:(t.length==u.code.length)with
   |false=>
    have n7:((t.length:Int) !=(u.code.length:Int))=true:=by
     have h9:¬t.length=u.code.length:=by simpa using c7
     simp only[bne_iff_ne];omega
    have HV:Hid (hd=false):=za (by rw[HHD.out];simp[h2,c0,c1,c6,c7]);clear HHD
    go_wp2_with (first
     |(go_at_call 56;(with_reducible refine(HIN1.out _).mono ?_);rintro e wz ⟨rfl,rfl⟩)
     |(go_at_call 56;(with_reducible refine(HIN2.out _).mono ?_);rintro e wz ⟨rfl,rfl⟩))
    go_meet
    exact⟨by rw[HV.out];rfl,za rfl⟩
   |true=>
   have n7:((t.length:Int) !=(u.code.length:Int))=false:=by
    have h9:t.length=u.code.length:=by simpa using c7
    simp only[bne_eq_false_iff_eq];omega
   have HV:Hid (hd=true):=za (by rw[HHD.out];simp[h2,c0,c1,c6,c7]);clear HHD
   go_wp2_with (first
    |(go_at_call 56;(with_reducible refine(HIN1.out _).mono ?_);rintro e wz ⟨rfl,rfl⟩)
    |(go_at_call 56;(with_reducible refine(HIN2.out _).mono ?_);rintro e wz ⟨rfl,rfl⟩))
   go_meet;exact⟨by rw[HV.out];rfl,za rfl⟩
  have c0:decide (0<v.frame)=false:=yn f0
  cases i2 with
  |false=>
   have HV:Hid (hd=false):=za (by rw[HHD.out];simp[h2,c0]);clear HHD
   go_wp2_with (first
    |(go_at_call 56;(with_reducible refine(HIN1.out _).mono ?_);rintro e wz ⟨rfl,rfl⟩)
    |(go_at_call 56;(with_reducible refine(HIN2.out _).mono ?_);rintro e wz ⟨rfl,rfl⟩))
   go_meet
   exact⟨by rw[HV.out];rfl,za rfl⟩
  |true=>
  by_cases f6:v.code.length<=600
  case neg=>
   have c6:decide (v.code.length<=600)=false:=yn f6;have n6:(600:Int)<(v.code.length:Int):=by omega
   have HV:Hid (hd=false):=za (by rw[HHD.out];simp[h2,c0,c6]);clear HHD
   go_wp2_with (first
    |(go_at_call 56;(with_reducible refine(HIN1.out _).mono ?_);rintro e wz ⟨rfl,rfl⟩)
    |(go_at_call 56;(with_reducible refine(HIN2.out _).mono ?_);rintro e wz ⟨rfl,rfl⟩))
   go_meet;exact⟨by rw[HV.out];rfl,za rfl⟩
  have c6:decide (v.code.length<=600)=true:=zP f6;have n6:¬(600:Int)<(v.code.length:Int):=by omega
  have d6:decide ((600:Int)<(v.code.length:Int))=false:=yn n6
  cases c7:(t.length==u.code.length)with
  |false=>
   have n7:((t.length:Int) !=(u.code.length:Int))=true:=by
    have h9:¬t.length=u.code.length:=by simpa using c7
    simp only[bne_iff_ne];omega
   have HV:Hid (hd=false):=za (by rw[HHD.out];simp[h2,c0,c6,c7]);clear HHD
   go_wp2_with (first
    |(go_at_call 56;(with_reducible refine(HIN1.out _).mono ?_);rintro e wz ⟨rfl,rfl⟩)
    |(go_at_call 56;(with_reducible refine(HIN2.out _).mono ?_);rintro e wz ⟨rfl,rfl⟩))
   go_meet
   exact⟨by rw[HV.out];rfl,za rfl⟩
  |true=>
  have n7:((t.length:Int) !=(u.code.length:Int))=false:=by
   have h9:t.length=u.code.length:=by simpa using c7
   simp only[bne_eq_false_iff_eq];omega
  have HV:Hid (hd=true):=za (by rw[HHD.out];simp[h2,c0,c6,c7]);clear HHD
  go_wp2_with (first
   |(go_at_call 56;(with_reducible refine(HIN1.out _).mono ?_);rintro e wz ⟨rfl,rfl⟩)
   |(go_at_call 56;(with_reducible refine(HIN2.out _).mono ?_);rintro e wz ⟨rfl,rfl⟩))
  go_meet;exact⟨by rw[HV.out];rfl,za rfl⟩
 case rest=>
 obtain⟨rfl,HW2⟩:=hcut;obtain rfl:=HW2.out;clear HW2 HHD HIN1 HIN2
 cases hd with
 |false=>
  have HV:Hid (q=11):=za (HQ.out.trans (zi (fun e=>by cases e.1)));go_wp2;go_ret
  exact⟨by rw[HV.out];rfl,HB2.out.hb⟩
 |true=>
 have hhd:JA u v t=true:=HHE.out.symm;obtain⟨-,-,c2,c3,c4,c5,c6⟩:=Ix hhd;have HHM:=za (fun wx (hb:Below w.heap.size w wx)=>M_ u v h ca cc ga gc da dc ea ec ha hc wx (HMU.out.below hb) (HMH.out.below hb) HW.out HWF.out ⟨c3,by omega⟩);have HOKH:Hid (Yb u v h ((zf u).getD 0 []) (zZ u)=true->_):=za (fun e=>PV HW.out hhd e);obtain⟨hm,hhm⟩:∃b,b=Yb u v h ((zf u).getD 0 []) (zZ u):=⟨_,rfl⟩
 rw[<-hhm]at HQ HHM HOKH;clear hhm hhd HHE;obtain⟨k0,k1,k2,k3,k4,k5,k6⟩:=zr HB2.out.hu;obtain⟨v0,v1,v2,v3,v4,v5,v6⟩:=zr HB2.out.hv;obtain⟨g0,g1,-,-⟩:=qe HB2.out.hh
 cases hm with
 |false=>
  have HV:Hid (q=11):=za (HQ.out.trans (zi (fun e=>by cases e.2)));go_wp2_with (go_at_call 57;(with_reducible refine(HHM.out _ HB2.out.hb).mono ?_);rintro e w3 ⟨rfl,hb3⟩;have HB3:=za (HB2.out.hb.step hb3);clear hb3);go_ret
  exact⟨by rw[HV.out];rfl,HB3.out⟩
 |true=>
 replace HQ:=za (HQ.out.trans (zj ⟨rfl,rfl⟩));obtain⟨hhl,hok⟩:=HOKH.out rfl;have HOK:=za hok;clear HOKH hok;go_upto_region 9 with (go_at_call 57;(with_reducible refine(HHM.out _ HB2.out.hb).mono ?_);rintro e w3 ⟨rfl,hb3⟩;have HB3:=za (HB2.out.below hb3);clear hb3);clear HHM HB2 k0 k1 k2 k3 k4 k5 k6 v0 v1 v2 v3 v4 v5 v6 g0 g1;obtain⟨A,hA⟩:∃n:Nat,u.args.toNat=n:=⟨_,rfl⟩
 rw[hA]at HQ;have HAE:Hid (u.args=(A:Int)):=za (by omega);have HHL:=za hhl;have hAh:A<=h.length:=by omega
 have hA2:A<=200:=by omega
 have HCT:=za c6;clear hA hhl c2 c6 ha0 ha1;go_wp2;go_loopg [9,10] A (fun gh s9 s10 wr=>∃i a:Nat,(i<=A/\a<=v.code.length)/\gh=A-i/\s9= .int .i64 a/\s10= .int .i64 i/\Hid (Rb u v h t ca cc ga gc da dc ea ec ha hc ta tc w wr)/\Hid (Vi v h i=some a)/\Hid (v.frame<=0->i=0));case atStart=>exact⟨0,0,⟨zE _,zE _⟩,rfl,rfl,rfl,HB3,za (by unfold Vi;split<;>rfl),za (fun _=>rfl)⟩
 case round=>
  obtain⟨i,a,⟨hi,hav⟩,rfl,rfl,rfl,HK,HE,HF⟩:=hrel;clear HB3;obtain⟨k0,k1,k2,k3,k4,k5,k6⟩:=zr HK.out.hu;obtain⟨v0,v1,v2,v3,v4,v5,v6⟩:=zr HK.out.hv;obtain⟨g0,g1,-,-⟩:=qe HK.out.hh;obtain⟨b,hb⟩:∃b,b=(decide (i<A)&&decide (0<v.frame)):=⟨_,rfl⟩
  have HBB:=za hb;clear hb;go_upto_region 11 with fail;go_cut [96]from 88 to 96 (fun s96 wy=>s96= .bool b/\Hid (wr=wy))
  case first=>as_aux_lemma=>
   by_cases h1:i<A
   ·have n1:(i:Int)<u.args:=by have:=HAE.out;omega
    by_cases h2:0<v.frame
    ·have HV:Hid (b=true):=za (by rw[HBB.out,zP h1,zP h2];rfl)
     go_wp2;go_meet;exact⟨by rw[HV.out],za rfl⟩
    ·have HV:Hid (b=false):=za (by rw[HBB.out,zP h1,yn h2];rfl)
     have n2:decide (0<v.frame)=false:=yn h2;go_wp2;go_meet;exact⟨by rw[HV.out],za rfl⟩
   ·have n1:¬(i:Int)<u.args:=by have:=HAE.out;omega
    have HV:Hid (b=false):=za (by rw[HBB.out,yn h1];rfl);go_wp2;go_meet;exact⟨by rw[HV.out],za rfl⟩
  case rest=>
  obtain⟨rfl,HW2⟩:=hcut;obtain rfl:=HW2.out;clear HW2
  cases b with
  |true=>
   obtain⟨hiA,hf0⟩:i<A/\0<v.frame:=by simpa using HBB.out.symm
   clear HBB;have HST:=za (Fg hf0 HE.out)
   have HNO:=za (fun(e:Vi v h (i+1)=none)=>(show q=11 from by
    rw[HQ.out,Fh (i:=i+1) hf0 (by unfold Vi at e;rwa [zj hf0]at e) (by omega)]
    exact zi (fun e=>by cases e.1)))
   have hih:i<h.length:=by omega
   have nih:(i:Int)<(h.length:Int):=by omega
   obtain⟨hb9,ho9,hha,hl9,z0⟩:=(HMH.out.below HK.out.hb) i hih;subst hha;rw[Y4 hih]at HST;generalize h[i]=z at *;by_cases hz:z<0
   ·replace HST:=za (HST.out.trans (zi (by omega)))
    go_wp2;go_roundg (A-(i+1));case measure=>omega
    case rel=>exact⟨i+1,a,⟨by omega,hav⟩,rfl,rfl,by go_num,HK,HST,za (fun e=>absurd hf0 (by omega))⟩
   ·replace HST:=za (HST.out.trans (zj (by omega)))
    go_upto_region 14 with fail;by_cases hav1:a<v.code.length
    case neg=>
     have nav:(v.code.length:Int)<=(a:Int):=by omega
     have HV:=za (HNO.out (HST.out.trans (by unfold jY;rw[YJ (by omega)];rfl)));go_quiet (fail);have HKq:=za (HK.out.below (Km (zG _ _) nq));generalize wr.drewN nq=wq at *;go_wp2;go_ret;exact⟨by rw[HV.out];rfl,HKq.out.hb⟩
    have nav:¬(v.code.length:Int)<=(a:Int):=by omega
    have nav2:(a:Int)<(v.code.length:Int):=by omega
    obtain⟨b4,o4,e4,hl4,d0,d1,d2,d3⟩:=(HMV.out.rc.below HK.out.hb) a hav1;subst e4;unfold jY at HST;rw[q9 hav1]at HST;generalize v.code[a]=y at *;have HEQ:∀w:World,(binOp .neq 85 (.agg #[.int .i64 y.op,.int .i64 y.a,.int .i64 y.b,.int .i64 y.c]) (.agg #[.int .i64 33,.int .i64 z,.int .i64 i,.int .i64 0])).run prog w= .ok (.bool (!VW y (qm z i))) w:=fun w=>Sw y (qm z i) w
    have HS2:Hid (Vi v h (i+1)=if VW y (qm z i)=true then some (a+1)else none):=za (HST.out.trans (by
     unfold VW;by_cases e:y=qm z i
     ·rw[zj (by rw[e]),zj (zP e)]
     ·rw[zi (fun h=>e (Option.some.inj h)),zi (by simpa using e)]))
    clear HST;generalize VW y (qm z i)=b2 at *;go_quiet (fail);have HKq:=za (HK.out.below (Km (zG _ _) nq));generalize wr.drewN nq=wq at *;clear k0 k1 k2 k3 k4 k5 k6 v0 v1 v2 v3 v4 v5 v6 g0 g1 d0 d1 d2 d3 z0 hl4 HEQ
    cases b2 with
    |false=>
     have HV:=za (HNO.out HS2.out);go_wp2;go_ret
     exact⟨by rw[HV.out];rfl,HKq.out.hb⟩
    |true=>
     go_wp2;go_roundg (A-(i+1));case measure=>omega
     case rel=>exact⟨i+1,a+1,⟨by omega,by omega⟩,rfl,by go_num,by go_num,HKq,HS2,za (fun e=>absurd hf0 (by omega))⟩
  |false=>
  have HBA:Hid (Vi v h A=some a):=za (by
   have h9:=HBB.out;by_cases h1:0<v.frame
   ·rw[zP h1,Bool.and_true]at h9
    have h8:¬i<A:=by simpa using h9.symm
    rw[show A=i by omega];exact HE.out
   ·have h8:=HF.out (by omega)
    rw[h8]at HE;have h7:=HE.out;unfold Vi at h7 ⊢;rw[zi h1]at h7 ⊢
    exact h7)
  rw[HBA.out,xz,List.range_eq_range']at HQ;clear HBB HE HF HBA hi;obtain⟨a0,rfl⟩:∃m,m=a:=⟨_,rfl⟩
  obtain⟨w3,rfl⟩:∃W,W=wr:=⟨_,rfl⟩
  obtain⟨hn0,hn6,-,-⟩:=z8 (zH HW.out);have HGS:=za (G6 u ca cc ga gc w3 (HMU.out.below HK.out.hb) hlc HAB.out);have HLS:=za (fun wx (hb:Below w.heap.size w wx)=>Ei u ca cc ga gc wx (HMU.out.below hb) (zH HW.out));have HFL:Hid ((zl u.code).length=u.code.length):=za (z_ _ _);have HLL:Hid ((zf u).length=u.code.length):=za (yq u).len
  go_upto_region 19 with (first
   |(go_at_call 54;(with_reducible refine HGS.out.mono ?_);rintro e w4 ⟨hb4,g,rfl,hbi,hge⟩;rw[HFL.out];have HK4:=za (HK.out.below hb4);have HG4:=za hbi;obtain⟨l0,l1,l2,l3,l4,l5,l6⟩:=zr HK4.out.hu;clear hb4 hbi hge)
   |(go_at_call 58;(with_reducible refine(HLS.out _ HK4.out.hb).mono ?_);rintro e w5 ⟨hb5,la,lc,rfl,hl⟩;rw[HLL.out];have HK5:=za (HK4.out.below hb5);have HG5:=za (HG4.out.below hb5);have HL5:=za hl;clear hb5 hl))
  clear HGS HLS HK HK4 HG4 k0 k1 k2 k3 k4 k5 k6 l0 l1 l2 l3 l4 l5 l6 v0 v1 v2 v3 v4 v5 v6 g0 g1;have HKX:=za (fun wx (hb:Below w5.heap.size w5 wx)=>HK5.out.below hb);have HGX:=za (fun wx (hb:Below w5.heap.size w5 wx)=>HG5.out.below hb);have HLX:=za (fun wx (hb:Below w5.heap.size w5 wx)=>HL5.out.below hb);have HGR:=za (fun wx (hb:Below w5.heap.size w5 wx) (i:Nat) (hi:i<u.code.length) (a:Nat) (ha':a<=v.code.length)=>Nf u v h t ca cc ga gc da dc ea ec ha hc ta tc (some ⟨g,0,none⟩) u.code.length la lc wx (HMU.out.below (HKX.out _ hb).hb) (HMV.out.below (HKX.out _ hb).hb) (HMH.out.below (HKX.out _ hb).hb) (HMT.out.below (HKX.out _ hb).hb) (HGX.out _ hb).rd (HLX.out _ hb) HW.out HCT.out HHL.out HWF.out HOK.out ⟨c3,by omega⟩ c5 HVB.out i hi a ha');have HGD:=za (fun wx (hb:Below w5.heap.size w5 wx)=>DJ u v t ca cc ga gc da dc ea ec ta tc wx (HMU.out.below (HKX.out _ hb).hb) (HMV.out.below (HKX.out _ hb).hb) (HMT.out.below (HKX.out _ hb).hb) (zH HW.out) HCT.out hvg hvc);obtain⟨n,hn⟩:∃n,n=u.code.length:=⟨_,rfl⟩
  obtain⟨G,hG⟩:∃G,G=XB u v (zf u) h t (List.range' 0 (n-0)) a0:=⟨_,rfl⟩
  have HQG:Hid (q=if G=some v.code.length/\jS u v t=true then 0 else 11):=za (by rw[hG,hn,Nat.sub_zero];exact HQ.out);have HG0:=za hG.symm;have HNX:=za (fun(i a:Nat) (hi:i<n)=>Ez (u:=u) (v:=v) (live:=zf u) (h:=h) (t:=t) (a:=a) hi);have HNN:Hid (u.code.length=n):=za hn.symm
  have HAT:=za (fun wx (hb:Below w5.heap.size w5 wx) (j:Nat) (hj:j<n)=>(show wx.cell? ⟨g,j,none⟩=some (.int .i64 ((zl u.code).getD j 0))from by
   have hj2:j<(zl u.code).length:=by rw[HFL.out];omega
   rw[zk hj2]
   exact(HGX.out _ hb).at hj2))
  rw[<-hn];rw[<-hn]at HGR;have hn600:n<=600:=by omega
  clear hG hn HQ hn0 hn6;generalize jS u v t=bg at *;go_wp2;go_loopg [9,13] n (fun gh s9 s13 wr=>∃j a:Nat,(j<=n/\a<=v.code.length)/\gh=n-j/\s9= .int .i64 a/\s13= .int .i64 j/\Hid (Below w5.heap.size w5 wr)/\Hid (XB u v (zf u) h t (List.range' j (n-j)) a=G));case atStart=>exact⟨0,a0,⟨zE _,hav⟩,rfl,rfl,rfl,za (zG _ _),HG0⟩
  case round=>
   obtain⟨j,a,⟨hj,hja⟩,rfl,rfl,rfl,HB,HE⟩:=hrel;clear HG0;obtain⟨k0,k1,k2,k3,k4,k5,k6⟩:=zr (HKX.out _ HB.out).hu;obtain⟨v0,v1,v2,v3,v4,v5,v6⟩:=zr (HKX.out _ HB.out).hv;obtain⟨g0,g1,-,-⟩:=qe (HKX.out _ HB.out).hh;by_cases hjn:j<n
   ·have njn:(j:Int)<(n:Int):=by omega
    have HST:=za (HE.out.symm.trans (HNX.out j a hjn));have f0:=HAT.out _ HB.out j hjn;generalize (zl u.code).getD j 0=fj at *
    cases hfj:(fj !=(j:Int))with
    |true=>
     replace HST:=za (HST.out.trans (zi (by simpa using hfj)));go_wp2;go_roundg (n-(j+1));case measure=>omega
     case rel=>exact⟨j+1,a,⟨by omega,hja⟩,rfl,rfl,by go_num,HB,za HST.out.symm⟩
    |false=>
     replace HST:=za (HST.out.trans (zj (by simpa using hfj)));have HGC:=za (HGR.out _ HB.out j (by have:=HNN.out;omega) a hja)
     cases hgr:KI u v (zf u) h t j a with
     |none=>
      rw[hgr]at HGC HST;have HV:Hid (q=11):=za (HQG.out.trans (zi (fun e=>by have h9:=HST.out.symm.trans e.1;cases h9)));clear hgr;go_wp2_with (go_at_call 59;(with_reducible refine HGC.out.mono ?_);rintro e w7 ⟨rfl,hb7⟩;unfold Sm;have HB7:=za (HB.out.step hb7);clear hb7);go_ret
      exact⟨by rw[HV.out];rfl,((HKX.out _ HB7.out).hb.step (zd _ _))⟩
     |some a' =>
      have ha':=L9 hja hgr;rw[hgr]at HGC HST;clear hgr;go_wp2_with (go_at_call 59;(with_reducible refine HGC.out.mono ?_);rintro e w7 ⟨rfl,hb7⟩;unfold Sm;have HB7:=za (HB.out.step hb7);clear hb7);go_roundg (n-(j+1));case measure=>omega
      case rel=>exact⟨j+1,a',⟨by omega,ha'⟩,rfl,rfl,by go_num,za (HB7.out.step (zd _ _)),za HST.out.symm⟩
   ·obtain rfl:j=n:=by omega
    have njn:¬(j:Int)<(j:Int):=by omega
    rw[Nat.sub_self]at HE;have HGA:Hid (G=some a):=za HE.out.symm;clear HE;by_cases hal:a=v.code.length
    ·subst hal
     cases bg with
     |true=>
      have HV:Hid (q=0):=za (HQG.out.trans (zj ⟨HGA.out,rfl⟩));go_wp2_with (go_at_call 60;(with_reducible refine(HGD.out _ HB.out).mono ?_);rintro e w7 ⟨rfl,hb7⟩;have HB7:=za (HB.out.step hb7);obtain⟨l0,l1,l2,l3,l4,l5,l6⟩:=zr (HKX.out _ HB7.out).hv;clear hb7);go_ret
      exact⟨by rw[HV.out];rfl,(HKX.out _ HB7.out).hb⟩
     |false=>
      have HV:Hid (q=11):=za (HQG.out.trans (zi (fun e=>by cases e.2)));go_wp2_with (go_at_call 60;(with_reducible refine(HGD.out _ HB.out).mono ?_);rintro e w7 ⟨rfl,hb7⟩;have HB7:=za (HB.out.step hb7);obtain⟨l0,l1,l2,l3,l4,l5,l6⟩:=zr (HKX.out _ HB7.out).hv;clear hb7);go_ret;exact⟨by rw[HV.out];rfl,(HKX.out _ HB7.out).hb⟩
    ·have nal:((a:Int) !=(v.code.length:Int))=true:=by simp only[bne_iff_ne];omega
     have HV:Hid (q=11):=za (HQG.out.trans (zi (fun e=>hal (by have h9:=HGA.out.symm.trans e.1;exact Option.some.inj h9))));go_wp2_with (go_at_call 60;(with_reducible refine(HGD.out _ HB.out).mono ?_);rintro e w7 ⟨rfl,hb7⟩;have HB7:=za (HB.out.step hb7);obtain⟨l0,l1,l2,l3,l4,l5,l6⟩:=zr (HKX.out _ HB7.out).hv;clear hb7);go_ret;exact⟨by rw[HV.out];rfl,(HKX.out _ HB7.out).hb⟩
end Go.Proofs.YtgalekifgnecjaaGreat
