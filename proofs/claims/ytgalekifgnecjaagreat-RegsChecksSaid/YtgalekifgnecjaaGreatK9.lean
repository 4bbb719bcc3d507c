/- The statement RegsChecksSaid holds, without any condition. -/
import Derived.Test.YtgalekifgnecjaaGreatZY
import Derived.Test.YtgalekifgnecjaaGreatL4
import Derived.BigQuiet
import Derived.Lib.QuietBelow
import Derived.OpenShut
import Derived.Test.YtgalekifgnecjaaGreatJ1
namespace Go.Proofs.YtgalekifgnecjaaGreat
open Go.Proofs.Tryz Go.RowKit
open Go.RowKit Go.Shelf
set_option maxHeartbeats 60000000
set_option maxRecDepth 100000
attribute [local go_sem] Oper.semAt_some
attribute [local irreducible] wpStill
theorem Io{u:zg}(h:Vd u=true):u.code.length<=610/\u.guards.length<=50:=by
 unfold Vd at h;simp at h;omega
theorem Es{h t:List Int}(hh:QV h t=true):h.length<=220/\t.length<=620:=by
 unfold QV at hh;simp at hh;omega
theorem EP(u v:zg)(h t:List Int)(ca cc ga gc)(da dc ea ec)(ha:Option Addr)(hc:Nat)(ta:Option Addr)(tc:Nat)(w:World)
  (mu:jo w u ca cc ga gc) (mv:jo w v da dc ea ec) (mh:yC w ha h) (mt:yC w ta t) (hab:∀x∈u.code,-9223372036854775808<=x.a/\x.a<=9223372036854775807) (hvb:∀y∈v.code,-9223372036854775808<=y.b/\y.b<=9223372036854775807) (hwf:∀x∈h,-9223372036854775808<=x/\x<=9223372036854775807):
  Calls prog 4 #[vU u ca cc ga gc,vU v da dc ea ec,Sg ha h hc ta t tc] w (zV (.bool true) w):=by
 have HF1:=za (fun w=>U2 u ca cc ga gc w);have HF2:=za (fun w=>U2 v da dc ea ec w);have HF3:=za (fun w=>Dz h t ha hc ta tc w)
 have HI:=za (show Rb u v h t ca cc ga gc da dc ea ec ha hc ta tc w (((w.alloc (oU u ca cc ga gc)).alloc (oU v da dc ea ec)).alloc (.cells #[.slice ha h.length hc,.slice ta t.length tc] 30))from
  ⟨((zd _ _).step (zd _ _)).step (zd _ _),zb (zd _ _) (zb (zd _ _) (zo _ _ _ rfl)),zb (zd _ _) (zo _ _ _ (by simp)),zo _ _ _ (by simp)⟩)
 have HMU:=za mu;have HMV:=za mv;have HMH:=za mh;have HMT:=za mt;have HAB:=za hab;have HVB:=za hvb;have HWF:=za hwf;clear mu mv mh mt hab hvb hwf;obtain⟨wa,hwa⟩:∃wa,wa=((w.alloc (oU u ca cc ga gc)).alloc (oU v da dc ea ec)).alloc (.cells #[.slice ha h.length hc,.slice ta t.length tc] 30):=⟨_,rfl⟩
 rw[<-hwa]at HI;go_enter func4,ntmps4;go_upto_region 1 with fail;rw[<-hwa];clear hwa;obtain⟨ok,hok⟩:∃b,b=(Vd u&&Vd v&&QV h t&&decide (v.code.length<=610)):=⟨_,rfl⟩
 have HOK:=za hok;clear hok;go_cut [25]from 7 to 25 (fun s25 wy=>s25= .bool (!ok)/\Hid (Rb u v h t ca cc ga gc da dc ea ec ha hc ta tc w wy))
 case first=>as_aux_lemma=>
  obtain⟨k0,k1,k2,k3,k4,k5,k6⟩:=zr HI.out.hu
  cases e1:Vd u with
  |false=>
   have HV:Hid (ok=false):=za (by rw[HOK.out];simp[e1]);rw[e1]at HF1;clear e1
   go_wp2_with (first
    |(go_at_call 11;(with_reducible refine(HF1.out _).mono ?_);rintro e w2 ⟨rfl,hb⟩;have HB2:=za (HI.out.below hb);obtain⟨v0,v1,v2,v3,v4,v5,v6⟩:=zr HB2.out.hv;clear hb)
    |(go_at_call 11;(with_reducible refine(HF2.out _).mono ?_);rintro e w3 ⟨rfl,hb⟩;have HB3:=za (HB2.out.below hb);obtain⟨h0,h1,-,-⟩:=qe HB3.out.hh;clear hb)
    |(go_at_call 17;(with_reducible refine(HF3.out _).mono ?_);rintro e w4 ⟨rfl,hb⟩;have HB4:=za (HB3.out.below hb);obtain⟨l0,l1,l2,l3,l4,l5,l6⟩:=zr HB4.out.hv;clear hb))
   go_meet
   exact⟨by rw[HV.out];rfl,HB2⟩
  |true=>
  rw[e1]at HF1;rw[e1,xk]at HOK;clear e1
  cases e2:Vd v with
  |false=>
   have HV:Hid (ok=false):=za (by rw[HOK.out];simp[e2]);rw[e2]at HF2;clear e2
   go_wp2_with (first
    |(go_at_call 11;(with_reducible refine(HF1.out _).mono ?_);rintro e w2 ⟨rfl,hb⟩;have HB2:=za (HI.out.below hb);obtain⟨v0,v1,v2,v3,v4,v5,v6⟩:=zr HB2.out.hv;clear hb)
    |(go_at_call 11;(with_reducible refine(HF2.out _).mono ?_);rintro e w3 ⟨rfl,hb⟩;have HB3:=za (HB2.out.below hb);obtain⟨h0,h1,-,-⟩:=qe HB3.out.hh;clear hb)
    |(go_at_call 17;(with_reducible refine(HF3.out _).mono ?_);rintro e w4 ⟨rfl,hb⟩;have HB4:=za (HB3.out.below hb);obtain⟨l0,l1,l2,l3,l4,l5,l6⟩:=zr HB4.out.hv;clear hb))
   go_meet
   exact⟨by rw[HV.out];rfl,HB3⟩
  |true=>
  rw[e2]at HF2;rw[e2,xk]at HOK;clear e2
  cases e3:QV h t with
  |false=>
   have HV:Hid (ok=false):=za (by rw[HOK.out];simp[e3]);rw[e3]at HF3;clear e3
   go_wp2_with (first
    |(go_at_call 11;(with_reducible refine(HF1.out _).mono ?_);rintro e w2 ⟨rfl,hb⟩;have HB2:=za (HI.out.below hb);obtain⟨v0,v1,v2,v3,v4,v5,v6⟩:=zr HB2.out.hv;clear hb)
    |(go_at_call 11;(with_reducible refine(HF2.out _).mono ?_);rintro e w3 ⟨rfl,hb⟩;have HB3:=za (HB2.out.below hb);obtain⟨h0,h1,-,-⟩:=qe HB3.out.hh;clear hb)
    |(go_at_call 17;(with_reducible refine(HF3.out _).mono ?_);rintro e w4 ⟨rfl,hb⟩;have HB4:=za (HB3.out.below hb);obtain⟨l0,l1,l2,l3,l4,l5,l6⟩:=zr HB4.out.hv;clear hb))
   go_meet
   exact⟨by rw[HV.out];rfl,HB4⟩
  |true=>
  rw[e3]at HF3;rw[e3,xk]at HOK;clear e3;by_cases h6:v.code.length<=610
  ·have n6:¬(610:Int)<(v.code.length:Int):=by omega
   have d6:decide ((610:Int)<(v.code.length:Int))=false:=yn n6;have HV:Hid (ok=true):=za (by rw[HOK.out];exact zP h6)
   go_wp2_with (first
    |(go_at_call 11;(with_reducible refine(HF1.out _).mono ?_);rintro e w2 ⟨rfl,hb⟩;have HB2:=za (HI.out.below hb);obtain⟨v0,v1,v2,v3,v4,v5,v6⟩:=zr HB2.out.hv;clear hb)
    |(go_at_call 11;(with_reducible refine(HF2.out _).mono ?_);rintro e w3 ⟨rfl,hb⟩;have HB3:=za (HB2.out.below hb);obtain⟨h0,h1,-,-⟩:=qe HB3.out.hh;clear hb)
    |(go_at_call 17;(with_reducible refine(HF3.out _).mono ?_);rintro e w4 ⟨rfl,hb⟩;have HB4:=za (HB3.out.below hb);obtain⟨l0,l1,l2,l3,l4,l5,l6⟩:=zr HB4.out.hv;clear hb))
   go_meet;exact⟨by rw[HV.out];rfl,HB4⟩
  ·have n6:(610:Int)<(v.code.length:Int):=by omega
   have HV:Hid (ok=false):=za (by rw[HOK.out];exact yn h6)
   go_wp2_with (first
    |(go_at_call 11;(with_reducible refine(HF1.out _).mono ?_);rintro e w2 ⟨rfl,hb⟩;have HB2:=za (HI.out.below hb);obtain⟨v0,v1,v2,v3,v4,v5,v6⟩:=zr HB2.out.hv;clear hb)
    |(go_at_call 11;(with_reducible refine(HF2.out _).mono ?_);rintro e w3 ⟨rfl,hb⟩;have HB3:=za (HB2.out.below hb);obtain⟨h0,h1,-,-⟩:=qe HB3.out.hh;clear hb)
    |(go_at_call 17;(with_reducible refine(HF3.out _).mono ?_);rintro e w4 ⟨rfl,hb⟩;have HB4:=za (HB3.out.below hb);obtain⟨l0,l1,l2,l3,l4,l5,l6⟩:=zr HB4.out.hv;clear hb))
   go_meet;exact⟨by rw[HV.out];rfl,HB4⟩
 case rest=>
 obtain⟨rfl,HK⟩:=hcut;obtain⟨wb,rfl⟩:∃W,W=wc:=⟨_,rfl⟩
 cases ok with
 |false=>
  clear HOK;go_wp2_with (go_at_call 12;(with_reducible refine(jh _).mono ?_);rintro e w9 ⟨rfl,hb⟩;have HBZ:=za (HK.out.hb.step hb);clear hb);go_ret
  exact⟨rfl,HBZ.out⟩
 |true=>
 have hok:=HOK.out.symm;simp only[yi,yB]at hok;obtain⟨⟨⟨e1,e2⟩,e3⟩,e4⟩:=hok;obtain⟨u1,u2⟩:=Io e1;obtain⟨v1,v2⟩:=Io e2;obtain⟨t1,t2⟩:=Es e3;have HC1:=za (fun d os=>YP u v h t ca cc ga gc da dc ea ec ha hc ta tc (Go.Sort.grow (redrawn wb d) os) (HMU.out.below (HK.out.hb.step (below_regrown wb d os))) (HMV.out.below (HK.out.hb.step (below_regrown wb d os))) (HMH.out.below (HK.out.hb.step (below_regrown wb d os))) (HMT.out.below (HK.out.hb.step (below_regrown wb d os))) (by omega) (by omega) (by omega) (by omega) (by omega) (by omega) HVB.out HWF.out);have HC2:=za (fun d os=>VH u v h t ca cc ga gc da dc ea ec ha hc ta tc (Go.Sort.grow (redrawn wb d) os) (HMU.out.below (HK.out.hb.step (below_regrown wb d os))) (HMV.out.below (HK.out.hb.step (below_regrown wb d os))) (HMH.out.below (HK.out.hb.step (below_regrown wb d os))) (HMT.out.below (HK.out.hb.step (below_regrown wb d os))) (by omega) (by omega) HAB.out (by omega) (by omega) HVB.out HWF.out);rw[AB]at HC2;generalize qS u v h t=q at *;clear HF1 HF2 HF3 HOK e1 e2 e3 e4 u1 u2 v1 v2 t1 t2 HI HMU HMV HMH HMT HAB HVB HWF;obtain⟨k0,k1,k2,k3,k4,k5,k6⟩:=zr HK.out.hu;obtain⟨v0,v1,v2,v3,v4,v5,v6⟩:=zr HK.out.hv;obtain⟨g0,g1,-,-⟩:=qe HK.out.hh;have qk0:=fun d os=>cell_regrown k0 d os
 have qk1:=fun d os=>cell_regrown k1 d os
 have qk2:=fun d os=>cell_regrown k2 d os
 have qk3:=fun d os=>cell_regrown k3 d os
 have qk4:=fun d os=>cell_regrown k4 d os
 have qk5:=fun d os=>cell_regrown k5 d os
 have qk6:=fun d os=>cell_regrown k6 d os
 have qv0:=fun d os=>cell_regrown v0 d os
 have qv1:=fun d os=>cell_regrown v1 d os
 have qv2:=fun d os=>cell_regrown v2 d os
 have qv3:=fun d os=>cell_regrown v3 d os
 have qv4:=fun d os=>cell_regrown v4 d os
 have qv5:=fun d os=>cell_regrown v5 d os
 have qv6:=fun d os=>cell_regrown v6 d os
 have qg0:=fun d os=>cell_regrown g0 d os
 have qg1:=fun d os=>cell_regrown g1 d os
 have HS:=za (fun d os=>jh (Go.Sort.grow (redrawn wb d) os));clear k0 k1 k2 k3 k4 k5 k6 v0 v1 v2 v3 v4 v5 v6 g0 g1;go_upto_region 3 with fail;refine wp_region_quiet_below (by kernel_rfl) (by kernel_rfl) ?_
 repeat (go_big_quiet_step (first
  |(go_at_call 12;exact Calls.regrown_of (HS.out _ _))
  |(go_at_call 18;exact Calls.regrown_of (HC1.out _ _))
  |(go_at_call 15;exact Calls.regrown_of (HC2.out _ _))))
 refine wpQuiet_nil ?_;rintro _ ⟨p9,rfl⟩;have HBQ:=za (HK.out.hb.step (below_regrown wb p9.d p9.os));generalize Go.Sort.grow (redrawn wb p9.d) p9.os=wq at *;clear qk0 qk1 qk2 qk3 qk4 qk5 qk6 qv0 qv1 qv2 qv3 qv4 qv5 qv6 qg0 qg1 HS HC1 HC2;go_wp2;go_ret;exact⟨rfl,HBQ.out⟩
open Go.ChangeShapes Go.WideShapes Go.ChangeAt Go.RowKit
theorem Jl(os:Os)(started:os.Started)(H:Type)(enc:TypeId×Value->H):
  ReturnsInHanded {} Tryz.checked os 4 .any (Rows.regsChecksSpec.pre6 enc prog Tryz.f4 Rows.regsChecksRow.domain false) (Rows.regsChecksSpec.post enc prog Tryz.f4 false true false false):=by
 refine returnsInHanded_of_change (C:=Tryz.checked) Tryz.own started (by kernel_rfl) func4
  (ChangeSpec.witness6 (enc:=enc) (C:=Tryz.checked) false ⟨#[],#[.agg #[.string ⟨#[]⟩,.string ⟨#[]⟩,.int .i64 0,.int .i64 0,.int .i64 0,.slice none 0 0,.slice none 0 0],.agg #[.string ⟨#[]⟩,.string ⟨#[]⟩,.int .i64 0,.int .i64 0,.int .i64 0,.slice none 0 0,.slice none 0 0],.agg #[.slice none 0 0,.slice none 0 0]],[]⟩ 8 (by kernel_rfl) (by kernel_rfl) (by kernel_rfl) (by kernel_rfl)) ?_
 intro W base args ds gs before hval0 hW hcnd _;have hval:∀(j:Nat) t v,Tryz.f4.params[j]?=some t->args[j]?=some v->Value.okWide prog W .any base t v:=hval0;have hW':=hW;obtain⟨p,q,hA0,hV,rfl,_,_⟩:=hW;have hA:DataW.TrodAll enc prog W 0 (fun _=>true) true Tryz.f4.params.toList args.toList ds p:=hA0;rw[Tryz.params4]at hA hval;obtain⟨args⟩:=args;obtain⟨v0,vs0,d0,ds0,p0,q0,rfl,rfl,rfl,h0,r0⟩:=trodAll_cons hA;obtain⟨v1,vs1,d1,ds1,p1,q1,rfl,rfl,rfl,h1,r1⟩:=trodAll_cons r0;obtain⟨v2,vs2,d2,ds2,p2,q2,rfl,rfl,rfl,h2,r2⟩:=trodAll_cons r1;obtain⟨rfl,rfl,rfl⟩:=trodAll_nil r2;obtain⟨rfl,rfl⟩:=trodVars_none hV;obtain⟨u,ca,cc,ga,gc,rfl,mu,hub⟩:=QS (hval 0 25 v0 rfl rfl) h0;obtain⟨v,da,dc,ea,ec,rfl,mv,hvb⟩:=QS (hval 1 25 v1 rfl rfl) h1;obtain⟨h,t,ha,hc,ta,tc,rfl,mh,mt,hwf⟩:=I_ (hval 2 30 v2 rfl rfl) h2;have hlt:∀x∈p0++(p1++(p2++ [])),x.block<W.heap.size:=fun x hx=>hW'.lt x (by simpa using hx)
 refine(EP u v h t ca cc ga gc da dc ea ec ha hc ta tc W mu mv mh mt (fun x hx=>(hub x hx).1) (fun y hy=>(hvb y hy).2) hwf).mono fun e W' ⟨he,hb⟩=> ?_
 subst he;refine⟨_,rfl,_,_,_,[],p0++(p1++(p2++ [])),[],hW',trodAll_mk1 (shut_bool Tryz.underlying4 true),?_,rfl,hb.frame _,fun h=>by cases h⟩;exact(trodAll_cons_mk (Oo I5 FL h0 hb (fun x hx=>hlt x (by simp[hx]))) (trodAll_cons_mk (Oo I5 FL h1 hb (fun x hx=>hlt x (by simp[hx]))) (trodAll_cons_mk (Oo Py RF h2 hb (fun x hx=>hlt x (by simp[hx]))) trodAll_mk0)))
theorem regsChecks_holds:Rows.RegsChecksSaid:=
 OpenClaim.holds_of_wide 4 Tryz.f4 rfl rfl rfl rfl rfl rfl rfl ⟨rfl,rfl,rfl,rfl,rfl⟩ rfl rfl rfl rfl rfl (by kernel_rfl) func4 (by kernel_rfl)
  (Qi (by kernel_rfl)) (by unfold Func.isWrapper;first|(rw[zj (by decide +kernel)];kernel_rfl)|(rw[zi (by decide +kernel)];exact⟨rfl,rfl⟩))
  (fun os started H enc _=>Jl os started H enc)
#print axioms regsChecks_holds
end Go.Proofs.YtgalekifgnecjaaGreat
