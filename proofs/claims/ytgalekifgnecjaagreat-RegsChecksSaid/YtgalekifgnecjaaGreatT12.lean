/- The reader of package regs: the homes of slots, where the first tests are passed -/
import Derived.Test.YtgalekifgnecjaaGreatT10
namespace Go.Proofs.YtgalekifgnecjaaGreat
open Tryz Go.RowKit Go.Shelf
set_option maxHeartbeats 8000000
set_option maxRecDepth 100000
attribute [local go_sem] Oper.semAt_some
def X4(v:zg)(us:List Int)(s:Nat)(x:Int):Bool:=(x== -1&& !us.contains (s:Int))||yr x 0 (v.slots-1)||(decide (x<= -2)&&yr (-2-x) 0 (v.frame-1))
theorem DF(v:zg)(h:List Int)(cl:List (Int×Int))(us:List Int)(s:Nat):vr v h cl us s=(X4 v us s (zh h s)&&(List.range s).all fun t=> !ZT cl s t||zh h s !=zh h t):=rfl
structure Sl(w0:World)(r:qF)(a bu bv b5 b6:Nat)(w:World):Prop where
 hb:P8 w0 r a bu bv w
 hs:yW w b5 (yx r.u)
 hp:y8 w b6 (zZ r.u)
theorem Sl.below{w0:World}{r:qF}{a bu bv b5 b6:Nat}{w w':World}(h:Sl w0 r a bu bv b5 b6 w)(hb:Below w.heap.size w w'):Sl w0 r a bu bv b5 b6 w':=⟨h.hb.below hb,h.hs.below hb,h.hp.below hb⟩
theorem LG{u v:zg}{h t:List Int}{s:Nat}(hs:s<h.length)(hf:vr v h (zZ u) (yx u) s=false):qk u v h t=false:=by
 rw[Y2,ZX hs hf];simp
theorem LE{u v:zg}{h t:List Int}{i:Nat}(hi:i<u.args.toNat)(hf:jX v h ((zf u).getD 0 []) i=false):qk u v h t=false:=by
 rw[Y2,ZX hi hf];simp
theorem DA{u v:zg}{h t:List Int}(h1:X5 u v h t=true)(h2:Va u v=true)(h3:∀s,s<h.length->vr v h (zZ u) (yx u) s=true)(h4:∀i,i<u.args.toNat->jX v h ((zf u).getD 0 []) i=true):qk u v h t=true:=by
 rw[Y2,h1,h2,xk,xk,yi];exact⟨yL.2 fun s hs=>h3 s (yR.1 hs),yL.2 fun i hi=>h4 i (yR.1 hi)⟩
attribute [local irreducible] wpStill
theorem Et(w0:World)(r:qF)(a:Nat)(w:World)(hm:Xs w0 r)(h:RI w0 r a w)(hw:zC r.u=true)(hh:r.h.length<=1000000)(_ht:r.t.length<=1000000)(hv:r.v.code.length<=1000000)(hwf:∀x∈r.h,-9223372036854775808<=x/\x<=9223372036854775807)(hhd:X5 r.u r.v r.h r.t=true):
  Calls prog 182 #[.pointer (some ⟨w0.heap.size,0,none⟩)] w (RP w0 r (if qk r.u r.v r.h r.t=true then some a else none) w):=by
 have HM:=za hm;have HI:=za h;obtain⟨o,ho⟩:∃o,o=if qk r.u r.v r.h r.t=true then some a else none:=⟨_,rfl⟩
 rw[<-ho];have HOO:=za ho;have HWF:=za hwf;have HHD:=za hhd;clear hm h ho hwf hhd;have hargs:=zL hw;have hn6:=qA hw;have hgo:=yq r.u;have hl0:0<r.u.code.length:=(z8 (zH hw)).1
 have kk:∀k v,(#[.string r.u.cls,.string r.u.name,.int .i64 r.u.args,.int .i64 r.u.slots,.int .i64 r.u.frame,.slice r.ca r.u.code.length r.cc,.slice r.ga r.u.guards.length r.gc,.slice r.va (zf r.u).length r.vc,
 .string r.v.cls,.string r.v.name,.int .i64 r.v.args,.int .i64 r.v.slots,.int .i64 r.v.frame,.slice r.da r.v.code.length r.dc,.slice r.ea r.v.guards.length r.ec,.slice r.ha r.h.length r.hc,.slice r.ta r.t.length r.tc,Value.int .i64 a]:Array Value)[k]?=some v->w.cell? ⟨w0.heap.size,k,none⟩=some v:=fun k v hk=>(zA _ _ k _ _ _ HI.out.hr).trans hk
 have k0:=kk 0 _ rfl;have k1:=kk 1 _ rfl;have k2:=kk 2 _ rfl;have k3:=kk 3 _ rfl;have k4:=kk 4 _ rfl;have k5:=kk 5 _ rfl;have k6:=kk 6 _ rfl;have k8:=kk 8 _ rfl;have k9:=kk 9 _ rfl;have k10:=kk 10 _ rfl;have k11:=kk 11 _ rfl;have k12:=kk 12 _ rfl;have k13:=kk 13 _ rfl;have k14:=kk 14 _ rfl;have k15:=kk 15 _ rfl;clear kk;have hlt:=ze HI.out.hr;have z1:¬w0.heap.size=w.heap.size:=by omega
 have z2:¬w0.heap.size=w.heap.size+1:=by omega
 have z3:¬w.heap.size=w0.heap.size:=by omega
 have z4:¬w.heap.size+1=w0.heap.size:=by omega
 go_enter func182,ntmps182;go_upto_region 0 with fail;go_cut [2,3,4]from 13 to 26 (fun s2 s3 s4 wy=>∃bu bv:Nat,s2= .pointer (some ⟨bu,0,none⟩)/\s3= .pointer (some ⟨bv,0,none⟩)/\s4= .slice r.ha r.h.length r.hc/\Hid (P8 w0 r a bu bv wy)/\Hid (Below w.heap.size w wy))
 case first=>
  go_region
  all_goals
   go_wp2_with fail;go_meet
   first
    |exact⟨w.heap.size,w.heap.size+1,rfl,rfl,rfl,za ⟨HI.out.below (((zd _ _).step (zd _ _)).step (zt _)),zb (zt _) (zb (zd _ _) (zo _ _ _ rfl)),zb (zt _) (zo _ _ _ (by simp))⟩,za (((zd _ _).step (zd _ _)).step (zt _))⟩
    |exact⟨w.heap.size+1,w.heap.size,rfl,rfl,rfl,za ⟨HI.out.below (((zd _ _).step (zd _ _)).step (zt _)),zb (zt _) (zo _ _ _ (by simp)),zb (zt _) (zb (zd _ _) (zo _ _ _ rfl))⟩,za (((zd _ _).step (zd _ _)).step (zt _))⟩
 case rest=>
  obtain⟨bu,bv,rfl,rfl,rfl,HB,HW0⟩:=hcut;clear k0 k1 k2 k3 k4 k5 k6 k8 k9 k10 k11 k12 k13 k14 k15;obtain⟨u0,u1,u2,u3,u4,u5,u6⟩:=zr HB.out.hu;obtain⟨v0,v1,v2,v3,v4,v5,v6⟩:=zr HB.out.hv;have k16:wc.cell? ⟨w0.heap.size,16,none⟩=some (.slice r.ta r.t.length r.tc):=(zA _ _ 16 _ _ _ HB.out.hi.hr).trans rfl;have HNO:Hid (qk r.u r.v r.h r.t=false->o=none):=za (fun h=>by rw[HOO.out,h];rfl);have hx:=HHD.out;unfold X5 at hx;simp only[yi,yB,qE]at hx;obtain⟨⟨⟨⟨h1,h2⟩,h3⟩,h4⟩,h5⟩:=hx;have d1:((r.h.length:Int)==r.u.slots)=true:=by simpa using h1
  have d2:((r.t.length:Int)==(r.u.code.length:Int))=true:=by simp only[qE];omega
  have d3:(r.u.cls.toList==r.v.cls.toList)=true:=by rw[<-beq_toListBytes];simpa using h3
  have d4:(r.u.name.toList==r.v.name.toList)=true:=by rw[<-beq_toListBytes];simpa using h4
  have d5:(r.u.args==r.v.args)=true:=by simpa using h5
  have HL:=za (And.intro h1 h2);have hhl:r.h.length<=200:=by omega
  have hh0:0<r.h.length:=by omega
  clear h1 h2 h3 h4 h5;go_upto_region 1 with fail;go_still_tail 38,(by kernel_rfl);change wpList _ _ _ _ _ wc.drew
  go_upto_region 2 with (first
   |(go_at_call 185;(with_reducible refine(yE _).mono ?_);rintro e w8 ⟨rfl,rfl⟩))
  clear d1 d2 d3 d4 d5 u0 u1 u2 u3 u4 u5 u6 v0 v1 v2 v3 v4 v5 v6 k16;have HBD:=za (HB.out.below (zt wc));have HWD:=za (HW0.out.step (zt wc));generalize wc.drew=wd at *;clear HB HW0;have HWI:=za (fun n lo hi w=>xY n lo hi w);have HMU:=za (fun b w=>UP b w);have HD2:Hid (Va r.u r.v=(yr r.v.slots 1 r.u.slots&&yr r.v.frame 0 200&&decide (r.v.code.length<=600))):=za rfl;have HN2:Hid (Va r.u r.v=false->o=none):=za (fun h=>HNO.out (by rw[Y2,h];simp));obtain⟨u0,u1,u2,u3,u4,u5,u6⟩:=zr HBD.out.hu;obtain⟨v0,v1,v2,v3,v4,v5,v6⟩:=zr HBD.out.hv;have HGD:=za (yw HWD.out (some w0.heap.size))
  cases e1:yr r.v.slots 1 r.u.slots with
  |false=>
   have HE:=za (HN2.out (by rw[HD2.out,e1];rfl));have HW1:=za (fun w=>HWI.out r.v.slots 1 r.u.slots w);rw[e1]at HW1;clear e1
   go_wp2_with (first
    |(go_at_call 43;(with_reducible refine(HW1.out _).mono ?_);rintro e w3 ⟨rfl,rfl⟩)
    |(go_at_call 185;(with_reducible refine(yM _).mono ?_);rintro e w8 ⟨rfl,rfl⟩))
   exact⟨rfl,HGD.out,by rw[HE.out]⟩
  |true=>
  have HW1:=za (fun w=>HWI.out r.v.slots 1 r.u.slots w);rw[e1]at HW1
  cases e2:yr r.v.frame 0 200 with
  |false=>
   have HE:=za (HN2.out (by rw[HD2.out,e1,e2];rfl));have HW2:=za (fun w=>HWI.out r.v.frame 0 200 w);rw[e2]at HW2;clear e1 e2
   go_wp2_with (first
    |(go_at_call 43;first|((with_reducible refine(HW1.out _).mono ?_);rintro e w3 ⟨rfl,rfl⟩)|((with_reducible refine(HW2.out _).mono ?_);rintro e w3 ⟨rfl,rfl⟩))
    |(go_at_call 185;(with_reducible refine(yM _).mono ?_);rintro e w8 ⟨rfl,rfl⟩))
   exact⟨rfl,HGD.out,by rw[HE.out]⟩
  |true=>
  have HW2:=za (fun w=>HWI.out r.v.frame 0 200 w);rw[e2]at HW2;by_cases e3:r.v.code.length<=600
  case neg=>
   have HE:=za (HN2.out (by rw[HD2.out,e1,e2,yn e3];rfl));have n3:(600:Int)<(r.v.code.length:Int):=by omega
   have n3d:decide (r.v.code.length<=600)=false:=yn e3;have n3e:decide ((r.v.code.length:Int)<=600)=false:=yn (by omega);clear e1 e2 e3
   go_wp2_with (first
    |(go_at_call 43;first|((with_reducible refine(HW1.out _).mono ?_);rintro e w3 ⟨rfl,rfl⟩)|((with_reducible refine(HW2.out _).mono ?_);rintro e w3 ⟨rfl,rfl⟩))
    |(go_at_call 185;(with_reducible refine(yM _).mono ?_);rintro e w8 ⟨rfl,rfl⟩))
   exact⟨rfl,HGD.out,by rw[HE.out]⟩
  have n3:(r.v.code.length:Int)<=600:=by omega
  have HT2:Hid (Va r.u r.v=true):=za (by rw[HD2.out,e1,e2,zP e3];rfl);have hsl:1<=r.v.slots/\r.v.slots<=200:=by unfold yr at e1;simp only[yi,yB]at e1;omega
  have hfr:0<=r.v.frame/\r.v.frame<=200:=by unfold yr at e2;simp only[yi,yB]at e2;omega
  clear e1 e2 e3
  go_upto_region 3 with (first
   |(go_at_call 43;first|((with_reducible refine(HW1.out _).mono ?_);rintro e w3 ⟨rfl,rfl⟩)|((with_reducible refine(HW2.out _).mono ?_);rintro e w3 ⟨rfl,rfl⟩))
   |(go_at_call 185;(with_reducible refine(yE _).mono ?_);rintro e w8 ⟨rfl,rfl⟩))
  clear HW1 HW2 HD2 HN2 n3;have HUS:=za (fun(w':World) (hb:Below w0.heap.size w0 w')=>On r.u r.ca r.cc r.ga r.gc w' (HM.out.below hb).mu.rc hn6 (by omega) (fun t ht x hx=>by have:=qG hw ht x hx;omega) (fun t ht=>by have:=xA hw ht;omega));have HCL:=za (fun(w':World) (hb:Below w0.heap.size w0 w')=>YG r.u r.ca r.cc r.ga r.gc w' (HM.out.below hb).mu hw);obtain⟨bh,oh,hha,_,_⟩:=(HM.out.mh.below HBD.out.hi.hb) 0 hh0;have HHA:=za hha;clear hha;rw[HHA.out];go_cut [5,6]from 83 to 86 (fun s5 s6 wy=>∃b5 b6:Nat,s5= .map (some b5)/\s6= .map (some b6)/\Hid (Sl w0 r a bu bv b5 b6 wy)/\Hid (Below w.heap.size w wy))
  case first=>
   have HBd:Hid (P8 w0 r a bu bv w8.drew):=za (HBD.out.below (zt w8))
   go_region_with (first
    |(go_at_call 104;(with_reducible refine(HUS.out _ HBd.out.hi.hb).mono ?_);rintro e w7 ⟨hb,b5,rfl,hset,_⟩;have HB7:=za (HBd.out.below hb);have HW7:=za ((HWD.out.step (zt w8)).step hb);have HS7:=za hset;obtain⟨j0,j1,j2,j3,j4,j5,j6⟩:=zr HB7.out.hu;clear hb hset)
    |(go_at_call 63;(with_reducible refine(HCL.out _ HB7.out.hi.hb).mono ?_);rintro e w9 ⟨hb,b6,rfl,hpa,_⟩;have HB9:=za (HB7.out.below hb);have HW9:=za (HW7.out.step hb);have HS9:=za (HS7.out.below hb);have HP9:=za hpa;clear hb hpa))
   all_goals (go_wp2_with fail;go_meet;exact⟨_,_,rfl,rfl,za ⟨HB9.out,HS9.out,HP9.out⟩,HW9⟩)
  case rest=>
   obtain⟨b5,b6,rfl,rfl,HQ0,HWQ⟩:=hcut;clear u0 u1 u2 u3 u4 u5 u6 v0 v1 v2 v3 v4 v5 v6 HBD HWD HGD HUS HCL;have HGE:=za (fun(wy:World) (hb:Below wc.heap.size wc wy)=>(yw (HWQ.out.step hb) (some w0.heap.size)));have HF1:=za (fun s (hs:s<r.h.length) (hf:vr r.v r.h (zZ r.u) (yx r.u) s=false)=>HNO.out (LG hs hf));have HF2:=za (fun i (hi:i<r.u.args.toNat) (hf:jX r.v r.h ((zf r.u).getD 0 []) i=false)=>HNO.out (LE hi hf));have HOK:=za (fun h3 h4=>(show o=some a from by rw[HOO.out,zj (DA HHD.out HT2.out h3 h4)]))
   have HRH:=za (fun(w':World) (hb:Below w0.heap.size w0 w') i (hi:i<r.h.length)=>(show w'.cell? ⟨bh,oh+i,none⟩=some (.int .i64 r.h[i])from by
    obtain⟨b2,o2,e2,_,h2⟩:=(HM.out.mh.below hb) i hi;rw[HHA.out]at e2;cases e2
    exact h2))
   clear HNO HOO HT2;go_upto_region 5 with fail;go_loopg [89] r.h.length (fun gh s89 wr=>∃s:Nat,s<=r.h.length/\gh=r.h.length-s/\s89= .int .i64 s/\Hid (Below wc.heap.size wc wr)/\Hid (∀k,k<s->vr r.v r.h (zZ r.u) (yx r.u) k=true));case atStart=>exact⟨0,zE _,rfl,rfl,za (zG _ _),za (fun k h=>absurd h (y_ _))⟩
   case round=>
    obtain⟨s,hs,rfl,rfl,HB,HP⟩:=hrel;by_cases hsl2:s<r.h.length
    ·have ns:(s:Int)<(r.h.length:Int):=by omega
     have HQ:=za (HQ0.out.below HB.out);have h0:=HRH.out wr HQ.out.hb.hi.hb s hsl2;have hxw:=HWF.out r.h[s] (yy hsl2);have HO1:Hid (vr r.v r.h (zZ r.u) (yx r.u) s=(X4 r.v (yx r.u) s r.h[s]&&(List.range s).all fun t=> !ZT (zZ r.u) s t||r.h[s] !=zh r.h t)):=za (by rw[DF,show zh r.h (s:Int)=r.h[s]from zk hsl2]);have HP1:Hid (X4 r.v (yx r.u) s r.h[s]=((r.h[s]== -1&& !(yx r.u).contains (s:Int))||yr r.h[s] 0 (r.v.slots-1)||(decide (r.h[s]<= -2)&&yr (-2-r.h[s]) 0 (r.v.frame-1)))):=za rfl;have hlk:=HQ.out.hs.hasT Tryz.underlying156 (k:=(s:Int)) (by omega);have HF1s:=za (HF1.out s hsl2);have HGR:=za (HGE.out wr HB.out);obtain⟨_,_,_,v3,v4,_,_⟩:=zr HQ.out.hb.hv;obtain⟨x,hx⟩:∃x,x=r.h[s]:=⟨_,rfl⟩
     rw[<-hx]at HO1 HP1 hxw h0;have HX:=za hx;clear hx;have HWB:=za (fun w=>HWI.out x 0 (r.v.slots-1) w);have HWC:=za (fun w=>HWI.out (-2-x) 0 (r.v.frame-1) w);have e1:IntKind.i64.wrap (r.v.slots-1)=r.v.slots-1:=ju (by omega);have e2:IntKind.i64.wrap (r.v.frame-1)=r.v.frame-1:=ju (by omega);have hend:∀q:Bool,X4 r.v (yx r.u) s x=q->(q=false->o=none):=fun q hq h=>HF1s.out (by rw[HO1.out,hq,h];rfl)
     have HEND:=za hend;clear hend;have hfr0:(0:Int)<=0:=by omega
     go_upto_region 7 with fail;go_cut []from 94 to 121 (fun wy=>wy=wr/\Hid (X4 r.v (yx r.u) s x=true))
     case first=>
      rcases(show 0<=x\/x= -1\/x<= -2 by omega)with hx0|hx0|hx0
      ·have dm:(x== -1)=false:=by simp only[yY,ne_eq];omega
       have dl:¬x<= -2:=by omega
       cases hbb:yr x 0 (r.v.slots-1)with
       |true=>
        have HPT:Hid (X4 r.v (yx r.u) s x=true):=za (by rw[HP1.out,dm,hbb];simp);rw[hbb]at HWB;clear hbb
        go_wp2_with (first
         |(go_at_call 43;first|((with_reducible refine(HWB.out _).mono ?_);rintro e w3 ⟨rfl,rfl⟩)|((with_reducible refine(HWC.out _).mono ?_);rintro e w3 ⟨rfl,rfl⟩))
         |(go_at_call 185;(with_reducible refine(yE _).mono ?_);rintro e w8 ⟨rfl,rfl⟩))
        go_meet
        exact⟨rfl,HPT⟩
       |false=>
        have HPF:Hid (X4 r.v (yx r.u) s x=false):=za (by rw[HP1.out,dm,hbb,yn dl];simp);rw[hbb]at HWB;clear hbb
        go_wp2_with (first
         |(go_at_call 43;first|((with_reducible refine(HWB.out _).mono ?_);rintro e w3 ⟨rfl,rfl⟩)|((with_reducible refine(HWC.out _).mono ?_);rintro e w3 ⟨rfl,rfl⟩))
         |(go_at_call 185;(with_reducible refine(yM _).mono ?_);rintro e w8 ⟨rfl,rfl⟩))
        exact⟨rfl,HGR.out,by rw[HEND.out false HPF.out rfl]⟩
      ·have dm:(x== -1)=true:=by simpa using hx0
       have dl:¬x<= -2:=by omega
       have hbb:yr x 0 (r.v.slots-1)=false:=by unfold yr;rw[yn (show ¬0<=x by omega)];rfl
       cases hcc:(yx r.u).contains (s:Int)with
       |false=>
        have HPT:Hid (X4 r.v (yx r.u) s x=true):=za (by rw[HP1.out,dm,hcc];simp);rw[hbb]at HWB;rw[hcc]at hlk;clear hbb hcc hx0
        go_wp2_with (first
         |(go_at_call 43;first|((with_reducible refine(HWB.out _).mono ?_);rintro e w3 ⟨rfl,rfl⟩)|((with_reducible refine(HWC.out _).mono ?_);rintro e w3 ⟨rfl,rfl⟩))
         |(go_at_call 185;(with_reducible refine(yE _).mono ?_);rintro e w8 ⟨rfl,rfl⟩))
        go_meet
        exact⟨rfl,HPT⟩
       |true=>
        have HPF:Hid (X4 r.v (yx r.u) s x=false):=za (by rw[HP1.out,dm,hcc,hbb,yn dl];simp);rw[hbb]at HWB;rw[hcc]at hlk;clear hbb hcc hx0
        go_wp2_with (first
         |(go_at_call 43;first|((with_reducible refine(HWB.out _).mono ?_);rintro e w3 ⟨rfl,rfl⟩)|((with_reducible refine(HWC.out _).mono ?_);rintro e w3 ⟨rfl,rfl⟩))
         |(go_at_call 185;(with_reducible refine(yM _).mono ?_);rintro e w8 ⟨rfl,rfl⟩))
        exact⟨rfl,HGR.out,by rw[HEND.out false HPF.out rfl]⟩
      ·have dm:(x== -1)=false:=by simp only[yY,ne_eq];omega
       have hbb:yr x 0 (r.v.slots-1)=false:=by unfold yr;rw[yn (show ¬0<=x by omega)];rfl
       have e3:IntKind.i64.wrap (-2-x)= -2-x:=ju (by omega)
       cases hcc:yr (-2-x) 0 (r.v.frame-1)with
       |true=>
        have HPT:Hid (X4 r.v (yx r.u) s x=true):=za (by rw[HP1.out,dm,hbb,hcc,zP hx0];simp);rw[hbb]at HWB;rw[hcc]at HWC;clear hbb hcc
        go_wp2_with (first
         |(go_at_call 43;first|((with_reducible refine(HWB.out _).mono ?_);rintro e w3 ⟨rfl,rfl⟩)|((with_reducible refine(HWC.out _).mono ?_);rintro e w3 ⟨rfl,rfl⟩))
         |(go_at_call 185;(with_reducible refine(yE _).mono ?_);rintro e w8 ⟨rfl,rfl⟩))
        go_meet
        exact⟨rfl,HPT⟩
       |false=>
        have HPF:Hid (X4 r.v (yx r.u) s x=false):=za (by rw[HP1.out,dm,hbb,hcc,zP hx0];simp);rw[hbb]at HWB;rw[hcc]at HWC;clear hbb hcc
        go_wp2_with (first
         |(go_at_call 43;first|((with_reducible refine(HWB.out _).mono ?_);rintro e w3 ⟨rfl,rfl⟩)|((with_reducible refine(HWC.out _).mono ?_);rintro e w3 ⟨rfl,rfl⟩))
         |(go_at_call 185;(with_reducible refine(yM _).mono ?_);rintro e w8 ⟨rfl,rfl⟩))
        exact⟨rfl,HGR.out,by rw[HEND.out false HPF.out rfl]⟩
     case rest=>
      obtain⟨hwc,HPT⟩:=hcut;subst hwc;clear HWB HWC HP1 hlk e1 e2 v3 v4 hfr0;have HXG:Hid (zh r.h (s:Int)=x):=za (by rw[HX.out];exact zk hsl2);go_upto_region 9 with fail;clear h0;go_loopg [123] s (fun gh s123 wy=>∃t:Nat,t<=s/\gh=s-t/\s123= .int .i64 t/\Hid (Below wc.heap.size wc wy)/\Hid (∀k,k<t->(!ZT (zZ r.u) s k||x !=zh r.h (k:Nat))=true));case atStart=>exact⟨0,zE _,rfl,rfl,za (zG _ _),za (fun k h=>absurd h (y_ _))⟩
      case round=>
       obtain⟨t,ht,rfl,rfl,HBT,HPt⟩:=hrel;by_cases hts:t<s
       ·have nt:(t:Int)<(s:Int):=by omega
        have htl:t<r.h.length:=by omega
        have ntl:(t:Int)<(r.h.length:Int):=by omega
        have HQT:=za (HQ.out.below HBT.out);have hcs:=(HRH.out wr HQT.out.hb.hi.hb s hsl2).trans (congrArg (fun z=>some (Value.int .i64 z)) HX.out.symm);have hct:=HRH.out wr HQT.out.hb.hi.hb t htl;have HCC:=za (Ux s t b6 (zZ r.u) wr.drew (HQT.out.hp.below (zt wr)) (by omega) (by omega));have HG2:=za (((HGR.out.andThen (yw HBT.out none) (fun _ e=>by cases e))).andThen (yw (zt wr) none) (fun _ e=>by cases e))
        have HBad:Hid (ZT (zZ r.u) s t=true->x=r.h[t]->o=none):=za (fun hc he=>HF1s.out (by
         rw[HO1.out,ZX hts (by rw[hc,show zh r.h (t:Int)=r.h[t]from zk htl,he];simp)]
         simp))
        have HGood:Hid ((ZT (zZ r.u) s t=false\/x≠r.h[t])->∀k,k<t+1->(!ZT (zZ r.u) s k||x !=zh r.h (k:Nat))=true):=za (fun hc k hk=>by
         by_cases e:k<t
         ·exact HPt.out k e
         ·obtain rfl:k=t:=by omega
          rcases hc with hc|hc
          ·rw[hc];rfl
          ·rw[show zh r.h (k:Int)=r.h[k]from zk htl]
           simp[hc])
        generalize r.h[t]=y at *
        cases hc:ZT (zZ r.u) s t with
        |false=>
         rw[hc]at HCC;have HG3:=za (HGood.out (.inl hc));clear hc;go_upto_region 11 with fail;go_still_tail 16,(by kernel_rfl);still_call HCC.out
         repeat still_step
         refine wpStill_nil ?_;change wpList _ _ _ _ _ wr.drew
         go_wp2_with (first
          |(go_at_call 185;(with_reducible refine(yE _).mono ?_);rintro e w8 ⟨rfl,rfl⟩))
         go_roundg (s-(t+1));case measure=>omega
         case rel=>exact⟨t+1,by omega,rfl,by go_num,za (HBT.out.step (zt _)),HG3⟩
        |true=>
         rw[hc]at HCC;by_cases hxy:x=y
         ·have HE:=za (HBad.out hc hxy)
          have d:(x !=y)=false:=by rw[hxy];simp
          clear hc hxy;go_upto_region 11 with fail;go_still_tail 16,(by kernel_rfl);still_call HCC.out
          repeat still_step
          refine wpStill_nil ?_;change wpList _ _ _ _ _ wr.drew
          go_wp2_with (first
           |(go_at_call 185;(with_reducible refine(yM _).mono ?_);rintro e w8 ⟨rfl,rfl⟩))
          exact⟨rfl,HG2.out,by rw[HE.out]⟩
         ·have HG3:=za (HGood.out (.inr hxy))
          have d:(x !=y)=true:=by simpa using hxy
          clear hc hxy;go_upto_region 11 with fail;go_still_tail 16,(by kernel_rfl);still_call HCC.out
          repeat still_step
          refine wpStill_nil ?_;change wpList _ _ _ _ _ wr.drew
          go_wp2_with (first
           |(go_at_call 185;(with_reducible refine(yE _).mono ?_);rintro e w8 ⟨rfl,rfl⟩))
          go_roundg (s-(t+1));case measure=>omega
          case rel=>exact⟨t+1,by omega,rfl,by go_num,za (HBT.out.step (zt _)),HG3⟩
       ·obtain rfl:t=s:=by omega
        have nt:¬(t:Int)<(t:Int):=by omega
        have HOT:Hid (vr r.v r.h (zZ r.u) (yx r.u) t=true):=za (by
         rw[HO1.out,HPT.out,xk]
         exact yL.2 fun k hk=>HPt.out k (yR.1 hk))
        go_wp2;go_roundg (r.h.length-(t+1));case measure=>omega
        case rel=>exact⟨t+1,by omega,rfl,by go_num,za (HB.out.step HBT.out),za (fun k hk=>by
         by_cases e:k<t
         ·exact HP.out k e
         ·obtain rfl:k=t:=by omega
          exact HOT.out)⟩
    ·obtain rfl:s=r.h.length:=by omega
     have ns:¬(r.h.length:Int)<(r.h.length:Int):=by omega
     have HQ:=za (HQ0.out.below HB.out);have HALL:=za (fun k (hk:k<r.h.length)=>HP.out k hk);obtain⟨n,hn⟩:∃n:Nat,r.u.args=(n:Int):=⟨r.u.args.toNat,by omega⟩
     have HN:=za hn;have hn2:n<=200:=by omega
     have hnl:n<=r.h.length:=by have:=HL.out.1;omega
     rw[show r.u.args.toNat=n by omega]at HF2 HOK;clear hn;have HGR:=za (HGE.out wr HB.out);have hlv:0<(zf r.u).length:=by rw[hgo.len];exact hl0
     obtain⟨b4,off4,ai,ci,hva,_,hc4,hr4,_,_⟩:=(HM.out.ml.below HQ.out.hb.hi.hb) 0 hlv;have HVA:=za hva;have HR0:Hid ((zf r.u).getD 0 []=(zf r.u)[0]):=za (zk hlv);rw[HR0.out]at HF2 HOK;have hr0:(zf r.u)[0].length<=200:=by have:=qJ hw 0;rw[HR0.out]at this;exact this
     have HC4:Hid (wr.cell? ⟨b4,off4,none⟩=some (.slice ai (zf r.u)[0].length ci)):=za (by simpa using hc4);have HR4:=za hr4;have nlv:(0:Int)<((zf r.u).length:Int):=by omega
     clear hva hc4 hr4 HR0;have HAE:Hid (∀i (hi:i<r.h.length),jX r.v r.h (zf r.u)[0] i=if r.v.frame=0 then r.h[i]==(i:Int)else decide ((i:Int)<r.v.frame)&&((List.range r.h.length).all fun t=>zh r.h t != -2-(i:Int)||t==i|| !(zf r.u)[0].contains (t:Int))&&(decide (0<=r.h[i])||r.h[i]== -2-(i:Int))):=za (fun i hi=>by unfold jX;rw[show zh r.h (i:Int)=r.h[i]from zk hi]);generalize (zf r.u)[0]=r0 at *;obtain⟨_,_,u2,_,_,_,_⟩:=zr HQ.out.hb.hu;rw[HN.out]at u2;go_upto_region 15 with fail;clear u2;go_loopg [147] n (fun gh s147 wy=>∃i:Nat,i<=n/\gh=n-i/\s147= .int .i64 i/\Hid (Below wr.heap.size wr wy)/\Hid (∀k,k<i->jX r.v r.h r0 k=true));case atStart=>exact⟨0,zE _,rfl,rfl,za (zG _ _),za (fun k h=>absurd h (y_ _))⟩
     case round=>
      obtain⟨i,hi,rfl,rfl,HBI,HPI⟩:=hrel;by_cases hin:i<n
      ·have ni:(i:Int)<(n:Int):=by omega
       have hil:i<r.h.length:=by omega
       have nil:(i:Int)<(r.h.length:Int):=by omega
       have HQI:=za (HQ.out.below HBI.out);have hci:=HRH.out wr HQI.out.hb.hi.hb i hil;have HGI:=za (HGR.out.andThen (yw HBI.out none) (fun _ e=>by cases e));have HA:=za (HAE.out i hil)
       have HNX:Hid (jX r.v r.h r0 i=true->∀k,k<i+1->jX r.v r.h r0 k=true):=za (fun h k hk=>by
        by_cases e:k<i
        ·exact HPI.out k e
        ·obtain rfl:k=i:=by omega
         exact h)
       have HF2i:=za (HF2.out i hin);obtain⟨x,hx⟩:∃x,r.h[i]=x:=⟨_,rfl⟩
       have HXX:=za hx;rw[hx]at hci HA;clear hx;obtain⟨_,_,_,_,v4,_,_⟩:=zr HQI.out.hb.hv;by_cases hf0:r.v.frame=0
       ·rw[zj hf0]at HA
        rw[hf0]at v4;by_cases hxi:x=(i:Int)
        ·have d:(x==(i:Int))=true:=by simpa using hxi
         have HG3:=za (HNX.out (HA.out.trans d));clear hxi hf0
         go_wp2_with (first
          |(go_at_call 185;(with_reducible refine(yE _).mono ?_);rintro e w8 ⟨rfl,rfl⟩))
         go_roundg (n-(i+1));case measure=>omega
         case rel=>exact⟨i+1,by omega,rfl,by go_num,HBI,HG3⟩
        ·have d:(x==(i:Int))=false:=by simpa using hxi
         have HE:=za (HF2i.out (HA.out.trans d));clear hxi hf0
         go_wp2_with (first
          |(go_at_call 185;(with_reducible refine(yM _).mono ?_);rintro e w8 ⟨rfl,rfl⟩))
         exact⟨rfl,HGI.out,by rw[HE.out]⟩
       ·rw[zi hf0]at HA
        have df:(r.v.frame==0)=false:=by simpa using hf0
        clear hf0;by_cases hif:(i:Int)<r.v.frame
        ·rw[zP hif,xk]at HA
         have e1:IntKind.i64.wrap (-2-(i:Int))= -2-(i:Int):=ju (by omega)
         go_upto_region 21 with (first
          |(go_at_call 185;(with_reducible refine(yE _).mono ?_);rintro e w8 ⟨rfl,rfl⟩))
         clear v4 hci;go_loopg [167] r.h.length (fun gh s167 wz=>∃t:Nat,t<=r.h.length/\gh=r.h.length-t/\s167= .int .i64 t/\Hid (Below w8.heap.size w8 wz)/\Hid (∀k,k<t->(zh r.h (k:Nat) != -2-(i:Int)||k==i|| !r0.contains (k:Int))=true));case atStart=>exact⟨0,zE _,rfl,rfl,za (zG _ _),za (fun k h=>absurd h (y_ _))⟩
         case round=>
          obtain⟨t,ht,rfl,rfl,HBT,HPT⟩:=hrel;have HQT:=za (HQI.out.below HBT.out);have HGT:=za (HGI.out.andThen (yw HBT.out none) (fun _ e=>by cases e));by_cases htl:t<r.h.length
          ·have ntl:(t:Int)<(r.h.length:Int):=by omega
           have hct:=HRH.out wr HQT.out.hb.hi.hb t htl;have k7:wr.cell? ⟨w0.heap.size,7,none⟩=some (.slice (some ⟨b4,off4,none⟩) (zf r.u).length r.vc):=(zA _ _ 7 _ _ _ HQT.out.hb.hi.hr).trans (by rw[<-HVA.out];rfl);have c4:=zK (HBI.out.step HBT.out) HC4.out;have HCT:=za (Xq r0 (t:Int) ai ci wr (HR4.out.below (HBI.out.step HBT.out)) (by omega))
           have HNT:Hid ((zh r.h (t:Int) != -2-(i:Int)||t==i|| !r0.contains (t:Int))=true->∀k,k<t+1->(zh r.h (k:Nat) != -2-(i:Int)||k==i|| !r0.contains (k:Int))=true):=za (fun h k hk=>by
            by_cases e:k<t
            ·exact HPT.out k e
            ·obtain rfl:k=t:=by omega
             exact h)
           have HBD:Hid ((zh r.h (t:Int) != -2-(i:Int)||t==i|| !r0.contains (t:Int))=false->o=none):=za (fun h=>HF2i.out (by rw[HA.out,ZX htl h];rfl));rw[show zh r.h (t:Int)=r.h[t]from zk htl]at HNT HBD;generalize r.h[t]=y at *;by_cases hy:y= -2-(i:Int)
           ·have d1:(y != -2-(i:Int))=false:=by rw[hy];simp
            by_cases hti:t=i
            ·have d2:((t:Int)==(i:Int))=true:=by rw[hti];simp
             have HG4:=za (HNT.out (by rw[hti];simp));clear hy hti
             go_wp2_with (first
              |(go_at_call 141;(with_reducible refine HCT.out.mono ?_);rintro e w7 ⟨rfl,rfl⟩)
              |(go_at_call 185;(with_reducible refine(yE _).mono ?_);rintro e w9 ⟨rfl,rfl⟩))
             go_roundg (r.h.length-(t+1));case measure=>omega
             case rel=>exact⟨t+1,by omega,rfl,by go_num,HBT,HG4⟩
            ·have d2:((t:Int)==(i:Int))=false:=by simp only[yY,ne_eq];omega
             have d3:(t==i)=false:=by simpa using hti
             cases hc:r0.contains (t:Int)with
             |false=>
              have HG4:=za (HNT.out (by rw[d1,d3,hc];rfl));rw[hc]at HCT;clear hc hy hti d3
              go_wp2_with (first
               |(go_at_call 141;(with_reducible refine HCT.out.mono ?_);rintro e w7 ⟨rfl,rfl⟩)
               |(go_at_call 185;(with_reducible refine(yE _).mono ?_);rintro e w9 ⟨rfl,rfl⟩))
              go_roundg (r.h.length-(t+1));case measure=>omega
              case rel=>exact⟨t+1,by omega,rfl,by go_num,HBT,HG4⟩
             |true=>
              have HE:=za (HBD.out (by rw[d1,d3,hc];rfl));rw[hc]at HCT;clear hc hy hti d3
              go_wp2_with (first
               |(go_at_call 141;(with_reducible refine HCT.out.mono ?_);rintro e w7 ⟨rfl,rfl⟩)
               |(go_at_call 185;(with_reducible refine(yM _).mono ?_);rintro e w9 ⟨rfl,rfl⟩))
              exact⟨rfl,HGT.out,by rw[HE.out]⟩
           ·have d1:(y != -2-(i:Int))=true:=by simpa using hy
            have HG4:=za (HNT.out (by rw[d1];rfl));clear hy
            go_wp2_with (first
             |(go_at_call 141;(with_reducible refine HCT.out.mono ?_);rintro e w7 ⟨rfl,rfl⟩)
             |(go_at_call 185;(with_reducible refine(yE _).mono ?_);rintro e w9 ⟨rfl,rfl⟩))
            go_roundg (r.h.length-(t+1));case measure=>omega
            case rel=>exact⟨t+1,by omega,rfl,by go_num,HBT,HG4⟩
          ·obtain rfl:t=r.h.length:=by omega
           have ntl:¬(r.h.length:Int)<(r.h.length:Int):=by omega
           have hci:=HRH.out wr HQT.out.hb.hi.hb i hil;have HXI:Hid (r.h[i]=x):=HXX;rw[HXI.out]at hci
           have HA2:Hid (jX r.v r.h r0 i=(decide (0<=x)||x== -2-(i:Int))):=za (by
            rw[HA.out,yL.2 (fun k hk=>HPT.out k (yR.1 hk))]
            rfl)
           by_cases hx0:0<=x
           ·have HG3:=za (HNX.out (by rw[HA2.out,zP hx0];rfl))
            go_wp2_with (first
             |(go_at_call 185;(with_reducible refine(yE _).mono ?_);rintro e w9 ⟨rfl,rfl⟩))
            go_roundg (n-(i+1));case measure=>omega
            case rel=>exact⟨i+1,by omega,rfl,by go_num,za (HBI.out.step HBT.out),HG3⟩
           ·by_cases hx2:x= -2-(i:Int)
            ·have d5:(x== -2-(i:Int))=true:=by simpa using hx2
             have HG3:=za (HNX.out (by rw[HA2.out,d5];simp));clear hx2
             go_wp2_with (first
              |(go_at_call 185;(with_reducible refine(yE _).mono ?_);rintro e w9 ⟨rfl,rfl⟩))
             go_roundg (n-(i+1));case measure=>omega
             case rel=>exact⟨i+1,by omega,rfl,by go_num,za (HBI.out.step HBT.out),HG3⟩
            ·have d5:(x== -2-(i:Int))=false:=by simpa using hx2
             have HE:=za (HF2i.out (by rw[HA2.out,d5,yn hx0];rfl));clear hx2
             go_wp2_with (first
              |(go_at_call 185;(with_reducible refine(yM _).mono ?_);rintro e w9 ⟨rfl,rfl⟩))
             exact⟨rfl,HGT.out,by rw[HE.out]⟩
        ·rw[yn hif]at HA
         have HE:=za (HF2i.out (by rw[HA.out];rfl))
         go_wp2_with (first
          |(go_at_call 185;(with_reducible refine(yM _).mono ?_);rintro e w8 ⟨rfl,rfl⟩))
         exact⟨rfl,HGI.out,by rw[HE.out]⟩
      ·obtain rfl:i=n:=by omega
       have ni:¬(i:Int)<(i:Int):=by omega
       have HFIN:=za (HOK.out (fun s hs=>HALL.out s hs) (fun k hk=>HPI.out k hk));have HIE:=za ((HQ.out.below HBI.out).hb.hi);have HGI:=za (HGR.out.andThen (yw HBI.out none) (fun _ e=>by cases e));go_wp2
       go_end0
       exact⟨HGI.out,by rw[HFIN.out];exact⟨rfl,HIE.out⟩⟩
end Go.Proofs.YtgalekifgnecjaaGreat
