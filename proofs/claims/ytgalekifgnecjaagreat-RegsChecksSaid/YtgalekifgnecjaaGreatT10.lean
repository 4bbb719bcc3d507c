/- The reader of package regs: the guards, what is taken -/
import Derived.Test.YtgalekifgnecjaaGreatT8
import Derived.BigQuiet
import Derived.Test.YtgalekifgnecjaaGreatS6
import Derived.BigRegion
namespace Go.Proofs.YtgalekifgnecjaaGreat
open Tryz Go.RowKit
open Go.RowKit Go.Shelf
set_option maxHeartbeats 8000000
set_option maxRecDepth 100000
attribute [local go_sem] Oper.semAt_some
theorem Ic{u v:zg}{t:List Int}(hl:v.guards.length=u.guards.length)(h:∀k (hk:k<u.guards.length),v.guards[k]'(by omega)=x_ u t v.code.length u.guards[k]):jS u v t=true:=by
 unfold jS;refine zP (List.ext_getElem (by rw[ym,hl]) fun k h1 h2=> ?_);rw[List.getElem_map];exact h k (by omega)
theorem Id{u v:zg}{t:List Int}{k:Nat}(h1:k<v.guards.length)(h2:k<u.guards.length)(h:v.guards[k]≠x_ u t v.code.length u.guards[k]):jS u v t=false:=by
 unfold jS;refine yn fun e=>h ?_
 have:=List.getElem_of_eq e h1;rw[List.getElem_map]at this;exact this
theorem Ao{u v:zg}{t:List Int}(h:v.guards.length≠u.guards.length):jS u v t=false:=by
 unfold jS;refine yn fun e=>h ?_
 rw[e,ym]
theorem Ev(w0:World)(r:qF)(a:Nat)(w:World)(hm:Xs w0 r)(h:RI w0 r a w)(hp:zJ r.u=true)(ht:r.t.length=r.u.code.length)(_hv:r.v.guards.length<=1000000)(_hvc:r.v.code.length<=1000000):
  Calls prog 186 #[.pointer (some ⟨w0.heap.size,0,none⟩)] w (RP w0 r (if jS r.u r.v r.t=true then some a else none) w):=by
 have HM:=za hm;have HI:=za h;obtain⟨hl0,hl6,hl4,_⟩:=z8 hp;have HPA:=za (fun g (hg:g<r.u.guards.length)=>Zv hp hg);have HT:=za ht;clear hm h ht hp;obtain⟨o,ho⟩:∃o,o=if jS r.u r.v r.t=true then some a else none:=⟨_,rfl⟩
 rw[<-ho];have HOO:=za ho;clear ho;have k14:w.cell? ⟨w0.heap.size,14,none⟩=some (.slice r.ea r.v.guards.length r.ec):=(zA _ _ 14 _ _ _ HI.out.hr).trans rfl;have k6:w.cell? ⟨w0.heap.size,6,none⟩=some (.slice r.ga r.u.guards.length r.gc):=(zA _ _ 6 _ _ _ HI.out.hr).trans rfl;by_cases hlen:r.v.guards.length=r.u.guards.length
 case neg=>
  have HE:=za (Ao (t:=r.t) hlen)
  have d:((r.v.guards.length:Int)==(r.u.guards.length:Int))=false:=by
   simp only[yY,ne_eq];omega
  clear hlen;go_enter func186,ntmps186;go_upto_region 0 with fail;go_still_tail 14,(by kernel_rfl);change wpList _ _ _ _ _ w.drew
  go_wp2_with (first
   |(go_at_call 185;(with_reducible refine(yM _).mono ?_);rintro e w' ⟨rfl,rfl⟩))
  exact⟨rfl,yw (zt _) _,by rw[HOO.out,HE.out];rfl⟩
 case pos=>
  have d:((r.v.guards.length:Int)==(r.u.guards.length:Int))=true:=by rw[hlen];simp
  have HLEN:=za hlen;have hle:r.v.guards.length<=r.u.guards.length:=by omega
  have hge:r.u.guards.length<=r.v.guards.length:=by omega
  have HBB:=za (zt w);go_enter func186,ntmps186;go_upto_region 0 with fail;go_still_tail 14,(by kernel_rfl);change wpList _ _ _ _ _ w.drew
  go_upto_region 1 with (first
   |(go_at_call 185;(with_reducible refine(yE _).mono ?_);rintro e w' ⟨rfl,rfl⟩))
  clear d hlen;generalize w.drew=w1 at *;have HI1:=za (HI.out.below HBB.out);clear k14 k6;have k6:w1.cell? ⟨w0.heap.size,6,none⟩=some (.slice r.ga r.u.guards.length r.gc):=(zA _ _ 6 _ _ _ HI1.out.hr).trans rfl;go_upto_region 2 with fail;clear k6;go_loopg [27] r.u.guards.length (fun gh s27 wr=>∃i:Nat,i<=r.u.guards.length/\gh=r.u.guards.length-i/\s27= .int .i64 i/\Hid (Below w1.heap.size w1 wr)/\Hid (∀k (hk:k<r.u.guards.length),k<i->r.v.guards[k]'(by omega)=x_ r.u r.t r.v.code.length r.u.guards[k]));case atStart=>exact⟨0,zE _,rfl,rfl,za (zG _ _),za (fun k hk h=>absurd h (y_ _))⟩
  case round=>
   obtain⟨i,hi,rfl,rfl,HB,HQ⟩:=hrel;by_cases hig:i<r.u.guards.length
   ·have ni:(i:Int)<(r.u.guards.length:Int):=by omega
    have hiv:i<r.v.guards.length:=by omega
    have niv:(i:Int)<(r.v.guards.length:Int):=by omega
    have HIR:=za (HI1.out.below HB.out);obtain⟨hat0,hat1,hf0,hf1⟩:=HPA.out i hig;obtain⟨bg,og,hga,_,g0,g1,g2⟩:=(HM.out.mu.rg.below HIR.out.hb) i hig;have HHG:=za hga;have HGT:=za (show x_ r.u r.t r.v.code.length r.u.guards[i]=⟨r.t.getD r.u.guards[i].frm.toNat 0,if r.u.guards[i].til<r.u.code.length then r.t.getD r.u.guards[i].til.toNat 0 else r.v.code.length,r.t.getD r.u.guards[i].at'.toNat 0⟩from rfl);have HQF:=za (fun(h:r.v.guards[i]≠x_ r.u r.t r.v.code.length r.u.guards[i])=>Id hiv hig h);obtain⟨be,oe,hea,_,e0,e1,e2⟩:=(HM.out.mv.rg.below HIR.out.hb) i hiv;have HHE:=za hea
    have HQ2:Hid (r.v.guards[i]=x_ r.u r.t r.v.code.length r.u.guards[i]->∀k (hk:k<r.u.guards.length),k<i+1->r.v.guards[k]'(by omega)=x_ r.u r.t r.v.code.length r.u.guards[k]):=za (fun e k hk hki=>by
     by_cases h:k<i
     ·exact HQ.out k hk h
     ·obtain rfl:k=i:=by omega
      exact e)
    have HGC:=za (fun(w':World) (hb:Below w0.heap.size w0 w')=>(HM.out.mu.rg.below hb) i hig);have HVC:=za (fun(w':World) (hb:Below w0.heap.size w0 w')=>(HM.out.mv.rg.below hb) i hiv);rw[HHG.out]at HGC;rw[HHE.out]at HVC;generalize x_ r.u r.t r.v.code.length r.u.guards[i]=gt at *;generalize r.u.guards[i]=g at *;generalize r.v.guards[i]=y at *;clear g0 g1 g2 e0 e1 e2 hga hea;rw[HHG.out];obtain⟨bg2,og2,hq,_,g0,g1,g2⟩:=HGC.out wr HIR.out.hb;cases hq;go_upto_region 4 with fail;obtain⟨wx,hwx⟩:∃wx,wx=wr.alloc (.cells #[.int .i64 g.frm,.int .i64 g.til,.int .i64 g.at'] 90):=⟨_,rfl⟩
    obtain⟨bx,hbx⟩:∃b,b=wr.heap.size:=⟨_,rfl⟩
    have HXX:Hid (wx.heap[bx]?=some (.cells #[.int .i64 g.frm,.int .i64 g.til,.int .i64 g.at'] 90)):=za (by rw[hwx];exact zo _ _ _ hbx);have HBX:Hid (Below w1.heap.size w1 wx):=za (by rw[hwx];exact HB.out.step (zd _ _));rw[<-hbx,<-hwx];clear hwx hbx g0 g1 g2;have HIX:=za (HI1.out.below HBX.out);obtain⟨x0,x1,x2,_⟩:=KO HXX.out;have k5:wx.cell? ⟨w0.heap.size,5,none⟩=some (.slice r.ca r.u.code.length r.cc):=(zA _ _ 5 _ _ _ HIX.out.hr).trans rfl;have k13:wx.cell? ⟨w0.heap.size,13,none⟩=some (.slice r.da r.v.code.length r.dc):=(zA _ _ 13 _ _ _ HIX.out.hr).trans rfl;have k14:wx.cell? ⟨w0.heap.size,14,none⟩=some (.slice (some ⟨be,oe,none⟩) r.v.guards.length r.ec):=(zA _ _ 14 _ _ _ HIX.out.hr).trans (by rw[<-HHE.out];rfl);obtain⟨be2,oe2,hq,_,e0,e1,e2⟩:=HVC.out wx HIX.out.hb;cases hq;have ht0:0<r.t.length:=by rw[HT.out];exact hl0
    obtain⟨bt,ot,hta,_,_⟩:=(HM.out.mt.below HIX.out.hb) 0 ht0
    have HTC:=za (fun(w':World) (hb:Below w0.heap.size w0 w') (j:Int) (h0:0<=j) (h1:j<r.u.code.length)=>(show ∃k:Nat,j=(k:Int)/\w'.cell? ⟨bt,ot+k,none⟩=some (.int .i64 (r.t.getD j.toNat 0))from by
     refine⟨j.toNat,by omega,?_⟩;have hj:j.toNat<r.t.length:=by rw[HT.out];omega
     obtain⟨b2,o2,e2,_,h2⟩:=(HM.out.mt.below hb) j.toNat hj;rw[hta]at e2;cases e2;rw[zk hj]
     exact h2))
    have k16:wx.cell? ⟨w0.heap.size,16,none⟩=some (.slice (some ⟨bt,ot,none⟩) r.t.length r.tc):=(zA _ _ 16 _ _ _ HIX.out.hr).trans (by rw[<-hta];rfl);have htl:=HT.out;clear hta;obtain⟨kf,hkf,cf⟩:=HTC.out wx HIX.out.hb g.frm hf0 (by omega);obtain⟨ka,hka,cA⟩:=HTC.out wx HIX.out.hb g.at' hat0 hat1;rw[hkf]at x0;rw[hka]at x2;have nkf:(kf:Int)<(r.t.length:Int):=by rw[htl];omega
    have nka:(ka:Int)<(r.t.length:Int):=by rw[htl];omega
    have heg:prog.eqGuardType prog.depth 90=false:=by kernel_rfl
    have HEQ:∀(tz:Int) (w:World),(binOp .eql 90 (.agg #[.int .i64 y.frm,.int .i64 y.til,.int .i64 y.at']) (.agg #[.int .i64 (r.t.getD g.frm.toNat 0),.int .i64 tz,.int .i64 (r.t.getD g.at'.toNat 0)])).run prog w= .ok (.bool (Au y ⟨r.t.getD g.frm.toNat 0,tz,r.t.getD g.at'.toNat 0⟩)) w:=fun tz w=>Tc y ⟨_,tz,_⟩ w
    have HTIL:=za (fun(h:g.til<(r.u.code.length:Int))=>HTC.out wx HIX.out.hb g.til (by omega) h);generalize r.t.getD g.frm.toNat 0=tf at *;generalize r.t.getD g.at'.toNat 0=ta at *;clear hkf hka htl HTC;have HGW:=za ((yw HBB.out (some w0.heap.size)).andThen (yw HBX.out none) (fun _ e=>by cases e))
    have hend:∀(tz:Int),gt=⟨tf,tz,ta⟩->∀b,b=Au y ⟨tf,tz,ta⟩->(b=true->y=gt)/\(b=false->y≠gt):=fun tz h b hb=>by
     rw[hb,<-h];unfold Au;exact⟨fun h=>Qi h,fun h=>of_decide_eq_false h⟩
    have HEND:=za hend;clear hend;by_cases hti:g.til<(r.u.code.length:Int)
    ·obtain⟨kt,hkt,ct⟩:=HTIL.out hti
     have HG1:Hid (gt=⟨tf,r.t.getD g.til.toNat 0,ta⟩):=za (HGT.out.trans (by rw[zj hti]));have nkt:(kt:Int)<(r.t.length:Int):=by rw[HT.out];omega
     generalize r.t.getD g.til.toNat 0=tz at *;rw[hkt]at x1 hti;clear hkt;have HF:=za (fun(W:World) (hb:Below wx.heap.size wx W)=>And.intro (zK hb x0) (And.intro (zK hb x1) (And.intro (zK hb x2) (And.intro (zK hb k5) (And.intro (zK hb k14) (And.intro (zK hb k16) (And.intro (zK hb e0) (And.intro (zK hb e1) (And.intro (zK hb e2) (And.intro (zK hb cf) (And.intro (zK hb cA) (zK hb ct))))))))))));go_upto_region 5 with fail;go_quiet (fail);have HB1:=za (xR (zG wx.heap.size wx) nq);generalize wx.drewN nq=wy at *;clear x0 x1 x2 k5 k13 k14 k16 e0 e1 e2 cf cA ct;obtain⟨x0,x1,x2,k5,k14,k16,e0,e1,e2,cf,cA,ct⟩:=HF.out wy HB1.out;go_upto_region 6 with fail;go_quiet (fail);have HB2:=za (xR HB1.out nq);generalize wy.drewN nq=wz at *;clear x0 x1 x2 k5 k14 k16 e0 e1 e2 cf cA ct;obtain⟨x0,x1,x2,k5,k14,k16,e0,e1,e2,cf,cA,ct⟩:=HF.out wz HB2.out;go_upto_region 7 with fail;have HEN:=za (HEND.out tz HG1.out);have HEQ2:=HEQ tz;obtain⟨bq,hbq⟩:∃bq,bq=Au y ⟨tf,tz,ta⟩:=⟨_,rfl⟩
     rw[<-hbq]at HEQ2;replace HEN:=za (HEN.out bq hbq);clear hbq HEQ;go_still_tail 29,(by kernel_rfl);change wpList _ _ _ _ _ wz.drew;have HGZ:=za (HGW.out.andThen (yw (HB2.out.drew) none) (fun _ e=>by cases e));rw[<-HHG.out]
     cases hb:bq with
     |false=>
      rw[hb]at HEQ2
      go_wp2_with (first
       |(go_at_call 185;(with_reducible refine(yM _).mono ?_);rintro e w8 ⟨rfl,rfl⟩))
      exact⟨rfl,HGZ.out,by rw[HOO.out,zi (by rw[HQF.out (HEN.out.2 hb)];exact Y7)]⟩
     |true=>
      go_wp2_with (first
       |(go_at_call 185;(with_reducible refine(yE _).mono ?_);rintro e w8 ⟨rfl,rfl⟩))
      go_roundg (r.u.guards.length-(i+1));case measure=>omega
      case rel=>exact⟨i+1,by omega,rfl,by go_num,za (HBX.out.step HB2.out.drew),za (HQ2.out (HEN.out.1 hb))⟩
    ·have HG1:Hid (gt=⟨tf,r.v.code.length,ta⟩):=za (HGT.out.trans (by rw[zi hti]))
     have HF:=za (fun(W:World) (hb:Below wx.heap.size wx W)=>And.intro (zK hb x0) (And.intro (zK hb x1) (And.intro (zK hb x2) (And.intro (zK hb k5) (And.intro (zK hb k14) (And.intro (zK hb k16) (And.intro (zK hb e0) (And.intro (zK hb e1) (And.intro (zK hb e2) (And.intro (zK hb cf) (zK hb cA)))))))))));go_upto_region 5 with fail;go_quiet (fail);have HB1:=za (xR (zG wx.heap.size wx) nq);generalize wx.drewN nq=wy at *;clear x0 x1 x2 k5 k13 k14 k16 e0 e1 e2 cf cA;obtain⟨x0,x1,x2,k5,k14,k16,e0,e1,e2,cf,cA⟩:=HF.out wy HB1.out;go_upto_region 7 with fail;have HEN:=za (HEND.out r.v.code.length HG1.out);have HEQ2:=HEQ r.v.code.length;obtain⟨bq,hbq⟩:∃bq,bq=Au y ⟨tf,r.v.code.length,ta⟩:=⟨_,rfl⟩
     rw[<-hbq]at HEQ2;replace HEN:=za (HEN.out bq hbq);clear hbq HEQ;go_still_tail 29,(by kernel_rfl);change wpList _ _ _ _ _ wy.drew;have HGZ:=za (HGW.out.andThen (yw (HB1.out.drew) none) (fun _ e=>by cases e));rw[<-HHG.out]
     cases hb:bq with
     |false=>
      rw[hb]at HEQ2
      go_wp2_with (first
       |(go_at_call 185;(with_reducible refine(yM _).mono ?_);rintro e w8 ⟨rfl,rfl⟩))
      exact⟨rfl,HGZ.out,by rw[HOO.out,zi (by rw[HQF.out (HEN.out.2 hb)];exact Y7)]⟩
     |true=>
      go_wp2_with (first
       |(go_at_call 185;(with_reducible refine(yE _).mono ?_);rintro e w8 ⟨rfl,rfl⟩))
      go_roundg (r.u.guards.length-(i+1));case measure=>omega
      case rel=>exact⟨i+1,by omega,rfl,by go_num,za (HBX.out.step HB1.out.drew),za (HQ2.out (HEN.out.1 hb))⟩
   ·obtain rfl:i=r.u.guards.length:=by omega
    have ni:¬(r.u.guards.length:Int)<(r.u.guards.length:Int):=by omega
    have HE:=za (Ic (t:=r.t) HLEN.out (fun k hk=>HQ.out k hk hk));go_wp2
    go_end0
    exact⟨(yw HBB.out _).andThen (yw HB.out none) (fun _ e=>by cases e),by rw[HOO.out,zj HE.out];exact⟨rfl,HI1.out.below HB.out⟩⟩
def X5(u v:zg)(h t:List Int):Bool:=decide ((h.length:Int)=u.slots)&&t.length==u.code.length&&u.cls==v.cls&&u.name==v.name&&u.args==v.args
def Va(u v:zg):Bool:=yr v.slots 1 u.slots&&yr v.frame 0 200&&decide (v.code.length<=600)
theorem Y2(u v:zg)(h t:List Int):qk u v h t=(X5 u v h t&&Va u v&&(List.range h.length).all (vr v h (zZ u) (yx u))&&(List.range u.args.toNat).all (jX v h ((zf u).getD 0 []))):=by
 unfold qk X5 Va;simp only[Bool.and_assoc]
structure P8(w0:World)(r:qF)(a bu bv:Nat)(w:World):Prop where
 hi:RI w0 r a w
 hu:w.heap[bu]?=some (oU r.u r.ca r.cc r.ga r.gc)
 hv:w.heap[bv]?=some (oU r.v r.da r.dc r.ea r.ec)
theorem P8.below{w0:World}{r:qF}{a bu bv:Nat}{w w':World}(h:P8 w0 r a bu bv w)(hb:Below w.heap.size w w'):P8 w0 r a bu bv w':=⟨h.hi.below hb,zb hb h.hu,zb hb h.hv⟩
end Go.Proofs.YtgalekifgnecjaaGreat
