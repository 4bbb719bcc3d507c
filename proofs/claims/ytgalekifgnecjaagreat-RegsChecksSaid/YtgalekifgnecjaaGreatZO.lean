/- The reference of layer 16: Right -/
import Derived.Test.YtgalekifgnecjaaGreatZK
import Derived.Test.YtgalekifgnecjaaGreatZB
import Derived.Test.YtgalekifgnecjaaGreatX1
import Derived.BigQuiet
namespace Go.Proofs.YtgalekifgnecjaaGreat
open Tryz Go.RowKit
open Go.RowKit Go.Shelf
set_option maxHeartbeats 20000000
set_option maxRecDepth 100000
attribute [local go_sem] Oper.semAt_some
attribute [local irreducible] wpStill
theorem F6{u:zg}(h:zJ u=true):0<=u.slots/\u.slots<=200:=by
 unfold zJ yr at h;simp at h;omega
theorem NM{a b:Int}(h:(a !=b)=false):(a==b)=true:=by unfold bne at h;simpa using h
theorem NL{a b:Int}(h:(a !=b)=true):(a==b)=false:=by unfold bne at h;simpa using h
theorem Km{B:Nat}{a w:World}(h:Below B a w)(n:Nat):Below B a (w.drewN n):=xR h n
theorem UJ(u:zg)(ca cc ga gc)(w:World)(hm:jo w u ca cc ga gc)(hlc:u.code.length<=1000000)(hlg:u.guards.length<=1000000)(hab:∀x∈u.code,-9223372036854775808<=x.a/\x.a<=9223372036854775807):
  Calls prog 53 #[vU u ca cc ga gc] w (zV (.int .i64 (if zC u=true then 0 else 1)) w):=by
 rw[<-IX u];have HR:Hid (Gu u=(zJ u&&u.frame==0&&decide (1<=u.slots)&&yr u.args 0 u.slots&&(List.range u.code.length).all (qT u (zl u.code))&&qq (u.code.getD (u.code.length-1) zw))):=za rfl
 have HRI:Hid (∀t,(qT u (zl u.code) t=(!((u.code.getD t zw).op==33)&& !((u.code.getD t zw).op==34)&& !decide ((zl u.code).getD t 0<0)&&(zp (u.code.getD t zw)).all (fun s=>yr s 0 (u.slots-1)) &&
  (zc (u.code.getD t zw)== -1||yr (zc (u.code.getD t zw)) 0 (u.slots-1))&& !(decide ((zl u.code).getD t 0<(t:Int))&&VR u t)))):=za (fun _=>rfl)
 have HM:=za hm;have HAB:=za hab;have HPL:=za (fun w' (hb:Below w.heap.size w w')=>V5 u ca cc ga gc w' (hm.below hb) hlc hlg);have HGS:=za (fun w' (hb:Below w.heap.size w w')=>G6 u ca cc ga gc w' (hm.below hb) hlc hab);have HLP:=za (fun(hp:zJ u=true)=>z8 hp);have HSP:=za (fun(hp:zJ u=true)=>F6 hp);have HFL:Hid ((zl u.code).length=u.code.length):=za (z_ _ _);clear hm hab;have HLE:=za (fun(hp:zJ u=true) (t:Nat) (hn:u.code.length<=600) (hg:u.guards.length<=40) (w':World) (hb:Below w.heap.size w w')=>PH u (t:Int) hp ca cc ga gc w' (HM.out.below hb) hn hg);obtain⟨res,hres⟩:∃r:Int,r=if Gu u=true then 0 else 1:=⟨_,rfl⟩
 rw[<-hres];generalize Gu u=rb at *;have HR0:Hid (rb=false->res=1):=za (fun h=>by rw[hres,h];rfl);have HR1:Hid (rb=true->res=0):=za (fun h=>by rw[hres,h];rfl);clear hres;have HX1:=za (zo w (oU u ca cc ga gc) _ rfl);have HB:=za (zd w (oU u ca cc ga gc));go_enter func53,ntmps53;go_upto_region 1 with fail;obtain⟨w1,hw1⟩:∃w1,w1=w.alloc (oU u ca cc ga gc):=⟨_,rfl⟩
 rw[<-hw1]at HX1 HB;rw[<-hw1];clear hw1;obtain⟨k0,k1,k2,k3,k4,k5,k6⟩:=zr HX1.out
 cases hp:zJ u with
 |false=>
  rw[hp]at HPL HR;have HV:Hid (rb=false):=za HR.out;clear hp
  go_wp2_with (first
   |(go_at_call 61;(with_reducible refine(HPL.out _ HB.out).mono ?_);rintro e w2 ⟨rfl,hb⟩;have HX2:=za (zb hb HX1.out);obtain⟨j0,j1,j2,j3,j4,j5,j6⟩:=zr HX2.out;have HB2:=za (HB.out.step hb);clear hb))
  go_ret
  exact⟨by rw[HR0.out HV.out];rfl,HB2.out⟩
 |true=>
 rw[hp,xk]at HR;obtain⟨hn0,hn6,hg4,-⟩:=HLP.out hp;obtain⟨hs0,hs2⟩:=HSP.out hp;replace HLE:=za (HLE.out hp);rw[hp]at HPL;clear hp HLP HSP
 cases hf:(u.frame !=0)with
 |true=>
  have HV:Hid (rb=false):=za (by rw[HR.out,show(u.frame==0)=false from NL hf];rfl)
  go_wp2_with (first
   |(go_at_call 61;(with_reducible refine(HPL.out _ HB.out).mono ?_);rintro e w2 ⟨rfl,hb⟩;have HX2:=za (zb hb HX1.out);obtain⟨j0,j1,j2,j3,j4,j5,j6⟩:=zr HX2.out;have HB2:=za (HB.out.step hb);clear hb))
  go_ret
  exact⟨by rw[HR0.out HV.out];rfl,HB2.out⟩
 |false=>
 rw[show(u.frame==0)=true from NM hf,xk]at HR;by_cases hs1:u.slots<1
 ·have HV:Hid (rb=false):=za (by rw[HR.out,show decide (1<=u.slots)=false by simp;omega];rfl)
  go_wp2_with (first
   |(go_at_call 61;(with_reducible refine(HPL.out _ HB.out).mono ?_);rintro e w2 ⟨rfl,hb⟩;have HX2:=za (zb hb HX1.out);obtain⟨j0,j1,j2,j3,j4,j5,j6⟩:=zr HX2.out;have HB2:=za (HB.out.step hb);clear hb))
  go_ret;exact⟨by rw[HR0.out HV.out];rfl,HB2.out⟩
 rw[show decide (1<=u.slots)=true by simp;omega,xk]at HR
 cases ha:yr u.args 0 u.slots with
 |false=>
  rw[ha]at HR;have HV:Hid (rb=false):=za (by rw[HR.out];rfl);have HIA:=za (fun w=>UT u.args 0 u.slots w);rw[ha]at HIA
  go_wp2_with (first
   |(go_at_call 61;(with_reducible refine(HPL.out _ HB.out).mono ?_);rintro e w2 ⟨rfl,hb⟩;have HX2:=za (zb hb HX1.out);obtain⟨j0,j1,j2,j3,j4,j5,j6⟩:=zr HX2.out;have HB2:=za (HB.out.step hb);clear hb)
   |(go_at_call 56;(with_reducible refine(HIA.out _).mono ?_);rintro e w8 ⟨rfl,rfl⟩))
  go_ret
  exact⟨by rw[HR0.out HV.out];rfl,HB2.out⟩
 |true=>
 rw[ha,xk]at HR;have HIA:=za (fun w=>UT u.args 0 u.slots w);rw[ha]at HIA;clear ha
 go_upto_region 5 with (first
  |(go_at_call 61;(with_reducible refine(HPL.out _ HB.out).mono ?_);rintro e w2 ⟨rfl,hb⟩;have HX2:=za (zb hb HX1.out);obtain⟨j0,j1,j2,j3,j4,j5,j6⟩:=zr HX2.out;have HB2:=za (HB.out.step hb);clear hb)
  |(go_at_call 56;(with_reducible refine(HIA.out _).mono ?_);rintro e w8 ⟨rfl,rfl⟩)
  |(go_at_call 54;(with_reducible refine(HGS.out _ HB2.out).mono ?_);rintro e w4 ⟨hb4,g,rfl,hbi,hge⟩;have HB4:=za (HB2.out.step hb4);have HBI:=za hbi;have HUX:=za (fun wx (hb:Below w4.heap.size w4 wx)=>zb (hb4.step hb) HX2.out);clear hb4 hbi hge))
 clear k0 k1 k2 k3 k4 k5 k6 j0 j1 j2 j3 j4 j5 j6 HPL HGS HIA hf HX1 HX2 HB HB2;have HFR:=za (fun wx (hb:Below w4.heap.size w4 wx)=>(HBI.out.below hb).rd);rw[HFL.out];have HU0:=za (fun wx (hb:Below w4.heap.size w4 wx)=>HB4.out.step hb);have hsl1:IntKind.i64.wrap (u.slots-1)=u.slots-1:=ju (by omega);go_wp2;go_loopg [5] u.code.length (fun gh s5 wr=>∃t:Nat,t<=u.code.length/\gh=u.code.length-t/\s5= .int .i64 t/\Hid ((∀k,k<t->qT u (zl u.code) k=true)/\Below w4.heap.size w4 wr));case atStart=>exact⟨0,zE _,rfl,rfl,za ⟨fun k h=>absurd h (y_ k),zG _ _⟩⟩
 case round=>
  obtain⟨t,ht,rfl,rfl,HK⟩:=hrel;obtain⟨k0,k1,k2,k3,k4,k5,k6⟩:=zr (HUX.out _ HK.out.2);by_cases hlt:t<u.code.length
  ·have nt:(t:Int)<(u.code.length:Int):=by omega
   have HI:=za (HRI.out t);rw[zk hlt,zk (show t<(zl u.code).length by rw[HFL.out];exact hlt)]at HI
   have HNO:Hid (qT u (zl u.code) t=false->rb=false):=za (fun h=>by
    rw[HR.out,show(List.range u.code.length).all (qT u (zl u.code))=false from by
     rw[List.all_eq_false]
     exact⟨t,yR.2 hlt,by rw[h];simp⟩]
    rfl)
   have HYES:Hid (qT u (zl u.code) t=true->∀k,k<t+1->qT u (zl u.code) k=true):=za (fun h k hk=>by
    by_cases e:k=t
    ·subst e;exact h
    ·exact HK.out.1 k (by omega))
   have HFC:Hid (∀wx,Below w4.heap.size w4 wx->wx.cell? ⟨g,t,none⟩=some (.int .i64 ((zl u.code)[t]'(by rw[HFL.out];exact hlt)))):=za (fun wx hb=>by
    obtain⟨b9,o9,e9,_,h9⟩:=HFR.out wx hb t (by rw[HFL.out];exact hlt);cases e9;rw[jU]at h9
    exact h9)
   have HLD:=za (HLE.out t hn6 hg4);obtain⟨b2,off,hca,hlt2,c0,c1,c2,c3⟩:=(HM.out.rc.below (HU0.out _ HK.out.2)) t hlt;subst hca;go_upto_region 9 with fail;obtain⟨w5,hw5⟩:∃W,W=wr.alloc (.cells #[.int .i64 u.code[t].op,.int .i64 u.code[t].a,.int .i64 u.code[t].b,.int .i64 u.code[t].c] 85):=⟨_,rfl⟩
   obtain⟨b6,hb6⟩:∃b,b=wr.heap.size:=⟨_,rfl⟩
   have HX6:Hid (w5.heap[b6]?=some (.cells #[.int .i64 u.code[t].op,.int .i64 u.code[t].a,.int .i64 u.code[t].b,.int .i64 u.code[t].c] 85)):=za (by rw[hw5];exact zo _ _ _ hb6);have HB5:Hid (Below w4.heap.size w4 w5):=za (by rw[hw5];exact HK.out.2.step (zd _ _));rw[<-hw5,<-hb6];clear hw5 hb6 c0 c1 c2 c3 hlt2 k0 k1 k2 k3 k4 k5 k6;obtain⟨q0,q1,q2,q3⟩:=zX HX6.out;have z7:=HFC.out _ HB5.out;have HRD:=za (XS u.code[t]);have HWR:=za (ZY u.code[t]);have HR2:=za (xD u.code[t]);clear HK;generalize qT u (zl u.code) t=RI at *;generalize (zl u.code)[t]'(by rw[HFL.out];exact hlt)=fv at *;generalize u.code[t]=x at *
   cases e33:(x.op==33)with
   |true=>
    rw[e33]at HI;replace HNO:=za (HNO.out (HI.out.trans (by simp)));go_wp2;go_ret
    exact⟨by rw[HR0.out HNO.out];rfl,HB4.out.step HB5.out⟩
   |false=>
   rw[e33,Bool.not_false,xk]at HI
   cases e34:(x.op==34)with
   |true=>
    rw[e34]at HI;replace HNO:=za (HNO.out (HI.out.trans (by simp)));go_wp2;go_ret
    exact⟨by rw[HR0.out HNO.out];rfl,HB4.out.step HB5.out⟩
   |false=>
   rw[e34,Bool.not_false,xk]at HI;by_cases hfv:fv<0
   ·rw[zP hfv]at HI
    replace HNO:=za (HNO.out (HI.out.trans (by simp)));go_wp2;go_ret;exact⟨by rw[HR0.out HNO.out];rfl,HB4.out.step HB5.out⟩
   rw[yn hfv,Bool.not_false,xk]at HI
   go_upto_region 12 with (first
    |(go_at_call 115;(with_reducible refine(HRD.out _).mono ?_);rintro e w6 ⟨hb6,v6,rfl,ho6⟩;have HB6:=za (HB5.out.step hb6);have HO6:=za ho6;have HX7:=za (fun wx (hb:Below w6.heap.size w6 wx)=>zb (hb6.step hb) HX6.out);clear hb6 ho6))
   clear q0 q1 q2 q3 z7 HX6 HB5 HRD e33 e34;obtain⟨ra,rc,rfl,hrr⟩:=HO6.out.rd;have HRR:=za hrr;clear hrr HO6;generalize zp x=R at *;have hr2:=HR2.out;go_wp2;go_loopg [8] R.length (fun gh s8 wr=>∃j:Nat,j<=R.length/\gh=R.length-j/\s8= .int .i64 j/\Hid ((∀s∈R.take j,yr s 0 (u.slots-1)=true)/\Below w6.heap.size w6 wr));case atStart=>exact⟨0,zE _,rfl,rfl,za ⟨by simp,zG _ _⟩⟩
   case round=>
    obtain⟨j,hj,rfl,rfl,HK⟩:=hrel;have HBW:=za (HB6.out.step HK.out.2);by_cases hlj:j<R.length
    ·obtain⟨rb1,ro,hra,hltr,h0⟩:=(HRR.out.below HK.out.2) j hlj
     subst hra;have nj:(j:Int)<(R.length:Int):=by omega
     have HT:Hid (R.take (j+1)=R.take j++ [R[j]]):=za (zO hlj);have HMM:Hid (R[j]∈R):=za (yy hlj);obtain⟨k0,k1,k2,k3,k4,k5,k6⟩:=zr (HUX.out _ HBW.out);generalize R[j]=y at *;have HIY:=za (fun w=>UT y 0 (u.slots-1) w)
     cases hy:yr y 0 (u.slots-1)with
     |false=>
      rw[hy]at HIY;have HA:Hid (R.all (fun s=>yr s 0 (u.slots-1))=false):=za (by rw[List.all_eq_false];exact⟨y,HMM.out,by rw[hy];simp⟩);rw[HA.out]at HI;replace HNO:=za (HNO.out (HI.out.trans (by simp)));clear hy;go_upto_region 15 with fail;go_quiet ((go_at_call 56;exact Calls.quiet_of_same (KB (HIY.out _))));go_wp2;go_ret
      exact⟨by rw[HR0.out HNO.out];rfl,Km (HB4.out.step HBW.out) _⟩
     |true=>
      rw[hy]at HIY
      have HN2:Hid (∀s∈R.take (j+1),yr s 0 (u.slots-1)=true):=za (fun s hs=>by
       rw[HT.out,qr,qf]at hs;rcases hs with hs|rfl
       ·exact HK.out.1 s hs
       ·exact hy)
      clear hy;go_upto_region 15 with fail;go_quiet ((go_at_call 56;exact Calls.quiet_of_same (KB (HIY.out _))));go_wp2;go_roundg (R.length-(j+1));case measure=>omega
      case rel=>exact⟨j+1,by omega,rfl,by go_num,za ⟨HN2.out,Km HK.out.2 _⟩⟩
    ·obtain rfl:j=R.length:=by omega
     have nj:¬(R.length:Int)<(R.length:Int):=by omega
     have HA:Hid (R.all (fun s=>yr s 0 (u.slots-1))=true):=za (by rw[yL];have h:=HK.out.1;rw[xL]at h;exact h);rw[HA.out,xk]at HI;obtain⟨q0,q1,q2,q3⟩:=zX (HX7.out _ HK.out.2);clear HA HRR;generalize zc x=wv at *;have HIN:=za (fun w=>UT wv 0 (u.slots-1) w)
     cases hwv:(wv != -1)with
     |false=>
      rw[show(wv== -1)=true from NM hwv,Bool.true_or,xk]at HI;by_cases hft:fv<(t:Int)
      ·rw[zP hft,xk]at HI
       cases hld:VR u (t:Int)with
       |true=>
        rw[hld]at HI HLD;replace HNO:=za (HNO.out (HI.out.trans (by simp)));clear hld
        go_wp2_with (first
         |(go_at_call 82;(with_reducible refine(HWR.out _).mono ?_);rintro e w7 ⟨rfl,hb7⟩;have HB7:=za (HBW.out.step hb7);obtain⟨z0,z1,z2,z3,z4,z5,z6⟩:=zr (HUX.out _ HB7.out);have z7:=HFC.out _ HB7.out;clear hb7)
         |(go_at_call 116;(with_reducible refine(HLD.out _ (HU0.out _ HB7.out)).mono ?_);rintro e w9 ⟨rfl,hb9⟩;have HB9:=za (HB7.out.step hb9);clear hb9))
        go_ret
        exact⟨by rw[HR0.out HNO.out];rfl,HB4.out.step HB9.out⟩
       |false=>
        rw[hld]at HI HLD;replace HYES:=za (HYES.out (HI.out.trans (by simp)));clear hld
        go_wp2_with (first
         |(go_at_call 82;(with_reducible refine(HWR.out _).mono ?_);rintro e w7 ⟨rfl,hb7⟩;have HB7:=za (HBW.out.step hb7);obtain⟨z0,z1,z2,z3,z4,z5,z6⟩:=zr (HUX.out _ HB7.out);have z7:=HFC.out _ HB7.out;clear hb7)
         |(go_at_call 116;(with_reducible refine(HLD.out _ (HU0.out _ HB7.out)).mono ?_);rintro e w9 ⟨rfl,hb9⟩;have HB9:=za (HB7.out.step hb9);clear hb9))
        go_roundg (u.code.length-(t+1));case measure=>omega
        case rel=>exact⟨t+1,by omega,rfl,by go_num,za ⟨HYES.out,HB9.out⟩⟩
      ·rw[yn hft,Bool.false_and]at HI
       replace HYES:=za (HYES.out (HI.out.trans (by simp)))
       go_wp2_with (first
        |(go_at_call 82;(with_reducible refine(HWR.out _).mono ?_);rintro e w7 ⟨rfl,hb7⟩;have HB7:=za (HBW.out.step hb7);obtain⟨z0,z1,z2,z3,z4,z5,z6⟩:=zr (HUX.out _ HB7.out);have z7:=HFC.out _ HB7.out;clear hb7))
       go_roundg (u.code.length-(t+1));case measure=>omega
       case rel=>exact⟨t+1,by omega,rfl,by go_num,za ⟨HYES.out,HB7.out⟩⟩
     |true=>
      rw[show(wv== -1)=false from NL hwv,Bool.false_or]at HI
      cases hwi:yr wv 0 (u.slots-1)with
      |false=>
       rw[hwi]at HI HIN;replace HNO:=za (HNO.out (HI.out.trans (by simp)));clear hwi
       go_wp2_with (first
        |(go_at_call 82;(with_reducible refine(HWR.out _).mono ?_);rintro e w7 ⟨rfl,hb7⟩;have HB7:=za (HBW.out.step hb7);obtain⟨z0,z1,z2,z3,z4,z5,z6⟩:=zr (HUX.out _ HB7.out);have z7:=HFC.out _ HB7.out;clear hb7)
        |(go_at_call 56;(with_reducible refine(HIN.out _).mono ?_);rintro e w8 ⟨rfl,rfl⟩))
       go_ret
       exact⟨by rw[HR0.out HNO.out];rfl,HB4.out.step HB7.out⟩
      |true=>
       rw[hwi,xk]at HI;rw[hwi]at HIN;clear hwi;by_cases hft:fv<(t:Int)
       ·rw[zP hft,xk]at HI
        cases hld:VR u (t:Int)with
        |true=>
         rw[hld]at HI HLD;replace HNO:=za (HNO.out (HI.out.trans (by simp)));clear hld
         go_wp2_with (first
          |(go_at_call 82;(with_reducible refine(HWR.out _).mono ?_);rintro e w7 ⟨rfl,hb7⟩;have HB7:=za (HBW.out.step hb7);obtain⟨z0,z1,z2,z3,z4,z5,z6⟩:=zr (HUX.out _ HB7.out);have z7:=HFC.out _ HB7.out;clear hb7)
          |(go_at_call 56;(with_reducible refine(HIN.out _).mono ?_);rintro e w8 ⟨rfl,rfl⟩)
          |(go_at_call 116;(with_reducible refine(HLD.out _ (HU0.out _ HB7.out)).mono ?_);rintro e w9 ⟨rfl,hb9⟩;have HB9:=za (HB7.out.step hb9);clear hb9))
         go_ret
         exact⟨by rw[HR0.out HNO.out];rfl,HB4.out.step HB9.out⟩
        |false=>
         rw[hld]at HI HLD;replace HYES:=za (HYES.out (HI.out.trans (by simp)));clear hld
         go_wp2_with (first
          |(go_at_call 82;(with_reducible refine(HWR.out _).mono ?_);rintro e w7 ⟨rfl,hb7⟩;have HB7:=za (HBW.out.step hb7);obtain⟨z0,z1,z2,z3,z4,z5,z6⟩:=zr (HUX.out _ HB7.out);have z7:=HFC.out _ HB7.out;clear hb7)
          |(go_at_call 56;(with_reducible refine(HIN.out _).mono ?_);rintro e w8 ⟨rfl,rfl⟩)
          |(go_at_call 116;(with_reducible refine(HLD.out _ (HU0.out _ HB7.out)).mono ?_);rintro e w9 ⟨rfl,hb9⟩;have HB9:=za (HB7.out.step hb9);clear hb9))
         go_roundg (u.code.length-(t+1));case measure=>omega
         case rel=>exact⟨t+1,by omega,rfl,by go_num,za ⟨HYES.out,HB9.out⟩⟩
       ·rw[yn hft,Bool.false_and]at HI
        replace HYES:=za (HYES.out (HI.out.trans (by simp)))
        go_wp2_with (first
         |(go_at_call 82;(with_reducible refine(HWR.out _).mono ?_);rintro e w7 ⟨rfl,hb7⟩;have HB7:=za (HBW.out.step hb7);obtain⟨z0,z1,z2,z3,z4,z5,z6⟩:=zr (HUX.out _ HB7.out);have z7:=HFC.out _ HB7.out;clear hb7)
         |(go_at_call 56;(with_reducible refine(HIN.out _).mono ?_);rintro e w8 ⟨rfl,rfl⟩))
        go_roundg (u.code.length-(t+1));case measure=>omega
        case rel=>exact⟨t+1,by omega,rfl,by go_num,za ⟨HYES.out,HB7.out⟩⟩
  ·obtain rfl:t=u.code.length:=by omega
   have nt:¬(u.code.length:Int)<(u.code.length:Int):=by omega
   obtain⟨m,hm⟩:∃m,u.code.length=m+1:=⟨u.code.length-1,by omega⟩
   have hml:m<u.code.length:=by omega
   have nm:(u.code.length:Int)-1=(m:Int):=by omega
   have nml:(m:Int)<(u.code.length:Int):=by omega
   obtain⟨b2,off,hca,hlt2,c0,c1,c2,c3⟩:=(HM.out.rc.below (HU0.out _ HK.out.2)) m hml;subst hca
   have HRR:Hid (rb=qq u.code[m]):=za (by
    rw[HR.out,show(List.range u.code.length).all (qT u (zl u.code))=true from by
     rw[yL]
     exact fun k hk=>HK.out.1 k (yR.1 hk),xk,show u.code.length-1=m by omega,zk hml])
   have HEN:=za (fun w=>Av u.code[m] w);clear hm;generalize u.code[m]=x at *
   cases hen:qq x with
   |true=>
    rw[hen]at HEN HRR;clear hen
    go_wp2_with (first
     |(go_at_call 117;(with_reducible refine(HEN.out _).mono ?_);rintro e w5 ⟨rfl,hb5⟩;have HB5:=za (HK.out.2.step hb5);clear hb5))
    go_ret
    exact⟨by rw[HR1.out HRR.out];rfl,HB4.out.step HB5.out⟩
   |false=>
    rw[hen]at HEN HRR;clear hen
    go_wp2_with (first
     |(go_at_call 117;(with_reducible refine(HEN.out _).mono ?_);rintro e w5 ⟨rfl,hb5⟩;have HB5:=za (HK.out.2.step hb5);clear hb5))
    go_ret;exact⟨by rw[HR0.out HRR.out];rfl,HB4.out.step HB5.out⟩
abbrev Fw(v:Value)(n e:Int):Value:=.agg #[v,.int .i64 n,.int .i64 e]
abbrev Df(v:Value)(n e:Int):Obj:=.cells #[v,.int .i64 n,.int .i64 e] 35
theorem FE:(prog.info? 35).map (·.size)=some 3:=by kernel_rfl
theorem Rq{w:World}{g:Nat}{x0 x1 x2:Value}{T:TypeId}(h:w.heap[g]?=some (.cells #[x0,x1,x2] T (0,0)))(y0 y1 y2:Value):
  (((w.setCell ⟨g,0,none⟩ y0).setCell ⟨g,1,none⟩ y1).setCell ⟨g,2,none⟩ y2).heap[g]?=some (.cells #[y0,y1,y2] T (0,0)):=by
 have h0:(w.setCell ⟨g,0,none⟩ y0).heap[g]?=some (.cells #[y0,x1,x2] T (0,0)):=yk _ _ 0 _ _ _ h;clear h;generalize w.setCell ⟨g,0,none⟩ y0=w at h0 ⊢;have h1:(w.setCell ⟨g,1,none⟩ y1).heap[g]?=some (.cells #[y0,y1,x2] T (0,0)):=yk _ _ 1 _ _ _ h0;clear h0;generalize w.setCell ⟨g,1,none⟩ y1=w at h1 ⊢;exact yk _ _ 2 _ _ _ h1
theorem Gp{B:Nat}{w0 w:World}{g:Nat}(h:Below B w0 w)(hg:B<=g)(y0 y1 y2:Value):Below B w0 (((w.setCell ⟨g,0,none⟩ y0).setCell ⟨g,1,none⟩ y1).setCell ⟨g,2,none⟩ y2):=
 ((h.setCell (p:=⟨g,0,none⟩) hg _).setCell (p:=⟨g,1,none⟩) hg _).setCell (p:=⟨g,2,none⟩) hg _
theorem Ek(u:zg)(ca cc ga gc)(w:World)(hm:jo w u ca cc ga gc)(hlc:u.code.length<=1000000)(hlg:u.guards.length<=1000000)(hab:∀x∈u.code,-9223372036854775808<=x.a/\x.a<=9223372036854775807)(hw:zC u=false):
  Calls prog 14 #[vU u ca cc ga gc] w (zV (Fw (.slice none 0 0) 0 1) w):=by
 have HRT:=za (fun w' (hb:Below w.heap.size w w')=>UJ u ca cc ga gc w' (hm.below hb) hlc hlg hab);rw[hw]at HRT;have HM:=za hm;have HX1:=za (zo w (oU u ca cc ga gc) _ rfl);have HB1:=za (zd w (oU u ca cc ga gc));clear hm hab hw;go_enter func14,ntmps14;go_upto_region 1 with fail;obtain⟨w2,hw2⟩:∃w2,w2=(w.alloc (oU u ca cc ga gc)).alloc (Df (.slice none 0 0) 0 0):=⟨_,rfl⟩
 have HX2:Hid (w2.heap[w.heap.size]?=some (oU u ca cc ga gc)):=za (by rw[hw2];exact zb (zd _ _) HX1.out);have HN2:Hid (w2.heap[w.heap.size+1]?=some (Df (.slice none 0 0) 0 0)):=za (by rw[hw2];exact zo _ _ _ (by simp));have HB2:Hid (Below w.heap.size w w2):=za (by rw[hw2];exact HB1.out.step (zd _ _));rw[<-hw2];clear hw2 HX1 HB1;have HUX:=za (fun wx (hb:Below w2.heap.size w2 wx)=>zb hb HX2.out);have HUN:=za (fun wx (hb:Below w2.heap.size w2 wx)=>zb hb HN2.out);obtain⟨k0,k1,k2,k3,k4,k5,k6⟩:=zr HX2.out
 go_wp2_with (first
  |(go_at_call 53;(with_reducible refine(HRT.out _ HB2.out).mono ?_);rintro e w3 ⟨rfl,hb3⟩;have HB3:=za hb3;obtain⟨j0,j1,j2,j3,j4,j5,j6⟩:=zr (HUX.out _ hb3);obtain⟨n0,n1,n2⟩:=KO (HUN.out _ hb3);have f0:=zF 0 (HUN.out _ hb3);have f1:=zF 1 (HUN.out _ hb3);have f2:=zF 2 (HUN.out _ hb3);clear hb3))
 exact xJ (v:=Fw (.slice none 0 0) 0 1) (results_cell_row rfl _ _ (w.heap.size+1) 35 _ (0,0) _ rfl (Rq (HUN.out _ HB3.out) _ _ _) Tryz.underlying35 rfl FE) rfl ⟨rfl,Gp (HB2.out.step HB3.out) (by omega) _ _ _⟩
theorem OU(u:zg)(ca cc ga gc)(w:World)(hm:jo w u ca cc ga gc)(hlc:u.code.length<=1000000)(hlg:u.guards.length<=1000000)(hab:∀x∈u.code,-9223372036854775808<=x.a/\x.a<=9223372036854775807)(hw:zC u=true):
  Calls prog 14 #[vU u ca cc ga gc] w (zV (Fw (.slice none 0 0) (yd u:Nat) 0) w):=by
 have HRT:=za (fun w' (hb:Below w.heap.size w w')=>UJ u ca cc ga gc w' (hm.below hb) hlc hlg hab);rw[hw]at HRT;have HM:=za hm;have HX1:=za (zo w (oU u ca cc ga gc) _ rfl);have HB1:=za (zd w (oU u ca cc ga gc));have HGS:=za (fun w' (hb:Below w.heap.size w w')=>G6 u ca cc ga gc w' (hm.below hb) hlc hab);have HFL:Hid ((zl u.code).length=u.code.length):=za (z_ _ _);have hn6:u.code.length<=600:=(z8 (zH hw)).2.1;have HFIN:=za (Lo hw);have HRS:=za (fun(t:Nat) (ht:t<u.code.length) (fa:Option Addr) (fc:Nat) w' (hb:Below w.heap.size w w') (hf:yC w' fa (zl u.code))=>E7 u (zl u.code) t fa fc ca cc ga gc w' (hm.rc.below hb) hf ht (z_ _ _) hn6);clear hm hab hw;go_enter func14,ntmps14;go_upto_region 1 with fail;obtain⟨w2,hw2⟩:∃w2,w2=(w.alloc (oU u ca cc ga gc)).alloc (Df (.slice none 0 0) 0 0):=⟨_,rfl⟩
 have HX2:Hid (w2.heap[w.heap.size]?=some (oU u ca cc ga gc)):=za (by rw[hw2];exact zb (zd _ _) HX1.out);have HN2:Hid (w2.heap[w.heap.size+1]?=some (Df (.slice none 0 0) 0 0)):=za (by rw[hw2];exact zo _ _ _ (by simp));have HB2:Hid (Below w.heap.size w w2):=za (by rw[hw2];exact HB1.out.step (zd _ _));rw[<-hw2];clear hw2 HX1 HB1;have HUX:=za (fun wx (hb:Below w2.heap.size w2 wx)=>zb hb HX2.out);have HUN:=za (fun wx (hb:Below w2.heap.size w2 wx)=>zb hb HN2.out);obtain⟨k0,k1,k2,k3,k4,k5,k6⟩:=zr HX2.out
 go_upto_region 6 with (first
  |(go_at_call 53;(with_reducible refine(HRT.out _ HB2.out).mono ?_);rintro e w3 ⟨rfl,hb3⟩;have HB3:=za hb3;obtain⟨j0,j1,j2,j3,j4,j5,j6⟩:=zr (HUX.out _ hb3);obtain⟨n0,n1,n2⟩:=KO (HUN.out _ hb3);have f0:=zF 0 (HUN.out _ hb3);have f1:=zF 1 (HUN.out _ hb3);have f2:=zF 2 (HUN.out _ hb3);clear hb3)
  |(go_at_call 54;(with_reducible refine(HGS.out _ (HB2.out.step HB3.out)).mono ?_);rintro e w4 ⟨hb4,g,rfl,hbi,hge⟩;have HB4:=za (HB3.out.step hb4);have HBI:=za hbi;have HGE:=za (yP (ze (HUN.out _ HB3.out)) hge);obtain⟨m0,m1,m2⟩:=KO (HUN.out _ (HB3.out.step hb4));have g0:=zF 0 (HUN.out _ (HB3.out.step hb4));have g1:=zF 1 (HUN.out _ (HB3.out.step hb4));have g2:=zF 2 (HUN.out _ (HB3.out.step hb4));obtain⟨l0,l1,l2,l3,l4,l5,l6⟩:=zr (HUX.out _ (HB3.out.step hb4));clear hb4 hbi hge))
 clear k0 k1 k2 k3 k4 k5 k6 j0 j1 j2 j3 j4 j5 j6 l0 l1 l2 l3 l4 l5 l6 n0 n1 n2 m0 m1 m2 f0 f1 f2 g0 g1 g2;rw[HFL.out];go_wp2;go_loopg [5,6] u.code.length (fun gh s5 s6 wr=>∃t:Nat,t<=u.code.length/\gh=u.code.length-t/\s6= .int .i64 t/\s5= .int .i64 (vj u t:Nat)/\Hid (Below w4.heap.size w4 wr));case atStart=>exact⟨0,zE _,rfl,rfl,rfl,za (zG _ _)⟩
 case round=>
  obtain⟨t,ht,rfl,rfl,rfl,HK⟩:=hrel;obtain⟨k0,k1,k2,k3,k4,k5,k6⟩:=zr (HUX.out _ (HB4.out.step HK.out));by_cases hlt:t<u.code.length
  ·have nt:(t:Int)<(u.code.length:Int):=by omega
   have hfc:=(HBI.out.below HK.out).at (i:=t) (by rw[HFL.out];exact hlt)
   have HST:Hid (vj u (t+1)=if (zl u.code)[t]'(by rw[HFL.out];exact hlt)=(t:Int)then max (vj u t) (yu u.code t (zS (zl u.code) t)).length else vj u t):=za (by
    show(if (zl u.code).getD t 0=(t:Int)then _ else _)=_
    rw[zk (by rw[HFL.out];exact hlt)])
   have HRD:=za (HRS.out t hlt (some ⟨g,0,none⟩) u.code.length wr (HB2.out.step (HB4.out.step HK.out)) (HBI.out.below HK.out).rd);rw[HFL.out]at HRD;generalize (zl u.code)[t]'(by rw[HFL.out];exact hlt)=fv at *;generalize yu u.code t (zS (zl u.code) t)=GR at *;generalize vj u t=L at *
   cases hft:(fv==(t:Int))with
   |true=>
    rw[zj (by simpa using hft)]at HST;have HST2:Hid (((vj u (t+1):Nat):Int)=max (L:Int) (GR.length:Int)):=za (by rw[HST.out];omega);clear HST
    go_wp2_with (first
     |(go_at_call 55;(with_reducible refine HRD.out.mono ?_);rintro e w5 ⟨hb5,v5,rfl,ho5⟩;obtain⟨ra,rc,rfl,-⟩:=ho5.rd;have HB5:=za (HK.out.step hb5);clear hb5 ho5))
    go_roundg (u.code.length-(t+1));case measure=>omega
    case rel=>exact⟨t+1,by omega,rfl,by go_num,by rw[HST2.out],za HB5.out⟩
   |false=>
    rw[zi (by simpa using hft)]at HST;have HST2:Hid (vj u (t+1)=L):=za HST.out;clear HST;go_wp2;go_roundg (u.code.length-(t+1));case measure=>omega
    case rel=>exact⟨t+1,by omega,rfl,by go_num,by rw[HST2.out],za HK.out⟩
  ·obtain rfl:t=u.code.length:=by omega
   have nt:¬(u.code.length:Int)<(u.code.length:Int):=by omega
   rw[HFIN.out];obtain⟨n0,n1,n2⟩:=KO (HUN.out _ (HB4.out.step HK.out));have f0:=zF 0 (HUN.out _ (HB4.out.step HK.out));have f1:=zF 1 (HUN.out _ (HB4.out.step HK.out));have f2:=zF 2 (HUN.out _ (HB4.out.step HK.out));go_wp2;exact xJ (v:=Fw (.slice none 0 0) (yd u:Nat) 0) (results_cell_row rfl _ _ (w.heap.size+1) 35 _ (0,0) _ rfl (Rq (HUN.out _ (HB4.out.step HK.out)) _ _ _) Tryz.underlying35 rfl FE) rfl ⟨rfl,Gp (HB2.out.step (HB4.out.step HK.out)) (by omega) _ _ _⟩
theorem Dl(u:zg)(n:Int){t:Nat}(ht:t<u.code.length):((u.code.take (t+1)).filter (ID n)).length=((u.code.take t).filter (ID n)).length+(if (u.code[t].op==n)=true then 1 else 0):=by
 rw[zO ht,List.filter_append,yV,vH];have e:ID n u.code[t]=(u.code[t].op==n):=rfl;rw[e];split<;>simp
theorem AT(u:zg)(ca cc ga gc)(w:World)(hm:jo w u ca cc ga gc)(hlc:u.code.length<=1000000)(hlg:u.guards.length<=1000000):
  Calls prog 16 #[vU u ca cc ga gc] w (zV (.tuple #[.int .i64 (if zJ u=true then Xz u 33 else 0:Nat),.int .i64 (if zJ u=true then Xz u 34 else 0:Nat),.int .i64 (if zJ u=true then 0 else 1)]) w):=by
 have HPL:=za (fun w' (hb:Below w.heap.size w w')=>V5 u ca cc ga gc w' (hm.below hb) hlc hlg);have HM:=za hm;have HX1:=za (zo w (oU u ca cc ga gc) _ rfl);have HB:=za (zd w (oU u ca cc ga gc));have HMS:=za (fun n t (ht:t<u.code.length)=>Dl u n ht);clear hm
 cases hp:zJ u with
 |false=>
  rw[hp]at HPL;rw[zi (by simp),zi (by simp),zi (by simp)];clear hp;go_enter func16,ntmps16;go_upto_region 1 with fail;obtain⟨w1,hw1⟩:∃w1,w1=w.alloc (oU u ca cc ga gc):=⟨_,rfl⟩
  rw[<-hw1]at HX1 HB;rw[<-hw1];clear hw1;obtain⟨k0,k1,k2,k3,k4,k5,k6⟩:=zr HX1.out
  go_wp2_with (first
   |(go_at_call 61;(with_reducible refine(HPL.out _ HB.out).mono ?_);rintro e w2 ⟨rfl,hb⟩;have HB2:=za (HB.out.step hb);clear hb))
  go_ret3
  exact⟨rfl,HB2.out⟩
 |true=>
  rw[hp]at HPL;rw[zj rfl,zj rfl,zj rfl];clear hp;have HFA:Hid (Xz u 33=((u.code.take u.code.length).filter (ID 33)).length/\Xz u 34=((u.code.take u.code.length).filter (ID 34)).length):=za (by rw[xL];exact⟨rfl,rfl⟩);have HLE:=za (fun n t=>(show((u.code.take t).filter (ID n)).length<=u.code.length from yP (ZP _ _) (by rw[xm];omega)));generalize Xz u 33=m1 at *;generalize Xz u 34=m2 at *;go_enter func16,ntmps16;go_upto_region 1 with fail;obtain⟨w1,hw1⟩:∃w1,w1=w.alloc (oU u ca cc ga gc):=⟨_,rfl⟩
  rw[<-hw1]at HX1 HB;rw[<-hw1];clear hw1;obtain⟨k0,k1,k2,k3,k4,k5,k6⟩:=zr HX1.out
  go_upto_region 4 with (first
   |(go_at_call 61;(with_reducible refine(HPL.out _ HB.out).mono ?_);rintro e w2 ⟨rfl,hb⟩;have HB2:=za (HB.out.step hb);have HX2:=za (zb hb HX1.out);clear hb))
  clear k0 k1 k2 k3 k4 k5 k6;obtain⟨k0,k1,k2,k3,k4,k5,k6⟩:=zr HX2.out;go_wp2;go_loopg [6,7,8] u.code.length (fun gh s6 s7 s8 wr=>∃(t a b:Nat),t<=u.code.length/\gh=u.code.length-t/\s8= .int .i64 t/\s6= .int .i64 a/\s7= .int .i64 b/\Hid (a=((u.code.take t).filter (ID 33)).length/\b=((u.code.take t).filter (ID 34)).length/\w2=wr));case atStart=>exact⟨0,0,0,zE _,rfl,rfl,rfl,rfl,za ⟨by simp,by simp,rfl⟩⟩
  case round=>
   obtain⟨t,a,b,ht,rfl,rfl,rfl,rfl,HK⟩:=hrel;obtain⟨-,-,rfl⟩:=HK.out;have hla:a<=u.code.length:=by have:=HLE.out 33 t;have:=HK.out.1;omega
   have hlb:b<=u.code.length:=by have:=HLE.out 34 t;have:=HK.out.2.1;omega
   by_cases hlt:t<u.code.length
   ·have nt:(t:Int)<(u.code.length:Int):=by omega
    obtain⟨b2,off,hca,hlt2,c0,c1,c2,c3⟩:=(HM.out.rc.below HB2.out) t hlt;subst hca;have H3:=za (HMS.out 33 t hlt);have H4:=za (HMS.out 34 t hlt);generalize u.code[t]=x at *
    cases e33:(x.op==33)with
    |true=>
     have e34:(x.op==34)=false:=by simp at e33;simp[e33]
     rw[e33,zj rfl]at H3;rw[e34,zi (by simp)]at H4;have HK2:Hid (a+1=((u.code.take (t+1)).filter (ID 33)).length/\b=((u.code.take (t+1)).filter (ID 34)).length):=za ⟨by rw[H3.out,HK.out.1],by rw[H4.out,HK.out.2.1];rfl⟩;clear e34;go_wp2;go_roundg (u.code.length-(t+1));case measure=>omega
     case rel=>exact⟨t+1,a+1,b,by omega,rfl,by go_num,by go_num,rfl,za ⟨HK2.out.1,HK2.out.2,rfl⟩⟩
    |false=>
     rw[e33,zi (by simp)]at H3
     cases e34:(x.op==34)with
     |true=>
      rw[e34,zj rfl]at H4;have HK2:Hid (a=((u.code.take (t+1)).filter (ID 33)).length/\b+1=((u.code.take (t+1)).filter (ID 34)).length):=za ⟨by rw[H3.out,HK.out.1];rfl,by rw[H4.out,HK.out.2.1]⟩;go_wp2;go_roundg (u.code.length-(t+1));case measure=>omega
      case rel=>exact⟨t+1,a,b+1,by omega,rfl,by go_num,rfl,by go_num,za ⟨HK2.out.1,HK2.out.2,rfl⟩⟩
     |false=>
      rw[e34,zi (by simp)]at H4;have HK2:Hid (a=((u.code.take (t+1)).filter (ID 33)).length/\b=((u.code.take (t+1)).filter (ID 34)).length):=za ⟨by rw[H3.out,HK.out.1];rfl,by rw[H4.out,HK.out.2.1];rfl⟩;go_wp2;go_roundg (u.code.length-(t+1));case measure=>omega
      case rel=>exact⟨t+1,a,b,by omega,rfl,by go_num,rfl,rfl,za ⟨HK2.out.1,HK2.out.2,rfl⟩⟩
   ·obtain rfl:t=u.code.length:=by omega
    have nt:¬(u.code.length:Int)<(u.code.length:Int):=by omega
    have HE:Hid (a=m1/\b=m2):=za ⟨by rw[HK.out.1,HFA.out.1],by rw[HK.out.2.1,HFA.out.2]⟩;go_wp2
    go_ret3
    exact⟨by rw[<-HE.out.1,<-HE.out.2];rfl,HB2.out⟩
def XK(F:Nat->Nat->Bool)(i j:Nat)(v:Bool):Nat->Nat->Bool:=fun a c=>if a=i/\c=j then v else F a c
def BF(w:World)(g n:Nat)(f:Nat->Bool):Prop:=∃cur,w.heap[g]?=some (.cells cur 4 (0,0))/\cur.size=n/\∀i,i<n->cur[i]?=some (.bool (f i))
theorem BF.keep{w w':World}{g n:Nat}{f:Nat->Bool}(h:BF w g n f)(e:w'.heap[g]?=w.heap[g]?):BF w' g n f:=by
 obtain⟨cur,h1,h2⟩:=h;exact⟨cur,e.trans h1,h2⟩
theorem BF.below{w w':World}{g n:Nat}{f:Nat->Bool}(h:BF w g n f)(hb:Below w.heap.size w w'):BF w' g n f:=by
 obtain⟨cur,h1,h2⟩:=h;exact⟨cur,zb hb h1,h2⟩
theorem BF.set{w:World}{g n:Nat}{f:Nat->Bool}(h:BF w g n f){i:Nat}(hi:i<n)(v:Bool):BF (w.setCell ⟨g,i,none⟩ (.bool v)) g n (fun c=>if c=i then v else f c):=by
 obtain⟨cur,h1,h2,h3⟩:=h;refine⟨_,yk _ _ i _ _ _ h1,by simp[h2],fun j hj=> ?_⟩;by_cases e:j=i
 ·subst e
  simp[h2,hi]
 ·rw[Array.getElem?_setIfInBounds_ne (fun e2=>e e2.symm),h3 j hj]
  simp[e]
theorem Nu(w:World)(n:Nat):BF (w.alloc (.cells (madeCells #[.bool false] n) 4)) w.heap.size n (fun _=>false):=by
 refine⟨_,zo _ _ _ rfl,by simp[madeCells],fun i hi=> ?_⟩;simp[madeCells,hi,Nat.mod_one]
structure MB(w:World)(b n k:Nat)(g:Nat->Nat)(F:Nat->Nat->Bool):Prop where
 mat:∃cur,w.heap[b]?=some (.cells cur 137 (0,0))/\cur.size=n/\∀i,i<k->cur[i]?=some (.slice (some ⟨g i,0,none⟩) n n)
 row:∀i,i<k->BF w (g i) n (F i)
 inj:∀i j,i<k->j<k->g i=g j->i=j
 nb:∀i,i<k->b<g i
theorem MB.below{w w':World}{b n k:Nat}{g:Nat->Nat}{F:Nat->Nat->Bool}(h:MB w b n k g F)(hb:Below w.heap.size w w'):MB w' b n k g F:=by
 obtain⟨cur,h1,h2,h3⟩:=h.mat;exact⟨⟨cur,zb hb h1,h2,h3⟩,fun i hi=>(h.row i hi).below hb,h.inj,h.nb⟩
theorem MB.cellAt{w:World}{b n k:Nat}{g:Nat->Nat}{F:Nat->Nat->Bool}(h:MB w b n k g F){i:Nat}(hi:i<k):w.cell? ⟨b,i,none⟩=some (.slice (some ⟨g i,0,none⟩) n n):=by
 obtain⟨cur,h1,h2,h3⟩:=h.mat;rw[zA _ _ _ _ _ _ h1];exact h3 i hi
theorem MB.lt{w:World}{b n k:Nat}{g:Nat->Nat}{F:Nat->Nat->Bool}(h:MB w b n k g F):b<w.heap.size:=by
 obtain⟨cur,h1,_⟩:=h.mat;exact ze h1
theorem MB.bz{w:World}{b n k:Nat}{g:Nat->Nat}{F:Nat->Nat->Bool}(h:MB w b n k g F)(o:Nat):w.frozen? ⟨b,o,none⟩=false:=by
 obtain⟨cur,h1,_⟩:=h.mat;exact zF o h1
theorem MB.old{w:World}{b n k:Nat}{g:Nat->Nat}{F:Nat->Nat->Bool}(h:MB w b n k g F){i:Nat}(hi:i<n):∃v,w.cell? ⟨b,i,none⟩=some v:=by
 obtain⟨cur,h1,h2,h3⟩:=h.mat;rw[zA _ _ _ _ _ _ h1];exact⟨_,Array.getElem?_eq_getElem (by omega)⟩
theorem MB.at{w:World}{b n k:Nat}{g:Nat->Nat}{F:Nat->Nat->Bool}(h:MB w b n k g F){i j:Nat}(hi:i<k)(hj:j<n):w.cell? ⟨g i,j,none⟩=some (.bool (F i j)):=by
 obtain⟨cur,h1,h2,h3⟩:=h.row i hi;rw[zA _ _ _ _ _ _ h1];exact h3 j hj
theorem MB.rz{w:World}{b n k:Nat}{g:Nat->Nat}{F:Nat->Nat->Bool}(h:MB w b n k g F){i:Nat}(hi:i<k)(o:Nat):w.frozen? ⟨g i,o,none⟩=false:=by
 obtain⟨cur,h1,_⟩:=h.row i hi;exact zF o h1
theorem MB.put{w:World}{b n k:Nat}{g:Nat->Nat}{F:Nat->Nat->Bool}(h:MB w b n k g F){i j:Nat}(hi:i<k)(hj:j<n)(v:Bool):MB (w.setCell ⟨g i,j,none⟩ (.bool v)) b n k g (XK F i j v):=by
 obtain⟨cur,h1,h2,h3⟩:=h.mat;refine⟨⟨cur,(yF _ _ _ _ (fun e=>by have:=h.nb i hi;have e2:b=g i:=e;omega)).trans h1,h2,h3⟩,fun a ha=> ?_,h.inj,h.nb⟩;by_cases e:a=i
 ·subst e
  have h4:=(h.row a ha).set hj v;have e2:XK F a j v a=fun c=>if c=j then v else F a c:=by funext c;simp[XK]
  rw[e2];exact h4
 ·have e2:XK F i j v a=F a:=by funext c;simp[XK,e]
  rw[e2];exact(h.row a ha).keep (yF _ _ _ _ (fun e3=>e (h.inj a i ha hi e3)))
theorem MB.keepI{w:World}{b n k:Nat}{g:Nat->Nat}{F:Nat->Nat->Bool}(h:MB w b n k g F){i j:Nat}(hi:i<k){v:Value}{a:Option Addr}{l:List Int}(hr:yC w a l):yC (w.setCell ⟨g i,j,none⟩ v) a l:=by
 intro t ht;obtain⟨b2,off,ha,hlt,hc⟩:=hr t ht
 have hne:b2≠g i:=by
  rintro rfl;obtain⟨cur,h1,h2,h3⟩:=h.row i hi;rw[zA _ _ _ _ _ _ h1]at hc;have hlt2:off+t<n:=by rw[<-h2];exact(qM.1 hc).1
  rw[h3 _ hlt2]at hc;cases hc
 refine⟨b2,off,ha,?_,(vY (p:=⟨g i,j,none⟩) hne).trans hc⟩;rw[World.size_setCell];exact hlt
theorem MB.keepM{w:World}{b n k:Nat}{g:Nat->Nat}{F:Nat->Nat->Bool}(h:MB w b n k g F){i j:Nat}(hi:i<k){v:Value}{a:Option Addr}{L:List (List Int)}(hr:Kt w a L):Kt (w.setCell ⟨g i,j,none⟩ v) a L:=by
 intro t ht;obtain⟨b2,off,ha,hlt,ai,ci,hc,hri⟩:=hr t ht
 have hne:b2≠g i:=by
  rintro rfl;obtain⟨cur,h1,h2,h3⟩:=h.row i hi;rw[zA _ _ _ _ _ _ h1]at hc;have hlt2:off+t<n:=by rw[<-h2];exact(qM.1 hc).1
  rw[h3 _ hlt2]at hc;cases hc
 refine⟨b2,off,ha,?_,ai,ci,(vY (p:=⟨g i,j,none⟩) hne).trans hc,h.keepI hi hri⟩;rw[World.size_setCell];exact hlt
theorem MB.grow{w:World}{b n k:Nat}{g:Nat->Nat}{F:Nat->Nat->Bool}(h:MB w b n k g F)(hk:k<n){r:Nat}{f:Nat->Bool}(hr:BF w r n f)(hb:b<r)(hf:∀i,i<k->g i≠r):
  MB (w.setCell ⟨b,k,none⟩ (.slice (some ⟨r,0,none⟩) n n)) b n (k+1) (fun i=>if i=k then r else g i) (fun i=>if i=k then f else F i):=by
 obtain⟨cur,h1,h2,h3⟩:=h.mat;have hkeep:∀ {x:Nat} {f:Nat->Bool},BF w x n f->x≠b->BF (w.setCell ⟨b,k,none⟩ (.slice (some ⟨r,0,none⟩) n n)) x n f:=fun hx hn=>hx.keep (yF _ _ _ _ hn)
 refine⟨⟨_,yk _ _ k _ _ _ h1,by simp[h2],fun i hi=> ?_⟩,fun i hi=> ?_,fun i j hi hj e=> ?_,fun i hi=> ?_⟩
 ·by_cases e:i=k
  ·subst e
   simp[h2,hk]
  ·try dsimp only
   rw[zi e,Array.getElem?_setIfInBounds_ne (fun e2=>e e2.symm)];exact h3 i (by omega)
 ·by_cases e:i=k
  ·subst e
   try dsimp only
   rw[zj rfl,zj rfl];exact hkeep hr (by omega)
  ·try dsimp only
   rw[zi e,zi e];exact hkeep (h.row i (by omega)) (by have:=h.nb i (by omega);omega)
 ·try dsimp only at e
  by_cases e1:i=k
  ·by_cases e2:j=k
   ·omega
   ·rw[zj e1,zi e2]at e
    exact absurd e.symm (hf j (by omega))
  ·by_cases e2:j=k
   ·rw[zi e1,zj e2]at e
    exact absurd e (hf i (by omega))
   ·rw[zi e1,zi e2]at e
    exact h.inj i j (by omega) (by omega) e
 ·try dsimp only
  by_cases e1:i=k
  ·rw[zj e1];exact hb
  ·rw[zi e1];exact h.nb i (by omega)
theorem MU(w:World)(n:Nat)(F:Nat->Nat->Bool):MB (w.alloc (.cells (madeCells #[.slice none 0 0] n) 137)) w.heap.size n 0 (fun _=>0) F:=
 ⟨⟨_,zo _ _ _ rfl,by simp[madeCells],fun i hi=>absurd hi (y_ i)⟩,fun i hi=>absurd hi (y_ i),fun i _ hi=>absurd hi (y_ i),fun i hi=>absurd hi (y_ i)⟩
def FM(n:Nat)(F:Nat->Nat->Bool)(l:List (Int×Int)):Prop:=∀a c:Nat,a<n->c<n->F a c=ZT l a c
theorem K7(a b:Int):qU a b=qU b a:=by unfold qU;rw[Int.min_comm,Int.max_comm]
theorem OG{a b c d:Int}(h:qU a b=qU c d):a=c/\b=d\/a=d/\b=c:=by
 unfold qU at h;injection h with h1 h2;omega
theorem AA(l:List (Int×Int))(a b c d:Int):ZT (XL (qU a b) l) c d=(decide (qU c d=qU a b)||ZT l c d):=by
 unfold ZT;rw[Bool.eq_iff_iff,xn,jV,yB,xn,XV]
theorem FM.note{n:Nat}{F:Nat->Nat->Bool}{l:List (Int×Int)}(h:FM n F l){i j:Nat}(hij:i≠j):FM n (XK (XK F i j true) j i true) (xu l i j):=by
 intro a c ha hc;have e0:xu l (i:Int) (j:Int)=XL (qU i j) l:=zi (by omega);rw[e0,AA,<-h a c ha hc];unfold XK;by_cases e:a=j/\c=i
 ·rw[zj e,zP (by rw[e.1,e.2,K7])];rfl
 ·rw[zi e]
  by_cases e2:a=i/\c=j
  ·rw[zj e2,zP (by rw[e2.1,e2.2])];rfl
  ·rw[zi e2,yn (fun h=>by rcases OG h with ⟨h1,h2⟩|⟨h1,h2⟩<;>omega)];rfl
theorem Ua(l:List (Int×Int))(a:Int):xu l a a=l:=zj rfl
theorem L6{m:Nat}{a c:Nat}:ZT (yT [] m) a c=(decide (a<m)&&decide (c<m)&&decide (c≠a)):=by
 induction m with
 |zero=>unfold yT ZT;simp
 |succ m ih=>
  have e:∀(k:Nat) (l:List (Int×Int)),k<=m->ZT ((List.range k).foldl (fun l (b:Nat)=>xu l m b) l) a c=((decide (a=m)&&decide (c<k))||(decide (c=m)&&decide (a<k))||ZT l a c):=by
   intro k
   induction k with
   |zero=>intro l _;simp
   |succ k ihk=>
    intro l hk;rw[Ze,jc,qP,List.foldl_nil];have e0:∀l,xu l (m:Int) (k:Int)=XL (qU m k) l:=fun l=>zi (by omega)
    rw[e0,AA,ihk l (by omega)];by_cases h:qU (a:Int) (c:Int)=qU (m:Int) (k:Int)
    ·rw[zP h,Bool.true_or]
     rcases OG h with ⟨h1,h2⟩|⟨h1,h2⟩
     ·have g1:a=m:=by omega
      have g2:c<k+1:=by omega
      simp[g1,g2]
     ·have g1:c=m:=by omega
      have g2:a<k+1:=by omega
      simp[g1,g2]
    ·rw[yn h,Bool.false_or]
     have h1:¬(a=m/\c=k):=fun h9=>h (by rw[h9.1,h9.2])
     have h2:¬(c=m/\a=k):=fun h9=>h (by rw[h9.1,h9.2,K7])
     congr 1;rw[Bool.eq_iff_iff];simp only[jV,yi,yB];omega
  have e1:ZT (yT [] (m+1)) a c=((decide (a=m)&&decide (c<m))||(decide (c=m)&&decide (a<m))||ZT (yT [] m) a c):=e m (yT [] m) (zI _);rw[e1,ih,Bool.eq_iff_iff];simp only[jV,yi,yB];omega
def Sf(n:Nat)(l:List (Int×Int))(w:World)(e:Ending)(w':World):Prop:=Below w.heap.size w w'/\∃b g F,e= .returned (.slice (some ⟨b,0,none⟩) n n)/\MB w' b n n g F/\FM n F l/\w.heap.size<=b
structure Mn(u:zg)(ca cc ga gc)(w:World)(bA n:Nat)(g:Nat->Nat)(la:Option Addr)(Lv:List (List Int))(F:Nat->Nat->Bool)(wr:World):Prop where
 hb:Below w.heap.size w wr
 hu:wr.heap[w.heap.size]?=some (oU u ca cc ga gc)
 mb:MB wr bA n n g F
 rd:Kt wr la Lv
 ge:w.heap.size<bA
theorem Mn.below{u:zg}{ca cc ga gc}{w:World}{bA n:Nat}{g:Nat->Nat}{la:Option Addr}{Lv:List (List Int)}{F:Nat->Nat->Bool}{wr w':World}
  (h:Mn u ca cc ga gc w bA n g la Lv F wr) (hb:Below wr.heap.size wr w'):Mn u ca cc ga gc w bA n g la Lv F w':=
 ⟨h.hb.step hb,zb hb h.hu,h.mb.below hb,h.rd.below hb,h.ge⟩
theorem Mn.put{u:zg}{ca cc ga gc}{w:World}{bA n:Nat}{g:Nat->Nat}{la:Option Addr}{Lv:List (List Int)}{F:Nat->Nat->Bool}{wr:World}
  (h:Mn u ca cc ga gc w bA n g la Lv F wr) {i j:Nat} (hi:i<n) (hj:j<n) (v:Bool):Mn u ca cc ga gc w bA n g la Lv (XK F i j v) (wr.setCell ⟨g i,j,none⟩ (.bool v)):=by
 have h1:=h.mb.nb i hi;have h2:=h.ge;exact⟨h.hb.setCell (p:=⟨g i,j,none⟩) (by show w.heap.size<=g i;omega) _,(yF _ _ _ _ (by show w.heap.size≠g i;omega)).trans h.hu,h.mb.put hi hj v,h.mb.keepM hi h.rd,h.ge⟩
theorem M5:(prog.info? 137).map (fun i=>(i.zero,i.size,i.bytes))=some (some (.slice none 0 0),1,24):=by kernel_rfl
structure Fs(u:zg)(ca cc ga gc)(w:World)(bA n k:Nat)(g:Nat->Nat)(F:Nat->Nat->Bool)(wr:World):Prop where
 hb:Below w.heap.size w wr
 hu:wr.heap[w.heap.size]?=some (oU u ca cc ga gc)
 mb:MB wr bA n k g F
 ge:w.heap.size<bA
theorem Fs.put{u:zg}{ca cc ga gc}{w:World}{bA n k:Nat}{g:Nat->Nat}{F:Nat->Nat->Bool}{wr:World}
  (h:Fs u ca cc ga gc w bA n k g F wr) {i j:Nat} (hi:i<k) (hj:j<n) (v:Bool):Fs u ca cc ga gc w bA n k g (XK F i j v) (wr.setCell ⟨g i,j,none⟩ (.bool v)):=by
 have h1:=h.mb.nb i hi;have h2:=h.ge;exact⟨h.hb.setCell (p:=⟨g i,j,none⟩) (by show w.heap.size<=g i;omega) _,(yF _ _ _ _ (by show w.heap.size≠g i;omega)).trans h.hu,h.mb.put hi hj v,h.ge⟩
theorem Fs.row{u:zg}{ca cc ga gc}{w:World}{bA n k:Nat}{g:Nat->Nat}{F:Nat->Nat->Bool}{wr:World}
  (h:Fs u ca cc ga gc w bA n k g F wr) (hk:k<n) (hg:∀i,i<k->g i<wr.heap.size):Fs u ca cc ga gc w bA n (k+1) (fun i=>if i=k then wr.heap.size else g i) (fun i=>if i=k then(fun _=>false)else F i)
   ((wr.alloc (.cells (madeCells #[.bool false] n) 4)).setCell ⟨bA,k,none⟩ (.slice (some ⟨wr.heap.size,0,none⟩) n n)):=by
 have h2:=h.ge
 refine⟨(h.hb.step (zd _ _)).setCell (p:=⟨bA,k,none⟩) (by show w.heap.size<=bA;omega) _,(yF _ _ _ _ (by show w.heap.size≠bA;omega)).trans (zb (zd _ _) h.hu),
  (h.mb.below (zd _ _)).grow hk (Nu wr n) h.mb.lt (fun i hi=>by have:=hg i hi;omega),h.ge⟩
theorem Fs.lts{u:zg}{ca cc ga gc}{w:World}{bA n k:Nat}{g:Nat->Nat}{F:Nat->Nat->Bool}{wr:World}
  (h:Fs u ca cc ga gc w bA n k g F wr):∀i,i<k->g i<wr.heap.size:=fun i hi=>by
 obtain⟨cur,h1,_⟩:=h.mb.row i hi;exact ze h1
theorem Nq(u:zg)(ca cc ga gc)(w:World)(hm:jo w u ca cc ga gc)(hw:zC u=true):
  Calls prog 84 #[vU u ca cc ga gc] w (Sf u.slots.toNat (zZ u) w):=by
 obtain⟨hn0,hn6,-,-⟩:=z8 (zH hw);obtain⟨ha0,ha1,hs1,hs2⟩:=zL hw;have HM:=za hm;have HLV:=za (fun w' (hb:Below w.heap.size w w')=>Ei u ca cc ga gc w' (hm.below hb) (zH hw));have HLL:Hid ((zf u).length=u.code.length):=za (yq u).len
 have HRW:Hid (∀r∈zf u,r.length<=10000):=za (fun r hr=>by
  obtain⟨t,ht,rfl⟩:=List.getElem_of_mem hr;have h1:=yz (xP ((yq u).so t)) (fun x hx=>(yq u).un t x hx);have h2:=Z0 u;rw[zk ht]at h1
  omega)
 have HNX:=za (fun(t:Nat) (ht:t<u.code.length) p (hp:p∈js (u.code.getD t zw) t)=>(show 0<=p/\p<(zf u).length from by rw[HLL.out];exact Zm (zH hw) ht p ((Qp hw ht p).1 hp)));have HBH:=za (fun(t:Nat) (ht:t<u.code.length) (la:Option Addr) (lc:Nat) w' (hb:Below w.heap.size w w') (hl:Kt w' la (zf u))=>IA u (zf u) t ht hn6 ca cc ga gc la lc w' (hm.rc.below hb) hl HRW.out (HNX.out t ht))
 have HBL:=za (fun t=>(show(xV u (zf u) t).length<=20000 from by
  have h1:=Qy (zf u) HRW.out (js (u.code.getD t zw) t);have h2:=Xe (u.code.getD t zw) t;have h3:xV u (zf u) t=XG (zf u) (js (u.code.getD t zw) t):=rfl;rw[h3]
  omega))
 have HBI:=za (fun(t:Nat) (ht:t<u.code.length) x (hx:x∈xV u (zf u) t)=>(show 0<=x/\x<u.slots from by
  rw[YI hw ht,Zh]at hx;obtain⟨p,_,hp⟩:=hx
  exact ZR hw _ x hp))
 have HL0:=za (ZR hw 0);have HWI:=za (fun(t:Nat) (ht:t<u.code.length)=>xA hw ht);have HFIN:=za (fun F (h:FM u.slots.toNat F (Yq u (zf u) u.code.length))=>(show FM u.slots.toNat F (zZ u)from fun a c ha hc=>(h a c ha hc).trans (RZ hw a c)));clear hm hw;obtain⟨n,hn⟩:∃n:Nat,u.slots.toNat=n:=⟨_,rfl⟩
 rw[hn]at HFIN;rw[hn];have hsn:u.slots=(n:Int):=by omega
 obtain⟨m,hmm⟩:∃m:Nat,u.args=(m:Int):=⟨u.args.toNat,by omega⟩
 have HC0:Hid (Yq u (zf u) 0=qd (yT [] m) ((zf u).getD 0 []) m):=za (by show qd (yT [] u.args.toNat) ((zf u).getD 0 []) u.args.toNat=_;rw[hmm,qQ]);have HSN:=za hsn;have hn200:n<=200:=by omega
 have hmn:m<=n:=by omega
 have hn1:1<=n:=by omega
 have hmk:=fun w=>run_make_row' (P:=prog) 135 137 (.slice none 0 0) 24 (by kernel_rfl) M5 rfl .i64 .i64 n (by omega) (by omega) w
 have hmb:=fun w=>run_make_row' (P:=prog) 137 4 (.bool false) 1 Tryz.underlying137 NG rfl .i64 .i64 n (by omega) (by omega) w
 simp only[<-hsn]at hmk hmb;have HMD:=za (fun w=>MU w n (fun _ _=>false));obtain⟨M,hM⟩:∃M,M=madeCells #[.slice none 0 0] n:=⟨_,rfl⟩
 rw[<-hM]at HMD;simp only[<-hM]at hmk;clear hM;have HROW:=za (fun(k:Nat) (g:Nat->Nat) (F:Nat->Nat->Bool) (wr:World) (bA:Nat) (h:Fs u ca cc ga gc w bA n k g F wr) (hk:k<n)=>h.row hk h.lts);obtain⟨M2,hM2⟩:∃M,M=madeCells #[.bool false] n:=⟨_,rfl⟩
 rw[<-hM2]at HROW;simp only[<-hM2]at hmb;clear hM2;have HX1:=za (zo w (oU u ca cc ga gc) _ rfl);have HB:=za (zd w (oU u ca cc ga gc));have HMM:=za hmm;clear hn hsn hmm ha0 ha1 hs1 hs2;go_enter func84,ntmps84;go_upto_region 1 with fail;obtain⟨w1,hw1⟩:∃w1,w1=w.alloc (oU u ca cc ga gc):=⟨_,rfl⟩
 rw[<-hw1]at HX1 HB;rw[<-hw1];clear hw1;have hlt:=ze HX1.out;have HI0:Hid (Fs u ca cc ga gc w w1.heap.size n 0 (fun _=>0) (fun _ _=>false) (w1.alloc (.cells M 137))):=za ⟨HB.out.step (zd _ _),zb (zd _ _) HX1.out,HMD.out w1,hlt⟩;obtain⟨k0,k1,k2,k3,k4,k5,k6⟩:=zr HX1.out;go_upto_region 2 with fail;obtain⟨bA,hbA⟩:∃b,b=w1.heap.size:=⟨_,rfl⟩
 obtain⟨wa,hwa⟩:∃wa,wa=w1.alloc (.cells M 137):=⟨_,rfl⟩
 rw[<-hbA,<-hwa]at HI0;rw[<-hbA,<-hwa];clear hwa hbA hlt k0 k1 k2 k3 k4 k5 k6 hmk HMD HB HX1;go_wp2;go_loopg [4] n (fun gh s4 wr=>∃(k:Nat) (g:Nat->Nat) (F:Nat->Nat->Bool),k<=n/\gh=n-k/\s4= .int .i64 k/\Hid (Fs u ca cc ga gc w bA n k g F wr)/\Hid (∀a c:Nat,a<k->c<n->F a c=(decide (a<m)&&decide (c<m)&&decide (c≠a))));case atStart=>exact⟨0,_,_,zE _,rfl,rfl,HI0,za (fun a c ha=>absurd ha (y_ a))⟩
 case round=>
  obtain⟨k,g,F,hk,rfl,rfl,HK,HF⟩:=hrel;obtain⟨k0,k1,k2,k3,k4,k5,k6⟩:=zr HK.out.hu;by_cases hkn:k<n
  ·have nk:(k:Int)<u.slots:=by have:=HSN.out;omega
   have nkn:(k:Int)<(n:Int):=by omega
   obtain⟨old,hold⟩:=HK.out.mb.old hkn;have hbA:=HK.out.mb.lt;have HN:=za (HROW.out _ _ _ _ _ HK.out hkn);rw[World.setCell_alloc_past _ _ _ _ hbA]at HN;have hz:=HK.out.mb.bz k;have hold2:=zK (zd wr (.cells M2 4)) hold;have hz2:(wr.alloc (.cells M2 4)).frozen? ⟨bA,k,none⟩=false:=(HK.out.mb.below (zd wr (.cells M2 4))).bz k;go_upto_region 6 with fail;obtain⟨w5,hw5⟩:∃w5,w5=(wr.setCell ⟨bA,k,none⟩ (.slice (some ⟨wr.heap.size,0,none⟩) n n)).alloc (.cells M2 4):=⟨_,rfl⟩
   have HF2:Hid (∀a c:Nat,a<k->c<n->(fun i=>if i=k then(fun _=>false)else F i) a c=(decide (a<m)&&decide (c<m)&&decide (c≠a))):=za (fun a c ha hc=>by
    show(if a=k then(fun _=>false)else F a) c=_;rw[zi (by omega)]
    exact HF.out a c ha hc)
   have HF3:Hid (∀c:Nat,(fun i=>if i=k then(fun _=>false)else F i) k c=false):=za (fun c=>by
    show(if k=k then(fun _=>false)else F k) c=_
    rw[zj rfl])
   rw[<-hw5]at HN;rw[<-hw5];clear hw5 hold hz hold2 hz2 hbA k0 k1 k2 k3 k4 k5 k6;generalize (fun i=>if i=k then wr.heap.size else g i)=g2 at *;generalize (fun i=>if i=k then(fun _=>false)else F i)=F2 at *;clear HK HF;go_wp2;go_loopg [5] m (fun gh s5 wr=>∃(c:Nat) (G:Nat->Nat->Bool),c<=m/\(k<m\/c=0)/\gh=m-c/\s5= .int .i64 c/\Hid (Fs u ca cc ga gc w bA n (k+1) g2 G wr)/\Hid ((∀a c:Nat,a<k->c<n->G a c=(decide (a<m)&&decide (c<m)&&decide (c≠a)))/\∀c',c'<n->G k c'=(decide (k<m)&&decide (c'<c)&&decide (c'≠k))));case atStart=>exact⟨0,F2,zE _,.inr rfl,rfl,rfl,HN,za ⟨HF2.out,fun c' _=>by rw[HF3.out];simp⟩⟩
   case round=>
    clear HN HF2 HF3;obtain⟨c,G,hc,hkc,rfl,rfl,HG,HGF⟩:=hrel;obtain⟨k0,k1,k2,k3,k4,k5,k6⟩:=zr HG.out.hu
    have HEX:Hid ((c=m\/¬k<m)->∀a c':Nat,a<k+1->c'<n->G a c'=(decide (a<m)&&decide (c'<m)&&decide (c'≠a))):=za (fun h a c' ha hc'=>by
     by_cases e:a=k
     ·subst e
      rw[HGF.out.2 c' hc'];rcases h with h|h
      ·rw[h]
      ·rw[yn h];rfl
     ·exact HGF.out.1 a c' (by omega) hc')
    by_cases hcm:c<m
    ·have nc:(c:Int)<u.args:=by have:=HMM.out;omega
     by_cases hkm:k<m
     ·have nkm:(k:Int)<u.args:=by have:=HMM.out;omega
      have ncn:(c:Int)<(n:Int):=by omega
      have hcn:c<n:=by omega
      have q0:=HG.out.mb.cellAt (i:=k) (by omega);have q1:=HG.out.mb.at (i:=k) (j:=c) (by omega) hcn;have q2:=HG.out.mb.rz (i:=k) (by omega) c;have q3:=(HG.out.lts k (by omega))
      have HNX2:=za (HG.out.put (i:=k) (j:=c) (by omega) hcn ((c:Int) !=(k:Int)))
      have HGN:Hid ((∀a c':Nat,a<k->c'<n->XK G k c ((c:Int) !=(k:Int)) a c'=(decide (a<m)&&decide (c'<m)&&decide (c'≠a)))/\∀c',c'<n->XK G k c ((c:Int) !=(k:Int)) k c'=(decide (k<m)&&decide (c'<c+1)&&decide (c'≠k))):=za ⟨fun a c' ha hc'=>by
        unfold XK;rw[zi (by omega)]
        exact HGF.out.1 a c' ha hc',fun c' hc'=>by
        unfold XK;by_cases e:c'=c
        ·subst e
         rw[zj ⟨rfl,rfl⟩,zP hkm,zP (by omega:c'<c'+1)];by_cases e2:c'=k
         ·subst e2;simp
         ·rw[zP e2,bne_iff_ne.2 (by omega)];rfl
        ·rw[zi (by omega),HGF.out.2 c' hc']
         congr 2;rw[Bool.eq_iff_iff,yB,yB]
         omega⟩
      clear HEX;go_wp2;go_roundg (m-(c+1));case measure=>omega
      case rel=>exact⟨c+1,_,by omega,.inl hkm,rfl,by go_num,HNX2,HGN⟩
     ·have nkm:¬(k:Int)<u.args:=by have:=HMM.out;omega
      have HE:=za (HEX.out (.inr hkm));clear HEX;go_wp2;go_roundg (n-(k+1));case measure=>omega
      case rel=>exact⟨k+1,g2,G,by omega,rfl,by go_num,HG,HE⟩
    ·have nc:¬(c:Int)<u.args:=by have:=HMM.out;omega
     have HE:=za (HEX.out (.inl (by omega)));clear HEX;go_wp2;go_roundg (n-(k+1));case measure=>omega
     case rel=>exact⟨k+1,g2,G,by omega,rfl,by go_num,HG,HE⟩
  ·obtain rfl:k=n:=by omega
   have nk:¬(k:Int)<u.slots:=by have:=HSN.out;omega
   have HFM:Hid (FM k F (yT [] m)):=za (fun a c ha hc=>(HF.out a c ha hc).trans L6.symm);clear HF;go_upto_region 11 with (go_at_call 58;(with_reducible refine(HLV.out _ HK.out.hb).mono ?_);rintro e w4 ⟨hb4,la,lc,rfl,hl4⟩;have HCM:=za (show Mn u ca cc ga gc w bA k g la (zf u) F w4 from⟨HK.out.hb.step hb4,zb hb4 HK.out.hu,HK.out.mb.below hb4,hl4,HK.out.ge⟩);clear hb4 hl4);rw[HLL.out];clear k0 k1 k2 k3 k4 k5 k6 nk HLV HK HROW hmb HRW hkn hk;obtain⟨lb,lo,hla,-,-,-,-,-⟩:=Kt.row HCM.out.rd (i:=0) (by rw[HLL.out];exact hn0);subst hla;have hn0i:(0:Int)<(u.code.length:Int):=by omega
   have HR0:=za (fun(wx:World) (h:Kt wx (some ⟨lb,lo,none⟩) (zf u))=>(show ∃ai ci,wx.cell? ⟨lb,lo,none⟩=some (.slice ai ((zf u).getD 0 []).length ci)/\yC wx ai ((zf u).getD 0 [])from by
    obtain⟨b1,o1,e1,_,ai,ci,h1,h2⟩:=Kt.row h (i:=0) (by rw[HLL.out];exact hn0);cases e1
    exact⟨ai,ci,h1,h2⟩))
   have HS0:Hid (((zf u).getD 0 []).length<=1200):=za (by
    have h1:=yz (xP ((yq u).so 0)) (fun x hx=>(yq u).un 0 x hx);have h2:=Z0 u
    omega)
   have HCL:Hid (∀i,qd (yT [] m) ((zf u).getD 0 []) (i+1)=((zf u).getD 0 []).foldl (fun l s=>xu l (i:Int) s) (qd (yT [] m) ((zf u).getD 0 []) i)):=za (fun _=>rfl);have HC00:Hid (qd (yT [] m) ((zf u).getD 0 []) 0=yT [] m):=za rfl;generalize (zf u).getD 0 []=S at *;have hs0:=HS0.out;go_wp2;go_loopg [7] m (fun gh s7 wr=>∃(i:Nat) (F:Nat->Nat->Bool),i<=m/\gh=m-i/\s7= .int .i64 i/\Hid (Mn u ca cc ga gc w bA k g (some ⟨lb,lo,none⟩) (zf u) F wr)/\Hid (FM k F (qd (yT [] m) S i)));case atStart=>exact⟨0,F,zE _,rfl,rfl,HCM,za (by rw[HC00.out];exact HFM.out)⟩
   case round=>
    clear HCM HFM HC00;obtain⟨i,F,hi,rfl,rfl,HM2,HF⟩:=hrel;obtain⟨k0,k1,k2,k3,k4,k5,k6⟩:=zr HM2.out.hu;by_cases him:i<m
    ·have ni:(i:Int)<u.args:=by have:=HMM.out;omega
     have hin:i<k:=by omega
     have nik:(i:Int)<(k:Int):=by omega
     have HCS:=za (HCL.out i);generalize qd (yT [] m) S i=L at *;go_wp2;go_loopg [8] S.length (fun gh s8 wr=>∃(j:Nat) (G:Nat->Nat->Bool),j<=S.length/\gh=S.length-j/\s8= .int .i64 j/\Hid (Mn u ca cc ga gc w bA k g (some ⟨lb,lo,none⟩) (zf u) G wr)/\Hid (FM k G ((S.take j).foldl (fun l s=>xu l (i:Int) s) L)));case atStart=>exact⟨0,F,zE _,rfl,rfl,HM2,HF⟩
     case round=>
      clear HM2 HF k0 k1 k2 k3 k4 k5 k6;obtain⟨j,G,hj,rfl,rfl,HM2,HF⟩:=hrel;obtain⟨ra,rc,hc0,hr0⟩:=HR0.out _ HM2.out.rd;by_cases hjl:j<S.length
      ·have nj:(j:Int)<(S.length:Int):=by omega
       obtain⟨rb,ro,hra,hltr,hx⟩:=hr0 j hjl;subst hra;have HT:Hid (S.take (j+1)=S.take j++ [S[j]]):=za (zO hjl);have HSN2:=za (Qb (fun l s=>xu l (i:Int) s) L (S.take j) S[j]);rw[<-HT.out]at HSN2;have hxb:=HL0.out S[j] (yy hjl);have HXE:=za (show ∀z:Int,z=S[j]->S[j]=z from fun z h=>h.symm);obtain⟨x,hx0⟩:∃x,x=S[j]:=⟨_,rfl⟩
       rw[<-hx0]at hx hxb HSN2 HT;replace HXE:=za (HXE.out x hx0);clear hx0;obtain⟨y,rfl⟩:∃y:Nat,x=y:=⟨x.toNat,by omega⟩
       have hyn:y<k:=by have:=HSN.out;omega
       have nyk:(y:Int)<(k:Int):=by omega
       clear hxb;by_cases hyi:y=i
       ·have nq:((y:Int) !=(i:Int))=false:=by simp;omega
        have HF2:Hid (FM k G ((S.take (j+1)).foldl (fun l s=>xu l (i:Int) s) L)):=za (by rw[HSN2.out];show FM k G (xu _ (i:Int) (y:Int));rw[hyi,Ua];exact HF.out);clear hyi;go_wp2;go_roundg (S.length-(j+1));case measure=>omega
        case rel=>exact⟨j+1,G,by omega,rfl,by go_num,HM2,HF2⟩
       ·have nq:((y:Int) !=(i:Int))=true:=by simp;omega
        have HF2:Hid (FM k (XK (XK G i y true) y i true) ((S.take (j+1)).foldl (fun l s=>xu l (i:Int) s) L)):=za (by rw[HSN2.out];exact HF.out.note (fun e=>hyi e.symm));clear hyi;go_upto_region 18 with fail;have a0:=HM2.out.mb.cellAt hin;have HMd:=za (HM2.out.below (zt wr));go_still_tail 11,(by kernel_rfl)
        repeat still_step
        change wpList _ _ _ _ _ wr.drew;obtain⟨wd,hwd⟩:∃wd,wd=wr.drew:=⟨_,rfl⟩
        rw[<-hwd]at HMd ⊢;clear hwd HM2 hc0 hx a0;have a1:=HMd.out.mb.at hin hyn;have a2:=HMd.out.mb.rz hin y;have HMp:=za (HMd.out.put hin hyn true);go_upto_region 19 with fail;obtain⟨w8,hw8⟩:∃W,W=wd.setCell ⟨g i,y,none⟩ (.bool true):=⟨_,rfl⟩
        rw[<-hw8]at HMp ⊢;clear hw8 a1 a2 HMd;obtain⟨ra2,rc2,hc1,hr1⟩:=HR0.out _ HMp.out.rd;obtain⟨rb2,ro2,hra2,-,hx2⟩:=hr1 j hjl;subst hra2;rw[HXE.out]at hx2;have a3:=HMp.out.mb.cellAt hyn;have a4:=HMp.out.mb.at hyn hin;have a5:=HMp.out.mb.rz hyn i;have HMq:=za (HMp.out.put hyn hin true);go_wp2;go_roundg (S.length-(j+1));case measure=>omega
        case rel=>exact⟨j+1,_,by omega,rfl,by go_num,HMq,HF2⟩
      ·obtain rfl:j=S.length:=by omega
       have nj:¬(S.length:Int)<(S.length:Int):=by omega
       rw[xL,<-HCS.out]at HF;go_wp2;go_roundg (m-(i+1));case measure=>omega
       case rel=>exact⟨i+1,G,by omega,rfl,by go_num,HM2,HF⟩
    ·obtain rfl:i=m:=by omega
     have ni:¬(i:Int)<u.args:=by have:=HMM.out;omega
     rw[<-HC0.out]at HF;go_wp2;clear ni hi;go_loopg [9] u.code.length (fun gh s9 wr=>∃(t:Nat) (F:Nat->Nat->Bool),t<=u.code.length/\gh=u.code.length-t/\s9= .int .i64 t/\Hid (Mn u ca cc ga gc w bA k g (some ⟨lb,lo,none⟩) (zf u) F wr)/\Hid (FM k F (Yq u (zf u) t)));case atStart=>exact⟨0,F,zE _,rfl,rfl,HM2,HF⟩
     case round=>
      clear HM2 HF k0 k1 k2 k3 k4 k5 k6;obtain⟨t,F,ht,rfl,rfl,HM2,HF⟩:=hrel;obtain⟨k0,k1,k2,k3,k4,k5,k6⟩:=zr HM2.out.hu;by_cases hlt:t<u.code.length
      ·have nt:(t:Int)<(u.code.length:Int):=by omega
       obtain⟨b2,off,hca,hlt2,c0,c1,c2,c3⟩:=(HM.out.rc.below HM2.out.hb) t hlt;subst hca;have HBT:=za (fun wx (hb:Below wr.heap.size wr wx)=>HBH.out t hlt (some ⟨lb,lo,none⟩) lc wx (HM2.out.hb.step hb) (HM2.out.rd.below hb));rw[HLL.out]at HBT;have HWR:=za (ZY u.code[t]);have HWB:=za (HWI.out t hlt);have HBB:=za (HBI.out t hlt);have HBLT:=za (HBL.out t)
       have HCI:Hid (Yq u (zf u) (t+1)=if 0<=zc u.code[t]then(xV u (zf u) t).foldl (fun l s=>xu l (zc u.code[t]) s) (Yq u (zf u) t)else Yq u (zf u) t):=za (by
        show Kh u (zf u) (Yq u (zf u) t) t=_;unfold Kh
        rw[zk hlt])
       generalize u.code[t]=x at *;generalize zc x=wi at *;generalize xV u (zf u) t=BR at *
       go_upto_region 25 with (first
        |(go_at_call 82;(with_reducible refine(HWR.out _).mono ?_);rintro e w5 ⟨rfl,hb5⟩;have HB5:=za hb5;obtain⟨l0,l1,l2,l3,l4,l5,l6⟩:=zr (zb hb5 HM2.out.hu);clear hb5)
        |(go_at_call 81;(with_reducible refine(HBT.out _ HB5.out).mono ?_);rintro e w6 ⟨hb6,v6,rfl,hv6⟩;have HM6:=za ((HM2.out.below HB5.out).below hb6);have HV6:=za hv6;clear hb6 hv6))
       clear k0 k1 k2 k3 k4 k5 k6 l0 l1 l2 l3 l4 l5 l6 c0 c1 c2 c3 hlt2 HM2 HB5 HBT HWR;obtain⟨pa,pc,rfl,hpr,-,-⟩:=HV6.out.ex;have HPR:=za hpr;have hbl:=HBLT.out;clear hpr HV6;generalize Yq u (zf u) t=LT at *;go_wp2;go_loopg [12] BR.length (fun gh s12 wr=>∃(j:Nat) (G:Nat->Nat->Bool),j<=BR.length/\(0<=wi\/j=0)/\gh=BR.length-j/\s12= .int .i64 j/\Hid (Mn u (some ⟨b2,off,none⟩) cc ga gc w bA k g (some ⟨lb,lo,none⟩) (zf u) G wr/\yC wr pa BR)/\Hid (FM k G ((BR.take j).foldl (fun l s=>xu l wi s) LT)));case atStart=>exact⟨0,F,zE _,.inr rfl,rfl,rfl,za ⟨HM6.out,HPR.out⟩,HF⟩
       case round=>
        clear HM6 HPR HF;obtain⟨j,G,hj,hjw,rfl,rfl,HM2,HF⟩:=hrel;have HPR:=za HM2.out.2;replace HM2:=za HM2.out.1;by_cases hjl:j<BR.length
        ·have nj:(j:Int)<(BR.length:Int):=by omega
         by_cases hwi:0<=wi
         ·obtain⟨rb,ro,hra,-,hx⟩:=HPR.out j hjl
          subst hra;have HT:Hid (BR.take (j+1)=BR.take j++ [BR[j]]):=za (zO hjl);have HSN2:=za (Qb (fun l s=>xu l wi s) LT (BR.take j) BR[j]);rw[<-HT.out]at HSN2;have hxb:=HBB.out BR[j] (yy hjl)
          have HRX:=za (fun(wx:World) (h:yC wx (some ⟨rb,ro,none⟩) BR)=>(show wx.cell? ⟨rb,ro+j,none⟩=some (.int .i64 BR[j])from by
           obtain⟨b9,o9,e9,_,h9⟩:=h j hjl;cases e9
           exact h9))
          generalize BR[j]=x at *;obtain⟨y,rfl⟩:∃y:Nat,x=y:=⟨x.toNat,by omega⟩
          obtain⟨i,rfl⟩:∃i:Nat,wi=i:=⟨wi.toNat,by omega⟩
          have hyn:y<k:=by have:=HSN.out;omega
          have hin:i<k:=by have:=HWB.out;have:=HSN.out;omega
          have nyk:(y:Int)<(k:Int):=by omega
          have nik:(i:Int)<(k:Int):=by omega
          clear hxb;by_cases hyi:y=i
          ·have nq:((y:Int) !=(i:Int))=false:=by simp;omega
           have HF2:Hid (FM k G ((BR.take (j+1)).foldl (fun l s=>xu l (i:Int) s) LT)):=za (by rw[HSN2.out];show FM k G (xu _ (i:Int) (y:Int));rw[hyi,Ua];exact HF.out);clear hyi;go_wp2;go_roundg (BR.length-(j+1));case measure=>omega
           case rel=>exact⟨j+1,G,by omega,.inl hwi,rfl,by go_num,za ⟨HM2.out,HPR.out⟩,HF2⟩
          ·have nq:((y:Int) !=(i:Int))=true:=by simp;omega
           have HF2:Hid (FM k (XK (XK G i y true) y i true) ((BR.take (j+1)).foldl (fun l s=>xu l (i:Int) s) LT)):=za (by rw[HSN2.out];exact HF.out.note (fun e=>hyi e.symm));clear hyi;go_upto_region 29 with fail;have a0:=HM2.out.mb.cellAt hin;have HMd:=za (HM2.out.below (zt wr));have HPd:=za (HPR.out.below (zt wr));go_still_tail 9,(by kernel_rfl)
           repeat still_step
           change wpList _ _ _ _ _ wr.drew;obtain⟨wd,hwd⟩:∃wd,wd=wr.drew:=⟨_,rfl⟩
           rw[<-hwd]at HMd HPd ⊢;clear hwd HM2 HPR hx a0;have a1:=HMd.out.mb.at hin hyn;have a2:=HMd.out.mb.rz hin y;have HMp:=za (HMd.out.put hin hyn true);have HPp:=za (HMd.out.mb.keepI (j:=y) (v:=.bool true) hin HPd.out);go_upto_region 30 with fail;obtain⟨w8,hw8⟩:∃W,W=wd.setCell ⟨g i,y,none⟩ (.bool true):=⟨_,rfl⟩
           rw[<-hw8]at HMp HPp ⊢;clear hw8 a1 a2 HMd HPd;have hx2:=HRX.out _ HPp.out;have a3:=HMp.out.mb.cellAt hyn;have a4:=HMp.out.mb.at hyn hin;have a5:=HMp.out.mb.rz hyn i;have HMq:=za (HMp.out.put hyn hin true);have HPq:=za (HMp.out.mb.keepI (j:=i) (v:=.bool true) hyn HPp.out);go_wp2;go_roundg (BR.length-(j+1));case measure=>omega
           case rel=>exact⟨j+1,_,by omega,.inl hwi,rfl,by go_num,za ⟨HMq.out,HPq.out⟩,HF2⟩
         ·obtain rfl:j=0:=by omega
          have HF2:Hid (FM k G (Yq u (zf u) (t+1))):=za (by rw[HCI.out,zi hwi];exact HF.out);go_wp2;go_roundg (u.code.length-(t+1));case measure=>omega
          case rel=>exact⟨t+1,G,by omega,rfl,by go_num,HM2,HF2⟩
        ·have nj:¬(j:Int)<(BR.length:Int):=by omega
         have HF2:Hid (FM k G (Yq u (zf u) (t+1))):=za (by
          rw[HCI.out];by_cases hwi:0<=wi
          ·rw[zj hwi]
           have h:=HF.out;rw[show j=BR.length by omega,xL]at h;exact h
          ·rw[zi hwi]
           have h:=HF.out;rw[show j=0 by omega]at h
           exact h)
         go_wp2;go_roundg (u.code.length-(t+1));case measure=>omega
         case rel=>exact⟨t+1,G,by omega,rfl,by go_num,HM2,HF2⟩
      ·obtain rfl:t=u.code.length:=by omega
       have nt:¬(u.code.length:Int)<(u.code.length:Int):=by omega
       have HFF:=za (HFIN.out F HF.out);have HGE:=HM2.out.ge;go_wp2;go_ret;exact⟨HM2.out.hb,bA,g,F,rfl,HM2.out.mb,HFF.out,by omega⟩
end Go.Proofs.YtgalekifgnecjaaGreat
