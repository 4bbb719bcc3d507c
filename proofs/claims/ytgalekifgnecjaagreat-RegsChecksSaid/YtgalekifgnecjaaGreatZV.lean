/- The reference of layer 16: homed -/
import Derived.Test.YtgalekifgnecjaaGreatZU
import Derived.Test.YtgalekifgnecjaaGreatZO
import Derived.Test.YtgalekifgnecjaaGreatX6
import Derived.Deep.RegionHeld
namespace Go.Proofs.YtgalekifgnecjaaGreat
open Tryz Go.RowKit Go.Shelf
set_option maxHeartbeats 40000000
set_option maxRecDepth 100000
attribute [local go_sem] Oper.semAt_some
attribute [local irreducible] wpStill
def Jb(u:zg)(i:Nat)(k:Nat):Bool:=decide ((i:Int)<u.args)||(u.code.take k).any fun x=>(zp x).contains (i:Int)||zc x==(i:Int)
theorem Fz(u:zg)(i:Nat){k:Nat}(hk:k<u.code.length):Jb u i (k+1)=(Jb u i k||((zp u.code[k]).contains (i:Int)||zc u.code[k]==(i:Int))):=by
 unfold Jb;rw[zO hk,List.any_append,Bool.or_assoc];simp
structure Ml(u v:zg)(ca cc ga gc)(da dc ea ec)(w w4:World)(wr:World):Prop where
 hb:Below w4.heap.size w4 wr
 hu:wr.heap[w.heap.size]?=some (oU u ca cc ga gc)
 hv:wr.heap[w.heap.size+1]?=some (oU v da dc ea ec)
theorem Ml.below{u v:zg}{ca cc ga gc}{da dc ea ec}{w w4 wr w':World}(h:Ml u v ca cc ga gc da dc ea ec w w4 wr)(hb:Below wr.heap.size wr w'):Ml u v ca cc ga gc da dc ea ec w w4 w':=
 ⟨h.hb.step hb,zb hb h.hu,zb hb h.hv⟩
theorem M_(u v:zg)(h:List Int)(ca cc ga gc)(da dc ea ec)(ha:Option Addr)(hc:Nat)(w:World)(mu:jo w u ca cc ga gc)(mh:yC w ha h)(hw:zC u=true)
  (hwf:∀x∈h,-9223372036854775808<=x/\x<=9223372036854775807) (hvs:1<=v.slots/\v.slots<=200):
  Calls prog 57 #[vU u ca cc ga gc,vU v da dc ea ec,.slice ha h.length hc] w (zV (.bool (Yb u v h ((zf u).getD 0 []) (zZ u))) w):=by
 obtain⟨hn0,hn6,-,-⟩:=z8 (zH hw);obtain⟨ha0,ha1,hs1,hs2⟩:=zL hw;have HM:=za mu;have HH:=za mh;have HWF:=za hwf;have HCL:=za (fun w' (hb:Below w.heap.size w w')=>Nq u ca cc ga gc w' (mu.below hb) hw);have HLV:=za (fun w' (hb:Below w.heap.size w w')=>Ei u ca cc ga gc w' (mu.below hb) (zH hw));have HLL:Hid ((zf u).length=u.code.length):=za (yq u).len
 have HS0:Hid (((zf u).getD 0 []).length<=1200):=za (by
  have h1:=yz (xP ((yq u).so 0)) (fun x hx=>(yq u).un 0 x hx);have h2:=Z0 u
  omega)
 obtain⟨n,hn⟩:∃n:Nat,u.slots.toNat=n:=⟨_,rfl⟩
 have HSN:Hid (u.slots=(n:Int)):=za (by omega);have hn200:n<=200:=by omega
 have HRES:Hid (Yb u v h ((zf u).getD 0 []) (zZ u)=(decide ((h.length:Int)=u.slots)&&(List.range n).all (KD u v h ((zf u).getD 0 []) (zZ u)))):=za (by unfold Yb;rw[hn]);rw[hn]at HCL;have HROW:=za (fun(wx:World) (la:Option Addr) (hl:Kt wx la (zf u))=>Kt.row hl (i:=0) (by rw[(yq u).len];exact hn0));have hvs1:IntKind.i64.wrap (v.slots-1)=v.slots-1:=ju (by omega);clear mu mh hwf hw hn ha0 ha1 hs1 hs2;generalize (zf u).getD 0 []=S at *;generalize zZ u=CL at *;generalize Yb u v h S CL=res at *
 have HI:=za (show Below w.heap.size w ((w.alloc (oU u ca cc ga gc)).alloc (oU v da dc ea ec))/\((w.alloc (oU u ca cc ga gc)).alloc (oU v da dc ea ec)).heap[w.heap.size]?=some (oU u ca cc ga gc)/\((w.alloc (oU u ca cc ga gc)).alloc (oU v da dc ea ec)).heap[w.heap.size+1]?=some (oU v da dc ea ec)from
  ⟨(zd _ _).step (zd _ _),zb (zd _ _) (zo _ _ _ rfl),zo _ _ _ (by simp)⟩)
 go_enter func57,ntmps57;go_upto_region 1 with fail;obtain⟨w1,hw1⟩:∃w1,w1=(w.alloc (oU u ca cc ga gc)).alloc (oU v da dc ea ec):=⟨_,rfl⟩
 rw[<-hw1]at HI;rw[<-hw1];clear hw1;obtain⟨k0,k1,k2,k3,k4,k5,k6⟩:=zr HI.out.2.1;by_cases hlen:(h.length:Int)=u.slots
 case neg=>
  have HV:Hid (res=false):=za (by rw[HRES.out,yn hlen];rfl);have d:((h.length:Int) !=u.slots)=true:=by simpa using hlen
  clear hlen;go_wp2;go_ret;exact⟨by rw[HV.out];rfl,HI.out.1⟩
 case pos=>
 have d:((h.length:Int) !=u.slots)=false:=by simpa using hlen
 rw[zP hlen,xk]at HRES;have HLH:Hid (h.length=n):=za (by have:=HSN.out;omega);clear hlen;go_upto_region 4 with (go_at_call 84;(with_reducible refine(HCL.out _ HI.out.1).mono ?_);rintro e w4 ⟨hb4,bM,g,F,rfl,hmb,hfm,hge⟩;have HI4:=za (show Ml u v ca cc ga gc da dc ea ec w w4 w4 from⟨zG _ _,zb hb4 HI.out.2.1,zb hb4 HI.out.2.2⟩);have HB4:=za (HI.out.1.step hb4);have HMB:=za hmb;have HFM:=za hfm;clear hb4 hmb hfm hge);clear d k0 k1 k2 k3 k4 k5 k6 HI HCL;go_wp2;go_loopg [8] n (fun gh s8 wr=>∃i:Nat,i<=n/\gh=n-i/\s8= .int .i64 i/\Hid (Ml u v ca cc ga gc da dc ea ec w w4 wr)/\Hid (∀k,k<i->KD u v h S CL k=true));case atStart=>exact⟨0,zE _,rfl,rfl,HI4,za (fun k hk=>absurd hk (y_ k))⟩
 case round=>
  obtain⟨i,hi,rfl,rfl,HK,HQ⟩:=hrel;obtain⟨k0,k1,k2,k3,k4,k5,k6⟩:=zr HK.out.hu;obtain⟨v0,v1,v2,v3,v4,v5,v6⟩:=zr HK.out.hv;by_cases hin:i<n
  ·have ni:(i:Int)<u.slots:=by have:=HSN.out;omega
   have nin:(i:Int)<(n:Int):=by omega
   have nih:(i:Int)<(h.length:Int):=by have:=HLH.out;omega
   have hih:i<h.length:=by have:=HLH.out;omega
   obtain⟨bh,oh,hha,-,-⟩:=HH.out i hih;subst hha
   have HHC:=za (fun(k:Nat) (hk:k<n) (wx:World) (hb:Below w4.heap.size w4 wx)=>(show wx.cell? ⟨bh,oh+k,none⟩=some (.int .i64 (zh h k))from by
    have hkh:k<h.length:=by have:=HLH.out;omega
    obtain⟨b9,o9,e9,_,h9⟩:=(HH.out.below (HB4.out.step hb)) k hkh;cases e9;unfold zh;rw[qQ,zk hkh]
    exact h9))
   have hxb:=HWF.out h[i] (yy hih);have HXE:Hid (h[i]=zh h i):=za (by unfold zh;rw[qQ,zk hih]);rw[HXE.out]at hxb
   have HHR:Hid (KD u v h S CL i=(!(!YH v h i&& !yr (zh h i) 0 (v.slots-1)&&(zh h i != -1||Ja u i))&&(List.range i).all (fun k=> !(ZT CL i k&&zh h i==zh h k)) &&
    !(decide ((i:Int)<u.args)&&v.frame==0&&zh h i !=(i:Int))&& !(decide ((i:Int)<u.args)&&decide (0<v.frame)&&decide (zh h i<0)&&zh h i != -2-(i:Int)) &&
    !(YH v h i&&decide (-2-zh h i<u.args)&& -2-zh h i !=(i:Int)&&S.contains (i:Int)))):=za rfl
   have HCR:Hid (YH v h i=(decide (zh h i<= -2)&&decide (-2-zh h i<v.frame))):=za rfl;have HUS:Hid (Ja u i=Jb u i u.code.length):=za (by unfold Jb Ja;rw[xL])
   have HNO:Hid (KD u v h S CL i=false->res=false):=za (fun e=>by
    rw[HRES.out,List.all_eq_false]
    exact⟨i,yR.2 hin,by rw[e];simp⟩)
   have HYES:Hid (KD u v h S CL i=true->∀k,k<i+1->KD u v h S CL k=true):=za (fun e k hk=>by
    by_cases e2:k=i
    ·subst e2;exact e
    ·exact HQ.out k (by omega))
   have hh0:=HHC.out i hin _ HK.out.hb;have HHI:=za (HHC.out i hin);obtain⟨hx,hhx⟩:∃x,x=zh h i:=⟨_,rfl⟩
   rw[<-hhx]at HHR HCR hxb hh0 HHI;have HHX:=za hhx;clear hhx HXE HQ;generalize KD u v h S CL i=HR at *;generalize YH v h i=cB at *;generalize Ja u i=uB at *;go_upto_region 7 with fail;go_cut [9]from 26 to 40 (fun s9 wy=>s9= .bool cB/\Hid (Ml u v ca cc ga gc da dc ea ec w w4 wy))
   case first=>as_aux_lemma=>
    by_cases h2:hx<= -2
    ·have d2:decide (hx<= -2)=true:=zP h2
     have e2:IntKind.i64.wrap (-2-hx)= -2-hx:=ju (by omega);have HV:Hid (cB=decide (-2-hx<v.frame)):=za (by rw[HCR.out,d2];rfl);clear h2;go_quiet (fail);go_wp2;go_meet;exact⟨by rw[HV.out],za (HK.out.below (Km (zG _ _) _))⟩
    ·have d2:decide (hx<= -2)=false:=yn h2
     have HV:Hid (cB=false):=za (by rw[HCR.out,d2];rfl);clear h2;go_quiet (fail);go_wp2;go_meet;exact⟨by rw[HV.out],za (HK.out.below (Km (zG _ _) _))⟩
   case rest=>
   obtain⟨rfl,HK1⟩:=hcut;clear HK k0 k1 k2 k3 k4 k5 k6 v0 v1 v2 v3 v4 v5 v6 hh0;obtain⟨k0,k1,k2,k3,k4,k5,k6⟩:=zr HK1.out.hu;have HSTA:=za (show Jb u i 0=decide ((i:Int)<u.args) by simp[Jb]);go_wp2;go_loopg [10,11] u.code.length (fun gh s10 s11 wr=>∃k:Nat,k<=u.code.length/\gh=u.code.length-k/\s11= .int .i64 k/\s10= .bool (Jb u i k)/\Hid (Ml u v ca cc ga gc da dc ea ec w w4 wr));case atStart=>exact⟨0,zE _,rfl,rfl,by rw[HSTA.out],HK1⟩
   case round=>
    clear HK1 k0 k1 k2 k3 k4 k5 k6 HSTA;obtain⟨k,hk,rfl,rfl,rfl,HK⟩:=hrel;obtain⟨k0,k1,k2,k3,k4,k5,k6⟩:=zr HK.out.hu;by_cases hkn:k<u.code.length
    ·have nk:(k:Int)<(u.code.length:Int):=by omega
     have HSU:=za (Fz u i hkn);obtain⟨b2,off,hca,hlt2,c0,c1,c2,c3⟩:=(HM.out.rc.below (HB4.out.step HK.out.hb)) k hkn;subst hca;have HIC:=za (fun wx (hb:Below w4.heap.size w4 wx)=>(HM.out.rc.below (HB4.out.step hb)) k hkn);have HRD:=za (XS u.code[k]);have HWR:=za (ZY u.code[k]);have HR2:=za (xD u.code[k]);generalize u.code[k]=x at *;generalize zp x=R at *;generalize zc x=W at *;generalize Jb u i k=b0 at *
     cases b0 with
     |true=>
      rw[Bool.true_or]at HSU;go_wp2;go_roundg (u.code.length-(k+1));case measure=>omega
      case rel=>exact⟨k+1,by omega,rfl,by go_num,by rw[HSU.out],HK⟩
     |false=>
      rw[Bool.false_or]at HSU;have HHS:=za (fun(ra:Option Addr) (rc:Nat) wx (hb:yC wx ra R)=>O9 R (i:Int) ra rc wx hb (by have:=HR2.out;omega));generalize R.contains (i:Int)=cn at *
      cases cn with
      |true=>
       rw[Bool.true_or]at HSU
       go_wp2_with (first
        |(go_at_call 115;(with_reducible refine(HRD.out _).mono ?_);rintro e w6 ⟨hb6,v6,rfl,ho6⟩;obtain⟨ra,rc,rfl,hrr⟩:=ho6.rd;have HS6:=za (HHS.out ra rc _ hrr);have HK6:=za (HK.out.below hb6);clear hb6 ho6 hrr)
        |(go_at_call 85;(with_reducible refine HS6.out.mono ?_);rintro e w7 ⟨rfl,rfl⟩))
       go_roundg (u.code.length-(k+1));case measure=>omega
       case rel=>exact⟨k+1,by omega,rfl,by go_num,by rw[HSU.out],HK6⟩
      |false=>
       rw[Bool.false_or]at HSU
       go_wp2_with (first
        |(go_at_call 115;(with_reducible refine(HRD.out _).mono ?_);rintro e w6 ⟨hb6,v6,rfl,ho6⟩;obtain⟨ra,rc,rfl,hrr⟩:=ho6.rd;have HS6:=za (HHS.out ra rc _ hrr);have HK6:=za (HK.out.below hb6);obtain⟨l0,l1,l2,l3,l4,l5,l6⟩:=zr HK6.out.hu;obtain⟨b3,o3,e3,hl3,d0,d1,d2,d3⟩:=HIC.out _ HK6.out.hb;cases e3;clear hb6 ho6 hrr)
        |(go_at_call 85;(with_reducible refine HS6.out.mono ?_);rintro e w7 ⟨rfl,rfl⟩)
        |(go_at_call 82;(with_reducible refine(HWR.out _).mono ?_);rintro e w8 ⟨rfl,hb8⟩;have HK8:=za (HK6.out.below hb8);clear hb8))
       go_roundg (u.code.length-(k+1));case measure=>omega
       case rel=>exact⟨k+1,by omega,rfl,by go_num,by rw[HSU.out],HK8⟩
    ·obtain rfl:k=u.code.length:=by omega
     have nk:¬(u.code.length:Int)<(u.code.length:Int):=by omega
     rw[<-HUS.out];clear HUS;have hh0:=HHI.out _ HK.out.hb;obtain⟨v0,v1,v2,v3,v4,v5,v6⟩:=zr HK.out.hv;obtain⟨b1,hb1⟩:∃b,b=(!cB&& !yr hx 0 (v.slots-1)&&(hx != -1||uB)):=⟨_,rfl⟩
     rw[<-hb1]at HHR;have HB1:=za hb1;clear hb1;have HIN:=za (fun w=>UT hx 0 (v.slots-1) w);go_upto_region 13 with fail;go_cut [95]from 73 to 94 (fun s95 wy=>s95= .bool b1/\Hid (Ml u v ca cc ga gc da dc ea ec w w4 wy))
     case first=>as_aux_lemma=>
      generalize yr hx 0 (v.slots-1)=iB at *
      cases cB with
      |true=>
       have HV:Hid (b1=false):=za (by rw[HB1.out];rfl);go_quiet (fail);go_wp2;go_meet
       exact⟨by rw[HV.out],za (HK.out.below (Km (zG _ _) _))⟩
      |false=>
       cases iB with
       |true=>
        have HV:Hid (b1=false):=za (by rw[HB1.out];rfl);go_quiet ((go_at_call 56;exact Calls.quiet_of_same (KB (HIN.out _))));go_wp2;go_meet
        exact⟨by rw[HV.out],za (HK.out.below (Km (zG _ _) _))⟩
       |false=>
        by_cases h1:hx= -1
        ·have d1:(hx != -1)=false:=by simpa using h1
         have HV:Hid (b1=uB):=za (by rw[HB1.out,d1];rfl);clear h1;go_quiet ((go_at_call 56;exact Calls.quiet_of_same (KB (HIN.out _))));go_wp2;go_meet;exact⟨by rw[HV.out],za (HK.out.below (Km (zG _ _) _))⟩
        ·have d1:(hx != -1)=true:=by simpa using h1
         have HV:Hid (b1=true):=za (by rw[HB1.out,d1];rfl);clear h1;go_quiet ((go_at_call 56;exact Calls.quiet_of_same (KB (HIN.out _))));go_wp2;go_meet;exact⟨by rw[HV.out],za (HK.out.below (Km (zG _ _) _))⟩
     case rest=>
     obtain⟨rfl,HK1⟩:=hcut;clear HK k0 k1 k2 k3 k4 k5 k6 v0 v1 v2 v3 v4 v5 v6 hh0 HIN HB1
     cases b1 with
     |true=>
      have HV:=za (HNO.out (by rw[HHR.out];rfl));go_wp2;go_ret
      exact⟨by rw[HV.out];rfl,HB4.out.step HK1.out.hb⟩
     |false=>
     rw[Bool.not_false,xk]at HHR;go_wp2;go_loopg [12] i (fun gh s12 wr=>∃k:Nat,k<=i/\gh=i-k/\s12= .int .i64 k/\Hid (Ml u v ca cc ga gc da dc ea ec w w4 wr)/\Hid (∀j,j<k->(ZT CL i j&&hx==zh h j)=false));case atStart=>exact⟨0,zE _,rfl,rfl,HK1,za (fun j hj=>absurd hj (y_ j))⟩
     case round=>
      clear HK1;obtain⟨k,hk,rfl,rfl,HK,HJ⟩:=hrel;by_cases hki:k<i
      ·have nk:(k:Int)<(i:Int):=by omega
       have hkn2:k<n:=by omega
       have nkn:(k:Int)<(n:Int):=by omega
       have nkh:(k:Int)<(h.length:Int):=by have:=HLH.out;omega
       have q0:=(HMB.out.below HK.out.hb).cellAt hin;have q1:=(HMB.out.below HK.out.hb).at hin hkn2;have hh0:=HHI.out _ HK.out.hb;have hh1:=HHC.out k hkn2 _ HK.out.hb;obtain⟨b2,hb2⟩:∃b,b=(ZT CL i k&&hx==zh h k):=⟨_,rfl⟩
       have HB2:=za hb2;rw[<-HFM.out i k hin hkn2]at HB2
       have HJN:Hid (b2=true->(List.range i).all (fun k=> !(ZT CL i k&&hx==zh h k))=false):=za (fun e=>by
        rw[List.all_eq_false]
        exact⟨k,yR.2 hki,by rw[<-hb2,e];simp⟩)
       have HJY:Hid (b2=false->∀j,j<k+1->(ZT CL i j&&hx==zh h j)=false):=za (fun e j hj=>by
        by_cases e2:j=k
        ·subst e2;rw[<-hb2];exact e
        ·exact HJ.out j (by omega))
       clear hb2 HJ;generalize zh h k=hy at *;go_upto_region 18 with fail;go_cut [118]from 101 to 117 (fun s118 wy=>s118= .bool b2/\Hid (Ml u v ca cc ga gc da dc ea ec w w4 wy))
       case first=>as_aux_lemma=>
        generalize F i k=fk at *
        cases fk with
        |true=>
         have HV:Hid (b2=(hx==hy)):=za (by rw[HB2.out];rfl);go_quiet (fail);go_wp2;go_meet
         exact⟨by rw[HV.out],za (HK.out.below (Km (zG _ _) _))⟩
        |false=>
         have HV:Hid (b2=false):=za (by rw[HB2.out];rfl);go_quiet (fail);go_wp2;go_meet;exact⟨by rw[HV.out],za (HK.out.below (Km (zG _ _) _))⟩
       case rest=>
       obtain⟨rfl,HK1⟩:=hcut;clear HK q0 q1 hh0 hh1 HB2
       cases b2 with
       |true=>
        have HV:=za (HNO.out (by rw[HHR.out,HJN.out rfl];rfl));go_wp2;go_ret
        exact⟨by rw[HV.out];rfl,HB4.out.step HK1.out.hb⟩
       |false=>
        have HJ2:=za (HJY.out rfl);go_wp2;go_roundg (i-(k+1));case measure=>omega
        case rel=>exact⟨k+1,by omega,rfl,by go_num,HK1,HJ2⟩
      ·obtain rfl:k=i:=by omega
       have nk:¬(k:Int)<(k:Int):=by omega
       rw[show(List.range k).all (fun j=> !(ZT CL k j&&hx==zh h j))=true from by
        rw[yL]
        exact fun j hj=>by rw[HJ.out j (yR.1 hj)];rfl,xk]at HHR
       clear HJ;obtain⟨k0,k1,k2,k3,k4,k5,k6⟩:=zr HK.out.hu;obtain⟨v0,v1,v2,v3,v4,v5,v6⟩:=zr HK.out.hv;have hh0:=HHI.out _ HK.out.hb;obtain⟨b3,hb3⟩:∃b,b=(decide ((k:Int)<u.args)&&v.frame==0&&hx !=(k:Int)):=⟨_,rfl⟩
       obtain⟨b4,hb4⟩:∃b,b=(decide ((k:Int)<u.args)&&decide (0<v.frame)&&decide (hx<0)&&hx != -2-(k:Int)):=⟨_,rfl⟩
       obtain⟨b5,hb5⟩:∃b,b=(cB&&decide (-2-hx<u.args)&& -2-hx !=(k:Int)&&S.contains (k:Int)):=⟨_,rfl⟩
       rw[<-hb3,<-hb4,<-hb5]at HHR;have HB3:=za hb3;have HB4':=za hb4;have HB5:=za hb5;clear hb3 hb4 hb5;go_upto_region 20 with fail;go_cut [135]from 41 to 134 (fun s135 wy=>s135= .bool b3/\Hid (wr=wy))
       case first=>as_aux_lemma=>
        clear HB4' HB5;by_cases h1:(k:Int)<u.args
        ·have d1:decide ((k:Int)<u.args)=true:=zP h1
         rw[d1,xk]at HB3;by_cases hz:v.frame=0
         ·obtain⟨vcl,vnm,vag,vsl,vfr,vcd,vgd⟩:=v
          change vfr=0 at hz;subst hz;have HV:Hid (b3=(hx !=(k:Int))):=za (by rw[HB3.out];rfl);go_wp2;go_meet;exact⟨by rw[HV.out],za rfl⟩
         ·have dz:(v.frame==0)=false:=by simpa using hz
          rw[dz,Bool.false_and]at HB3;clear hz;go_wp2;go_meet;exact⟨by rw[HB3.out],za rfl⟩
        ·have d1:decide ((k:Int)<u.args)=false:=yn h1
         rw[d1]at HB3;have HV:Hid (b3=false):=za (by rw[HB3.out];rfl);go_wp2;go_meet;exact⟨by rw[HV.out],za rfl⟩
       case rest=>
       obtain⟨rfl,HW⟩:=hcut;obtain rfl:=HW.out;clear HW HB3
       cases b3 with
       |true=>
        have HV:=za (HNO.out (by rw[HHR.out];rfl));go_wp2;go_ret
        exact⟨by rw[HV.out];rfl,HB4.out.step HK.out.hb⟩
       |false=>
       rw[Bool.not_false,xk]at HHR;have ek:IntKind.i64.wrap (-2-(k:Int))= -2-(k:Int):=ju (by omega);go_upto_region 22 with fail;go_cut [160]from 41 to 159 (fun s160 wy=>s160= .bool b4/\Hid (wr=wy))
       case first=>as_aux_lemma=>
        clear HB5;by_cases h1:(k:Int)<u.args
        ·have d1:decide ((k:Int)<u.args)=true:=zP h1
         by_cases h2:0<v.frame
         ·have d2:decide (0<v.frame)=true:=zP h2
          by_cases h3:hx<0
          ·have d3:decide (hx<0)=true:=zP h3
           have HV:Hid (b4=(hx != -2-(k:Int))):=za (by rw[HB4'.out,d1,d2,d3];rfl);go_wp2;go_meet;exact⟨by rw[HV.out],za rfl⟩
          ·have d3:decide (hx<0)=false:=yn h3
           have HV:Hid (b4=false):=za (by rw[HB4'.out,d1,d2,d3];rfl);go_wp2;go_meet;exact⟨by rw[HV.out],za rfl⟩
         ·have d2:decide (0<v.frame)=false:=yn h2
          have HV:Hid (b4=false):=za (by rw[HB4'.out,d1,d2];rfl);go_wp2;go_meet;exact⟨by rw[HV.out],za rfl⟩
        ·have d1:decide ((k:Int)<u.args)=false:=yn h1
         have HV:Hid (b4=false):=za (by rw[HB4'.out,d1];rfl);go_wp2;go_meet;exact⟨by rw[HV.out],za rfl⟩
       case rest=>
       obtain⟨rfl,HW⟩:=hcut;obtain rfl:=HW.out;clear HW HB4' ek
       cases b4 with
       |true=>
        have HV:=za (HNO.out (by rw[HHR.out];rfl));go_wp2;go_ret
        exact⟨by rw[HV.out];rfl,HB4.out.step HK.out.hb⟩
       |false=>
       rw[Bool.not_false,xk]at HHR;go_upto_region 24 with fail;go_cut [188]from 41 to 187 (fun s188 wy=>s188= .bool b5/\Hid (Ml u v ca cc ga gc da dc ea ec w w4 wy))
       case first=>as_aux_lemma=>
        cases cB with
        |false=>
         have HV:Hid (b5=false):=za (by rw[HB5.out];rfl);go_quiet (fail);go_wp2;go_meet
         exact⟨by rw[HV.out],za (HK.out.below (Km (zG _ _) _))⟩
        |true=>
         have hx2:hx<= -2:=by
          have e:=HCR.out;by_cases e2:hx<= -2
          ·exact e2
          ·rw[yn e2]at e;cases e
         have e2:IntKind.i64.wrap (-2-hx)= -2-hx:=ju (by omega);clear hx2;by_cases h1: -2-hx<u.args
         ·have d1:decide (-2-hx<u.args)=true:=zP h1
          cases h3:(-2-hx !=(k:Int))with
          |false=>
           have HV:Hid (b5=false):=za (by rw[HB5.out,d1,h3];rfl);go_quiet (fail);go_wp2;go_meet
           exact⟨by rw[HV.out],za (HK.out.below (Km (zG _ _) _))⟩
          |true=>
           have HV:Hid (b5=S.contains (k:Int)):=za (by rw[HB5.out,d1,h3];rfl);have HKd:=za (HK.out.below (zt wr));have HHS:=za (fun(ra:Option Addr) (rc:Nat) wx (hb:yC wx ra S)=>O9 S (k:Int) ra rc wx hb (by have:=HS0.out;omega));generalize S.contains (k:Int)=cn at *;have hn0i:(0:Int)<(u.code.length:Int):=by omega
           have HSK:Hid (∀W,Below wr.heap.size wr W->(fun W=>W.cell? ⟨w.heap.size,0,none⟩=some (.string u.cls)/\W.cell? ⟨w.heap.size,1,none⟩=some (.string u.name)/\W.cell? ⟨w.heap.size,2,none⟩=some (.int .i64 u.args)/\W.cell? ⟨w.heap.size,3,none⟩=some (.int .i64 u.slots)/\W.cell? ⟨w.heap.size,4,none⟩=some (.int .i64 u.frame)/\W.cell? ⟨w.heap.size,5,none⟩=some (.slice ca u.code.length cc)/\W.cell? ⟨w.heap.size,6,none⟩=some (.slice ga u.guards.length gc)/\W.cell? ⟨bh,oh+k,none⟩=some (.int .i64 hx)) W):=za (fun W hW=>by
            obtain⟨a0,a1,a2,a3,a4,a5,a6⟩:=zr (zb hW HK.out.hu)
            exact⟨a0,a1,a2,a3,a4,a5,a6,HHI.out _ (HK.out.hb.step hW)⟩)
           refine wp_region_held_drew (S:=(fun W=>W.cell? ⟨w.heap.size,0,none⟩=some (.string u.cls)/\W.cell? ⟨w.heap.size,1,none⟩=some (.string u.name)/\W.cell? ⟨w.heap.size,2,none⟩=some (.int .i64 u.args)/\W.cell? ⟨w.heap.size,3,none⟩=some (.int .i64 u.slots)/\W.cell? ⟨w.heap.size,4,none⟩=some (.int .i64 u.frame)/\W.cell? ⟨w.heap.size,5,none⟩=some (.slice ca u.code.length cc)/\W.cell? ⟨w.heap.size,6,none⟩=some (.slice ga u.guards.length gc)/\W.cell? ⟨bh,oh+k,none⟩=some (.int .i64 hx))) (by kernel_rfl) (HSK.out _ (zt _)) (fun hHeld=> ?_);refine wpAnyH_take (i:=0) (v:=?v0) rfl (by kernel_rfl) (by kernel_rfl) (by kernel_rfl) (fun _ _ _ h=>h) (Or.inl ⟨by rfl,?hy0⟩) (by assumption) ?rest0;case hy0=>intro w hSw;(try dsimp only at hSw);go_simp;(try with_reducible rfl)
           try simp only[Act.put,List.getElem_toArray,List.getElem_cons_zero,List.setIfInBounds_toArray,List.set_cons_zero,List.set_cons_succ]
           refine wpAnyH_take (i:=1) (v:=?v1) rfl (by kernel_rfl) (by kernel_rfl) (by kernel_rfl) (fun _ _ _ h=>h) (Or.inl ⟨by rfl,?hy1⟩) (by assumption) ?rest1;case hy1=>intro w hSw;(try dsimp only at hSw);go_simp;(try with_reducible rfl)
           try simp only[Act.put,List.getElem_toArray,List.getElem_cons_zero,List.getElem_cons_succ,List.setIfInBounds_toArray,List.set_cons_zero,List.set_cons_succ]
           refine wpAnyH_take (i:=2) (v:=?v2) rfl (by kernel_rfl) (by kernel_rfl) (by kernel_rfl) (fun _ _ _ h=>h) (Or.inl ⟨by rfl,?hy2⟩) (by assumption) ?rest2;case hy2=>intro w hSw;(try dsimp only at hSw);go_simp;(try with_reducible rfl)
           try simp only[Act.put,List.getElem_toArray,List.getElem_cons_zero,List.getElem_cons_succ,List.setIfInBounds_toArray,List.set_cons_zero,List.set_cons_succ]
           refine wpAnyH_take (i:=3) (v:=?v3) rfl (by kernel_rfl) (by kernel_rfl) (by kernel_rfl) (fun _ _ _ h=>h) (Or.inl ⟨by rfl,?hy3⟩) (by assumption) ?rest3;case hy3=>intro w hSw;(try dsimp only at hSw);go_simp;(try with_reducible rfl)
           try simp only[Act.put,List.getElem_toArray,List.getElem_cons_zero,List.getElem_cons_succ,List.setIfInBounds_toArray,List.set_cons_zero,List.set_cons_succ]
           refine wpAnyH_take (i:=4) (v:=?v4) rfl (by kernel_rfl) (by kernel_rfl) (by kernel_rfl) (fun _ _ _ h=>h) (Or.inl ⟨by rfl,?hy4⟩) (by assumption) ?rest4;case hy4=>intro w hSw;(try dsimp only at hSw);go_simp;(try with_reducible rfl)
           try simp only[Act.put,List.getElem_toArray,List.getElem_cons_zero,List.getElem_cons_succ,List.setIfInBounds_toArray,List.set_cons_zero,List.set_cons_succ]
           refine wpAnyH_take (i:=5) (v:=?v5) rfl (by kernel_rfl) (by kernel_rfl) (by kernel_rfl) (fun _ _ _ h=>h) (Or.inl ⟨by rfl,?hy5⟩) (by assumption) ?rest5;case hy5=>intro w hSw;(try dsimp only at hSw);go_simp;(try with_reducible rfl)
           try simp only[Act.put,List.getElem_toArray,List.getElem_cons_zero,List.getElem_cons_succ,List.setIfInBounds_toArray,List.set_cons_zero,List.set_cons_succ]
           refine wpAnyH_take (i:=6) (v:=?v6) rfl (by kernel_rfl) (by kernel_rfl) (by kernel_rfl) (fun _ _ _ h=>h) (Or.inl ⟨by rfl,?hy6⟩) (by assumption) ?rest6;case hy6=>intro w hSw;(try dsimp only at hSw);go_simp;(try with_reducible rfl)
           try simp only[Act.put,List.getElem_toArray,List.getElem_cons_zero,List.getElem_cons_succ,List.setIfInBounds_toArray,List.set_cons_zero,List.set_cons_succ]
           refine wpAnyH_take (i:=7) (v:=?v7) rfl (by kernel_rfl) (by kernel_rfl) (by kernel_rfl) (fun _ _ _ h=>h) (Or.inl ⟨by rfl,?hy7⟩) (by assumption) ?rest7;case hy7=>intro w hSw;(try dsimp only at hSw);go_simp;(try with_reducible rfl)
           try simp only[Act.put,List.getElem_toArray,List.getElem_cons_zero,List.getElem_cons_succ,List.setIfInBounds_toArray,List.set_cons_zero,List.set_cons_succ]
           refine wpAnyH_take (i:=8) (v:=?v8) rfl (by kernel_rfl) (by kernel_rfl) (by kernel_rfl) (fun _ _ _ h=>h) (Or.inl ⟨by rfl,?hy8⟩) (by assumption) ?rest8;case hy8=>intro w hSw;(try dsimp only at hSw);go_simp;(try with_reducible rfl)
           try simp only[Act.put,List.getElem_toArray,List.getElem_cons_zero,List.getElem_cons_succ,List.setIfInBounds_toArray,List.set_cons_zero,List.set_cons_succ]
           refine wpAnyH_take (i:=9) (v:=?v9) rfl (by kernel_rfl) (by kernel_rfl) (by kernel_rfl) (fun _ _ _ h=>h) (Or.inl ⟨by rfl,?hy9⟩) (by assumption) ?rest9;case hy9=>intro w hSw;(try dsimp only at hSw);go_simp;(try with_reducible rfl)
           try simp only[Act.put,List.getElem_toArray,List.getElem_cons_zero,List.getElem_cons_succ,List.setIfInBounds_toArray,List.set_cons_zero,List.set_cons_succ]
           refine wpAnyH_take (i:=10) (v:=?v10) rfl (by kernel_rfl) (by kernel_rfl) (by kernel_rfl) (fun _ _ _ h=>h) (Or.inl ⟨by rfl,?hy10⟩) (by assumption) ?rest10;case hy10=>intro w hSw;(try dsimp only at hSw);go_simp;(try with_reducible rfl)
           try simp only[Act.put,List.getElem_toArray,List.getElem_cons_zero,List.getElem_cons_succ,List.setIfInBounds_toArray,List.set_cons_zero,List.set_cons_succ]
           refine wpAnyH_take (i:=11) (v:=?v11) rfl (by kernel_rfl) (by kernel_rfl) (by kernel_rfl) (fun _ _ _ h=>h) (Or.inl ⟨by rfl,?hy11⟩) (by assumption) ?rest11;case hy11=>intro w hSw;(try dsimp only at hSw);go_simp;(try with_reducible rfl)
           try simp only[Act.put,List.getElem_toArray,List.getElem_cons_zero,List.getElem_cons_succ,List.setIfInBounds_toArray,List.set_cons_zero,List.set_cons_succ]
           refine wpAnyH_take (i:=12) (v:=?v12) rfl (by kernel_rfl) (by kernel_rfl) (by kernel_rfl) (fun _ _ _ h=>h) (Or.inl ⟨by rfl,?hy12⟩) (by assumption) ?rest12;case hy12=>intro w hSw;(try dsimp only at hSw);go_simp;(try with_reducible rfl)
           try simp only[Act.put,List.getElem_toArray,List.getElem_cons_zero,List.getElem_cons_succ,List.setIfInBounds_toArray,List.set_cons_zero,List.set_cons_succ]
           refine wpAnyH_take (i:=13) (v:=?v13) rfl (by kernel_rfl) (by kernel_rfl) (by kernel_rfl) (fun _ _ _ h=>h) (Or.inl ⟨by rfl,?hy13⟩) (by assumption) ?rest13;case hy13=>intro w hSw;(try dsimp only at hSw);go_simp;(try with_reducible rfl)
           try simp only[Act.put,List.getElem_toArray,List.getElem_cons_zero,List.getElem_cons_succ,List.setIfInBounds_toArray,List.set_cons_zero,List.set_cons_succ]
           refine wpAnyH_take (i:=14) (v:=?v14) rfl (by kernel_rfl) (by kernel_rfl) (by kernel_rfl) (fun _ _ _ h=>h) (Or.inl ⟨by rfl,?hy14⟩) (by assumption) ?rest14;case hy14=>intro w hSw;(try dsimp only at hSw);go_simp;(try with_reducible rfl)
           try simp only[Act.put,List.getElem_toArray,List.getElem_cons_zero,List.getElem_cons_succ,List.setIfInBounds_toArray,List.set_cons_zero,List.set_cons_succ]
           refine wpAnyH_take (i:=15) (v:=?v15) rfl (by kernel_rfl) (by kernel_rfl) (by kernel_rfl) (fun _ _ _ h=>h) (Or.inl ⟨by rfl,?hy15⟩) (by assumption) ?rest15;case hy15=>intro w hSw;(try dsimp only at hSw);go_simp;(try with_reducible rfl)
           try simp only[Act.put,List.getElem_toArray,List.getElem_cons_zero,List.getElem_cons_succ,List.setIfInBounds_toArray,List.set_cons_zero,List.set_cons_succ]
           refine wpAnyH_take (i:=16) (v:=?v16) rfl (by kernel_rfl) (by kernel_rfl) (by kernel_rfl) (fun _ _ _ h=>h) (Or.inl ⟨by rfl,?hy16⟩) (by assumption) ?rest16;case hy16=>intro w hSw;(try dsimp only at hSw);go_simp;(try with_reducible rfl)
           try simp only[Act.put,List.getElem_toArray,List.getElem_cons_zero,List.getElem_cons_succ,List.setIfInBounds_toArray,List.set_cons_zero,List.set_cons_succ]
           refine wpAnyH_take (i:=17) (v:=?v17) rfl (by kernel_rfl) (by kernel_rfl) (by kernel_rfl) (fun _ _ _ h=>h) (Or.inl ⟨by rfl,?hy17⟩) (by assumption) ?rest17;case hy17=>intro w hSw;(try dsimp only at hSw);go_simp;(try with_reducible rfl)
           try simp only[Act.put,List.getElem_toArray,List.getElem_cons_zero,List.getElem_cons_succ,List.setIfInBounds_toArray,List.set_cons_zero,List.set_cons_succ]
           refine wpAnyH_take (i:=18) (v:=?v18) rfl (by kernel_rfl) (by kernel_rfl) (by kernel_rfl) (fun _ _ _ h=>h) (Or.inl ⟨by rfl,?hy18⟩) (by assumption) ?rest18;case hy18=>intro w hSw;(try dsimp only at hSw);go_simp;(try with_reducible rfl)
           try simp only[Act.put,List.getElem_toArray,List.getElem_cons_zero,List.getElem_cons_succ,List.setIfInBounds_toArray,List.set_cons_zero,List.set_cons_succ]
           refine wpAnyH_take (i:=19) (v:=?v19) rfl (by kernel_rfl) (by kernel_rfl) (by kernel_rfl) (fun _ _ _ h=>h) (Or.inl ⟨by rfl,?hy19⟩) (by assumption) ?rest19;case hy19=>intro w hSw;(try dsimp only at hSw);go_simp;(try with_reducible rfl)
           try simp only[Act.put,List.getElem_toArray,List.getElem_cons_zero,List.getElem_cons_succ,List.setIfInBounds_toArray,List.set_cons_zero,List.set_cons_succ]
           refine wpAnyH_take (i:=20) (v:=?v20) rfl (by kernel_rfl) (by kernel_rfl) (by kernel_rfl) (fun _ _ _ h=>h) (Or.inl ⟨by rfl,?hy20⟩) (by assumption) ?rest20;case hy20=>intro w hSw;(try dsimp only at hSw);go_simp;(try with_reducible rfl)
           try simp only[Act.put,List.getElem_toArray,List.getElem_cons_zero,List.getElem_cons_succ,List.setIfInBounds_toArray,List.set_cons_zero,List.set_cons_succ]
           refine wpAnyH_take (i:=21) (v:=?v21) rfl (by kernel_rfl) (by kernel_rfl) (by kernel_rfl) (fun _ _ _ h=>h) (Or.inl ⟨by rfl,?hy21⟩) (by assumption) ?rest21;case hy21=>intro w hSw;(try dsimp only at hSw);go_simp;(try with_reducible rfl)
           try simp only[Act.put,List.getElem_toArray,List.getElem_cons_zero,List.getElem_cons_succ,List.setIfInBounds_toArray,List.set_cons_zero,List.set_cons_succ]
           refine wpAnyH_take (i:=25) (v:=?v25) rfl (by kernel_rfl) (by kernel_rfl) (by kernel_rfl) (fun _ _ _ h=>h) (Or.inl ⟨by rfl,?hy25⟩) (by assumption) ?rest25;case hy25=>intro w hSw;(try dsimp only at hSw);go_simp;(try with_reducible rfl)
           try simp only[Act.put,List.getElem_toArray,List.getElem_cons_zero,List.getElem_cons_succ,List.setIfInBounds_toArray,List.set_cons_zero,List.set_cons_succ]
           refine wpAnyH_ready (rs:=[22]) (by kernel_rfl) (by simp) ?_;refine AllReadyH.cons rfl (fun K hK=> ?_) AllReadyH.nil;go_simp;go_wp2_with (go_at_call 58;refine(HLV.out _ (by first|exact HB4.out.step HK.out.hb|exact HB4.out.step HKd.out.hb)).mono ?_;rintro e w7 ⟨hb7,la,lc,rfl,hl7⟩;rw[HLL.out];obtain⟨lb,lo,hla,-,ra,rc,hc0,hr0⟩:=HROW.out _ _ hl7;subst hla;rw[Nat.add_zero]at hc0;have HS7:=za (HHS.out ra rc _ hr0);have HB7:Hid (Below wr.heap.size wr w7):=za (by first|exact hb7|exact(zt _).step hb7);have HK7:=za (HK.out.below HB7.out);clear hb7 hl7 hr0);refine hK.out _ _ (HSK.out _ HB7.out) (fun hHeld=> ?_);clear hK K;refine wpAnyH_take (i:=23) (v:=?v23) rfl (by kernel_rfl) (by kernel_rfl) (by kernel_rfl) (fun _ _ _ h=>h) (Or.inl ⟨by rfl,?hy23⟩) (by assumption) ?rest23;case hy23=>intro w hSw;(try dsimp only at hSw);go_simp;(try with_reducible rfl)
           try simp only[Act.put,List.getElem_toArray,List.getElem_cons_zero,List.getElem_cons_succ,List.setIfInBounds_toArray,List.set_cons_zero,List.set_cons_succ]
           refine wpAnyH_ready (rs:=[24]) (by kernel_rfl) (by simp) ?_;refine AllReadyH.cons rfl (fun K hK=> ?_) AllReadyH.nil;go_simp;refine hK.out _ _ (HSK.out _ HB7.out) (fun hHeld=> ?_);clear hK K;refine wpAnyH_ready (rs:=[26]) (by kernel_rfl) (by simp) ?_;refine AllReadyH.cons rfl (fun K hK=> ?_) AllReadyH.nil;go_simp;go_wp2_with (go_at_call 85;refine HS7.out.mono ?_;rintro e w8 ⟨rfl,rfl⟩);refine hK.out _ _ (HSK.out _ HB7.out) (fun hHeld=> ?_);clear hK K;refine wpAnyH_take (i:=27) (v:=?v27) rfl (by kernel_rfl) (by kernel_rfl) (by kernel_rfl) (fun _ _ _ h=>h) (Or.inl ⟨by rfl,?hy27⟩) (by assumption) ?rest27;case hy27=>intro w hSw;(try dsimp only at hSw);go_simp;(try with_reducible rfl)
           try simp only[Act.put,List.getElem_toArray,List.getElem_cons_zero,List.getElem_cons_succ,List.setIfInBounds_toArray,List.set_cons_zero,List.set_cons_succ]
           refine wpAnyH_done (by kernel_rfl) ?_ _;go_wp2_with fail;go_meet;exact⟨by rw[HV.out],HK7⟩
         ·have d1:decide (-2-hx<u.args)=false:=yn h1
          have HV:Hid (b5=false):=za (by rw[HB5.out,d1];rfl);go_quiet (fail);go_wp2;go_meet;exact⟨by rw[HV.out],za (HK.out.below (Km (zG _ _) _))⟩
       case rest=>
       obtain⟨rfl,HK2⟩:=hcut;clear HB5 HK k0 k1 k2 k3 k4 k5 k6 v0 v1 v2 v3 v4 v5 v6 hh0
       cases b5 with
       |true=>
        have HV:=za (HNO.out (by rw[HHR.out];rfl));go_wp2;go_ret
        exact⟨by rw[HV.out];rfl,HB4.out.step HK2.out.hb⟩
       |false=>
        have HV:=za (HYES.out (by rw[HHR.out];rfl));go_wp2;go_roundg (n-(k+1));case measure=>omega
        case rel=>exact⟨k+1,by omega,rfl,by go_num,HK2,HV⟩
  ·obtain rfl:i=n:=by omega
   have ni:¬(i:Int)<u.slots:=by have:=HSN.out;omega
   have HV:Hid (res=true):=za (by rw[HRES.out,yL];exact fun k hk=>HQ.out k (yR.1 hk));go_wp2;go_ret;exact⟨by rw[HV.out];rfl,HB4.out.step HK.out.hb⟩
end Go.Proofs.YtgalekifgnecjaaGreat
