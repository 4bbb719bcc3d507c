/- The statement RegsWritesSaid holds, without any condition. -/
import Derived.Test.YtgalekifgnecjaaGreatY8
import Derived.Test.YtgalekifgnecjaaGreatZY
import Derived.Test.YtgalekifgnecjaaGreatL4
import Derived.BigQuiet
import Derived.OpenShut
import Derived.Test.YtgalekifgnecjaaGreatJ1
namespace Go.Proofs.YtgalekifgnecjaaGreat
open Go.Proofs.Tryz Go.RowKit
open Go.RowKit Go.Shelf
set_option maxHeartbeats 60000000
set_option maxRecDepth 100000
structure AJ(u v:zg)(k:Nat)(hs ats:List Int):Prop where
 chk:qS u v hs ats=0
 sl:v.slots=if (k:Int)<u.slots then(k:Int)else u.slots
 pl:zJ v=true
 tr:u.slots<=k->Xz v 33=0/\Xz v 34=0
 lc:v.code.length<=600
 lg:v.guards.length<=40
 lh:hs.length<=200
 la:ats.length<=600
 vb:∀y∈v.code,-9223372036854775808<=y.b/\y.b<=9223372036854775807
 hb:∀x∈hs,-9223372036854775808<=x/\x<=9223372036854775807
 eq:u.slots<=k->hs=yh u.slots.toNat
def P2(u:zg)(k:Nat)(w:World)(e:Ending)(w':World):Prop:=
 Below w.heap.size w w'/\∃(v:zg) (hs ats:List Int) (xa:Option Addr) (xc:Nat) (ya:Option Addr) (yc:Nat) (ha:Option Addr) (hc:Nat) (ta:Option Addr) (tc:Nat),e= .returned (.tuple #[vU v xa xc ya yc,.agg #[.slice ha hs.length hc,.slice ta ats.length tc],.int .i64 0]) /\
  jo w' v xa xc ya yc/\yC w' ha hs/\yC w' ta ats/\AJ u v k hs ats
theorem A6(u:zg)(k:Nat)(ca cc ga gc)(w:World)(hm:jo w u ca cc ga gc)(hw:zC u=true)(hc:u.code.length<=60)(hs:u.slots<=20)(hk:yd u<=k)(hk2:k<=200)
  (hb:∀y∈u.code,-9223372036854775808<=y.b/\y.b<=9223372036854775807):Calls prog 13 #[vU u ca cc ga gc,.int .i64 k] w (P2 u k w):=by
 have h1:=YY u;have ha:=zL hw;have hp:=zH hw;have hpl:=z8 hp;obtain⟨hc6,hcl⟩:=Mq hw hc hs k;by_cases hks:(k:Int)<u.slots
 ·refine(FU u k ca cc ga gc w hm hw (by omega) hk2 hks hk hc6 hcl).mono fun e w' ⟨h,xa,xc,ya,yc,ha',hc',ta,tc,he,hu,hh,ht⟩=>⟨h,_,_,_,xa,xc,ya,yc,ha',hc',ta,tc,he,hu,hh,ht,?_⟩
  have hI:=vk hw (k:Int);refine⟨I3 hw hk (by omega) hc6 hcl,by rw[zj hks];rfl,I4 hw hk2 hc6 hcl,fun h=>by omega,?_,?_,by rw[hI.len];omega,by rw[(ZZ k).2.1];omega,MC hw hk2 hcl hc6 hb,fun x hx=> ?_,fun h=>by omega⟩
  ·show((xM u k).code.map _).length<=600
   rw[ym];exact hc6
  ·show(u.guards.map _).length<=40
   rw[ym];exact hpl.2.2.1
  ·have:=LC hw hk2 hcl x hx
   omega
 ·refine(KZ u k ca cc ga gc w hm (by omega) (by omega) hw (by unfold yr;simp;omega) (by omega)).mono fun e w' ⟨h,xa,xc,ya,yc,vh,va,he,hu,hg,hh,ht⟩=> ?_
  obtain⟨a1,c1,e1,r1,l1,_⟩:=y9.rdB hu;obtain⟨a2,c2,e2,r2,l2,_⟩:=y9.rdB hg;injection e1 with e11 _ e12;injection e2 with e21 _ e22;subst e11;subst e12;subst e21;subst e22;obtain⟨a3,c3,rfl,_⟩:=hh.rd;obtain⟨a4,c4,rfl,_⟩:=ht.rd;refine⟨h,u,yh u.slots.toNat,yh u.code.length,xa,xc,ya,yc,a3,c3,a4,c4,he,⟨Jm.1 r1,V3.1 r2,l1,l2⟩,hh.rdR,ht.rdR,?_⟩;have hl:∀n,(yh n).length=n:=fun n=>by unfold yh;simp
  refine⟨Lz hw,by rw[zi hks],hp,fun _=>AQ hw,by omega,by omega,by rw[hl];omega,by rw[hl];omega,hb,fun x hx=> ?_,fun _=>rfl⟩;unfold yh at hx;obtain⟨i,hi,rfl⟩:=xI.1 hx;have:=yR.1 hi;show _<=(i:Int)/\(i:Int)<=_;omega
attribute [local go_sem] Oper.semAt_some
attribute [local irreducible] wpStill
def Gw(u:zg)(k:Int):Int:=if zC u=true/\yr k 1 200=true then(if k<yd u then 14 else 0)else 1
def ND:zg:=⟨⟨#[]⟩,⟨#[]⟩,0,0,0,[],[]⟩
def P3(u:zg)(k:Int)(w:World)(e:Ending)(w':World):Prop:=
 Below w.heap.size w w'/\∃(v:zg) (hs ats:List Int) (xa:Option Addr) (xc:Nat) (ya:Option Addr) (yc:Nat) (ha:Option Addr) (hc:Nat) (ta:Option Addr) (tc:Nat),e= .returned (.tuple #[vU v xa xc ya yc,.agg #[.slice ha hs.length hc,.slice ta ats.length tc],.int .i64 (Gw u k)]) /\
  (Gw u k≠0->v.code.length=0/\ats.length=0)/\(Gw u k=0->jo w' v xa xc ya yc/\yC w' ha hs/\yC w' ta ats/\AJ u v k.toNat hs ats)
theorem Im{u:zg}(h:Vd u=true):u.code.length<=610/\u.guards.length<=50/\(u.code.length<=60\/600<u.code.length)/\(u.slots<=20\/200<u.slots):=by
 unfold Vd at h;simp at h;omega
theorem FV(u:zg)(k:Int)(ca cc ga gc)(w:World)(hm:jo w u ca cc ga gc)(hf:Vd u=true)(hb:∀y∈u.code,-9223372036854775808<=y.b/\y.b<=9223372036854775807):Calls prog 13 #[vU u ca cc ga gc,.int .i64 k] w (P3 u k w):=by
 obtain⟨f1,f2,f3,f4⟩:=Im hf;by_cases h1:zC u=true/\yr k 1 200=true
 ·have hk:1<=k/\k<=200:=by have:=h1.2;unfold yr at this;simpa using this
  have hc6:=qA h1.1;have ha:=zL h1.1;by_cases h2:k<yd u
  ·have hle:=Lp h1.1
   have hE:Gw u k=14:=by unfold Gw;rw[zj h1,zj h2]
   refine(K1 u k ca cc ga gc w hm (by omega) (by omega) h1.1 h1.2 (by omega) h2).mono fun e w' ⟨he,hb⟩=>⟨hb,ND,[],[],none,0,none,0,none,0,none,0,?_,fun _=>⟨rfl,rfl⟩,fun e=>by rw[hE]at e;cases e⟩
   rw[he,hE];rfl
  ·have hE:Gw u k=0:=by unfold Gw;rw[zj h1,zi h2]
   obtain⟨n,rfl⟩:∃n:Nat,k=n:=⟨k.toNat,by omega⟩
   refine(A6 u n ca cc ga gc w hm h1.1 (by omega) (by omega) (by omega) (by omega) hb).mono fun e w' ⟨hb,v,hs,ats,xa,xc,ya,yc,ha',hc',ta,tc,he,m1,m2,m3,m4⟩=>⟨hb,v,hs,ats,xa,xc,ya,yc,ha',hc',ta,tc,?_,fun e=>absurd hE e,fun _=>⟨m1,m2,m3,?_⟩⟩
   ·rw[he,hE]
   ·rw[qQ];exact m4
 ·have hE:Gw u k=1:=by unfold Gw;rw[zi h1]
  refine(FX u k ca cc ga gc w hm (by omega) (by omega) h1).mono fun e w' ⟨he,hb⟩=>⟨hb,ND,[],[],none,0,none,0,none,0,none,0,?_,fun _=>⟨rfl,rfl⟩,fun e=>by rw[hE]at e;cases e⟩
  rw[he,hE];rfl
theorem Dn(u:zg)(ca cc ga gc)(w:World)(hm:jo w u ca cc ga gc)(hlc:u.code.length<=1000000)(hlg:u.guards.length<=1000000)(hab:∀x∈u.code,-9223372036854775808<=x.a/\x.a<=9223372036854775807):
  Calls prog 14 #[vU u ca cc ga gc] w (zV (Fw (.slice none 0 0) (if zC u=true then(yd u:Int)else 0) (if zC u=true then 0 else 1)) w):=by
 cases hw:zC u with
 |true=>exact OU u ca cc ga gc w hm hlc hlg hab hw
 |false=>exact Ek u ca cc ga gc w hm hlc hlg hab hw
structure Sj(u v:zg)(hs ats:List Int)(ca cc ga gc)(xa xc ya yc)(ha hc ta tc)(b5 b8:Nat)(XN XE:Int)(w wr:World):Prop where
 hb:Below w.heap.size w wr
 hu:wr.heap[w.heap.size]?=some (oU u ca cc ga gc)
 h5:wr.heap[b5]?=some (oU v xa xc ya yc)
 h6:wr.heap[b5+1]?=some (.cells #[.slice ha hs.length hc,.slice ta ats.length tc] 30)
 h8:wr.heap[b8]?=some (Df (.slice none 0 0) XN XE)
theorem Sj.below{u v:zg}{hs ats:List Int}{ca cc ga gc}{xa xc ya yc}{ha hc ta tc}{b5 b8:Nat}{XN XE:Int}{w wr w':World}(s:Sj u v hs ats ca cc ga gc xa xc ya yc ha hc ta tc b5 b8 XN XE w wr)(hb:Below wr.heap.size wr w'):Sj u v hs ats ca cc ga gc xa xc ya yc ha hc ta tc b5 b8 XN XE w w':=
 ⟨s.hb.step hb,zb hb s.hu,zb hb s.h5,zb hb s.h6,zb hb s.h8⟩
theorem Gv(u:zg)(k:Int)(ca cc ga gc)(w:World)(hm:jo w u ca cc ga gc)(hab:∀y∈u.code,(-9223372036854775808<=y.a/\y.a<=9223372036854775807)/\(-9223372036854775808<=y.b/\y.b<=9223372036854775807)):
  Calls prog 3 #[vU u ca cc ga gc,.int .i64 k] w (zV (.bool true) w):=by
 have HF1:=za (fun w=>U2 u ca cc ga gc w);have HM:=za hm;have HX1:=za (zo w (oU u ca cc ga gc) _ rfl);have HB1:=za (zd w (oU u ca cc ga gc));have HAB:=za hab;clear hm hab;go_enter func3,ntmps3;go_upto_region 1 with fail;obtain⟨w1,hw1⟩:∃w1,w1=w.alloc (oU u ca cc ga gc):=⟨_,rfl⟩
 rw[<-hw1]at HX1 HB1;rw[<-hw1];clear hw1;obtain⟨k0,k1,k2,k3,k4,k5,k6⟩:=zr HX1.out
 cases e1:Vd u with
 |false=>
  rw[e1]at HF1;clear e1
  go_wp2_with (first
   |(go_at_call 11;(with_reducible refine(HF1.out _).mono ?_);rintro e w2 ⟨rfl,hb⟩;have HB2:=za hb;clear hb)
   |(go_at_call 12;(with_reducible refine(jh _).mono ?_);rintro e w9 ⟨rfl,hb⟩;have HBZ:=za (HB1.out.step (HB2.out.step hb));clear hb))
  go_ret
  exact⟨rfl,HBZ.out⟩
 |true=>
 obtain⟨f1,f2,-,-⟩:=Im e1;have HRO:=za (fun W (hb:Below w.heap.size w W)=>FV u k ca cc ga gc W (HM.out.below hb) e1 (fun y hy=>(HAB.out y hy).2));have HLO:=za (fun W (hb:Below w.heap.size w W)=>Dn u ca cc ga gc W (HM.out.below hb) (by omega) (by omega) (fun y hy=>(HAB.out y hy).1));rw[e1]at HF1;clear e1;have HE:Hid (Gw u k=if zC u=true/\yr k 1 200=true then(if k<yd u then 14 else 0)else 1):=za rfl;obtain⟨XN,hXN⟩:∃x:Int,x=if zC u=true then(yd u:Int)else 0:=⟨_,rfl⟩
 obtain⟨XE,hXE⟩:∃x:Int,x=if zC u=true then 0 else 1:=⟨_,rfl⟩
 rw[<-hXN,<-hXE]at HLO;have HXN:=za hXN;have HXE:=za hXE;clear hXN hXE
 go_upto_region 4 with (first
  |(go_at_call 11;(with_reducible refine(HF1.out _).mono ?_);rintro e w2 ⟨rfl,hb⟩;have HB2:=za (HB1.out.step hb);have HX2:=za (zb hb HX1.out);obtain⟨j0,j1,j2,j3,j4,j5,j6⟩:=zr HX2.out;clear hb)
  |(go_at_call 13;(with_reducible refine(HRO.out _ HB2.out).mono ?_);rintro e w3 ⟨hb,v,hs,ats,xa,xc,ya,yc,ha,hc,ta,tc,rfl,hno,hyes⟩;have HB3:=za (HB2.out.step hb);have HX3:=za (zb hb HX2.out);have HNO:=za hno;have HYES:=za hyes;clear hb hno hyes))
 clear k0 k1 k2 k3 k4 k5 k6 j0 j1 j2 j3 j4 j5 j6 HRO HF1 HX1 HX2 HB1 HB2;generalize Gw u k=E at *;obtain⟨b5,hb5⟩:∃b,b=w3.heap.size:=⟨_,rfl⟩
 obtain⟨w4,hw4⟩:∃W,W=(w3.alloc (oU v xa xc ya yc)).alloc (.cells #[.slice ha hs.length hc,.slice ta ats.length tc] 30):=⟨_,rfl⟩
 have HB4:Hid (Below w3.heap.size w3 w4):=za (by rw[hw4];exact(zd _ _).step (zd _ _));have HX5:Hid (w4.heap[b5]?=some (oU v xa xc ya yc)):=za (by rw[hw4,hb5];exact zb (zd _ _) (zo _ _ _ rfl));have HX6:Hid (w4.heap[b5+1]?=some (.cells #[.slice ha hs.length hc,.slice ta ats.length tc] 30)):=za (by rw[hw4,hb5];exact zo _ _ _ (by simp));rw[<-hb5,<-hw4];clear hb5 hw4;have HBW:=za (HB3.out.step HB4.out);have HXU:=za (zb HB4.out HX3.out);obtain⟨k0,k1,k2,k3,k4,k5,k6⟩:=zr HXU.out;go_upto_region 5 with (go_at_call 14;(with_reducible refine(HLO.out _ HBW.out).mono ?_);rintro e w5 ⟨rfl,hb⟩;have HB5:=za hb;clear hb);clear k0 k1 k2 k3 k4 k5 k6 HLO;obtain⟨b8,hb8⟩:∃b,b=w5.heap.size:=⟨_,rfl⟩
 obtain⟨w6,hw6⟩:∃W,W=w5.alloc (Df (.slice none 0 0) XN XE):=⟨_,rfl⟩
 have HK:Hid (Sj u v hs ats ca cc ga gc xa xc ya yc ha hc ta tc b5 b8 XN XE w w6):=za (by
  rw[hw6,hb8]
  exact⟨(HBW.out.step HB5.out).step (zd _ _),zb (zd _ _) (zb HB5.out HXU.out),zb (zd _ _) (zb HB5.out HX5.out),zb (zd _ _) (zb HB5.out HX6.out),zo _ _ _ rfl⟩)
 have HB36:Hid (Below w3.heap.size w3 w6):=za (by rw[hw6];exact(HB4.out.step HB5.out).step (zd _ _));rw[<-hb8,<-hw6];clear hb8 hw6 HXU HX5 HX6 HX3 HB3 HB4 HB5 HBW;obtain⟨k0,k1,k2,k3,k4,k5,k6⟩:=zr HK.out.hu;obtain⟨v0,v1,v2,v3,v4,v5,v6⟩:=zr HK.out.h5;obtain⟨h0,h1,-,-⟩:=qe HK.out.h6;obtain⟨-,x1,x2⟩:=KO HK.out.h8
 cases hw:zC u with
 |false=>
  obtain rfl:XE=1:=HXE.out.trans (by rw[hw];rfl);obtain rfl:E=1:=HE.out.trans (zi (fun e=>by rw[hw]at e;cases e.1));clear hw;obtain⟨n5,n6⟩:=HNO.out (by decide);have d5:((v.code.length:Int)==0)=true:=by rw[n5];rfl
  have d6:((ats.length:Int)==0)=true:=by rw[n6];rfl
  clear n5 n6;go_wp2_with (go_at_call 12;(with_reducible refine(jh _).mono ?_);rintro e w9 ⟨rfl,hb⟩;have HK9:=za (HK.out.below hb);obtain⟨i0,i1,i2,i3,i4,i5,i6⟩:=zr HK9.out.hu;obtain⟨j0,j1,j2,j3,j4,j5,j6⟩:=zr HK9.out.h5;obtain⟨g0,g1,-,-⟩:=qe HK9.out.h6;obtain⟨-,y1,y2⟩:=KO HK9.out.h8;clear hb);go_ret
  exact⟨rfl,HK9.out.hb⟩
 |true=>
 obtain rfl:XE=0:=HXE.out.trans (by rw[hw];rfl);have hXN:XN=yd u:=HXN.out.trans (zj hw);by_cases hk1:k<1
 ·obtain rfl:E=1:=HE.out.trans (zi (fun e=>by have h9:=e.2;unfold yr at h9;simp at h9;omega))
  clear hw hXN;obtain⟨n5,n6⟩:=HNO.out (by decide);have d5:((v.code.length:Int)==0)=true:=by rw[n5];rfl
  have d6:((ats.length:Int)==0)=true:=by rw[n6];rfl
  clear n5 n6;go_wp2_with (go_at_call 12;(with_reducible refine(jh _).mono ?_);rintro e w9 ⟨rfl,hb⟩;have HK9:=za (HK.out.below hb);obtain⟨i0,i1,i2,i3,i4,i5,i6⟩:=zr HK9.out.hu;obtain⟨j0,j1,j2,j3,j4,j5,j6⟩:=zr HK9.out.h5;obtain⟨g0,g1,-,-⟩:=qe HK9.out.h6;obtain⟨-,y1,y2⟩:=KO HK9.out.h8;clear hb);go_ret;exact⟨rfl,HK9.out.hb⟩
 by_cases hk2:200<k
 ·obtain rfl:E=1:=HE.out.trans (zi (fun e=>by have h9:=e.2;unfold yr at h9;simp at h9;omega))
  clear hw hXN;obtain⟨n5,n6⟩:=HNO.out (by decide);have d5:((v.code.length:Int)==0)=true:=by rw[n5];rfl
  have d6:((ats.length:Int)==0)=true:=by rw[n6];rfl
  clear n5 n6;go_wp2_with (go_at_call 12;(with_reducible refine(jh _).mono ?_);rintro e w9 ⟨rfl,hb⟩;have HK9:=za (HK.out.below hb);obtain⟨i0,i1,i2,i3,i4,i5,i6⟩:=zr HK9.out.hu;obtain⟨j0,j1,j2,j3,j4,j5,j6⟩:=zr HK9.out.h5;obtain⟨g0,g1,-,-⟩:=qe HK9.out.h6;obtain⟨-,y1,y2⟩:=KO HK9.out.h8;clear hb);go_ret;exact⟨rfl,HK9.out.hb⟩
 replace HE:=za (HE.out.trans (zj ⟨hw,by unfold yr;simp;omega⟩));rw[<-hXN]at HE;have d2:decide ((200:Int)<k)=false:=yn hk2;by_cases hk3:k<XN
 ·obtain rfl:E=14:=HE.out.trans (zj hk3)
  clear hw hXN;obtain⟨n5,n6⟩:=HNO.out (by decide);have d5:((v.code.length:Int)==0)=true:=by rw[n5];rfl
  have d6:((ats.length:Int)==0)=true:=by rw[n6];rfl
  clear n5 n6;go_wp2_with (go_at_call 12;(with_reducible refine(jh _).mono ?_);rintro e w9 ⟨rfl,hb⟩;have HK9:=za (HK.out.below hb);obtain⟨i0,i1,i2,i3,i4,i5,i6⟩:=zr HK9.out.hu;obtain⟨j0,j1,j2,j3,j4,j5,j6⟩:=zr HK9.out.h5;obtain⟨g0,g1,-,-⟩:=qe HK9.out.h6;obtain⟨-,y1,y2⟩:=KO HK9.out.h8;clear hb);go_ret;exact⟨rfl,HK9.out.hb⟩
 obtain rfl:E=0:=HE.out.trans (zi hk3);obtain⟨mv,mh,mt,hfine⟩:=HYES.out rfl;have HMV:=za mv;have HMH:=za mh;have HMT:=za mt;have HFI:=za hfine;obtain⟨n,rfl⟩:∃n:Nat,k=n:=⟨k.toNat,by omega⟩
 rw[qQ]at HFI;have hsl:=HFI.out.sl
 have HCK:Hid (∀W (_:Below w3.heap.size w3 W),Below w.heap.size w W->Calls prog 15 #[vU u ca cc ga gc,vU v xa xc ya yc,.agg #[.slice ha hs.length hc,.slice ta ats.length tc]] W (zV (.int .i64 0) W)):=za (fun W hb hbw=>by
  have h:=VH u v hs ats ca cc ga gc xa xc ya yc ha hc ta tc W (HM.out.below hbw) (HMV.out.below hb) (HMH.out.below hb) (HMT.out.below hb) (by omega) (by omega) (fun y hy=>(HAB.out y hy).1) (by have:=HFI.out.lc;omega) (by have:=HFI.out.lg;omega) HFI.out.vb HFI.out.hb;rw[AB,HFI.out.chk]at h
  exact h)
 have HTR:Hid ((n:Int)<u.slots\/∀W (_:Below w3.heap.size w3 W),Calls prog 16 #[vU v xa xc ya yc] W (zV (.tuple #[.int .i64 0,.int .i64 0,.int .i64 0]) W)):=za (by
  by_cases h9:(n:Int)<u.slots
  ·exact .inl h9
  ·refine .inr (fun W hb=> ?_)
   have h:=AT v xa xc ya yc W (HMV.out.below hb) (by have:=HFI.out.lc;omega) (by have:=HFI.out.lg;omega);obtain⟨t1,t2⟩:=HFI.out.tr (by omega);rw[HFI.out.pl,zj rfl,zj rfl,zj rfl,t1,t2]at h
   exact h)
 have HEQ:=za HFI.out.eq;have hsg:=zL hw;clear hw hXN mv mh mt hfine HNO HYES HE;go_upto_region 13 with fail;have c1:¬(n:Int)<v.slots:=by split at hsl<;>omega
 have d1:decide ((n:Int)<v.slots)=false:=yn c1;by_cases hks:(n:Int)<u.slots
 ·clear hsl HTR HEQ
  go_wp2_with (first
   |(go_at_call 15;(with_reducible refine(HCK.out _ HB36.out HK.out.hb).mono ?_);rintro e w7 ⟨rfl,hb⟩;have HK7:=za (HK.out.below hb);obtain⟨l0,l1,l2,l3,l4,l5,l6⟩:=zr HK7.out.hu;clear hb)
   |(go_at_call 12;(with_reducible refine(jh _).mono ?_);rintro e w9 ⟨rfl,hb⟩;have HK9:=za (HK7.out.below hb);clear hb))
  go_ret;exact⟨rfl,HK9.out.hb⟩
 rw[zi hks]at hsl;have HSL:=za hsl;have heq:=HEQ.out (by omega);obtain⟨m,hm⟩:∃m:Nat,u.slots.toNat=m:=⟨_,rfl⟩
 have HSM:Hid (u.slots=(m:Int)):=za (by omega);have hm200:m<=200:=by omega
 rw[hm]at heq;have hlen:hs.length=m:=by rw[heq];unfold yh;simp
 have HGT:Hid (∀i (hi:i<hs.length),hs[i]=(i:Int)):=za (fun i hi=>by
  have h0:i<m:=by rw[hlen]at hi;exact hi
  have h1:hs[i]?=some (i:Int):=by
   rw[heq];unfold yh;rw[List.getElem?_map,List.getElem?_range h0];rfl
  rw[q9 hi]at h1
  exact Option.some.inj h1)
 have HLN:=za hlen;have hnl:((hs.length:Int) !=u.slots)=false:=by rw[hlen,HSM.out];simp
 have HT2:=za (HTR.out.resolve_left hks);clear hm hlen hsl HEQ HTR heq;go_upto_region 19 with (go_at_call 15;(with_reducible refine(HCK.out _ HB36.out HK.out.hb).mono ?_);rintro e w7 ⟨rfl,hb⟩;have HK7:=za (HK.out.below hb);have HB37:=za (HB36.out.step hb);obtain⟨l0,l1,l2,l3,l4,l5,l6⟩:=zr HK7.out.hu;obtain⟨g0,g1,-,-⟩:=qe HK7.out.h6;clear hb);go_wp2;go_loopg [9] m (fun gh s9 wr=>∃i:Nat,i<=m/\gh=m-i/\s9= .int .i64 i/\Hid (w7=wr));case atStart=>exact⟨0,zE _,rfl,rfl,za rfl⟩
 case round=>
  obtain⟨i,hi,rfl,rfl,HW⟩:=hrel;obtain rfl:=HW.out;by_cases him:i<m
  ·have nim:(i:Int)<u.slots:=by have:=HSM.out;omega
   have hif:i<hs.length:=by rw[HLN.out];exact him
   have nif:(i:Int)<(hs.length:Int):=by omega
   obtain⟨b9,o9,e9,hl9,z0⟩:=(HMH.out.below HB37.out) i hif;subst e9;rw[HGT.out i hif]at z0;have dii:((i:Int) !=(i:Int))=false:=by simp
   go_wp2;go_roundg (m-(i+1));case measure=>omega
   case rel=>exact⟨i+1,by omega,rfl,by go_num,za rfl⟩
  ·obtain rfl:i=m:=by omega
   have nim:¬(i:Int)<u.slots:=by have:=HSM.out;omega
   obtain⟨j0,j1,j2,j3,j4,j5,j6⟩:=zr HK7.out.h5;have dss:(v.slots==u.slots)=true:=by rw[HSL.out];simp
   go_wp2_with (first
    |(go_at_call 16;(with_reducible refine(HT2.out _ HB37.out).mono ?_);rintro e w8 ⟨rfl,hb⟩;have HK8:=za (HK7.out.below hb);clear hb)
    |(go_at_call 12;(with_reducible refine(jh _).mono ?_);rintro e w9 ⟨rfl,hb⟩;have HK9:=za (HK8.out.below hb);obtain⟨q0,q1,q2,q3,q4,q5,q6⟩:=zr HK9.out.hu;obtain⟨p0,p1,p2,p3,p4,p5,p6⟩:=zr HK9.out.h5;clear hb))
   go_ret;exact⟨rfl,HK9.out.hb⟩
open Go.ChangeShapes Go.WideShapes Go.ChangeAt Go.RowKit
theorem Px:prog.readableRec 3=true:=by kernel_rfl
theorem RE:3<prog.types.size:=Qi (by kernel_rfl)
theorem Jk(os:Os)(started:os.Started)(H:Type)(enc:TypeId×Value->H):
  ReturnsInHanded {} Tryz.checked os 3 .any (Rows.regsWritesSpec.pre6 enc prog Tryz.f3 Rows.regsWritesRow.domain false) (Rows.regsWritesSpec.post enc prog Tryz.f3 false true false false):=by
 refine returnsInHanded_of_change (C:=Tryz.checked) Tryz.own started (by kernel_rfl) func3
  (ChangeSpec.witness6 (enc:=enc) (C:=Tryz.checked) false ⟨#[],#[.agg #[.string ⟨#[]⟩,.string ⟨#[]⟩,.int .i64 0,.int .i64 0,.int .i64 0,.slice none 0 0,.slice none 0 0],.int .i64 0],[]⟩ 8 (by kernel_rfl) (by kernel_rfl) (by kernel_rfl) (by kernel_rfl)) ?_
 intro W base args ds gs before hval0 hW hcnd _;have hval:∀(j:Nat) t v,Tryz.f3.params[j]?=some t->args[j]?=some v->Value.okWide prog W .any base t v:=hval0;have hW':=hW;obtain⟨p,q,hA0,hV,rfl,_,_⟩:=hW;have hA:DataW.TrodAll enc prog W 0 (fun _=>true) true Tryz.f3.params.toList args.toList ds p:=hA0;rw[Tryz.params3]at hA hval;obtain⟨args⟩:=args;obtain⟨v0,vs0,d0,ds0,p0,q0,rfl,rfl,rfl,h0,r0⟩:=trodAll_cons hA;obtain⟨v1,vs1,d1,ds1,p1,q1,rfl,rfl,rfl,h1,r1⟩:=trodAll_cons r0;obtain⟨rfl,rfl,rfl⟩:=trodAll_nil r1;obtain⟨rfl,rfl⟩:=trodVars_none hV;obtain⟨u,ca,cc,ga,gc,rfl,mu,hub⟩:=QS (hval 0 25 v0 rfl rfl) h0;obtain⟨b,rfl,rfl,rfl,w1⟩:=open_int Tryz.underlying3 (hval 1 3 v1 rfl rfl) h1;have hlt:∀x∈p0++([]++ []),x.block<W.heap.size:=fun x hx=>hW'.lt x (by simpa using hx)
 refine(Gv u b ca cc ga gc W mu hub).mono fun e W' ⟨he,hb⟩=> ?_
 subst he;refine⟨_,rfl,_,_,_,[],p0++([]++ []),[],hW',trodAll_mk1 (shut_bool Tryz.underlying4 true),?_,rfl,hb.frame _,fun h=>by cases h⟩;exact(trodAll_cons_mk (Oo I5 FL h0 hb (fun x hx=>hlt x (by simp[hx]))) (trodAll_cons_mk (Oo Px RE h1 hb (fun x hx=>by cases hx)) trodAll_mk0))
theorem regsWrites_holds:Rows.RegsWritesSaid:=
 OpenClaim.holds_of_wide 3 Tryz.f3 rfl rfl rfl rfl rfl rfl rfl ⟨rfl,rfl,rfl,rfl,rfl⟩ rfl rfl rfl rfl rfl (by kernel_rfl) func3 (by kernel_rfl)
  (Qi (by kernel_rfl)) (by unfold Func.isWrapper;first|(rw[zj (by decide +kernel)];kernel_rfl)|(rw[zi (by decide +kernel)];exact⟨rfl,rfl⟩))
  (fun os started H enc _=>Jk os started H enc)
#print axioms regsWrites_holds
end Go.Proofs.YtgalekifgnecjaaGreat
