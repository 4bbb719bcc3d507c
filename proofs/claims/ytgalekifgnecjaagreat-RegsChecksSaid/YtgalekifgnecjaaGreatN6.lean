/- Press of package regs: the walk -/
import Derived.Test.YtgalekifgnecjaaGreatN1
import Derived.Sort.CutIn
import Derived.Deep.RegionWith
namespace Go.Proofs.YtgalekifgnecjaaGreat
open Tryz Go.RowKit
open Go.RowKit Go.Shelf
set_option maxHeartbeats 8000000
set_option maxRecDepth 100000
attribute [local go_sem] Oper.semAt_some
theorem A_(u:zg)(ca cc ga gc)(w:World)(hm:jo w u ca cc ga gc)(hlc:u.code.length<=1000000)(hlg:u.guards.length<=1000000)(hw:zC u=true):
  Calls prog 26 #[vU u ca cc ga gc] w (zV (.tuple #[.int .i64 (F5 u),.int .i64 0]) w):=by
 have hn6:=qA hw;have HM:=za hm;clear hm;have HW:=za (fun w' (hb:Below w.heap.size w w')=>qv u ca cc ga gc w' (HM.out.below hb) hlc hlg);rw[hw]at HW;have HFO:=za (fun w' (hb:Below w.heap.size w w')=>Xn u ca cc ga gc w' (HM.out.below hb) hw);have HX1:=za (zo w (oU u ca cc ga gc) _ rfl);have HB:=za (zd w (oU u ca cc ga gc));go_enter func26,ntmps26;go_upto_region 1 with fail;obtain⟨w1,hw1⟩:∃w1,w1=w.alloc (oU u ca cc ga gc):=⟨_,rfl⟩
 rw[<-hw1]at HX1 HB;rw[<-hw1];clear hw1;obtain⟨k0,k1,k2,k3,k4,k5,k6⟩:=zr HX1.out
 go_upto_region 4 with (first
  |(go_at_call 42;(with_reducible refine(HW.out _ HB.out).mono ?_);rintro e w2 ⟨rfl,hb⟩;obtain⟨j0,j1,j2,j3,j4,j5,j6⟩:=zr (zb hb HX1.out);have HX2:=za (zb hb HX1.out);have HB2:=za (HB.out.step hb);clear hb)
  |(go_at_call 48;(with_reducible refine(HFO.out _ HB2.out).mono ?_);rintro e w3 ⟨hb,v3,rfl,ho⟩;obtain⟨va,vc,rfl,hrl⟩:=ho.rd;have HX3:=za (zb hb HX2.out);have HB3:=za (HB2.out.step hb);have HL3:=za hrl;clear hb ho hrl))
 clear k0 k1 k2 k3 k4 k5 k6 j0 j1 j2 j3 j4 j5 j6;obtain⟨bf,hbf⟩:∃b,b=w3.heap.size:=⟨_,rfl⟩
 obtain⟨wa,hwa⟩:∃wa,wa=w3.alloc (Dg u ca cc ga gc (.slice va (zf u).length vc)):=⟨_,rfl⟩
 have HFA:Hid (wa.heap[bf]?=some (Dg u ca cc ga gc (.slice va (zf u).length vc))):=za (by rw[hwa];exact zo _ _ _ hbf);have HXA:Hid (wa.heap[w.heap.size]?=some (oU u ca cc ga gc)):=za (by rw[hwa];exact zb (zd _ _) HX3.out);have HBA:Hid (Below w.heap.size w wa):=za (by rw[hwa];exact HB3.out.step (zd _ _));have HLA:Hid (QC wa va (zf u)):=za (by rw[hwa];exact HL3.out.below (zd _ _));rw[<-hbf,<-hwa];clear hwa hbf HX1 HB HX2 HB2 HX3 HB3 HL3 HW HFO;have HLEN:Hid ((zf u).length=u.code.length):=za (yq u).len;have HBY:=za (fun t (ht:t<u.code.length) w' (hb:Below w.heap.size w w')=>Xr u t ht hn6 ca cc ga gc va (zf u).length vc w' (HM.out.below hb).rc);have HND:=za (fun t (ht:t<u.code.length) (pa:Option Addr) (pc:Nat) (w':World) (hb:Below wa.heap.size wa w') (hr:yC w' pa (yU u t))=>YC u ca cc ga gc (zf u) va vc (yU u t) pa pc w' (HLA.out.below hb) hr (by rw[HLEN.out];exact Zm (zH hw) ht) (by have:=Zl u t;omega) (qJ hw));obtain⟨q0,q1,q2,q3,q4,q5,q6⟩:=zr HXA.out;go_upto_region 6 with fail;clear q0 q1 q2 q3 q4 q5 q6;go_loopg [5,18] u.code.length (fun gh s5 s18 wr=>∃t:Nat,t<=u.code.length/\gh=u.code.length-t/\s18= .int .i64 t/\s5= .int .i64 (Xb u t)/\Hid (Below wa.heap.size wa wr));case atStart=>exact⟨0,zE _,rfl,rfl,rfl,za (zG _ _)⟩
 case round=>
  obtain⟨t,ht,rfl,rfl,rfl,HQ⟩:=hrel;have HBR:=za (HBA.out.trans (HQ.out.mono HBA.out.size));by_cases hlt:t<u.code.length
  ·obtain⟨bc,oc,hca,_,c0,c1,c2,c3⟩:=(HM.out.rc.below HBR.out) t hlt
   subst hca;have nt:(t:Int)<(u.code.length:Int):=by omega
   go_upto_region 8 with fail;obtain⟨wx,hwx⟩:∃wx,wx=wr.alloc (.cells #[.int .i64 u.code[t].op,.int .i64 u.code[t].a,.int .i64 u.code[t].b,.int .i64 u.code[t].c] 85):=⟨_,rfl⟩
   obtain⟨bx,hbx⟩:∃b,b=wr.heap.size:=⟨_,rfl⟩
   have HXX:Hid (wx.heap[bx]?=some (.cells #[.int .i64 u.code[t].op,.int .i64 u.code[t].a,.int .i64 u.code[t].b,.int .i64 u.code[t].c] 85)):=za (by rw[hwx];exact zo _ _ _ hbx);have HQX:Hid (Below wa.heap.size wa wx):=za (by rw[hwx];exact HQ.out.step (zd _ _));have HBX:Hid (Below w.heap.size w wx):=za (by rw[hwx];exact HBR.out.step (zd _ _));rw[<-hwx,<-hbx];clear hwx hbx c0 c1 c2 c3;have HFX:=za (zb HQX.out HFA.out);have HNL:=za (YV (zf u) 200 (qJ hw) (yU u t));have HNB:=za (Zl u t);go_cut [8]from 23 to 27 (fun s8 wy=>zu wy wx.heap.size s8 (qV (zf u) (yU u t))/\Hid (Below wx.heap.size wx wy))
   case first=>
    have HFXd:Hid (wx.drew.heap[bf]?=some (Dg u (some ⟨bc,oc,none⟩) cc ga gc (.slice va (zf u).length vc))):=HFX;obtain⟨k0,k1,k2,k3,k4,k5,k6,k7⟩:=VX HFX.out;have HQXd:Hid (Below wa.heap.size wa wx.drew):=za (HQX.out.step (zt _));have HBXd:Hid (Below w.heap.size w wx.drew):=za (HBX.out.step (zt _))
    go_region_with (first
     |(go_at_call 73;(with_reducible refine(HBY.out t hlt _ HBXd.out).mono ?_);rintro e w7 ⟨hb,v7,rfl,ho⟩;obtain⟨pa,pc,rfl,hrp⟩:=ho.rd;obtain⟨j0,j1,j2,j3,j4,j5,j6,j7⟩:=VX (zb hb HFXd.out);have HB7:=za hb;have HR7:=za hrp;clear hb ho hrp)
     |(go_at_call 72;(with_reducible refine(HND.out t hlt pa pc _ (HQXd.out.step HB7.out) HR7.out).mono ?_);rintro e w8 ⟨hb,v8,rfl,ho8⟩;have HB8:=za hb;have HO8:=za (zu.mono ho8 HB7.out.size);clear hb ho8))
    all_goals (go_wp2_with fail;go_meet;exact⟨HO8.out,za (((zt wx).step HB7.out).step HB8.out)⟩)
   case rest=>
    obtain⟨hso,HY⟩:=hcut;have HO:=za hso;clear hso;obtain⟨b0,b1,b2,b3⟩:=zX (zb HY.out HXX.out);have HQY:=za (HQX.out.step HY.out);obtain⟨sa,sc,rfl,_⟩:=HO.out.rd;have hlt2:t<(zf u).length:=by rw[HLEN.out];exact hlt
    obtain⟨b4,off4,ai,ci,rfl,_,hc4,_⟩:=HLA.out t hlt2;have HC4:=za (fun wz (hb:Below wa.heap.size wa wz)=>zK hb hc4);have HC7:=za (fun wz (hb:Below wa.heap.size wa wz)=>(show wz.cell? ⟨bf,7,none⟩=some (.slice (some ⟨b4,off4,none⟩) (zf u).length vc)from(zA _ _ 7 _ _ _ (zb hb HFA.out)).trans rfl));have HWR:=za (fun wz=>qz u.code[t] wz)
    have HPT:Hid (Xb u (t+1)=max (max (Xb u t) (zf u)[t].length) (if 0<=zc u.code[t]then yG (qV (zf u) (yU u t)) [zc u.code[t]]else qV (zf u) (yU u t)).length):=za (by
     show max (max (Xb u t) ((zf u).getD t []).length) (U7 u t).length=_;unfold U7
     rw[zk hlt,zk hlt2])
    have nlt:(t:Int)<((zf u).length:Int):=by omega
    have HAD:=za (fun(wz:World) (pa:Nat) (x:Int) (hb:Below wc.heap.size wc wz) (hr:yC wz (some ⟨pa,0,none⟩) [x]) (hp:wc.heap.size<=pa)=>U_ _ _ (qV (zf u) (yU u t)) x pa wz (zu.later HO.out hb) hr (by have h1:=HNL.out;have h2:=HNB.out;omega) (V6 HO.out hp) (yP HY.out.size hb.size));have HOB:=za (zy HO.out);clear hc4;generalize u.code[t]=y at *;generalize zc y=wi at *;generalize qV (zf u) (yU u t)=N at *;by_cases hwi:(0:Int)<=wi
    case' pos=>
     rw[zj hwi]at HPT
     go_upto_region 12 with (first
      |(go_at_call 71;(with_reducible refine(HWR.out _).mono ?_);rintro e w7 ⟨rfl,hb⟩;have HB7:=za hb;have hsz:=hb.size;clear hb)
      |(go_at_call 74;(with_reducible refine(HAD.out _ _ _ (HB7.out.step (zd _ _)) (yJ _ _ _) hsz).mono ?_);rintro e w9 ⟨v9,rfl,ho9,hg9,_⟩;have HO9:=za ho9;have HG9:=za hg9;clear ho9 hg9))
     obtain⟨da,dc,rfl,_⟩:=HO9.out.rd;have HQ9:Hid (Below wa.heap.size wa w9):=za (((HQY.out.step HB7.out).step (zd _ _)).grown HG9.out (by have h1:=(HQY.out.step HB7.out).size;simp;omega) (fun r e=>by have h1:=HOB.out r e;have h2:=HQX.out.size;omega));generalize yG N [wi]=M at *
    case' neg=>
     rw[zi hwi]at HPT
     go_upto_region 12 with (first
      |(go_at_call 71;(with_reducible refine(HWR.out _).mono ?_);rintro e w9 ⟨rfl,hb⟩;have HQ9:=za (HQY.out.step hb);clear hb))
     generalize N=M at *
    all_goals
     have c4:=HC4.out _ HQ9.out;have c7:=HC7.out _ HQ9.out;generalize (zf u)[t].length=lb at *;generalize Xb u t=pa0 at *;have HR:=HPT;rcases Nat.lt_or_ge pa0 lb with h1|h1
     ·have n1:(pa0:Int)<(lb:Int):=by omega
      rcases Nat.lt_or_ge lb M.length with h2|h2
      ·have n2:(lb:Int)<(M.length:Int):=by omega
       go_wp2
       all_goals go_roundg (u.code.length-(t+1))
       all_goals first
        |omega
        |exact⟨t+1,by omega,rfl,by go_num,by rw[HPT.out];congr 1;omega,HQ9⟩
      ·have n2:¬(lb:Int)<(M.length:Int):=by omega
       go_wp2
       all_goals go_roundg (u.code.length-(t+1))
       all_goals first
        |omega
        |exact⟨t+1,by omega,rfl,by go_num,by rw[HPT.out];congr 1;omega,HQ9⟩
     ·have n1:¬(pa0:Int)<(lb:Int):=by omega
      rcases Nat.lt_or_ge pa0 M.length with h2|h2
      ·have n2:(pa0:Int)<(M.length:Int):=by omega
       go_wp2
       all_goals go_roundg (u.code.length-(t+1))
       all_goals first
        |omega
        |exact⟨t+1,by omega,rfl,by go_num,by rw[HPT.out];congr 1;omega,HQ9⟩
      ·have n2:¬(pa0:Int)<(M.length:Int):=by omega
       go_wp2
       all_goals go_roundg (u.code.length-(t+1))
       all_goals first
        |omega
        |exact⟨t+1,by omega,rfl,by go_num,by rw[HPT.out];congr 1;omega,HQ9⟩
  ·obtain rfl:t=u.code.length:=by omega
   have nt:¬(u.code.length:Int)<(u.code.length:Int):=by omega
   go_wp2
   go_ret2
   exact⟨rfl,HBR.out⟩
def Xz(u:zg)(n:Int):Nat:=(u.code.filter (ID n)).length
end Go.Proofs.YtgalekifgnecjaaGreat
