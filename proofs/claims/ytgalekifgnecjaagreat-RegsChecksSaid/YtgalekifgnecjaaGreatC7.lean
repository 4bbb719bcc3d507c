/- walk and Reach of package core: how long what they return is -/
import Derived.Test.YtgalekifgnecjaaGreatC5
import Derived.Deep.OwnRows
import Derived.Sort.CutIn
namespace Go.Proofs.YtgalekifgnecjaaGreat
open Tryz Go.RowKit Go.Shelf
set_option maxHeartbeats 4000000
set_option maxRecDepth 100000
attribute [local go_sem] Oper.semAt_some
theorem NG:(prog.info? 4).map (fun i=>(i.zero,i.size,i.bytes))=some (some (.bool false),1,1):=by kernel_rfl
theorem Nt(w:World)(n:Nat):BT (w.alloc (.cells (madeCells #[.bool false] n) 4)) w.heap.size (List.replicate n false):=by
 refine⟨_,zo _ _ _ rfl,fun i hi=> ?_⟩;have hi':i<n:=by simpa using hi
 simp[madeCells,hi',Nat.mod_one]
theorem Mb(w:World)(n:Nat):BT (w.alloc (.cells ((madeCells #[.bool false] n).setIfInBounds 0 (.bool true)) 4)) w.heap.size ((List.replicate n false).set 0 true):=by
 refine⟨_,zo _ _ _ rfl,fun i hi=> ?_⟩;have hi':i<n:=by simpa using hi
 rw[Array.getElem?_setIfInBounds,List.getElem_set];by_cases e:0=i
 ·subst e
  simp[madeCells,hi']
 ·simp[madeCells,hi',Nat.mod_one,e]
theorem FI{n:Nat}(h:0<n):((List.replicate n false).set 0 true).length=n/\OM ((List.replicate n false).set 0 true)+1=n:=by
 refine⟨by simp,?_⟩;have hl:0<(List.replicate n false).length:=by simpa using h
 have:=OL (d:=List.replicate n false) hl (by simp);rw[this];unfold OM;rw[List.countP_replicate];simp
def P6(n:Nat)(w:World)(e:Ending)(w':World):Prop:=Below w.heap.size w w'/\∃g,e= .returned (.slice (some ⟨g,0,none⟩) n n)
theorem FJ{n:Nat}{tmps:Array Value}{R:Ending->World->Prop}{Ds:List Nat}{w W:World}{b4:Nat}{r0:Option Addr}{l c:Nat}(h4:tmps.getD 4 undef= .pointer (some ⟨b4,0,none⟩))(hb:Below w.heap.size w W)
  (hds:∀D,D∈Ds->w.heap.size<=D/\W.heap[D]?=some (.deferred (some []))) (nd:Ds.Nodup) (c4:W.cell? ⟨b4,0,none⟩=some (.slice r0 l c))
  (hR:∀W',Below w.heap.size w W'->R (.returned (.slice r0 l c)) W'):LeavesInM Fence.wide n prog Tryz.f199 tmps R (Ds.map QI) .returning W:=by
 refine Xf Ds W hb hds nd (fun W' hk hb'=>⟨_,?_,hR W' hb'⟩);have d4:=hk.cell (fun h=>h.elim) c4;simp only[Array.getD_eq_getD_getElem?]at h4;simp[results,Tryz.results199,h4,d4,go_sem]
theorem SE(a b c:Int)(w:World):Calls prog 200 #[.int .i64 a,.int .i64 b,.int .i64 c] w (Q5 (.bool true) w):=by
 go_enter func200,ntmps200;go_wp2;go_ret;exact⟨rfl,rfl⟩
theorem Fv(u:zg)(ca cc ga gc)(w:World)(hm:jo w u ca cc ga gc)(h1:0<u.code.length)(hlen:u.code.length<=1000000)(hlg:u.guards.length<=1000000)(hin:∀t,t<u.code.length->∀x,x∈xp u t->0<=x.1/\x.1<u.code.length):
  CallsIn Fence.wide 20 prog 199 #[vU u ca cc ga gc,.func (.func 200) #[] #[]] w (P6 u.code.length w):=by
 have HM:=za hm;clear hm;have HIN:=za hin;clear hin;have hmb:=fun w=>run_make_row' (P:=prog) 137 4 (.bool false) 1 Tryz.underlying137 NG rfl .i64 .i64 u.code.length (by omega) (by omega) w
 have HBT:=za (fun w=>Nt w u.code.length);have HBU:=za (fun w=>Mb w u.code.length);obtain⟨M,hM⟩:∃M,M=madeCells #[.bool false] u.code.length:=⟨_,rfl⟩
 rw[<-hM]at hmb HBT HBU;clear hM;have N1:((w.alloc (oU u ca cc ga gc)).alloc (.cells #[.func (.func 200) #[] #[]] 86)).heap.size=w.heap.size+1+1:=by simp
 have N2:(((w.alloc (oU u ca cc ga gc)).alloc (.cells #[.func (.func 200) #[] #[]] 86)).alloc (.cells #[.slice none 0 0] 137)).heap.size=w.heap.size+1+1+1:=by simp
 have HN:=za (And.intro N1 N2);clear N1 N2;obtain⟨w3,hw3⟩:∃w3,w3=((w.alloc (oU u ca cc ga gc)).alloc (.cells #[.func (.func 200) #[] #[]] 86)).alloc (.cells #[.slice none 0 0] 137):=⟨_,rfl⟩
 have B3:Below w.heap.size w w3:=by rw[hw3];exact((zd w _).step (zd _ _)).step (zd _ _)
 have X1:w3.heap[w.heap.size]?=some (oU u ca cc ga gc):=by rw[hw3];exact zb (zd _ _) (zb (zd _ _) (zo _ _ _ rfl))
 have X2:w3.heap[w.heap.size+1]?=some (.cells #[.func (.func 200) #[] #[]] 86):=by rw[hw3];exact zb (zd _ _) (zo _ _ _ (by simp))
 have X3:w3.heap[w.heap.size+1+1]?=some (.cells #[.slice none 0 0] 137):=by rw[hw3];exact zo _ _ _ (by simp)
 have S3:w3.heap.size=w.heap.size+1+1+1:=by rw[hw3];simp
 have HX:=za (And.intro B3 (And.intro X1 (And.intro X2 (And.intro X3 S3))));have HW3:=za hw3;clear B3 X1 X2 X3 S3 hw3;have C0:=(HBT.out w3).at (i:=0) (by rw[List.length_replicate];exact h1);have F0:=(HBT.out w3).frozen 0;have l0:=(HBT.out w3).lt;have c0:=fun o o' o''=>zK (((zd (w3.alloc (.cells M 4)) o).step (zd _ o')).step (zd _ o'')) C0
 have f0:=fun o o' o''=>(((((HBT.out w3).below (zd _ o)).below (zd _ o')).below (zd _ o'')).frozen 0)
 rw[HX.out.2.2.2.2]at c0 f0;clear C0 F0 l0
 have HI:Hid (R4 u ca cc ga gc w (w.heap.size+1+1+1) (w.heap.size+1+1+1+1) (w.heap.size+1+1+1+1+1+1) [] ((List.replicate u.code.length false).set 0 true) [0] (w.heap.size+1+1+1+1+1) 0 1 ((((w3.alloc (.cells (M.setIfInBounds 0 (.bool true)) 4)).alloc (.cells #[.slice (some ⟨w.heap.size+1+1+1,0,none⟩) u.code.length u.code.length] 137)).alloc (.cells #[.int .i64 0] 3)).alloc (.cells #[.slice (some ⟨w.heap.size+1+1+1+1+1,0,none⟩) 1 1] 28))):=by
  obtain⟨hb3,x1,x2,x3,s3⟩:=HX.out;have hst:=FI h1;have z4:=HBU.out w3;rw[s3]at z4
  have e1:∀k,k<w3.heap.size->((((w3.alloc (.cells (M.setIfInBounds 0 (.bool true)) 4)).alloc (.cells #[.slice (some ⟨w.heap.size+1+1+1,0,none⟩) u.code.length u.code.length] 137)).alloc (.cells #[.int .i64 0] 3)).alloc (.cells #[.slice (some ⟨w.heap.size+1+1+1+1+1,0,none⟩) 1 1] 28)).heap[k]?=w3.heap[k]?:=by
   intro k hk;rw[(zd _ _).block k (by simp;omega),(zd _ _).block k (by simp;omega),(zd _ _).block k (by simp;omega),(zd _ _).block k (by omega)]
  refine⟨?_,(e1 _ (by omega)).trans x1,(e1 _ (by omega)).trans x2,(e1 _ (by omega)).trans x3,?_,?_,?_,?_,by omega,by omega,by omega,by omega,fun D h=>(by cases h),List.nodup_nil,hst.1,?_,hst.2⟩
  ·exact((((hb3.step (zd _ _)).step (zd _ _)).step (zd _ _)).step (zd _ _))
  ·rw[(zd _ _).block _ (by simp;omega),(zd _ _).block _ (by simp;omega)]
   exact zo _ _ _ (by simp;omega)
  ·exact(((z4.below (zd _ _)).below (zd _ _)).below (zd _ _))
  ·exact zo _ _ _ (by simp;omega)
  ·exact((QB.one (zo _ _ _ (by simp;omega))).below (zd _ _))
  ·intro x hx
   rw[qf.1 hx];omega
 rw[HW3.out]at HI c0 f0;clear HX HBT HW3 HN;refine callsIn_of_wp_marks func199 rfl trivial ?_ rfl;simp only[ntmps199,List.size_toArray,xv,List.length_nil,Nat.reduceAdd,Nat.reduceSub,Array.replicate_succ,JM,List.push_toArray,List.append_toArray,Zd,Y6]
 gi_wp2
 clear c0 f0 hmb;generalize ((((((w.alloc (oU u ca cc ga gc)).alloc (.cells #[.func (.func 200) #[] #[]] 86)).alloc (.cells #[.slice none 0 0] 137)).alloc (.cells (M.setIfInBounds 0 (.bool true)) 4)).alloc (.cells #[.slice (some ⟨w.heap.size+1+1+1,0,none⟩) u.code.length u.code.length] 137)).alloc (.cells #[.int .i64 0] 3)).alloc (.cells #[.slice (some ⟨w.heap.size+1+1+1+1+1,0,none⟩) 1 1] 28)=w2 at *;clear w3;refine wpIn_loop (fun a' wr=>∃(Ds:List Nat) (d:List Bool) (op:List Int) (g off cap:Nat) (s7 s17 s18 s19 s20 s21 s22 s23 s24 s25 s26 s27 s28 s29 s30 s31 s32 s33:Value),a'=⟨(vU u ca cc ga gc:: .func (.func 200) #[] #[]:: .pointer (some ⟨w.heap.size,0,none⟩):: .pointer (some ⟨w.heap.size+1,0,none⟩):: .pointer (some ⟨w.heap.size+1+1,0,none⟩):: .pointer (some ⟨w.heap.size+1+1+1+1,0,none⟩):: .pointer (some ⟨w.heap.size+1+1+1+1+1+1,0,none⟩)::s7::undef::undef:: .pointer (some ⟨w.heap.size,5,none⟩):: .slice ca u.code.length cc:: .int .i64 u.code.length:: .slice (some ⟨w.heap.size+1+1+1,0,none⟩) u.code.length u.code.length:: .slice (some ⟨w.heap.size+1+1+1+1+1,0,none⟩) 1 1:: .slice (some ⟨w.heap.size+1+1+1,0,none⟩) u.code.length u.code.length:: .pointer (some ⟨w.heap.size+1+1+1,0,none⟩)::s17::s18::s19::s20::s21::s22::s23::s24::s25::s26::s27::s28::s29::s30::s31::s32::s33::undef::undef::undef::undef::undef::undef::undef::undef::undef::undef::undef::undef::undef::undef::undef::undef::undef::undef::undef::undef::undef::([]:List Value)).toArray,Ds.map QI⟩/\Hid (R4 u ca cc ga gc w (w.heap.size+1+1+1) (w.heap.size+1+1+1+1) (w.heap.size+1+1+1+1+1+1) Ds d op g off cap wr)) (fun a' _=>u.code.length-a'.defers.length) ⟨[],_,_,_,_,_,_,_,_,_,_,_,_,_,_,_,_,_,_,_,_,_,_,_,rfl,HI⟩ ?_;rintro _ wr ⟨Ds,d,op,g,off,cap,s7,s17,s18,s19,s20,s21,s22,s23,s24,s25,s26,s27,s28,s29,s30,s31,s32,s33,rfl,HI⟩;have hcn:=HI.out.cnt;rcases List.eq_nil_or_concat op with rfl|⟨op,t0,rfl⟩
 ·have v0:wr.cell? ⟨w.heap.size+1+1+1+1+1+1,0,none⟩=some (.slice (some ⟨g,off,none⟩) 0 cap):=(zA _ _ 0 _ _ _ HI.out.x5).trans rfl
  have v1:=(zA _ _ 0 _ _ _ HI.out.x4).trans rfl;have v3:=(zA _ _ 0 _ _ _ HI.out.x3).trans rfl;have f3:=zF 0 HI.out.x3
  gi_wp2
  refine FJ rfl (HI.out.hb.setCell (p:=⟨w.heap.size+1+1,0,none⟩) (by show w.heap.size<=w.heap.size+1+1;omega) _) (fun D hD=>⟨(HI.out.ds D hD).1,(KeepsOthers.setCell _ _ _).same D _ (HI.out.ds D hD).2 rfl⟩) HI.out.nd (r0:=some ⟨w.heap.size+1+1+1,0,none⟩) (l:=u.code.length) (c:=u.code.length) ?_ ?_
  ·exact World.cell?_setCell_same' _ _ _ (by rw[v3];rfl)
  ·intro W' hb'
   exact⟨hb',_,rfl⟩
 ·rw[List.concat_eq_append]at HI hcn
  obtain⟨ht0,ht1⟩:=HI.out.opn t0 (by simp);obtain⟨t,rfl⟩:∃t:Nat,t0=(t:Int):=⟨t0.toNat,by omega⟩
  have ht:t<u.code.length:=by omega
  clear ht0 ht1;have x5:=HI.out.x5;rw[yV,Y8]at x5 hcn;have v0:wr.cell? ⟨w.heap.size+1+1+1+1+1+1,0,none⟩=some (.slice (some ⟨g,off,none⟩) (op.length+1) cap):=(zA _ _ 0 _ _ _ x5).trans rfl;have q0:wr.cell? ⟨g,off+op.length,none⟩=some (.int .i64 t):=by have:=HI.out.qb.at (i:=op.length) (by simp);simpa using this
  have q1:=HI.out.qb.init;have fB:=zF 0 x5;have hop:op.length+1<=cap:=by obtain⟨cur,_,h,_⟩:=HI.out.qb;simpa using h
  have hcm:cap<=9223372036854775807:=by obtain⟨cur,_,_,_,h,_⟩:=HI.out.qb;unfold maxLen at h;omega
  have nop:(0:Int)<(op.length:Int)+1:=by omega
  have nol:op.length<=1000000:=by omega
  have nc1:(op.length:Int)+1<=(cap:Int):=by omega
  have nc2:(cap:Int)<=9223372036854775807:=by omega
  have nc3:(op.length:Int)<=(cap:Int):=by omega
  have nc4:(op.length:Int)<(op.length:Int)+1:=by omega
  have hz0:w.heap.size+1+1<w.heap.size+1+1+1:=HI.out.o1;have lx1:=ze HI.out.x1;have lx5:=ze x5;have va:=fun o=>zK (zd wr o) v0
  have fa:=fun o=>zF 0 (zb (zd wr o) x5)
  gi_upto_region 7 with fail
  clear va fa v0 q0 fB;obtain⟨wz,hwz⟩:∃wz,wz=(wr.setCell ⟨w.heap.size+1+1+1+1+1+1,0,none⟩ (.slice (some ⟨g,off,none⟩) op.length cap)).alloc (.cells #[.int .i64 t] 3):=⟨_,rfl⟩
  have hse:(wr.setCell ⟨w.heap.size+1+1+1+1+1+1,0,none⟩ (.slice (some ⟨g,off,none⟩) op.length cap)).heap.size=wr.heap.size:=by simp
  have hzs:∀k,k<wr.heap.size->k≠w.heap.size+1+1+1+1+1+1->wz.heap[k]?=wr.heap[k]?:=fun k hk hn=>by rw[hwz];exact((zd _ _).block k (by rw[hse];exact hk)).trans (Below.heap_setCell _ ⟨w.heap.size+1+1+1+1+1+1,0,none⟩ _ k hn)
  have hzn:wz.heap.size=wr.heap.size+1:=by rw[hwz];simp
  have hzt:wz.heap[wr.heap.size]?=some (.cells #[.int .i64 t] 3):=by rw[hwz];exact zo _ _ _ hse.symm
  have hz5:wz.heap[w.heap.size+1+1+1+1+1+1]?=some (.cells #[.slice (some ⟨g,off,none⟩) op.length cap] 28):=by rw[hwz];exact zb (zd _ _) (yk _ _ 0 _ 28 _ x5)
  have hzb:Below w.heap.size w wz:=by rw[hwz];exact(HI.out.hb.setCell (p:=⟨w.heap.size+1+1+1+1+1+1,0,none⟩) (by show w.heap.size<=w.heap.size+1+1+1+1+1+1;omega) _).step (zd _ _)
  have hzk:KeepsOthers wr wz:=by rw[hwz];exact(KeepsOthers.setCell _ _ _).trans (KeepsOthers.alloc _ _)
  rw[<-hwz];clear hwz;have hz1:=(hzs _ lx1 (by omega)).trans HI.out.x1;obtain⟨c1,c2,c3,c4,c5,c6,c7⟩:=zr hz1;have ct:=(zA _ _ 0 _ _ _ hzt).trans rfl;have HZ:=za (And.intro hzs (And.intro hzn (And.intro hzt (And.intro hz5 (And.intro hzb hzk)))));clear hzs hzn hzt hz5 hzb hzk hz1
  gi_wp2_with (first
   |((try refine⟨trivial,?_⟩);gi_at_call 166;refine(qC.2 (Ui u t ca cc ga gc _)).mono ?_;rintro e W0 ⟨rfl,hW0⟩))
  clear c1 c2 c3 c4 c5 c6 c7 ct nop nc1 nc2 nc3 nc4;obtain⟨hzs,hzn,hzt,hz5,hzb,hzk⟩:=HZ.out;have hW0s:W0.heap.size=wz.heap.size+1+1:=by rw[<-hW0];simp
  have hbw:Below wz.heap.size wz W0:=by rw[<-hW0];exact(zd _ _).step (zd _ _)
  have hU:W0.heap[wz.heap.size]?=some (oU u ca cc ga gc):=by rw[<-hW0];exact zb (zd _ _) (zo _ _ _ rfl)
  have hT:W0.heap[wz.heap.size+1]?=some (.cells #[.int .i64 t] 3):=by rw[<-hW0];exact zo _ _ _ (by simp)
  clear hW0;have hsm:∀k,k<wr.heap.size->k≠w.heap.size+1+1+1+1+1+1->W0.heap[k]?=wr.heap[k]?:=fun k hk hn=>(hbw.block k (by omega)).trans (hzs k hk hn)
  have h6:=zb hbw hzt;have e5b:=zb hbw hz5;have e5:W0.cell? ⟨w.heap.size+1+1+1+1+1+1,0,none⟩=some (.slice (some ⟨g,off,none⟩) op.length cap):=(zA _ _ 0 _ _ _ e5b).trans rfl;have lg:g<wr.heap.size:=HI.out.qb.lt;have lO:w.heap.size+1+1+1<wr.heap.size:=HI.out.bi.lt;have lX:=ze HI.out.x4
  have ngB:g≠w.heap.size+1+1+1+1+1+1:=fun e=>by
   obtain⟨cur,hcg⟩:=HI.out.qb.cells;rw[e]at hcg;have h:=hcg.symm.trans HI.out.x5;simp at h
  have HWF:Fp (fun k=>k=w.heap.size+1+1+1) (w.heap.size+1+1+1+1+1+1) W0:=⟨fun k hk=>by rw[hk];omega,⟨_,e5⟩,fun b o n c h=>by rw[e5]at h;cases h;omega⟩
  have hMi:∀k,k≠w.heap.size+1+1+1->k≠w.heap.size+1+1+1+1+1+1->k≠g->Oh (fun k=>k=w.heap.size+1+1+1) (w.heap.size+1+1+1+1+1+1) W0 k:=fun k n1 n2 n3=>⟨n1,n2,fun b o n c h=>by rw[e5]at h;cases h;exact n3⟩
  have o3:=HI.out.o3;have hmw:jo W0 u ca cc ga gc:=HM.out.below (hzb.step hbw)
  have hun:Fq (Oh (fun k=>k=w.heap.size+1+1+1) (w.heap.size+1+1+1+1+1+1)) W0 u ca cc ga gc:=by
   refine⟨hmw,fun h0 b o e=> ?_,fun h0 b o e=> ?_⟩
   ·obtain⟨b',o',e',hl,_⟩:=HM.out.rc 0 h0
    rw[e]at e';cases e';exact hMi b (by omega) (by omega) (by omega)
   ·obtain⟨b',o',e',hl,_⟩:=HM.out.rg 0 h0
    rw[e]at e';cases e';exact hMi b (by omega) (by omega) (by omega)
  have m6:=hMi wr.heap.size (by omega) (by omega) (by omega);have m1:=hMi w.heap.size (by omega) (by omega) (by omega);have m2:=hMi (w.heap.size+1) (by omega) (by omega) (by omega);have m3:=hMi (w.heap.size+1+1) (by omega) (by omega) (by omega);have m4:=hMi (w.heap.size+1+1+1+1) (by omega) (by omega) (by omega);have hstops:=Vw 19 (by omega) (Ka (fun k=>k=w.heap.size+1+1+1) (w.heap.size+1+1+1+1+1+1)) u t ht hlen hlg ca cc ga gc (wz.heap.size) (wz.heap.size+1) W0 hU hT hun (hMi _ (by omega) (by omega) (by omega)) (hMi _ (by omega) (by omega) (by omega)) HWF;have hwl:w.heap.size<=W0.heap.size:=by omega
  have hx2:=(hsm _ (ze HI.out.x2) (by omega)).trans HI.out.x2;have hx4:=(hsm _ (ze HI.out.x4) (by omega)).trans HI.out.x4;have hlow:∀(k:Nat) (o:Obj),k<W0.heap.size->W0.heap[k]?=some o->o.isCells=false->W0.heap[k]?=some o:=fun _ _ _ h _=>h
  refine wpIn_rangeFunc_ownG (α:=P7 u t) rfl (by omega) (gf:=208) (lb:=#[.pointer (some ⟨wz.heap.size,0,none⟩),.pointer (some ⟨wz.heap.size+1,0,none⟩)]) rfl trivial (enters_of func208 (by kernel_rfl) rfl) hstops Yu.trans (GS (Ka _ _)) (zG _ _) (fun _=>rfl)
   (fun pre W=>∃d' op' g' off' cap',Mf u w (w.heap.size+1+1+1) (w.heap.size+1+1+1+1) (w.heap.size+1+1+1+1+1+1) d op W0 d' op' g' off' cap' W) (fun c pre W=>False)
   (fun pre A B row ⟨d',op',g',off',cap',h⟩ hg hr=>⟨d',op',g',off',cap',h.own hwl hg hr⟩) (fun c pre A B row h hg hr=>h) ?h0 ?a1 ?assign ?body ?done ?stop
  case assign=>
   intro l x W K hK
   gi_wp2
   exact hK
  case h0=>
   refine⟨d,op,g,off,cap,HI.out.len,fun x hx=>HI.out.opn x (by simp[hx]),rfl,HI.out.bi.keep (hsm _ lO (by omega)),e5b,HI.out.qb.init.keep (hsm _ lg ngB),o3,yI.refl HWF,hzb.step hbw,hlow⟩
  case body=>
   rintro l pre ⟨⟨tt,how⟩,hx⟩ W ⟨d',op',g',off',cap',hJ⟩ _;obtain⟨hx0,hx1⟩:=HIN.out t ht (tt,how) hx;obtain⟨k,rfl⟩:∃k:Nat,tt=(k:Int):=⟨tt.toNat,by simp at hx0;omega⟩
   have hk:k<u.code.length:=by simp at hx1;omega
   have y3:W.cell? ⟨w.heap.size+1,0,none⟩=some (.func (.func 200) #[] #[]):=(zA _ _ 0 _ _ _ (hJ.hk.box ⟨hx2,m2⟩).1).trans rfl;have y6:W.cell? ⟨wr.heap.size,0,none⟩=some (.int .i64 t):=(zA _ _ 0 _ _ _ (hJ.hk.box ⟨h6,m6⟩).1).trans rfl;have y4:W.cell? ⟨w.heap.size+1+1+1+1,0,none⟩=some (.slice (some ⟨w.heap.size+1+1+1,0,none⟩) u.code.length u.code.length):=(zA _ _ 0 _ _ _ (hJ.hk.box ⟨hx4,m4⟩).1).trans rfl;have lk:k<d'.length:=by rw[hJ.len];exact hk
   have yO:=hJ.bi.at (i:=k) lk;have fO:=hJ.bi.frozen k;have hdk:=zk (d:=true) lk;have vB:=(zA _ _ 0 _ _ _ hJ.x5).trans rfl;have fB:=zF 0 hJ.x5;have hcnt:=hJ.cnt;have hoc:op'.length<=1000000:=by omega
   have nk0:(0:Int)<=(k:Int):=by omega
   have nk1:(k:Int)<(u.code.length:Int):=by omega
   have HJ:=za hJ;have HO:=za (fun w'=>SE t k how w')
   have hngB:w.heap.size+1+1+1+1+1+1≠g':=fun e=>by
    obtain⟨cur,hcg⟩:=hJ.qb.cells;rw[<-e]at hcg;have h:=hcg.symm.trans hJ.x5;simp at h
   have o3':=hJ.o3;clear hJ hcnt;generalize d'[k]=dk at *
   cases dk with
   |true=>
    gi_wp2_with (first
     |((try refine⟨trivial,?_⟩);gi_at_call 200;refine(CallsIn.inRound l (qC.2 (HO.out _))).mono ?_;rintro e w6 ⟨rfl,rfl⟩))
    obtain⟨r1,r2,r3⟩:=HJ.out.same (zG _ _)
    exact⟨r1.from _,fun _=>r2,_,_,_,_,_,r3⟩
   |false=>
    have lB1:=ze HJ.out.x5;have KAB:=za (fun v o=>(((zd (W.setCell ⟨w.heap.size+1+1+1,k,none⟩ v) o).block (w.heap.size+1+1+1+1+1+1) (by simp;omega)).trans (yF _ _ _ _ (by show w.heap.size+1+1+1+1+1+1≠w.heap.size+1+1+1;omega))).trans HJ.out.x5);have QAB:=za (fun v o=>(HJ.out.qb.keep (yF W ⟨w.heap.size+1+1+1,k,none⟩ g' v (by show g'≠w.heap.size+1+1+1;omega))).below (zd _ o))
    gi_wp2_with (first
     |((try refine⟨trivial,?_⟩);gi_at_call 200;refine(CallsIn.inRound l (qC.2 (HO.out _))).mono ?_;rintro e w6 ⟨rfl,rfl⟩)
     |(gi_at_builtin;refine Q_ _ rfl (.tmp 50) (.tmp 52) rfl g' off' cap' op' (k:Int) rfl (QAB.out _ _) ⟨W.heap.size,0,none⟩ 1 rfl ((zA _ _ 0 _ _ _ (zo _ _ _ (by simp))).trans rfl) hoc ?_;intro g2 off2 cap2 W4 hq4 hgr hor;have k4:=(hgr.block (w.heap.size+1+1+1+1+1+1) (by simp;omega) (fun e=>hngB (by cases e;rfl))).trans (KAB.out _ _);have c4:=(zA _ _ 0 _ _ _ k4).trans rfl;have f4:=zF 0 k4;have HQ4:=za hq4;have HG4:=za hgr;have HO4:=za hor;clear hq4 hgr hor k4))
    obtain⟨r1,r2,r3⟩:=HJ.out.new (zG _ _) hk hdk (by omega) (by omega) (by omega) HQ4.out HG4.out HO4.out;exact⟨r1.from _,fun _=>r2,_,_,_,_,_,r3⟩
  case done=>
   rintro D ys W hD hS ⟨d',op',g',off',cap',hJ⟩ hdef;have hms:u.code.length-(Ds.length+1)<u.code.length-Ds.length:=by omega
   have HIN2:=za (HI.out.next (by omega) hsm m1 m2 m3 m4 hJ hD hdef)
   gi_wp2
   exact⟨⟨D::Ds,d',op',g',off',cap',_,_,_,_,_,_,_,_,_,_,_,_,_,_,_,_,_,_,rfl,HIN2⟩,by simp only[xv,ym];exact hms⟩
  case stop=>
   rintro D c pre W hD _ hx;exact hx.elim
theorem Ie{α: Type}{l:List α}{d:α}{i:Nat}(h:i<l.length):l.getD i d∈l:=by rw[zk h];exact yy h
theorem z8{u:zg}(h:zJ u=true):0<u.code.length/\u.code.length<=600/\u.guards.length<=40/\∀t,t<u.code.length->∀x,x∈xp u t->0<=x.1/\x.1<u.code.length:=by
 unfold zJ at h;simp only[yi,yB,yL]at h;obtain⟨⟨⟨⟨⟨h1,h2⟩,h3⟩,h4⟩,h5⟩,h6⟩:=h;have hn:1<=u.code.length/\u.code.length<=600:=by unfold yr at h1;simp at h1;omega
 refine⟨by omega,hn.2,h2,fun t ht x hx=> ?_⟩;unfold xp at hx;rw[qr,qr]at hx;rcases hx with (hx|hx)|hx
 ·split at hx
  ·rename_i hc
   simp at hc;rw[qf.1 hx];exact⟨by show 0<=(t:Int)+1;omega,by show(t:Int)+1<_;omega⟩
  ·cases hx
 ·obtain⟨p,hp,rfl⟩:=xI.1 hx
  have:=h5 _ (Ie (d:=zw) ht);unfold xf at this;simp only[yi,yL]at this;have:=this.2 p hp;unfold yr at this;simp at this;exact⟨by show 0<=p;omega,by show p<_;omega⟩
 ·split at hx
  ·rename_i hc
   simp at hc;have hgl:=(Zr (yH t) u.guards).2;have hlt:(zD u t).toNat<u.guards.length:=by unfold zD at *;omega
   have:=h6 _ (Ie (d:=jF) hlt);unfold xF at this;simp only[yi,yB]at this;have h7:=this.2;unfold yr at h7;simp at h7;rw[qf.1 hx];exact⟨by show 0<=(u.guards.getD (zD u t).toNat jF).at';simp;omega,by show(u.guards.getD (zD u t).toNat jF).at'<_;simp;omega⟩
  ·cases hx
def Qj(u:zg)(w:World)(e:Ending)(w':World):Prop:=Below w.heap.size w w'/\∃a,e= .returned (.slice a (if zJ u=true then u.code.length else 0) (if zJ u=true then u.code.length else 0))
theorem A7(u:zg)(ca cc ga gc)(w:World)(hm:jo w u ca cc ga gc)(hlc:u.code.length<=1000000)(hlg:u.guards.length<=1000000):
  Calls prog 142 #[vU u ca cc ga gc] w (Qj u w):=by
 have HB:=za (zd w (oU u ca cc ga gc));have HP:=za (fun w' hb=>K5 u ca cc ga gc w' (hm.below hb) hlc hlg)
 cases hp:zJ u with
 |false=>
  rw[hp]at HP;have HE:Hid (Qj u w (.returned (.slice none 0 0))=Qj u w (.returned (.slice none 0 0))):=za rfl;have HR:Hid (∀w',Below w.heap.size w w'->Qj u w (.returned (.slice none 0 0)) w'):=za (fun w' hb=>⟨hb,none,by rw[hp];rfl⟩);clear hp hm HE;go_enter func142,ntmps142;go_wp2_with (go_at_call 174;(with_reducible refine(HP.out _ HB.out).mono ?_);rintro e w' ⟨rfl,hb⟩;have HB2:=za (HB.out.step hb);clear hb);go_ret
  exact HR.out _ HB2.out
 |true=>
  rw[hp]at HP;obtain⟨h1,h2,h3,h4⟩:=z8 hp;have HW:=za (fun w' hb=>qC.1 (Fv u ca cc ga gc w' (hm.below hb) h1 hlc hlg h4));have HX:=za (zo w (oU u ca cc ga gc) _ rfl);have HR:Hid (∀w' g,Below w.heap.size w w'->Qj u w (.returned (.slice (some ⟨g,0,none⟩) u.code.length u.code.length)) w'):=za (fun w' g hb=>⟨hb,some ⟨g,0,none⟩,by rw[hp];rfl⟩);clear hp hm h1 h2 h3 h4;go_enter func142,ntmps142
  go_wp2_with (first
   |(go_at_call 174;(with_reducible refine(HP.out _ HB.out).mono ?_);rintro e w' ⟨rfl,hb⟩;have HB2:=za (HB.out.step hb);obtain⟨c1,c2,c3,c4,c5,c6,c7⟩:=zr (zb hb HX.out);clear hb)
   |(go_at_call 199;(with_reducible refine(HW.out _ HB2.out).mono ?_);rintro e w' ⟨hb,g,rfl⟩;have HB3:=za (HB2.out.step hb);clear hb))
  go_ret;exact HR.out _ _ HB3.out
theorem GA(u:zg)(ca cc ga gc)(w:World)(hm:jo w u ca cc ga gc)(hlc:u.code.length<=1000000)(hlg:u.guards.length<=1000000):
  Calls prog 76 #[vU u ca cc ga gc] w (zV (.bool (zJ u)) w):=by
 have HB:=za (zd w (oU u ca cc ga gc));have HRE:=za (fun w' hb=>A7 u ca cc ga gc w' (hm.below hb) hlc hlg);have HX:=za (zo w (oU u ca cc ga gc) _ rfl);obtain⟨c1,c2,c3,c4,c5,c6,c7⟩:=zr HX.out;have HLC:=za hlc;clear hm hlc;by_cases h0:0<u.code.length
 ·have n0:(0:Int)<(u.code.length:Int):=by omega
  have n1:(0:Nat)<u.code.length:=h0
  cases hp:zJ u with
  |true=>
   have HRR:Hid (∀w' hb,Calls prog 142 #[vU u ca cc ga gc] w' (fun e w2=>Below w'.heap.size w' w2/\∃a,e= .returned (.slice a u.code.length u.code.length))):=za (fun w' (hb:Below w.heap.size w w')=>(HRE.out w' hb).mono (fun e w2 ⟨h,a,h2⟩=>⟨h,a,by rw[h2,hp];rfl⟩));clear hp HRE;go_enter func76,ntmps76;go_wp2
   go_region_held3 (fun w'=>w'.cell? ⟨w.heap.size,0,none⟩=some (.string u.cls)/\w'.cell? ⟨w.heap.size,1,none⟩=some (.string u.name)/\w'.cell? ⟨w.heap.size,2,none⟩=some (.int .i64 u.args)/\w'.cell? ⟨w.heap.size,3,none⟩=some (.int .i64 u.slots)/\w'.cell? ⟨w.heap.size,4,none⟩=some (.int .i64 u.frame)/\w'.cell? ⟨w.heap.size,5,none⟩=some (.slice ca u.code.length cc)/\w'.cell? ⟨w.heap.size,6,none⟩=some (.slice ga u.guards.length gc)) (first|exact⟨c1,c2,c3,c4,c5,c6,c7⟩|exact⟨zK hb c1,zK hb c2,zK hb c3,zK hb c4,zK hb c5,zK hb c6,zK hb c7⟩)
    ((go_at_call 142;(with_reducible refine(HRR.out _ (HB.out.step (zt _))).mono ?_);rintro e w2 ⟨hb,a,rfl⟩))
   have HB2:=za (HB.out.drew.step hb);go_wp2;go_ret
   exact⟨rfl,HB2.out⟩
  |false=>
   have HRR:Hid (∀w' hb,Calls prog 142 #[vU u ca cc ga gc] w' (fun e w2=>Below w'.heap.size w' w2/\∃a,e= .returned (.slice a 0 0))):=za (fun w' (hb:Below w.heap.size w w')=>(HRE.out w' hb).mono (fun e w2 ⟨h,a,h2⟩=>⟨h,a,by rw[h2,hp];rfl⟩));have dn:((0:Int)==(u.code.length:Int))=false:=by simp;omega
   clear hp HRE;go_enter func76,ntmps76;go_wp2
   go_region_held3 (fun w'=>w'.cell? ⟨w.heap.size,0,none⟩=some (.string u.cls)/\w'.cell? ⟨w.heap.size,1,none⟩=some (.string u.name)/\w'.cell? ⟨w.heap.size,2,none⟩=some (.int .i64 u.args)/\w'.cell? ⟨w.heap.size,3,none⟩=some (.int .i64 u.slots)/\w'.cell? ⟨w.heap.size,4,none⟩=some (.int .i64 u.frame)/\w'.cell? ⟨w.heap.size,5,none⟩=some (.slice ca u.code.length cc)/\w'.cell? ⟨w.heap.size,6,none⟩=some (.slice ga u.guards.length gc)) (first|exact⟨c1,c2,c3,c4,c5,c6,c7⟩|exact⟨zK hb c1,zK hb c2,zK hb c3,zK hb c4,zK hb c5,zK hb c6,zK hb c7⟩)
    ((go_at_call 142;(with_reducible refine(HRR.out _ (HB.out.step (zt _))).mono ?_);rintro e w2 ⟨hb,a,rfl⟩))
   have HB2:=za (HB.out.drew.step hb);go_wp2;go_ret;exact⟨rfl,HB2.out⟩
 ·have e0:u.code.length=0:=by omega
  have hp:zJ u=false:=by unfold zJ;rw[e0];rfl
  have dn:decide ((0:Int)<(u.code.length:Int))=false:=by rw[e0];rfl
  have dn2:decide (0<u.code.length)=false:=by rw[e0];rfl
  have dn3:¬(0:Int)<(u.code.length:Int):=by omega
  rw[hp];clear hp e0 h0 HRE;go_enter func76,ntmps76;go_wp2;go_quiet (fail);go_wp2;go_ret;exact⟨rfl,xR HB.out _⟩
end Go.Proofs.YtgalekifgnecjaaGreat
