/- needed of package core: what is needed ahead of an instruction, by what is needed ahead of -/
import Derived.Test.YtgalekifgnecjaaGreatM3
import Derived.Carry
namespace Go.Proofs.YtgalekifgnecjaaGreat
open Tryz Go.RowKit
open Go.RowKit Go.Shelf
set_option maxHeartbeats 8000000
set_option maxRecDepth 100000
attribute [local go_sem] Oper.semAt_some
theorem Dr{W W':World}{b:Nat}{S:List Int}(hs:yW W b S)(hg:W.grownBy W' (some b)):yI (NQ fun _=>False) (SP fun _=>False) W W':=by
 refine⟨fun k hk=>hk.elim,hg.os,hg.tape,hg.output,hg.size,fun k o m hk ho=>⟨(hg.block k (ze hk) (fun e=> ?_)).trans hk,m⟩⟩;cases e;obtain⟨es,clock,hb,_⟩:=hs.own;rw[hb]at hk;cases hk;cases ho
def Jo(u:zg)(L:List (List Int))(t:Nat)(s:List Int)(x:Int×Int):List Int:=((L.getD x.1.toNat []).filter fun n=>x.2==2||n !=zc (u.code.getD t zw)).foldl (fun s n=>xB n s) s
theorem UO(u:zg)(L:List (List Int))(t:Nat):jl u L t=(zp (u.code.getD t zw)).foldl (fun s n=>xB n s) ((xp u t).foldl (Jo u L t) []):=rfl
structure Th(u:zg)(L:List (List Int))(t bo:Nat)(W0:World)(pre:List (P7 u t))(W:World):Prop where
 g:W0.grownBy W (some bo)
 s:yW W bo ((Lq pre).foldl (Jo u L t) [])
structure Nz(bo r:Nat)(v:Value)(A S0:List Int)(c:Int->Bool)(W:World)(S1 L1:List Int)(wr:World):Prop where
 g:W.grownBy wr (some bo)
 s:yW wr bo S1
 rng:ZK wr r v A L1
 mem:∀x,x∈S1↔x∈S0\/(x∈A/\x∉L1/\c x=true)
theorem Nz.put{bo r:Nat}{v:Value}{A S0 S1 L1:List Int}{c:Int->Bool}{W wr w6:World}{x:Int}(h:Nz bo r v A S0 c W S1 L1 wr)(hx:x∈L1)(hc:c x=true)(hg:W.grownBy w6 (some bo))(hs:yW w6 bo (xB x S1))(hr:ZK w6 r v A (L1.filter (· !=x))):Nz bo r v A S0 c W (xB x S1) (L1.filter (· !=x)) w6:=by
 refine⟨hg,hs,hr,fun y=> ?_⟩;rw[vQ,h.mem y,jn];by_cases e:y=x
 ·subst e
  simp[h.rng.sub y hx,hc]
 ·simp[e]
theorem Nz.skip{bo r:Nat}{v:Value}{A S0 S1 L1:List Int}{c:Int->Bool}{W wr w6:World}{x:Int}(h:Nz bo r v A S0 c W S1 L1 wr)(hx:x∈L1)(hc:c x=false)(hg:W.grownBy w6 (some bo))(hs:yW w6 bo S1)(hr:ZK w6 r v A (L1.filter (· !=x))):Nz bo r v A S0 c W S1 (L1.filter (· !=x)) w6:=by
 refine⟨hg,hs,hr,fun y=> ?_⟩;rw[h.mem y,jn];by_cases e:y=x
 ·subst e
  simp[hx,hc]
 ·simp[e]
theorem Xh{F:Fence}{n:Nat}{P:Program}{fn:Func}{tmps:Array Value}{R:Ending->World->Prop}{D:Nat}{W:World}(hd:W.heap[D]?=some (.deferred (some [])))(h:LeavesIn F n P fn tmps R [] .returning (W.putObj D (.deferred none))):LeavesInM F n P fn tmps R [QI D] .returning W:=
 ⟨by simp,.inl ⟨D,W.putObj D (.deferred none),rfl,run_takeDeferred hd,h⟩⟩
theorem Dh(u:zg)(t:Nat)(ht:t<u.code.length)(hlc:u.code.length<=1000000)(hlg:u.guards.length<=1000000)(ca cc ga gc)(L:List (List Int))(aa:Option Addr)(ac:Nat)(w:World)(hm:jo w u ca cc ga gc)(hL:NO w aa L)(hlen:L.length=u.code.length)
  (hin:∀x,x∈xp u t->0<=x.1/\x.1<u.code.length) (hr:∀x∈zp u.code[t],0<=x/\x<1000000):
  CallsIn Fence.wide 20 prog 175 #[vU u ca cc ga gc,.int .i64 t,.slice aa L.length ac] w fun e w'=>Below w.heap.size w w'/\∃b,e= .returned (.map (some b))/\yW w' b (jl u L t)/\w.heap.size<=b:=by
 have HM:=za hm;clear hm;have HL:=za hL;clear hL;have HN:=za hlen;clear hlen;have HIN:=za hin;clear hin;have HRB:=za hr;clear hr;obtain⟨bu,hbu⟩:∃b,b=w.heap.size:=⟨_,rfl⟩
 obtain⟨w2,hw2⟩:∃w2,w2=(((((w.alloc (oU u ca cc ga gc)).alloc (.cells #[.int .i64 t] 3)).alloc (.cells #[.slice aa L.length ac] 216)).alloc (.map #[] 0)).alloc (.cells #[.map (some (w.heap.size+1+1+1))] 217)):=⟨_,rfl⟩
 have HW:Hid (Below w.heap.size w w2/\w2.heap[w.heap.size]?=some (oU u ca cc ga gc)/\w2.heap[w.heap.size+1]?=some (.cells #[.int .i64 t] 3)/\w2.heap[w.heap.size+1+1]?=some (.cells #[.slice aa L.length ac] 216)/\yW w2 (w.heap.size+1+1+1) []/\w2.heap[w.heap.size+1+1+1+1]?=some (.cells #[.map (some (w.heap.size+1+1+1))] 217)/\w2.heap.size=w.heap.size+1+1+1+1+1):=za (by
  rw[hw2];refine⟨((((zd w _).step (zd _ _)).step (zd _ _)).step (zd _ _)).step (zd _ _),?_,?_,?_,?_,?_,by simp⟩
  ·exact zb (zd _ _) (zb (zd _ _) (zb (zd _ _) (zb (zd _ _) (zo _ _ _ rfl))))
  ·exact zb (zd _ _) (zb (zd _ _) (zb (zd _ _) (zo _ _ _ (by simp))))
  ·exact zb (zd _ _) (zb (zd _ _) (zo _ _ _ (by simp)))
  ·have:=QQ (((w.alloc (oU u ca cc ga gc)).alloc (.cells #[.int .i64 t] 3)).alloc (.cells #[.slice aa L.length ac] 216))
   simp only[vJ]at this;exact this.below (zd _ _)
  ·exact zo _ _ _ (by simp))
 have hmm:=@run_makeMap prog;refine callsIn_of_wp_marks func175 rfl trivial ?_ rfl;simp only[ntmps175,List.size_toArray,xv,List.length_nil,Nat.reduceAdd,Nat.reduceSub,Array.replicate_succ,JM,List.push_toArray,List.append_toArray,Zd,Y6]
 gi_upto_region 2 with fail
 rw[<-hw2];clear hw2 hmm hbu;obtain⟨hwb,h1,h2,h3,h4,h5,h6⟩:=HW.out;obtain⟨k0,k1,k2,k3,k4,k5,k6⟩:=zr h1;have kt:=(zA _ _ 0 _ _ _ h2).trans rfl;clear hwb h1 h2 h3 h4 h5 h6
 gi_wp2_with (first
  |((try refine⟨trivial,?_⟩);gi_at_call 166;refine(qC.2 (Ui u t ca cc ga gc _)).mono ?_;rintro e W0 ⟨rfl,hW0⟩))
 clear k0 k1 k2 k3 k4 k5 k6 kt;obtain⟨bo,hbo⟩:∃b,b=w.heap.size+1+1+1:=⟨_,rfl⟩
 obtain⟨hwb,h1,h2,h3,h4,h5,h6⟩:=HW.out;rw[<-hbo]at h4;replace h5:w2.heap[w.heap.size+1+1+1+1]?=some (.cells #[.map (some bo)] 217):=by rw[hbo];exact h5
 have hbw:Below w2.heap.size w2 W0:=by rw[<-hW0];exact(zd _ _).step (zd _ _)
 have hW0s:W0.heap.size=w2.heap.size+1+1:=by rw[<-hW0];simp
 have hU:W0.heap[w2.heap.size]?=some (oU u ca cc ga gc):=by rw[<-hW0];exact zb (zd _ _) (zo _ _ _ rfl)
 have hT:W0.heap[w2.heap.size+1]?=some (.cells #[.int .i64 t] 3):=by rw[<-hW0];exact zo _ _ _ (by simp)
 clear hW0;have g1:=zb hbw h1;have g2:=zb hbw h2;have g3:=zb hbw h3;have g4:=h4.below hbw;have g5:=zb hbw h5;have hW:Below w.heap.size w W0:=hwb.step hbw;have hun:Fq (NQ fun _=>False) W0 u ca cc ga gc:=⟨HM.out.below hW,fun _ _ _ _ h=>h,fun _ _ _ _ h=>h⟩
 have hstops:=Vw 19 (by omega) (ZC fun _=>False) u t ht hlc hlg ca cc ga gc w2.heap.size (w2.heap.size+1) W0 hU hT hun (fun h=>h) (fun h=>h) (fun k hk=>hk.elim);have HG0:=za (And.intro hW (And.intro g1 (And.intro g2 (And.intro g3 (And.intro g5 (And.intro h6 hW0s))))));have HBO:=za hbo;clear hwb h1 h2 h3 h4 h5 h6 hbw hU hT g1 g2 g3 g5 hun hbo
 refine wpIn_rangeFunc_ownG (α:=P7 u t) rfl (by omega) (gf:=208) (lb:=#[.pointer (some ⟨w2.heap.size,0,none⟩),.pointer (some ⟨w2.heap.size+1,0,none⟩)]) rfl trivial (enters_of func208 (by kernel_rfl) rfl) hstops Yu.trans (GS (ZC _)) (zG _ _) (fun _=>rfl)
  (fun pre W=>Th u L t bo W0 pre W) (fun c pre W=>False) ?hI (fun c pre A B row h hg hr=>h) ?h0 ?a1 ?assign ?body ?done ?stop
 case assign=>
  intro l x W K hK
  gi_wp2
  exact hK
 case hI=>
  rintro pre A B row ⟨e1,e2⟩ hg hr;have e3:bo<W0.heap.size:=by have:=HG0.out.2.2.2.2.2.1;have:=HBO.out;omega
  exact⟨e1.andThen hg (fun j e=> .inl (hr j e).1),e2.kept hg (fun e=>by have:=(hr bo e.symm).1;omega)⟩
 case h0=>exact⟨⟨rfl,rfl,rfl,zI _,fun _ _ _=>rfl⟩,g4⟩
 case body=>
  rintro l pre ⟨⟨tt,how⟩,hx⟩ W hJ _;obtain⟨hx0,hx1⟩:=HIN.out (tt,how) hx;obtain⟨k,rfl⟩:∃k:Nat,tt=(k:Int):=⟨tt.toNat,by simp at hx0;omega⟩
  have hk:k<u.code.length:=by simp at hx1;omega
  have hkL:k<L.length:=by rw[HN.out];exact hk
  have HJ:=za hJ;clear hJ hx0 hx1 g4;obtain⟨hW,g1,g2,g3,g5,e6,e7⟩:=HG0.out;have hBW:Below w.heap.size w W:=hW.grown HJ.out.g hW.size (fun r e=>by cases e;rw[HBO.out];omega);have b3:=(HJ.out.g.block _ (ze g3) (fun e=>by cases e;have:=HBO.out;omega)).trans g3;obtain⟨b,off,vA,ha,hlt,hc,hs⟩:=HL.out k hkL;subst ha
  have hvb:∀b',vA= .map (some b')->b'<w.heap.size:=fun b' e=>by
   rcases hs with ⟨e1,_⟩|⟨b1,e1,h⟩
   ·rw[e]at e1;cases e1
   ·rw[e]at e1;cases e1;exact h.lt
  have HVB:=za hvb;clear hvb;replace hc:=zK hBW hc;replace hs:=hs.below hBW;have c3:=(zA _ _ 0 _ _ _ b3).trans rfl;have nk:(k:Int)<(L.length:Int):=by omega
  have nk0:(0:Int)<=(k:Int):=by omega
  have HSV:=za hs;have HBW:=za hBW;clear hW g1 g2 g3 g5 e6 e7 hBW b3 hs
  gi_wp2_with (first
   |(gi_at_range;refine QL _ rfl _ rfl vA L[k] rfl HSV.out ?_;intro w3 hr3 hg3 hz3;have HR3:=za hr3;have HG3:=za hg3;clear hr3 hg3 hz3))
  go_frame;have HWW:=za (fun wx=>qz u.code[t] wx);have hSS:=HJ.out.s;have HBX:=za (fun(k:Nat) (o:Obj) (hk:k<W0.heap.size) (hn:k≠bo) (ho:W0.heap[k]?=some o) (wx:World) (hg:W.grownBy wx (some bo))=>(show wx.heap[k]?=some o from(hg.block k (xh hk HJ.out.g.size) (fun e=>hn (by cases e;rfl))).trans ((HJ.out.g.block k hk (fun e=>hn (by cases e;rfl))).trans ho)));have HBV:=za (fun(wx:World) (hg:W.grownBy wx (some bo))=>(show Below w.heap.size w wx from HBW.out.grown hg HBW.out.size (fun r e=>by cases e;rw[HBO.out];omega)));obtain⟨A,hA⟩:∃A,A=L[k]:=⟨_,rfl⟩
  obtain⟨S0,hS0⟩:∃S,S=(Lq pre).foldl (Jo u L t) []:=⟨_,rfl⟩
  obtain⟨wi,hwi⟩:∃n,n=zc u.code[t]:=⟨_,rfl⟩
  have HA:=za (And.intro hA (And.intro hS0 hwi));rw[<-hA]at HSV HR3;rw[<-hS0]at hSS;rw[<-hwi]at HWW;have HSS:=za hSS;clear hA hS0 hwi hSS hc nk nk0
  gi_loopg [] A.length (fun gh wr=>∃S1 L1:List Int,gh=0+L1.length/\Hid (Nz bo W.heap.size vA A S0 (fun n=>how==2||n !=wi) W S1 L1 wr))
  case atStart=>
   exact⟨S0,A,by omega,za ⟨HG3.out.but _,HSS.out.kept HG3.out (by simp),HR3.out,fun x=>⟨.inl,fun h=>h.elim id (fun h=>absurd h.1 h.2.1)⟩⟩⟩
  case round=>
   obtain⟨S1,L1,rfl,HQ⟩:=hrel
   gi_wp2_with (first
    |(gi_at_next;refine Q9 _ rfl _ rfl _ vA A L1 rfl HQ.out.rng ?_ ?_))
   ·intro h0
    subst h0
    gi_wp2
    obtain⟨hg,hs,hr,hm⟩:=HQ.out
    have e1:S1=Jo u L t S0 ((k:Int),how):=by
     unfold Jo;have e2:((k:Int),how).1.toNat=k:=by simp
     rw[e2,zk hkL,zk ht,<-HA.out.1,<-HA.out.2.2];refine Z4 hs.so (vN HSS.out.so) fun x=> ?_
     rw[hm x,jB,jn];simp
    refine⟨KeepsFrom.of_grownBy hg (fun j e=>by cases e;have:=HG0.out.2.2.2.2.2.1;have:=HBO.out;omega),fun _=>Dr HJ.out.s hg,HJ.out.g.andThen hg (fun j e=> .inr e),?_⟩;rw[e1,HA.out.2.1]at hs;unfold Lq at *;rw[q8,jc];exact hs
   ·intro x w4 hx4 hr4 hg4 hz4 hen
    have hxA:x∈A:=HQ.out.rng.sub x hx4;have hG4:W.grownBy w4 (some bo):=HQ.out.g.andThen hg4 (fun j e=> .inl (by cases e;exact zI _));have hS4:yW w4 bo S1:=HQ.out.s.kept hg4 (fun e=>by cases e;have:=HJ.out.s.lt;omega);have HX4:=za (And.intro hx4 (And.intro hxA (And.intro hr4 (And.intro hG4 hS4))));obtain⟨hW,g1,g2,g3,g5,e6,e7⟩:=HG0.out;have b1:=HBX.out _ _ (ze g1) (by rw[HBO.out];omega) g1 w4 hG4;have b2:=HBX.out _ _ (ze g2) (by rw[HBO.out];omega) g2 w4 hG4;have b5:=HBX.out _ _ (ze g5) (by rw[HBO.out];omega) g5 w4 hG4;have d1:=(zA _ _ 5 _ _ _ b1).trans rfl;have d2:=(zA _ _ 0 _ _ _ b2).trans rfl;have d5:w4.cell? ⟨w.heap.size+1+1+1+1,0,none⟩=some (.map (some bo)):=(zA _ _ 0 _ _ _ b5).trans rfl;obtain⟨bc,oc,hca,hlc2,c0,c1,c2,c3⟩:=(HM.out.rc.below (HBV.out w4 hG4)) t ht;subst hca;have nt:(t:Int)<(u.code.length:Int):=by omega
    have hxb:=HSV.out.bd x hxA;have HB5:=za b5;clear hx4 hxA hr4 hg4 hz4 hG4 hS4 g1 g2 g3 g5 e6 e7 b1 b2 b5 hW;generalize u.code[t]=y at *
    have HPUT:=za (fun(w5 w6:World) (hb:Below w4.heap.size w4 w5) (hs:yW w6 bo (xB x S1)) (hg:w5.grownBy w6 (some bo)) (hc:(how==2||x !=wi)=true)=>(show Nz bo W.heap.size vA A S0 (fun n=>how==2||n !=wi) W (xB x S1) (L1.filter (· !=x)) w6 from by
     obtain⟨q1,q2,q3,q4,q5⟩:=HX4.out
     refine HQ.out.put q1 hc ((q4.andThen (row':=none) ⟨hb.os,hb.tape,hb.output,hb.size,fun k hk _=>hb.block k hk⟩ (fun j e=>by cases e)).andThen hg (fun j e=> .inr e)) hs ((q3.below hb).kept hg (fun e=>by cases e;have:=HJ.out.s.lt;omega) (fun b' e e2=>absurd (HVB.out b' e) (by have h9:=HBO.out;injection e2 with e3;omega)))))
    have HSKIP:=za (fun(w5:World) (hb:Below w4.heap.size w4 w5) (hc:(how==2||x !=wi)=false)=>(show Nz bo W.heap.size vA A S0 (fun n=>how==2||n !=wi) W S1 (L1.filter (· !=x)) w5 from by
     obtain⟨q1,q2,q3,q4,q5⟩:=HX4.out
     exact HQ.out.skip q1 hc (q4.andThen (row':=none) ⟨hb.os,hb.tape,hb.output,hb.size,fun k hk _=>hb.block k hk⟩ (fun j e=>by cases e)) (q5.below hb) (q3.below hb)))
    have hfl:=ZS HX4.out.1;have HS4:=za HX4.out.2.2.2.2
    cases hh:(how==2)with
    |true=>
     gi_wp2_with (first
      |(gi_at_mapUpdate;refine Zg _ rfl _ _ _ rfl bo S1 x rfl HS4.out rfl rfl hxb ?_;intro w6 hs6 hg6;have HN6:=za (HPUT.out _ w6 (zG _ _) hs6 hg6 (by rw[hh];rfl));clear hs6 hg6)
      |(refine⟨trivial,?_⟩))
     gi_roundg (0+(L1.filter (· !=x)).length)
     case measure=>omega
     case rel=>exact⟨_,_,rfl,HN6⟩
    |false=>
     cases hw:(x !=wi)with
     |true=>
      gi_wp2_with (first
       |((try refine⟨trivial,?_⟩);gi_at_call 71;(with_reducible refine(CallsIn.inRound l (qC.2 (HWW.out _))).mono ?_);rintro e9 w5 ⟨rfl,hb⟩;have HB5':=za hb;have f5:w5.cell? ⟨w.heap.size+1+1+1+1,0,none⟩=some (.map (some bo)):=(zA _ _ 0 _ _ _ (zb hb HB5.out)).trans rfl;have HS5:=za (HS4.out.below hb);clear hb)
       |(gi_at_mapUpdate;refine Zg _ rfl _ _ _ rfl bo S1 x rfl HS5.out rfl rfl hxb ?_;intro w6 hs6 hg6;have HN6:=za (HPUT.out _ w6 HB5'.out hs6 hg6 (by rw[hh,hw];rfl));clear hs6 hg6))
      gi_roundg (0+(L1.filter (· !=x)).length)
      case measure=>omega
      case rel=>exact⟨_,_,rfl,HN6⟩
     |false=>
      gi_wp2_with (first
       |((try refine⟨trivial,?_⟩);gi_at_call 71;(with_reducible refine(CallsIn.inRound l (qC.2 (HWW.out _))).mono ?_);rintro e9 w5 ⟨rfl,hb⟩;have HN6:=za (HSKIP.out _ hb (by rw[hh,hw];rfl));clear hb))
      gi_roundg (0+(L1.filter (· !=x)).length)
      case measure=>omega
      case rel=>exact⟨_,_,rfl,HN6⟩
 case stop=>
  rintro D c pre W hD _ hx;exact hx.elim
 case done=>
  rintro D ys W hD hS hJ hdef;obtain⟨hg,hs⟩:=hJ;rw[show Lq ys=xp u t from hS]at hs;obtain⟨hW,g1,g2,g3,g5,e6,e7⟩:=HG0.out;have hBW:Below w.heap.size w W:=hW.grown hg hW.size (fun r e=>by cases e;rw[HBO.out];omega);have b1:=(hg.block _ (ze g1) (fun e=>by cases e;have:=HBO.out;omega)).trans g1;have b2:=(hg.block _ (ze g2) (fun e=>by cases e;have:=HBO.out;omega)).trans g2;have b5:=(hg.block _ (ze g5) (fun e=>by cases e;have:=HBO.out;omega)).trans g5;have d1:=(zA _ _ 5 _ _ _ b1).trans rfl;have d2:=(zA _ _ 0 _ _ _ b2).trans rfl;obtain⟨bc,oc,hca,hlc2,c0,c1,c2,c3⟩:=(HM.out.rc.below hBW) t ht;subst hca;have nt:(t:Int)<(u.code.length:Int):=by omega
  have HRR:=za (fun wx=>Qn u.code[t] wx);have HN2:=za (UO u L t);rw[zk ht]at HN2;have HK:=za (And.intro hBW (And.intro b5 (And.intro hs (And.intro hdef (show w.heap.size<=D from by omega)))));have HDB:Hid (D≠bo):=za (by have:=HBO.out;omega);clear hg g1 g2 g3 g5 e6 e7 b1 b2 b5 hs hBW hW hdef hstops g4;dsimp only
  gi_upto_region 11 with (first
   |((try refine⟨trivial,?_⟩);gi_at_call 70;(with_reducible refine(qC.2 (HRR.out _)).mono ?_);rintro e9 w5 ⟨hb,v5,rfl,ho⟩;obtain⟨ra,rc,rfl,hrp⟩:=ho.rd;have HB5:=za hb;have HR5:=za hrp;clear hb ho hrp))
  clear d1 d2 c0 c1 c2 c3 nt;obtain⟨R,hR⟩:∃R,R=zp u.code[t]:=⟨_,rfl⟩
  obtain⟨S0,hS0⟩:∃S,S=(xp u t).foldl (Jo u L t) []:=⟨_,rfl⟩
  rw[<-hR]at HR5 HRB HN2;rw[<-hS0]at HN2 HK;rw[<-hR];have hrl:R.length<=2:=by rw[hR];exact xD _
  clear hR hS0
  gi_loopg [49] R.length (fun gh s49 wr=>∃j:Nat,j<=R.length/\gh=R.length-j/\s49= .int .i64 j/\Hid (w5.grownBy wr (some bo)/\yW wr bo ((R.take j).foldl (fun s n=>xB n s) S0)))
  case atStart=>exact⟨0,zE _,rfl,rfl,za ⟨⟨rfl,rfl,rfl,zI _,fun _ _ _=>rfl⟩,HK.out.2.2.1.below HB5.out⟩⟩
  case round=>
   obtain⟨j,hj,rfl,rfl,HQ⟩:=hrel;have hb5:wr.heap[w.heap.size+1+1+1+1]?=some (.cells #[.map (some bo)] 217):=(HQ.out.1.block _ (ze (zb HB5.out HK.out.2.1)) (fun e=>by cases e;have:=HBO.out;omega)).trans (zb HB5.out HK.out.2.1);have d5:wr.cell? ⟨w.heap.size+1+1+1+1,0,none⟩=some (.map (some bo)):=(zA _ _ 0 _ _ _ hb5).trans rfl;clear hb5;by_cases hlj:j<R.length
   ·have hxb:=HRB.out R[j] (yy hlj)
    obtain⟨b2,off,ha,hlt2,h0⟩:=HR5.out j hlj;subst ha
    have hne:b2≠bo:=fun e=>by
     obtain⟨es,clock,hmb,_⟩:=(HK.out.2.2.1.below HB5.out).own;rw[e]at h0;unfold World.cell? at h0;simp[hmb]at h0
    have h0r:wr.cell? ⟨b2,off+j,none⟩=some (.int .i64 R[j]):=(ZO (w:=w5) (w':=wr) (a:=⟨b2,off+j,none⟩) (HQ.out.1.block b2 hlt2 (fun e=>hne (by cases e;rfl)))).trans h0;clear h0;have nj:(j:Int)<(R.length:Int):=by omega
    have HT:Hid ((R.take (j+1)).foldl (fun s n=>xB n s) S0=xB R[j] ((R.take j).foldl (fun s n=>xB n s) S0)):=za (by rw[zO hlj,jc];rfl);generalize R[j]=x at *;have HS:=za HQ.out.2
    gi_wp2_with (first
     |(gi_at_mapUpdate;refine Zg _ rfl _ _ _ rfl bo _ x rfl HS.out rfl rfl hxb ?_;intro w6 hs6 hg6;have HS6:=za hs6;have HG6:=za hg6;clear hs6 hg6))
    gi_roundg (R.length-(j+1))
    case measure=>omega
    case rel=>exact⟨j+1,by omega,rfl,by go_num,za ⟨HQ.out.1.andThen HG6.out (fun j e=> .inr e),by rw[HT.out];exact HS6.out⟩⟩
   ·obtain rfl:j=R.length:=by omega
    gi_wp2
    obtain⟨hBW,hb5,hs,hdef,hDw⟩:=HK.out;obtain⟨q1,q2⟩:=HQ.out;rw[xL,<-HN2.out]at q2;have hbw:Below w.heap.size w wr:=(hBW.step HB5.out).grown q1 (hBW.step HB5.out).size (fun r e=>by cases e;rw[HBO.out];omega);have hDr:wr.heap[D]?=some (.deferred (some [])):=(q1.block D (ze ((HB5.out.block D (ze hdef)).trans hdef)) (fun e=>HDB.out (by injection e))).trans ((HB5.out.block D (ze hdef)).trans hdef);refine Xh hDr ?_;refine⟨.map (some bo),?_,?_⟩
    ·simp[results,Tryz.results175,go_sem]
    ·exact⟨hbw.trans ⟨rfl,rfl,rfl,by simp[World.putObj],fun k hk=>World.putObj_heap_other (by omega)⟩,bo,rfl,q2.keep (World.putObj_heap_other (fun e=>HDB.out e.symm)),by rw[HBO.out];omega⟩
theorem Ec(u:zg)(t:Nat)(ht:t<u.code.length)(hlc:u.code.length<=1000000)(hlg:u.guards.length<=1000000)(ca cc ga gc)(L:List (List Int))(aa:Option Addr)(ac:Nat)(w:World)(hm:jo w u ca cc ga gc)(hL:NO w aa L)(hlen:L.length=u.code.length)
  (hin:∀x,x∈xp u t->0<=x.1/\x.1<u.code.length) (hr:∀x∈zp u.code[t],0<=x/\x<1000000):
  Calls prog 175 #[vU u ca cc ga gc,.int .i64 t,.slice aa L.length ac] w fun e w'=>Below w.heap.size w w'/\∃b,e= .returned (.map (some b))/\yW w' b (jl u L t)/\w.heap.size<=b:=
 qC.1 (Dh u t ht hlc hlg ca cc ga gc L aa ac w hm hL hlen hin hr)
def xT(s:List (List Int)):Nat:=(s.map List.length).sum
theorem Zt(x:List Int)(s:List (List Int)):xT (x::s)=x.length+xT s:=by simp[xT]
theorem QP:∀(s:List (List Int)) (t:Nat) (m:List Int),t<s.length->xT (s.set t m)+(s.getD t []).length=xT s+m.length
 | [],t,m,h=>absurd h (y_ _)
 |x::s,0,m,h=>by simp only[List.set_cons_zero,Zt,List.getD_cons_zero];omega
 |x::s,t+1,m,h=>by
  have:=QP s t m (by simpa using h);simp only[List.set_cons_succ,Zt,List.getD_cons_succ];omega
theorem KU:∀(s:List (List Int)) (m:Nat),(∀x∈s,x.length<=m)->xT s<=s.length*m
 | [],m,_=>by simp[xT]
 |x::s,m,h=>by
  have h1:=h x (by simp);have h2:=KU s m (fun y hy=>h y (by simp[hy]));rw[Zt,xv,Nat.succ_mul];omega
def Vm(u:zg):List Int:=u.code.flatMap zp
theorem Z0(u:zg):(Vm u).length<=2*u.code.length:=by
 unfold Vm
 induction u.code with
 |nil=>simp
 |cons x l ih=>
  rw[List.flatMap_cons,yV,xv];have:=xD x;omega
theorem GL(u:zg)(L:List (List Int))(t:Nat)(x:Int):∀(l:List (Int×Int)) (s:List Int),x∈l.foldl (Jo u L t) s↔x∈s\/∃e∈l,x∈L.getD e.1.toNat []/\(e.2==2||x !=zc (u.code.getD t zw))=true
 | [],s=>by simp
 |e::l,s=>by
  rw[qP,GL u L t x l];unfold Jo;rw[jB,jn];constructor
  ·rintro((h|h)|⟨e',h1,h2⟩)
   ·exact .inl h
   ·exact .inr ⟨e,by simp,h⟩
   ·exact .inr ⟨e',by simp[h1],h2⟩
  ·rintro(h|⟨e',h1,h2⟩)
   ·exact .inl (.inl h)
   ·rcases xK.1 h1 with rfl|h1
    ·exact .inl (.inr h2)
    ·exact .inr ⟨e',h1,h2⟩
theorem QG(u:zg)(L:List (List Int))(t:Nat):∀(l:List (Int×Int)) (s:List Int),xt s->xt (l.foldl (Jo u L t) s)
 | [],_,h=>h
 |_e::l,_s,h=>QG u L t l _ (vN h)
theorem Jr(u:zg)(L:List (List Int))(t:Nat)(x:Int):x∈jl u L t↔(∃e∈xp u t,x∈L.getD e.1.toNat []/\(e.2==2||x !=zc (u.code.getD t zw))=true)\/x∈zp (u.code.getD t zw):=by
 rw[UO,jB,GL];simp
theorem Vo(u:zg)(L:List (List Int))(t:Nat):xt (jl u L t):=by
 rw[UO];exact vN (QG u L t _ _ .nil)
structure jL(u:zg)(s:List (List Int)):Prop where
 len:s.length=u.code.length
 so:∀t,xt (s.getD t [])
 un:∀t x,x∈s.getD t []->x∈Vm u
 inc:∀t,t<u.code.length->∀x,x∈s.getD t []->x∈jl u s t
theorem xP:∀ {l:List Int},xt l->l.Nodup
 | [],_=> .nil
 |x::l,h=>by
  obtain⟨h1,h2⟩:=jW.1 h;refine List.nodup_cons.2 ⟨fun e=> ?_,xP h2⟩;have:=h1 x e;omega
theorem vW(s:List (List Int))(t:Nat)(m:List Int)(k:Nat)(h:t<s.length):(s.set t m).getD k []=if k=t then m else s.getD k []:=by
 simp only[jI,List.getElem?_set];by_cases e:t=k
 ·subst e
  simp[h]
 ·simp[e,show ¬k=t from fun h=>e h.symm]
theorem jL.total{u:zg}{s:List (List Int)}(h:jL u s):xT s<=2*u.code.length*u.code.length:=by
 have:=KU s (2*u.code.length) (fun x hx=>by
  obtain⟨t,ht,rfl⟩:=List.getElem_of_mem hx;have e:s.getD t []=s[t]:=zk ht;have h1:=yz (xP (h.so t)) (h.un t);rw[e]at h1
  exact yP h1 (Z0 u))
 rw[h.len]at this;rw[Nat.mul_comm];exact this
theorem jL.first(u:zg):jL u (List.replicate u.code.length []):=by
 have e:∀t,(List.replicate u.code.length ([]:List Int)).getD t []= []:=fun t=>by
  simp only[jI,List.getElem?_replicate];split<;>rfl
 refine⟨by simp,fun t=>by rw[e];exact .nil,fun t x hx=>by rw[e]at hx;simp at hx,fun t _ x hx=>by rw[e]at hx;simp at hx⟩
theorem MM{u:zg}{s:List (List Int)}(h:jL u s){t:Nat}(ht:t<u.code.length){x:Int}(hx:x∈jl u s t):x∈Vm u:=by
 rcases(Jr u s t x).1 hx with ⟨e,_,h2,_⟩|h1
 ·exact h.un _ _ h2
 ·unfold Vm
  rw[List.mem_flatMap];exact⟨u.code[t],yy ht,by rwa [zk ht]at h1⟩
theorem jL.step{u:zg}{s:List (List Int)}(h:jL u s){t:Nat}(ht:t<u.code.length):jL u (s.set t (jl u s t)):=by
 have hts:t<s.length:=by rw[h.len];exact ht
 have hsub:∀k x,x∈s.getD k []->x∈(s.set t (jl u s t)).getD k []:=fun k x hx=>by
  rw[vW _ _ _ _ hts];split
  ·rename_i e;subst e;exact h.inc k ht x hx
  ·exact hx
 have hmono:∀k x,x∈jl u s k->x∈jl u (s.set t (jl u s t)) k:=fun k x hx=>by
  rw[Jr]at hx ⊢;rcases hx with ⟨e,h1,h2,h3⟩|hx
  ·exact .inl ⟨e,h1,hsub _ _ h2,h3⟩
  ·exact .inr hx
 refine⟨by rw[List.length_set];exact h.len,fun k=> ?_,fun k x hx=> ?_,fun k hk x hx=> ?_⟩
 ·rw[vW _ _ _ _ hts]
  split
  ·exact Vo u s t
  ·exact h.so k
 ·rw[vW _ _ _ _ hts]at hx
  split at hx
  ·exact MM h ht hx
  ·exact h.un k x hx
 ·rw[vW _ _ _ _ hts]at hx
  split at hx
  ·rename_i e;subst e;exact hmono _ _ hx
  ·exact hmono _ _ (h.inc k hk x hx)
theorem jL.grows{u:zg}{s:List (List Int)}(h:jL u s){t:Nat}(ht:t<u.code.length)(hne:(jl u s t).length≠(s.getD t []).length):xT s+1<=xT (s.set t (jl u s t)):=by
 have hts:t<s.length:=by rw[h.len];exact ht
 have h1:=QP s t (jl u s t) hts;have h2:=yz (xP (h.so t)) (h.inc t ht);omega
theorem jN{u:zg}:∀ {t:Nat} {s:List (List Int)×Bool},jL u s.1->t<=u.code.length->jL u (yQ u t s).1/\xT s.1<=xT (yQ u t s).1/\(s.2=true->(yQ u t s).2=true)/\(s.2=false->(yQ u t s).2=true->xT s.1+1<=xT (yQ u t s).1)
 |0,s,h,_=>⟨h,zI _,id,fun h1 h2=>by rw[show(yQ u 0 s).2=s.2 from rfl,h1]at h2;cases h2⟩
 |t+1,s,h,ht=>by
  unfold yQ;split
  ·rename_i hne
   obtain⟨h1,h2,h3,h4⟩:=jN (t:=t) (s:=(s.1.set t (jl u s.1 t),true)) (h.step (by omega)) (by omega);have h5:=h.grows (t:=t) (by omega) hne;dsimp only at h2;exact⟨h1,by omega,fun _=>h3 rfl,fun _ _=>by omega⟩
  ·exact jN h (by omega)
theorem Eg{u:zg}{s:List (List Int)}{f:Nat}(h:jL u s)(hf:zf u=ZH u f s)(hb:2*u.code.length*u.code.length+1<=f+xT s):
  jL u (yQ u u.code.length (s,false)).1/\1<=f/\((yQ u u.code.length (s,false)).2=true->zf u=ZH u (f-1) (yQ u u.code.length (s,false)).1/\2*u.code.length*u.code.length+1<=f-1+xT (yQ u u.code.length (s,false)).1) /\
   ((yQ u u.code.length (s,false)).2=false->zf u=(yQ u u.code.length (s,false)).1):=by
 obtain⟨h1,h2,_,h4⟩:=jN (s:=(s,false)) h (zI _);have h5:=h.total;obtain⟨g,rfl⟩:∃g,f=g+1:=⟨f-1,by omega⟩
 rw[hf];refine⟨h1,by omega,fun e=>⟨by rw[Nat.add_sub_cancel];exact zj e,?_⟩,fun e=>zi (by rw[e];simp)⟩;have:=h4 rfl e;dsimp only at this;omega
def Mp(w:World)(b:Nat)(s:List (List Int)):Prop:=∃cur,w.heap[b]?=some (.cells cur 217 (0,0))/\∀i (h:i<s.length),∃v,cur[i]?=some v/\YA w v s[i]
theorem Mp.below{w w':World}{b:Nat}{s:List (List Int)}(h:Mp w b s)(hb:Below w.heap.size w w'):Mp w' b s:=by
 obtain⟨cur,h1,h2⟩:=h;refine⟨cur,zb hb h1,fun i hi=> ?_⟩;obtain⟨v,h3,h4⟩:=h2 i hi;exact⟨v,h3,h4.below hb⟩
theorem Mp.rd{w:World}{b:Nat}{s:List (List Int)}(h:Mp w b s):NO w (some ⟨b,0,none⟩) s:=by
 obtain⟨cur,h1,h2⟩:=h;intro i hi;obtain⟨v,h3,h4⟩:=h2 i hi;exact⟨b,0,v,rfl,ze h1,(zA _ _ _ _ _ _ h1).trans (by rw[jU];exact h3),h4⟩
theorem Mp.set{w:World}{b:Nat}{s:List (List Int)}(h:Mp w b s){k:Nat}(hk:k<s.length){v:Value}{S:List Int}(hv:YA w v S):Mp (w.setCell ⟨b,k,none⟩ v) b (s.set k S):=by
 obtain⟨cur,h1,h2⟩:=h
 have hne:∀ {u:Value} {T:List Int},YA w u T->YA (w.setCell ⟨b,k,none⟩ v) u T:=fun hu=>by
  rcases hu with h|⟨m,e,h⟩
  ·exact .inl h
  ·refine .inr ⟨m,e,h.keep (yF _ _ _ _ (fun e2=> ?_))⟩
   obtain⟨es,clock,hm,_⟩:=h.own;rw[e2]at hm;have:=hm.symm.trans h1;cases this
 have hkc:k<cur.size:=by
  obtain⟨v0,h3,_⟩:=h2 k hk;exact(qM.1 h3).1
 refine⟨_,yk _ _ k _ _ _ h1,fun i hi=> ?_⟩;by_cases e:i=k
 ·subst e
  exact⟨v,by simp[hkc],by rw[List.getElem_set_self];exact hne hv⟩
 ·obtain⟨v1,h3,h4⟩:=h2 i (by simpa using hi)
  refine⟨v1,by rw[Array.getElem?_setIfInBounds_ne (fun e2=>e e2.symm)];exact h3,?_⟩;rw[List.getElem_set_ne (fun e2=>e e2.symm)];exact hne h4
theorem Nx(w:World)(n:Nat):Mp (w.alloc (.cells (madeCells #[.map none] n) 217)) w.heap.size (List.replicate n []):=by
 refine⟨_,zo _ _ _ rfl,fun i hi=> ?_⟩;rw[List.length_replicate]at hi;refine⟨.map none,?_,.inl ⟨rfl,by simp⟩⟩;simp[madeCells,hi,Nat.mod_one]
theorem M4:(prog.info? 217).map (fun i=>(i.zero,i.size,i.bytes))=some (some (.map none),1,8):=by kernel_rfl
structure R9(u:zg)(ca cc ga gc)(w:World)(b:Nat)(s:List (List Int))(wr:World):Prop where
 hb:Below w.heap.size w wr
 hu:wr.heap[w.heap.size]?=some (oU u ca cc ga gc)
 ah:Mp wr b s
 gd:jL u s
 ge:w.heap.size<b
theorem je.mono{w:World}{base base':Nat}{v:Value}{L:List (List Int)}(h:je w base v L)(hb:base'<=base):je w base' v L:=by
 obtain⟨xs,h1,h2,h3⟩:=h;exact⟨xs,y9.mono h1 hb,h2,fun i a b=>zu.mono (h3 i a b) hb⟩
def SY(u:zg)(ch:Bool)(f:Nat)(s:List (List Int)):Prop:=(ch=true->zf u=ZH u f s/\2*u.code.length*u.code.length+1<=f+xT s)/\(ch=false->zf u=s)
theorem Ll(u:zg)(ca cc ga gc)(w:World)(hm:jo w u ca cc ga gc)(hp:zJ u=true)(hr:∀t (ht:t<u.code.length),∀x∈zp u.code[t],0<=x/\x<1000000):
  Calls prog 105 #[vU u ca cc ga gc] w (IC (zf u) w):=by
 obtain⟨hn0,hn6,hg4,hlds⟩:=z8 hp;have HM:=za hm;clear hm;have HRB:=za hr;clear hr;have HPL:=za (fun w' hb=>K5 u ca cc ga gc w' (HM.out.below hb) (by omega) (by omega));rw[hp]at HPL;have HND:=za (fun(t:Nat) (ht:t<u.code.length) (L:List (List Int)) (aa:Option Addr) (ac:Nat) (w':World) (hb:Below w.heap.size w w') (hL:NO w' aa L) (hlen:L.length=u.code.length)=>(show Calls prog 175 #[vU u ca cc ga gc,.int .i64 t,.slice aa u.code.length ac] w' fun e w2=>Below w'.heap.size w' w2/\∃b,e= .returned (.map (some b))/\yW w2 b (jl u L t)/\w'.heap.size<=b from by rw[<-hlen];exact Ec u t ht (by omega) (by omega) ca cc ga gc L aa ac w' (HM.out.below hb) hL hlen (hlds t ht) (HRB.out t ht)));have hmk:=fun w=>run_make_row' (P:=prog) 216 217 (.map none) 8 Tryz.underlying216 M4 rfl .i64 .i64 u.code.length (by omega) (by omega) w
 have HMD:=za (fun w=>Nx w u.code.length);obtain⟨M,hM⟩:∃M,M=madeCells #[.map none] u.code.length:=⟨_,rfl⟩
 rw[<-hM]at hmk HMD;clear hM;have HX1:=za (zo w (oU u ca cc ga gc) _ rfl);have HB:=za (zd w (oU u ca cc ga gc));go_enter func105,ntmps105;go_upto_region 1 with fail;obtain⟨w1,hw1⟩:∃w1,w1=w.alloc (oU u ca cc ga gc):=⟨_,rfl⟩
 rw[<-hw1]at HX1 HB;rw[<-hw1];clear hw1;obtain⟨k0,k1,k2,k3,k4,k5,k6⟩:=zr HX1.out
 go_upto_region 3 with (first
  |(go_at_call 174;(with_reducible refine(HPL.out _ HB.out).mono ?_);rintro e w2 ⟨rfl,hb⟩;obtain⟨j0,j1,j2,j3,j4,j5,j6⟩:=zr (zb hb HX1.out);have HX2:=za (zb hb HX1.out);have HB2:=za (HB.out.step hb);clear hb))
 clear k0 k1 k2 k3 k4 k5 k6;have hlt:=ze HX2.out;have HL0:Hid (R9 u ca cc ga gc w w2.heap.size (List.replicate u.code.length []) (w2.alloc (.cells M 217))):=za ⟨HB2.out.step (zd _ _),zb (zd _ _) HX2.out,HMD.out w2,jL.first u,hlt⟩;go_upto_region 5 with fail;obtain⟨bA,hbA⟩:∃b,b=w2.heap.size:=⟨_,rfl⟩
 obtain⟨wa,hwa⟩:∃wa,wa=w2.alloc (.cells M 217):=⟨_,rfl⟩
 rw[<-hbA,<-hwa]at HL0;rw[<-hbA,<-hwa];clear hwa hbA hlt j0 j1 j2 j3 j4 j5 j6 hmk HMD HPL;go_loopg [4] (0+(2*u.code.length*u.code.length+1+1)) (fun gh s4 wr=>∃(s:List (List Int)) (ch:Bool) (f:Nat),gh=0+(if ch=true then f+1 else 0)/\s4= .bool ch/\Hid (R9 u ca cc ga gc w bA s wr)/\Hid (SY u ch f s));case atStart=>exact⟨_,true,_,rfl,rfl,HL0,za ⟨fun _=>⟨rfl,by omega⟩,fun h=>by cases h⟩⟩
 case round=>
  obtain⟨s,ch,f,rfl,rfl,HL,HF⟩:=hrel;obtain⟨k0,k1,k2,k3,k4,k5,k6⟩:=zr HL.out.hu
  cases ch with
  |false=>
   have HLS:=za (HF.out.2 rfl);have HMP:=za (fun w' (hb:Below wr.heap.size wr w')=>OP s (some ⟨bA,0,none⟩) u.code.length w' (HL.out.ah.below hb).rd (by rw[HL.out.gd.len];omega));rw[HL.out.gd.len,<-HLS.out]at HMP;clear HF
   go_wp2_with (first
    |(go_at_call 176;(with_reducible refine(HMP.out _ (zG _ _)).mono ?_);rintro e w3 ⟨hb,v3,rfl,ho⟩;have HB3:=za hb;have HO3:=za ho;clear hb ho))
   go_ret
   exact⟨HL.out.hb.step HB3.out,v3,rfl,HO3.out.mono HL.out.hb.size⟩
  |true=>
   obtain⟨hf,hfb⟩:=HF.out.1 rfl;obtain⟨h1,h2,h3,h4⟩:=Eg HL.out.gd hf hfb;have HR:=za (And.intro h1 (And.intro h3 h4));have hn1:(1:Int)<=(u.code.length:Int):=by omega
   clear HF hf hfb h1 h3 h4;go_upto_region 8 with fail;go_loopg [4,5] (0+u.code.length) (fun gh s4 s5 wr=>∃(t:Nat) (x:Int) (s2:List (List Int)) (c2:Bool),gh=0+t/\t<=u.code.length/\x+1=(t:Int)/\s5= .int .i64 x/\s4= .bool c2/\Hid (R9 u ca cc ga gc w bA s2 wr)/\Hid (yQ u t (s2,c2)=yQ u u.code.length (s,false)));case atStart=>exact⟨u.code.length,_,s,false,by omega,zI _,by omega,rfl,rfl,HL,za rfl⟩
   case round=>
    obtain⟨t,x,s2,c2,rfl,ht,hx,rfl,rfl,HL2,HE⟩:=hrel
    cases t with
    |zero=>
     have nx:¬(0:Int)<=x:=by omega
     have he:(s2,c2)=yQ u u.code.length (s,false):=HE.out;obtain⟨r1,r2,r3⟩:=HR.out;rw[<-he]at r2 r3;have HF2:Hid (SY u c2 (f-1) s2):=za ⟨r2,r3⟩;clear r1 r2 r3 he;go_wp2;go_roundg (0+(if c2=true then f-1+1 else 0));case measure=>split<;>omega
     case rel=>exact⟨s2,c2,f-1,rfl,rfl,HL2,HF2⟩
    |succ k=>
     obtain rfl:x=(k:Int):=by omega
     have nx:(0:Int)<=(k:Int):=by omega
     have hk:k<u.code.length:=by omega
     have hks:k<s2.length:=by rw[HL2.out.gd.len];exact hk
     have hkn:(k:Int)<(u.code.length:Int):=by omega
     have HCC:=za (HND.out k hk s2 (some ⟨bA,0,none⟩) u.code.length _ HL2.out.hb HL2.out.ah.rd HL2.out.gd.len);obtain⟨c0,c1,c2',c3,c4,c5,c6⟩:=zr HL2.out.hu;clear k0 k1 k2 k3 k4 k5 k6
     go_upto_region 11 with (first
      |(go_at_call 175;(with_reducible refine HCC.out.mono ?_);rintro e w3 ⟨hb,m,rfl,hs,hm⟩;have HB3:=za hb;have HS3:=za hs;have HM3:=za hm;clear hb hs hm))
     clear c0 c1 c2' c3 c4 c5 c6;have hLO:R9 u ca cc ga gc w bA s2 w3.drew:=⟨(HL2.out.hb.step HB3.out).step (zt _),zb ((HB3.out.trans ((zt _).mono HB3.out.size))) HL2.out.hu,(HL2.out.ah.below HB3.out).below (zt _),HL2.out.gd,HL2.out.ge⟩
     obtain⟨cur,hcur,hcv⟩:=hLO.ah;obtain⟨v,hv1,hv2⟩:=hcv k hks;have hck:w3.drew.cell? ⟨bA,k,none⟩=some v:=(zA _ _ _ _ _ _ hcur).trans hv1;have hlv:=fun ty=>hv2.len ty
     have hS3:YA w3.drew (.map (some m)) (jl u s2 k):=.inr ⟨m,rfl,HS3.out.below (zt _)⟩;have hlm:=fun ty=>hS3.len ty
     have HLO:=za hLO;have HSD:=za hS3;have HEk:Hid (s2.getD k []=s2[k]):=za (zk hks);have HST:Hid (yQ u (k+1) (s2,c2)=yQ u k (if (jl u s2 k).length≠(s2.getD k []).length then(s2.set k (jl u s2 k),true)else(s2,c2))):=za rfl;rw[HEk.out]at HST;clear hLO hcur hcv hv1 hv2 hS3 HCC;by_cases hne:(jl u s2 k).length=s2[k].length
     ·rw[zi (by simp[hne])]at HST
      have nb:(((jl u s2 k).length:Int)==(s2[k].length:Int))=true:=by simp[hne]
      have HEN:Hid (yQ u k (s2,c2)=yQ u u.code.length (s,false)):=za (HST.out.symm.trans HE.out);have hkl:(k:Int)<=600:=by omega
      go_region_with fail
      all_goals go_wp2
      all_goals go_roundg (0+k)
      all_goals first
       |omega
       |exact⟨k,(k:Int)-1,s2,c2,rfl,by omega,by omega,by go_num,rfl,HLO,HEN⟩
     ·rw[zj hne]at HST
      have nb:(((jl u s2 k).length:Int)==(s2[k].length:Int))=false:=by simp;omega
      have HEN:Hid (yQ u k (s2.set k (jl u s2 k),true)=yQ u u.code.length (s,false)):=za (HST.out.symm.trans HE.out)
      have HLS:Hid (R9 u ca cc ga gc w bA (s2.set k (jl u s2 k)) (w3.drew.setCell ⟨bA,k,none⟩ (.map (some m)))):=za (by
       obtain⟨q1,q2,q3,q4,q5⟩:=HLO.out
       exact⟨q1.setCell (p:=⟨bA,k,none⟩) (by show w.heap.size<=bA;omega) _,(yF _ _ _ _ (by show w.heap.size≠bA;omega)).trans q2,q3.set hks HSD.out,q4.step hk,q5⟩)
      obtain⟨curA,hA1,_⟩:=HLO.out.ah;have fA:=zF k hA1;clear hA1;have hkl:(k:Int)<=600:=by omega
      go_region_with fail
      all_goals go_wp2
      all_goals go_roundg (0+k)
      all_goals first
       |omega
       |exact⟨k,(k:Int)-1,_,true,rfl,by omega,by omega,by go_num,rfl,HLS,HEN⟩
end Go.Proofs.YtgalekifgnecjaaGreat
