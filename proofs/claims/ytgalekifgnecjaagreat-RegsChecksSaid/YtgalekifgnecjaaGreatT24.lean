/- The reader of package regs: homed, all cases -/
import Derived.Test.YtgalekifgnecjaaGreatT12
import Derived.Test.YtgalekifgnecjaaGreatT13
import Derived.Test.YtgalekifgnecjaaGreatT20
import Derived.Defers
import Derived.Recover
namespace Go.Proofs.YtgalekifgnecjaaGreat
open Tryz Go.RowKit
open Go.RowKit Go.Shelf
set_option maxHeartbeats 8000000
set_option maxRecDepth 100000
theorem DC(w0:World)(r:qF)(a:Nat)(w:World)(hm:Xs w0 r)(h:RI w0 r a w)(hw:zC r.u=true)(hh:r.h.length<=1000000)(ht:r.t.length<=1000000)(hv:r.v.code.length<=1000000)(hwf:∀x∈r.h,-9223372036854775808<=x/\x<=9223372036854775807):
  Calls prog 182 #[.pointer (some ⟨w0.heap.size,0,none⟩)] w (RP w0 r (if qk r.u r.v r.h r.t=true then some a else none) w):=by
 cases h1:X5 r.u r.v r.h r.t with
 |false=>
  rw[zi (by rw[Y2,h1];simp)]
  exact DB w0 r a w hm h hw hh ht hv h1
 |true=>exact Et w0 r a w hm h hw hh ht hv hwf h1
attribute [local go_sem] Oper.semAt_some
theorem Ae{v:zg}{h reads needed:List Int}:∀ {f a:Nat} {had:List Int} {m:List (Int×Int)} {lm:Nat×List (Int×Int)},vL v h reads needed f a had m=some lm->lm.1<=max a v.code.length
 |0,_,_,_,_,hl=>by cases hl
 |f+1,a,had,m,lm,hl=>by
  rw[vL]at hl
  cases hx:v.code[a]? with
  |none=>rw[hx]at hl;cases hl;exact Nat.le_max_left _ _
  |some x=>
   rw[hx]at hl;have hlt:a<v.code.length:=(ZE.1 hx).1;simp only at hl;split at hl
   ·cases hl;exact Nat.le_max_left _ _
   ·split at hl
    ·have:=Ae hl
     omega
    ·cases hl
theorem Lt{u v:zg}{h at':List Int}{m:List (Int×Int)}{behind:List Int}{frm:Nat}:∀ {n a b:Nat},jC u v h at' m behind frm n a=some b->b<=max a v.code.length
 |0,a,b,hl=>by cases hl;exact Nat.le_max_left _ _
 |n+1,a,b,hl=>by
  unfold jC at hl
  cases hi:jC u v h at' m behind frm n a with
  |none=>rw[hi]at hl;cases hl
  |some c=>
   rw[hi,xz]at hl;unfold qW at hl
   cases hx:v.code[c]? with
   |none=>rw[hx]at hl;cases hl
   |some x=>
    rw[hx]at hl;have hlt:c<v.code.length:=(ZE.1 hx).1;simp only at hl;split at hl
    ·cases hl;omega
    ·cases hl
theorem MJ{v:zg}{a b:Nat}{x:zm}(h:jY v a x=some b):b<=v.code.length:=by
 unfold jY at h;split at h
 ·rename_i hx
  have hlt:a<v.code.length:=(ZE.1 hx).1;cases h;omega
 ·cases h
theorem DR{u v:zg}{live:List (List Int)}{h at':List Int}{a b:Nat}{g:xd}(hg:ql u v live h at' a g=some b):b<=max a v.code.length:=by
 unfold ql at hg;split at hg
 ·cases hl:vL v h g.reads (yj u live g) (v.code.length+1) a [] []with
  |none=>rw[hl]at hg;cases hg
  |some lm=>
   rw[hl,xz]at hg;have h1:=Ae hl
   cases hi:jC u v h at' lm.2 (zU u live g) g.frm (g.til+1-g.frm) lm.1 with
   |none=>rw[hi]at hg;cases hg
   |some c=>
    rw[hi,xz]at hg;have h2:=Lt hi;split at hg
    ·have:=MJ hg
     omega
    ·cases hg
     omega
 ·cases hg
theorem Yj{u v:zg}{live:List (List Int)}{h at':List Int}:∀ {l l2:List xd} {a:Nat},xr u v live h at' (l++l2) a=(xr u v live h at' l a).bind (xr u v live h at' l2)
 | [],_,_=>rfl
 |g::l,l2,a=>by
  show(ql u v live h at' a g).bind (xr u v live h at' (l++l2))=_;show _=((ql u v live h at' a g).bind (xr u v live h at' l)).bind _
  cases ql u v live h at' a g with
  |none=>rfl
  |some b=>exact Yj
theorem UW{u v:zg}{live:List (List Int)}{h at':List Int}{l:List xd}{g:xd}{a:Nat}:xr u v live h at' (l++ [g]) a=(xr u v live h at' l a).bind fun b=>ql u v live h at' b g:=by
 rw[Yj]
 cases xr u v live h at' l a with
 |none=>rfl
 |some b=>
  show(ql u v live h at' b g).bind (xr u v live h at' [])=ql u v live h at' b g;cases ql u v live h at' b g<;>rfl
theorem G3{u v:zg}{live:List (List Int)}{h at':List Int}{l l2:List xd}{a:Nat}(hp:l <+: l2)(hn:xr u v live h at' l a=none):xr u v live h at' l2 a=none:=by
 obtain⟨t,rfl⟩:=hp;rw[Yj,hn];rfl
theorem Xg{F:Fence}{n:Nat}{P:Program}{fn:Func}{tmps:Array Value}{R:Ending->World->Prop}{D:Nat}{W:World}{ch:List PanicEntry}(hd:W.heap[D]?=some (.deferred (some [])))(h:LeavesIn F n P fn tmps R [] (.panicking ch) (W.putObj D (.deferred none))):LeavesInM F n P fn tmps R [QI D] (.panicking ch) W:=
 ⟨by simp,.inl ⟨D,W.putObj D (.deferred none),rfl,run_takeDeferred hd,h⟩⟩
theorem Qv{w W:World}{row:Option Nat}(h:w.grownBy W row){D:Nat}(hD:w.heap.size<=D)(o:Obj):w.grownBy (W.putObj D o) row:=
 ⟨h.os,h.tape,h.output,by simpa[World.putObj]using h.size,fun k hk hn=>(World.putObj_heap_other (by omega)).trans (h.block k hk hn)⟩
theorem RI.putObj{w0:World}{r:qF}{a:Nat}{W:World}(h:RI w0 r a W){D:Nat}(hD:w0.heap.size<D)(o:Obj):RI w0 r a (W.putObj D o):=
 ⟨h.hb.trans ⟨rfl,rfl,rfl,by simp[World.putObj],fun k hk=>World.putObj_heap_other (by omega)⟩,(World.putObj_heap_other (by omega)).trans h.hr⟩
def Tj(w0:World)(b:Bool)(w:World)(e:Ending)(w':World):Prop:=w.grownBy w' (some w0.heap.size)/\e=if b=true then .returned (.tuple #[])else .panicked jr
theorem yC.own{w w':World}{a:Option Addr}{l:List Int}{row:Option Nat}(h:yC w a l)(hg:w.grownBy w' row)(hr:∀r,row=some r->∃o:Obj,w.heap[r]?=some o/\o.isCells=false):yC w' a l:=by
 intro i hi;obtain⟨b,off,ha,hlt,hc⟩:=h i hi;refine⟨b,off,ha,xh hlt hg.size,(ZO (hg.block b hlt (fun e=> ?_))).trans hc⟩;obtain⟨o,ho,hn⟩:=hr b e.symm;unfold World.cell? at hc;rw[ho]at hc;cases o<;>simp_all [Obj.isCells]
structure Tk(w0 w:World)(r:qF)(a1:Nat)(pre:List YK)(W:World):Prop where
 ex:∃a,xr r.u r.v (zf r.u) r.h r.t (pre.map YK.g) a1=some a/\a<=1000/\RI w0 r a W
 hg:w.grownBy W (some w0.heap.size)
 h1:W.heap[w.heap.size]?=some (.cells #[.pointer (some ⟨w0.heap.size,0,none⟩)] 177)
theorem Uz(w0:World)(r:qF)(w:World)(hm:Xs w0 r)(h:RI w0 r 0 w)(hw:zC r.u=true)(hh:r.h.length<=1000000)(ht:r.t.length<=1000000)(hv:r.v.code.length<=1000000)(hvg:r.v.guards.length<=1000000)(hvb:∀y∈r.v.code,-9223372036854775808<=y.b/\y.b<=9223372036854775807)(hwf:∀x∈r.h,-9223372036854775808<=x/\x<=9223372036854775807):
  Calls prog 133 #[.pointer (some ⟨w0.heap.size,0,none⟩)] w (Tj w0 (vm r.u r.v r.h r.t) w):=by
 have HM:=za hm;have hlt:=ze h.hr;have hi1:RI w0 r 0 (w.alloc (.cells #[.pointer (some ⟨w0.heap.size,0,none⟩)] 177)):=h.below (zd _ _);have HX1:=za (zo w (.cells #[.pointer (some ⟨w0.heap.size,0,none⟩)] 177) _ rfl);have HG1:=za (yw (zd w (.cells #[.pointer (some ⟨w0.heap.size,0,none⟩)] 177)) (some w0.heap.size));have HHO:=za (DC w0 r 0 _ hm hi1 hw hh ht hv hwf);have HST:Hid (vm r.u r.v r.h r.t=(qk r.u r.v r.h r.t&&(((vy r.v r.h r.u.args.toNat).bind (xr r.u r.v (zf r.u) r.h r.t (yg r.u)))==some r.v.code.length)&&jS r.u r.v r.t)):=za rfl;have hargs:=zL hw;have HLT:=za hlt;clear hm h;obtain⟨w1,hw1⟩:∃w1,w1=w.alloc (.cells #[.pointer (some ⟨w0.heap.size,0,none⟩)] 177):=⟨_,rfl⟩
 rw[<-hw1]at HHO HX1 HG1 hi1;have HSZ:Hid (w1.heap.size=w.heap.size+1):=za (by rw[hw1];simp);have HI1:=za hi1;have c1:=qZ HX1.out;clear hi1
 cases hhd:qk r.u r.v r.h r.t with
 |false=>
  rw[hhd,zi (by simp)]at HHO;have HS:Hid (vm r.u r.v r.h r.t=false):=za (by rw[HST.out,hhd];rfl);go_enter func133,ntmps133;go_upto_region 1 with fail;rw[<-hw1];clear hw1
  go_wp2_with (first
   |(go_at_call 182;(with_reducible refine HHO.out.mono ?_);rintro e w2 ⟨hg,rfl⟩;have HG2:=za (HG1.out.andThen hg (fun j e=> .inr e));clear hg))
  exact⟨rfl,HG2.out,by rw[HS.out];rfl⟩
 |true=>
  rw[hhd,zj rfl]at HHO;have hho:=O7 hw hhd;have hl:=hho.hl;have HBG:=za (fun(w':World) (h:RI w0 r 0 w')=>ET w0 r w' HM.out h (by omega) (by omega))
  cases hbg:vy r.v r.h r.u.args.toNat with
  |none=>
   rw[hbg]at HBG;have HS:Hid (vm r.u r.v r.h r.t=false):=za (by rw[HST.out,hhd,hbg];rfl);go_enter func133,ntmps133;go_upto_region 1 with fail;rw[<-hw1];clear hw1
   go_wp2_with (first
    |(go_at_call 182;(with_reducible refine HHO.out.mono ?_);rintro e w2 ⟨hg,rfl,hi⟩;have HG2:=za (HG1.out.andThen hg (fun j e=> .inr e));have HI2:=za hi;have c1:=qZ (jG hg HX1.out (fun e=>by have e2:=Option.some.inj e;omega));clear hg hi)
    |(go_at_call 183;(with_reducible refine(HBG.out _ HI2.out).mono ?_);rintro e w3 ⟨hg,rfl⟩;have HG3:=za (HG2.out.andThen hg (fun j e=> .inr e));clear hg))
   exact⟨rfl,HG3.out,by rw[HS.out];rfl⟩
  |some a1=>
   rw[hbg]at HBG;have ha1:=U8 hbg;have ha1n:a1<=1000:=by omega
   have HS:Hid (vm r.u r.v r.h r.t=(((xr r.u r.v (zf r.u) r.h r.t (yg r.u) a1)==some r.v.code.length)&&jS r.u r.v r.t)):=za (by rw[HST.out,hhd,hbg];rfl);have HGR:=za (fun(w':World) (hb:Below w0.heap.size w0 w')=>QY r.u r.ca r.cc r.ga r.gc w' (HM.out.below hb).mu (by have:=qA hw;omega));have HHOM:=za hho;have HWR:=za hw;have HHD:=za hhd;clear HST hhd hbg hho hl;refine(qC (n:=20)).1 (ZJ func133 rfl ?_);simp only[ntmps133,List.size_toArray,xv,List.length_nil,Nat.reduceAdd,Nat.reduceSub,Array.replicate_succ,JM,List.push_toArray,List.append_toArray,Zd,Y6];refine xy.seq (xy.of (wpIn_wide.2 ?_));go_wp2;rw[<-hw1];clear hw1;refine xy.seq (xy.of (wpIn_wide.2 ?_))
   go_wp2_with (first
    |(go_at_call 182;(with_reducible refine HHO.out.mono ?_);rintro e w2 ⟨hg,rfl,hi⟩;have HG2:=za (HG1.out.andThen hg (fun j e=> .inr e));have HI2:=za hi;have HX2:=za (jG hg HX1.out (fun e=>by have e2:=Option.some.inj e;omega));have c2:=qZ HX2.out;clear hg hi))
   refine xy.seq (xy.of (wpIn_wide.2 ?_))
   go_wp2_with (first
    |(go_at_call 183;(with_reducible refine(HBG.out _ HI2.out).mono ?_);rintro e w3 ⟨hg,rfl,hi⟩;have HG3:=za (HG2.out.andThen hg (fun j e=> .inr e));have HI3:=za hi;have HX3:=za (jG hg HX2.out (fun e=>by have e2:=Option.some.inj e;omega));have c3:=qZ HX3.out;clear hg hi))
   have hsz3:=HI3.out.hb.size;have hlw:=HLT.out;have k0:=(zA _ _ 0 _ _ _ HI3.out.hr).trans rfl;have k1:=(zA _ _ 1 _ _ _ HI3.out.hr).trans rfl;have k2:=(zA _ _ 2 _ _ _ HI3.out.hr).trans rfl;have k3:=(zA _ _ 3 _ _ _ HI3.out.hr).trans rfl;have k4:=(zA _ _ 4 _ _ _ HI3.out.hr).trans rfl;have k5:=(zA _ _ 5 _ _ _ HI3.out.hr).trans rfl;have k6:=(zA _ _ 6 _ _ _ HI3.out.hr).trans rfl;refine xy.seq (xy.seq (xy.of (wpIn_wide.2 ?_)))
   go_wp2_with (first
    |(go_at_call 51;(with_reducible refine(HGR.out _ HI3.out.hb).mono ?_);rintro e w4 ⟨hb,gu,gf,gb,rfl,hga⟩;have HB4:=za hb;have HA4:=za hga;clear hb hga))
   clear k0 k1 k2 k3 k4 k5 k6 c1 c2 c3;have HI4:=za (HI3.out.below HB4.out);have HG4:=za (HG3.out.andThen (yw HB4.out (some w0.heap.size)) (fun j e=> .inr e));have HX4:=za (zb HB4.out HX3.out);have hlr:w0.heap.size<w4.heap.size:=ze HI4.out.hr;have hlD:w.heap.size<w4.heap.size:=ze HX4.out
   have hun:Fq (NQ (fun k=>k=w0.heap.size)) w4 r.u r.ca r.cc r.ga r.gc:=by
    refine⟨(HM.out.below HI4.out.hb).mu,fun h0 b o e=> ?_,fun h0 b o e=> ?_⟩
    ·obtain⟨b',o',e',hl,_⟩:=HM.out.mu.rc 0 h0
     rw[e]at e';cases e';exact Nat.ne_of_lt hl
    ·obtain⟨b',o',e',hl,_⟩:=HM.out.mu.rg 0 h0
     rw[e]at e';cases e';exact Nat.ne_of_lt hl
   have hlu:=HA4.out.lu;have hlf:=HA4.out.lf;have hlb:=HA4.out.lb;have hmi:∀k,w3.heap.size<=k->NQ (fun k=>k=w0.heap.size) w4 k:=fun k h=>by show ¬k=w0.heap.size;have:=ze HI3.out.hr;omega
   have hseq:=QX 19 (by omega) (ZC (fun k=>k=w0.heap.size)) r.u (qA HWR.out) r.ca r.cc r.ga r.gc gu gf gb w4 HA4.out.hu HA4.out.hf HA4.out.hb hun (hmi _ hlu) (hmi _ hlf) (hmi _ hlb) (fun k hk=>by rw[hk];exact hlr);clear hun hmi
   refine xy.block (QM (α:=YK) rfl (by omega) (gf:=114) (lb:=#[.pointer (some ⟨gu,0,none⟩),.pointer (some ⟨gf,0,none⟩)]) rfl (enters_of func114 (by kernel_rfl) rfl) hseq Yu.trans (GS (ZC _)) (zG _ _) (fun _=>rfl)
    (fun pre W=>Tk w0 w r a1 pre W) (fun ch pre W=>ch=jr/\xr r.u r.v (zf r.u) r.h r.t (pre.map YK.g) a1=none/\w.grownBy W (some w0.heap.size)) ?hI ?h0
    (fun x a' W=>∃bG t3 t4 t5 t6 t7 t8 t9 t10 t11 t12,a'=⟨#[.pointer (some ⟨w0.heap.size,0,none⟩),.pointer (some ⟨w.heap.size,0,none⟩),.pointer (some ⟨bG,0,none⟩),t3,t4,t5,t6,t7,t8,t9,t10,t11,t12,NV x,undef,undef,undef,undef,undef,undef,undef,undef,undef,undef,undef,undef,undef,undef,undef,undef,undef],[]⟩/\w0.heap.size<bG/\W.heap[bG]?=some (.cells #[.int .i64 x.g.frm,.int .i64 x.g.til,.slice x.a x.g.reads.length x.c,.int .i64 x.g.wr] 107)/\yC W x.a x.g.reads/\(∀b off,x.a=some ⟨b,off,none⟩->b<W.heap.size/\b≠w0.heap.size)) ?hAx ?assign ?body ?done ?panic)
   case hI=>
    rintro pre A B row ⟨⟨a,h1,h2,h3⟩,h4,h5⟩ hg hr;refine⟨⟨a,h1,h2,h3.grown hg (fun k e=>by have:=(hr k e).1;omega)⟩,h4.andThen hg (fun j e=> .inl (by have:=(hr j e).1;omega)),(qK hg (fun r e=>(hr r e).2) h5 rfl).trans h5⟩
   case h0=>exact⟨⟨a1,rfl,ha1n,HI4.out⟩,HG4.out,HX4.out⟩
   case hAx=>
    rintro x a' _ A B row ⟨bG,t3,t4,t5,t6,t7,t8,t9,t10,t11,t12,rfl,hl,hx,hr2,hb2⟩ hg hr;exact⟨bG,t3,t4,t5,t6,t7,t8,t9,t10,t11,t12,rfl,hl,(qK hg (fun r e=>(hr r e).2) hx rfl).trans hx,hr2.own hg (fun r e=>(hr r e).2),fun b off e=>⟨xh (hb2 b off e).1 hg.size,(hb2 b off e).2⟩⟩
   case assign=>
    intro l pre x W K hI hF hK;have hsW:=ze hI.h1;obtain⟨⟨a,h1,h2,h3⟩,h4,h5⟩:=hI
    gi_wp2
    refine hK _ _ ((KeepsOthers.alloc _ _).from _) (fun hw=>yI.of_below (ZC _) hw (zd _ _)) ⟨⟨a,h1,h2,h3.below (zd _ _)⟩,h4.andThen (yw (zd _ _) (some w0.heap.size)) (fun j e=> .inr e),zb (zd _ _) h5⟩ ⟨_,_,_,_,_,_,_,_,_,_,_,rfl,by omega,zo _ _ _ rfl,hF.1.below (zd _ _),fun b off e=>⟨xh (hF.2.2 b off e).1 (zd _ _).size,(hF.2.2 b off e).2⟩⟩
   case body=>
    rintro l pre x a' W hI ⟨bG,t3,t4,t5,t6,t7,t8,t9,t10,t11,t12,rfl,hlb,hx,hr2,hb2⟩ hpre;obtain⟨⟨a,h1,h2,h3⟩,h4,h5⟩:=hI;have HI3w:=za h3;have HR2:=za hr2;have HB2:=za hb2;have hmem:x.g∈yg r.u:=hpre.subset (by simp);have v0:=qZ h5;obtain⟨q0,q1,q2,q3⟩:=zX hx;have HC:=za (IY w0 r a x W HM.out h3 HWR.out hmem hr2 hb2 HHD.out h2 hvb);have HK5:=za h5;have HG5:=za h4
    have hpc:xr r.u r.v (zf r.u) r.h r.t ((pre++ [x]).map YK.g) a1=ql r.u r.v (zf r.u) r.h r.t a x.g:=by
     rw[q8,List.map_singleton,UW,h1];rfl
    have HPC:=za hpc;have HA:=za h2;clear hr2 hb2 h3 h1 h2 hpc hx h4 h5 hseq
    cases hgc:ql r.u r.v (zf r.u) r.h r.t a x.g with
    |none=>
     rw[hgc]at HC HPC
     gi_wp2_with (first
      |((try refine⟨trivial,?_⟩);gi_at_call 184;(with_reducible refine(CallsIn.inRound l (qC.2 HC.out)).mono ?_);rintro e w5 ⟨hg,rfl⟩;have HG6:=za hg;clear hg))
     exact⟨rfl,KeepsFrom.of_grownBy HG6.out (fun j e=>by cases e;exact hlr),rfl,HPC.out,HG5.out.andThen HG6.out (fun j e=> .inr e)⟩
    |some b=>
     have hble:=DR hgc;rw[hgc]at HC HPC
     gi_wp2_with (first
      |((try refine⟨trivial,?_⟩);gi_at_call 184;(with_reducible refine(CallsIn.inRound l (qC.2 HC.out)).mono ?_);rintro e w5 ⟨hg,rfl,hi⟩;have HG6:=za hg;have HI6:=za hi;clear hg hi))
     exact⟨KeepsFrom.of_grownBy HG6.out (fun j e=>by cases e;exact hlr),fun hw=>⟨fun k hk=>by rw[hk];exact ze HI6.out.hr,HG6.out.os,HG6.out.tape,HG6.out.output,HG6.out.size,fun k o m hk _=>⟨(HG6.out.block k (ze hk) (fun e=>m (Option.some.inj e))).trans hk,m⟩⟩,⟨b,HPC.out,by have:=HHOM.out.vc;have:=HA.out;omega,HI6.out⟩,HG5.out.andThen HG6.out (fun j e=> .inr e),Ye HG6.out HK5.out (by omega)⟩
   case done=>
    rintro D xs W hD hS ⟨⟨a,h1,h2,h3⟩,h4,h5⟩ hdef;have HS2:Hid (vm r.u r.v r.h r.t=(decide (a=r.v.code.length)&&jS r.u r.v r.t)):=za (by rw[HS.out,<-hS,h1];congr 1);have HI7:=za h3;have HG7:=za h4;have HD7:=za hdef;have v1:=qZ h5;have HX7:=za h5;have k13:=h3.k13;have k17:=h3.k17;clear h1 h3 h4 h5 hdef hS hseq;dsimp only;refine xy.seq (n:=20) (xy.of (n:=20) (wpIn_wide.2 ?_))
    cases hq:((a:Int)==(r.v.code.length:Int))with
    |false=>
     have hdc:decide (a=r.v.code.length)=false:=yn (fun e=>by rw[e]at hq;simp at hq);go_upto_region 6 with fail;go_still_tail 11,(by kernel_rfl);change wpList _ _ _ _ _ W.drew
     go_wp2_with (first
      |(go_at_call 185;(with_reducible refine(yM _).mono ?_);rintro e w' ⟨rfl,rfl⟩))
     refine Xg HD7.out ?_
     exact⟨Qv (HG7.out.andThen (yw (zt _) (some w0.heap.size)) (fun j e=> .inr e)) (by omega) _,by rw[HS2.out,hdc];rfl⟩
    |true=>
     go_upto_region 6 with fail;go_still_tail 11,(by kernel_rfl);change wpList _ _ _ _ _ W.drew
     go_wp2_with (first
      |(go_at_call 185;(with_reducible refine(yE _).mono ?_);rintro e w' ⟨rfl,rfl⟩))
     have e:decide (a=r.v.code.length)=true:=zP (by have:=eq_of_beq hq;omega);rw[e,xk]at HS2;clear k13 k17 v1;have HG8:=za (HG7.out.andThen (yw (zt W) (some w0.heap.size)) (fun j e=> .inr e));have HI8:=za (HI7.out.below (zt W));have HX8:=za (zb (zt W) HX7.out);have HD8:=za (zb (zt W) HD7.out);generalize W.drew=W8 at *;have v1:=qZ HX8.out;have HC8:=za (Ev w0 r a W8 HM.out HI8.out (zH HWR.out) HHOM.out.tl hvg hv);refine xy.of (n:=20) (wpIn_wide.2 ?_)
     cases hgd:jS r.u r.v r.t with
     |false=>
      rw[hgd,zi (by simp)]at HC8
      go_wp2_with (first
       |(go_at_call 186;(with_reducible refine HC8.out.mono ?_);rintro e w9 ⟨hg,rfl⟩;have HG9:=za (HG8.out.andThen hg (fun j e=> .inr e));have HR9:=za hg;clear hg))
      refine Xg (Ye HR9.out HD8.out (by omega)) ?_
      exact⟨Qv HG9.out (by omega) _,by rw[HS2.out,hgd];rfl⟩
     |true=>
      rw[hgd,zj rfl]at HC8
      go_wp2_with (first
       |(go_at_call 186;(with_reducible refine HC8.out.mono ?_);rintro e w9 ⟨hg,rfl,hi⟩;have HG9:=za (HG8.out.andThen hg (fun j e=> .inr e));have HR9:=za hg;clear hg hi))
      refine Xh (Ye HR9.out HD8.out (by omega)) ⟨.tuple #[],?_,Qv HG9.out (by omega) _,by rw[HS2.out,hgd];rfl⟩;simp[results,Tryz.results133,go_sem]
   case panic=>
    rintro D ch pre W hD hpre ⟨rfl,h1,h2⟩ hdef;have HS2:Hid (vm r.u r.v r.h r.t=false):=za (by rw[HS.out,G3 hpre h1];rfl);refine Xg hdef ?_;exact⟨Qv h2 (by omega) _,by rw[HS2.out];rfl⟩
theorem RM(w:World):(binOp .neq 20 (.iface 175 (.agg #[])) .nilIface).run prog w= .ok (.bool true) w:=by kernel_rfl
theorem PE(w:World):(binOp .neq 20 .nilIface .nilIface).run prog w= .ok (.bool false) w:=by kernel_rfl
theorem Nw(w:World):(Instr.typeAssert (.iface 175 (.agg #[])) 20 175 true).run prog w= .ok (.tuple #[.agg #[],.bool true]) w:=by kernel_rfl
theorem Iz(p:Addr)(x:Bool)(w:World)(hc:w.cell? p=some (.bool x))(hz:w.frozen? p=false)(hp:p.block<w.heap.size):
  CallsD prog 132 #[.pointer (some p)] (.panicking jr) w fun e u' w' =>
   e= .returned (.tuple #[])/\u'= .panicking [{ v:=.iface 175 (.agg #[]),recovered:=true }]/\∃o,w'=(w.alloc o).setCell p (.bool false):=by
 have q2:=RM;have q3:=Nw;unfold jr;refine callsD_of_wpS func132 rfl fun c₀ cs hu=> ?_
 apply wpS_seq;apply wpS_region;simp[wpOpsS,go_sem,recoverD,hu,ntmps132,Exit.thenS];apply wpS_seq;apply wpS_region;simp[wpOpsS,go_sem,q2,Exit.thenS];refine wpS_cond (t:=true) (by simp[Act.eval,Array.replicate]) ?_;simp only[if_true];apply wpS_seq;apply wpS_seq;apply wpS_region;simp[wpOpsS,go_sem,q3,Exit.thenS];apply wpS_seq;apply wpS_region;simp[wpOpsS,go_sem,Exit.thenS];refine wpS_cond (t:=false) (by simp[Act.eval,Array.replicate]) ?_;simp only[XH,if_false];refine wpS_of_wp (wp_skip ?_);apply wpS_region;have hc2:=zK (zd w (.cells #[] 175)) hc;have hz2:(w.alloc (.cells #[] 175)).frozen? p=false:=((zd w (.cells #[] 175)).frozen hp).trans hz;simp[wpOpsS,go_sem,hc2,hz2,bodyPostS,results,Tryz.results132];exact⟨_,rfl⟩
theorem ER(p:Addr)(w:World):
  CallsD prog 132 #[.pointer (some p)] .returning w fun e u' w'=>e= .returned (.tuple #[])/\u'= .returning/\w'=w:=by
 have q3:=PE;refine callsD_of_wpS func132 rfl fun c₀ cs hu=> ?_
 apply wpS_seq;apply wpS_region;simp[wpOpsS,go_sem,recoverD,hu,ntmps132,Exit.thenS];apply wpS_seq;apply wpS_region;simp[wpOpsS,go_sem,q3,Exit.thenS];refine wpS_cond (t:=false) (by simp[Act.eval,Array.replicate]) ?_;simp only[XH,if_false];refine wpS_of_wp (wp_skip ?_);cases c₀
 simp_all [bodyPostS,results,Tryz.results132]
abbrev Sg(ha:Option Addr)(h:List Int)(hc:Nat)(ta:Option Addr)(t:List Int)(tc:Nat):Value:=.agg #[.slice ha h.length hc,.slice ta t.length tc]
structure Rc(w:World)(u v:zg)(h t:List Int)(ca cc ga gc)(da dc ea ec)(ha hc ta tc)(wr:World):Prop where
 hb:Below w.heap.size w wr
 hu:wr.heap[w.heap.size]?=some (oU u ca cc ga gc)
 hv:wr.heap[w.heap.size+1]?=some (oU v da dc ea ec)
 hh:wr.heap[w.heap.size+1+1]?=some (.cells #[.slice ha h.length hc,.slice ta t.length tc] 30)
 hr:wr.heap[w.heap.size+1+1+1]?=some (.cells #[.bool false] 4)
theorem Rc.below{w:World}{u v:zg}{h t:List Int}{ca cc ga gc}{da dc ea ec}{ha hc ta tc}{wr wr':World}(s:Rc w u v h t ca cc ga gc da dc ea ec ha hc ta tc wr)(hb:Below wr.heap.size wr wr'):Rc w u v h t ca cc ga gc da dc ea ec ha hc ta tc wr':=
 ⟨s.hb.step hb,zb hb s.hu,zb hb s.hv,zb hb s.hh,zb hb s.hr⟩
theorem IP(u v:zg)(h t:List Int)(ca cc ga gc)(da dc ea ec)(ha:Option Addr)(hc:Nat)(ta:Option Addr)(tc:Nat)(w:World)
  (mu:jo w u ca cc ga gc) (mv:jo w v da dc ea ec) (mh:yC w ha h) (mt:yC w ta t) (hw:zC u=true) (hh:h.length<=1000000) (ht:t.length<=1000000) (hv:v.code.length<=1000000) (hvg:v.guards.length<=1000000) (hvb:∀y∈v.code,-9223372036854775808<=y.b/\y.b<=9223372036854775807) (hwf:∀x∈h,-9223372036854775808<=x/\x<=9223372036854775807):
  Calls prog 62 #[vU u ca cc ga gc,vU v da dc ea ec,Sg ha h hc ta t tc] w (zV (.bool (vm u v h t)) w):=by
 have hmf:∀(fn:Fn) (first cap:Array Value) (w:World),(Instr.makeFunc fn first cap).run prog w= .ok (.func fn first cap) w:=fun _ _ _ _=>rfl
 have HMU:=za mu;have HMV:=za mv;have HMH:=za mh;have HMT:=za mt;have HFO:=za (fun w' (hb:Below w.heap.size w w')=>Xn u ca cc ga gc w' (HMU.out.below hb) hw);have HWF:=za hwf;have HVB:=za hvb;have HWR:=za hw;clear mu mv mh mt hwf hw hvb
 have HI:=za (show Rc w u v h t ca cc ga gc da dc ea ec ha hc ta tc ((((w.alloc (oU u ca cc ga gc)).alloc (oU v da dc ea ec)).alloc (.cells #[.slice ha h.length hc,.slice ta t.length tc] 30)).alloc (.cells #[.bool false] 4))from
  ⟨(((zd _ _).step (zd _ _)).step (zd _ _)).step (zd _ _),zb (zd _ _) (zb (zd _ _) (zb (zd _ _) (zo _ _ _ rfl))),zb (zd _ _) (zb (zd _ _) (zo _ _ _ (by simp))),zb (zd _ _) (zo _ _ _ (by simp)),zo _ _ _ (by simp)⟩)
 obtain⟨wa,hwa⟩:∃wa,wa=(((w.alloc (oU u ca cc ga gc)).alloc (oU v da dc ea ec)).alloc (.cells #[.slice ha h.length hc,.slice ta t.length tc] 30)).alloc (.cells #[.bool false] 4):=⟨_,rfl⟩
 rw[<-hwa]at HI;obtain⟨k0,k1,k2,k3,k4,k5,k6⟩:=zr HI.out.hu;obtain⟨v0,v1,v2,v3,v4,v5,v6⟩:=zr HI.out.hv;obtain⟨h0,h1,_,_⟩:=qe HI.out.hh;have HS:Hid (∀W,Below wa.heap.size wa W->W.cell? ⟨w.heap.size,0,none⟩=some (.string u.cls)/\W.cell? ⟨w.heap.size,1,none⟩=some (.string u.name)/\W.cell? ⟨w.heap.size,2,none⟩=some (.int .i64 u.args)/\W.cell? ⟨w.heap.size,3,none⟩=some (.int .i64 u.slots)/\W.cell? ⟨w.heap.size,4,none⟩=some (.int .i64 u.frame)/\W.cell? ⟨w.heap.size,5,none⟩=some (.slice ca u.code.length cc)/\W.cell? ⟨w.heap.size,6,none⟩=some (.slice ga u.guards.length gc)/\W.cell? ⟨w.heap.size+1,0,none⟩=some (.string v.cls)/\W.cell? ⟨w.heap.size+1,1,none⟩=some (.string v.name)/\W.cell? ⟨w.heap.size+1,2,none⟩=some (.int .i64 v.args)/\W.cell? ⟨w.heap.size+1,3,none⟩=some (.int .i64 v.slots)/\W.cell? ⟨w.heap.size+1,4,none⟩=some (.int .i64 v.frame)/\W.cell? ⟨w.heap.size+1,5,none⟩=some (.slice da v.code.length dc)/\W.cell? ⟨w.heap.size+1,6,none⟩=some (.slice ea v.guards.length ec)/\W.cell? ⟨w.heap.size+1+1,0,none⟩=some (.slice ha h.length hc)/\W.cell? ⟨w.heap.size+1+1,1,none⟩=some (.slice ta t.length tc)):=za (fun W hb=>⟨zK hb k0,zK hb k1,zK hb k2,zK hb k3,zK hb k4,zK hb k5,zK hb k6,zK hb v0,zK hb v1,zK hb v2,zK hb v3,zK hb v4,zK hb v5,zK hb v6,zK hb h0,zK hb h1⟩)
 cases hs:vm u v h t with
 |true=>
  go_enter_defers func62,ntmps62
  go_upto_region 2 with fail;rw[<-hwa];clear hwa
  go_region_held3 (fun W=>W.cell? ⟨w.heap.size,0,none⟩=some (.string u.cls)/\W.cell? ⟨w.heap.size,1,none⟩=some (.string u.name)/\W.cell? ⟨w.heap.size,2,none⟩=some (.int .i64 u.args)/\W.cell? ⟨w.heap.size,3,none⟩=some (.int .i64 u.slots)/\W.cell? ⟨w.heap.size,4,none⟩=some (.int .i64 u.frame)/\W.cell? ⟨w.heap.size,5,none⟩=some (.slice ca u.code.length cc)/\W.cell? ⟨w.heap.size,6,none⟩=some (.slice ga u.guards.length gc)/\W.cell? ⟨w.heap.size+1,0,none⟩=some (.string v.cls)/\W.cell? ⟨w.heap.size+1,1,none⟩=some (.string v.name)/\W.cell? ⟨w.heap.size+1,2,none⟩=some (.int .i64 v.args)/\W.cell? ⟨w.heap.size+1,3,none⟩=some (.int .i64 v.slots)/\W.cell? ⟨w.heap.size+1,4,none⟩=some (.int .i64 v.frame)/\W.cell? ⟨w.heap.size+1,5,none⟩=some (.slice da v.code.length dc)/\W.cell? ⟨w.heap.size+1,6,none⟩=some (.slice ea v.guards.length ec)/\W.cell? ⟨w.heap.size+1+1,0,none⟩=some (.slice ha h.length hc)/\W.cell? ⟨w.heap.size+1+1,1,none⟩=some (.slice ta t.length tc))
   (first|exact HS.out _ (zt _)|exact HS.out _ hb5|exact HS.out _ (hb5.step (zd _ _)))
   ((go_at_call 48;(with_reducible refine(HFO.out _ (HI.out.hb.step (zt _))).mono ?_);rintro e w5 ⟨hb,v5,rfl,ho⟩;obtain⟨va,vc,rfl,hrl⟩:=ho.rd;have hb5:=(zt wa).step hb;have HL5:=za hrl;clear hb ho hrl))
  have HI5:=za (HI.out.below hb5);clear HS HFO k0 k1 k2 k3 k4 k5 k6 v0 v1 v2 v3 v4 v5 v6 h0 h1;obtain⟨w6,hw6⟩:∃w6,w6=w5.alloc (Obj.cells #[.string u.cls,.string u.name,.int .i64 u.args,.int .i64 u.slots,.int .i64 u.frame,.slice ca u.code.length cc,.slice ga u.guards.length gc,.slice va (zf u).length vc,.string v.cls,.string v.name,.int .i64 v.args,.int .i64 v.slots,.int .i64 v.frame,.slice da v.code.length dc,.slice ea v.guards.length ec,.slice ha h.length hc,.slice ta t.length tc,.int .i64 0] 179):=⟨_,rfl⟩
  rw[<-hw6];have HCK:=za (Uz w5 ⟨u,v,h,t,ca,cc,ga,gc,va,vc,da,dc,ea,ec,ha,hc,ta,tc⟩ w6 ⟨HMU.out.below HI5.out.hb,HL5.out,HMV.out.below HI5.out.hb,HMH.out.below HI5.out.hb,HMT.out.below HI5.out.hb⟩ (by rw[hw6];exact⟨zd _ _,zo _ _ _ rfl⟩) HWR.out hh ht hv hvg HVB.out HWF.out);have HI6:Hid (Rc w u v h t ca cc ga gc da dc ea ec ha hc ta tc w6):=za (by rw[hw6];exact HI5.out.below (zd _ _));have HZ5:=za (ze HI5.out.hr);clear hw6;dsimp only at HCK;rw[hs]at HCK
  go_wp2_with (first
   |(go_at_call 133;(with_reducible refine HCK.out.mono ?_);rintro e w7 ⟨hg,rfl⟩;have HX7:=za (jG hg HI6.out.hr (fun e=>by have e2:=Option.some.inj e;have:=HZ5.out;omega));have HB7:=za (HI6.out.hb.grown hg HI6.out.hb.size (fun r e=>by cases e;have:=HZ5.out;omega));have kc:=qZ HX7.out;have kf:=YF (k:=0) HX7.out;clear hg))
  refine leaves_cons (f:=132) (args:=#[.pointer (some ⟨w.heap.size+1+1+1,0,none⟩)]) (by simp) (by simp[go_sem]) ?_;refine(ER ⟨w.heap.size+1+1+1,0,none⟩ _).mono ?_;rintro e u' w2 ⟨rfl,rfl,rfl⟩;have HB:=za (Below.setCell HB7.out (p:=⟨w.heap.size+1+1+1,0,none⟩) (by show w.heap.size<=w.heap.size+1+1+1;omega) (.bool true));have kd:(w7.setCell ⟨w.heap.size+1+1+1,0,none⟩ (.bool true)).cell? ⟨w.heap.size+1+1+1,0,none⟩=some (.bool true):=jP (yk _ _ 0 _ _ _ HX7.out) rfl;simp[Leaves,settle,results,Tryz.results62,go_sem];rw[kd]
  exact⟨_,rfl,rfl,HB.out⟩
 |false=>
  go_enter_defers func62,ntmps62
  go_upto_region 2 with fail;rw[<-hwa];clear hwa
  go_region_held3 (fun W=>W.cell? ⟨w.heap.size,0,none⟩=some (.string u.cls)/\W.cell? ⟨w.heap.size,1,none⟩=some (.string u.name)/\W.cell? ⟨w.heap.size,2,none⟩=some (.int .i64 u.args)/\W.cell? ⟨w.heap.size,3,none⟩=some (.int .i64 u.slots)/\W.cell? ⟨w.heap.size,4,none⟩=some (.int .i64 u.frame)/\W.cell? ⟨w.heap.size,5,none⟩=some (.slice ca u.code.length cc)/\W.cell? ⟨w.heap.size,6,none⟩=some (.slice ga u.guards.length gc)/\W.cell? ⟨w.heap.size+1,0,none⟩=some (.string v.cls)/\W.cell? ⟨w.heap.size+1,1,none⟩=some (.string v.name)/\W.cell? ⟨w.heap.size+1,2,none⟩=some (.int .i64 v.args)/\W.cell? ⟨w.heap.size+1,3,none⟩=some (.int .i64 v.slots)/\W.cell? ⟨w.heap.size+1,4,none⟩=some (.int .i64 v.frame)/\W.cell? ⟨w.heap.size+1,5,none⟩=some (.slice da v.code.length dc)/\W.cell? ⟨w.heap.size+1,6,none⟩=some (.slice ea v.guards.length ec)/\W.cell? ⟨w.heap.size+1+1,0,none⟩=some (.slice ha h.length hc)/\W.cell? ⟨w.heap.size+1+1,1,none⟩=some (.slice ta t.length tc))
   (first|exact HS.out _ (zt _)|exact HS.out _ hb5|exact HS.out _ (hb5.step (zd _ _)))
   ((go_at_call 48;(with_reducible refine(HFO.out _ (HI.out.hb.step (zt _))).mono ?_);rintro e w5 ⟨hb,v5,rfl,ho⟩;obtain⟨va,vc,rfl,hrl⟩:=ho.rd;have hb5:=(zt wa).step hb;have HL5:=za hrl;clear hb ho hrl))
  have HI5:=za (HI.out.below hb5);clear HS HFO k0 k1 k2 k3 k4 k5 k6 v0 v1 v2 v3 v4 v5 v6 h0 h1;obtain⟨w6,hw6⟩:∃w6,w6=w5.alloc (Obj.cells #[.string u.cls,.string u.name,.int .i64 u.args,.int .i64 u.slots,.int .i64 u.frame,.slice ca u.code.length cc,.slice ga u.guards.length gc,.slice va (zf u).length vc,.string v.cls,.string v.name,.int .i64 v.args,.int .i64 v.slots,.int .i64 v.frame,.slice da v.code.length dc,.slice ea v.guards.length ec,.slice ha h.length hc,.slice ta t.length tc,.int .i64 0] 179):=⟨_,rfl⟩
  rw[<-hw6];have HCK:=za (Uz w5 ⟨u,v,h,t,ca,cc,ga,gc,va,vc,da,dc,ea,ec,ha,hc,ta,tc⟩ w6 ⟨HMU.out.below HI5.out.hb,HL5.out,HMV.out.below HI5.out.hb,HMH.out.below HI5.out.hb,HMT.out.below HI5.out.hb⟩ (by rw[hw6];exact⟨zd _ _,zo _ _ _ rfl⟩) HWR.out hh ht hv hvg HVB.out HWF.out);have HI6:Hid (Rc w u v h t ca cc ga gc da dc ea ec ha hc ta tc w6):=za (by rw[hw6];exact HI5.out.below (zd _ _));have HZ5:=za (ze HI5.out.hr);clear hw6;dsimp only at HCK;rw[hs]at HCK
  go_wp2_with (first
   |(go_at_call 133;(with_reducible refine HCK.out.mono ?_);rintro e w7 ⟨hg,rfl⟩;have HX7:=za (jG hg HI6.out.hr (fun e=>by have e2:=Option.some.inj e;have:=HZ5.out;omega));have HB7:=za (HI6.out.hb.grown hg HI6.out.hb.size (fun r e=>by cases e;have:=HZ5.out;omega));have kc:=qZ HX7.out;have kf:=YF (k:=0) HX7.out;clear hg))
  refine leaves_cons (f:=132) (args:=#[.pointer (some ⟨w.heap.size+1+1+1,0,none⟩)]) (by simp) (by simp[go_sem]) ?_;refine(Iz ⟨w.heap.size+1+1+1,0,none⟩ false _ kc kf (ze HX7.out)).mono ?_;rintro e u' w2 ⟨rfl,rfl,oz,rfl⟩;have HX8:=za (zb (zd w7 oz) HX7.out);have HB:=za (Below.setCell (HB7.out.step (zd w7 oz)) (p:=⟨w.heap.size+1+1+1,0,none⟩) (by show w.heap.size<=w.heap.size+1+1+1;omega) (.bool false));have kd:((w7.alloc oz).setCell ⟨w.heap.size+1+1+1,0,none⟩ (.bool false)).cell? ⟨w.heap.size+1+1+1,0,none⟩=some (.bool false):=jP (yk _ _ 0 _ _ _ HX8.out) rfl;simp[Leaves,settle,results,Tryz.results62,go_sem];rw[kd];exact⟨_,rfl,rfl,HB.out⟩
theorem YP(u v:zg)(h t:List Int)(ca cc ga gc)(da dc ea ec)(ha:Option Addr)(hc:Nat)(ta:Option Addr)(tc:Nat)(w:World)
  (mu:jo w u ca cc ga gc) (mv:jo w v da dc ea ec) (mh:yC w ha h) (mt:yC w ta t) (huc:u.code.length<=1000000) (hug:u.guards.length<=1000000) (hh:h.length<=1000000) (ht:t.length<=1000000) (hv:v.code.length<=1000000) (hvg:v.guards.length<=1000000) (hvb:∀y∈v.code,-9223372036854775808<=y.b/\y.b<=9223372036854775807) (hwf:∀x∈h,-9223372036854775808<=x/\x<=9223372036854775807):
  Calls prog 18 #[vU u ca cc ga gc,vU v da dc ea ec,Sg ha h hc ta t tc] w (zV (.int .i64 (qS u v h t)) w):=by
 have HWT:=za (fun w' hb=>qv u ca cc ga gc w' (mu.below hb) huc hug);have HST:=za (fun w' hb (hw:zC u=true)=>IP u v h t ca cc ga gc da dc ea ec ha hc ta tc w' (mu.below hb) (mv.below hb) (mh.below hb) (mt.below hb) hw hh ht hv hvg hvb hwf);have HB:=za (((zd w (oU u ca cc ga gc)).step (zd _ (oU v da dc ea ec))).step (zd _ (.cells #[.slice ha h.length hc,.slice ta t.length tc] 30)));have HU:=za (show((((w.alloc (oU u ca cc ga gc)).alloc (oU v da dc ea ec)).alloc (.cells #[.slice ha h.length hc,.slice ta t.length tc] 30)).heap[w.heap.size]?=some (oU u ca cc ga gc))from zb (zd _ _) (zb (zd _ _) (zo _ _ _ rfl)));have HV:=za (show((((w.alloc (oU u ca cc ga gc)).alloc (oU v da dc ea ec)).alloc (.cells #[.slice ha h.length hc,.slice ta t.length tc] 30)).heap[w.heap.size+1]?=some (oU v da dc ea ec))from zb (zd _ _) (zo _ _ _ (by simp)));have HH:=za (show((((w.alloc (oU u ca cc ga gc)).alloc (oU v da dc ea ec)).alloc (.cells #[.slice ha h.length hc,.slice ta t.length tc] 30)).heap[w.heap.size+1+1]?=some (.cells #[.slice ha h.length hc,.slice ta t.length tc] 30))from zo _ _ _ (by simp));clear mu mv mh mt huc hug hh ht hv hvg hvb hwf;obtain⟨wa,hwa⟩:∃wa,wa=((w.alloc (oU u ca cc ga gc)).alloc (oU v da dc ea ec)).alloc (.cells #[.slice ha h.length hc,.slice ta t.length tc] 30):=⟨_,rfl⟩
 rw[<-hwa]at HB HU HV HH;go_enter func18,ntmps18;go_upto_region 1 with fail;rw[<-hwa];clear hwa;obtain⟨k0,k1,k2,k3,k4,k5,k6⟩:=zr HU.out
 cases hw:zC u with
 |false=>
  rw[hw]at HWT
  go_wp2_with (first
   |(go_at_call 42;(with_reducible refine(HWT.out _ HB.out).mono ?_);rintro e w2 ⟨rfl,hb⟩;have HB2:=za (HB.out.step hb);clear hb))
  go_ret
  exact⟨by simp[qS,hw],HB2.out⟩
 |true=>
  rw[hw]at HWT HST
  go_upto_region 3 with (first
   |(go_at_call 42;(with_reducible refine(HWT.out _ HB.out).mono ?_);rintro e w2 ⟨rfl,hb⟩;have HB2:=za (HB.out.step hb);have HU2:=za (zb hb HU.out);have HV2:=za (zb hb HV.out);have HH2:=za (zb hb HH.out);clear hb))
  clear k0 k1 k2 k3 k4 k5 k6;obtain⟨k0,k1,k2,k3,k4,k5,k6⟩:=zr HU2.out;obtain⟨v0,v1,v2,v3,v4,v5,v6⟩:=zr HV2.out;obtain⟨h0,h1,_,_⟩:=qe HH2.out
  cases hs:vm u v h t with
  |false=>
   rw[hs]at HST
   go_wp2_with (first
    |(go_at_call 62;(with_reducible refine(HST.out _ HB2.out trivial).mono ?_);rintro e w3 ⟨rfl,hb⟩;have HB3:=za (HB2.out.step hb);clear hb))
   go_ret
   exact⟨by simp[qS,hw,hs],HB3.out⟩
  |true=>
   rw[hs]at HST
   go_wp2_with (first
    |(go_at_call 62;(with_reducible refine(HST.out _ HB2.out trivial).mono ?_);rintro e w3 ⟨rfl,hb⟩;have HB3:=za (HB2.out.step hb);clear hb))
   go_ret;exact⟨by simp[qS,hw,hs],HB3.out⟩
end Go.Proofs.YtgalekifgnecjaaGreat
