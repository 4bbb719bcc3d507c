/- housed of package regs -/
import Derived.Test.YtgalekifgnecjaaGreatW1
import Derived.Test.YtgalekifgnecjaaGreatT7
import Derived.BigQuiet
import Derived.Test.YtgalekifgnecjaaGreatQ2
import Derived.StillTailTactics
import Derived.Deep.RegionHeldLaw
import Derived.Test.YtgalekifgnecjaaGreatC2
import Derived.Test.YtgalekifgnecjaaGreatT18
namespace Go.Proofs.YtgalekifgnecjaaGreat
open Tryz Go.RowKit
open Go.RowKit Go.Shelf
set_option maxHeartbeats 16000000
set_option maxRecDepth 100000
attribute [local go_sem] Oper.semAt_some
attribute [local irreducible] wpStill
def Y1(u:zg)(k:Int)(j:Nat):KQ:=(List.range j).foldl (Xi (zZ u) (yx u) (k-yd u) u.args) ⟨[],[],u.args⟩
theorem QU(u:zg)(k:Int)(j:Nat):Y1 u k (j+1)=Xi (zZ u) (yx u) (k-yd u) u.args (Y1 u k j) j:=by
 unfold Y1;rw[Ze,jc];rfl
theorem LB{u:zg}(hw:zC u=true)(k:Int):∀n:Nat,KR u (k-yd u) n (Y1 u k n)
 |0=>⟨rfl,fun x=>⟨fun h=>(by cases h),fun⟨t,h,_⟩=>absurd h (y_ t)⟩,Int.le_refl _,by show u.args<=max u.args 0;omega,fun t h=>absurd h (y_ t),fun t t' _ h=>absurd h (y_ t'),fun t t' _ h=>absurd h (y_ t')⟩
 |n+1=>by
  rw[QU];exact(LB hw k n).step (zL hw).1
theorem O_{L:List (Int×Int)}{s c:Int}(h:∀x∈L,x.1≠s):(putM s c L).Perm (L++ [(s,c)]):=by
 unfold putM
 have e:(L.filter fun p=> !decide (p.1=s))=L:=List.filter_eq_self.2 fun x hx=>by
  simp only[jb,ZQ];exact h x hx
 rw[e];exact List.perm_append_comm (l₁:=[(s,c)]) (l₂:=L)
theorem DI{u:zg}{keep:Int}{n:Nat}{h:KQ}(hi:KR u keep n h):∀x∈h.had,0<=x.1/\x.1<(n:Int):=fun x hx=>by
 obtain⟨t,ht,rfl,_⟩:=(hi.had x).1 hx;exact⟨by show(0:Int)<=(t:Int);omega,by show(t:Int)<n;omega⟩
theorem LI(cl:List (Int×Int))(us:List Int)(keep args:Int)(h:KQ)(s:Nat):(Xi cl us keep args h s).had.length<=h.had.length+1:=by
 unfold Xi;split
 ·split
  ·show(h.had++ [_]).length<=_
   rw[yV,Y8];exact zI _
  ·split<;>exact xH _
 ·exact xH _
theorem Ak(u:zg)(k:Int):∀(n:Nat),(Y1 u k n).had.length<=n
 |0=>zI _
 |n+1=>by
  rw[QU];have h1:=Ak u k n;have h2:=LI (zZ u) (yx u) (k-yd u) u.args (Y1 u k n) n;omega
structure Mk(w:World)(u:zg)(ca:Option Addr)(cc:Nat)(ga:Option Addr)(gc bc bh bu:Nat)(wr:World):Prop where
 hb:Below w.heap.size w wr
 hx:wr.heap[w.heap.size]?=some (oU u ca cc ga gc)
 hc:y8 wr bc (zZ u)
 hu:yW wr bu (yx u)
 lt:w.heap.size<bc/\bc<bh/\bh<bu
theorem Mk.below{w:World}{u:zg}{ca:Option Addr}{cc:Nat}{ga:Option Addr}{gc bc bh bu:Nat}{wr w':World}(h:Mk w u ca cc ga gc bc bh bu wr)(hb:Below wr.heap.size wr w'):Mk w u ca cc ga gc bc bh bu w':=
 ⟨h.hb.step hb,zb hb h.hx,h.hc.below hb,h.hu.below hb,h.lt⟩
theorem Mk.put{w:World}{u:zg}{ca:Option Addr}{cc:Nat}{ga:Option Addr}{gc bc bh bu:Nat}{wr w':World}(h:Mk w u ca cc ga gc bc bh bu wr)(hg:wr.grownBy w' (some bh)):Mk w u ca cc ga gc bc bh bu w':=by
 have hl:=h.lt;exact⟨h.hb.grown hg h.hb.size (fun r e=>by cases e;omega),(hg.block _ (ze h.hx) (fun e=>by cases e;omega)).trans h.hx,h.hc.kept hg (fun e=>by cases e;omega),h.hu.kept hg (fun e=>by cases e;omega),hl⟩
theorem Mk.grown{w:World}{u:zg}{ca:Option Addr}{cc:Nat}{ga:Option Addr}{gc bc bh bu:Nat}{wr w':World}{row:Option Nat}(h:Mk w u ca cc ga gc bc bh bu wr)(hg:wr.grownBy w' row)(hr:∀r,row=some r->bu<r):Mk w u ca cc ga gc bc bh bu w':=by
 have hl:=h.lt;exact⟨h.hb.grown hg h.hb.size (fun r e=>by have:=hr r e;omega),(hg.block _ (ze h.hx) (fun e=>by have:=hr _ e.symm;omega)).trans h.hx,h.hc.kept hg (fun e=>by have:=hr _ e.symm;omega),h.hu.kept hg (fun e=>by have:=hr _ e.symm;omega),hl⟩
theorem Er(u:zg)(k:Nat)(hw:zC u=true)(hk:yd u<=k)(hk2:k<=200)(ca cc ga gc)(w:World)(hm:jo w u ca cc ga gc):
  Calls prog 47 #[vU u ca cc ga gc,.int .i64 k] w fun e w'=>Below w.heap.size w w'/\∃v,e= .returned (.tuple #[v,.int .i64 (zW u k).cells])/\zu w' w.heap.size v (zW u k).out:=by
 have hargs:=zL hw;have hlen:=qA hw;have HM:=za hm;clear hm;have HCL:=za (fun w' (hb:Below w.heap.size w w')=>YG u ca cc ga gc w' (HM.out.below hb) hw);have HUS:=za (fun w' (hb:Below w.heap.size w w')=>On u ca cc ga gc w' (HM.out.below hb).rc hlen ⟨hargs.1,by omega⟩ (fun t ht=>Gg hw t ht) (fun t ht=>by have:=(xA hw ht).2;omega));have HLE:=za (fun w' (hb:Below w.heap.size w w')=>Qu u ca cc ga gc w' (HM.out.below hb) hlen);have HTO:=za (fun j=>LB hw (k:Int) j);have HTS:=za (fun j=>QU u (k:Int) j);have HTL:=za (fun j=>Ak u (k:Int) j);have HT0:Hid (Y1 u (k:Int) 0=⟨[],[],u.args⟩):=za rfl;have HTE:Hid (zW u (k:Int)=Y1 u (k:Int) u.slots.toNat):=za rfl;obtain⟨n,hn⟩:∃n:Nat,u.slots=(n:Int):=⟨u.slots.toNat,by omega⟩
 have HN:=za hn;have hn2:n<=200:=by omega
 rw[show u.slots.toNat=n by omega]at HTE;rw[HTE.out];obtain⟨ag,hag⟩:∃n:Nat,u.args=(n:Int):=⟨u.args.toNat,by omega⟩
 have HAG:=za hag;have hag2:ag<=n:=by omega
 obtain⟨kp,hkp⟩:∃p:Nat,(k:Int)-yd u=(p:Int):=⟨k-yd u,by omega⟩
 have HKP:=za hkp;have hkp2:kp<=200:=by omega
 have hmm:=@run_makeMap prog;have hw9:IntKind.i64.wrap ((k:Int)-yd u)=(kp:Int):=by rw[hkp];exact ju (by omega)
 clear hn hag hkp hargs HTE;have HX1:=za (zo w (oU u ca cc ga gc) _ rfl);have HB:=za (zd w (oU u ca cc ga gc));obtain⟨w1,hw1⟩:∃w1,w1=w.alloc (oU u ca cc ga gc):=⟨_,rfl⟩
 have HS1:Hid (w1.heap.size=w.heap.size+1):=za (by rw[hw1];simp);rw[<-hw1]at HX1 HB;obtain⟨k0,k1,k2,k3,k4,k5,k6⟩:=zr HX1.out;go_enter func47,ntmps47;go_upto_region 1 with fail;rw[<-hw1];clear hw1
 go_upto_region 2 with (first
  |(go_at_call 63;(with_reducible refine(HCL.out _ HB.out).mono ?_);rintro e w3 ⟨hb,bc,rfl,hpa,hbc⟩;have HX3:=za (zb hb HX1.out);have HB3:=za (HB.out.step hb);have HC3:=za hpa;have HBC:=za hbc;clear hb hpa hbc))
 clear k0 k1 k2 k3 k4 k5 k6;obtain⟨bh,hbh⟩:∃b,b=w3.heap.size:=⟨_,rfl⟩
 obtain⟨wa,hwa⟩:∃wa,wa=w3.alloc (.map #[] 0):=⟨_,rfl⟩
 have HXA:Hid (wa.heap[w.heap.size]?=some (oU u ca cc ga gc)):=za (by rw[hwa];exact zb (zd _ _) HX3.out);have HBA:Hid (Below w.heap.size w wa):=za (by rw[hwa];exact HB3.out.step (zd _ _));have HCA:Hid (y8 wa bc (zZ u)):=za (by rw[hwa];exact HC3.out.below (zd _ _));have HHA:Hid (xe xU wa bh []):=za (by rw[hwa,hbh];exact Z9 xU w3);have HSA:Hid (wa.heap.size=bh+1/\bc<bh/\w.heap.size<bc):=za (by rw[hwa,hbh];exact⟨by simp,HC3.out.lt,by have:=HBC.out;have:=HS1.out;omega⟩);go_upto_region 3 with fail;rw[<-hbh,<-hwa];clear hwa hbh HX3 HB3 HC3 HX1 HB HCL hmm HBC HS1;obtain⟨k0,k1,k2,k3,k4,k5,k6⟩:=zr HXA.out
 go_upto_region 4 with (first
  |(go_at_call 104;(with_reducible refine(HUS.out _ HBA.out).mono ?_);rintro e w4 ⟨hb,bu,rfl,hs,hbu⟩;have HJ4:Hid (Mk w u ca cc ga gc bc bh bu w4):=za ⟨HBA.out.step hb,zb hb HXA.out,HCA.out.below hb,hs,by have:=HSA.out;omega⟩;have HH4:=za (HHA.out.below hb);clear hb hs hbu))
 clear k0 k1 k2 k3 k4 k5 k6 HXA HBA HCA HHA HUS;obtain⟨k0,k1,k2,k3,k4,k5,k6⟩:=zr HJ4.out.hx
 go_upto_region 5 with (first
  |(go_at_call 46;(with_reducible refine(HLE.out _ HJ4.out.hb).mono ?_);rintro e w5 ⟨rfl,hb⟩;have HJ5:=za (HJ4.out.below hb);have HH5:=za (HH4.out.below hb);clear hb))
 clear k0 k1 k2 k3 k4 k5 k6 HJ4 HH4 HLE;obtain⟨k0,k1,k2,k3,k4,k5,k6⟩:=zr HJ5.out.hx;rw[HN.out]at k3;rw[HAG.out]at k2;go_upto_region 8 with fail;clear k0 k1 k2 k3 k4 k5 k6 hw9;go_loopg [10,11,28] n (fun gh s10 s11 s28 wr=>∃j:Nat,j<=n/\gh=n-j/\s28= .int .i64 j/\s10= .int .i64 (Y1 u k j).cells/\Hid (Mk w u ca cc ga gc bc bh bu wr)/\Hid (xe xU wr bh (Y1 u k j).had)/\Hid (zu wr (bu+1) s11 (Y1 u k j).out)/\Hid (bu<wr.heap.size));case atStart=>exact⟨0,zE _,rfl,rfl,by rw[HT0.out,HAG.out],HJ5,za (by rw[HT0.out];exact HH5.out),za (by rw[HT0.out];exact jd _ _ _ _),za HJ5.out.hu.lt⟩
 case round=>
  obtain⟨j,hj,rfl,rfl,rfl,HJ,HH,HO,HS⟩:=hrel;by_cases hjn:j<n
  ·have nj:(j:Int)<(n:Int):=by omega
   have HHI:=za (HTO.out j);have HHL:=za (HTL.out j);have HTSj:=za (HTS.out j);rw[HKP.out]at HHI HTSj;generalize Y1 u (k:Int) j=H at *;have HOL:Hid (H.out.length=j):=za HHI.out.len;have HSM:=za (DI HHI.out);have hcl1:=HHI.out.cel;have hcl2:=HHI.out.fin;rw[HAG.out]at hcl1 hcl2;have hcl3:0<=H.cells/\H.cells<=200:=by omega
   clear hcl1 hcl2;have hlk:=HJ.out.hu.hasT Tryz.underlying156 (k:=(j:Int)) (by omega);obtain⟨ub,hub⟩:∃b,b=(yx u).contains (j:Int):=⟨_,rfl⟩
   rw[<-hub]at hlk;unfold Xi at HTSj;rw[<-hub]at HTSj;clear hub
   cases ub with
   |false=>
    rw[zi Y7]at HTSj;have HOB:=za (zy HO.out)
    go_wp2_with (first
     |(at_builtin;refine zv _ rfl _ _ rfl (bu+1) _ _ [-1] rfl (zu.later HO.out (zd _ _)) (some ⟨_,0,none⟩) 1 rfl (yJ _ _ _) (by have:=HOL.out;simp;omega) (by have:=HS.out;simp;omega) ?_;intro v' w6 hown' hgrow hnil;have HOW:=za hown';have HGR:=za hgrow;clear hown' hgrow hnil))
    go_roundg (n-(j+1));case measure=>omega
    case rel=>
     refine⟨j+1,by omega,rfl,by go_num,by rw[HTSj.out],za ((HJ.out.below (zd _ _)).grown HGR.out (fun r e=>by have:=HOB.out r e;omega)),za (by rw[HTSj.out];exact(HH.out.below (zd _ _)).kept HGR.out (fun e=>by have:=HOB.out _ e.symm;have:=HJ.out.lt;omega)),za (by rw[HTSj.out];exact HOW.out),za ?_⟩;have h1:=HGR.out.size;have h2:=HS.out;simp at h1
     omega
   |true=>
    rw[zj rfl]at HTSj;have HCO:=za (Ke (zZ u) H.had j bc bh wr HJ.out.hc HH.out (by omega) (fun x hx=>by have:=HSM.out x hx;omega) (by have:=HHL.out;omega));have hck:=Aw (zZ u) H.had (j:Int);have hck2:Zj (zZ u) H.had (j:Int)<=200:=yP hck (yP HHL.out (by omega));generalize Zj (zZ u) H.had (j:Int)=c at *;clear hck;by_cases hck:(c:Int)<(kp:Int)
    ·rw[zj hck]at HTSj
     have HPE:=za (O_ (L:=H.had) (s:=(j:Int)) (c:=(c:Int)) (fun x hx=>by have:=HSM.out x hx;omega));have hok:=YS (x:=(j:Int)) (by omega);have hoc:=YS (x:=(c:Int)) (by omega)
     go_upto_region 19 with (first
      |(go_at_call 66;(with_reducible refine HCO.out.mono ?_);rintro e w4 ⟨rfl,hb⟩;have HJ4:=za (HJ.out.below hb);have HH4:=za (HH.out.below hb);have HO4:=za (zu.later HO.out hb);have HS4:=za (xh HS.out hb.size);clear hb)
      |(at_mapUpdate;refine vM xU _ Tryz.underlying120 rfl _ _ _ rfl bh _ (j:Int) (c:Int) rfl HH4.out (by have:=HHL.out;omega) rfl rfl hok.1 hoc.2 ?_;intro w5 hm5 hg5;have HM5:=za (hm5.perm HPE.out);have HJ5:=za (HJ4.out.put hg5);have HO5:Hid (zu w5 (bu+1) u11 _):=za (HO4.out.kept hg5 (fun b hb e=>by cases e;have h1:=zy HO4.out _ hb;have h2:=HJ4.out.lt;omega));have HS5:=za (xh HS4.out hg5.size);clear hm5 hg5))
     clear hok hoc;have HOB:=za (zy HO5.out)
     go_wp2_with (first
      |(at_builtin;refine zv _ rfl _ _ rfl (bu+1) _ _ [(c:Int)] rfl (zu.later HO5.out (zd _ _)) (some ⟨_,0,none⟩) 1 rfl (yJ _ _ _) (by have:=HOL.out;simp;omega) (by have:=HS5.out;simp;omega) ?_;intro v' w6 hown' hgrow hnil;have HOW:=za hown';have HGR:=za hgrow;clear hown' hgrow hnil))
     go_roundg (n-(j+1));case measure=>omega
     case rel=>
      refine⟨j+1,by omega,rfl,by go_num,by rw[HTSj.out],za ((HJ5.out.below (zd _ _)).grown HGR.out (fun r e=>by have:=HOB.out r e;omega)),za (by rw[HTSj.out];exact(HM5.out.below (zd _ _)).kept HGR.out (fun e=>by have:=HOB.out _ e.symm;have:=HJ.out.lt;omega)),za (by rw[HTSj.out];exact HOW.out),za ?_⟩;have h1:=HGR.out.size;have h2:=HS5.out;simp at h1;omega
    ·rw[zi hck]at HTSj
     by_cases hja:(j:Int)<u.args
     ·rw[zj hja]at HTSj
      have hja2:(j:Int)<(ag:Int):=by rw[<-HAG.out];exact hja
      clear hja
      go_upto_region 15 with (first
       |(go_at_call 66;(with_reducible refine HCO.out.mono ?_);rintro e w4 ⟨rfl,hb⟩;have HJ4:=za (HJ.out.below hb);have HH4:=za (HH.out.below hb);have HO4:=za (zu.later HO.out hb);have HS4:=za (xh HS.out hb.size);clear hb))
      obtain⟨k0,k1,k2,k3,k4,k5,k6⟩:=zr HJ4.out.hx;rw[HAG.out]at k2;go_upto_region 19 with fail;clear k0 k1 k2 k3 k4 k5 k6;have HOB:=za (zy HO4.out)
      go_wp2_with (first
       |(at_builtin;refine zv _ rfl _ _ rfl (bu+1) _ _ [-2-(j:Int)] rfl (zu.later HO4.out (zd _ _)) (some ⟨_,0,none⟩) 1 rfl (yJ _ _ _) (by have:=HOL.out;simp;omega) (by have:=HS4.out;simp;omega) ?_;intro v' w6 hown' hgrow hnil;have HOW:=za hown';have HGR:=za hgrow;clear hown' hgrow hnil))
      go_roundg (n-(j+1));case measure=>omega
      case rel=>
       refine⟨j+1,by omega,rfl,by go_num,by rw[HTSj.out],za ((HJ4.out.below (zd _ _)).grown HGR.out (fun r e=>by have:=HOB.out r e;omega)),za (by rw[HTSj.out];exact(HH4.out.below (zd _ _)).kept HGR.out (fun e=>by have:=HOB.out _ e.symm;have:=HJ.out.lt;omega)),za (by rw[HTSj.out];exact HOW.out),za ?_⟩;have h1:=HGR.out.size;have h2:=HS4.out;simp at h1;omega
     ·rw[zi hja]at HTSj
      have hja2:¬(j:Int)<(ag:Int):=by rw[<-HAG.out];exact hja
      clear hja
      go_upto_region 15 with (first
       |(go_at_call 66;(with_reducible refine HCO.out.mono ?_);rintro e w4 ⟨rfl,hb⟩;have HJ4:=za (HJ.out.below hb);have HH4:=za (HH.out.below hb);have HO4:=za (zu.later HO.out hb);have HS4:=za (xh HS.out hb.size);clear hb))
      obtain⟨k0,k1,k2,k3,k4,k5,k6⟩:=zr HJ4.out.hx;rw[HAG.out]at k2;go_upto_region 19 with fail;clear k0 k1 k2 k3 k4 k5 k6;have HOB:=za (zy HO4.out)
      go_wp2_with (first
       |(at_builtin;refine zv _ rfl _ _ rfl (bu+1) _ _ [-2-H.cells] rfl (zu.later HO4.out (zd _ _)) (some ⟨_,0,none⟩) 1 rfl (yJ _ _ _) (by have:=HOL.out;simp;omega) (by have:=HS4.out;simp;omega) ?_;intro v' w6 hown' hgrow hnil;have HOW:=za hown';have HGR:=za hgrow;clear hown' hgrow hnil))
      go_roundg (n-(j+1));case measure=>omega
      case rel=>
       refine⟨j+1,by omega,rfl,by go_num,by rw[HTSj.out],za ((HJ4.out.below (zd _ _)).grown HGR.out (fun r e=>by have:=HOB.out r e;omega)),za (by rw[HTSj.out];exact(HH4.out.below (zd _ _)).kept HGR.out (fun e=>by have:=HOB.out _ e.symm;have:=HJ.out.lt;omega)),za (by rw[HTSj.out];exact HOW.out),za ?_⟩;have h1:=HGR.out.size;have h2:=HS4.out;simp at h1;omega
  ·obtain rfl:j=n:=by omega
   have nj:¬(j:Int)<(j:Int):=by omega
   go_wp2
   all_goals exact xJ (v:=.tuple #[u11,.int .i64 (Y1 u k j).cells]) (by simp[results,Tryz.results47,go_sem]) rfl ⟨HJ.out.hb,u11,rfl,zu.mono HO.out (by have:=HJ.out.lt;omega)⟩
structure qu where
 u:zg
 ca:Option Addr
 cc:Nat
 ga:Option Addr
 gc:Nat
 va:Option Addr
 vc:Nat
 h:List Int
 ha:Option Addr
 hc:Nat
 k:Nat
 cells:Int
 ba:Nat
 bw:Nat
abbrev RJ(r:qu)(vc og:Value):Obj:=.cells #[.string r.u.cls,.string r.u.name,.int .i64 r.u.args,.int .i64 r.u.slots,.int .i64 r.u.frame,.slice r.ca r.u.code.length r.cc,.slice r.ga r.u.guards.length r.gc,.slice r.va (zf r.u).length r.vc,
 .slice r.ha r.h.length r.hc,.int .i64 r.k,.string r.u.cls,.string r.u.name,.int .i64 r.u.args,.int .i64 r.k,.int .i64 r.cells,vc,og,.slice (some ⟨r.ba,0,none⟩) r.u.code.length r.u.code.length] 100
structure vK(r:qu)(o:Option Nat)(W W':World):Prop where
 os:W'.os=W.os
 tape:W'.tape=W.tape
 output:W'.output=W.output
 size:W.heap.size<=W'.heap.size
 block:∀b,b<W.heap.size->b≠r.bw->b≠r.ba->some b≠o->W'.heap[b]?=W.heap[b]?
def Vk(o o':Option Nat)(W:World):Prop:=o'=o\/∃b,o'=some b/\W.heap.size<=b
theorem vK.of_below{r:qu}{o:Option Nat}{W W':World}(h:Below W.heap.size W W'):vK r o W W':=⟨h.os,h.tape,h.output,h.size,fun b hb _ _ _=>h.block b hb⟩
theorem vK.trans{r:qu}{o o':Option Nat}{W A C:World}(h:vK r o W A)(h2:vK r o' A C)(hn:Vk o o' W):vK r o W C:=
 ⟨h2.os.trans h.os,h2.tape.trans h.tape,h2.output.trans h.output,yP h.size h2.size,fun b hb h1 h3 h4=>(h2.block b (xh hb h.size) h1 h3 (fun e=>by
  rcases hn with rfl|⟨c,rfl,hc⟩
  ·exact h4 e
  ·cases e;omega)).trans (h.block b hb h1 h3 h4)⟩
theorem Vk.refl(o:Option Nat)(W:World):Vk o o W:=.inl rfl
theorem Vk.trans{o o' o'':Option Nat}{W A:World}(h:Vk o o' W)(h2:Vk o' o'' A)(hs:W.heap.size<=A.heap.size):Vk o o'' W:=by
 rcases h2 with rfl|⟨c,rfl,hc⟩
 ·exact h
 ·exact .inr ⟨c,rfl,by omega⟩
structure XO(w1:World)(ba:Nat)(W:World):Prop where
 os:W.os=w1.os
 tape:W.tape=w1.tape
 output:W.output=w1.output
 size:w1.heap.size<=W.heap.size
 block:∀b,b<w1.heap.size->b≠ba->W.heap[b]?=w1.heap[b]?
theorem XO.refl(w1:World)(ba:Nat):XO w1 ba w1:=⟨rfl,rfl,rfl,zI _,fun _ _ _=>rfl⟩
theorem XO.step{w1:World}{ba:Nat}{W W':World}(h:XO w1 ba W)(hb:Below W.heap.size W W'):XO w1 ba W':=
 ⟨hb.os.trans h.os,hb.tape.trans h.tape,hb.output.trans h.output,yP h.size hb.size,fun b h1 h2=>(hb.block b (xh h1 h.size)).trans (h.block b h1 h2)⟩
theorem XO.grown{w1:World}{ba:Nat}{W W':World}{row:Option Nat}(h:XO w1 ba W)(hg:W.grownBy W' row)(_hs:w1.heap.size<=W.heap.size)(hr:∀k,row=some k->w1.heap.size<=k\/k=ba):XO w1 ba W':=
 ⟨hg.os.trans h.os,hg.tape.trans h.tape,hg.output.trans h.output,yP h.size hg.size,fun b h1 h2=>(hg.block b (xh h1 h.size) (fun e=>by have:=hr b e.symm;omega)).trans (h.block b h1 h2)⟩
theorem XO.setCell{w1:World}{ba:Nat}{W:World}(h:XO w1 ba W){p:Addr}(hp:w1.heap.size<=p.block\/p.block=ba)(v:Value):XO w1 ba (W.setCell p v):=
 ⟨h.os,h.tape,h.output,by have:=h.size;simpa using this,fun b h1 h2=>(yF _ _ _ _ (by omega)).trans (h.block b h1 h2)⟩
theorem XO.drew{w1:World}{ba:Nat}{W:World}(h:XO w1 ba W):XO w1 ba W.drew:=⟨h.os,h.tape,h.output,h.size,h.block⟩
theorem XO.below{w1:World}{ba:Nat}{W:World}(h:XO w1 ba W){B:Nat}(h1:B<=w1.heap.size)(h2:B<=ba):Below B w1 W:=
 ⟨h.os,h.tape,h.output,h.size,fun b hb=>h.block b (by omega) (by omega)⟩
structure Yz(w1:World)(r:qu)(x:xN)(vc og:Value)(W:World):Prop where
 hb:XO w1 r.ba W
 hx:W.heap[r.bw]?=some (RJ r vc og)
 hc:y9 Yo 85 W (r.bw+1) vc x.code
 ha:BI W r.ba x.ats
 lt:r.ba<r.bw
 sz:w1.heap.size=r.bw
theorem Yz.below{w1:World}{r:qu}{x:xN}{vc og:Value}{W W':World}(h:Yz w1 r x vc og W)(hb:Below W.heap.size W W'):Yz w1 r x vc og W':=
 ⟨h.hb.step hb,zb hb h.hx,h.hc.later hb,h.ha.below hb,h.lt,h.sz⟩
theorem j8{W:World}{b:Nat}{c:Array Value}{T:TypeId}(h:W.heap[b]?=some (.cells c T (0,0))){k:Nat}{v:Value}(hv:c[k]?=some v):W.cell? ⟨b,k,none⟩=some v:=(zA _ _ k _ _ _ h).trans hv
theorem Ac{T:TypeId}{W W':World}{base:Nat}{v:Value}{l:List zm}(h:y9 Yo T W base v l)(e:∀b,v.ownBlock=some b->W'.heap[b]?=W.heap[b]?):y9 Yo T W' base v l:=yA h (fun b hb _=>e b hb)
theorem Kw{α: Type}{E:Oj α}{ts T:TypeId}(st:P0 E ts T){ops:Array Oper}{o:Oper}{a:Act}{K:Act->World->Prop}{Q:Exit->Act->World->Prop}{X:Prop}(w:World)(hgd:o.guard=none)(s x:Operand)
  (ho:o.op= .call { callee:=.builtin .append,args:=#[s,x],argTypes:=#[ts,ts] }) (base:Nat) (v:Value) (l0 l:List α) (hsv:a.eval s=v) (hown:y9 E T w base v l0) (A:Option Addr) (c:Nat) (ln:Nat) (hln:l.length=ln) (hx:a.eval x= .slice A ln c) (hl:VJ E w A l) (hs:l0.length+l.length<=1000000) (hb:base<=w.heap.size)
  (h:∀v' w',y9 E T w' base v' (l0++l)->w.grownBy w' v.ownBlock->(v'.ownBlock=v.ownBlock\/v'.ownBlock=some w.heap.size)->K (a.put o.dst v') w'):
  if Region.wanted o (yielded ops a.tmps)=true then Oper.wp prog o a w K Q else X:=by
 subst hln;have hw:Region.wanted o (yielded ops a.tmps)=true:=by simp[Region.wanted,hgd]
 rw[zj hw];obtain⟨v',w',hrun,h2,h3,h4⟩:=Jg st w base o.type v l0 l hown A c hl hs hb;unfold Oper.wp execOp;simp only[ho,resolve,invoke,builtin,Sem.run_bind,Sem.run_pure,Result.andThen_ok,List.map_toArray,j9,List.map_nil,hsv,hx,hrun];exact h v' w' h2 h3 h4
theorem Q3{w W:World}(h:Below w.heap.size w W)(o:Obj):Below w.heap.size w (W.alloc o):=h.alloc h.size o
theorem LV{w1:World}{r:qu}{x:xN}{vc og v2:Value}{l2:List zm}{W wa w9 w2:World}(ha:Yz w1 r x vc og wa)(hb0:Below W.heap.size W wa)(hbw:r.bw<W.heap.size)(h9:Below wa.heap.size wa w9)
  (hown:y9 Yo 85 w2 (r.bw+1) v2 l2) (hg:w9.grownBy w2 vc.ownBlock) (hat:v2.ownBlock=vc.ownBlock\/v2.ownBlock=some w9.heap.size) (hx2:w2.heap[r.bw]?=some (RJ r vc og)):
  ∃vc',Yz w1 r ⟨l2,x.ats⟩ vc' og (w2.setCell ⟨r.bw,15,none⟩ v2)/\vK r vc.ownBlock W (w2.setCell ⟨r.bw,15,none⟩ v2)/\Vk vc.ownBlock vc'.ownBlock W:=by
 have hlt:=ha.lt;have hba:=ha.ha.lt;have hge:=zy ha.hc;have hge2:=zy hown;have hs1:=hb0.size;have hs9:=h9.size;have hs2:=hg.size;have hso:∀k,k≠r.bw->(w2.setCell ⟨r.bw,15,none⟩ v2).heap[k]?=w2.heap[k]?:=fun k hk=>yF _ _ _ _ hk
 have hsz:(w2.setCell ⟨r.bw,15,none⟩ v2).heap.size=w2.heap.size:=by simp
 have hne:∀k,k<r.bw->some k≠vc.ownBlock:=fun k hk e=>by have:=hge k e.symm;omega
 refine⟨v2,⟨?_,yk _ _ 15 _ _ _ hx2,Ac hown (fun b hb=>hso b (by have:=hge2 b hb;omega)),?_,hlt,ha.sz⟩,⟨?_,?_,?_,by omega,fun b hb h1 h3 h4=> ?_⟩,?_⟩
 ·exact(((ha.hb.step h9).grown hg (by have:=(ha.hb.step h9).size;omega) (fun k e=> .inl (by have:=hge k e;have:=ha.sz;omega))).setCell (p:=⟨r.bw,15,none⟩) (.inl (by have:=ha.sz;show _<=r.bw;omega)) _)
 ·exact((ha.ha.below h9).keep (hg.block _ (by omega) (hne _ hlt))).keep (hso _ (by omega))
 ·exact hg.os.trans (h9.os.trans hb0.os)
 ·exact hg.tape.trans (h9.tape.trans hb0.tape)
 ·exact hg.output.trans (h9.output.trans hb0.output)
 ·rw[hso b h1,hg.block b (by omega) h4,h9.block b (by omega),hb0.block b hb]
 ·rcases hat with e|e
  ·exact .inl e
  ·exact .inr ⟨_,e,by omega⟩
theorem Qd(w1:World)(r:qu)(x:xN)(vc og:Value)(i:zm)(W:World)(h:Yz w1 r x vc og W)(hl:x.code.length<=100000):
    Calls prog 49 #[.pointer (some ⟨r.bw,0,none⟩),vI i] W (fun e W'=>e= .returned (.tuple #[])/\∃vc',Yz w1 r ⟨x.code++ [i],x.ats⟩ vc' og W'/\vK r vc.ownBlock W W'/\Vk vc.ownBlock vc'.ownBlock W):=by
  have HI:=za h;clear h;obtain⟨va,cap,hva,hrd,hcap,hown⟩:=HI.out.hc.rdB;subst hva;have HX0:=za (zo W (.cells #[.int .i64 i.op,.int .i64 i.a,.int .i64 i.b,.int .i64 i.c] 85) _ rfl);have HB0:=za (zd W (.cells #[.int .i64 i.op,.int .i64 i.a,.int .i64 i.b,.int .i64 i.c] 85));obtain⟨wa,hwa⟩:∃wa,wa=W.alloc (.cells #[.int .i64 i.op,.int .i64 i.a,.int .i64 i.b,.int .i64 i.c] 85):=⟨_,rfl⟩
  have HS0:Hid (wa.heap.size=W.heap.size+1):=za (by rw[hwa];simp);rw[<-hwa]at HX0 HB0;have HIA:=za (HI.out.below HB0.out);have k15:=j8 HIA.out.hx (k:=15) rfl;obtain⟨x0,x1,x2,x3⟩:=zX HX0.out;go_enter func49,ntmps49;go_upto_region 1 with fail;rw[<-hwa];clear hwa;obtain⟨bx,hbx⟩:∃b,b=W.heap.size:=⟨_,rfl⟩
  rw[<-hbx]at HX0 x0 x1 x2 x3;rw[<-hbx];have HBX:=za hbx;clear hbx;have k15b:=zK (zd wa (.cells #[.int .i64 i.op,.int .i64 i.a,.int .i64 i.b,.int .i64 i.c] 85)) k15;have HOK:=za (fun(w9:World) (hb:Below wa.heap.size wa w9)=>(HIA.out.below hb).hc)
  go_region_law (
                 refine Kw Mu _ rfl (.tmp 9) (.tmp 11) rfl (r.bw+1) (.slice va x.code.length cap) x.code [i] (by rfl) (HOK.out _ (by repeat (first|exact zG _ _|refine yX ?_|refine Q3 ?_ _))) (some ⟨_,0,none⟩) 1 1 rfl (by rfl) (V2 (E:=Yo) _ i 85) (by simp;omega) (by have:=ze HIA.out.hx;simp;omega) ?_;intro v2 w2 hown2 hg2 hat2;obtain⟨a2,cap2,rfl,_,_,hown3⟩:=hown2.rdB;rw[yV,Y8]at hown2;rw[show(x.code++ [i]).length=x.code.length+1 by rw[yV,Y8]]at hat2;have HX2:Hid (w2.heap[r.bw]?=some (RJ r (.slice va x.code.length cap) og)):=za ((hg2.block r.bw (by have:=ze HIA.out.hx;simp;omega) (fun e=>by have:=zy HIA.out.hc _ e.symm;omega)).trans (zb (by repeat (first|exact zG _ _|refine yX ?_|refine Q3 ?_ _)) HIA.out.hx));have hf:=zF 15 HX2.out;have hq:=j8 HX2.out (k:=15) rfl;have HOW:=za hown2;have HGR:=za hg2;have HAT:=za hat2
                 clear hown2 hg2 hat2 hown3)
  all_goals go_wp2
  all_goals go_end0
  all_goals exact⟨rfl,LV (x:=x) HIA.out HB0.out (ze HI.out.hx) (by repeat (first|exact zG _ _|refine yX ?_|refine Q3 ?_ _)) HOW.out HGR.out HAT.out HX2.out⟩
structure Kq(w1:World)(r:qu):Prop where
 mu:∀W,XO w1 r.ba W->jo W r.u r.ca r.cc r.ga r.gc
 ml:∀W,XO w1 r.ba W->QC W r.va (zf r.u)
 mh:∀W,XO w1 r.ba W->yC W r.ha r.h
theorem Yc{h:List Int}{s:Nat}(hs:s<h.length):zh h (s:Int)=h[s]:=zk hs
theorem SG(w1:World)(r:qu)(x:xN)(vc og:Value)(s reg:Int)(b1 b2:Nat)(w:World)(hm:Kq w1 r)(h:Yz w1 r x vc og w)(h1:w.heap[b1]?=some (.cells #[.pointer (some ⟨r.bw,0,none⟩)] 94))(h2:w.heap[b2]?=some (.cells #[.int .i64 reg] 3))(hs:0<=s/\s<r.h.length)(_hl:r.h.length<=1000000):
  Calls prog 178 #[.int .i64 s,.pointer (some ⟨b1,0,none⟩),.pointer (some ⟨b2,0,none⟩)] w (zV (.bool (zh r.h s==reg)) w):=by
 obtain⟨k,rfl⟩:∃k:Nat,s=(k:Int):=⟨s.toNat,by omega⟩
 have hk:k<r.h.length:=by omega
 obtain⟨bh,oh,hha,_,h0⟩:=(hm.mh _ h.hb) k hk;have c1:w.cell? ⟨b1,0,none⟩=some (.pointer (some ⟨r.bw,0,none⟩)):=(zA _ _ 0 _ _ _ h1).trans rfl;have c2:w.cell? ⟨b2,0,none⟩=some (.int .i64 reg):=(zA _ _ 0 _ _ _ h2).trans rfl;have k8:w.cell? ⟨r.bw,8,none⟩=some (.slice (some ⟨bh,oh,none⟩) r.h.length r.hc):=(zA _ _ 8 _ _ _ h.hx).trans (by rw[<-hha];rfl);have nk:(k:Int)<(r.h.length:Int):=by omega
 have HE:Hid ((zh r.h (k:Int)==reg)=(r.h[k]==reg)):=za (by rw[Yc hk]);obtain⟨e,he⟩:∃e,e=(zh r.h (k:Int)==reg):=⟨_,rfl⟩
 rw[<-he]at HE;rw[<-he];clear he hm h h1 h2 hs hha;generalize r.h[k]=x at *;have HBW:=za (zt w);go_enter func178,ntmps178;go_upto_region 1 with fail;go_still_tail 9,(by kernel_rfl);change wpList _ _ _ _ _ w.drew;go_wp2;go_ret;exact⟨zn HE.out.symm,HBW.out⟩
theorem D6:xE 178:=enters_of func178 (by kernel_rfl) rfl
theorem SJ(w1:World)(r:qu)(x:xN)(vc og:Value)(s:Int)(b1:Nat)(w:World)(hm:Kq w1 r)(h:Yz w1 r x vc og w)(h1:w.heap[b1]?=some (.cells #[.pointer (some ⟨r.bw,0,none⟩)] 94))(hs:0<=s/\s<r.h.length)(_hl:r.h.length<=1000000):
  Calls prog 110 #[.int .i64 s,.pointer (some ⟨b1,0,none⟩)] w (zV (.bool (decide (zh r.h s<= -2))) w):=by
 obtain⟨k,rfl⟩:∃k:Nat,s=(k:Int):=⟨s.toNat,by omega⟩
 have hk:k<r.h.length:=by omega
 obtain⟨bh,oh,hha,_,h0⟩:=(hm.mh _ h.hb) k hk;have c1:w.cell? ⟨b1,0,none⟩=some (.pointer (some ⟨r.bw,0,none⟩)):=(zA _ _ 0 _ _ _ h1).trans rfl;have k8:w.cell? ⟨r.bw,8,none⟩=some (.slice (some ⟨bh,oh,none⟩) r.h.length r.hc):=(zA _ _ 8 _ _ _ h.hx).trans (by rw[<-hha];rfl);have nk:(k:Int)<(r.h.length:Int):=by omega
 have HE:Hid (decide (zh r.h (k:Int)<= -2)=decide (r.h[k]<= -2)):=za (by rw[Yc hk]);obtain⟨e,he⟩:∃e,e=decide (zh r.h (k:Int)<= -2):=⟨_,rfl⟩
 rw[<-he]at HE;rw[<-he];clear he hm h h1 hs hha;generalize r.h[k]=x at *;go_enter func110,ntmps110;go_wp2;go_ret;exact⟨zn HE.out.symm,zG _ _⟩
theorem D_:xE 110:=enters_of func110 (by kernel_rfl) rfl
theorem EF(h:List Int)(j:Nat)(l:List Int):yv h (j+1) l=yv h j l++if yS h j l=true then []else [(j:Int)]:=by
 unfold yv;rw[Ze,List.filter_append,q8];congr 1
 cases ht:yS h (j:Int) l with
 |true=>simp[ht]
 |false=>simp[ht]
theorem DW(h:List Int)(j:Nat)(l:List Int):(yv h j l).length<=j:=by
 unfold yv;rw[ym];exact yP (ZP _ _) (by rw[Qh];exact zI _)
theorem Ig(w1:World)(r:qu)(x:xN)(vc og:Value)(l:List Int)(la:Option Addr)(lc:Nat)(W:World)(hm:Kq w1 r)(h:Yz w1 r x vc og W)(hr:yC W la l)(hs:∀s∈l,0<=s/\s<r.h.length)(hl:r.h.length<=1000000)(hll:l.length<=1000000)(hk:r.k<=200):
  Calls prog 107 #[.pointer (some ⟨r.bw,0,none⟩),.slice la l.length lc] W (Za (yv r.h r.k l) W):=by
 have HX0:=za (zo W (.cells #[.pointer (some ⟨r.bw,0,none⟩)] 94) _ rfl);have HB0:=za (zd W (.cells #[.pointer (some ⟨r.bw,0,none⟩)] 94));have HMM:=za hm;have HH:=za h;have HRR:=za hr;have HSS:=za hs;clear hm h hr hs;obtain⟨wa,hwa⟩:∃wa,wa=W.alloc (.cells #[.pointer (some ⟨r.bw,0,none⟩)] 94):=⟨_,rfl⟩
 have HSZ:Hid (wa.heap.size=W.heap.size+1):=za (by rw[hwa];simp);rw[<-hwa]at HX0 HB0;have c1:wa.cell? ⟨W.heap.size,0,none⟩=some (.pointer (some ⟨r.bw,0,none⟩)):=(zA _ _ 0 _ _ _ HX0.out).trans rfl;have k9:=j8 (HH.out.below HB0.out).hx (k:=9) rfl;have HK9:Hid (wa.cell? ⟨r.bw,9,none⟩=some (.int .i64 r.k)):=za k9;clear k9;have k9:=HK9.out;go_enter func107,ntmps107;go_upto_region 1 with fail;rw[<-hwa];clear hwa;go_upto_region 3 with fail;clear c1 k9;go_loopg [5,11] r.k (fun gh s5 s11 wr=>∃j:Nat,j<=r.k/\gh=r.k-j/\s11= .int .i64 j/\Hid (Below wa.heap.size wa wr)/\Hid (zu wr (W.heap.size+1) s5 (yv r.h j l)));case atStart=>exact⟨0,zE _,rfl,rfl,za (zG _ _),za (jd _ _ _ _)⟩
 case round=>
  obtain⟨j,hj,rfl,rfl,HB,HO⟩:=hrel;by_cases hjk:j<r.k
  ·have nj:(j:Int)<(r.k:Int):=by omega
   have HFS:=za (EF r.h j l);have HFL:=za (DW r.h j l);have HTK:Hid (yS r.h (j:Int) l=l.any fun s=>zh r.h s==(j:Int)):=za rfl;go_upto_region 5 with fail;obtain⟨bj,hbj⟩:∃b,b=wr.heap.size:=⟨_,rfl⟩
   obtain⟨wj,hwj⟩:∃w',w'=wr.alloc (.cells #[.int .i64 (j:Int)] 3):=⟨_,rfl⟩
   have HXJ:Hid (wj.heap[bj]?=some (.cells #[.int .i64 (j:Int)] 3)):=za (by rw[hwj];exact zo _ _ _ hbj);have HBJ:Hid (Below wa.heap.size wa wj):=za (by rw[hwj];exact HB.out.step (zd _ _));have HOJ:Hid (zu wj (W.heap.size+1) u5 (yv r.h j l)):=za (by rw[hwj];exact zu.later HO.out (zd _ _));rw[<-hbj,<-hwj];clear hbj hwj HB HO;have c0:wj.cell? ⟨bj,0,none⟩=some (.int .i64 (j:Int)):=(zA _ _ 0 _ _ _ HXJ.out).trans rfl;have HI:=za (E3 178 D6 #[.pointer (some ⟨W.heap.size,0,none⟩),.pointer (some ⟨bj,0,none⟩)] (fun s=>zh r.h s==(j:Int)) l la lc wj (fun y hy w' hb=>SG w1 r x vc og y j _ _ w' HMM.out ((HH.out.below (HB0.out.step HBJ.out)).below hb) (zb (HBJ.out.step hb) HX0.out) (zb hb HXJ.out) (HSS.out y hy) hl) (HRR.out.below (HB0.out.step HBJ.out)) (by omega));rw[<-HTK.out]at HI
   cases ht:yS r.h (j:Int) l with
   |true=>
    rw[ht]at HI HFS;rw[zj rfl,qO]at HFS;clear ht HTK
    go_wp2_with (first
     |(go_at_call 99;(with_reducible refine HI.out.mono ?_);rintro e w4 ⟨rfl,hb⟩;have HB4:=za hb;clear hb))
    go_roundg (r.k-(j+1));case measure=>omega
    case rel=>exact⟨j+1,by omega,rfl,by go_num,za (HBJ.out.step HB4.out),za (by rw[HFS.out];exact zu.later HOJ.out HB4.out)⟩
   |false=>
    rw[ht]at HI HFS;rw[zi Y7]at HFS;clear ht HTK
    go_upto_region 6 with (first
     |(go_at_call 99;(with_reducible refine HI.out.mono ?_);rintro e w4 ⟨rfl,hb⟩;have HB4:=za hb;have HX4:=za (zb hb HXJ.out);have HO4:=za (zu.later HOJ.out hb);clear hb))
    clear c0;have c0:w4.cell? ⟨bj,0,none⟩=some (.int .i64 (j:Int)):=(zA _ _ 0 _ _ _ HX4.out).trans rfl;have HOB:=za (zy HO4.out);have HZ4:Hid (W.heap.size+1<=w4.heap.size):=za (by have h1:=HBJ.out.size;have h2:=HB4.out.size;have h3:=HSZ.out;omega)
    go_wp2_with (first
     |(at_builtin;refine zv _ rfl _ _ rfl (W.heap.size+1) _ _ [(j:Int)] rfl (zu.later HO4.out (zd _ _)) (some ⟨_,0,none⟩) 1 rfl (yJ _ _ _) (by have:=HFL.out;simp;omega) (by have:=HZ4.out;simp;omega) ?_;intro v' w6 hown' hgrow hnil;have HOW:=za hown';have HGR:=za hgrow;clear hown' hgrow hnil))
    go_roundg (r.k-(j+1));case measure=>omega
    case rel=>exact⟨j+1,by omega,rfl,by go_num,za (((HBJ.out.step HB4.out).step (zd _ _)).grown HGR.out (by have h1:=HBJ.out.size;have h2:=HB4.out.size;simp;omega) (fun b e=>by have:=HOB.out b e;have:=HSZ.out;omega)),za (by rw[HFS.out];exact HOW.out)⟩
  ·obtain rfl:j=r.k:=by omega
   have nj:¬(r.k:Int)<(r.k:Int):=by omega
   go_wp2;go_ret;exact⟨HB0.out.step HB.out,_,rfl,zu.mono HO.out (xH _)⟩
theorem SI(w1:World)(r:qu)(x:xN)(vc og:Value)(s v:Int)(L:List (Int×Int))(b1 b2 bm:Nat)(w:World)(hm:Kq w1 r)(h:Yz w1 r x vc og w)(h1:w.heap[b1]?=some (.cells #[.pointer (some ⟨r.bw,0,none⟩)] 94))(h2:w.heap[b2]?=some (.cells #[.map (some bm)] 120))(hM:xe xU w bm L)
  (hs:0<=s/\s<r.h.length) (hl:r.h.length<=1000000) (hv:zh r.h s<0->jZ L s=some v):
  Calls prog 111 #[.int .i64 s,.pointer (some ⟨b1,0,none⟩),.pointer (some ⟨b2,0,none⟩)] w (zV (.int .i64 (if 0<=zh r.h s then zh r.h s else v)) w):=by
 have hlk:(Instr.lookup 120 (.map (some bm)) (.int .i64 s) false).run prog w= .ok (.int .i64 ((jZ L s).getD 0)) w:=xe.look (M:=xU) Tryz.underlying120 hM (x:=s) (Gk (by omega));obtain⟨k,rfl⟩:∃k:Nat,s=(k:Int):=⟨s.toNat,by omega⟩
 have hk:k<r.h.length:=by omega
 obtain⟨bh,oh,hha,_,h0⟩:=(hm.mh _ h.hb) k hk;have c1:w.cell? ⟨b1,0,none⟩=some (.pointer (some ⟨r.bw,0,none⟩)):=(zA _ _ 0 _ _ _ h1).trans rfl;have c2:w.cell? ⟨b2,0,none⟩=some (.map (some bm)):=(zA _ _ 0 _ _ _ h2).trans rfl;have k8:w.cell? ⟨r.bw,8,none⟩=some (.slice (some ⟨bh,oh,none⟩) r.h.length r.hc):=(zA _ _ 8 _ _ _ h.hx).trans (by rw[<-hha];rfl);have nk:(k:Int)<(r.h.length:Int):=by omega
 have HE:Hid (zh r.h (k:Int)=r.h[k]):=za (Yc hk);rw[HE.out]at hv;rw[HE.out];have HV:=za hv;clear hv hm h h1 h2 hs hha HE hM;generalize r.h[k]=x at *;by_cases hx:0<=x
 ·rw[zj hx]
  clear hlk HV;go_enter func111,ntmps111;go_wp2;go_ret;exact⟨rfl,zG _ _⟩
 ·rw[zi hx]
  have hlk2:(Instr.lookup 120 (.map (some bm)) (.int .i64 (k:Int)) false).run prog w= .ok (.int .i64 v) w:=by rw[HV.out (by omega)]at hlk;exact hlk
  clear HV hlk;go_enter func111,ntmps111;go_wp2;go_ret;exact⟨rfl,zG _ _⟩
theorem D9:xE 111:=enters_of func111 (by kernel_rfl) rfl
theorem SH(w1:World)(r:qu)(x:xN)(vc og:Value)(s:Int)(l:List Int)(la:Option Addr)(lc:Nat)(b1 b2:Nat)(w:World)(hm:Kq w1 r)(h:Yz w1 r x vc og w)(h1:w.heap[b1]?=some (.cells #[.pointer (some ⟨r.bw,0,none⟩)] 94))(h2:w.heap[b2]?=some (.cells #[.slice la l.length lc] 28))(hr:yC w la l)
  (hs:0<=s/\s<r.h.length) (hl:r.h.length<=1000000) (hls:∀s∈l,0<=s/\s<r.h.length) (hll:l.length<=1000000) (hk:r.k<=200) (hf:1<=(yv r.h r.k l).length):
  Calls prog 112 #[.int .i64 s,.pointer (some ⟨b1,0,none⟩),.pointer (some ⟨b2,0,none⟩)] w (zV (.int .i64 (q_ r.h (yv r.h r.k l) s)) w):=by
 have HF:=za (Ig w1 r x vc og l la lc w hm h hr hls hl hll hk);obtain⟨k,rfl⟩:∃k:Nat,s=(k:Int):=⟨s.toNat,by omega⟩
 have hk:k<r.h.length:=by omega
 obtain⟨bh,oh,hha,_,h0⟩:=(hm.mh _ h.hb) k hk;have c1:w.cell? ⟨b1,0,none⟩=some (.pointer (some ⟨r.bw,0,none⟩)):=(zA _ _ 0 _ _ _ h1).trans rfl;have c2:w.cell? ⟨b2,0,none⟩=some (.slice la l.length lc):=(zA _ _ 0 _ _ _ h2).trans rfl;have k8:w.cell? ⟨r.bw,8,none⟩=some (.slice (some ⟨bh,oh,none⟩) r.h.length r.hc):=(zA _ _ 8 _ _ _ h.hx).trans (by rw[<-hha];rfl);have nk:(k:Int)<(r.h.length:Int):=by omega
 have HE:Hid (q_ r.h (yv r.h r.k l) (k:Int)=if 0<=r.h[k]then r.h[k]else(yv r.h r.k l).getD 0 0):=za (by unfold q_;rw[Yc hk]);rw[HE.out];clear hm h h1 h2 hs hha HE hr hls;generalize r.h[k]=x at *;by_cases hx:0<=x
 ·rw[zj hx]
  clear HF;go_enter func112,ntmps112;go_wp2;go_ret;exact⟨rfl,zG _ _⟩
 ·rw[zi hx]
  obtain⟨fr,hfr⟩:∃fr,fr=yv r.h r.k l:=⟨_,rfl⟩
  rw[<-hfr]at HF hf;rw[<-hfr];clear hfr;rw[zk (show 0<fr.length by omega)];have nf:(0:Int)<(fr.length:Int):=by omega
  go_enter func112,ntmps112
  go_wp2_with (first
   |(go_at_call 107;(with_reducible refine HF.out.mono ?_);rintro e w2 ⟨hb,v2,rfl,ho⟩;obtain⟨fa,fc,rfl,hr2⟩:=ho.rd;obtain⟨bf,of',hfa,_,f0⟩:=hr2 0 (by omega);subst hfa;rw[Nat.add_zero]at f0;have HB:=za hb;clear hb ho hr2))
  go_ret;exact⟨rfl,HB.out⟩
theorem D8:xE 112:=enters_of func112 (by kernel_rfl) rfl
structure P9 where
 w1:World
 r:qu
 x:YK
 W:World
 o:Option Nat
 og:Value
 b2:Nat
 b5:Nat
 bm:Nat
 b7:Nat
 Z:Nat
 na:Option Addr
 nc:Nat
 N:List Int
 ta:Option Addr
 tc:Nat
 T:List Int
structure NA(p:P9):Prop where
 bw:p.r.bw<p.b2
 ba:p.r.ba<p.r.bw
 s2:p.W.heap.size=p.b2
 o2:∀b,p.o=some b->b<p.b2
 b5:p.b2+1<p.b5/\p.b5<p.Z
 bm:p.b2+1<p.bm/\p.bm<p.Z
 b7:p.b2+1<p.b7/\p.b7<p.Z
 nb:∀b,(Value.slice p.na p.N.length p.nc).ownBlock=some b->p.b2<=b/\b<p.Z
 tb:∀b,(Value.slice p.ta p.T.length p.tc).ownBlock=some b->p.b2<=b/\b<p.Z
 d57:p.b5≠p.bm/\p.b7≠p.bm
 dnt:(Value.slice p.na p.N.length p.nc).ownBlock≠some p.bm/\(Value.slice p.ta p.T.length p.tc).ownBlock≠some p.bm
structure YQ(p:P9)(xw:xN)(vc:Value)(L:List (Int×Int))(W':World):Prop where
 wi:Yz p.w1 p.r xw vc p.og W'
 h2:W'.heap[p.b2]?=some (.cells #[.pointer (some ⟨p.r.bw,0,none⟩)] 94)
 h3:W'.heap[p.b2+1]?=some (.cells #[.int .i64 p.x.g.frm,.int .i64 p.x.g.til,.slice p.x.a p.x.g.reads.length p.x.c,.int .i64 p.x.g.wr] 107)
 h5:W'.heap[p.b5]?=some (.cells #[.slice p.na p.N.length p.nc] 28)
 h7:W'.heap[p.b7]?=some (.cells #[.map (some p.bm)] 120)
 hM:xe xU W' p.bm L
 hN:zu W' p.b2 (.slice p.na p.N.length p.nc) p.N
 hT:zu W' p.b2 (.slice p.ta p.T.length p.tc) p.T
 hs:vK p.r p.o p.W W'
 ho:vc.ownBlock=p.o\/∃b,vc.ownBlock=some b/\p.Z<=b
 hz:p.Z<=W'.heap.size
theorem Yz.kept{w1:World}{r:qu}{xw:xN}{vc og:Value}{W W':World}{row:Option Nat}(h:Yz w1 r xw vc og W)(hg:W.grownBy W' row)(hr:∀k,row=some k->r.bw<k/\vc.ownBlock≠some k):Yz w1 r xw vc og W':=by
 have hlt:=h.lt
 exact⟨h.hb.grown hg h.hb.size (fun k e=> .inl (by have:=(hr k e).1;have:=h.sz;omega)),(hg.block _ (ze h.hx) (fun e=>by have:=(hr _ e.symm).1;omega)).trans h.hx,
  yA h.hc (fun b hb hl=>hg.block b hl (fun e=>(hr b e.symm).2 hb)),h.ha.keep (hg.block _ h.ha.lt (fun e=>by have:=(hr _ e.symm).1;omega)),hlt,h.sz⟩
theorem vK.kept{r:qu}{o:Option Nat}{W A C:World}{row:Option Nat}(h:vK r o W A)(hg:A.grownBy C row)(hr:∀k,row=some k->W.heap.size<=k):vK r o W C:=
 ⟨hg.os.trans h.os,hg.tape.trans h.tape,hg.output.trans h.output,yP h.size hg.size,fun b hb h1 h2 h3=>(hg.block b (xh hb h.size) (fun e=>by have:=hr b e.symm;omega)).trans (h.block b hb h1 h2 h3)⟩
section
variable {p:P9} {xw xw':xN} {vc vc':Value} {L:List (Int×Int)} {W' W'':World}
theorem YQ.below(h:YQ p xw vc L W')(hb:Below W'.heap.size W' W''):YQ p xw vc L W'':=
 ⟨h.wi.below hb,zb hb h.h2,zb hb h.h3,zb hb h.h5,zb hb h.h7,h.hM.below hb,zu.later h.hN hb,zu.later h.hT hb,
  h.hs.trans (vK.of_below (o:=p.o) hb) (.inl rfl),h.ho,yP h.hz hb.size⟩
theorem YQ.step(hZ:NA p)(h:YQ p xw vc L W')(hi:Yz p.w1 p.r xw' vc' p.og W'')(hs:vK p.r vc.ownBlock W' W'')(hn:Vk vc.ownBlock vc'.ownBlock W'):YQ p xw' vc' L W'':=by
 have hbw:=hZ.bw;have hba:=hZ.ba;have hz:=h.hz;have hsz:=hs.size
 have key:∀k,p.b2<=k->k<p.Z->W''.heap[k]?=W'.heap[k]?:=fun k h1 h2=>hs.block k (by omega) (by omega) (by omega) (fun e=>by
  rcases h.ho with e2|⟨b,e2,hb⟩
  ·rw[e2]at e;have:=hZ.o2 k e.symm;omega
  ·rw[e2]at e;cases e;omega)
 refine⟨hi,(key _ (zI _) (by have:=hZ.b5;omega)).trans h.h2,(key _ (by omega) (by have:=hZ.b5;omega)).trans h.h3,(key _ (by have:=hZ.b5;omega) hZ.b5.2).trans h.h5,(key _ (by have:=hZ.b7;omega) hZ.b7.2).trans h.h7,
  h.hM.keep (key _ (by have:=hZ.bm;omega) hZ.bm.2),yA h.hN (fun b hb _=>key b (hZ.nb b hb).1 (hZ.nb b hb).2),yA h.hT (fun b hb _=>key b (hZ.tb b hb).1 (hZ.tb b hb).2),?_,?_,by omega⟩
 ·have hs0:=h.hs
  refine hs0.trans hs ?_;rcases h.ho with e2|⟨b,e2,hb⟩
  ·exact .inl e2
  ·exact .inr ⟨b,e2,by have:=hZ.s2;have:=hZ.b5;omega⟩
 ·rcases hn with e|⟨b,e,hb⟩
  ·rw[e];exact h.ho
  ·exact .inr ⟨b,e,by omega⟩
theorem YQ.put(hZ:NA p)(h:YQ p xw vc L W'){L':List (Int×Int)}(hg:W'.grownBy W'' (some p.bm))(hm:xe xU W'' p.bm L'):YQ p xw vc L' W'':=by
 have hbw:=hZ.bw;have hba:=hZ.ba;have hbm:=hZ.bm;have hs2:=hZ.s2;have hd:=hZ.d57;have hne:∀k,k≠p.bm->some k≠some p.bm:=fun k hk e=>hk (Option.some.inj e)
 refine⟨h.wi.kept hg (fun k e=>by cases e;refine⟨by omega,fun e2=> ?_⟩;rcases h.ho with e3|⟨b,e3,hb⟩;rw[e3]at e2;have:=hZ.o2 _ e2;omega;rw[e3]at e2;cases e2;omega),
  (hg.block _ (ze h.h2) (hne _ (by omega))).trans h.h2,(hg.block _ (ze h.h3) (hne _ (by omega))).trans h.h3,(hg.block _ (ze h.h5) (hne _ hd.1)).trans h.h5,(hg.block _ (ze h.h7) (hne _ hd.2)).trans h.h7,hm,
  zu.kept h.hN hg (fun b hb e=>hZ.dnt.1 (hb.trans e)),zu.kept h.hT hg (fun b hb e=>hZ.dnt.2 (hb.trans e)),h.hs.kept hg (fun k e=>by cases e;omega),h.ho,yP h.hz hg.size⟩
theorem YQ.at(hZ:NA p)(h:YQ p xw vc L W'){i:Nat}(hi:i<xw.ats.length)(v:Int):YQ p ⟨xw.code,xw.ats.set i v⟩ vc L (W'.setCell ⟨p.r.ba,i,none⟩ (.int .i64 v)):=by
 have hba:=hZ.ba;have hso:∀k,k≠p.r.ba->(W'.setCell ⟨p.r.ba,i,none⟩ (.int .i64 v)).heap[k]?=W'.heap[k]?:=fun k hk=>yF _ _ _ _ hk
 have hge:=zy h.wi.hc;refine h.step hZ ⟨?_,(hso _ (by omega)).trans h.wi.hx,Ac h.wi.hc (fun b hb=>hso b (by have:=hge b hb;omega)),h.wi.ha.set hi v,h.wi.lt,h.wi.sz⟩ ⟨?_,?_,?_,by simp,fun b hb h1 h2 _=>hso b h2⟩ (.inl rfl)
 ·exact h.wi.hb.setCell (p:=⟨p.r.ba,i,none⟩) (.inr rfl) _
 ·simp[World.setCell]
 ·simp[World.setCell]
 ·simp[World.setCell]
end
section
variable {p:P9} {xw:xN} {vc:Value} {L:List (Int×Int)} {W' W'':World}
theorem YQ.raise(h:YQ p xw vc L W')(e:vc.ownBlock=p.o){Z:Nat}(hz:Z<=W'.heap.size):YQ { p with Z:=Z } xw vc L W':=
 ⟨h.wi,h.h2,h.h3,h.h5,h.h7,h.hM,h.hN,h.hT,h.hs,.inl e,hz⟩
theorem NA.raise(h:NA p){Z:Nat}(hz:p.Z<=Z):NA { p with Z:=Z }:=
 ⟨h.bw,h.ba,h.s2,h.o2,⟨h.b5.1,xh h.b5.2 hz⟩,⟨h.bm.1,xh h.bm.2 hz⟩,⟨h.b7.1,xh h.b7.2 hz⟩,fun b e=>⟨(h.nb b e).1,xh (h.nb b e).2 hz⟩,fun b e=>⟨(h.tb b e).1,xh (h.tb b e).2 hz⟩,h.d57,h.dnt⟩
theorem YQ.own(hZ:NA p)(h:YQ p xw vc L W')(hs:vK p.r vc.ownBlock W' W''){base:Nat}{v:Value}{l:List Int}(ho:zu W' base v l)(hb:∀b,v.ownBlock=some b->p.b2<=b/\b<p.Z):zu W'' base v l:=by
 have hbw:=hZ.bw;have hba:=hZ.ba;have hz:=h.hz;refine yA ho (fun k hk _=> ?_);obtain⟨h1,h2⟩:=hb k hk
 exact hs.block k (by omega) (by omega) (by omega) (fun e=>by
  rcases h.ho with e2|⟨b,e2,hb⟩
  ·rw[e2]at e;have:=hZ.o2 k e.symm;omega
  ·rw[e2]at e;cases e;omega)
theorem YQ.cells(h:YQ p xw vc L W'):W'.cell? ⟨p.b2,0,none⟩=some (.pointer (some ⟨p.r.bw,0,none⟩))/\W'.cell? ⟨p.b2+1,0,none⟩=some (.int .i64 p.x.g.frm)/\W'.cell? ⟨p.b2+1,1,none⟩=some (.int .i64 p.x.g.til)/\W'.cell? ⟨p.b2+1,3,none⟩=some (.int .i64 p.x.g.wr) /\
  W'.cell? ⟨p.r.bw,8,none⟩=some (.slice p.r.ha p.r.h.length p.r.hc)/\W'.cell? ⟨p.r.bw,15,none⟩=some vc/\W'.cell? ⟨p.r.bw,17,none⟩=some (.slice (some ⟨p.r.ba,0,none⟩) p.r.u.code.length p.r.u.code.length)/\W'.cell? ⟨p.b7,0,none⟩=some (.map (some p.bm)):=by
 obtain⟨g0,g1,_,g3⟩:=zX h.h3;exact⟨(zA _ _ 0 _ _ _ h.h2).trans rfl,g0,g1,g3,(zA _ _ 8 _ _ _ h.wi.hx).trans rfl,(zA _ _ 15 _ _ _ h.wi.hx).trans rfl,(zA _ _ 17 _ _ _ h.wi.hx).trans rfl,(zA _ _ 0 _ _ _ h.h7).trans rfl⟩
end
theorem yC.off{W W':World}{a:Option Addr}{l:List Int}(h:yC W a l)(hs:W.heap.size<=W'.heap.size)(hk:∀b off,a=some ⟨b,off,none⟩->W'.heap[b]?=W.heap[b]?):yC W' a l:=by
 intro i hi;obtain⟨b,off,ha,hlt,hc⟩:=h i hi;refine⟨b,off,ha,by omega,?_⟩;unfold World.cell? at hc ⊢;rw[hk b off ha];exact hc
def Zf(r:qu)(g:xd)(T:List Int)(xw:xN)(j:Nat):xN:=
 ⟨xw.code++((zx r.h g).take j).map (fun s=>qm (qX (zx r.h g) T s) (-2-zh r.h s)),xw.ats.set g.frm xw.code.length⟩
theorem AN(r:qu)(g:xd)(T:List Int)(xw:xN):Zf r g T xw 0=⟨xw.code,xw.ats.set g.frm xw.code.length⟩:=by unfold Zf;rw[List.take_zero,List.map_nil,qO]
def jD(r:qu)(g:xd)(T:List Int)(j:Nat):List (Int×Int):=((zx r.h g).take j).map fun s=>(s,qX (zx r.h g) T s)
def jx(r:qu)(g:xd)(T fr:List Int)(y:xN):Nat->xN
 |0=>y
 |1=>⟨y.code++ [zY (r.u.code.getD g.frm zw) (Yx r.h (zx r.h g) T) (q_ r.h fr)],y.ats⟩
 |m+2=>vu r.u r.h (zx r.h g) T fr (jx r g T fr y (m+1)) (g.frm+(m+1))
theorem KS(r:qu)(g:xd)(T fr:List Int)(y:xN):∀m,jx r g T fr y (m+1)=((List.range m).map (g.frm+1+ ·)).foldl (vu r.u r.h (zx r.h g) T fr) (jx r g T fr y 1)
 |0=>rfl
 |m+1=>by
  rw[Ze,q8,jc,<-KS r g T fr y m];show vu _ _ _ _ _ (jx r g T fr y (m+1)) (g.frm+(m+1))=vu _ _ _ _ _ _ (g.frm+1+m);rw[show g.frm+(m+1)=g.frm+1+m by omega]
theorem DM(r:qu)(g:xd)(hle:g.frm<=g.til)(xw:xN):qY r.u (zf r.u) r.h r.k xw g =
  (if 0<=g.wr/\zh r.h g.wr<= -2 then⟨(jx r g (yv r.h r.k (yj r.u (zf r.u) g)) (yv r.h r.k (zU r.u (zf r.u) g)) (Zf r g (yv r.h r.k (yj r.u (zf r.u) g)) xw (zx r.h g).length) (g.til+1-g.frm)).code++ [xx (-2-zh r.h g.wr) (q_ r.h (yv r.h r.k (zU r.u (zf r.u) g)) g.wr)],
    (jx r g (yv r.h r.k (yj r.u (zf r.u) g)) (yv r.h r.k (zU r.u (zf r.u) g)) (Zf r g (yv r.h r.k (yj r.u (zf r.u) g)) xw (zx r.h g).length) (g.til+1-g.frm)).ats⟩
   else jx r g (yv r.h r.k (yj r.u (zf r.u) g)) (yv r.h r.k (zU r.u (zf r.u) g)) (Zf r g (yv r.h r.k (yj r.u (zf r.u) g)) xw (zx r.h g).length) (g.til+1-g.frm)):=by
 obtain⟨m,hm⟩:∃m,g.til+1-g.frm=m+1:=⟨g.til-g.frm,by omega⟩
 have hm2:g.til-g.frm=m:=by omega
 rw[hm,KS];unfold qY;simp only[hm2];unfold jx Zf;rw[xL]
theorem Ol(r:qu)(g:xd)(T fr:List Int)(y:xN):∀m,(jx r g T fr y m).code.length=y.code.length+m/\(jx r g T fr y m).ats.length=y.ats.length
 |0=>⟨rfl,rfl⟩
 |1=>⟨by unfold jx;simp only[yV,Y8],rfl⟩
 |m+2=>by
  obtain⟨h1,h2⟩:=Ol r g T fr y (m+1);unfold jx vu;simp only[yV,Y8,List.length_set];omega
theorem Ok(r:qu)(g:xd)(T:List Int)(xw:xN){j:Nat}(hj:j<=(zx r.h g).length):(Zf r g T xw j).code.length=xw.code.length+j/\(Zf r g T xw j).ats.length=xw.ats.length:=by
 unfold Zf;refine⟨?_,List.length_set⟩;show(xw.code++_).length=_;rw[yV,ym,xm];omega
theorem AO(r:qu)(g:xd)(T:List Int)(xw:xN){j:Nat}(hj:j<(zx r.h g).length):Zf r g T xw (j+1) =
  ⟨(Zf r g T xw j).code++ [qm (qX (zx r.h g) T (zx r.h g)[j]) (-2-zh r.h (zx r.h g)[j])],(Zf r g T xw j).ats⟩:=by
 unfold Zf;rw[List.take_succ_eq_append_getElem hj,q8,Yr];rfl
theorem GX:∀ {l:List Int} {j:Nat} (h:j<l.length),l.Nodup->l.idxOf l[j]=j
 |x::l,0,_,_=>by simp
 |x::l,j+1,h,hn=>by
  obtain⟨n1,n2⟩:=List.nodup_cons.1 hn;have hj:j<l.length:=by simpa using h
  have ih:=GX hj n2;rw[List.getElem_cons_succ,List.idxOf_cons]
  have hne:(x==l[j])=false:=by
   rw[yY];intro e;exact n1 (e ▸ yy hj)
  rw[hne];simp[ih]
theorem GW(r:qu)(g:xd)(T:List Int){j:Nat}(hj:j<(zx r.h g).length)(hn:(zx r.h g).Nodup)(hl:(zx r.h g).length<=T.length):
  qX (zx r.h g) T (zx r.h g)[j]=T[j]'(by omega)/\(putM (zx r.h g)[j] (T[j]'(by omega)) (jD r g T j)).Perm (jD r g T (j+1))/\(jD r g T j).length=j:=by
 have e1:qX (zx r.h g) T (zx r.h g)[j]=T[j]'(by omega):=by
  unfold qX;rw[GX hj hn,zk]
 refine⟨e1,?_,by unfold jD;rw[ym,xm];omega⟩
 have hp:=O_ (L:=jD r g T j) (s:=(zx r.h g)[j]) (c:=T[j]'(by omega)) (fun x hx=>by
  unfold jD at hx;obtain⟨s,hs,rfl⟩:=xI.1 hx;obtain⟨i,hi,rfl⟩:=List.getElem_of_mem hs;rw[xm]at hi;rw[List.getElem_take]
  exact List.pairwise_iff_getElem.1 hn i j (by omega) hj (by omega))
 refine hp.trans ?_;unfold jD;rw[List.take_succ_eq_append_getElem hj,q8,List.map_singleton,e1]
theorem Vz(r:qu)(g:xd)(T:List Int)(j:Nat)(hn:(zx r.h g).Nodup):Zo (jD r g T j):=by
 unfold Zo jD;rw[List.pairwise_map];exact(hn.sublist (List.take_sublist _ _)).imp fun h=>h
theorem Dy(r:qu)(g:xd)(T:List Int){s:Int}(hs:s∈zx r.h g)(hn:(zx r.h g).Nodup):jZ (jD r g T (zx r.h g).length) s=some (qX (zx r.h g) T s):=
 vE (Vz r g T _ hn) (by
  unfold jD;rw[xL]
  exact xI.2 ⟨s,hs,rfl⟩)
theorem O2{r:qu}{g:xd}{T K:List Int}(hK:K=zx r.h g){j:Nat}(hj:j<K.length)(hn:K.Nodup)(hl:K.length<=T.length):
  (putM K[j] (T[j]'(by omega)) (jD r g T j)).Perm (jD r g T (j+1))/\(jD r g T j).length=j/\jZ (jD r g T (j+1)) K[j]=some (T[j]'(by omega)):=by
 subst hK;obtain⟨_,h2,h3⟩:=GW r g T hj hn hl;exact⟨h2,h3,vE (Vz r g T _ hn) (h2.subset (by unfold putM;exact List.mem_cons_self))⟩
theorem II{r:qu}{g:xd}{T K:List Int}(hK:K=zx r.h g)(xw:xN){j:Nat}(hj:j<K.length)(hn:K.Nodup)(hl:K.length<=T.length):
  Zf r g T xw (j+1)=⟨(Zf r g T xw j).code++ [⟨33,T[j]'(by omega),-2-zh r.h K[j],0⟩],(Zf r g T xw j).ats⟩/\(Zf r g T xw j).code.length=xw.code.length+j:=by
 subst hK;obtain⟨h1,_,_⟩:=GW r g T hj hn hl;refine⟨?_,(Ok r g T xw (by omega)).1⟩;rw[AO r g T xw hj,h1];rfl
end Go.Proofs.YtgalekifgnecjaaGreat
