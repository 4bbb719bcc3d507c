/- Regs of package regs: the errors, and enough registers -/
import Derived.Test.YtgalekifgnecjaaGreatS6
import Derived.Test.YtgalekifgnecjaaGreatR1
namespace Go.Proofs.YtgalekifgnecjaaGreat
open Tryz Go.RowKit Go.Shelf
set_option maxHeartbeats 8000000
set_option maxRecDepth 100000
attribute [local go_sem] Oper.semAt_some
theorem FG:(prog.info? 25).map (·.size)=some 7:=by kernel_rfl
theorem FF:(prog.info? 30).map (·.size)=some 2:=by kernel_rfl
abbrev oZ:Obj:=.cells #[.string ⟨#[]⟩,.string ⟨#[]⟩,.int .i64 0,.int .i64 0,.int .i64 0,.slice none 0 0,.slice none 0 0] 25
abbrev oH(a b:Value):Obj:=.cells #[a,b] 30
abbrev vZ:Value:=.agg #[.string ⟨#[]⟩,.string ⟨#[]⟩,.int .i64 0,.int .i64 0,.int .i64 0,.slice none 0 0,.slice none 0 0]
theorem Kj{W:World}{b:Nat}{c:Array Value}{T:TypeId}(h:W.heap[b]?=some (.cells c T (0,0)))(k:Nat):W.frozen? ⟨b,k,none⟩=false:=YF h
theorem Ro{w:World}{g:Nat}{x0 x1 x2 x3 x4 x5 x6:Value}{T:TypeId}(h:w.heap[g]?=some (.cells #[x0,x1,x2,x3,x4,x5,x6] T (0,0)))(y0 y1 y2 y3 y4 y5 y6:Value):
  (((((((w.setCell ⟨g,0,none⟩ y0).setCell ⟨g,1,none⟩ y1).setCell ⟨g,2,none⟩ y2).setCell ⟨g,3,none⟩ y3).setCell ⟨g,4,none⟩ y4).setCell ⟨g,5,none⟩ y5).setCell ⟨g,6,none⟩ y6).heap[g]?=some (.cells #[y0,y1,y2,y3,y4,y5,y6] T (0,0)):=by
 have h0:(w.setCell ⟨g,0,none⟩ y0).heap[g]?=some (.cells #[y0,x1,x2,x3,x4,x5,x6] T (0,0)):=yk _ _ 0 _ _ _ h;clear h;generalize w.setCell ⟨g,0,none⟩ y0=w at h0 ⊢;have h1:(w.setCell ⟨g,1,none⟩ y1).heap[g]?=some (.cells #[y0,y1,x2,x3,x4,x5,x6] T (0,0)):=yk _ _ 1 _ _ _ h0;clear h0;generalize w.setCell ⟨g,1,none⟩ y1=w at h1 ⊢;have h2:(w.setCell ⟨g,2,none⟩ y2).heap[g]?=some (.cells #[y0,y1,y2,x3,x4,x5,x6] T (0,0)):=yk _ _ 2 _ _ _ h1;clear h1;generalize w.setCell ⟨g,2,none⟩ y2=w at h2 ⊢;have h3:(w.setCell ⟨g,3,none⟩ y3).heap[g]?=some (.cells #[y0,y1,y2,y3,x4,x5,x6] T (0,0)):=yk _ _ 3 _ _ _ h2;clear h2;generalize w.setCell ⟨g,3,none⟩ y3=w at h3 ⊢;have h4:(w.setCell ⟨g,4,none⟩ y4).heap[g]?=some (.cells #[y0,y1,y2,y3,y4,x5,x6] T (0,0)):=yk _ _ 4 _ _ _ h3;clear h3;generalize w.setCell ⟨g,4,none⟩ y4=w at h4 ⊢;have h5:(w.setCell ⟨g,5,none⟩ y5).heap[g]?=some (.cells #[y0,y1,y2,y3,y4,y5,x6] T (0,0)):=yk _ _ 5 _ _ _ h4;clear h4;generalize w.setCell ⟨g,5,none⟩ y5=w at h5 ⊢;exact yk _ _ 6 _ _ _ h5
theorem Gn{B:Nat}{w0 w:World}{g:Nat}(h:Below B w0 w)(hg:B<=g)(y0 y1 y2 y3 y4 y5 y6:Value):
  Below B w0 (((((((w.setCell ⟨g,0,none⟩ y0).setCell ⟨g,1,none⟩ y1).setCell ⟨g,2,none⟩ y2).setCell ⟨g,3,none⟩ y3).setCell ⟨g,4,none⟩ y4).setCell ⟨g,5,none⟩ y5).setCell ⟨g,6,none⟩ y6):=
 ((((((h.setCell (p:=⟨g,0,none⟩) hg _).setCell (p:=⟨g,1,none⟩) hg _).setCell (p:=⟨g,2,none⟩) hg _).setCell (p:=⟨g,3,none⟩) hg _).setCell (p:=⟨g,4,none⟩) hg _).setCell (p:=⟨g,5,none⟩) hg _).setCell (p:=⟨g,6,none⟩) hg _
theorem QR{w:World}{g k:Nat}(hn:k≠g)(y0 y1 y2 y3 y4 y5 y6:Value):
  (((((((w.setCell ⟨g,0,none⟩ y0).setCell ⟨g,1,none⟩ y1).setCell ⟨g,2,none⟩ y2).setCell ⟨g,3,none⟩ y3).setCell ⟨g,4,none⟩ y4).setCell ⟨g,5,none⟩ y5).setCell ⟨g,6,none⟩ y6).heap[k]?=w.heap[k]?:=
 (yF _ _ _ _ hn).trans ((yF _ _ _ _ hn).trans ((yF _ _ _ _ hn).trans ((yF _ _ _ _ hn).trans ((yF _ _ _ _ hn).trans ((yF _ _ _ _ hn).trans (yF _ _ _ _ hn))))))
theorem Rr{w:World}{g:Nat}{x0 x1:Value}{T:TypeId}(h:w.heap[g]?=some (.cells #[x0,x1] T (0,0)))(y0 y1:Value):
  ((w.setCell ⟨g,0,none⟩ y0).setCell ⟨g,1,none⟩ y1).heap[g]?=some (.cells #[y0,y1] T (0,0)):=by
 have h0:(w.setCell ⟨g,0,none⟩ y0).heap[g]?=some (.cells #[y0,x1] T (0,0)):=yk _ _ 0 _ _ _ h;exact yk _ _ 1 _ _ _ h0
theorem Jj{R:Ending->World->Prop}{a:Act}{w:World}{g1 g2:Nat}{c1 c2:Array Value}{x:Value}(h4:a.tmps.getD 4 undef= .pointer (some ⟨g1,0,none⟩))(h5:a.tmps.getD 5 undef= .pointer (some ⟨g2,0,none⟩))(h6:a.tmps.getD 6 undef=x)
  (H1:w.heap[g1]?=some (.cells c1 25 (0,0))) (s1:c1.size=7) (H2:w.heap[g2]?=some (.cells c2 30 (0,0))) (s2:c2.size=2) (hd:a.defers= []) (hR:R (.returned (.tuple #[.agg c1,.agg c2,x])) w):bodyPost prog Tryz.f13 R .ret a w:=by
 refine xJ (v:=.tuple #[.agg c1,.agg c2,x]) ?_ hd hR;have e1:=run_loadVar_row (P:=prog) w g1 25 25 c1 (0,0) _ H1 Tryz.underlying25 rfl (by rw[FG,s1]);have e2:=run_loadVar_row (P:=prog) w g2 30 30 c2 (0,0) _ H2 Tryz.underlying30 rfl (by rw[FF,s2]);have p4:a.tmps[4]?.getD undef= .pointer (some ⟨g1,0,none⟩):=by simpa using h4
 have p5:a.tmps[5]?.getD undef= .pointer (some ⟨g2,0,none⟩):=by simpa using h5
 have p6:a.tmps[6]?.getD undef=x:=by simpa using h6
 simp[results,Tryz.results13,p4,p5,p6,asAddr,e1,e2]
def R5(e:Int):Value:=.tuple #[vZ,.agg #[.slice none 0 0,.slice none 0 0],.int .i64 e]
structure Ge(w:World)(u:zg)(ca cc ga gc)(wr:World):Prop where
 hb:Below w.heap.size w wr
 hu:wr.heap[w.heap.size]?=some (oU u ca cc ga gc)
 hv:wr.heap[w.heap.size+1]?=some oZ
 hh:wr.heap[w.heap.size+1+1]?=some (oH (.slice none 0 0) (.slice none 0 0))
theorem Ge.below{w:World}{u:zg}{ca cc ga gc}{wr w':World}(h:Ge w u ca cc ga gc wr)(hb:Below wr.heap.size wr w'):Ge w u ca cc ga gc w':=
 ⟨h.hb.step hb,zb hb h.hu,zb hb h.hv,zb hb h.hh⟩
theorem Y_(w:World)(u:zg)(ca cc ga gc):Ge w u ca cc ga gc (((w.alloc (oU u ca cc ga gc)).alloc oZ).alloc (oH (.slice none 0 0) (.slice none 0 0))):=
 ⟨((zd w _).step (zd _ _)).step (zd _ _),zb (zd _ _) (zb (zd _ _) (zo _ _ _ rfl)),zb (zd _ _) (zo _ _ _ (by simp)),zo _ _ _ (by simp)⟩
theorem K0{w:World}{u:zg}{ca cc ga gc}{w2:World}(h:Ge w u ca cc ga gc w2):
  Ge w u ca cc ga gc (((((((((w2.setCell ⟨w.heap.size+1,0,none⟩ (.string ⟨#[]⟩)).setCell ⟨w.heap.size+1,1,none⟩ (.string ⟨#[]⟩)).setCell ⟨w.heap.size+1,2,none⟩ (.int .i64 0)).setCell ⟨w.heap.size+1,3,none⟩ (.int .i64 0)).setCell ⟨w.heap.size+1,4,none⟩ (.int .i64 0)).setCell ⟨w.heap.size+1,5,none⟩ (.slice none 0 0)).setCell ⟨w.heap.size+1,6,none⟩ (.slice none 0 0)).setCell ⟨w.heap.size+1+1,0,none⟩ (.slice none 0 0)).setCell ⟨w.heap.size+1+1,1,none⟩ (.slice none 0 0)):=by
 have h1:=Ro h.hv (.string ⟨#[]⟩) (.string ⟨#[]⟩) (.int .i64 0) (.int .i64 0) (.int .i64 0) (.slice none 0 0) (.slice none 0 0);have b1:=Gn (g:=w.heap.size+1) h.hb (by omega) (.string ⟨#[]⟩) (.string ⟨#[]⟩) (.int .i64 0) (.int .i64 0) (.int .i64 0) (.slice none 0 0) (.slice none 0 0);have o1:=QR (w:=w2) (g:=w.heap.size+1) (k:=w.heap.size) (by omega) (.string ⟨#[]⟩) (.string ⟨#[]⟩) (.int .i64 0) (.int .i64 0) (.int .i64 0) (.slice none 0 0) (.slice none 0 0);have o2:=QR (w:=w2) (g:=w.heap.size+1) (k:=w.heap.size+1+1) (by omega) (.string ⟨#[]⟩) (.string ⟨#[]⟩) (.int .i64 0) (.int .i64 0) (.int .i64 0) (.slice none 0 0) (.slice none 0 0);have h2:=Rr (o2.trans h.hh) (.slice none 0 0) (.slice none 0 0);refine⟨(b1.setCell (p:=⟨w.heap.size+1+1,0,none⟩) (by show _<=w.heap.size+1+1;omega) _).setCell (p:=⟨w.heap.size+1+1,1,none⟩) (by show _<=w.heap.size+1+1;omega) _,?_,?_,h2⟩
 ·exact(yF _ _ _ _ (by show w.heap.size≠w.heap.size+1+1;omega)).trans ((yF _ _ _ _ (by show w.heap.size≠w.heap.size+1+1;omega)).trans (o1.trans h.hu))
 ·exact(yF _ _ _ _ (by show w.heap.size+1≠w.heap.size+1+1;omega)).trans ((yF _ _ _ _ (by show w.heap.size+1≠w.heap.size+1+1;omega)).trans h1)
theorem FX(u:zg)(k:Int)(ca cc ga gc)(w:World)(hm:jo w u ca cc ga gc)(hlc:u.code.length<=1000000)(hlg:u.guards.length<=1000000)(hw:¬(zC u=true/\yr k 1 200=true)):
  Calls prog 13 #[vU u ca cc ga gc,.int .i64 k] w (zV (R5 1) w):=by
 have HW:=za (fun w' (hb:Below w.heap.size w w')=>qv u ca cc ga gc w' (hm.below hb) hlc hlg);have HI:=za (Y_ w u ca cc ga gc);have HNO:=za (fun w2=>K0 (w:=w) (u:=u) (ca:=ca) (cc:=cc) (ga:=ga) (gc:=gc) (w2:=w2));have HWI:=za (fun w=>xY k 1 200 w);clear hm;obtain⟨wa,hwa⟩:∃wa,wa=((w.alloc (oU u ca cc ga gc)).alloc oZ).alloc (oH (.slice none 0 0) (.slice none 0 0)):=⟨_,rfl⟩
 rw[<-hwa]at HI;obtain⟨k0,k1,k2,k3,k4,k5,k6⟩:=zr HI.out.hu
 cases hwr:zC u with
 |false=>
  rw[hwr]at HW;clear hwr hw;go_enter func13,ntmps13;go_upto_region 1 with fail;rw[<-hwa];clear hwa
  go_upto_region 2 with (first
   |(go_at_call 42;(with_reducible refine(HW.out _ HI.out.hb).mono ?_);rintro e w2 ⟨rfl,hb⟩;have HI2:=za (HI.out.below hb);clear hb))
  clear k0 k1 k2 k3 k4 k5 k6;have hv:=HI2.out.hv;have hh:=HI2.out.hh;have f0:=zF 0 hv;have f1:=zF 1 hv;have f2:=zF 2 hv;have f3:=zF 3 hv;have f4:=zF 4 hv;have f5:=zF 5 hv;have f6:=zF 6 hv;have g0:=zF 0 hh;have g1:=zF 1 hh;obtain⟨v0,v1,v2,v3,v4,v5,v6⟩:=zr hv;obtain⟨x0,x1,_,_⟩:=qe hh;clear hv hh;go_wp2
  exact Jj (g1:=w.heap.size+1) (g2:=w.heap.size+1+1) rfl rfl rfl (HNO.out _ HI2.out).hv rfl (HNO.out _ HI2.out).hh rfl rfl ⟨rfl,(HNO.out _ HI2.out).hb⟩
 |true=>
  have hk:yr k 1 200=false:=by
   cases h:yr k 1 200 with
   |false=>rfl
   |true=>exact absurd ⟨hwr,h⟩ hw
  rw[hwr]at HW;rw[hk]at HWI;clear hwr hw hk;go_enter func13,ntmps13;go_upto_region 1 with fail;rw[<-hwa];clear hwa
  go_upto_region 2 with (first
   |(go_at_call 42;(with_reducible refine(HW.out _ HI.out.hb).mono ?_);rintro e w2 ⟨rfl,hb⟩;have HI2:=za (HI.out.below hb);clear hb)
   |(go_at_call 43;(with_reducible refine(HWI.out _).mono ?_);rintro e w3 ⟨rfl,rfl⟩))
  clear k0 k1 k2 k3 k4 k5 k6;have hv:=HI2.out.hv;have hh:=HI2.out.hh;have f0:=zF 0 hv;have f1:=zF 1 hv;have f2:=zF 2 hv;have f3:=zF 3 hv;have f4:=zF 4 hv;have f5:=zF 5 hv;have f6:=zF 6 hv;have g0:=zF 0 hh;have g1:=zF 1 hh;obtain⟨v0,v1,v2,v3,v4,v5,v6⟩:=zr hv;obtain⟨x0,x1,_,_⟩:=qe hh;clear hv hh;go_wp2;exact Jj (g1:=w.heap.size+1) (g2:=w.heap.size+1+1) rfl rfl rfl (HNO.out _ HI2.out).hv rfl (HNO.out _ HI2.out).hh rfl rfl ⟨rfl,(HNO.out _ HI2.out).hb⟩
theorem K1(u:zg)(k:Int)(ca cc ga gc)(w:World)(hm:jo w u ca cc ga gc)(hlc:u.code.length<=1000000)(hlg:u.guards.length<=1000000)(hw:zC u=true)(hk:yr k 1 200=true)(hks:k<u.slots)(hkl:k<yd u):
  Calls prog 13 #[vU u ca cc ga gc,.int .i64 k] w (zV (R5 14) w):=by
 have HW:=za (fun w' (hb:Below w.heap.size w w')=>qv u ca cc ga gc w' (hm.below hb) hlc hlg);have HLE:=za (fun w' (hb:Below w.heap.size w w')=>Qu u ca cc ga gc w' (hm.below hb) (qA hw));have HI:=za (Y_ w u ca cc ga gc);have HNO:=za (fun w2=>K0 (w:=w) (u:=u) (ca:=ca) (cc:=cc) (ga:=ga) (gc:=gc) (w2:=w2));have HWI:=za (fun w=>xY k 1 200 w);clear hm;rw[hw]at HW;rw[hk]at HWI;generalize yd u=L at *;obtain⟨wa,hwa⟩:∃wa,wa=((w.alloc (oU u ca cc ga gc)).alloc oZ).alloc (oH (.slice none 0 0) (.slice none 0 0)):=⟨_,rfl⟩
 rw[<-hwa]at HI;obtain⟨k0,k1,k2,k3,k4,k5,k6⟩:=zr HI.out.hu;clear hw hk;have hks2:¬u.slots<=k:=by omega
 go_enter func13,ntmps13;go_upto_region 1 with fail;rw[<-hwa];clear hwa
 go_upto_region 3 with (first
  |(go_at_call 42;(with_reducible refine(HW.out _ HI.out.hb).mono ?_);rintro e w2 ⟨rfl,hb⟩;have HI2:=za (HI.out.below hb);clear hb)
  |(go_at_call 43;(with_reducible refine(HWI.out _).mono ?_);rintro e w3 ⟨rfl,rfl⟩))
 clear k0 k1 k2 k3 k4 k5 k6;obtain⟨k0,k1,k2,k3,k4,k5,k6⟩:=zr HI2.out.hu
 go_upto_region 19 with (first
  |(go_at_call 46;(with_reducible refine(HLE.out _ HI2.out.hb).mono ?_);rintro e w4 ⟨rfl,hb⟩;have HI4:=za (HI2.out.below hb);clear hb))
 clear k0 k1 k2 k3 k4 k5 k6;have hv:=HI4.out.hv;have hh:=HI4.out.hh;have f0:=zF 0 hv;have f1:=zF 1 hv;have f2:=zF 2 hv;have f3:=zF 3 hv;have f4:=zF 4 hv;have f5:=zF 5 hv;have f6:=zF 6 hv;have g0:=zF 0 hh;have g1:=zF 1 hh;obtain⟨v0,v1,v2,v3,v4,v5,v6⟩:=zr hv;obtain⟨x0,x1,_,_⟩:=qe hh;clear hv hh;go_wp2;exact Jj (g1:=w.heap.size+1) (g2:=w.heap.size+1+1) rfl rfl rfl (HNO.out _ HI4.out).hv rfl (HNO.out _ HI4.out).hh rfl rfl ⟨rfl,(HNO.out _ HI4.out).hb⟩
theorem Ge.grown{w:World}{u:zg}{ca cc ga gc}{wr w6:World}{row:Option Nat}(h:Ge w u ca cc ga gc wr)(hg:wr.grownBy w6 row)(hr:∀r,row=some r->w.heap.size+3<=r):Ge w u ca cc ga gc w6:=
 ⟨h.hb.grown hg h.hb.size (fun r e=>by have:=hr r e;omega),(hg.block _ (ze h.hu) (fun e=>by have:=hr _ e.symm;omega)).trans h.hu,(hg.block _ (ze h.hv) (fun e=>by have:=hr _ e.symm;omega)).trans h.hv,(hg.block _ (ze h.hh) (fun e=>by have:=hr _ e.symm;omega)).trans h.hh⟩
theorem Ge.set{w:World}{u:zg}{ca cc ga gc}{wr:World}(h:Ge w u ca cc ga gc wr){b:Nat}(hb:w.heap.size+3<=b)(o:Nat)(v:Value):Ge w u ca cc ga gc (wr.setCell ⟨b,o,none⟩ v):=
 ⟨h.hb.setCell (p:=⟨b,o,none⟩) (by show _<=b;omega) _,(yF _ _ _ _ (by show w.heap.size≠b;omega)).trans h.hu,(yF _ _ _ _ (by show w.heap.size+1≠b;omega)).trans h.hv,(yF _ _ _ _ (by show w.heap.size+1+1≠b;omega)).trans h.hh⟩
theorem zu.setc{w:World}{base:Nat}{v:Value}{l:List Int}(h:zu w base v l){b:Nat}(hb:∀k,v.ownBlock=some k->k≠b)(o:Nat)(x:Value):zu (w.setCell ⟨b,o,Option.none⟩ x) base v l:=
 yA h (fun k hk _=>yF _ _ _ _ (hb k hk))
theorem Xd{w:World}{base:Nat}{e:TypeId}{size:Nat}{v:Value}{n:Nat}{xs:List Value}(h:w.ownsRow base e size v n xs):∀k,v.ownBlock=some k->k<w.heap.size:=by
 intro k hk;rcases h.2 with ⟨rfl,_⟩|⟨g,cap,cur,rfl,_,hh,_⟩
 ·cases hk
 ·cases hk
  exact ze hh
def Ny(u:zg)(w:World)(e:Ending)(w':World):Prop:=
 Below w.heap.size w w'/\∃ca cc ga gc hs ats,e= .returned (.tuple #[vU u ca cc ga gc,.agg #[hs,ats],.int .i64 0])/\y9 Yo 85 w' w.heap.size (.slice ca u.code.length cc) u.code/\y9 Qc 90 w' w.heap.size (.slice ga u.guards.length gc) u.guards /\
  zu w' w.heap.size hs (yh u.slots.toNat)/\zu w' w.heap.size ats (yh u.code.length)
theorem Ox{w:World}{u:zg}{ca cc ga gc}{w2:World}(h:Ge w u ca cc ga gc w2)(y0 y1 y2 y3 y4 y5 y6 z0 z1:Value)(W:World)
  (hW:W=((((((((((w2.setCell ⟨w.heap.size+1,0,none⟩ y0).setCell ⟨w.heap.size+1,1,none⟩ y1).setCell ⟨w.heap.size+1,2,none⟩ y2).setCell ⟨w.heap.size+1,3,none⟩ y3).setCell ⟨w.heap.size+1,4,none⟩ y4).setCell ⟨w.heap.size+1,5,none⟩ y5).setCell ⟨w.heap.size+1,6,none⟩ y6).setCell ⟨w.heap.size+1+1,0,none⟩ z0).setCell ⟨w.heap.size+1+1,1,none⟩ z1).drew)):
  Below w.heap.size w W/\W.heap[w.heap.size+1]?=some (.cells #[y0,y1,y2,y3,y4,y5,y6] 25)/\W.heap[w.heap.size+1+1]?=some (.cells #[z0,z1] 30)/\∀k,k≠w.heap.size+1->k≠w.heap.size+1+1->W.heap[k]?=w2.heap[k]?:=by
 have h1:=Ro h.hv y0 y1 y2 y3 y4 y5 y6;have b1:=Gn (g:=w.heap.size+1) h.hb (by omega) y0 y1 y2 y3 y4 y5 y6;have o2:=fun k (hk:k≠w.heap.size+1)=>QR (w:=w2) (g:=w.heap.size+1) hk y0 y1 y2 y3 y4 y5 y6
 have hh:=h.hh;generalize (((((((w2.setCell ⟨w.heap.size+1,0,none⟩ y0).setCell ⟨w.heap.size+1,1,none⟩ y1).setCell ⟨w.heap.size+1,2,none⟩ y2).setCell ⟨w.heap.size+1,3,none⟩ y3).setCell ⟨w.heap.size+1,4,none⟩ y4).setCell ⟨w.heap.size+1,5,none⟩ y5).setCell ⟨w.heap.size+1,6,none⟩ y6)=A at *;have h2:=Rr ((o2 _ (by omega)).trans hh) z0 z1;have h3:∀k,k≠w.heap.size+1+1->((A.setCell ⟨w.heap.size+1+1,0,none⟩ z0).setCell ⟨w.heap.size+1+1,1,none⟩ z1).heap[k]?=A.heap[k]?:=fun k hk=>(yF _ _ _ _ hk).trans (yF _ _ _ _ hk)
 have b2:=(b1.setCell (p:=⟨w.heap.size+1+1,0,none⟩) (by show _<=w.heap.size+1+1;omega) z0).setCell (p:=⟨w.heap.size+1+1,1,none⟩) (by show _<=w.heap.size+1+1;omega) z1;generalize ((A.setCell ⟨w.heap.size+1+1,0,none⟩ z0).setCell ⟨w.heap.size+1+1,1,none⟩ z1)=B at *;subst hW;exact⟨b2.drew,(h3 _ (by omega)).trans h1,h2,fun k hk1 hk2=>(h3 k hk2).trans (o2 k hk1)⟩
theorem KZ(u:zg)(k:Int)(ca cc ga gc)(w:World)(hm:jo w u ca cc ga gc)(hlc:u.code.length<=1000000)(hlg:u.guards.length<=1000000)(hw:zC u=true)(hk:yr k 1 200=true)(hks:u.slots<=k):
  Calls prog 13 #[vU u ca cc ga gc,.int .i64 k] w (Ny u w):=by
 have hargs:=zL hw;have hn6:=qA hw;have hg40:=(z8 (zH hw)).2.2.1;have HW:=za (fun w' (hb:Below w.heap.size w w')=>qv u ca cc ga gc w' (hm.below hb) hlc hlg);have HI:=za (Y_ w u ca cc ga gc);have HWI:=za (fun w=>xY k 1 200 w);have HM:=za hm;clear hm;rw[hw]at HW;rw[hk]at HWI;obtain⟨n,hn⟩:∃n:Nat,u.slots=(n:Int):=⟨u.slots.toNat,by omega⟩
 have HN:=za hn;have hn2:n<=200:=by omega
 clear hn;obtain⟨wa,hwa⟩:∃wa,wa=((w.alloc (oU u ca cc ga gc)).alloc oZ).alloc (oH (.slice none 0 0) (.slice none 0 0)):=⟨_,rfl⟩
 rw[<-hwa]at HI;obtain⟨k0,k1,k2,k3,k4,k5,k6⟩:=zr HI.out.hu;clear hw hk;go_enter func13,ntmps13;go_upto_region 1 with fail;rw[<-hwa];clear hwa
 go_upto_region 3 with (first
  |(go_at_call 42;(with_reducible refine(HW.out _ HI.out.hb).mono ?_);rintro e w2 ⟨rfl,hb⟩;have HI2:=za (HI.out.below hb);clear hb)
  |(go_at_call 43;(with_reducible refine(HWI.out _).mono ?_);rintro e w3 ⟨rfl,rfl⟩))
 clear k0 k1 k2 k3 k4 k5 k6;obtain⟨bh,hbh⟩:∃b,b=w2.heap.size:=⟨_,rfl⟩
 obtain⟨wb,hwb⟩:∃wb,wb=w2.alloc (oH (.slice none 0 0) (.slice none 0 0)):=⟨_,rfl⟩
 have HIB:Hid (Ge w u ca cc ga gc wb):=za (by rw[hwb];exact HI2.out.below (zd _ _));have HHB:Hid (wb.heap[bh]?=some (oH (.slice none 0 0) (.slice none 0 0))):=za (by rw[hwb];exact zo _ _ _ hbh);have HSB:Hid (wb.heap.size=bh+1/\w.heap.size+3<=bh):=za ⟨by rw[hwb,hbh];simp,by have:=ze HI2.out.hh;omega⟩;obtain⟨k0,k1,k2,k3,k4,k5,k6⟩:=zr HI2.out.hu;go_upto_region 5 with fail;rw[<-hbh,<-hwb];clear hwb hbh HI2 HI k0 k1 k2 k3 k4 k5 k6;obtain⟨k0,k1,k2,k3,k4,k5,k6⟩:=zr HIB.out.hu;rw[HN.out]at k3;go_upto_region 6 with fail;clear k0 k1 k2 k3 k4 k5 k6;go_loopg [34] n (fun gh s34 wr=>∃(j:Nat) (v1:Value),j<=n/\gh=n-j/\s34= .int .i64 j/\Hid (Ge w u ca cc ga gc wr)/\Hid (wr.heap[bh]?=some (oH v1 (.slice none 0 0)))/\Hid (zu wr (bh+1) v1 (yh j)));case atStart=>exact⟨0,.slice none 0 0,zE _,rfl,rfl,HIB,HHB,za (jd _ _ _ _)⟩
 case round=>
  obtain⟨j,v1,hj,rfl,rfl,HI,HH,HO⟩:=hrel;by_cases hjn:j<n
  ·have nj:(j:Int)<(n:Int):=by omega
   have c0:=(qe HH.out).1;have HOB:=za (zy HO.out);have HFN:=za (Xo j);have HLF:Hid ((yh j).length=j):=za (by unfold yh;simp)
   go_wp2_with (first
    |(at_builtin;refine zv _ rfl _ _ rfl (bh+1) v1 (yh j) [(j:Int)] rfl (zu.later HO.out (zd _ _)) (some ⟨_,0,none⟩) 1 rfl (yJ _ _ _) (by have:=HLF.out;simp;omega) (by have:=ze HH.out;simp;omega) ?_;intro v' w6 hown' hgrow hnil;obtain⟨a6,d6,rfl,_⟩:=hown'.rd;rw[yV]at hown';have hh6:=(hgrow.block bh (ze (zb (zd _ _) HH.out)) (fun e=>by have:=HOB.out _ e.symm;omega)).trans (zb (zd _ _) HH.out);have f6:=zF 0 hh6;have c6:=(qe hh6).1;have HH6:=za hh6;have HOW:=za hown';have HGR:=za hgrow;clear hown' hgrow hnil hh6))
   go_roundg (n-(j+1));case measure=>omega
   case rel=>
    have HOB6:=za (zy HOW.out);refine⟨j+1,_,by omega,rfl,by go_num,za (((HI.out.below (zd _ _)).grown HGR.out (fun r e=>by have:=HOB.out r e;have:=HSB.out;omega)).set HSB.out.2 0 _),za (yk _ _ 0 _ _ _ HH6.out),za (by rw[HFN.out];exact zu.setc (base:=bh+1) (b:=bh) HOW.out (fun k hk e=>by have:=HOB6.out k hk;omega) 0 _)⟩
  ·obtain rfl:j=n:=by omega
   have nj:¬(j:Int)<(j:Int):=by omega
   obtain⟨k0,k1,k2,k3,k4,k5,k6⟩:=zr HI.out.hu;obtain⟨b2,hb2⟩:∃b,b=wr.heap.size:=⟨_,rfl⟩
   have HB2:Hid (wr.heap.size=b2/\bh<b2):=za ⟨hb2.symm,by rw[hb2];exact ze HH.out⟩
   have HV1:Hid (∀b,v1.ownBlock=some b->b<b2/\bh<b):=za (fun b hb=>⟨by
    rw[hb2];rcases HO.out.2 with ⟨e1,_⟩|⟨g,cap,cur,e1,_,hh,_⟩
    ·rw[e1]at hb;cases hb
    ·rw[e1]at hb;cases hb;exact ze hh,by have:=zy HO.out b hb;omega⟩)
   clear hb2;go_upto_region 11 with fail;clear k0 k1 k2 k3 k4 k5 k6;go_loopg [47] u.code.length (fun gh s47 wy=>∃(t:Nat) (v2:Value),t<=u.code.length/\gh=u.code.length-t/\s47= .int .i64 t/\Hid (Ge w u ca cc ga gc wy)/\Hid (wy.heap[bh]?=some (oH v1 v2))/\Hid (zu wy (bh+1) v1 (yh j))/\Hid (zu wy b2 v2 (yh t))/\Hid (b2<=wy.heap.size));case atStart=>exact⟨0,.slice none 0 0,zE _,rfl,rfl,HI,HH,HO,za (jd _ _ _ _),za (by rw[HB2.out.1];exact zI _)⟩
   case round=>
    obtain⟨t,v2,ht,rfl,rfl,HI,HH,HO,HP,HSZ⟩:=hrel;by_cases htn:t<u.code.length
    ·have nt:(t:Int)<(u.code.length:Int):=by omega
     have c0:=(qe HH.out).2.1;have HOB:=za (zy HP.out);have HFN:=za (Xo t);have HLF:Hid ((yh t).length=t):=za (by unfold yh;simp)
     go_wp2_with (first
      |(at_builtin;refine zv _ rfl _ _ rfl b2 v2 (yh t) [(t:Int)] rfl (zu.later HP.out (zd _ _)) (some ⟨_,0,none⟩) 1 rfl (yJ _ _ _) (by have:=HLF.out;simp;omega) (by have:=HB2.out;have:=HSZ.out;simp;omega) ?_;intro v' w6 hown' hgrow hnil;obtain⟨a6,d6,rfl,_⟩:=hown'.rd;rw[yV]at hown';have hh6:=(hgrow.block bh (ze (zb (zd _ _) HH.out)) (fun e=>by have:=HOB.out _ e.symm;have:=HB2.out;omega)).trans (zb (zd _ _) HH.out);have f6:=zF 1 hh6;have c6:=(qe hh6).2.1;have HH6:=za hh6;have HOW:=za hown';have HGR:=za hgrow;clear hown' hgrow hnil hh6))
     go_roundg (u.code.length-(t+1));case measure=>omega
     case rel=>
      have HOB6:=za (zy HOW.out);have hb2:=HB2.out;have hsb:=HSB.out;refine⟨t+1,_,by omega,rfl,by go_num,za (((HI.out.below (zd _ _)).grown HGR.out (fun r e=>by have:=HOB.out r e;omega)).set HSB.out.2 1 _),za (yk _ _ 1 _ _ _ HH6.out),za ?_,za (by rw[HFN.out];exact zu.setc (base:=b2) (b:=bh) HOW.out (fun k hk e=>by have:=HOB6.out k hk;omega) 1 _),za ?_⟩
      ·exact((zu.later HO.out (zd _ _)).kept HGR.out (fun b hb e=>by have h1:=HV1.out b hb;have h2:=HOB.out b e.symm;omega)).setc (fun k hk e=>by have:=HV1.out k hk;omega) 1 _
      ·exact yP HSZ.out (yP (yP (by simp) HGR.out.size) (by simp))
    ·obtain rfl:t=u.code.length:=by omega
     have nt:¬(u.code.length:Int)<(u.code.length:Int):=by omega
     obtain⟨k0,k1,k2,k3,k4,k5,k6⟩:=zr HI.out.hu;go_upto_region 16 with fail;clear k0 k1 k2 k3 k4 k5 k6;obtain⟨bo,hbo⟩:∃b,b=wr.heap.size:=⟨_,rfl⟩
     obtain⟨wo,hwo⟩:∃wo,wo=wr.alloc (oU u ca cc ga gc):=⟨_,rfl⟩
     have HIO:Hid (Ge w u ca cc ga gc wo):=za (by rw[hwo];exact HI.out.below (zd _ _));have HHO:Hid (wo.heap[bh]?=some (oH v1 v2)):=za (by rw[hwo];exact zb (zd _ _) HH.out);have HBO:Hid (wo.heap[bo]?=some (oU u ca cc ga gc)):=za (by rw[hwo];exact zo _ _ _ hbo);have HOO:Hid (zu wo (bh+1) v1 (yh j)):=za (by rw[hwo];exact HO.out.later (zd _ _));have HPO:Hid (zu wo b2 v2 (yh u.code.length)):=za (by rw[hwo];exact HP.out.later (zd _ _));have HZO:Hid (wo.heap.size=bo+1/\bh<bo/\b2<=bo):=za ⟨by rw[hwo,hbo];simp,by rw[hbo];exact ze HH.out,by rw[hbo];exact HSZ.out⟩;have HV2:Hid (∀k,v2.ownBlock=some k->k<bo):=za (by rw[hbo];exact Xd HP.out);rw[<-hbo,<-hwo];clear hwo hbo HI HH HO HP;obtain⟨va1,vc1,hv1,_⟩:=HOO.out.rd;obtain⟨va2,vc2,hv2,_⟩:=HPO.out.rd;subst hv1 hv2;have HCC:=za (fun(w':World) (hb:Below w.heap.size w w')=>EL u.code ca cc w' (Jm.2 (HM.out.below hb).rc) (by omega));have HCG:=za (fun(w':World) (hb:Below w.heap.size w w')=>EK u.guards ga gc w' (V3.2 (HM.out.below hb).rg) (by omega));go_cut []from 58 to 65 (fun wy=>∃xa xc ya yc,Hid (Ge w u ca cc ga gc wy)/\Hid (wy.heap[bh]?=some (oH (.slice va1 (yh j).length vc1) (.slice va2 (yh u.code.length).length vc2)))/\Hid (wy.heap[bo]?=some (oU u xa xc ya yc))/\Hid (zu wy (bh+1) (.slice va1 (yh j).length vc1) (yh j))/\Hid (zu wy b2 (.slice va2 (yh u.code.length).length vc2) (yh u.code.length))/\Hid (y9 Yo 85 wy (bo+1) (.slice xa u.code.length xc) u.code)/\Hid (y9 Qc 90 wy (bo+1) (.slice ya u.guards.length yc) u.guards))
     case first=>
      obtain⟨k0,k1,k2,k3,k4,k5,k6⟩:=zr HIO.out.hu;have HIOd:Hid (Ge w u ca cc ga gc wo.drew):=za (HIO.out.below (zt _))
      go_region_with (first
       |(go_at_call 44;(with_reducible refine(HCC.out _ HIOd.out.hb).mono ?_);rintro e w3 ⟨hb,v3,rfl,ho⟩;obtain⟨xa,xc,rfl,_⟩:=ho.rd;have HB3:=za ((zt wo).step hb);have HX3:=za ho;obtain⟨j0,j1,j2,j3,j4,j5,j6⟩:=zr (zb hb HIOd.out.hu);have HI3:=za (HIOd.out.below hb);clear hb ho)
       |(go_at_call 45;(with_reducible refine(HCG.out _ HI3.out.hb).mono ?_);rintro e w4 ⟨hb,v4,rfl,ho⟩;obtain⟨ya,yc,rfl,_⟩:=ho.rd;have HB4:=za (HB3.out.step hb);have HX4:=za (HX3.out.later hb);have HY4:=za (y9.mono ho HB3.out.size);have hx4:=zb HB4.out HBO.out;have f5:=zF 5 hx4;have f6:=zF 6 hx4;have c5:=(zr hx4).2.2.2.2.2.1;have c6:=(zr hx4).2.2.2.2.2.2;clear hb ho hx4))
      all_goals
       go_wp2_with fail;go_meet;have hx4:=zb HB4.out HBO.out;have h5:(w4.setCell ⟨bo,5,none⟩ (.slice xa u.code.length xc)).heap[bo]?=some (.cells #[.string u.cls,.string u.name,.int .i64 u.args,.int .i64 u.slots,.int .i64 u.frame,.slice xa u.code.length xc,.slice ga u.guards.length gc] 25):=yk _ _ 5 _ _ _ hx4;have hb2:=HB2.out;have hzo:=HZO.out;have hsb:=HSB.out;have hge1:=zy HX4.out;have hdr:wo.drew.heap.size=wo.heap.size:=rfl;have hge2:=zy HY4.out;refine⟨xa,xc,ya,yc,za (((HIO.out.below HB4.out).set (by omega) 5 _).set (by omega) 6 _),za ?_,za (yk _ _ 6 _ _ _ h5),za ?_,za ?_,za ?_,za ?_⟩
       ·exact(yF _ _ _ _ (by show bh≠bo;omega)).trans ((yF _ _ _ _ (by show bh≠bo;omega)).trans (zb HB4.out HHO.out))
       ·exact zu.setc (zu.setc (HOO.out.later HB4.out) (fun k hk e=>by have:=HV1.out k hk;omega) 5 _) (fun k hk e=>by have:=HV1.out k hk;omega) 6 _
       ·refine yA (yA (HPO.out.later HB4.out) (fun k hk hlt=>yF _ _ _ _ (by show k≠bo;have:=HV2.out k hk;omega))) (fun k hk hlt=>yF _ _ _ _ (by show k≠bo;have:=HV2.out k hk;omega))
       ·exact y9.mono (yA (yA HX4.out (fun k hk hlt=>yF _ _ _ _ (by show k≠bo;have:=hge1 k hk;omega))) (fun k hk hlt=>yF _ _ _ _ (by show k≠bo;have:=hge1 k hk;omega))) (by omega)
       ·exact y9.mono (yA (yA HY4.out (fun k hk hlt=>yF _ _ _ _ (by show k≠bo;have:=hge2 k hk;omega))) (fun k hk hlt=>yF _ _ _ _ (by show k≠bo;have:=hge2 k hk;omega))) (by omega)
     case rest=>
      obtain⟨xa,xc,ya,yc,HI,HH,HB,HO,HP,HX,HY⟩:=hcut;obtain⟨k0,k1,k2,k3,k4,k5,k6⟩:=zr HB.out;obtain⟨q0,q1,_,_⟩:=qe HH.out;have hv:=HI.out.hv;have hh:=HI.out.hh;have f0:=zF 0 hv;have f1:=zF 1 hv;have f2:=zF 2 hv;have f3:=zF 3 hv;have f4:=zF 4 hv;have f5:=zF 5 hv;have f6:=zF 6 hv;have g0:=zF 0 hh;have g1:=zF 1 hh;obtain⟨y0,y1,y2,y3,y4,y5,y6⟩:=zr hv;obtain⟨z0,z1,_,_⟩:=qe hh;clear hv hh;have hsb:=HSB.out;have hzo:=HZO.out;have n1:¬w.heap.size+1=bh:=by omega
      have n2:¬w.heap.size+1+1=bh:=by omega
      have n3:¬bh=w.heap.size+1:=by omega
      have n4:¬bh=w.heap.size+1+1:=by omega
      have n5:¬w.heap.size+1=bo:=by omega
      have n6:¬w.heap.size+1+1=bo:=by omega
      have n7:¬bo=w.heap.size+1:=by omega
      have n8:¬bo=w.heap.size+1+1:=by omega
      clear hsb hzo;go_upto_region 17 with fail;go_region
      all_goals go_wp2
      obtain⟨b1,x1,x2,x3⟩:=Ox HI.out (.string u.cls) (.string u.name) (.int .i64 u.args) (.int .i64 u.slots) (.int .i64 u.frame) (.slice xa u.code.length xc) (.slice ya u.guards.length yc) (.slice va1 (yh j).length vc1) (.slice va2 (yh u.code.length).length vc2) _ rfl;have hsb:=HSB.out;have hzo:=HZO.out;have hb2:=HB2.out;have hstay:∀ {base:Nat} {e:TypeId} {sz:Nat} {v:Value} {n:Nat} {xs:List Value},wc.ownsRow base e sz v n xs->bh<=base->World.ownsRow _ base e sz v n xs:=fun h hb=>yA h (fun k hk _=>x3 k (by have:=zy h k hk;omega) (by have:=zy h k hk;omega))
      exact Jj (g1:=w.heap.size+1) (g2:=w.heap.size+1+1) rfl rfl rfl x1 rfl x2 rfl rfl ⟨b1,xa,xc,ya,yc,_,_,rfl,y9.mono (hstay HX.out (by omega)) (by omega),y9.mono (hstay HY.out (by omega)) (by omega),by rw[show u.slots.toNat=j by have:=HN.out;omega];exact zu.mono (hstay HO.out (by omega)) (by omega),zu.mono (hstay HP.out (by omega)) (by omega)⟩
end Go.Proofs.YtgalekifgnecjaaGreat
