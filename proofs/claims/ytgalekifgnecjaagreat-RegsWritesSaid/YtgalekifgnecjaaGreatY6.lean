/- The writer's group of package regs -/
import Derived.Test.YtgalekifgnecjaaGreatY1
import Derived.Test.YtgalekifgnecjaaGreatT20
import Derived.Deep.RegionHeld3
import Derived.BigQuiet
namespace Go.Proofs.YtgalekifgnecjaaGreat
open Tryz Go.RowKit Go.Shelf
set_option maxHeartbeats 60000000
set_option maxRecDepth 100000
attribute [local go_sem] Oper.semAt_some
attribute [local irreducible] wpStill
structure NR(w1:World)(r:qu)(xw:xN)(vc og:Value)(x:YK)(b2:Nat)(W':World):Prop where
 wi:Yz w1 r xw vc og W'
 h2:W'.heap[b2]?=some (.cells #[.pointer (some ⟨r.bw,0,none⟩)] 94)
 h3:W'.heap[b2+1]?=some (.cells #[.int .i64 x.g.frm,.int .i64 x.g.til,.slice x.a x.g.reads.length x.c,.int .i64 x.g.wr] 107)
theorem NR.below{w1:World}{r:qu}{xw:xN}{vc og:Value}{x:YK}{b2:Nat}{W' W'':World}(h:NR w1 r xw vc og x b2 W')(hb:Below W'.heap.size W' W''):NR w1 r xw vc og x b2 W'':=⟨h.wi.below hb,zb hb h.h2,zb hb h.h3⟩
theorem NR.cs{w1:World}{r:qu}{xw:xN}{vc og:Value}{x:YK}{b2:Nat}{W':World}(h:NR w1 r xw vc og x b2 W'):
  W'.cell? ⟨b2,0,none⟩=some (.pointer (some ⟨r.bw,0,none⟩))/\W'.cell? ⟨b2+1,0,none⟩=some (.int .i64 x.g.frm)/\W'.cell? ⟨b2+1,1,none⟩=some (.int .i64 x.g.til)/\W'.cell? ⟨r.bw,0,none⟩=some (.string r.u.cls)/\W'.cell? ⟨r.bw,1,none⟩=some (.string r.u.name)/\W'.cell? ⟨r.bw,2,none⟩=some (.int .i64 r.u.args)/\W'.cell? ⟨r.bw,3,none⟩=some (.int .i64 r.u.slots)/\W'.cell? ⟨r.bw,4,none⟩=some (.int .i64 r.u.frame) /\
  W'.cell? ⟨r.bw,5,none⟩=some (.slice r.ca r.u.code.length r.cc)/\W'.cell? ⟨r.bw,6,none⟩=some (.slice r.ga r.u.guards.length r.gc)/\W'.cell? ⟨r.bw,7,none⟩=some (.slice r.va (zf r.u).length r.vc):=by
 obtain⟨g0,g1,_,_⟩:=zX h.h3;exact⟨qZ h.h2,g0,g1,(zA _ _ 0 _ _ _ h.wi.hx).trans rfl,(zA _ _ 1 _ _ _ h.wi.hx).trans rfl,(zA _ _ 2 _ _ _ h.wi.hx).trans rfl,(zA _ _ 3 _ _ _ h.wi.hx).trans rfl,(zA _ _ 4 _ _ _ h.wi.hx).trans rfl,(zA _ _ 5 _ _ _ h.wi.hx).trans rfl,(zA _ _ 6 _ _ _ h.wi.hx).trans rfl,(zA _ _ 7 _ _ _ h.wi.hx).trans rfl⟩
structure SS(r:qu)(g:xd):Prop where
 ok:Mm r.u g
 wt:zC r.u=true
 hl:(r.h.length:Int)=r.u.slots
 n6:r.u.code.length<=600
 g4:r.u.guards.length<=40
 k2:r.k<=200
 ll:(zf r.u).length=r.u.code.length
 bh:∀s∈zU r.u (zf r.u) g,0<=s/\s<(r.h.length:Int)
 bb:∀s∈yj r.u (zf r.u) g,0<=s/\s<(r.h.length:Int)
 fr:1<=(yv r.h r.k (zU r.u (zf r.u) g)).length
 tp:(zx r.h g).length<=(yv r.h r.k (yj r.u (zf r.u) g)).length
 nd:(zx r.h g).Nodup
 lr:(zx r.h g).length<=200
 rl:g.reads.length<=200
 bl:(zU r.u (zf r.u) g).length<=600
 ul:(yj r.u (zf r.u) g).length<=800
 hs:∀s,0<=s->s<(r.h.length:Int)-> -500<=zh r.h s/\zh r.h s<=500
 us:∀s,s∈g.reads->zh r.h s<0->s∈zx r.h g
theorem PM{r:qu}{g:xd}(hw:zC r.u=true)(hx:g∈yg r.u)(hh:r.h=(zW r.u r.k).out)(hk:yd r.u<=r.k)(hk2:r.k<=200):SS r g:=by
 have hok:=jq hw hx;have ha:=zL hw;have hI:=vk hw (r.k:Int);have hlen:(r.h.length:Int)=r.u.slots:=by rw[hh,hI.len];omega
 have hone:=YY r.u;have hbh:∀s∈zU r.u (zf r.u) g,0<=s/\s<r.u.slots:=fun s hs=>Jn hw _ s hs
 have hbb:∀s∈yj r.u (zf r.u) g,0<=s/\s<r.u.slots:=fun s hs=>by
  unfold yj at hs;rcases qs.1 hs with hs|hs
  ·exact ZR hw _ s hs
  ·exact hbh s hs
 have hnd:g.reads.Nodup:=by rw[hok.rq];exact Yk _ _ _
 have hrl:(g.reads.length:Int)<=r.u.slots:=Uc hnd hok.rd (by omega);have hll:(zx r.h g).length<=g.reads.length:=ZP _ _;have hfr:yd r.u<=(yv r.h r.k (zU r.u (zf r.u) g)).length:=by rw[hh];exact Gb hw hk hbh
 have htp:yd r.u<=(yv r.h r.k (yj r.u (zf r.u) g)).length:=by rw[hh];exact Gb hw hk hbb
 have hlg:=OS hx
 have hnn:(zU r.u (zf r.u) g).length<=600:=by
  have h1:=YV (zf r.u) 200 (qJ hw) (Zc r.u g.til);have h2:=Qq r.u g.til;unfold zU;omega
 have hcel:=hI.cel;have hfin:=hI.fin;refine⟨hok,hw,hlen,qA hw,(z8 (zH hw)).2.2.1,hk2,(yq r.u).len,fun s hs=>by have:=hbh s hs;omega,fun s hs=>by have:=hbb s hs;omega,by omega,by omega,List.Pairwise.filter _ hnd,by omega,by omega,hnn,?_,fun s h0 h1=> ?_,fun s hs hn=> ?_⟩
 ·have h1:=qJ hw g.frm
  have h2:=qt ((zf r.u).getD g.frm []) (zU r.u (zf r.u) g);unfold yj;omega
 ·rw[hh]
  rcases UU hw (r.k:Nat) h0 (by omega)with ⟨_,h⟩|⟨_,h|⟨_,h⟩|⟨_,d,h2,h3,h4⟩⟩
  ·omega
  ·omega
  ·omega
  ·omega
 ·unfold zx
  rw[jn,yB];refine⟨hs,?_⟩;have h2:=hok.rd s hs;rw[hh]at hn ⊢;rcases J_ (k:=r.k) hw h2.1 h2.2 (Gx hw hx hs)with h|h
  ·omega
  ·exact h
theorem AP(r:qu)(g:xd)(T fr:List Int)(y:xN){m:Nat}(h:m≠0):jx r g T fr y (m+1)=⟨(jx r g T fr y m).code++ [zY (r.u.code.getD (g.frm+m) zw) (Yx r.h (zx r.h g) T) (q_ r.h fr)],(jx r g T fr y m).ats.set (g.frm+m) (jx r g T fr y m).code.length⟩:=by
 obtain⟨k,rfl⟩:∃k,m=k+1:=⟨m-1,by omega⟩
 rfl
theorem YQ.toR{p:P9}{xw:xN}{vc:Value}{L:List (Int×Int)}{W':World}{T:List Int}(hm:Kq p.w1 p.r)(hF:SS p.r p.x.g)(h:YQ p xw vc L W')(hg:∀s,s∈zx p.r.h p.x.g->jZ L s=some (qX (zx p.r.h p.x.g) T s)):
  Ob 111 #[.pointer (some ⟨p.b2,0,none⟩),.pointer (some ⟨p.b7,0,none⟩)] (fun s=>some (Yx p.r.h (zx p.r.h p.x.g) T s)) (fun s=>s∈p.x.g.reads) W':=fun s hs w' hb=>by
 have h1:=hF.ok.rd s hs;have h2:=hF.hl;have h3:=zL hF.wt;refine(SI p.w1 p.r _ vc p.og s (qX (zx p.r.h p.x.g) T s) L p.b2 p.b7 p.bm w' hm (h.below hb).wi (h.below hb).h2 (h.below hb).h7 (h.below hb).hM (by omega) (by omega) (fun hn=>hg s (hF.us s hs hn))).mono ?_;rintro e w2 ⟨he,hb2⟩;exact⟨hb2,.inl ⟨_,rfl,he⟩⟩
theorem YQ.toW{p:P9}{xw:xN}{vc:Value}{L:List (Int×Int)}{W':World}(hm:Kq p.w1 p.r)(hF:SS p.r p.x.g)(h:YQ p xw vc L W')(hN:p.N=zU p.r.u (zf p.r.u) p.x.g):
  Ob 112 #[.pointer (some ⟨p.b2,0,none⟩),.pointer (some ⟨p.b5,0,none⟩)] (fun s=>some (q_ p.r.h (yv p.r.h p.r.k p.N) s)) (fun s=>0<=s/\s<(p.r.h.length:Int)) W':=fun s hs w' hb=>by
 have h2:=hF.hl;have h3:=zL hF.wt;have h4:=hF.bl;have h5:=hF.k2;refine(SH p.w1 p.r _ vc p.og s p.N p.na p.nc p.b2 p.b5 w' hm (h.below hb).wi (h.below hb).h2 (h.below hb).h5 (qy (h.below hb).hN).2.2.1 hs (by omega) (by rw[hN];exact hF.bh) (by rw[hN];omega) h5 (by rw[hN];exact hF.fr)).mono ?_;rintro e w2 ⟨he,hb2⟩;exact⟨hb2,.inl ⟨_,rfl,he⟩⟩
theorem I0{x:zm}{f g:Int->Int}(hop:x.op≠34)(hrd:∀s∈zp x,0<=s):vz x (fun s=>some (f s)) (fun s=>some (g s))=some (zY x f g):=by
 rw[Ov x _ _ hop hrd,zj ⟨fun _ _=>rfl,fun _=>rfl⟩];rfl
theorem DS(w1:World)(r:qu)(xw:xN)(vc og:Value)(x:YK)(W:World)(hm:Kq w1 r)(h:Yz w1 r xw vc og W)(hw:zC r.u=true)(hx:x.g∈yg r.u)(hr:yC W x.a x.g.reads)(hh:r.h=(zW r.u r.k).out)(hk:yd r.u<=r.k)(hk2:r.k<=200)(hcl:xw.code.length<=50000)(hal:xw.ats.length=r.u.code.length)(hxb:∀b off,x.a=some ⟨b,off,none⟩->b≠r.ba):
  Calls prog 50 #[.pointer (some ⟨r.bw,0,none⟩),NV x] W (fun e W'=>e= .returned (.tuple #[])/\∃vc',Yz w1 r (qY r.u (zf r.u) r.h r.k xw x.g) vc' og W'/\vK r vc.ownBlock W W'/\Vk vc.ownBlock vc'.ownBlock W):=by
 have HF:=za (PM hw hx hh hk hk2);have HGE:Hid (∀b,vc.ownBlock=some b->r.bw+1<=b/\b<W.heap.size):=za (fun b e=>⟨zy h.hc b e,Xd h.hc b e⟩);have HXB:=za hxb;clear hw hx hh hk hk2 hxb;have HM:=za hm;have HRD:=za hr;have HAL:=za hal;have hn6:=HF.out.n6;have htil:=HF.out.ok.lt;have hfrm:=HF.out.ok.le;have hg4:=HF.out.g4
 have HI:=za (show NR w1 r xw vc og x W.heap.size ((W.alloc (.cells #[.pointer (some ⟨r.bw,0,none⟩)] 94)).alloc (.cells #[.int .i64 x.g.frm,.int .i64 x.g.til,.slice x.a x.g.reads.length x.c,.int .i64 x.g.wr] 107))from
  ⟨h.below ((zd _ _).step (zd _ _)),zb (zd _ _) (zo _ _ _ rfl),zo _ _ _ (by simp)⟩)
 have HBW:=za (show r.bw<W.heap.size from ze h.hx);have HBA:=za h.lt;clear hm h hr hal;obtain⟨wa,hwa⟩:∃wa,wa=(W.alloc (.cells #[.pointer (some ⟨r.bw,0,none⟩)] 94)).alloc (.cells #[.int .i64 x.g.frm,.int .i64 x.g.til,.slice x.a x.g.reads.length x.c,.int .i64 x.g.wr] 107):=⟨_,rfl⟩
 obtain⟨b2,hb2⟩:∃b,b=W.heap.size:=⟨_,rfl⟩
 rw[<-hwa,<-hb2]at HI;have HWA:Hid (Below W.heap.size W wa/\wa.heap.size=b2+2/\W.heap.size=b2):=za ⟨by rw[hwa];exact(zd _ _).step (zd _ _),by rw[hwa,hb2];simp,hb2.symm⟩;have HNX:=za (fun(w':World) (hb:XO w1 r.ba w')=>Ue r.u x.g.til htil hn6 (by omega) r.ca r.cc r.ga r.gc r.va (zf r.u).length r.vc w' (HM.out.mu _ hb));have HND:=za (fun(pa:Option Addr) (pc:Nat) (w':World) (hb:XO w1 r.ba w') (hr:yC w' pa (Zc r.u x.g.til))=>YC r.u r.ca r.cc r.ga r.gc (zf r.u) r.va r.vc (Zc r.u x.g.til) pa pc w' (HM.out.ml _ hb) hr (by rw[HF.out.ll];exact ON (zH HF.out.wt) htil) (by have:=Qq r.u x.g.til;omega) (qJ HF.out.wt));go_enter func50,ntmps50;go_upto_region 1 with fail;rw[<-hb2,<-hwa];clear hwa hb2;obtain⟨c1,g0,g1,k0,k1,k2,k3,k4,k5,k6,k7⟩:=HI.out.cs;go_still_tail 6,(by kernel_rfl);change wpList _ _ _ _ _ wa.drew;have HID:Hid (NR w1 r xw vc og x b2 wa.drew):=za (HI.out.below (zt wa))
 go_upto_region 2 with (first
  |(go_at_call 106;(with_reducible refine(HNX.out _ HID.out.wi.hb).mono ?_);rintro e w3 ⟨hb,v3,rfl,ho⟩;obtain⟨pa,pc,rfl,hr3⟩:=ho.rd;have HI3:=za (HID.out.below hb);have HB3:Hid (Below wa.heap.size wa w3):=za ((zt wa).step hb);have HR3:=za hr3;clear hb ho hr3))
 clear c1 g0 g1 k0 k1 k2 k3 k4 k5 k6 k7 HID HNX;obtain⟨N,hN⟩:∃N,N=zU r.u (zf r.u) x.g:=⟨_,rfl⟩
 rw[show qV (zf r.u) (Zc r.u x.g.til)=N from hN.symm]at HND;have HNN:=za hN;clear hN;obtain⟨c1,g0,g1,k0,k1,k2,k3,k4,k5,k6,k7⟩:=HI3.out.cs
 go_upto_region 3 with (first
  |(go_at_call 72;(with_reducible refine(HND.out pa pc _ HI3.out.wi.hb HR3.out).mono ?_);rintro e w4 ⟨hb,v4,rfl,ho⟩;obtain⟨na,nc,rfl,hr4⟩:=ho.rd;have HI4:=za (HI3.out.below hb);have HB4:Hid (Below wa.heap.size wa w4):=za (HB3.out.step hb);have HO4:Hid (zu w4 b2 (.slice na N.length nc) N):=za (zu.mono ho (by have h1:=HB3.out.size;have h2:=HWA.out.2.1;omega));clear hb ho hr4))
 clear c1 g0 g1 k0 k1 k2 k3 k4 k5 k6 k7 HND HI3 HB3 HR3 HI;obtain⟨b5,hb5⟩:∃b,b=w4.heap.size:=⟨_,rfl⟩
 obtain⟨wb,hwb⟩:∃w',w'=w4.alloc (.cells #[.slice na N.length nc] 28):=⟨_,rfl⟩
 have HIB:Hid (NR w1 r xw vc og x b2 wb):=za (by rw[hwb];exact HI4.out.below (zd _ _));have HBB:Hid (Below wa.heap.size wa wb):=za (by rw[hwb];exact HB4.out.step (zd _ _));have HOB:Hid (zu wb b2 (.slice na N.length nc) N):=za (by rw[hwb];exact zu.later HO4.out (zd _ _));have H5B:Hid (wb.heap[b5]?=some (.cells #[.slice na N.length nc] 28)):=za (by rw[hwb];exact zo _ _ _ hb5)
 have HZ5:Hid (b2+1<b5/\b5+1=wb.heap.size/\∀b,(Value.slice na N.length nc).ownBlock=some b->b2<=b/\b<b5):=za (by
  have h1:=HB4.out.size;have h2:=HWA.out.2.1
  exact⟨by omega,by rw[hwb,hb5];simp,fun b e=>⟨zy HO4.out b e,by rw[hb5];exact J5 HO4.out b e⟩⟩)
 rw[<-hb5,<-hwb];clear hwb hb5 HI4 HB4 HO4;obtain⟨NB,hNB⟩:∃NB,NB=yj r.u (zf r.u) x.g:=⟨_,rfl⟩
 have hfl:x.g.frm<(zf r.u).length:=by rw[HF.out.ll];omega
 have nfl:(x.g.frm:Int)<((zf r.u).length:Int):=by omega
 obtain⟨bv,ov,li,lic,hva,-,hlc,hlr,-,-⟩:=(HM.out.ml _ HIB.out.wi.hb) x.g.frm hfl;obtain⟨LF,hLF⟩:∃L,L=(zf r.u)[x.g.frm]:=⟨_,rfl⟩
 have HNB:Hid (NB=yG LF N):=za (by rw[hNB,hLF,HNN.out];unfold yj;rw[zk hfl]);have hlf:LF.length<=200:=by rw[hLF,<-zk (d:=[]) hfl];exact qJ HF.out.wt _
 rw[<-hLF]at hlc hlr;have HLR:=za hlr;clear hLF hlr;have hnn:N.length<=600:=by rw[HNN.out];exact HF.out.bl
 have hnb:NB.length<=800:=by rw[hNB];exact HF.out.ul
 have hhl:r.h.length<=1000:=by have:=HF.out.hl;have:=zL HF.out.wt;omega
 have HAD:=za (fun(base:Nat) (v:Value) (w':World) (ho:zu w' base v LF) (hb:Below wb.heap.size wb w') (hbs:base<=w'.heap.size) (hwb:wb.heap.size<=base)=>JN base v LF N na nc w' ho ((qy HOB.out).2.2.1.below hb) (by omega) (fun b off e h=>by have h1:=(qy HOB.out).2.2.2 b off e;have h2:=zy ho b h.symm;omega) hbs);rw[<-HNB.out]at HAD;have HCL:=za (fun(w':World) (hb:Below wb.heap.size wb w')=>Kg LF li lic w' (HLR.out.below hb) (by omega));have HFR:=za (fun(w':World) (hb:Below wb.heap.size wb w') la lc (hr:yC w' la NB)=>Ig w1 r xw vc og NB la lc w' HM.out (HIB.out.below hb).wi hr (by rw[hNB];exact HF.out.bb) (by omega) (by omega) HF.out.k2);obtain⟨T,hT⟩:∃T,T=yv r.h r.k NB:=⟨_,rfl⟩
 have HTT:=za hT;rw[<-hT]at HFR;have HNB2:=za hNB;clear hT hNB;obtain⟨c1,g0,g1,k0,k1,k2,k3,k4,k5,k6,k7⟩:=HIB.out.cs;have t5:=qZ H5B.out;rw[hva]at k7;have HS:Hid (∀W,Below wb.heap.size wb W->W.cell? ⟨b2,0,none⟩=some (.pointer (some ⟨r.bw,0,none⟩))/\W.cell? ⟨b2+1,0,none⟩=some (.int .i64 x.g.frm)/\W.cell? ⟨r.bw,7,none⟩=some (.slice (some ⟨bv,ov,none⟩) (zf r.u).length r.vc)/\W.cell? ⟨bv,ov+x.g.frm,none⟩=some (.slice li LF.length lic)/\W.cell? ⟨b5,0,none⟩=some (.slice na N.length nc)):=za (fun W hb=>⟨zK hb c1,zK hb g0,zK hb k7,zK hb hlc,zK hb t5⟩);clear c1 g0 g1 k0 k1 k2 k3 k4 k5 k6 k7 t5 hlc hva;go_cut [6]from 26 to 39 (fun s6 wy=>∃(ta:Option Addr) (tc:Nat),s6= .slice ta T.length tc/\Hid (zu wy b2 (.slice ta T.length tc) T)/\Hid (Below wb.heap.size wb wy)/\Hid (∀b,(Value.slice ta T.length tc).ownBlock=some b->wb.heap.size<=b))
 case first=>as_aux_lemma=>
  go_region_held3 (fun W=>W.cell? ⟨b2,0,none⟩=some (.pointer (some ⟨r.bw,0,none⟩))/\W.cell? ⟨b2+1,0,none⟩=some (.int .i64 x.g.frm)/\W.cell? ⟨r.bw,7,none⟩=some (.slice (some ⟨bv,ov,none⟩) (zf r.u).length r.vc)/\W.cell? ⟨bv,ov+x.g.frm,none⟩=some (.slice li LF.length lic)/\W.cell? ⟨b5,0,none⟩=some (.slice na N.length nc))
   (first|exact HS.out _ (zt _)|exact HS.out _ hb7|exact HS.out _ hb6|exact HS.out _ hb5|exact HS.out _ (zG _ _))
   (first
    |(go_at_call 108;(with_reducible refine(HCL.out _ (zt _)).mono ?_);rintro e w5 ⟨hb,v5,rfl,ho5⟩;have hb5:=(zt wb).step hb;have HO5:Hid (zu w5 wb.heap.size v5 LF):=za ho5;have HZZ:Hid (wb.heap.size<=w5.heap.size):=za hb.size;clear hb ho5)
    |(go_at_call 74;(with_reducible refine(HAD.out wb.heap.size v5 _ HO5.out hb5 HZZ.out (zI _)).mono ?_);rintro e w6 ⟨v6,rfl,ho6,hg6,hx6⟩;have hb6:Below wb.heap.size wb w6:=hb5.grown hg6 hb5.size (fun k e=>zy HO5.out k e);obtain⟨nb,ncb,rfl,hr6⟩:=ho6.rd;have HR6:=za hr6;clear ho6 hg6 hx6 hr6)
    |(go_at_call 107;(with_reducible refine(HFR.out _ hb6 nb ncb HR6.out).mono ?_);rintro e w7 ⟨hb,v7,rfl,ho7⟩;have hb7:=hb6.step hb;obtain⟨ta,tc,rfl,_⟩:=ho7.rd;have HO7:=za ho7;have HZ7:Hid (wb.heap.size<=w6.heap.size):=za hb6.size;clear hb ho7))
  all_goals
   go_wp2_with fail;go_meet;exact⟨ta,tc,rfl,za (zu.mono HO7.out (by have h1:=HZ7.out;have h2:=HZ5.out;omega)),za hb7,za (fun b e=>yP HZ7.out (zy HO7.out b e))⟩
 case rest=>as_aux_lemma=>
  obtain⟨ta,tc,rfl,HT,HBT,HTB⟩:=hcut;obtain⟨wd,hwd⟩:∃wd,wd=wc:=⟨_,rfl⟩
  rw[<-hwd]at HT HBT;rw[<-hwd];clear hwd HS HFR HCL HAD HLR;have hmm:=@run_makeMap prog;obtain⟨bm,hbm⟩:∃b,b=wd.heap.size:=⟨_,rfl⟩
  obtain⟨b7,hb7⟩:∃b,b=bm+1:=⟨_,rfl⟩
  obtain⟨we,hwe⟩:∃w',w'=(wd.alloc (.map #[] 0)).alloc (.cells #[.map (some bm)] 120):=⟨_,rfl⟩
  obtain⟨p,hp⟩:∃p:P9,p=⟨w1,r,x,W,vc.ownBlock,og,b2,b5,bm,b7,we.heap.size,na,nc,N,ta,tc,T⟩:=⟨_,rfl⟩
  have HZ:Hid (NA p):=za (by
   have h1:=HZ5.out;have h2:=HBT.out.size;have h3:=HWA.out;have h4:we.heap.size=bm+2:=by rw[hwe,hbm];simp
   have h5:=HBW.out;rw[hp]
   refine⟨by show r.bw<b2;omega,HBA.out,h3.2.2,fun b e=>by have:=(HGE.out b e).2;show b<b2;omega,⟨by show b2+1<b5;omega,by show b5<we.heap.size;omega⟩,⟨by show b2+1<bm;omega,by show bm<we.heap.size;omega⟩,⟨by show b2+1<b7;omega,by show b7<we.heap.size;omega⟩,
    fun b e=>by have:=h1.2.2 b e;exact⟨this.1,by show b<we.heap.size;omega⟩,fun b e=>by have g1:=HTB.out b e;have g2:=J5 HT.out b e;exact⟨by show b2<=b;omega,by show b<we.heap.size;omega⟩,⟨by show b5≠bm;omega,by show b7≠bm;omega⟩,⟨fun e=>by have:=h1.2.2 bm e;omega,fun e=>by have:=J5 HT.out bm e;omega⟩⟩)
  have HL0:Hid (YQ p xw vc [] we):=za (by
   have hb1:Below wd.heap.size wd we:=by rw[hwe];exact(zd _ _).step (zd _ _)
   have hb2:Below wb.heap.size wb we:=HBT.out.step hb1;have hs1:=Z9 xU wd;rw[<-hbm]at hs1;rw[hp]
   exact⟨HIB.out.wi.below hb2,zb hb2 HIB.out.h2,zb hb2 HIB.out.h3,zb hb2 H5B.out,by rw[hwe];exact zo _ _ _ (by show b7=_;rw[vJ,hb7,hbm]),by rw[hwe];exact hs1.below (zd _ _),zu.later HOB.out hb2,zu.later HT.out hb1,
    vK.of_below (HWA.out.1.step (HBB.out.step hb2)),.inl rfl,zI _⟩)
  have hbe:Below wd.heap.size wd we:=by rw[hwe];exact(zd _ _).step (zd _ _)
  have HRE:Hid (yC we x.a x.g.reads):=za (HRD.out.below (HWA.out.1.step (HBB.out.step (HBT.out.step hbe))));clear hbe;have HP:Hid (p.w1=w1/\p.r=r/\p.x=x/\p.W=W/\p.o=vc.ownBlock/\p.og=og/\p.b2=b2/\p.b5=b5/\p.bm=bm/\p.b7=b7/\p.na=na/\p.nc=nc/\p.N=N/\p.ta=ta/\p.tc=tc/\p.T=T):=za (by rw[hp];exact⟨rfl,rfl,rfl,rfl,rfl,rfl,rfl,rfl,rfl,rfl,rfl,rfl,rfl,rfl,rfl,rfl⟩);subst hp;go_upto_region 5 with fail;rw[<-hbm,<-hb7,<-hwe];clear hbm hb7 hwe hmm HT HBT HTB HOB H5B HBB HIB HRD;obtain⟨cva,ccap,hvc,_,_,_⟩:=HL0.out.wi.hc.rdB;obtain⟨c1,g0,g1,g3,k8,k15,k17,c7⟩:=HL0.out.cells;dsimp only at c1 g0 g1 g3 k8 k15 k17 c7;rw[hvc]at k15;clear hvc;have hal:=HAL.out;have nfr:(x.g.frm:Int)<(r.u.code.length:Int):=by omega
  have fba:we.frozen? ⟨r.ba,x.g.frm,none⟩=false:=HL0.out.wi.ha.frozen _;have kba:=HL0.out.wi.ha.at (i:=x.g.frm) (by rw[hal];omega);dsimp only at kba;go_still_tail 13,(by kernel_rfl);change wpList _ _ _ _ _ we.drew;go_upto_region 6 with fail;clear c1 g0 g1 g3 k8 k15 k17 c7 fba kba;obtain⟨wf,hwf⟩:∃w',w'=(we.setCell ⟨r.ba,x.g.frm,none⟩ (.int .i64 xw.code.length)).drew:=⟨_,rfl⟩
  have HL1:Hid (YQ ⟨w1,r,x,W,vc.ownBlock,og,b2,b5,bm,b7,we.heap.size,na,nc,N,ta,tc,T⟩ (Zf r x.g T xw 0) vc (jD r x.g T 0) wf):=za (by
   rw[hwf,AN]
   exact(HL0.out.at HZ.out (i:=x.g.frm) (by rw[hal];omega) _).below (zt _))
  have HRF:Hid (yC wf x.a x.g.reads):=za (by
   rw[hwf]
   exact(HRE.out.off (W':=we.setCell ⟨r.ba,x.g.frm,none⟩ (.int .i64 xw.code.length)) (by simp) (fun b off e=>yF _ _ _ _ (HXB.out b off e))).below (zt _))
  rw[<-hwf];clear hwf HRE HL0;obtain⟨K,hK⟩:∃K,K=zx r.h x.g:=⟨_,rfl⟩
  have HFI:=za (VE 110 D_ #[.pointer (some ⟨b2,0,none⟩)] (fun s=>decide (zh r.h s<= -2)) x.g.reads x.a x.c wf (fun s hs w' hb=>SJ w1 r _ vc og s b2 w' HM.out (HL1.out.below hb).wi (HL1.out.below hb).h2 (by have h1:=HF.out.ok.rd s hs;have h2:=HF.out.hl;omega) (by omega)) HRF.out (by have:=HF.out.rl;omega));rw[show x.g.reads.filter (fun s=>decide (zh r.h s<= -2))=K from hK.symm]at HFI;have HKK:=za hK;clear hK;have g2:=(zX HL1.out.h3).2.2.1;dsimp only at g2
  go_upto_region 7 with (first
   |(go_at_call 109;(with_reducible refine HFI.out.mono ?_);rintro e w6 ⟨hb,v6,rfl,ho⟩;obtain⟨ka,kc,rfl,hrk⟩:=ho.rd;have HL6:=za (HL1.out.below hb);have HZ6:Hid (we.heap.size<=w6.heap.size):=za (HL1.out.below hb).hz;have HKB:Hid (∀b,(Value.slice ka K.length kc).ownBlock=some b->we.heap.size<=b/\b<w6.heap.size):=za (fun b e=>⟨yP HL1.out.hz (zy ho b e),J5 ho b e⟩);have HK6:Hid (zu w6 b2 (.slice ka K.length kc) K):=za (zu.mono ho (by have h1:=HL1.out.hz;have h2:=HZ.out.b5;dsimp only at h1 h2;omega));clear hb ho hrk))
  clear g2 HRF HFI HL1;have HL7:Hid (YQ ⟨w1,r,x,W,vc.ownBlock,og,b2,b5,bm,b7,w6.heap.size,na,nc,N,ta,tc,T⟩ (Zf r x.g T xw 0) vc (jD r x.g T 0) w6):=za (HL6.out.raise rfl (zI _));have HZ7:Hid (NA ⟨w1,r,x,W,vc.ownBlock,og,b2,b5,bm,b7,w6.heap.size,na,nc,N,ta,tc,T⟩):=za (HZ.out.raise HZ6.out);have HKM:Hid (∀b,(Value.slice ka K.length kc).ownBlock=some b->b2<=b/\b<w6.heap.size/\b≠bm):=za (fun b e=>by have h1:=HKB.out b e;have h2:=HZ.out.bm;dsimp only at h2;exact⟨by omega,h1.2,by omega⟩);clear HL6 HZ HKB HZ6 HP;have hkl:K.length<=200:=by rw[HKK.out];exact HF.out.lr
  have hkt:K.length<=T.length:=by rw[HKK.out,HTT.out,HNB2.out];exact HF.out.tp
  have hknd:K.Nodup:=by rw[HKK.out];exact HF.out.nd
  have HND:=za hknd;clear hknd;go_loopg [59] K.length (fun gh s59 wr=>∃(j:Nat) (vcj:Value),j<=K.length/\gh=K.length-j/\s59= .int .i64 j/\Hid (YQ ⟨w1,r,x,W,vc.ownBlock,og,b2,b5,bm,b7,w6.heap.size,na,nc,N,ta,tc,T⟩ (Zf r x.g T xw j) vcj (jD r x.g T j) wr)/\Hid (zu wr b2 (.slice ka K.length kc) K));case atStart=>exact⟨0,vc,zE _,rfl,rfl,HL7,HK6⟩
  case round=>as_aux_lemma=>
   obtain⟨j,vcj,hj,rfl,rfl,HL,HK⟩:=hrel;by_cases hjk:j<K.length
   ·have nj:(j:Int)<(K.length:Int):=by omega
    have HS1:=za (O2 HKK.out hjk HND.out hkt);have HS2:=za (II HKK.out xw hjk HND.out hkt)
    have HKR:Hid (0<=K[j]/\K[j]<(r.h.length:Int)):=za (by
     have h0:K[j]∈zx r.h x.g:=by rw[<-HKK.out];exact yy hjk
     have h1:=HF.out.ok.rd _ (jn.1 h0).1;have h2:=HF.out.hl
     omega)
    have HTR:Hid (0<=T[j]'(by omega)/\T[j]'(by omega)<(r.k:Int)):=za (by
     have h0:T[j]'(by omega)∈yv r.h r.k NB:=by rw[<-HTT.out];exact yy _
     have:=JE h0
     omega)
    obtain⟨bk,ok,hka,_,hkc⟩:=(qy HK.out).2.2.1 j hjk;obtain⟨bt,ot,hta,_,htc⟩:=(qy HL.out.hT).2.2.1 j (show j<T.length by omega);dsimp only at hta htc;have HHS:=za (HF.out.hs K[j] HKR.out.1 HKR.out.2);generalize K[j]=s at *;generalize T[j]=t at *;obtain⟨sn,rfl⟩:∃n:Nat,s=(n:Int):=⟨s.toNat,by have:=HKR.out.1;omega⟩
    have hsn:sn<r.h.length:=by have:=HKR.out.2;omega
    obtain⟨bh,oh,hha,_,hhc⟩:=(HM.out.mh _ HL.out.wi.hb) sn hsn;have HHB:Hid (∀W,XO w1 r.ba W->yC W r.ha r.h):=za HM.out.mh;rw[Yc hsn]at HHS HS2;have nsn:(sn:Int)<(r.h.length:Int):=by omega
    have ntl:(j:Int)<(T.length:Int):=by omega
    have hk2:=HF.out.k2;have hjl:j<=1000:=by omega
    obtain⟨c1,g0,g1,g3,k8,k15,k17,c7⟩:=HL.out.cells;dsimp only at c1 g0 g1 g3 k8 k15 k17 c7;subst hka;subst hta
    have HHC:Hid (∀W',XO w1 r.ba W'->W'.cell? ⟨bh,oh+sn,none⟩=some (.int .i64 r.h[sn])):=za (fun W' hb=>by
     obtain⟨b',o',e,_,hc⟩:=(HHB.out _ hb) sn hsn;rw[hha]at e;cases e
     exact hc)
    rw[hha]at k8;generalize hgv:r.h[sn]=hv at *;clear hgv
    have hlen:∀ty,(Builtin.len_ #[120] ty #[.map (some bm)]).run prog wr= .ok (.int .i64 (j:Int)) wr:=fun ty=>by
     have e:=xe.len Tryz.underlying120 HL.out.hM ty;rw[HS1.out.2.1]at e;exact e
    have hlend:∀ty,(Builtin.len_ #[120] ty #[.map (some bm)]).run prog wr.drew= .ok (.int .i64 (j:Int)) wr.drew:=fun ty=>by
     have e:=xe.len Tryz.underlying120 (HL.out.below (zt wr)).hM ty;rw[HS1.out.2.1]at e;exact e
    have hok:=YS (x:=(sn:Int)) (by omega);have hoc:=YS (x:=t) (by have:=HTR.out;omega);go_upto_region 9 with fail;go_still_tail 7,(by kernel_rfl);change wpList _ _ _ _ _ wr.drew;have HLD:=za (HL.out.below (zt wr));have HKD:=za (zu.later HK.out (zt wr))
    go_upto_region 10 with (first
     |(at_mapUpdate;refine vM xU _ Tryz.underlying120 rfl _ _ _ rfl bm _ (sn:Int) t rfl HLD.out.hM (by have:=HS1.out.2.1;omega) rfl rfl hok.1 hoc.2 ?_;intro w5 hm5 hg5;have HL5:=za (HLD.out.put HZ7.out hg5 (hm5.perm HS1.out.1));have HK5:Hid (zu w5 b2 _ K):=za (zu.kept HKD.out hg5 (fun b hb e=>by cases e;have:=HKM.out _ hb;omega));clear hm5 hg5))
    clear c1 g0 g1 g3 k8 k15 k17 c7 hlen hlend hkc htc HL HK HLD HKD hhc hok hoc;obtain⟨c1,g0,g1,g3,k8,k15,k17,c7⟩:=HL5.out.cells;dsimp only at c1 g0 g1 g3 k8 k15 k17 c7;rw[hha]at k8;have hhc5:=HHC.out w5 HL5.out.wi.hb
    have hlk:(Instr.lookup 120 (.map (some bm)) (.int .i64 (sn:Int)) false).run prog w5= .ok (.int .i64 t) w5:=by
     have e:(Instr.lookup 120 (.map (some bm)) (.int .i64 (sn:Int)) false).run prog w5= .ok (.int .i64 ((jZ (jD r x.g _ (j+1)) (sn:Int)).getD 0)) w5:=xe.look (M:=xU) Tryz.underlying120 HL5.out.hM (x:=(sn:Int)) (Gk (by omega));rw[HS1.out.2.2]at e;exact e
    have hlkd:(Instr.lookup 120 (.map (some bm)) (.int .i64 (sn:Int)) false).run prog w5.drew= .ok (.int .i64 t) w5.drew:=by
     have e:(Instr.lookup 120 (.map (some bm)) (.int .i64 (sn:Int)) false).run prog w5.drew= .ok (.int .i64 ((jZ (jD r x.g _ (j+1)) (sn:Int)).getD 0)) w5.drew:=xe.look (M:=xU) Tryz.underlying120 (HL5.out.below (zt w5)).hM (x:=(sn:Int)) (Gk (by omega));rw[HS1.out.2.2]at e;exact e
    have HEM:=za (Qd w1 r _ vcj og ⟨33,t,-2-hv,0⟩ w5.drew (HL5.out.below (zt w5)).wi (by have:=HS2.out.2;omega));have hwq:IntKind.i64.wrap (-2-hv)= -2-hv:=ju (by have:=HHS.out;omega);go_still_tail 13,(by kernel_rfl);change wpList _ _ _ _ _ w5.drew;clear hwq
    go_wp2_with (first
     |(go_at_call 49;(with_reducible refine HEM.out.mono ?_);rintro e w7 ⟨rfl,vc7,hwi,hst,hnb⟩;have HL8:=za ((HL5.out.below (zt w5)).step HZ7.out hwi hst hnb);have HK8:=za ((HL5.out.below (zt w5)).own HZ7.out hst (zu.later HK5.out (zt w5)) (fun b e=>⟨(HKM.out b e).1,(HKM.out b e).2.1⟩));clear hwi hst hnb))
    go_roundg (K.length-(j+1));case measure=>omega
    case rel=>exact⟨j+1,vc7,by omega,rfl,by go_num,za (by rw[HS2.out.1];exact HL8.out),HK8⟩
   ·obtain rfl:j=K.length:=by omega
    have nj:¬(K.length:Int)<(K.length:Int):=by omega
    have HLY:Hid (YQ ⟨w1,r,x,W,vc.ownBlock,og,b2,b5,bm,b7,w6.heap.size,na,nc,N,ta,tc,T⟩ (Zf r x.g T xw (zx r.h x.g).length) vcj (jD r x.g T (zx r.h x.g).length) wr):=za (by rw[<-HKK.out];exact HL.out);have HYL:Hid ((Zf r x.g T xw (zx r.h x.g).length).code.length=xw.code.length+(zx r.h x.g).length/\(Zf r x.g T xw (zx r.h x.g).length).ats.length=xw.ats.length):=za (Ok r x.g T xw (zI _));have HGT:Hid (∀s,s∈zx r.h x.g->jZ (jD r x.g T (zx r.h x.g).length) s=some (qX (zx r.h x.g) T s)):=za (fun s hs=>Dy r x.g T hs (by rw[<-HKK.out];exact HND.out));have HWX:Hid (qY r.u (zf r.u) r.h r.k xw x.g=if 0<=x.g.wr/\zh r.h x.g.wr<= -2 then⟨(jx r x.g T (yv r.h r.k N) (Zf r x.g T xw (zx r.h x.g).length) (x.g.til+1-x.g.frm)).code++ [xx (-2-zh r.h x.g.wr) (q_ r.h (yv r.h r.k N) x.g.wr)],(jx r x.g T (yv r.h r.k N) (Zf r x.g T xw (zx r.h x.g).length) (x.g.til+1-x.g.frm)).ats⟩else jx r x.g T (yv r.h r.k N) (Zf r x.g T xw (zx r.h x.g).length) (x.g.til+1-x.g.frm)):=za (by rw[HTT.out,HNB2.out,HNN.out];exact DM r x.g hfrm xw);have HLL:Hid ((zx r.h x.g).length<=200):=za (by rw[<-HKK.out];exact hkl);generalize Zf r x.g T xw (zx r.h x.g).length=Y at *;generalize jD r x.g T (zx r.h x.g).length=LM at *;clear HL HK HK6 HL7 HKM HND hkl hkt nj;obtain⟨c1,g0,g1,g3,k8,k15,k17,c7⟩:=HLY.out.cells;dsimp only at c1 g0 g1 g3 k8 k15 k17 c7;go_upto_region 15 with fail;clear c1 g0 g1 g3 k8 k15 k17 c7;obtain⟨FR,hFR⟩:∃FR,FR=yv r.h r.k N:=⟨_,rfl⟩
    have HFR:=za hFR;rw[<-hFR]at HWX;clear hFR;have HTW:=za (fun(xq:xN) (vq:Value) (wq:World) (hq:YQ ⟨w1,r,x,W,vc.ownBlock,og,b2,b5,bm,b7,w6.heap.size,na,nc,N,ta,tc,T⟩ xq vq LM wq)=>YQ.toW (p:=⟨w1,r,x,W,vc.ownBlock,og,b2,b5,bm,b7,w6.heap.size,na,nc,N,ta,tc,T⟩) HM.out HF.out hq HNN.out);dsimp only at HTW;rw[<-HFR.out]at HTW;have HTR:=za (fun(xq:xN) (vq:Value) (wq:World) (hq:YQ ⟨w1,r,x,W,vc.ownBlock,og,b2,b5,bm,b7,w6.heap.size,na,nc,N,ta,tc,T⟩ xq vq LM wq)=>YQ.toR (p:=⟨w1,r,x,W,vc.ownBlock,og,b2,b5,bm,b7,w6.heap.size,na,nc,N,ta,tc,T⟩) HM.out HF.out hq HGT.out);dsimp only at HTR;have hyl:Y.code.length<=50200:=by have h1:=HYL.out.1;have h2:=HLL.out;omega
    have hya:Y.ats.length=r.u.code.length:=by rw[HYL.out.2];exact HAL.out
    have HYA:=za hya;clear hya;go_loopg [12] (x.g.til+1-x.g.frm) (fun gh s12 wz=>∃(m:Nat) (vcm:Value),m<=x.g.til+1-x.g.frm/\gh=x.g.til+1-x.g.frm-m/\s12= .int .i64 ((x.g.frm+m:Nat):Int)/\Hid (YQ ⟨w1,r,x,W,vc.ownBlock,og,b2,b5,bm,b7,w6.heap.size,na,nc,N,ta,tc,T⟩ (jx r x.g T FR Y m) vcm LM wz));case atStart=>exact⟨0,vcj,zE _,rfl,rfl,HLY⟩
    case round=>as_aux_lemma=>
     obtain⟨m,vcm,hmm,rfl,rfl,HL⟩:=hrel;clear HLY;obtain⟨hxl,hxa⟩:=Ol r x.g T FR Y m;have HXL:Hid ((jx r x.g T FR Y m).code.length<=60000):=za (by omega);have HXA:=za hxa;clear hxl hxa;by_cases hmn:m<x.g.til+1-x.g.frm
     ·have hi:x.g.frm+m<r.u.code.length:=by omega
      have ni:((x.g.frm+m:Nat):Int)<(r.u.code.length:Int):=by omega
      have nle:((x.g.frm+m:Nat):Int)<=(x.g.til:Int):=by omega
      have HZ2:Hid (r.u.code.getD (x.g.frm+m) zw=r.u.code[x.g.frm+m]):=za (zk hi);have HRA:Hid (∀s∈zp r.u.code[x.g.frm+m],s∈x.g.reads):=za (fun s hs=>HF.out.ok.ra (x.g.frm+m) (by omega) (by omega) s (by rw[HZ2.out];exact hs));have HOP:=za (XP HF.out.wt _ (yy hi));have HWW:=za (xA HF.out.wt hi);obtain⟨bc,oc,hca,_,q0,q1,q2,q3⟩:=(HM.out.mu _ HL.out.wi.hb).rc (x.g.frm+m) hi;obtain⟨xva,xcap,hxv,_,_,_⟩:=HL.out.wi.hc.rdB
      have HQC:Hid (∀W',XO w1 r.ba W'->W'.cell? ⟨bc,oc+(x.g.frm+m)*4,none⟩=some (.int .i64 r.u.code[x.g.frm+m].op)/\W'.cell? ⟨bc,oc+(x.g.frm+m)*4+1,none⟩=some (.int .i64 r.u.code[x.g.frm+m].a)/\W'.cell? ⟨bc,oc+(x.g.frm+m)*4+2,none⟩=some (.int .i64 r.u.code[x.g.frm+m].b)/\W'.cell? ⟨bc,oc+(x.g.frm+m)*4+3,none⟩=some (.int .i64 r.u.code[x.g.frm+m].c)):=za (fun W' hb=>by
       obtain⟨b',o',e,_,h0,h1,h2,h3⟩:=(HM.out.mu _ hb).rc (x.g.frm+m) hi;rw[hca]at e;cases e
       exact⟨h0,h1,h2,h3⟩)
      clear q0 q1 q2 q3;have HCA:=za hca;clear hca;generalize r.u.code[x.g.frm+m]=z at *;obtain⟨z2,hz2⟩:∃z2,z2=zY z (Yx r.h (zx r.h x.g) T) (q_ r.h FR):=⟨_,rfl⟩
      have HREP:=za (fun(xq:xN) (vq:Value) (wq:World) (hq:YQ ⟨w1,r,x,W,vc.ownBlock,og,b2,b5,bm,b7,w6.heap.size,na,nc,N,ta,tc,T⟩ xq vq LM wq)=>show Calls prog 113 #[vI z,.func (.func 111) #[] #[.pointer (some ⟨b2,0,none⟩),.pointer (some ⟨b7,0,none⟩)],.func (.func 112) #[] #[.pointer (some ⟨b2,0,none⟩),.pointer (some ⟨b5,0,none⟩)]] wq (Ks (some z2) wq)from by
       have e:=Jh z 111 112 D9 D8 _ _ _ _ _ _ wq (HTR.out xq vq wq hq) (HTW.out xq vq wq hq) HRA.out (fun h0=>⟨h0,by have h1:=HWW.out.2;have h2:=HF.out.hl;omega⟩);rw[I0 (by have:=HOP.out;omega) (fun s hs=>(HF.out.ok.rd s (HRA.out s hs)).1),<-hz2]at e
       exact e)
      have HZZ2:=za hz2;clear hz2 HTR HTW;obtain⟨i,hii⟩:∃i,i=x.g.frm+m:=⟨_,rfl⟩
      have HI9:=za hii;rw[<-hii]at hi ni nle HZ2 HQC;rw[<-hii];clear hii
      have HSL:=za (fun(xq:xN) (vq:Value) (W':World) (h:YQ ⟨w1,r,x,W,vc.ownBlock,og,b2,b5,bm,b7,w6.heap.size,na,nc,N,ta,tc,T⟩ xq vq LM W')=>show W'.cell? ⟨b2,0,none⟩=some (.pointer (some ⟨r.bw,0,none⟩))/\W'.cell? ⟨r.bw,5,none⟩=some (.slice (some ⟨bc,oc,none⟩) r.u.code.length r.cc)/\W'.cell? ⟨bc,oc+i*4,none⟩=some (.int .i64 z.op)/\W'.cell? ⟨bc,oc+i*4+1,none⟩=some (.int .i64 z.a)/\W'.cell? ⟨bc,oc+i*4+2,none⟩=some (.int .i64 z.b)/\W'.cell? ⟨bc,oc+i*4+3,none⟩=some (.int .i64 z.c)from by
       have k5:=j8 h.wi.hx (k:=5) rfl
       exact⟨h.cells.1,by rw[<-HCA.out];exact k5,HQC.out _ h.wi.hb⟩)
      obtain⟨c1,g0,g1,g3,k8,k15,k17,c7⟩:=HL.out.cells;dsimp only at c1 g0 g1 g3 k8 k15 k17 c7;by_cases m0:m=0
      ·have n17:¬(i:Int)>(x.g.frm:Int):=by have:=HI9.out;omega
       go_upto_region 19 with fail;clear c1 g0 g1 g3 k8 k15 k17 c7;have HEM:=za (fun w9 (h:YQ ⟨w1,r,x,W,vc.ownBlock,og,b2,b5,bm,b7,w6.heap.size,na,nc,N,ta,tc,T⟩ (jx r x.g T FR Y m) vcm LM w9)=>Qd w1 r (jx r x.g T FR Y m) vcm og z2 w9 h.wi (yP HXL.out (by decide)));have HLd:=za (HL.out.below (zt wr))
       go_region_held3 (fun W'=>W'.cell? ⟨b2,0,none⟩=some (.pointer (some ⟨r.bw,0,none⟩))/\W'.cell? ⟨r.bw,5,none⟩=some (.slice (some ⟨bc,oc,none⟩) r.u.code.length r.cc)/\W'.cell? ⟨bc,oc+i*4,none⟩=some (.int .i64 z.op)/\W'.cell? ⟨bc,oc+i*4+1,none⟩=some (.int .i64 z.a)/\W'.cell? ⟨bc,oc+i*4+2,none⟩=some (.int .i64 z.b)/\W'.cell? ⟨bc,oc+i*4+3,none⟩=some (.int .i64 z.c))
        (first|exact HSL.out _ _ _ HL10.out|exact HSL.out _ _ _ HL9.out|exact HSL.out _ _ _ HLd.out|exact HSL.out _ _ _ HL.out)
        (first
         |(go_at_call 113;(with_reducible refine(HREP.out _ _ _ HLd.out).mono ?_);rintro e w9 ⟨hb,hor⟩;obtain rfl:e= .returned (vI z2):=hor.elim (fun h=>by obtain⟨z3,h3,h4⟩:=h;cases h3;exact h4) (fun h=>by cases h.1);have HL9:=za (HLd.out.below hb);clear hb hor)
         |(go_at_call 49;(with_reducible refine(HEM.out _ HL9.out).mono ?_);rintro e w10 ⟨rfl,vc7,hwi,hst,hnb⟩;have HL10:=za (HL9.out.step HZ7.out hwi hst hnb);clear hwi hst hnb))
       all_goals
        go_wp2_with fail;go_roundg (x.g.til+1-x.g.frm-(m+1));case measure=>omega
        case rel=>exact⟨m+1,vc7,by omega,rfl,congrArg (Value.int .i64) (by have:=HI9.out;omega),za (by
         have e:=HL10.out;rw[HZZ2.out,<-HZ2.out,HI9.out]at e;subst m0
         exact e)⟩
      ·have n17:(i:Int)>(x.g.frm:Int):=by have:=HI9.out;omega
       rw[hxv]at k15;have hil:i<(jx r x.g T FR Y m).ats.length:=by rw[HXA.out,HYA.out];exact hi
       have fba:wr.frozen? ⟨r.ba,i,none⟩=false:=HL.out.wi.ha.frozen _;have kba:=HL.out.wi.ha.at (i:=i) hil;dsimp only at kba;obtain⟨wq,hwq⟩:∃w',w'=(wr.setCell ⟨r.ba,i,none⟩ (.int .i64 (jx r x.g T FR Y m).code.length)).drew:=⟨_,rfl⟩
       have HLq:Hid (YQ ⟨w1,r,x,W,vc.ownBlock,og,b2,b5,bm,b7,w6.heap.size,na,nc,N,ta,tc,T⟩ ⟨(jx r x.g T FR Y m).code,(jx r x.g T FR Y m).ats.set i (jx r x.g T FR Y m).code.length⟩ vcm LM wq):=za (by
        rw[hwq]
        exact(HL.out.at HZ7.out (i:=i) hil _).below (zt _))
       go_upto_region 18 with fail;go_still_tail 12,(by kernel_rfl);change wpList _ _ _ _ _ wr.drew;go_upto_region 19 with fail;rw[<-hwq];clear hwq c1 g0 g1 g3 k8 k15 k17 c7 fba kba;have HEM:=za (fun w9 (h:YQ ⟨w1,r,x,W,vc.ownBlock,og,b2,b5,bm,b7,w6.heap.size,na,nc,N,ta,tc,T⟩ ⟨(jx r x.g T FR Y m).code,(jx r x.g T FR Y m).ats.set i (jx r x.g T FR Y m).code.length⟩ vcm LM w9)=>Qd w1 r ⟨(jx r x.g T FR Y m).code,(jx r x.g T FR Y m).ats.set i (jx r x.g T FR Y m).code.length⟩ vcm og z2 w9 h.wi (yP HXL.out (by decide)));have HLd:=za (HLq.out.below (zt wq))
       go_region_held3 (fun W'=>W'.cell? ⟨b2,0,none⟩=some (.pointer (some ⟨r.bw,0,none⟩))/\W'.cell? ⟨r.bw,5,none⟩=some (.slice (some ⟨bc,oc,none⟩) r.u.code.length r.cc)/\W'.cell? ⟨bc,oc+i*4,none⟩=some (.int .i64 z.op)/\W'.cell? ⟨bc,oc+i*4+1,none⟩=some (.int .i64 z.a)/\W'.cell? ⟨bc,oc+i*4+2,none⟩=some (.int .i64 z.b)/\W'.cell? ⟨bc,oc+i*4+3,none⟩=some (.int .i64 z.c))
        (first|exact HSL.out _ _ _ HL10.out|exact HSL.out _ _ _ HL9.out|exact HSL.out _ _ _ HLd.out|exact HSL.out _ _ _ HLq.out)
        (first
         |(go_at_call 113;(with_reducible refine(HREP.out _ _ _ HLd.out).mono ?_);rintro e w9 ⟨hb,hor⟩;obtain rfl:e= .returned (vI z2):=hor.elim (fun h=>by obtain⟨z3,h3,h4⟩:=h;cases h3;exact h4) (fun h=>by cases h.1);have HL9:=za (HLd.out.below hb);clear hb hor)
         |(go_at_call 49;(with_reducible refine(HEM.out _ HL9.out).mono ?_);rintro e w10 ⟨rfl,vc7,hwi,hst,hnb⟩;have HL10:=za (HL9.out.step HZ7.out hwi hst hnb);clear hwi hst hnb))
       all_goals
        go_wp2_with fail;go_roundg (x.g.til+1-x.g.frm-(m+1));case measure=>omega
        case rel=>exact⟨m+1,vc7,by omega,rfl,congrArg (Value.int .i64) (by have:=HI9.out;omega),za (by
         have e:=HL10.out;rw[HZZ2.out,<-HZ2.out]at e;rw[AP r x.g T FR Y m0,<-HI9.out]
         exact e)⟩
     ·have hmm2:m=x.g.til+1-x.g.frm:=by omega
      obtain⟨i,hii⟩:∃i,i=x.g.frm+m:=⟨_,rfl⟩
      have nle:¬(i:Int)<=(x.g.til:Int):=by omega
      rw[<-hii];rw[<-hmm2]at HWX;clear hii hmm2 hmn hmm HTR
      have HNB9:=za (fun(xq:xN) (vq:Value) (W':World) (h:YQ ⟨w1,r,x,W,vc.ownBlock,og,b2,b5,bm,b7,w6.heap.size,na,nc,N,ta,tc,T⟩ xq vq LM W')=>show Vk vc.ownBlock vq.ownBlock W from by
       rcases h.ho with e|⟨b,e,hb⟩
       ·exact .inl e
       ·have h1:=HZ7.out.b5
        have h2:=HWA.out.2.2;dsimp only at h1 hb
        exact .inr ⟨b,e,by omega⟩)
      generalize jx r x.g T FR Y m=X at *;obtain⟨c1,g0,g1,g3,k8,k15,k17,c7⟩:=HL.out.cells;dsimp only at c1 g0 g1 g3 k8 k15 k17 c7;by_cases h0:0<=x.g.wr
      ·obtain⟨wn,hwn⟩:∃n:Nat,x.g.wr=(n:Int):=⟨x.g.wr.toNat,by omega⟩
       have hwl:wn<r.h.length:=by
        have h1:=HF.out.ok.wr;rw[zk htil]at h1;have h2:=(xA HF.out.wt htil).2;have h3:=HF.out.hl;omega
       have HWN:=za hwn;rw[hwn]at g3;clear h0 hwn;obtain⟨bh,oh,hha,_,hhc⟩:=(HM.out.mh _ HL.out.wi.hb) wn hwl
       have HHC:Hid (∀W',XO w1 r.ba W'->W'.cell? ⟨bh,oh+wn,none⟩=some (.int .i64 r.h[wn])):=za (fun W' hb=>by
        obtain⟨b',o',e,_,hc⟩:=(HM.out.mh _ hb) wn hwl;rw[hha]at e;cases e
        exact hc)
       have HHN:Hid (zh r.h (wn:Int)=r.h[wn]):=za (Yc hwl);have HHS:=za (HF.out.hs (wn:Int) (by omega) (by omega));rw[HHN.out]at HHS;have nwl:(wn:Int)<(r.h.length:Int):=by omega
       rw[hha]at k8;have HHA:=za hha;clear hha;generalize r.h[wn]=hv at *;by_cases hh:hv<= -2
       ·have HSL:=za (fun(xq:xN) (vq:Value) (W':World) (h:YQ ⟨w1,r,x,W,vc.ownBlock,og,b2,b5,bm,b7,w6.heap.size,na,nc,N,ta,tc,T⟩ xq vq LM W')=>show W'.cell? ⟨b2,0,none⟩=some (.pointer (some ⟨r.bw,0,none⟩))/\W'.cell? ⟨b2+1,3,none⟩=some (.int .i64 (wn:Int))/\W'.cell? ⟨r.bw,8,none⟩=some (.slice (some ⟨bh,oh,none⟩) r.h.length r.hc)/\W'.cell? ⟨bh,oh+wn,none⟩=some (.int .i64 hv)from by
         have k8:=j8 h.wi.hx (k:=8) rfl;have g3:=(zX h.h3).2.2.2;dsimp only at g3;rw[HWN.out]at g3
         exact⟨h.cells.1,g3,by rw[<-HHA.out];exact k8,HHC.out _ h.wi.hb⟩)
        have HWT:=za (fun(xq:xN) (vq:Value) (wq:World) (hq:YQ ⟨w1,r,x,W,vc.ownBlock,og,b2,b5,bm,b7,w6.heap.size,na,nc,N,ta,tc,T⟩ xq vq LM wq)=>show Calls prog 112 #[.int .i64 (wn:Int),.pointer (some ⟨b2,0,none⟩),.pointer (some ⟨b5,0,none⟩)] wq (zV (.int .i64 (q_ r.h FR (wn:Int))) wq)from by
         refine(HTW.out xq vq wq hq (wn:Int) ⟨by omega,by omega⟩ wq (zG _ _)).mono ?_;rintro e w' ⟨hb,(⟨v,hv,rfl⟩|⟨hv,_⟩)⟩
         ·cases hv
          exact⟨rfl,hb⟩
         ·cases hv)
        have HWE:Hid (qY r.u (zf r.u) r.h r.k xw x.g=⟨X.code++ [⟨34,-2-hv,q_ r.h FR (wn:Int),0⟩],X.ats⟩):=za (by
         rw[HWX.out,HWN.out,HHN.out,zj ⟨by omega,hh⟩]
         rfl)
        generalize q_ r.h FR (wn:Int)=wv at *;have HEM:=za (fun w9 (h:YQ ⟨w1,r,x,W,vc.ownBlock,og,b2,b5,bm,b7,w6.heap.size,na,nc,N,ta,tc,T⟩ X vcm LM w9)=>Qd w1 r X vcm og ⟨34,-2-hv,wv,0⟩ w9 h.wi (yP HXL.out (by decide)));clear HTW HWX;go_upto_region 20 with fail;go_quiet (fail);clear c1 g0 g1 g3 k8 k15 k17 c7 hhc;rename_i nq;have HLq:=za (HL.out.below (xR (zG _ _) nq));obtain⟨wq,hwq⟩:∃wq,wq=wr.drewN nq:=⟨_,rfl⟩
        rw[<-hwq]at HLq;rw[<-hwq];clear hwq;go_upto_region 21 with fail;have HLd:=za (HLq.out.below (zt wq));have hwx:IntKind.i64.wrap (-2-hv)= -2-hv:=ju (by have:=HHS.out;omega)
        go_region_held3 (fun W'=>W'.cell? ⟨b2,0,none⟩=some (.pointer (some ⟨r.bw,0,none⟩))/\W'.cell? ⟨b2+1,3,none⟩=some (.int .i64 (wn:Int))/\W'.cell? ⟨r.bw,8,none⟩=some (.slice (some ⟨bh,oh,none⟩) r.h.length r.hc)/\W'.cell? ⟨bh,oh+wn,none⟩=some (.int .i64 hv))
         (first|exact HSL.out _ _ _ HL10.out|exact HSL.out _ _ _ HL9.out|exact HSL.out _ _ _ HLd.out|exact HSL.out _ _ _ HLq.out)
         (first
          |(go_at_call 112;(with_reducible refine(HWT.out _ _ _ HLd.out).mono ?_);rintro e w9 ⟨rfl,hb⟩;have HL9:=za (HLd.out.below hb);clear hb)
          |(go_at_call 49;(with_reducible refine(HEM.out _ HL9.out).mono ?_);rintro e w10 ⟨rfl,vc7,hwi,hst,hnb⟩;have HL10:=za (HL9.out.step HZ7.out hwi hst hnb);clear hwi hst hnb))
        all_goals
         go_wp2_with fail
         go_end0
         exact⟨rfl,vc7,by rw[HWE.out];exact HL10.out.wi,HL10.out.hs,HNB9.out _ _ _ HL10.out⟩
       ·have HWE:Hid (qY r.u (zf r.u) r.h r.k xw x.g=X):=za (by
         rw[HWX.out,HWN.out,HHN.out,zi (fun e=>hh e.2)])
        clear HTW HWX;go_upto_region 20 with fail;go_quiet (fail);rename_i nq;have HLq:=za (HL.out.below (xR (zG _ _) nq));clear c1 g0 g1 g3 k8 k15 k17 c7 hhc;go_wp2_with fail
        go_end0
        exact⟨rfl,vcm,by rw[HWE.out];exact HLq.out.wi,HLq.out.hs,HNB9.out _ _ _ HLq.out⟩
      ·have HWE:Hid (qY r.u (zf r.u) r.h r.k xw x.g=X):=za (by rw[HWX.out,zi (fun e=>h0 e.1)])
       have h00:¬(x.g.wr>=0):=h0;clear HTW HWX;go_upto_region 20 with fail;go_quiet (fail);rename_i nq;have HLq:=za (HL.out.below (xR (zG _ _) nq));clear c1 g0 g1 g3 k8 k15 k17 c7;go_wp2_with fail
       go_end0
       exact⟨rfl,vcm,by rw[HWE.out];exact HLq.out.wi,HLq.out.hs,HNB9.out _ _ _ HLq.out⟩
end Go.Proofs.YtgalekifgnecjaaGreat
