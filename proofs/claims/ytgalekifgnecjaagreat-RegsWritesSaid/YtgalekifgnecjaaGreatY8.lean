/- What the loop over the groups keeps while the writer writes -/
import Derived.Test.YtgalekifgnecjaaGreatY6
import Derived.Test.YtgalekifgnecjaaGreatY7
import Derived.Test.YtgalekifgnecjaaGreatW1
import Derived.Test.YtgalekifgnecjaaGreatM5
import Derived.Deep.RegionHeld3
import Derived.BigQuiet
namespace Go.Proofs.YtgalekifgnecjaaGreat
open Tryz Go.RowKit
open Go.RowKit Go.Shelf Go.Sort
set_option maxHeartbeats 60000000
set_option maxRecDepth 100000
def Rd(S:Nat->Prop)(g c:Nat)(W:World)(k:Nat):Prop:=¬S k/\k≠g/\∀b off n m,W.cell? ⟨g,c,none⟩=some (.slice (some ⟨b,off,none⟩) n m)->k≠b
structure Sk(S:Nat->Prop)(g c:Nat)(W:World):Prop where
 own:∀k,S k->k<W.heap.size
 cell:∃v,W.cell? ⟨g,c,none⟩=some v
 back:∀b off n m,W.cell? ⟨g,c,none⟩=some (.slice (some ⟨b,off,none⟩) n m)->b<W.heap.size
theorem Ve(S:Nat->Prop)(g c:Nat):Kv (Rd S g c) (Sk S g c):=by
 refine⟨fun A B hw hb=> ?_,fun W l o o' hl ho hw=> ?_⟩
 ·obtain⟨v,hv⟩:=hw.cell
  have e:B.cell? ⟨g,c,none⟩=A.cell? ⟨g,c,none⟩:=ZO (hb.block g (block_lt_of_cell hv));refine⟨⟨fun k hk=>xh (hw.own k hk) hb.size,⟨v,e.trans hv⟩,fun b off n m h=>xh (hw.back b off n m (e.symm.trans h)) hb.size⟩,fun k m=>⟨m.1,m.2.1,fun b off n m2 h=>m.2.2 b off n m2 (e.symm.trans h)⟩,fun k h1 _=>⟨fun hs=>by have:=hw.own k hs;omega,fun he=>by have:=block_lt_of_cell hv;simp only at this;omega,fun b off n m h=>by have:=hw.back b off n m (e.symm.trans h);omega⟩⟩
 ·obtain⟨v,hv⟩:=hw.cell
  have hne:g≠l:=fun he=>by
   subst he;unfold World.cell? at hv;rw[show(⟨g,c,none⟩:Addr).block=g from rfl,hl]at hv;cases o<;>simp[Obj.isCells]at ho hv
  have e:(W.putObj l o').cell? ⟨g,c,none⟩=W.cell? ⟨g,c,none⟩:=ZO (World.putObj_heap_other hne);exact⟨⟨fun k hk=>by simpa[World.putObj]using hw.own k hk,⟨v,e.trans hv⟩,fun b off n m h=>by simpa[World.putObj]using hw.back b off n m (e.symm.trans h)⟩,fun k m=>⟨m.1,m.2.1,fun b off n m2 h=>m.2.2 b off n m2 (e.symm.trans h)⟩⟩
theorem K8{w:World}{base:Nat}{e:TypeId}{size:Nat}{v:Value}{n:Nat}{xs:List Value}(h:w.ownsRow base e size v n xs){b off k m:Nat}(hv:v= .slice (some ⟨b,off,none⟩) k m):v.ownBlock=some b:=by
 rcases h.2 with ⟨rfl,_⟩|⟨g,cap,cur,rfl,_⟩
 ·cases hv
 ·cases hv
  rfl
theorem Dc{w:World}{base:Nat}{e:TypeId}{size:Nat}{v:Value}{n:Nat}{xs:List Value}(h:w.ownsRow base e size v n xs){b:Nat}(hb:v.ownBlock=some b):∃k m,v= .slice (some ⟨b,0,none⟩) k m:=by
 rcases h.2 with ⟨rfl,_⟩|⟨g,cap,cur,rfl,_⟩
 ·cases hb
 ·cases hb
  exact⟨_,_,rfl⟩
section
variable {w1:World} {r:qu} {x x':xN} {vc vc' og:Value} {W W':World}
theorem Yz.c15(h:Yz w1 r x vc og W):W.cell? ⟨r.bw,15,none⟩=some vc:=(zA _ _ 15 _ _ _ h.hx).trans rfl
theorem Yz.wfc(h:Yz w1 r x vc og W):Sk (fun k=>k=r.ba) r.bw 15 W:=by
 refine⟨fun k hk=>by rw[hk];exact h.ha.lt,⟨vc,h.c15⟩,fun b off n m hc=> ?_⟩;have e:=Option.some.inj (h.c15.symm.trans hc);exact Xd h.hc b (K8 h.hc e)
theorem Yz.mi(h:Yz w1 r x vc og W){k:Nat}(h1:k≠r.ba)(h2:k≠r.bw)(h3:vc.ownBlock≠some k):Rd (fun k=>k=r.ba) r.bw 15 W k:=
 ⟨h1,h2,fun b off n m hc e=>h3 (by rw[e];exact K8 h.hc (Option.some.inj (h.c15.symm.trans hc)))⟩
theorem Yz.miBack(h:Yz w1 r x vc og W){k:Nat}(hm:Rd (fun k=>k=r.ba) r.bw 15 W k):k≠r.ba/\k≠r.bw/\vc.ownBlock≠some k:=by
 refine⟨hm.1,hm.2.1,fun e=> ?_⟩;obtain⟨n,m,hv⟩:=Dc h.hc e;exact hm.2.2 k 0 n m (by rw[h.c15,hv]) rfl
theorem Yz.keepM(h:Yz w1 r x vc og W)(h':Yz w1 r x' vc' og W')(hs:vK r vc.ownBlock W W')(hn:Vk vc.ownBlock vc'.ownBlock W):yI (Rd (fun k=>k=r.ba) r.bw 15) (Sk (fun k=>k=r.ba) r.bw 15) W W':=by
 refine⟨h'.wfc,hs.os,hs.tape,hs.output,hs.size,fun k o m hk _=> ?_⟩;obtain⟨m1,m2,m3⟩:=h.miBack m;have hlt:=(qM.1 hk).1;refine⟨(hs.block k hlt m2 m1 (fun e=>m3 e.symm)).trans hk,h'.mi m1 m2 (fun e=> ?_)⟩;rcases hn with hn|⟨b,hb,hge⟩
 ·exact m3 (hn.symm.trans e)
 ·have:=Option.some.inj (hb.symm.trans e)
  omega
theorem Yz.others(h:Yz w1 r x vc og W)(hs:vK r vc.ownBlock W W'):KeepsOthers W W':=by
 refine⟨hs.size,fun k o hk hc=> ?_⟩;have hlt:=(qM.1 hk).1;refine(hs.block k hlt (fun e=> ?_) (fun e=> ?_) (fun e=> ?_)).trans hk
 ·subst e
  rw[h.hx]at hk;cases hk;cases hc
 ·subst e
  obtain⟨cur,h1,_⟩:=h.ha;rw[h1]at hk;cases hk;cases hc
 ·rcases h.hc.2 with ⟨e1,_⟩|⟨g,cap,cur,e1,_,hh,_⟩
  ·rw[e1]at e;cases e
  ·rw[e1]at e
   cases e;rw[hh]at hk;cases hk;cases hc
end
theorem Yz.boxStay{w1:World}{r:qu}{x:xN}{vc og:Value}{W W':World}(h:Yz w1 r x vc og W)(hs:vK r vc.ownBlock W W'){b:Nat}{c:Array Value}(hb:W.heap[b]?=some (.cells c 102 (0,0)))(h1:b≠r.bw)(h2:b≠r.ba):W'.heap[b]?=some (.cells c 102 (0,0)):=by
 refine(hs.block b (ze hb) h1 h2 (fun e=> ?_)).trans hb;rcases h.hc.2 with ⟨e1,_⟩|⟨g,cap,cur,e1,_,hh,_⟩
 ·rw[e1]at e;cases e
 ·rw[e1]at e
  cases e;rw[hh]at hb;cases hb
theorem vd.pre{u:zg}:∀(p s:List xd) (i:Nat),vd u i (p++s)->vd u i p
 | [],_,_,_=>trivial
 |_::p,s,_,⟨h1,h2,h3,h4⟩=>⟨h1,h2,h3,vd.pre p s _ h4⟩
def Xt(u:zg)(k:Nat)(gs:List xd):xN:=gs.foldl (qY u (zf u) (zW u k).out k) ⟨yp (zW u k).out u.args.toNat,List.replicate u.code.length 0⟩
theorem AS(u:zg)(k:Nat):Xt u k (yg u)=xM u k:=rfl
theorem IM(u:zg)(k:Nat)(gs:List xd)(g:xd):Xt u k (gs++ [g])=qY u (zf u) (zW u k).out k (Xt u k gs) g:=by
 unfold Xt;rw[jc];rfl
theorem JL(h:List Int)(n:Nat):(yp h n).length<=n:=by
 unfold yp;rw[ym];exact yP (ZP _ _) (by rw[Qh];exact zI _)
theorem KP(h:List Int)(n:Nat):yp h (n+1)=yp h n++if 0<=zh h n then [qm (zh h n) n]else []:=by
 unfold yp;rw[Ze,List.filter_append,q8];congr 1;by_cases e:0<=zh h n
 ·rw[zj e,vH,zj (by simpa using e)];rfl
 ·rw[zi e,vH,zi (by simpa using e)];rfl
theorem AR{u:zg}(hw:zC u=true)(k:Nat){gs:List xd}(hp:gs <+: yg u):(Xt u k gs).code.length<=3000/\(Xt u k gs).ats.length=u.code.length:=by
 obtain⟨t,ht⟩:=hp;have ha:=zL hw;have hn:=qA hw;have hf:vd u 0 gs:=vd.pre gs t 0 (by rw[ht];exact YE _ _);obtain⟨h1,h2,_,_⟩:=X9 (u:=u) (live:=zf u) (h:=(zW u k).out) (k:=k) gs 0 ⟨yp (zW u k).out u.args.toNat,List.replicate u.code.length 0⟩ hf List.length_replicate;refine⟨?_,h2⟩;unfold Xt;rw[h1,yV];have h3:=G1 hw (zf u) (zW u k).out k gs 0 (fun g hg=>by rw[<-ht];exact List.mem_append_left _ hg) hf (zE _);have h4:=JL (zW u k).out u.args.toNat;show(yp (zW u k).out u.args.toNat).length+_<=_;omega
theorem IZ{u:zg}(hw:zC u=true){j:Nat}(hj:j<u.code.length)(rd wr:Int->Int){q:Int}(hq:zQ (zY (u.code.getD j zw) rd wr)=some q):0<=q/\q<u.code.length:=by
 have ho:=XP hw _ (yy hj);rw[zk hj]at hq;rw[GD rd wr ho]at hq;exact jz (zH hw) hj hq
theorem IL{u:zg}(hw:zC u=true)(k:Nat):∀y∈(xM u k).code,∀q,zQ y=some q->0<=q/\q<u.code.length:=by
 intro y hy q hq;rw[(ZZ k).1,qr]at hy;rcases hy with hy|hy
 ·unfold yp at hy
  obtain⟨s,_,rfl⟩:=xI.1 hy;cases hq
 ·obtain⟨g,hg,hy⟩:=List.mem_flatMap.1 hy
  have hok:=jq hw hg;rcases VC hy with ⟨a,b,rfl⟩|⟨a,b,rfl⟩|⟨j,rd,wr,hj,rfl⟩
  ·cases hq
  ·cases hq
  ·exact IZ hw (by have:=hok.lt;have:=hok.le;omega) rd wr hq
theorem G5(u:zg):JQ u 0 (yg u):=Xl _ _ (by omega)
theorem VZ{u:zg}(k:Nat):∀y∈(xM u k).ats,0<=y/\y<=(xM u k).code.length:=by
 intro y hy;obtain⟨h1,h2,h3⟩:=ZZ (u:=u) k;obtain⟨j,hj,rfl⟩:=List.getElem_of_mem hy;have hj2:j<u.code.length:=by omega
 obtain⟨p1,p2⟩:=(I7 (yg u) 0 _ (G5 u) h3).1 j (zE _) hj2;rw[zk hj]at p1 p2;rw[h1,yV];omega
theorem NT{u:zg}(hw:zC u=true)(k:Nat):(xM u k).code≠ []:=by
 intro e;have hp:=(z8 (zH hw)).1;have h1:=(ZZ (u:=u) k).1;rw[e]at h1;have h2:(yg u).flatMap (xC u (zf u) (zW u k).out k)= []:=(List.append_eq_nil_iff.1 h1.symm).2;have h3:=G5 u
 cases hg:yg u with
 |nil=>
  rw[hg]at h3;have:u.code.length<=0:=h3
  omega
 |cons g gs=>
  have h4:=VD hw (show g∈yg u by rw[hg];simp) (zf u) (zW u k).out k;rw[hg,List.flatMap_cons]at h2;have:=List.length_eq_zero_iff.2 (List.append_eq_nil_iff.1 h2).1;omega
open Go.RowKit Go.Shelf
theorem V_{l:List Int}{a b:Int}(h:∀x∈l,a<=x/\x<=b)(h0:a<=0/\0<=b)(i:Nat):a<=l.getD i 0/\l.getD i 0<=b:=by
 by_cases hi:i<l.length
 ·rw[zk hi]
  exact h _ (yy hi)
 ·rw[jI,YJ (by omega)]
  exact h0
theorem LC{u:zg}(hw:zC u=true){k:Nat}(hk:k<=200)(hcl:(zW u k).cells<=200):∀x∈(zW u k).out,-203<=x/\x<=200:=by
 intro x hx;obtain⟨t,ht,rfl⟩:=List.getElem_of_mem hx;have hI:=vk hw (k:Int);have ha:=zL hw;have h1:=hI.one t (by rw[<-hI.len];exact ht);rw[zk ht]at h1;rcases h1 with ⟨_,h⟩|⟨_,h|⟨h,h2⟩|⟨_,d,h2,h3,h4⟩⟩
 ·omega
 ·omega
 ·omega
 ·omega
theorem Nc{u:zg}(hw:zC u=true){k:Nat}(hk:k<=200)(hcl:(zW u k).cells<=200)(s:Int): -203<=zh (zW u k).out s/\zh (zW u k).out s<=200:=
 V_ (LC hw hk hcl) (by omega) _
theorem As(h:List Int){k:Nat}(hk:k<=200)(l:List Int):∀x∈yv h k l,(0:Int)<=x/\x<=200:=fun x hx=>by
 have:=JE hx;omega
theorem Pt(x:zm)(rd wr:Int->Int):(zY x rd wr).b=x.b\/(zY x rd wr).b=rd x.b:=by
 have hs:qg x.b rd=x.b\/qg x.b rd=rd x.b:=by
  unfold qg;split
  ·exact .inr rfl
  ·exact .inl rfl
 unfold zY;split
 ·exact .inl rfl
 ·split
  ·exact hs
  ·split
   ·exact hs
   ·exact .inl rfl
theorem RO(t:List Int)(x:zm):(yK t x).b=x.b\/∃i,(yK t x).b=t.getD i 0:=by
 unfold yK;split
 ·exact .inl rfl
 ·split
  ·exact .inr ⟨_,rfl⟩
  ·exact .inl rfl
theorem KJ{live:List (List Int)}{u:zg}{h:List Int}{k:Nat}{g:xd}{x:zm}(hx:x∈xC u live h k g):
  (∃a s,x=qm a (-2-zh h s))\/(∃a,x=xx a (q_ h (yv h k (zU u live g)) g.wr)) \/
  ∃j,j<g.til+1-g.frm/\x=zY (u.code.getD (g.frm+j) zw) (Yx h (zx h g) (yv h k (yj u live g))) (q_ h (yv h k (zU u live g))):=by
 unfold xC at hx;rcases qr.1 hx with hx|hx
 ·obtain⟨s,_,rfl⟩:=xI.1 hx
  exact .inl ⟨_,s,rfl⟩
 ·rcases qr.1 hx with hx|hx
  ·obtain⟨j,hj,rfl⟩:=xI.1 hx
   exact .inr (.inr ⟨j,yR.1 hj,rfl⟩)
  ·split at hx
   ·rw[qf.1 hx]
    exact .inr (.inl ⟨_,rfl⟩)
   ·cases hx
theorem MC{u:zg}(hw:zC u=true){k:Nat}(hk:k<=200)(hcl:(zW u k).cells<=200)(hc6:(xM u k).code.length<=600)(hb:∀y∈u.code,-9223372036854775808<=y.b/\y.b<=9223372036854775807):
  ∀y∈(VP u k (xM u k)).code,-9223372036854775808<=y.b/\y.b<=9223372036854775807:=by
 intro y hy;have hy:y∈(xM u k).code.map (yK (xM u k).ats):=hy;obtain⟨x,hx,rfl⟩:=xI.1 hy;have ha:=zL hw;have hats:∀i,(0:Int)<=(xM u k).ats.getD i 0/\(xM u k).ats.getD i 0<=600:=V_ (fun z hz=>⟨(VZ k z hz).1,by have:=(VZ k z hz).2;omega⟩) (by omega);have hh:=Nc hw hk hcl
 have hrd:∀(loads l:List Int) s,(-203:Int)<=Yx (zW u k).out loads (yv (zW u k).out k l) s/\Yx (zW u k).out loads (yv (zW u k).out k l) s<=200:=fun loads l s=>by
  unfold Yx;split
  ·exact hh s
  ·have:=V_ (As (zW u k).out hk l) (by omega) (loads.idxOf s)
   unfold qX;omega
 have hwr:∀(l:List Int) s,(-203:Int)<=q_ (zW u k).out (yv (zW u k).out k l) s/\q_ (zW u k).out (yv (zW u k).out k l) s<=200:=fun l s=>by
  unfold q_;split
  ·exact hh s
  ·have:=V_ (As (zW u k).out hk l) (by omega) 0
   omega
 have hxb: -9223372036854775808<=x.b/\x.b<=9223372036854775807:=by
  rw[(ZZ k).1,qr]at hx;rcases hx with hx|hx
  ·unfold yp at hx
   obtain⟨s,hs,rfl⟩:=xI.1 hx;have:=yR.1 (jn.1 hs).1;show _<=(s:Int)/\(s:Int)<=_;omega
  ·obtain⟨g,hg,hx⟩:=List.mem_flatMap.1 hx
   have hok:=jq hw hg;rcases KJ hx with ⟨a,s,rfl⟩|⟨a,rfl⟩|⟨j,hj,rfl⟩
   ·have:=hh s
    show _<= -2-zh (zW u k).out s/\ -2-zh (zW u k).out s<=_;omega
   ·have:=hwr (zU u (zf u) g) g.wr
    show _<=q_ _ _ _/\q_ _ _ _<=_;omega
   ·have hin:g.frm+j<u.code.length:=by have:=hok.lt;have:=hok.le;omega
    rcases Pt (u.code.getD (g.frm+j) zw) (Yx (zW u k).out (zx (zW u k).out g) (yv (zW u k).out k (yj u (zf u) g))) (q_ (zW u k).out (yv (zW u k).out k (zU u (zf u) g)))with e|e
    ·rw[e,zk hin]
     exact hb _ (yy hin)
    ·rw[e]
     have:=hrd (zx (zW u k).out g) (yj u (zf u) g) (u.code.getD (g.frm+j) zw).b;omega
 rcases RO (xM u k).ats x with e|⟨i,e⟩
 ·rw[e];exact hxb
 ·rw[e]
  have:=hats i;omega
attribute [local go_sem] Oper.semAt_some
attribute [local irreducible] wpStill
theorem je.kp{w W:World}{base ba:Nat}{v:Value}{L:List (List Int)}(h:je w base v L)(hg:ba<base)(hk:XO w ba W):je W base v L:=by
 obtain⟨xs,h1,h2,h3⟩:=h;refine⟨xs,yA h1 (fun b e hl=>hk.block b hl (fun e2=> ?_)),h2,fun i a b=>yA (h3 i a b) (fun c e hl=>hk.block c hl (fun e2=> ?_))⟩
 ·have:=zy h1 b e;omega
 ·have:=zy (h3 i a b) c e;omega
theorem Le{w5 w1:World}{ba:Nat}{va:Option Addr}{L:List (List Int)}(h:QC w5 va L)(hb:Below w5.heap.size w5 w1)(hba:w5.heap.size<=ba):∀W,XO w1 ba W->QC W va L:=
 fun _ hk=>h.below (hb.trans (hk.below hb.size hba))
theorem MS{w1:World}{base ba n c:Nat}{va:Option Addr}{L:List (List Int)}(h:je w1 base (.slice va n c) L)(hg:ba<base):∀W,XO w1 ba W->QC W va L:=by
 intro W hk;obtain⟨a,m,e,hr⟩:=(h.kp hg hk).rd;injection e with e1;rw[e1];exact hr
theorem zu.rdR{w:World}{base n c:Nat}{a:Option Addr}{l:List Int}(h:zu w base (.slice a n c) l):yC w a l:=(qy h).2.2.1
theorem EZ{w w20 w1:World}{r:qu}(mu:jo w r.u r.ca r.cc r.ga r.gc)(hw:Below w.heap.size w w1)(hle:w.heap.size<=r.ba)(hh:yC w20 r.ha r.h)(h20:Below w20.heap.size w20 w1)(hle2:w20.heap.size<=r.ba)
  (ml:∀W,XO w1 r.ba W->QC W r.va (zf r.u)):Kq w1 r:=
 ⟨fun _ hk=>mu.below (hw.trans (hk.below hw.size hle)),ml,fun _ hk=>hh.below (h20.trans (hk.below h20.size hle2))⟩
theorem Kz{P:Program}(w:World)(a:Addr)(m:Mode)(f:Fn)(ts cs:Array Value):(store a (.func f ts cs) m).run P w=stored P w a (.func f ts cs) m:=run_store P w a _ m rfl
abbrev S7(r:qu):Obj:=.cells #[.string r.u.cls,.string r.u.name,.int .i64 r.u.args,.int .i64 r.u.slots,.int .i64 r.u.frame,.slice r.ca r.u.code.length r.cc,.slice r.ga r.u.guards.length r.gc,.slice r.va (zf r.u).length r.vc,
 .slice r.ha r.h.length r.hc,.int .i64 r.k,.string ⟨#[]⟩,.string ⟨#[]⟩,.int .i64 0,.int .i64 0,.int .i64 0,.slice none 0 0,.slice none 0 0,.slice (some ⟨r.ba,0,none⟩) r.u.code.length r.u.code.length] 100
structure SR(w:World)(r:qu)(w1 wy:World):Prop where
 hi:Ge w r.u r.ca r.cc r.ga r.gc w1
 hm:Kq w1 r
 hz:BI w1 r.ba (List.replicate r.u.code.length 0)
 lt:w.heap.size+3<=r.ba/\r.ba<r.bw
 sz:w1.heap.size=r.bw
 hx:wy.heap[r.bw]?=some (S7 r)
 hb:Below w1.heap.size w1 wy
theorem N0{w:World}{g:Nat}{x0 x1 x2 x3 x4 x5 x6 x7 x8 x9 x10 x11 x12 x13 x14 x15 x16 x17:Value}{T:TypeId}(h:w.heap[g]?=some (.cells #[x0,x1,x2,x3,x4,x5,x6,x7,x8,x9,x10,x11,x12,x13,x14,x15,x16,x17] T (0,0)))(y0 y1 y2 y3 y4 y5 y6:Value):
  (((((((w.setCell ⟨g,10,none⟩ y0).setCell ⟨g,11,none⟩ y1).setCell ⟨g,12,none⟩ y2).setCell ⟨g,13,none⟩ y3).setCell ⟨g,14,none⟩ y4).setCell ⟨g,15,none⟩ y5).setCell ⟨g,16,none⟩ y6).heap[g]?=some (.cells #[x0,x1,x2,x3,x4,x5,x6,x7,x8,x9,y0,y1,y2,y3,y4,y5,y6,x17] T (0,0)):=by
 have h0:(w.setCell ⟨g,10,none⟩ y0).heap[g]?=some (.cells #[x0,x1,x2,x3,x4,x5,x6,x7,x8,x9,y0,x11,x12,x13,x14,x15,x16,x17] T (0,0)):=yk _ _ 10 _ _ _ h;clear h;generalize w.setCell ⟨g,10,none⟩ y0=w at h0 ⊢;have h1:(w.setCell ⟨g,11,none⟩ y1).heap[g]?=some (.cells #[x0,x1,x2,x3,x4,x5,x6,x7,x8,x9,y0,y1,x12,x13,x14,x15,x16,x17] T (0,0)):=yk _ _ 11 _ _ _ h0;clear h0;generalize w.setCell ⟨g,11,none⟩ y1=w at h1 ⊢;have h2:(w.setCell ⟨g,12,none⟩ y2).heap[g]?=some (.cells #[x0,x1,x2,x3,x4,x5,x6,x7,x8,x9,y0,y1,y2,x13,x14,x15,x16,x17] T (0,0)):=yk _ _ 12 _ _ _ h1;clear h1;generalize w.setCell ⟨g,12,none⟩ y2=w at h2 ⊢;have h3:(w.setCell ⟨g,13,none⟩ y3).heap[g]?=some (.cells #[x0,x1,x2,x3,x4,x5,x6,x7,x8,x9,y0,y1,y2,y3,x14,x15,x16,x17] T (0,0)):=yk _ _ 13 _ _ _ h2;clear h2;generalize w.setCell ⟨g,13,none⟩ y3=w at h3 ⊢;have h4:(w.setCell ⟨g,14,none⟩ y4).heap[g]?=some (.cells #[x0,x1,x2,x3,x4,x5,x6,x7,x8,x9,y0,y1,y2,y3,y4,x15,x16,x17] T (0,0)):=yk _ _ 14 _ _ _ h3;clear h3;generalize w.setCell ⟨g,14,none⟩ y4=w at h4 ⊢;have h5:(w.setCell ⟨g,15,none⟩ y5).heap[g]?=some (.cells #[x0,x1,x2,x3,x4,x5,x6,x7,x8,x9,y0,y1,y2,y3,y4,y5,x16,x17] T (0,0)):=yk _ _ 15 _ _ _ h4;clear h4;generalize w.setCell ⟨g,15,none⟩ y5=w at h5 ⊢;exact yk _ _ 16 _ _ _ h5
theorem UF{w:World}{g k:Nat}(hn:k≠g)(y0 y1 y2 y3 y4 y5 y6:Value):
  (((((((w.setCell ⟨g,10,none⟩ y0).setCell ⟨g,11,none⟩ y1).setCell ⟨g,12,none⟩ y2).setCell ⟨g,13,none⟩ y3).setCell ⟨g,14,none⟩ y4).setCell ⟨g,15,none⟩ y5).setCell ⟨g,16,none⟩ y6).heap[k]?=w.heap[k]?:=
 (yF _ _ _ _ hn).trans ((yF _ _ _ _ hn).trans ((yF _ _ _ _ hn).trans ((yF _ _ _ _ hn).trans ((yF _ _ _ _ hn).trans ((yF _ _ _ _ hn).trans (yF _ _ _ _ hn))))))
theorem SR.wri{w:World}{r:qu}{w1 wy:World}(h:SR w r w1 wy):Yz w1 r ⟨[],List.replicate r.u.code.length 0⟩ (.slice none 0 0) (.slice none 0 0)
  (((((((wy.setCell ⟨r.bw,10,none⟩ (.string r.u.cls)).setCell ⟨r.bw,11,none⟩ (.string r.u.name)).setCell ⟨r.bw,12,none⟩ (.int .i64 r.u.args)).setCell ⟨r.bw,13,none⟩ (.int .i64 r.k)).setCell ⟨r.bw,14,none⟩ (.int .i64 r.cells)).setCell ⟨r.bw,15,none⟩ (.slice none 0 0)).setCell ⟨r.bw,16,none⟩ (.slice none 0 0)):=by
 have hs:=h.sz;have hl:=h.lt;have hk:XO w1 r.ba wy:=(XO.refl w1 r.ba).step h.hb;have hc:∀ {W:World} (o:Nat) (v:Value),XO w1 r.ba W->XO w1 r.ba (W.setCell ⟨r.bw,o,none⟩ v):=fun o v hk=>hk.setCell (p:=⟨r.bw,o,none⟩) (.inl (by show _<=r.bw;omega)) v
 refine⟨hc _ _ (hc _ _ (hc _ _ (hc _ _ (hc _ _ (hc _ _ (hc _ _ hk)))))),N0 h.hx _ _ _ _ _ _ _,jd _ _ _ _,?_,hl.2,hs⟩;exact(h.hz.below h.hb).keep (UF (by omega) _ _ _ _ _ _ _)
theorem Ge.kp{w:World}{u:zg}{ca:Option Addr}{cc:Nat}{ga:Option Addr}{gc ba:Nat}{w1 W:World}(h:Ge w u ca cc ga gc w1)(hk:XO w1 ba W)(hl:w.heap.size+3<=ba):Ge w u ca cc ga gc W:=
 ⟨h.hb.trans (hk.below h.hb.size (by omega)),(hk.block _ (ze h.hu) (by omega)).trans h.hu,(hk.block _ (ze h.hv) (by omega)).trans h.hv,(hk.block _ (ze h.hh) (by omega)).trans h.hh⟩
theorem yC.ownW{w w':World}{a:Option Addr}{l:List Int}{row:Option Nat}(h:yC w a l)(hg:w.grownBy w' row)(hr:∀r,row=some r->∃o:Obj,w.heap[r]?=some o/\o.isCells=false):yC w' a l:=by
 intro i hi;obtain⟨b,off,ha,hlt,hc⟩:=h i hi;refine⟨b,off,ha,xh hlt hg.size,(ZO (hg.block b hlt (fun e=> ?_))).trans hc⟩;obtain⟨o,ho,hn⟩:=hr b e.symm;unfold World.cell? at hc;rw[ho]at hc;cases o<;>simp_all [Obj.isCells]
def IB(u:zg)(k:Nat)(w:World)(e:Ending)(w':World):Prop:=
 Below w.heap.size w w'/\∃(xa:Option Addr) (xc:Nat) (ya:Option Addr) (yc:Nat) (ha:Option Addr) (hc:Nat) (ta:Option Addr) (tc:Nat),e= .returned (.tuple #[vU (VP u k (xM u k)) xa xc ya yc,.agg #[.slice ha (zW u k).out.length hc,.slice ta (xM u k).ats.length tc],.int .i64 0]) /\
  jo w' (VP u k (xM u k)) xa xc ya yc/\yC w' ha (zW u k).out/\yC w' ta (xM u k).ats
theorem A5{tmps:Array Value}{w:World}{g1 g2:Nat}{c1 c2:Array Value}{x:Value}(h4:tmps.getD 4 undef= .pointer (some ⟨g1,0,none⟩))(h5:tmps.getD 5 undef= .pointer (some ⟨g2,0,none⟩))(h6:tmps.getD 6 undef=x)
  (H1:w.heap[g1]?=some (.cells c1 25 (0,0))) (s1:c1.size=7) (H2:w.heap[g2]?=some (.cells c2 30 (0,0))) (s2:c2.size=2):(results Tryz.f13 tmps).run prog w= .ok (.tuple #[.agg c1,.agg c2,x]) w:=by
 have e1:=run_loadVar_row (P:=prog) w g1 25 25 c1 (0,0) _ H1 Tryz.underlying25 rfl (by rw[FG,s1]);have e2:=run_loadVar_row (P:=prog) w g2 30 30 c2 (0,0) _ H2 Tryz.underlying30 rfl (by rw[FF,s2]);have p4:tmps[4]?.getD undef= .pointer (some ⟨g1,0,none⟩):=by simpa using h4
 have p5:tmps[5]?.getD undef= .pointer (some ⟨g2,0,none⟩):=by simpa using h5
 have p6:tmps[6]?.getD undef=x:=by simpa using h6
 simp[results,Tryz.results13,p4,p5,p6,asAddr,e1,e2]
theorem FW{w w1 W0 w5:World}{u:zg}{k:Nat}{ca cc ga gc}{va:Option Addr}{vc:Nat}{H:KQ}{X:xN}{bh oh hc ba bw g cap yc D:Nat}{ya:Option Addr}{tmps:Array Value}
  (h4:tmps.getD 4 undef= .pointer (some ⟨w.heap.size+1,0,none⟩)) (h5:tmps.getD 5 undef= .pointer (some ⟨w.heap.size+1+1,0,none⟩)) (h6:tmps.getD 6 undef= .int .i64 0)
  (hR:Ge w u ca cc ga gc w5) (hF:VK w1 W0 ⟨u,ca,cc,ga,gc,va,vc,H.out,some ⟨bh,oh,none⟩,hc,k,H.cells,ba,bw⟩ X.ats g X.code.length cap (X.code.map (yK X.ats)) (.slice ya u.guards.length yc) w5)
  (hO:y9 Qc 90 w5 (bw+1) (.slice ya u.guards.length yc) (u.guards.map (x_ u X.ats X.code.length))) (hD:w5.heap[D]?=some (.deferred (some []))) (hDn:w.heap.size+1+1<D) (hba:w.heap.size+3<=ba) (hbh:w.heap.size+3<=bh)
  (hh:yC w5 (some ⟨bh,oh,none⟩) H.out) (hwl:xM u k=X) (hHL:zW u k=H) (hl:X.ats.length=u.code.length) (hcp:X.code.length<=cap) (hyc:u.guards.length<=yc):
  bodyPostM Fence.wide 20 prog Tryz.f13 (IB u k w) .ret ⟨tmps,[QI D]⟩ ((((((((((w5.setCell ⟨w.heap.size+1,0,none⟩ (.string u.cls)).setCell ⟨w.heap.size+1,1,none⟩ (.string u.name)).setCell ⟨w.heap.size+1,2,none⟩ (.int .i64 u.args)).setCell ⟨w.heap.size+1,3,none⟩ (.int .i64 k)).setCell ⟨w.heap.size+1,4,none⟩ (.int .i64 H.cells)).setCell ⟨w.heap.size+1,5,none⟩ (.slice (some ⟨g,0,none⟩) X.code.length cap)).setCell ⟨w.heap.size+1,6,none⟩ (.slice ya u.guards.length yc)).setCell ⟨w.heap.size+1+1,0,none⟩ (.slice (some ⟨bh,oh,none⟩) H.out.length hc)).setCell ⟨w.heap.size+1+1,1,none⟩ (.slice (some ⟨ba,0,none⟩) u.code.length u.code.length)).drew):=by
 obtain⟨WF,hWF⟩:∃WF,WF=((((((((((w5.setCell ⟨w.heap.size+1,0,none⟩ (.string u.cls)).setCell ⟨w.heap.size+1,1,none⟩ (.string u.name)).setCell ⟨w.heap.size+1,2,none⟩ (.int .i64 u.args)).setCell ⟨w.heap.size+1,3,none⟩ (.int .i64 k)).setCell ⟨w.heap.size+1,4,none⟩ (.int .i64 H.cells)).setCell ⟨w.heap.size+1,5,none⟩ (.slice (some ⟨g,0,none⟩) X.code.length cap)).setCell ⟨w.heap.size+1,6,none⟩ (.slice ya u.guards.length yc)).setCell ⟨w.heap.size+1+1,0,none⟩ (.slice (some ⟨bh,oh,none⟩) H.out.length hc)).setCell ⟨w.heap.size+1+1,1,none⟩ (.slice (some ⟨ba,0,none⟩) u.code.length u.code.length)).drew):=⟨_,rfl⟩
 obtain⟨b1,x1,x2,x3⟩:=Ox hR _ _ _ _ _ _ _ _ _ WF hWF;rw[<-hWF];clear hWF
 have hgD:∀(b:Nat) (c:Array Value) (T:TypeId) (m:Nat×Nat),w5.heap[b]?=some (.cells c T m)->b≠D:=fun b c T m e e2=>by
  rw[e2,hD]at e;cases e
 have hlt:=hF.lt;dsimp only at hlt;have hke:∀b,b≠w.heap.size+1->b≠w.heap.size+1+1->b≠D->(WF.putObj D (.deferred none)).heap[b]?=w5.heap[b]?:=fun b h1 h2 h3=>(World.putObj_heap_other h3).trans (x3 b h1 h2)
 have hsz:w5.heap.size<=(WF.putObj D (.deferred none)).heap.size:=by
  have h1:=(x3 (w5.heap.size-1))
  by_cases e:w5.heap.size-1<WF.heap.size
  ·simp[World.putObj];omega
  ·have hl1:=ze hR.hh
   have hDl:D<w5.heap.size:=(qM.1 hD).1;have h2:=h1 (by omega) (by omega);rw[Array.getElem?_eq_none (by omega),Array.getElem?_eq_getElem (by omega)]at h2;cases h2
 refine Xh ((x3 D (by omega) (by omega)).trans hD) ?_;refine⟨.tuple #[.agg #[.string u.cls,.string u.name,.int .i64 u.args,.int .i64 k,.int .i64 H.cells,.slice (some ⟨g,0,none⟩) X.code.length cap,.slice ya u.guards.length yc],.agg #[.slice (some ⟨bh,oh,none⟩) H.out.length hc,.slice (some ⟨ba,0,none⟩) u.code.length u.code.length],.int .i64 0],?_,?_⟩
 ·exact A5 (g1:=w.heap.size+1) (g2:=w.heap.size+1+1) h4 h5 h6 ((World.putObj_heap_other (by omega)).trans x1) rfl ((World.putObj_heap_other (by omega)).trans x2) rfl
 ·refine⟨b1.trans ⟨rfl,rfl,rfl,by simp[World.putObj],fun q hq=>World.putObj_heap_other (by omega)⟩,some ⟨g,0,none⟩,cap,ya,yc,some ⟨bh,oh,none⟩,hc,some ⟨ba,0,none⟩,u.code.length,?_,⟨?_,?_,?_,?_⟩,?_,?_⟩
  ·rw[hwl,hHL,hl]
   simp only[VP,hHL,vU,ym]
  ·rw[hwl]
   obtain⟨cur,hc1,_⟩:=hF.hc;exact(hF.hc.keep (hke g (by omega) (by omega) (hgD _ _ _ _ hc1))).rd
  ·rw[hwl]
   have hge:=zy hO
   have ho:=yA hO (fun b hb hl=>hke b (by have:=hge b hb;omega) (by have:=hge b hb;omega) (by
    rcases hO.2 with ⟨e1,_⟩|⟨q,cc9,cur,e1,_,hh9,_⟩
    ·rw[e1]at hb;cases hb
    ·rw[e1]at hb
     cases hb
     exact hgD _ _ _ _ hh9))
   obtain⟨a9,c9,e9,hr9,_⟩:=y9.rdB ho;injection e9 with e91;rw[e91];exact V3.1 hr9
  ·rw[hwl]
   show(X.code.map _).length<=cap;rw[ym];exact hcp
  ·show(u.guards.map _).length<=yc
   rw[ym];exact hyc
  ·rw[hHL]
   intro i hi;obtain⟨b9,o9,e9,hl9,hc9⟩:=hh i hi;cases e9
   have hne:bh≠D:=fun e=>by
    rw[e]at hc9;unfold World.cell? at hc9;rw[show(⟨D,oh+i,none⟩:Addr).block=D from rfl,hD]at hc9;simp at hc9
   exact⟨bh,oh,rfl,by omega,(ZO (hke bh (by omega) (by omega) hne)).trans hc9⟩
  ·rw[hwl]
   obtain⟨cur,hc1,_⟩:=hF.ha;exact(hF.ha.keep (hke ba (by show ba≠_;omega) (by show ba≠_;omega) (hgD _ _ _ _ hc1))).rd
structure Td(w1:World)(r:qu)(bE:Nat)(cE:Array Value)(pre:List YK)(W:World):Prop where
 ex:∃vc,Yz w1 r (Xt r.u r.k (pre.map YK.g)) vc (.slice none 0 0) W
 h1:W.heap[bE]?=some (.cells cE 102 (0,0))
theorem FU(u:zg)(k:Nat)(ca cc ga gc)(w:World)(hm:jo w u ca cc ga gc)(hw:zC u=true)(hk1:1<=k)(hk2:k<=200)(hks:(k:Int)<u.slots)(hkl:yd u<=k)(hc6:(xM u k).code.length<=600)(hcl:(zW u k).cells<=200):
  Calls prog 13 #[vU u ca cc ga gc,.int .i64 k] w (IB u k w):=by
 have hargs:=zL hw;have hn6:=qA hw;have hlg:u.guards.length<=40:=(z8 (zH hw)).2.2.1;have HW:=za (fun w' (hb:Below w.heap.size w w')=>qv u ca cc ga gc w' (hm.below hb) (by omega) (by omega));have HLE:=za (fun w' (hb:Below w.heap.size w w')=>Qu u ca cc ga gc w' (hm.below hb) hn6);have HHO:=za (fun w' (hb:Below w.heap.size w w')=>Er u k hw hkl hk2 ca cc ga gc w' (hm.below hb));have HFO:=za (fun w' (hb:Below w.heap.size w w')=>Xn u ca cc ga gc w' (hm.below hb) hw);have HGR:=za (fun w' (hb:Below w.heap.size w w')=>QY u ca cc ga gc w' (hm.below hb) (by omega));have HI:=za (Y_ w u ca cc ga gc);have HWI:=za (fun w=>xY k 1 200 w);have HM:=za hm;have HWR:=za hw;have HC6:=za hc6;have HCL:=za hcl;have HKL:=za hkl;have hki:yr (k:Int) 1 200=true:=by unfold yr;simp;omega
 rw[hw]at HW;rw[hki]at HWI;have HOL:Hid (((zW u k).out.length:Int)=u.slots):=za (by have:=(vk hw (k:Int)).len;omega);obtain⟨ag,hag⟩:∃n:Nat,u.args=(n:Int):=⟨u.args.toNat,by omega⟩
 have HAG:=za hag;have hag2:(ag:Int)<=u.slots:=by omega
 clear hm hki hc6 hcl hag;generalize hHL:zW u k=H at *;obtain⟨wa,hwa⟩:∃wa,wa=((w.alloc (oU u ca cc ga gc)).alloc oZ).alloc (oH (.slice none 0 0) (.slice none 0 0)):=⟨_,rfl⟩
 rw[<-hwa]at HI;have hks2:¬u.slots<=(k:Int):=by omega
 obtain⟨L,hL⟩:∃L,L=yd u:=⟨_,rfl⟩
 rw[<-hL]at HLE hkl;clear hL;have hkl2:¬(k:Int)<(L:Int):=by omega
 refine(qC (n:=20)).1 (ZJ func13 rfl ?_);simp only[ntmps13,List.size_toArray,xv,List.length_nil,Nat.reduceAdd,Nat.reduceSub,Array.replicate_succ,JM,List.push_toArray,List.append_toArray,Zd,Y6];refine xy.seq (xy.of (wpIn_wide.2 ?_));go_wp2;rw[<-hwa];clear hwa;obtain⟨k0,k1,k2,k3,k4,k5,k6⟩:=zr HI.out.hu;refine xy.seq (xy.of (wpIn_wide.2 ?_))
 go_wp2_with (first
  |(go_at_call 42;(with_reducible refine(HW.out _ HI.out.hb).mono ?_);rintro e w2 ⟨rfl,hb⟩;have HI2:=za (HI.out.below hb);clear hb)
  |(go_at_call 43;(with_reducible refine(HWI.out _).mono ?_);rintro e w3 ⟨rfl,rfl⟩))
 clear k0 k1 k2 k3 k4 k5 k6;obtain⟨k0,k1,k2,k3,k4,k5,k6⟩:=zr HI2.out.hu;refine xy.seq (xy.of (wpIn_wide.2 ?_));go_wp2_with fail;refine xy.seq (xy.of (wpIn_wide.2 ?_))
 go_wp2_with (first
  |(go_at_call 46;(with_reducible refine(HLE.out _ HI2.out.hb).mono ?_);rintro e w4 ⟨rfl,hb⟩;have HI4:=za (HI2.out.below hb);clear hb))
 clear k0 k1 k2 k3 k4 k5 k6;obtain⟨k0,k1,k2,k3,k4,k5,k6⟩:=zr HI4.out.hu;refine xy.seq (xy.of (wpIn_wide.2 ?_))
 go_wp2_with (first
  |(go_at_call 47;(with_reducible refine(HHO.out _ HI4.out.hb).mono ?_);rintro e w5 ⟨hb,vh,rfl,hoh⟩;have HI5:=za (HI4.out.below hb);obtain⟨ha,hc,rfl,_⟩:=hoh.rd;obtain⟨bh,oh,rfl,_,_⟩:=(qy hoh).2.2.1 0 (by have:=HOL.out;omega);have HO5:=za hoh;have HBH:Hid (w.heap.size+3<=bh):=za (by have h1:=zy hoh bh rfl;have h2:=ze HI4.out.hh;omega);clear hb hoh))
 clear k0 k1 k2 k3 k4 k5 k6;obtain⟨k0,k1,k2,k3,k4,k5,k6⟩:=zr HI5.out.hu;refine xy.seq (xy.of (wpIn_wide.2 ?_));generalize hKK:xy prog 13 20 _ _=KK
 have HS:Hid (∀W,Below w5.heap.size w5 W->W.cell? ⟨w.heap.size,0,none⟩=some (.string u.cls)/\W.cell? ⟨w.heap.size,1,none⟩=some (.string u.name)/\W.cell? ⟨w.heap.size,2,none⟩=some (.int .i64 u.args)/\W.cell? ⟨w.heap.size,3,none⟩=some (.int .i64 u.slots)/\W.cell? ⟨w.heap.size,4,none⟩=some (.int .i64 u.frame)/\W.cell? ⟨w.heap.size,5,none⟩=some (.slice ca u.code.length cc)/\W.cell? ⟨w.heap.size,6,none⟩=some (.slice ga u.guards.length gc)):=
  za (fun W hb=>⟨zK hb k0,zK hb k1,zK hb k2,zK hb k3,zK hb k4,zK hb k5,zK hb k6⟩)
 have hcc:=HM.out.lc;have hmk:=fun w=>run_make_row' (P:=prog) 28 3 (.int .i64 0) 8 Tryz.underlying28 GV rfl .i64 .i64 u.code.length (by omega) (by omega) w
 have HMD:=za (fun w=>Gc w u.code.length);obtain⟨M,hM⟩:∃M,M=madeCells #[.int .i64 0] u.code.length:=⟨_,rfl⟩
 rw[<-hM]at hmk HMD;clear hM hcc;go_cut [13]from 68 to 153 (fun s13 wy=>∃(va:Option Addr) (vc ba bw:Nat) (w1:World),s13= .pointer (some ⟨bw,0,none⟩)/\Hid (SR w ⟨u,ca,cc,ga,gc,va,vc,H.out,some ⟨bh,oh,none⟩,hc,k,H.cells,ba,bw⟩ w1 wy))
 case first=>
  go_region_held3 (fun W=>W.cell? ⟨w.heap.size,0,none⟩=some (.string u.cls)/\W.cell? ⟨w.heap.size,1,none⟩=some (.string u.name)/\W.cell? ⟨w.heap.size,2,none⟩=some (.int .i64 u.args)/\W.cell? ⟨w.heap.size,3,none⟩=some (.int .i64 u.slots)/\W.cell? ⟨w.heap.size,4,none⟩=some (.int .i64 u.frame)/\W.cell? ⟨w.heap.size,5,none⟩=some (.slice ca u.code.length cc)/\W.cell? ⟨w.heap.size,6,none⟩=some (.slice ga u.guards.length gc))
   (first|exact HS.out _ (zt _)|exact HS.out _ hb6|exact HS.out _ ((zd _ _).step (zt _))|exact HS.out _ ((zt _).step (zd _ _))|exact HS.out _ (hb6.step (zd _ _))|exact HS.out _ ((hb6.step (zd _ _)).step (zd _ _)))
   ((
    go_at_call 48;(first
    |((with_reducible refine(HFO.out _ (HI5.out.hb.step (zt _))).mono ?_);rintro e w6 ⟨hb,v6,rfl,ho⟩;obtain⟨va,vc,rfl,hrl⟩:=ho.rd;have hb6:=(zt w5).step hb;have HBC:=za hb;have HO6:=za ho;have HL6:=za hrl;clear hb ho hrl)
    |((with_reducible refine(HFO.out _ (HI5.out.hb.step ((zd _ _).step (zt _)))).mono ?_);rintro e w6 ⟨hb,v6,rfl,ho⟩;obtain⟨va,vc,rfl,hrl⟩:=ho.rd;have hb6:=((zd w5 _).step (zt _)).step hb;have HBC:=za hb;have HO6:=za ho;have HL6:=za hrl;clear hb ho hrl))))
  all_goals
   go_wp2_with fail;go_meet;have hz5:=ze HI5.out.hh;have hz6:=hb6.size
   first
    |exact⟨va,vc,w6.heap.size,w6.heap.size+1,w6.alloc (.cells M 3),by simp,za ⟨(HI5.out.below hb6).below (zd _ _),EZ HM.out ((HI5.out.hb.step hb6).step (zd _ _)) (by show _<=w6.heap.size;omega) HO5.out.rdR (hb6.step (zd _ _)) (by show _<=w6.heap.size;omega) (Le HL6.out (zd _ _) (zI _)),HMD.out w6,⟨by show _<=w6.heap.size;omega,by show w6.heap.size<w6.heap.size+1;omega⟩,by simp,zo _ _ _ (by simp),zd _ _⟩⟩
    |exact⟨va,vc,w5.heap.size,w6.heap.size,w6,rfl,za ⟨HI5.out.below hb6,EZ HM.out (HI5.out.hb.step hb6) (by show _<=w5.heap.size;omega) HO5.out.rdR hb6 (zI _) (MS HO6.out (by simp)),(HMD.out w5).below ((zt _).step HBC.out),⟨by show _<=w5.heap.size;omega,by show w5.heap.size<w6.heap.size;have:=HBC.out.size;simp at this;omega⟩,rfl,zo _ _ _ rfl,zd _ _⟩⟩
 case rest=>
  obtain⟨va,vc,ba,bw,w1,rfl,HR⟩:=hcut;rw[<-hKK];clear hKK KK k0 k1 k2 k3 k4 k5 k6;have hxb:=HR.out.hx;dsimp only at hxb;have g10:=zF 10 hxb;have g11:=zF 11 hxb;have g12:=zF 12 hxb;have g13:=zF 13 hxb;have g14:=zF 14 hxb;have g15:=zF 15 hxb;have g16:=zF 16 hxb;have c10:=j8 hxb (k:=10) rfl;have c11:=j8 hxb (k:=11) rfl;have c12:=j8 hxb (k:=12) rfl;have c13:=j8 hxb (k:=13) rfl;have c14:=j8 hxb (k:=14) rfl;have c15:=j8 hxb (k:=15) rfl;have c16:=j8 hxb (k:=16) rfl;clear hxb;obtain⟨k0,k1,k2,k3,k4,k5,k6⟩:=zr (HR.out.hi.below HR.out.hb).hu;have HW0:=za HR.out.wri;dsimp only at HW0;refine xy.seq (xy.of (wpIn_wide.2 ?_));go_wp2;clear g10 g11 g12 g13 g14 g15 g16 c10 c11 c12 c13 c14 c15 c16 k0 k1 k2 k3 k4 k5 k6;generalize ((((((wc.setCell ⟨bw,10,none⟩ (.string u.cls)).setCell ⟨bw,11,none⟩ (.string u.name)).setCell ⟨bw,12,none⟩ (.int .i64 u.args)).setCell ⟨bw,13,none⟩ (.int .i64 k)).setCell ⟨bw,14,none⟩ (.int .i64 H.cells)).setCell ⟨bw,15,none⟩ (.slice none 0 0)).setCell ⟨bw,16,none⟩ (.slice none 0 0)=W0 at *;have HRK:=za (fun W (hk:XO w1 ba W)=>HR.out.hi.kp hk HR.out.lt.1);have HMW:=za HR.out.hm;have HMH:=za HR.out.hm.mh;have HEM:=za (fun x vx i W (h:Yz w1 ⟨u,ca,cc,ga,gc,va,vc,H.out,some ⟨bh,oh,none⟩,hc,k,H.cells,ba,bw⟩ x vx (.slice none 0 0) W) hl=>Qd w1 ⟨u,ca,cc,ga,gc,va,vc,H.out,some ⟨bh,oh,none⟩,hc,k,H.cells,ba,bw⟩ x vx (.slice none 0 0) i W h hl);dsimp only at HEM HRK HMH;obtain⟨k0,k1,k2,k3,k4,k5,k6⟩:=zr (HRK.out W0 HW0.out.hb).hu;rw[HAG.out]at k2;refine xy.seq (xy.of (wpIn_wide.2 ?_));generalize hKK:xy prog 13 20 _ _=KK;go_upto_region 24 with fail;clear k0 k1 k2 k3 k4 k5 k6;go_loopg [104] ag (fun gh s104 wr=>∃(j:Nat) (vx:Value),j<=ag/\gh=ag-j/\s104= .int .i64 j/\Hid (Yz w1 ⟨u,ca,cc,ga,gc,va,vc,H.out,some ⟨bh,oh,none⟩,hc,k,H.cells,ba,bw⟩ ⟨yp H.out j,List.replicate u.code.length 0⟩ vx (.slice none 0 0) wr));case atStart=>exact⟨0,.slice none 0 0,zE _,rfl,rfl,HW0⟩
  case round=>
   obtain⟨j,vx,hj,rfl,rfl,HWJ⟩:=hrel;by_cases hjn:j<ag
   ·have nj:(j:Int)<(ag:Int):=by omega
    have hjl:j<H.out.length:=by have:=HOL.out;omega
    obtain⟨b',o',e',_,hc0⟩:=(HMH.out _ HWJ.out.hb) j hjl;cases e';have HAL:Hid (yp H.out (j+1)=yp H.out j++if 0<=zh H.out j then [qm (zh H.out j) j]else []):=za (KP _ _);rw[show zh H.out (j:Int)=H.out[j]from Yc hjl]at HAL;have hlen:=JL H.out j;generalize H.out[j]=x at *;by_cases hx:(0:Int)<=x
    ·rw[zj hx]at HAL
     go_wp2_with (first
      |(go_at_call 49;(with_reducible refine(HEM.out _ _ ⟨33,x,j,0⟩ _ HWJ.out (by show(yp H.out j).length<=100000;omega)).mono ?_);rintro e w7 ⟨rfl,vx2,hwi,_,_⟩;have HW7:=za hwi;clear hwi))
     go_roundg (ag-(j+1));case measure=>omega
     case rel=>exact⟨j+1,_,by omega,rfl,by go_num,za (by rw[HAL.out];exact HW7.out)⟩
    ·rw[zi hx,qO]at HAL
     go_wp2_with fail;go_roundg (ag-(j+1));case measure=>omega
     case rel=>exact⟨j+1,_,by omega,rfl,by go_num,za (by rw[HAL.out];exact HWJ.out)⟩
   ·obtain rfl:j=ag:=by omega
    have nj:¬(j:Int)<(j:Int):=by omega
    go_wp2;rw[<-hKK];clear hKK;clear HEM;have hmf:∀(fn:Fn) (first cap:Array Value) (w:World),(Instr.makeFunc fn first cap).run prog w= .ok (.func fn first cap) w:=fun _ _ _ _=>rfl
    have hsf:=@Kz prog;refine xy.seq (xy.of (wpIn_wide.2 ?_));go_wp2;clear hmf hsf;obtain⟨bE,hbE⟩:∃b,b=wr.heap.size:=⟨_,rfl⟩
    obtain⟨wE,hwE⟩:∃wE,wE=wr.alloc (.cells #[.func (.func 50) #[.pointer (some ⟨bw,0,none⟩)] #[]] 102):=⟨_,rfl⟩
    have HWE:Hid (Yz w1 ⟨u,ca,cc,ga,gc,va,vc,H.out,some ⟨bh,oh,none⟩,hc,k,H.cells,ba,bw⟩ ⟨yp H.out j,List.replicate u.code.length 0⟩ vx (.slice none 0 0) wE):=za (by rw[hwE];exact HWJ.out.below (zd _ _));have HXE:Hid (wE.heap[bE]?=some (.cells #[.func (.func 50) #[.pointer (some ⟨bw,0,none⟩)] #[]] 102)):=za (by rw[hwE,hbE];exact zo _ _ _ rfl);have HSE:Hid (wE.heap.size=bE+1/\bw<bE/\ba<bw/\w.heap.size+3<=ba):=za ⟨by rw[hwE,hbE];simp,by rw[hbE];exact ze HWJ.out.hx,HR.out.lt.2,HR.out.lt.1⟩;have HVE:Hid (∀b,vx.ownBlock=some b->bw<b/\b<bE):=za (fun b e=>⟨by have h1:=zy HWJ.out.hc b e;dsimp only at h1;omega,by rw[hbE];exact Xd HWJ.out.hc b e⟩);rw[<-hbE,<-hwE];clear hbE hwE HWJ;obtain⟨k0,k1,k2,k3,k4,k5,k6⟩:=zr (HRK.out wE HWE.out.hb).hu;refine xy.seq (xy.seq (xy.of (wpIn_wide.2 ?_)))
    go_wp2_with (first
     |(go_at_call 51;(with_reducible refine(HGR.out _ (HRK.out wE HWE.out.hb).hb).mono ?_);rintro e w4 ⟨hb,gu,gf,gb,rfl,hga⟩;have HB4:=za hb;have HA4:=za hga;clear hb hga))
    clear k0 k1 k2 k3 k4 k5 k6;have HW4:=za (HWE.out.below HB4.out);have HX4:=za (zb HB4.out HXE.out);have hse:=HSE.out;have hve:=HVE.out;have hs4:=HB4.out.size;have hmi:∀b,b≠ba->b≠bw->(b<bw\/bE<=b)->Rd (fun k=>k=ba) bw 15 w4 b:=fun b h1 h2 h3=>HW4.out.mi h1 h2 (fun e=>by have:=hve b e;omega)
    have hun:Fq (Rd (fun k=>k=ba) bw 15) w4 u ca cc ga gc:=by
     refine⟨HM.out.below ((HRK.out wE HWE.out.hb).hb.step HB4.out),fun h0 b o e=> ?_,fun h0 b o e=> ?_⟩
     ·obtain⟨b',o',e',hl,_⟩:=HM.out.rc 0 h0
      rw[e]at e';cases e';exact hmi b (by omega) (by omega) (by omega)
     ·obtain⟨b',o',e',hl,_⟩:=HM.out.rg 0 h0
      rw[e]at e';cases e';exact hmi b (by omega) (by omega) (by omega)
    have hlu:=HA4.out.lu;have hlf:=HA4.out.lf;have hlb:=HA4.out.lb;have hwf:Sk (fun k=>k=ba) bw 15 w4:=HW4.out.wfc;have hseq:=QX 19 (by omega) (Ve (fun k=>k=ba) bw 15) u (qA HWR.out) ca cc ga gc gu gf gb w4 HA4.out.hu HA4.out.hf HA4.out.hb hun (hmi _ (by omega) (by omega) (by omega)) (hmi _ (by omega) (by omega) (by omega)) (hmi _ (by omega) (by omega) (by omega)) hwf;clear hun hmi hwf;have HRR:Hid (∀x W,Yz w1 ⟨u,ca,cc,ga,gc,va,vc,H.out,some ⟨bh,oh,none⟩,hc,k,H.cells,ba,bw⟩ x vx (.slice none 0 0) W->True):=za (fun _ _ _=>trivial);clear HRR;have HT0:Hid (Xt u k []=⟨yp H.out j,List.replicate u.code.length 0⟩):=za (by show(⟨yp (zW u k).out u.args.toNat,List.replicate u.code.length 0⟩:xN)=_;rw[hHL,HAG.out];rfl);generalize hA:Act.mk _ _=A;have HA:=za hA;rw[<-hA];clear hA
    refine xy.block (QM (α:=YK) rfl (by omega) (gf:=114) (lb:=#[.pointer (some ⟨gu,0,none⟩),.pointer (some ⟨gf,0,none⟩)]) rfl (enters_of func114 (by kernel_rfl) rfl) hseq Yu.trans (GS (Ve _ _ _)) (zG _ _) (fun _=>rfl)
     (fun pre W=>Td w1 ⟨u,ca,cc,ga,gc,va,vc,H.out,some ⟨bh,oh,none⟩,hc,k,H.cells,ba,bw⟩ bE #[.func (.func 50) #[.pointer (some ⟨bw,0,none⟩)] #[]] pre W) (fun ch pre W=>False) ?hI ?h0
     (fun x a' W=>∃bG:Nat,a'=⟨(A.tmps.setIfInBounds 125 (NV x)).setIfInBounds 16 (.pointer (some ⟨bG,0,none⟩)),[]⟩/\W.heap[bG]?=some (.cells #[.int .i64 x.g.frm,.int .i64 x.g.til,.slice x.a x.g.reads.length x.c,.int .i64 x.g.wr] 107)/\yC W x.a x.g.reads/\(∀b off,x.a=some ⟨b,off,none⟩->b<W.heap.size/\b≠ba)) ?hAx ?assign ?body ?done ?panic)
    case hI=>
     rintro pre A B row ⟨⟨vc',h1⟩,h2⟩ hg hr;refine⟨⟨vc',h1.kept hg (fun q e=> ?_)⟩,(qK hg (fun r e=>(hr r e).2) h2 rfl).trans h2⟩;have h3:=(hr q e).1;obtain⟨o,ho,hn⟩:=(hr q e).2;refine⟨by show bw<q;omega,fun e2=> ?_⟩;rcases h1.hc.2 with ⟨e1,_⟩|⟨g',cap,cur,e1,_,hh,_⟩
     ·rw[e1]at e2;cases e2
     ·rw[e1]at e2
      cases e2;rw[hh]at ho;cases ho;cases hn
    case h0=>exact⟨⟨vx,by show Yz w1 ⟨u,ca,cc,ga,gc,va,vc,H.out,some ⟨bh,oh,none⟩,hc,k,H.cells,ba,bw⟩ (Xt u k []) vx _ w4;rw[HT0.out];exact HW4.out⟩,HX4.out⟩
    case hAx=>
     rintro x a' _ A B row ⟨bG,rfl,hx,hr2,hb2⟩ hg hr;exact⟨bG,rfl,(qK hg (fun r e=>(hr r e).2) hx rfl).trans hx,hr2.ownW hg (fun r e=>(hr r e).2),fun b off e=>⟨xh (hb2 b off e).1 hg.size,(hb2 b off e).2⟩⟩
    case assign=>
     intro l pre x W K hI hF hK;have hsW:=ze hI.h1;obtain⟨⟨vc',h1⟩,h2⟩:=hI
     gi_wp2
     refine hK _ _ ((KeepsOthers.alloc _ _).from _) (fun hw=>yI.of_below (Ve _ _ _) hw (zd _ _)) ⟨⟨vc',h1.below (zd _ _)⟩,zb (zd _ _) h2⟩ ⟨_,by rw[<-HA.out];rfl,zo _ _ _ rfl,hF.1.below (zd _ _),fun b off e=>⟨xh (hF.2.2 b off e).1 (zd _ _).size,(hF.2.2 b off e).2.1⟩⟩
    case body=>
     rintro l pre x a' W hI ⟨bG,rfl,hx,hr2,hb2⟩ hpre;obtain⟨⟨vc',h1⟩,h2⟩:=hI;rw[<-HA.out];have hmem:x.g∈yg u:=hpre.subset (by simp)
     have hpre2:pre.map YK.g <+: yg u:=by
      obtain⟨t,ht⟩:=hpre;refine⟨x.g::t,?_⟩;rw[<-ht,q8,Yr];rfl
     have hlen:=AR HWR.out k hpre2;have HC:=za (DS w1 ⟨u,ca,cc,ga,gc,va,vc,H.out,some ⟨bh,oh,none⟩,hc,k,H.cells,ba,bw⟩ (Xt u k (pre.map YK.g)) vc' (.slice none 0 0) x W HMW.out h1 HWR.out hmem hr2 (by show H.out=(zW u k).out;rw[hHL]) HKL.out hk2 (by have:=hlen.1;omega) hlen.2 (fun b off e=>(hb2 b off e).2));have H1:=za h1;have H2:=za h2;have v0:=qZ h2;obtain⟨q0,q1,q2,q3⟩:=zX hx;clear hr2 hb2 h1 h2 hx hpre hpre2 hlen hmem hseq;simp only[List.setIfInBounds_toArray,List.set_cons_zero,List.set_cons_succ]
     gi_wp2_with (first
      |((try refine⟨trivial,?_⟩);gi_at_call 50;(with_reducible refine(CallsIn.inRound l (qC.2 HC.out)).mono ?_);rintro e w5 ⟨rfl,vc2,hwi,hst,hnb⟩;have HI5:=za hwi;have HS5:=za hst;have HN5:=za hnb;clear hwi hst hnb))
     exact⟨(H1.out.others HS5.out).from _,fun hw=>H1.out.keepM HI5.out HS5.out HN5.out,⟨vc2,by rw[q8,List.map_singleton];show Yz _ _ (Xt u k _) _ _ _;rw[IM,hHL];exact HI5.out⟩,H1.out.boxStay HS5.out H2.out (by show bE≠bw;omega) (by show bE≠ba;omega)⟩
    case panic=>
     rintro D ch pre W hD hpre hf hdef;exact hf.elim
    case done=>
     rintro D xs W hD hS ⟨⟨vc',h1⟩,h2⟩ hdef;have hall:Yz w1 ⟨u,ca,cc,ga,gc,va,vc,H.out,some ⟨bh,oh,none⟩,hc,k,H.cells,ba,bw⟩ (xM u k) vc' (.slice none 0 0) W:=by rw[<-AS,<-hS];exact h1
     have HFI:=za (EG w1 ⟨u,ca,cc,ga,gc,va,vc,H.out,some ⟨bh,oh,none⟩,hc,k,H.cells,ba,bw⟩ (xM u k) vc' W HMW.out hall (zH HWR.out) (NT HWR.out k) (ZZ k).2.1 (by have:=HC6.out;omega) (IL HWR.out k) (fun y hy=>⟨(VZ k y hy).1,by have:=(VZ k y hy).2;have:=HC6.out;omega⟩));have HDW:=za hdef;have HWL:Hid ((xM u k).ats.length=u.code.length):=za (ZZ k).2.1;have hc6:(xM u k).code.length<=600:=HC6.out;have hcl:¬(200:Int)<H.cells:=by have:=HCL.out;omega
     clear hall h1 h2 hdef hS hseq;dsimp only;refine xy.seq (n:=20) (xy.of (n:=20) (wpIn_wide.2 ?_))
     go_wp2_with (first
      |(go_at_call 52;(with_reducible refine HFI.out.mono ?_);rintro e w5 ⟨rfl,g,cap,ya,yc,hf,_,hcp,hyc,hog⟩;have HF5:=za hf;have HOG:=za hog;clear hf hog))
     have HR5:=za (HRK.out w5 HF5.out.hb);have HD5:=za (HF5.out.ot.same D _ HDW.out rfl);generalize hwl:xM u k=X at *;have hxb:=HF5.out.hx;dsimp only at hxb;have c10:=j8 hxb (k:=10) rfl;have c11:=j8 hxb (k:=11) rfl;have c12:=j8 hxb (k:=12) rfl;have c13:=j8 hxb (k:=13) rfl;have c14:=j8 hxb (k:=14) rfl;have c15:=j8 hxb (k:=15) rfl;have c16:=j8 hxb (k:=16) rfl;have c17:=j8 hxb (k:=17) rfl;clear hxb;have n600:¬(600:Int)<(X.code.length:Int):=by omega
     refine xy.seq (n:=20) (xy.of (n:=20) (wpIn_wide.2 ?_));go_wp2_with fail;refine xy.of (n:=20) (wpIn_wide.2 ?_);have hv:=HR5.out.hv;have hh:=HR5.out.hh;have f0:=zF 0 hv;have f1:=zF 1 hv;have f2:=zF 2 hv;have f3:=zF 3 hv;have f4:=zF 4 hv;have f5:=zF 5 hv;have f6:=zF 6 hv;have g0:=zF 0 hh;have g1:=zF 1 hh;obtain⟨y0,y1,y2,y3,y4,y5,y6⟩:=zr hv;obtain⟨z0,z1,_,_⟩:=qe hh;clear hv hh;have n1:¬w.heap.size+1=bw:=by omega
     have n2:¬w.heap.size+1+1=bw:=by omega
     have n3:¬bw=w.heap.size+1:=by omega
     have n4:¬bw=w.heap.size+1+1:=by omega
     go_upto_region 36 with fail;go_region
     all_goals go_wp2
     have hDn:w.heap.size+1+1<D:=by
      have:=ze HR5.out.hh;have h1:=(HRK.out wE HWE.out.hb).hb.size;have h2:=ze (HRK.out wE HWE.out.hb).hh;omega
     exact FW rfl rfl rfl HR5.out HF5.out HOG.out HD5.out hDn HSE.out.2.2.2 HBH.out (HMH.out w5 HF5.out.hb) hwl hHL HWL.out hcp hyc
end Go.Proofs.YtgalekifgnecjaaGreat
