/- A unit with what is needed: flowOf, byItself, needed, next -/
import Derived.Test.YtgalekifgnecjaaGreatM5
namespace Go.Proofs.YtgalekifgnecjaaGreat
open Tryz Go.RowKit
open Go.RowKit Go.Shelf
set_option maxHeartbeats 8000000
set_option maxRecDepth 100000
attribute [local go_sem] Oper.semAt_some
theorem je.slc{w:World}{base:Nat}{v:Value}{L:List (List Int)}(h:je w base v L):∃a c,v= .slice a L.length c:=by
 obtain⟨xs,h1,h2,_⟩:=h;obtain⟨a,c,rfl,_⟩:=h1.rd;exact⟨a,c,by rw[h2]⟩
abbrev Rj(u:zg)(ca:Option Addr)(cc:Nat)(ga:Option Addr)(gc:Nat)(v:Value):Value:=.agg #[.string u.cls,.string u.name,.int .i64 u.args,.int .i64 u.slots,.int .i64 u.frame,.slice ca u.code.length cc,.slice ga u.guards.length gc,v]
theorem VX{W:World}{b:Nat}{x0 x1 x2 x3 x4 x5 x6 x7:Value}{T:TypeId}(h:W.heap[b]?=some (.cells #[x0,x1,x2,x3,x4,x5,x6,x7] T (0,0))):W.cell? ⟨b,0,none⟩=some x0/\W.cell? ⟨b,1,none⟩=some x1/\W.cell? ⟨b,2,none⟩=some x2/\W.cell? ⟨b,3,none⟩=some x3/\W.cell? ⟨b,4,none⟩=some x4/\W.cell? ⟨b,5,none⟩=some x5/\W.cell? ⟨b,6,none⟩=some x6/\W.cell? ⟨b,7,none⟩=some x7:=
 ⟨(zA _ _ _ _ _ _ h).trans rfl,(zA _ _ _ _ _ _ h).trans rfl,(zA _ _ _ _ _ _ h).trans rfl,(zA _ _ _ _ _ _ h).trans rfl,(zA _ _ _ _ _ _ h).trans rfl,(zA _ _ _ _ _ _ h).trans rfl,(zA _ _ _ _ _ _ h).trans rfl,(zA _ _ _ _ _ _ h).trans rfl⟩
theorem NZ:(prog.info? 97).map (·.size)=some 8:=by kernel_rfl
theorem Sr{w:World}{g:Nat}{x0 x1 x2 x3 x4 x5 x6 x7:Value}{T:TypeId}(h:w.heap[g]?=some (.cells #[x0,x1,x2,x3,x4,x5,x6,x7] T (0,0)))(y0 y1 y2 y3 y4 y5 y6 y7:Value):
  ((((((((w.setCell ⟨g,0,none⟩ y0).setCell ⟨g,1,none⟩ y1).setCell ⟨g,2,none⟩ y2).setCell ⟨g,3,none⟩ y3).setCell ⟨g,4,none⟩ y4).setCell ⟨g,5,none⟩ y5).setCell ⟨g,6,none⟩ y6).setCell ⟨g,7,none⟩ y7).heap[g]?=some (.cells #[y0,y1,y2,y3,y4,y5,y6,y7] T (0,0)):=by
 have h0:(w.setCell ⟨g,0,none⟩ y0).heap[g]?=some (.cells #[y0,x1,x2,x3,x4,x5,x6,x7] T (0,0)):=yk _ _ 0 _ _ _ h;clear h;generalize w.setCell ⟨g,0,none⟩ y0=w at h0 ⊢;have h1:(w.setCell ⟨g,1,none⟩ y1).heap[g]?=some (.cells #[y0,y1,x2,x3,x4,x5,x6,x7] T (0,0)):=yk _ _ 1 _ _ _ h0;clear h0;generalize w.setCell ⟨g,1,none⟩ y1=w at h1 ⊢;have h2:(w.setCell ⟨g,2,none⟩ y2).heap[g]?=some (.cells #[y0,y1,y2,x3,x4,x5,x6,x7] T (0,0)):=yk _ _ 2 _ _ _ h1;clear h1;generalize w.setCell ⟨g,2,none⟩ y2=w at h2 ⊢;have h3:(w.setCell ⟨g,3,none⟩ y3).heap[g]?=some (.cells #[y0,y1,y2,y3,x4,x5,x6,x7] T (0,0)):=yk _ _ 3 _ _ _ h2;clear h2;generalize w.setCell ⟨g,3,none⟩ y3=w at h3 ⊢;have h4:(w.setCell ⟨g,4,none⟩ y4).heap[g]?=some (.cells #[y0,y1,y2,y3,y4,x5,x6,x7] T (0,0)):=yk _ _ 4 _ _ _ h3;clear h3;generalize w.setCell ⟨g,4,none⟩ y4=w at h4 ⊢;have h5:(w.setCell ⟨g,5,none⟩ y5).heap[g]?=some (.cells #[y0,y1,y2,y3,y4,y5,x6,x7] T (0,0)):=yk _ _ 5 _ _ _ h4;clear h4;generalize w.setCell ⟨g,5,none⟩ y5=w at h5 ⊢;have h6:(w.setCell ⟨g,6,none⟩ y6).heap[g]?=some (.cells #[y0,y1,y2,y3,y4,y5,y6,x7] T (0,0)):=yk _ _ 6 _ _ _ h5;clear h5;generalize w.setCell ⟨g,6,none⟩ y6=w at h6 ⊢;have h7:(w.setCell ⟨g,7,none⟩ y7).heap[g]?=some (.cells #[y0,y1,y2,y3,y4,y5,y6,y7] T (0,0)):=yk _ _ 7 _ _ _ h6;clear h6;generalize w.setCell ⟨g,7,none⟩ y7=w at h7 ⊢;exact h7
theorem IS{B:Nat}{w0 w:World}{g:Nat}(h:Below B w0 w)(hg:B<=g)(y0 y1 y2 y3 y4 y5 y6 y7:Value):
  Below B w0 ((((((((w.setCell ⟨g,0,none⟩ y0).setCell ⟨g,1,none⟩ y1).setCell ⟨g,2,none⟩ y2).setCell ⟨g,3,none⟩ y3).setCell ⟨g,4,none⟩ y4).setCell ⟨g,5,none⟩ y5).setCell ⟨g,6,none⟩ y6).setCell ⟨g,7,none⟩ y7):=
 (((((((h.setCell (p:=⟨g,0,none⟩) hg _).setCell (p:=⟨g,1,none⟩) hg _).setCell (p:=⟨g,2,none⟩) hg _).setCell (p:=⟨g,3,none⟩) hg _).setCell (p:=⟨g,4,none⟩) hg _).setCell (p:=⟨g,5,none⟩) hg _).setCell (p:=⟨g,6,none⟩) hg _).setCell (p:=⟨g,7,none⟩) hg _
theorem IR{w:World}{g k:Nat}(hn:k≠g)(y0 y1 y2 y3 y4 y5 y6 y7:Value):
  ((((((((w.setCell ⟨g,0,none⟩ y0).setCell ⟨g,1,none⟩ y1).setCell ⟨g,2,none⟩ y2).setCell ⟨g,3,none⟩ y3).setCell ⟨g,4,none⟩ y4).setCell ⟨g,5,none⟩ y5).setCell ⟨g,6,none⟩ y6).setCell ⟨g,7,none⟩ y7).heap[k]?=w.heap[k]?:=
 (yF _ _ _ _ hn).trans ((yF _ _ _ _ hn).trans ((yF _ _ _ _ hn).trans ((yF _ _ _ _ hn).trans ((yF _ _ _ _ hn).trans ((yF _ _ _ _ hn).trans ((yF _ _ _ _ hn).trans (yF _ _ _ _ hn)))))))
theorem je.but{w w':World}{base g:Nat}{v:Value}{L:List (List Int)}(h:je w base v L)(hg:g<base)(ho:∀k,k≠g->w'.heap[k]?=w.heap[k]?):je w' base v L:=by
 obtain⟨xs,h1,h2,h3⟩:=h;refine⟨xs,yA h1 (fun b e _=>ho b (fun e2=> ?_)),h2,fun i a b=>yA (h3 i a b) (fun c e _=>ho c (fun e2=> ?_))⟩
 ·have:=zy h1 b e;omega
 ·have:=zy (h3 i a b) c e;omega
def Sd(u:zg)(ca:Option Addr)(cc:Nat)(ga:Option Addr)(gc:Nat)(w:World)(e:Ending)(w':World):Prop:=Below w.heap.size w w'/\∃v,e= .returned (Rj u ca cc ga gc v)/\je w' w.heap.size v (zf u)
theorem Gg{u:zg}(h:zC u=true):∀t (ht:t<u.code.length),∀x∈zp u.code[t],0<=x/\x<1000000:=by
 intro t ht x hx;have hp:=zH h;have hs:=YB hp;simp only[zC,yi,yL]at h;have h1:=h.2 t (yR.2 ht);unfold qx at h1;simp only[yi,yL]at h1;have h2:=h1.1.1.1.1.1.1 x (by rw[zk ht];exact hx);simp only[yr,yi,yB]at h2;omega
theorem Xn(u:zg)(ca cc ga gc)(w:World)(hm:jo w u ca cc ga gc)(hw:zC u=true):
  Calls prog 48 #[vU u ca cc ga gc] w (Sd u ca cc ga gc w):=by
 have HLV:=za (fun w' hb=>Ll u ca cc ga gc w' (hm.below hb) (zH hw) (Gg hw));have HX1:=za (zo w (oU u ca cc ga gc) _ rfl);have HB:=za (zd w (oU u ca cc ga gc));go_enter func48,ntmps48;go_upto_region 1 with fail;obtain⟨w2,hw2⟩:∃w2,w2=(w.alloc (oU u ca cc ga gc)).alloc (.cells #[.string ⟨#[]⟩,.string ⟨#[]⟩,.int .i64 0,.int .i64 0,.int .i64 0,.slice none 0 0,.slice none 0 0,.slice none 0 0] 97):=⟨_,rfl⟩
 have hx2:w2.heap[w.heap.size]?=some (oU u ca cc ga gc):=by rw[hw2];exact zb (zd _ _) HX1.out
 have hf2:w2.heap[w.heap.size+1]?=some (.cells #[.string ⟨#[]⟩,.string ⟨#[]⟩,.int .i64 0,.int .i64 0,.int .i64 0,.slice none 0 0,.slice none 0 0,.slice none 0 0] 97):=by rw[hw2];exact zo _ _ _ (by simp)
 have hb2:Below w.heap.size w w2:=by rw[hw2];exact HB.out.step (zd _ _)
 rw[<-hw2];clear hw2;have HX2:=za (And.intro hx2 (And.intro hf2 hb2));obtain⟨k0,k1,k2,k3,k4,k5,k6⟩:=zr hx2;have HX2d:Hid (w2.drew.heap[w.heap.size]?=some (oU u ca cc ga gc)/\w2.drew.heap[w.heap.size+1]?=some (.cells #[.string ⟨#[]⟩,.string ⟨#[]⟩,.int .i64 0,.int .i64 0,.int .i64 0,.slice none 0 0,.slice none 0 0,.slice none 0 0] 97)/\Below w.heap.size w w2.drew):=za ⟨hx2,hf2,hb2.step (zt _)⟩;clear hx2 hf2 hb2
 go_region_with (first
  |(go_at_call 105;(with_reducible refine(HLV.out _ HX2d.out.2.2).mono ?_);rintro e w3 ⟨hb,v3,rfl,ho⟩;obtain⟨va,vc,rfl⟩:=ho.slc;obtain⟨j0,j1,j2,j3,j4,j5,j6⟩:=zr (zb hb HX2d.out.1);have HF3:=za (zb hb HX2d.out.2.1);have HB3:=za (HX2d.out.2.2.step hb);have HO3:=za ho;have hbx:=zb hb HX2d.out.2.1;obtain⟨q0,q1,q2,q3,q4,q5,q6,q7⟩:=VX hbx;have f0:=zF 0 hbx;have f1:=zF 1 hbx;have f2:=zF 2 hbx;have f3:=zF 3 hbx;have f4:=zF 4 hbx;have f5:=zF 5 hbx;have f6:=zF 6 hbx;have f7:=zF 7 hbx;clear hb ho hbx))
 all_goals go_wp2
 all_goals exact xJ (v:=Rj u ca cc ga gc (.slice va (zf u).length vc)) (results_cell_row rfl _ _ (w.heap.size+1) 97 _ (0,0) _ rfl (Sr HF3.out _ _ _ _ _ _ _ _) Tryz.underlying97 rfl NZ) rfl ⟨IS HB3.out (by omega) _ _ _ _ _ _ _ _,_,rfl,(HO3.out.but (g:=w.heap.size+1) (ze HX2d.out.2.1) (fun k hk=>IR hk _ _ _ _ _ _ _ _)).mono (Nat.le_of_lt (Nat.lt_of_le_of_lt (xH _) (ze HX2d.out.2.1)))⟩
def QC(w:World)(a:Option Addr)(L:List (List Int)):Prop:=
 ∀i (h:i<L.length),∃b off ai ci,a=some ⟨b,off,none⟩/\b<w.heap.size/\w.cell? ⟨b,off+i,none⟩=some (.slice ai L[i].length ci)/\yC w ai L[i]/\L[i].length<=ci/\∀b2 o2,ai=some ⟨b2,o2,none⟩->b2<w.heap.size
theorem QC.below{w w':World}{a:Option Addr}{L:List (List Int)}(h:QC w a L)(hb:Below w.heap.size w w'):QC w' a L:=by
 intro i hi;obtain⟨b,off,ai,ci,ha,hlt,hc,hr,hl,hn⟩:=h i hi;exact⟨b,off,ai,ci,ha,xh hlt hb.size,zK hb hc,hr.below hb,hl,fun b2 o2 e=>xh (hn b2 o2 e) hb.size⟩
theorem qy{w:World}{base n c:Nat}{a:Option Addr}{l:List Int}(h:zu w base (.slice a n c) l):n=l.length/\l.length<=c/\yC w a l/\∀b2 o2,a=some ⟨b2,o2,none⟩->b2<w.heap.size:=by
 obtain⟨a',c',e,hr⟩:=h.rd;cases e;refine⟨rfl,?_,hr,fun b2 o2 e=> ?_⟩
 ·rcases h.2 with ⟨e1,e2⟩|⟨g,cap,cur,e1,_,_,h1,_⟩
  ·injection e1 with q1 q2 q3
   omega
  ·injection e1 with q1 q2 q3
   omega
 ·rcases h.2 with ⟨e1,_⟩|⟨g,cap,cur,e1,_,hh,_⟩
  ·injection e1 with q1 q2 q3
   rw[q1]at e;cases e
  ·injection e1 with q1 q2 q3
   rw[q1]at e;cases e;exact ze hh
theorem je.rd{w:World}{base:Nat}{v:Value}{L:List (List Int)}(h:je w base v L):∃a c,v= .slice a L.length c/\QC w a L:=by
 obtain⟨xs,h1,h2,h3⟩:=h;obtain⟨a,c,rfl,hr,_⟩:=h1.rdB;refine⟨a,c,by rw[h2],fun i hi=> ?_⟩;have hi2:i<xs.length:=by rw[h2];exact hi
 obtain⟨b,off,ha,hlt,hc⟩:=hr i hi2;obtain⟨e1,e2,e3,e4⟩:=qy (h3 i hi2 hi);refine⟨b,off,xs[i].a,xs[i].c,ha,hlt,?_,e3,e2,e4⟩;have:=hc 0 (.slice xs[i].a xs[i].n xs[i].c) rfl;rw[e1]at this;have e5:off+i*1+0=off+i:=by omega
 rw[show Iq.k=1 from rfl,e5]at this;exact this
theorem Ed(L:List (List Int))(ps:List Int)(p:Int):qV L (ps++ [p])=yG (qV L ps) (L.getD p.toNat []):=by unfold qV;rw[jc];rfl
theorem YV(L:List (List Int))(m:Nat)(hm:∀i,(L.getD i []).length<=m):∀ps:List Int,(qV L ps).length<=m*ps.length:=by
 intro ps
 have h:∀(ps:List Int) (s:List Int),(ps.foldl (fun out p=>yG out (L.getD p.toNat [])) s).length<=s.length+m*ps.length:=by
  intro ps
  induction ps with
  |nil=>intro s;simp
  |cons p ps ih=>
   intro s;rw[qP,xv,Nat.mul_succ];have h1:=ih (yG s (L.getD p.toNat []));have h2:=qt s (L.getD p.toNat []);have h3:=hm p.toNat;omega
 have:=h ps [];simpa[qV]using this
theorem YC(u:zg)(ca cc ga gc)(L:List (List Int))(va:Option Addr)(vc:Nat)(ps:List Int)(pa:Option Addr)(pc:Nat)(w:World)(hL:QC w va L)(hP:yC w pa ps)(hps:∀p∈ps,0<=p/\p<L.length)(hlen:ps.length<=1000)(hm:∀i,(L.getD i []).length<=200):
  Calls prog 72 #[Rj u ca cc ga gc (.slice va L.length vc),.slice pa ps.length pc] w (Za (qV L ps) w):=by
 have HL:=za hL;clear hL;have HP:=za hP;clear hP;have HPS:=za hps;clear hps;have HM:=za (YV L 200 hm);have HM2:=za hm;clear hm;have HX0:=za (zo w (.cells #[.string u.cls,.string u.name,.int .i64 u.args,.int .i64 u.slots,.int .i64 u.frame,.slice ca u.code.length cc,.slice ga u.guards.length gc,.slice va L.length vc] 97) _ rfl);have HB0:=za (zd w (.cells #[.string u.cls,.string u.name,.int .i64 u.args,.int .i64 u.slots,.int .i64 u.frame,.slice ca u.code.length cc,.slice ga u.guards.length gc,.slice va L.length vc] 97));go_enter func72,ntmps72;go_wp2;go_loopg [5,10] ps.length (fun gh s5 s10 wr=>∃j:Nat,j<=ps.length/\gh=ps.length-j/\s10= .int .i64 j/\Hid (zu wr (w.heap.size+1) s5 (qV L (ps.take j))/\Below w.heap.size w wr/\wr.heap[w.heap.size]?=some (.cells #[.string u.cls,.string u.name,.int .i64 u.args,.int .i64 u.slots,.int .i64 u.frame,.slice ca u.code.length cc,.slice ga u.guards.length gc,.slice va L.length vc] 97)));case atStart=>exact⟨0,zE _,rfl,rfl,za ⟨jd _ _ _ _,HB0.out,HX0.out⟩⟩
 case round=>
  obtain⟨j,hj,rfl,rfl,HQ⟩:=hrel;by_cases hlj:j<ps.length
  ·obtain⟨b2,off,ha,hlt2,h0⟩:=(HP.out.below HQ.out.2.1) j hlj
   subst ha;obtain⟨hp0,hp1⟩:=HPS.out ps[j] (yy hlj);have HT:=za (Ed L (ps.take j) ps[j]);rw[<-zO hlj]at HT;have HLN:=za (HM.out (ps.take j));have hlt:=List.length_take_le j ps;generalize ps[j]=p at *;obtain⟨k,rfl⟩:∃k:Nat,p=(k:Int):=⟨p.toNat,by omega⟩
   have hk:k<L.length:=by omega
   have HLK:=za (HM2.out k);rw[show((k:Int)).toNat=k from rfl,zk hk]at HT;rw[zk hk]at HLK;obtain⟨b3,off3,ai,ci,rfl,_,hcw,hrw,_,hnw⟩:=HL.out k hk;have hc3:=zK HQ.out.2.1 hcw;have HOB:=za (zy HQ.out.1);have HAD:=za (JN (w.heap.size+1) u5 (qV L (ps.take j)) L[k] ai ci wr HQ.out.1 (hrw.below HQ.out.2.1) (by have h1:=HLN.out;have h2:=HLK.out;omega) (fun b o e e2=>by have h1:=hnw b o e;have h2:=HOB.out b e2.symm;omega) (by have:=ze HQ.out.2.2;omega));have k7:wr.cell? ⟨w.heap.size,7,none⟩=some (.slice (some ⟨b3,off3,none⟩) L.length vc):=(zA _ _ 7 _ _ _ HQ.out.2.2).trans rfl;have nj:(j:Int)<(ps.length:Int):=by omega
   clear hcw hrw hnw;generalize L[k]=lk at *
   go_wp2_with (first
    |(go_at_call 74;(with_reducible refine HAD.out.mono ?_);rintro e w9 ⟨v3,rfl,ho3,hg3,_⟩;have HO3:=za ho3;have HG3:=za hg3;clear ho3 hg3))
   go_roundg (ps.length-(j+1));case measure=>omega
   case rel=>
    refine⟨j+1,by omega,rfl,by go_num,za ⟨by rw[HT.out];exact HO3.out,HQ.out.2.1.grown HG3.out HQ.out.2.1.size (fun r e=>by have:=HOB.out r e;omega),?_⟩⟩;exact(HG3.out.block _ (ze HQ.out.2.2) (fun e=>by have:=HOB.out _ e.symm;omega)).trans HQ.out.2.2
  ·obtain rfl:j=ps.length:=by omega
   go_wp2;go_ret;exact⟨HQ.out.2.1,_,rfl,by have:=HQ.out.1;rw[xL]at this;exact zu.mono this (by omega)⟩
abbrev Dg(u:zg)(ca:Option Addr)(cc:Nat)(ga:Option Addr)(gc:Nat)(v:Value):Obj:=.cells #[.string u.cls,.string u.name,.int .i64 u.args,.int .i64 u.slots,.int .i64 u.frame,.slice ca u.code.length cc,.slice ga u.guards.length gc,v] 97
theorem U_(base:Nat)(v:Value)(l:List Int)(x:Int)(pa:Nat)(w:World)(ho:zu w base v l)(hm:yC w (some ⟨pa,0,none⟩) [x])(hlen:l.length+1<=1000000)(hn:some pa≠v.ownBlock)(hb:base<=w.heap.size):
  Calls prog 74 #[v,.slice (some ⟨pa,0,none⟩) 1 1] w (Og v base (yG l [x]) w):=
 JN base v l [x] (some ⟨pa,0,none⟩) 1 w ho hm hlen (fun b o e=>by cases e;exact hn) hb
def XF(u:zg)(t:Nat):List Int:=if (!(qq (u.code.getD t zw))&&decide (t+1<u.code.length))=true then [((t:Int)+1)]else []
theorem Zn(u:zg)(t:Nat):yU u t=yG (XF u t) (zQ (u.code.getD t zw)).toList:=rfl
theorem Xr(u:zg)(t:Nat)(ht:t<u.code.length)(hlen:u.code.length<=600)(ca cc ga gc)(va:Option Addr)(vn vc:Nat)(w:World)(hm:Qz w ca u.code):
  Calls prog 73 #[Rj u ca cc ga gc (.slice va vn vc),.int .i64 t] w (Za (yU u t) w):=by
 have HBS:=za (Zn u t);have HB1:Hid (XF u t=if (!(qq (u.code.getD t zw))&&decide (t+1<u.code.length))=true then [((t:Int)+1)]else []):=za rfl;rw[zk ht]at HBS HB1;have HB0:=za (zd w (Dg u ca cc ga gc (.slice va vn vc)));have HX0:=za (zo w (Dg u ca cc ga gc (.slice va vn vc)) _ rfl);obtain⟨bc,oc,hca,hlc2,c0,c1,c2,c3⟩:=hm.below HB0.out t ht;subst hca;have HEN:=za (fun w=>Kc u.code[t] w);obtain⟨k0,k1,k2,k3,k4,k5,k6,k7⟩:=VX HX0.out;have nt:(t:Int)<(u.code.length:Int):=by omega
 have nt1:(t:Int)+1<=600:=by omega
 have HM:=za hm;clear hm;generalize u.code[t]=i at *;go_enter func73,ntmps73;go_upto_region 2 with fail;obtain⟨w1,hw1⟩:∃w1,w1=w.alloc (Dg u (some ⟨bc,oc,none⟩) cc ga gc (.slice va vn vc)):=⟨_,rfl⟩
 rw[<-hw1]at HB0 HX0;rw[<-hw1];have HS1:Hid (w1.heap.size=w.heap.size+1):=za (by rw[hw1];simp);clear hw1 k0 k1 k2 k3 k4 k5 k6 k7 c0 c1 c2 c3 hlc2;obtain⟨w2,hw2⟩:∃w2,w2=w1.alloc (.cells #[.int .i64 i.op,.int .i64 i.a,.int .i64 i.b,.int .i64 i.c] 85):=⟨_,rfl⟩
 have HX2:Hid (w2.heap[w.heap.size+1]?=some (.cells #[.int .i64 i.op,.int .i64 i.a,.int .i64 i.b,.int .i64 i.c] 85)):=za (by rw[hw2];exact zo _ _ _ HS1.out.symm);have HF2:Hid (w2.heap[w.heap.size]?=some (Dg u (some ⟨bc,oc,none⟩) cc ga gc (.slice va vn vc))):=za (by rw[hw2];exact zb (zd _ _) HX0.out);have HB2:Hid (Below w.heap.size w w2):=za (by rw[hw2];exact HB0.out.step (zd _ _));rw[<-hw2];clear hw2 HX0 HB0;obtain⟨L1,hL1⟩:∃L,L=XF u t:=⟨_,rfl⟩
 rw[<-hL1]at HBS HB1;clear hL1;obtain⟨q0,q1,q2,q3⟩:=zX HX2.out
 have hsplit:(L1= []/\(qq i=true\/(qq i=false/\¬t+1<u.code.length)))\/(L1= [((t:Int)+1)]/\qq i=false/\t+1<u.code.length):=by
  have h:=HB1.out;by_cases hl:t+1<u.code.length
  ·cases he:qq i with
   |true=>rw[he]at h;exact .inl ⟨h,.inl rfl⟩
   |false=>rw[he]at h;exact .inr ⟨by rw[h];simp[hl],rfl,hl⟩
  ·cases he:qq i with
   |true=>rw[he]at h;exact .inl ⟨h,.inl rfl⟩
   |false=>rw[he]at h;exact .inl ⟨by rw[h];simp[hl],.inr ⟨rfl,hl⟩⟩
 clear HB1;have hl1:L1.length<=1:=by rcases hsplit with ⟨rfl,_⟩|⟨rfl,_⟩<;>simp
 have HPLA:=za (fun(wc:World) (HW:Below w2.heap.size w2 wc)=>Qo i.op (w.heap.size+1) 0 wc (zX (zb HW HX2.out)).1);rcases hsplit with ⟨hL,he|⟨he,hl⟩⟩|⟨hL,he,hl⟩
 case' inl.inl=>
  rw[he]at HEN;clear he
  go_upto_region 5 with (first
   |(go_at_call 97;(with_reducible refine(HEN.out _).mono ?_);rintro e wc ⟨rfl,hb⟩;have HW:=za hb;clear hb))
  have HO:Hid (zu wc (w.heap.size+2) (.slice none 0 0) L1):=za (by rw[hL];exact jd _ _ _ _)
 case' inl.inr=>
  rw[he]at HEN;clear he;have hl2:¬(t:Int)+1<(u.code.length:Int):=by omega
  go_upto_region 5 with (first
   |(go_at_call 97;(with_reducible refine(HEN.out _).mono ?_);rintro e wc ⟨rfl,hb⟩;obtain⟨j0,j1,j2,j3,j4,j5,j6,j7⟩:=VX (zb hb HF2.out);have HW:=za hb;clear hb))
  clear j0 j1 j2 j3 j4 j5 j6 j7;have HO:Hid (zu wc (w.heap.size+2) (.slice none 0 0) L1):=za (by rw[hL];exact jd _ _ _ _)
 case' inr=>
  rw[he]at HEN;clear he;have hl2:(t:Int)+1<(u.code.length:Int):=by omega
  go_upto_region 5 with (first
   |(go_at_call 97;(with_reducible refine(HEN.out _).mono ?_);rintro e w3 ⟨rfl,hb⟩;obtain⟨j0,j1,j2,j3,j4,j5,j6,j7⟩:=VX (zb hb HF2.out);have HB3:=za hb;have hsz:=ze (zb hb HX2.out);clear hb)
   |(at_builtin;refine zv _ rfl _ _ rfl (w.heap.size+2) _ [] [((t:Int)+1)] rfl (show zu _ (w.heap.size+2) (.slice none 0 0) []from jd _ _ _ _) (some ⟨_,0,none⟩) 1 rfl (yJ _ _ _) (by simp) (by simp;omega) ?_;intro v' wc hown' hgrow hnil))
  clear j0 j1 j2 j3 j4 j5 j6 j7;have HO:Hid (zu wc (w.heap.size+2) v' L1):=za (by rw[hL];exact hown');have HW:Hid (Below w2.heap.size w2 wc):=za ((HB3.out.step (zd _ _)).trans ⟨hgrow.os,hgrow.tape,hgrow.output,hgrow.size,fun k hk=>hgrow.block k (by have:=HB3.out.size;simp;omega) (show some k≠(Value.slice none 0 0).ownBlock from by simp[Value.ownBlock])⟩);clear hown' hgrow hnil
 all_goals
  have HBW:=za (HB2.out.step HW.out);obtain⟨r0,r1,r2,r3⟩:=zX (zb HW.out HX2.out);have HOB:=za (zy HO.out);have HSZ:=za (ze (zb HW.out HX2.out));have HPL:=za (HPLA.out wc HW.out);clear HPLA;have HPO:Hid (zQ i=if i.op==24 then some i.a else if i.op==25||i.op==32 then some i.b else none):=za rfl;have HPA:Hid (YM i.op (w.heap.size+1) 0=if i.op==24 then some ⟨w.heap.size+1,0+1,none⟩else if i.op==25||i.op==32 then some ⟨w.heap.size+1,0+2,none⟩else none):=za rfl;obtain⟨po,hpo⟩:∃p,p=zQ i:=⟨_,rfl⟩
  obtain⟨pA,hpA⟩:∃p,p=YM i.op (w.heap.size+1) 0:=⟨_,rfl⟩
  rw[<-hpo]at HPO HBS;rw[<-hpA]at HPA HPL;clear hpo hpA HEN
  have hsp:(pA=none/\po=none)\/∃o x,pA=some ⟨w.heap.size+1,o,none⟩/\po=some x/\wc.cell? ⟨w.heap.size+1,o,none⟩=some (.int .i64 x):=by
   rw[HPO.out,HPA.out]
   cases i.op==24 with
   |true=>exact .inr ⟨1,i.a,rfl,rfl,r1⟩
   |false=>
    cases (i.op==25||i.op==32)with
    |true=>exact .inr ⟨2,i.b,rfl,rfl,r2⟩
    |false=>exact .inl ⟨rfl,rfl⟩
  clear HPO HPA r0 r1 r2 r3;clear q0 q1 q2 q3;rcases hsp with ⟨rfl,rfl⟩|⟨o,x,rfl,rfl,hx⟩
  ·go_wp2_with (go_at_call 101;(with_reducible refine HPL.out.mono ?_);rintro e w' ⟨rfl,rfl⟩)
   go_ret;exact⟨HBW.out,_,rfl,by rw[HBS.out];exact zu.mono HO.out (by omega)⟩
  ·have HAD:=za (fun(wx:World) (pa:Nat) (hb:Below wc.heap.size wc wx) (hr:yC wx (some ⟨pa,0,none⟩) [x]) (hp:wc.heap.size<=pa)=>U_ (w.heap.size+2) _ L1 x pa wx (zu.later HO.out hb) hr (by omega) (V6 HO.out hp) (by have h1:=HSZ.out;have h2:=hb.size;omega))
   go_wp2_with (first
    |(go_at_call 101;(with_reducible refine HPL.out.mono ?_);rintro e w' ⟨rfl,rfl⟩)
    |(go_at_call 74;(with_reducible refine(HAD.out _ _ (zd _ _) (yJ _ _ _) (zI _)).mono ?_);rintro e w9 ⟨v3,rfl,ho3,hg3,_⟩;have HO3:=za ho3;have HG3:=za hg3;clear ho3 hg3))
   go_ret;refine⟨(HBW.out.step (zd _ _)).grown HG3.out (by have:=HBW.out.size;simp;omega) (fun r e=>by have:=HOB.out r e;omega),_,rfl,by rw[HBS.out];exact zu.mono HO3.out (by omega)⟩
def GE(u:zg)(t:Nat):List Int:=if (decide (0<=zD u t)&&yZ (u.code.getD t zw))=true then [(u.guards.getD (zD u t).toNat jF).at']else []
theorem GH(u:zg)(t:Nat):Zc u t=yG (yU u t) (GE u t):=rfl
theorem Zl(u:zg)(t:Nat):(yU u t).length<=2:=by
 rw[Zn];have h1:=qt (XF u t) (zQ (u.code.getD t zw)).toList;have h2:(XF u t).length<=1:=by unfold XF;split<;>simp
 have h3:(zQ (u.code.getD t zw)).toList.length<=1:=by cases zQ (u.code.getD t zw)<;>simp
 omega
theorem Ue(u:zg)(t:Nat)(ht:t<u.code.length)(hlen:u.code.length<=600)(hlg:u.guards.length<=1000000)(ca cc ga gc)(va:Option Addr)(vn vc:Nat)(w:World)(hm:jo w u ca cc ga gc):
  Calls prog 106 #[Rj u ca cc ga gc (.slice va vn vc),.int .i64 t] w (Za (Zc u t) w):=by
 have HBS:=za (GH u t);have HLN:=za (Zl u t);have HB1:Hid (GE u t=if (decide (0<=zD u t)&&yZ (u.code.getD t zw))=true then [(u.guards.getD (zD u t).toNat jF).at']else []):=za rfl;rw[zk ht]at HB1;have HGL:=za (And.intro (Zr (yH t) u.guards).1 (Zr (yH t) u.guards).2);have HGI:Hid (zD u t=Ya (yH t) u.guards):=za rfl;rw[<-HGI.out]at HGL;clear HGI;have HB0:=za (zd w (Dg u ca cc ga gc (.slice va vn vc)));have HX0:=za (zo w (Dg u ca cc ga gc (.slice va vn vc)) _ rfl);have HM:=za hm;clear hm;have HBY:=za (fun w' (hb:Below w.heap.size w w')=>Xr u t ht hlen ca cc ga gc va vn vc w' (HM.out.below hb).rc);have HGO:=za (fun w' (hb:Below w.heap.size w w')=>JC u t ca cc ga gc w' (HM.out.below hb).rg hlg);have HRA:=za (fun w'=>Gz u.code[t] w');have HCO:=za (fun w' (hb:Below w.heap.size w w')=>(HM.out.below hb).rc t ht);have HGD:=za (fun w' (hb:Below w.heap.size w w')=>(HM.out.below hb).rg);have nt:(t:Int)<(u.code.length:Int):=by omega
 obtain⟨k0,k1,k2,k3,k4,k5,k6,k7⟩:=VX HX0.out;go_enter func106,ntmps106
 go_upto_region 2 with (first
  |(go_at_call 73;(with_reducible refine(HBY.out _ HB0.out).mono ?_);rintro e w1 ⟨hb,v1,rfl,ho⟩;have HB1':=za (HB0.out.step hb);have HX1:=za (zb hb HX0.out);have HO1:=za ho;clear hb ho))
 clear k0 k1 k2 k3 k4 k5 k6 k7;obtain⟨k0,k1,k2,k3,k4,k5,k6,k7⟩:=VX HX1.out
 go_upto_region 3 with (first
  |(go_at_call 102;(with_reducible refine(HGO.out _ HB1'.out).mono ?_);rintro e w2 ⟨rfl,hb⟩;have HB2:=za (HB1'.out.step hb);have HX2:=za (zb hb HX1.out);have HO2:=za (zu.later HO1.out hb);clear hb))
 clear k0 k1 k2 k3 k4 k5 k6 k7;obtain⟨k0,k1,k2,k3,k4,k5,k6,k7⟩:=VX HX2.out;have HSB:=za (show w.heap.size<=(w.alloc (Dg u ca cc ga gc (.slice va vn vc))).heap.size by simp);have HGDL:=za (fun g (hg:g<u.guards.length)=>(zk (d:=jF) hg));obtain⟨L1,hL1⟩:∃L,L=GE u t:=⟨_,rfl⟩
 rw[<-hL1]at HBS HB1;clear hL1;obtain⟨gl,hgl⟩:∃g,g=zD u t:=⟨_,rfl⟩
 rw[<-hgl]at HGL HB1;rw[<-hgl];clear hgl HGO;by_cases hg0:(0:Int)<=gl
 ·obtain⟨g,rfl⟩:∃g:Nat,gl=(g:Int):=⟨gl.toNat,by omega⟩
  have hgn:g<u.guards.length:=by have:=HGL.out.2;omega
  have hgi:(g:Int)<(u.guards.length:Int):=by omega
  obtain⟨bc,oc,hca,_,c0,c1,c2,c3⟩:=HCO.out w2 HB2.out;subst hca;have dg:decide (0<=(g:Int))=true:=zP hg0;rw[dg,xk]at HB1;rw[show((g:Int)).toNat=g from rfl,HGDL.out g hgn]at HB1;clear dg
  cases hr:yZ u.code[t]with
  |false=>
   rw[hr]at HB1 HRA;have HN:Hid (Zc u t=yU u t):=za (by rw[HBS.out,HB1.out];rfl);clear hr HBS HB1;generalize u.code[t]=i at *;go_wp2_with (go_at_call 103;(with_reducible refine(HRA.out _).mono ?_);rintro e w3 ⟨rfl,hb⟩;have HB3:=za hb;clear hb);go_ret
   exact⟨HB2.out.step HB3.out,_,rfl,by rw[HN.out];exact zu.mono (zu.later HO2.out HB3.out) HSB.out⟩
  |true=>
   rw[hr]at HB1 HRA;have HN:Hid (Zc u t=yG (yU u t) [u.guards[g].at']):=za (by rw[HBS.out,HB1.out];rfl);clear hr HBS HB1;generalize u.code[t]=i at *;have HGC:=za (fun w' (hb:Below w.heap.size w w')=>HGD.out w' hb g hgn);obtain⟨bg,og,hga,_,_,_,_⟩:=HGC.out w2 HB2.out;subst hga
   have HGC2:=za (fun w' (hb:Below w.heap.size w w')=>(show w'.cell? ⟨bg,og+g*3+2,none⟩=some (.int .i64 u.guards[g].at')from by
    obtain⟨b',o',e,_,_,_,h2⟩:=HGC.out w' hb;cases e
    exact h2))
   generalize u.guards[g].at'=at0 at *;have HAD:=za (fun(wx:World) (pa:Nat) (hb:Below w2.heap.size w2 wx) (hr:yC wx (some ⟨pa,0,none⟩) [at0]) (hp:w2.heap.size<=pa)=>U_ _ v1 (yU u t) at0 pa wx (zu.later HO2.out hb) hr (by have:=HLN.out;omega) (V6 HO2.out hp) (yP (by have:=ze HX2.out;simp;omega) hb.size));have HOB:=za (zy HO2.out)
   go_wp2_with (first
    |(go_at_call 103;(with_reducible refine(HRA.out _).mono ?_);rintro e w3 ⟨rfl,hb⟩;obtain⟨j0,j1,j2,j3,j4,j5,j6,j7⟩:=VX (zb hb HX2.out);have ga2:=HGC2.out w3 (HB2.out.step hb);have HB3:=za hb;have hsz:=hb.size;clear hb)
    |(go_at_call 74;(with_reducible refine(HAD.out _ _ (HB3.out.step (zd _ _)) (yJ _ _ _) hsz).mono ?_);rintro e w9 ⟨v3,rfl,ho3,hg3,_⟩;have HO3:=za ho3;have HG3:=za hg3;clear ho3 hg3))
   go_ret;refine⟨((HB2.out.step HB3.out).step (zd _ _)).grown HG3.out (by have:=HB2.out.size;simp;omega) (fun r e=>by have h1:=HOB.out r e;have h2:=HSB.out;omega),_,rfl,by rw[HN.out];exact zu.mono HO3.out HSB.out⟩
 ·have dg:decide (0<=gl)=false:=yn hg0
  rw[dg]at HB1;have HN:Hid (Zc u t=yU u t):=za (by rw[HBS.out,HB1.out];rfl);clear dg HBS HB1;go_wp2;go_ret;exact⟨HB2.out,_,rfl,by rw[HN.out];exact zu.mono HO2.out HSB.out⟩
def U7(u:zg)(t:Nat):List Int:=if 0<=zc (u.code.getD t zw)then yG (qV (zf u) (yU u t)) [zc (u.code.getD t zw)]else qV (zf u) (yU u t)
def Xb(u:zg):Nat->Nat
 |0=>0
 |t+1=>max (max (Xb u t) ((zf u).getD t []).length) (U7 u t).length
def F5(u:zg):Nat:=Xb u u.code.length
theorem qs{x:Int}:∀ {more l:List Int},x∈yG l more↔x∈l\/x∈more
 | [],l=>by simp[yG]
 |y::more,l=>by
  have h:yG l (y::more)=yG (if l.contains y=true then l else l++ [y]) more:=rfl;rw[h,qs,xK];split
  ·rename_i hc
   have hy:y∈l:=xn.1 hc;constructor
   ·rintro(h|h)
    ·exact .inl h
    ·exact .inr (.inr h)
   ·rintro(h|rfl|h)
    ·exact .inl h
    ·exact .inl hy
    ·exact .inr h
  ·simp only[qr,qf]
   constructor
   ·rintro((h|h)|h)
    ·exact .inl h
    ·exact .inr (.inl h)
    ·exact .inr (.inr h)
   ·rintro(h|h|h)
    ·exact .inl (.inl h)
    ·exact .inl (.inr h)
    ·exact .inr h
theorem Zm{u:zg}(hp:zJ u=true){t:Nat}(ht:t<u.code.length):∀p∈yU u t,0<=p/\p<u.code.length:=by
 intro p hp2;rw[Zn,qs,zk ht]at hp2;rcases hp2 with h|h
 ·unfold XF at h
  split at h
  ·rename_i hc
   simp only[yi,yB]at hc;rw[qf.1 h];omega
  ·simp at h
 ·cases hpo:zQ u.code[t]with
  |none=>rw[hpo]at h;simp at h
  |some q=>
   rw[hpo]at h;have e:p=q:=by simpa using h
   rw[e];exact jz hp ht hpo
theorem Vv{u:zg}:∀ {f:Nat} {s:List (List Int)},jL u s->jL u (ZH u f s)
 |0,s,h=>h
 |f+1,s,h=>by
  have h1:=(jN (s:=(s,false)) h (zI _)).1;unfold ZH;split
  ·exact Vv h1
  ·exact h1
theorem yq(u:zg):jL u (zf u):=Vv (jL.first u)
theorem qJ{u:zg}(hw:zC u=true)(t:Nat):((zf u).getD t []).length<=200:=by
 have hs:=YB (zH hw);have h:=yq u
 have:=Z2 (a:=0) (n:=200) (h.so t) (fun x hx=>by
  have h1:=h.un t x hx;unfold Vm at h1;rw[List.mem_flatMap]at h1;obtain⟨y,hy,hx2⟩:=h1;obtain⟨k,hk,rfl⟩:=List.getElem_of_mem hy;simp only[zC,yi,yL]at hw;have h2:=hw.2 k (yR.2 hk);unfold qx at h2;simp only[yi,yL]at h2;have h3:=h2.1.1.1.1.1.1 x (by rw[zk hk];exact hx2);simp only[yr,yi,yB]at h3
  omega)
 omega
end Go.Proofs.YtgalekifgnecjaaGreat
