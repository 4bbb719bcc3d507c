/- The reference of layer 8: Live -/
import Derived.Test.YtgalekifgnecjaaGreatZJ
import Derived.Test.YtgalekifgnecjaaGreatX1
namespace Go.Proofs.YtgalekifgnecjaaGreat
open Tryz Go.RowKit
open Go.RowKit Go.Shelf
set_option maxHeartbeats 20000000
set_option maxRecDepth 100000
attribute [local go_sem] Oper.semAt_some
attribute [local irreducible] wpStill
theorem M3:(prog.info? 28).map (fun i=>(i.zero,i.size,i.bytes))=some (some (.slice none 0 0),1,24):=by kernel_rfl
structure P5(u:zg)(ca cc ga gc)(w:World)(b:Nat)(s:List (List Int))(wr:World):Prop where
 hb:Below w.heap.size w wr
 hu:wr.heap[w.heap.size]?=some (oU u ca cc ga gc)
 nd:IH wr b s
 lv:Oi u s
 ge:w.heap.size<b
theorem P5.below{u:zg}{ca cc ga gc}{w:World}{b:Nat}{s:List (List Int)}{wr w':World}(h:P5 u ca cc ga gc w b s wr)(hb:Below wr.heap.size wr w'):P5 u ca cc ga gc w b s w':=
 ⟨h.hb.step hb,zb hb h.hu,h.nd.below hb,h.lv,h.ge⟩
def R_(L:List (List Int))(w:World)(e:Ending)(w':World):Prop:=Below w.heap.size w w'/\∃a c,e= .returned (.slice a L.length c)/\Kt w' a L
theorem Oi.rowLen{u:zg}{s:List (List Int)}(h:Oi u s)(hn:u.code.length<=600)(t:Nat):(s.getD t []).length<=1200:=by
 have h1:=yz (h.nd t) (h.sub t);have h2:=yz (xP ((yq u).so t)) (fun x hx=>(yq u).un t x hx);have h3:=Z0 u;omega
theorem QT(L:List (List Int))(w:Int)(hL:∀t,(L.getD t []).length<=1200):∀(bs l:List Int),(bs.foldl (qN L w) l).length<=l.length+1200*bs.length
 | [],l=>by simp
 |b::bs,l=>by
  rw[qP,xv];have h1:=QT L w hL bs (qN L w l b);have h2:=qt l ((L.getD b.toNat []).filter fun m=>m !=w);have h3:=ZP (fun m=>m !=w) (L.getD b.toNat []);have h4:=hL b.toNat;unfold qN at h1 ⊢;omega
theorem Q4(l m:List Int)(y:Int):yG l (m++ [y])=yG (yG l m) [y]:=by unfold yG;rw[jc]
theorem Qb{α β: Type}(f:α-> β-> α)(a:α)(l:List β)(y:β):(l++ [y]).foldl f a=f (l.foldl f a) y:=by rw[jc];rfl
theorem U1(p:Int->Bool)(l:List Int)(y:Int):(l++ [y]).filter p=if p y=true then l.filter p++ [y]else l.filter p:=by
 rw[List.filter_append,vH];split
 ·rfl
 ·simp
theorem Vt{u:zg}(h:zJ u=true){g:jR}(hg:g∈u.guards):0<=g.at'/\g.at'<u.code.length:=by
 unfold zJ at h;simp only[yi,yL]at h;have h1:=h.2 g hg;unfold xF yr at h1;simp at h1;omega
theorem IH.row{w:World}{b:Nat}{s:List (List Int)}(h:IH w b s){k:Nat}(hk:k<s.length):∃la lc,w.cell? ⟨b,k,none⟩=some (.slice la (s.getD k []).length lc)/\yC w la (s.getD k []):=by
 obtain⟨b1,o1,e,_,la,lc,hc,hr⟩:=Kt.row h.rdm hk;injection e with e;cases e;rw[jU]at hc;exact⟨la,lc,hc,hr⟩
def Rf(u:zg)(s:List (List Int))(c:Bool):Nat:=if c=true then xT (zf u)-xT s+1 else 0
structure Fr(u:zg)(s:List (List Int))(t:Nat)(s2:List (List Int))(c2:Bool):Prop where
 no:c2=false->s2=s/\∀k,t<=k->k<u.code.length->(ja u s k).length=(s.getD k []).length
 yes:c2=true->xT s+1<=xT s2
theorem Fr.first(u:zg)(s:List (List Int)):Fr u s u.code.length s false:=⟨fun _=>⟨rfl,fun k h1 h2=>by omega⟩,fun h=>by cases h⟩
theorem Fr.stay{u:zg}{s s2:List (List Int)}{k:Nat}{c2:Bool}(h:Fr u s (k+1) s2 c2)(hne:(ja u s2 k).length=(s2.getD k []).length):Fr u s k s2 c2:=by
 refine⟨fun e=> ?_,h.yes⟩;obtain⟨h1,h2⟩:=h.no e;refine⟨h1,fun j g1 g2=> ?_⟩;by_cases ej:j=k
 ·subst ej;rw[<-h1];exact hne
 ·exact h2 j (by omega) g2
theorem Fr.step{u:zg}{s s2:List (List Int)}{k:Nat}{c2:Bool}(h:Fr u s (k+1) s2 c2)(hk:k<s2.length)(hne:(ja u s2 k).length≠(s2.getD k []).length):Fr u s k (s2.set k (ja u s2 k)) true:=by
 refine⟨fun e=>(by cases e),fun _=> ?_⟩;have h1:=Ee (u:=u) (s:=s2) hk hne
 cases c2 with
 |false=>have:=(h.no rfl).1;subst this;exact h1
 |true=>have:=h.yes rfl;omega
theorem Fr.less{u:zg}{s s2:List (List Int)}{c2:Bool}(h:Fr u s 0 s2 c2)(hl:Oi u s2):Rf u s2 c2<Rf u s true:=by
 unfold Rf;rw[zj rfl]
 cases c2 with
 |false=>simp
 |true=>
  rw[zj rfl];have h1:=h.yes rfl;have h2:=hl.total;omega
def Xw(u:zg)(s:List (List Int))(j:Nat):List (List Int):=(zf u).take j++s.drop j
theorem KX{u:zg}{s:List (List Int)}(hs:s.length=(zf u).length){j:Nat}(hj:j<=s.length):(Xw u s j).length=s.length:=by
 unfold Xw;rw[yV,xm,jH];omega
theorem FC{u:zg}{s:List (List Int)}(hs:s.length=(zf u).length){j:Nat}(hj:j<s.length):(Xw u s j).getD j []=s.getD j []:=by
 unfold Xw;rw[jI,jI,List.getElem?_append_right (by rw[xm];omega),List.getElem?_drop,xm];congr 2;omega
theorem AW{u:zg}{s:List (List Int)}(hs:s.length=(zf u).length){j:Nat}(hj:j<s.length):(Xw u s j).set j ((zf u).getD j [])=Xw u s (j+1):=by
 apply List.ext_getElem?;intro i;have hl:(Xw u s j).length=s.length:=KX hs (by omega);rw[List.getElem?_set,hl]
 have e:∀m,m<=s.length->∀i,(Xw u s m)[i]?=if i<m then(zf u)[i]? else s[i]?:=by
  intro m hm i;unfold Xw;by_cases hi:i<m
  ·rw[zj hi,List.getElem?_append_left (by rw[xm];omega),List.getElem?_take,zj hi]
  ·rw[zi hi,List.getElem?_append_right (by rw[xm];omega),List.getElem?_drop,xm]
   congr 1;omega
 rw[e j (by omega),e (j+1) (by omega)];by_cases h1:j=i
 ·subst h1
  rw[zj rfl,zj hj,zj (by omega),zk (by omega),q9 (by omega)]
 ·rw[zi h1]
  by_cases h2:i<j
  ·rw[zj h2,zj (by omega)]
  ·rw[zi h2,zi (by omega)]
theorem AX{u:zg}{s:List (List Int)}(hs:s.length=(zf u).length):Xw u s s.length=zf u:=by
 unfold Xw;rw[hs,xL,<-hs,List.drop_length,qO]
theorem Mv{u:zg}{s:List (List Int)}(hp:zJ u=true)(h:Oi u s)(hn:∀t,t<u.code.length->(ja u s t).length=(s.getD t []).length){t:Nat}{l:List Int}(h1:l.Perm (s.getD t []))(h2:l.Pairwise (· < ·)):l=(zf u).getD t []:=
 Z4 h2 ((yq u).so t) (fun x=>(h1.mem_iff).trans (h.done hp hn t x))
theorem Ei(u:zg)(ca cc ga gc)(w:World)(hm:jo w u ca cc ga gc)(hp:zJ u=true):
  Calls prog 58 #[vU u ca cc ga gc] w (R_ (zf u) w):=by
 obtain⟨hn0,hn6,hg4,-⟩:=z8 hp;have HM:=za hm;clear hm;have HPL:=za (fun w' hb=>V5 u ca cc ga gc w' (HM.out.below hb) (by omega) (by omega));rw[hp]at HPL;have HBI:=za (fun t (ht:t<u.code.length)=>Zm hp ht);have HPG:=za (fun g hg=>Vt hp (g:=g) hg);have HSR:=za (fun s (h:Oi u s) hn t l h1 h2=>Mv (u:=u) (s:=s) hp h hn (t:=t) (l:=l) h1 h2);have HST:=za (fun s (h:Oi u s) t ht=>Oi.step (u:=u) (s:=s) hp h (t:=t) ht);have HLL:Hid ((zf u).length=u.code.length):=za (yq u).len;clear hp;have hmk:=fun w=>run_make_row' (P:=prog) 95 28 (.slice none 0 0) 24 Tryz.underlying95 M3 rfl .i64 .i64 u.code.length (by omega) (by omega) w
 have HMD:=za (fun w=>MO w u.code.length);obtain⟨M,hM⟩:∃M,M=madeCells #[.slice none 0 0] u.code.length:=⟨_,rfl⟩
 rw[<-hM]at hmk HMD;clear hM;have HX1:=za (zo w (oU u ca cc ga gc) _ rfl);have HB:=za (zd w (oU u ca cc ga gc));go_enter func58,ntmps58;go_upto_region 1 with fail;obtain⟨w1,hw1⟩:∃w1,w1=w.alloc (oU u ca cc ga gc):=⟨_,rfl⟩
 rw[<-hw1]at HX1 HB;rw[<-hw1];clear hw1;obtain⟨k0,k1,k2,k3,k4,k5,k6⟩:=zr HX1.out
 go_upto_region 3 with (first
  |(go_at_call 61;(with_reducible refine(HPL.out _ HB.out).mono ?_);rintro e w2 ⟨rfl,hb⟩;obtain⟨j0,j1,j2,j3,j4,j5,j6⟩:=zr (zb hb HX1.out);have HX2:=za (zb hb HX1.out);have HB2:=za (HB.out.step hb);clear hb))
 clear k0 k1 k2 k3 k4 k5 k6;have hlt:=ze HX2.out;have HL0:Hid (P5 u ca cc ga gc w w2.heap.size (List.replicate u.code.length []) (w2.alloc (.cells M 28))):=za ⟨HB2.out.step (zd _ _),zb (zd _ _) HX2.out,HMD.out w2,Oi.first u,hlt⟩;go_upto_region 5 with fail;obtain⟨bA,hbA⟩:∃b,b=w2.heap.size:=⟨_,rfl⟩
 obtain⟨wa,hwa⟩:∃wa,wa=w2.alloc (.cells M 28):=⟨_,rfl⟩
 rw[<-hbA,<-hwa]at HL0;rw[<-hbA,<-hwa];clear hwa hbA hlt j0 j1 j2 j3 j4 j5 j6 hmk HMD HPL;go_wp2;go_loopg [5] (0+Rf u (List.replicate u.code.length []) true) (fun gh s5 wr=>∃(s:List (List Int)) (ch:Bool),gh=0+Rf u s ch/\s5= .bool ch/\Hid (P5 u ca cc ga gc w bA s wr)/\Hid (ch=false->∀t,t<u.code.length->(ja u s t).length=(s.getD t []).length));case atStart=>exact⟨_,true,rfl,rfl,HL0,za (fun e=>by cases e)⟩
 case round=>
  obtain⟨s,ch,rfl,rfl,HL,HF⟩:=hrel
  cases ch with
  |false=>
   have HNO:=za (HF.out rfl);have HSL:=za HL.out.lv.len;have HND:=za HL.out.lv.nd;have HSS:=za (fun t l h1 h2=>HSR.out s HL.out.lv HNO.out t l h1 h2);have HRL:=za (HL.out.lv.rowLen hn6);have HGE:=za HL.out.ge;clear HF HNO HSR HST HBI HPG;go_wp2;go_loopg [17] u.code.length (fun gh s17 wr=>∃j:Nat,j<=u.code.length/\gh=u.code.length-j/\s17= .int .i64 j/\Hid (Below w.heap.size w wr/\IH wr bA (Xw u s j)));case atStart=>exact⟨0,zE _,rfl,rfl,za ⟨HL.out.hb,HL.out.nd⟩⟩
   case round=>
    obtain⟨j,hj,rfl,rfl,HK⟩:=hrel;have HTL:=za (KX (u:=u) (s:=s) (by rw[HSL.out,HLL.out]) (j:=j) (by rw[HSL.out];exact hj));by_cases hlj:j<u.code.length
    ·have nj:(j:Int)<(u.code.length:Int):=by omega
     have hjs:j<s.length:=by rw[HSL.out];exact hlj
     have HAT:=za (FC (u:=u) (s:=s) (by rw[HSL.out,HLL.out]) hjs);have HSE:=za (AW (u:=u) (s:=s) (by rw[HSL.out,HLL.out]) hjs);obtain⟨la,lc,hc,hr⟩:=HK.out.2.row (k:=j) (by rw[HTL.out];exact hjs);rw[HAT.out]at hc hr;have HSO:=za (AY (s.getD j []) (HND.out j) la lc wr hr (by have:=HRL.out j;omega));have HSJ:=za (HSS.out j);have HCU:=za HK.out.2;clear hr;generalize s.getD j []=L at *;obtain⟨cur,hcur,-,-⟩:=HK.out.2;have fA:=zF j hcur;go_wp2_with (go_at_call 123;(with_reducible refine HSO.out.mono ?_);rintro e w5 ⟨hb5,v5,l5,rfl,hv5,hp5,hs5⟩;obtain⟨a5,c5,rfl,-,-,-⟩:=hv5.ex;have HB5:=za hb5;have HV5:=za hv5;have HQ5:=za (HSJ.out l5 hp5 hs5);have fB:=zF j (zb hb5 hcur);have hc5:=zK hb5 hc;clear hb5 hv5 hp5 hs5);go_roundg (u.code.length-(j+1));case measure=>omega
     case rel=>exact⟨j+1,by omega,rfl,by go_num,za ⟨(HK.out.1.step HB5.out).setCell (p:=⟨bA,j,none⟩) (by show w.heap.size<=bA;have:=HGE.out;omega) _,by rw[<-HSE.out,<-HQ5.out];exact(HCU.out.below HB5.out).set (by rw[HTL.out];exact hjs) HV5.out⟩⟩
    ·obtain rfl:j=u.code.length:=by omega
     have nj:¬(u.code.length:Int)<(u.code.length:Int):=by omega
     have HAL:=za (AX (u:=u) (s:=s) (by rw[HSL.out,HLL.out]));rw[HSL.out]at HAL;rw[HAL.out]at HK;go_wp2;go_ret
     exact⟨HK.out.1,some ⟨bA,0,none⟩,u.code.length,by rw[HLL.out];rfl,HK.out.2.rdm⟩
  |true=>
   have hn1:(1:Int)<=(u.code.length:Int):=by omega
   clear HF;go_upto_region 8 with fail;go_wp2;go_loopg [5,6] (0+u.code.length) (fun gh s5 s6 wr=>∃(t:Nat) (x:Int) (s2:List (List Int)) (c2:Bool),gh=0+t/\t<=u.code.length/\x+1=(t:Int)/\s6= .int .i64 x/\s5= .bool c2/\Hid (P5 u ca cc ga gc w bA s2 wr)/\Hid (Fr u s t s2 c2));case atStart=>exact⟨u.code.length,_,s,false,by omega,zI _,by omega,rfl,rfl,HL,za (Fr.first u s)⟩
   case round=>
    obtain⟨t,x,s2,c2,rfl,ht,hx,rfl,rfl,HL2,HE⟩:=hrel
    cases t with
    |zero=>
     have nx:¬(0:Int)<=x:=by omega
     have hless:=HE.out.less HL2.out.lv
     have HF2:Hid (c2=false->∀t,t<u.code.length->(ja u s2 t).length=(s2.getD t []).length):=za (fun e t ht=>by
      obtain⟨h1,h2⟩:=HE.out.no e;rw[h1]
      exact h2 t (zE _) ht)
     go_wp2;go_roundg (0+Rf u s2 c2);case measure=>omega
     case rel=>exact⟨s2,c2,rfl,rfl,HL2,HF2⟩
    |succ k=>
     obtain rfl:x=(k:Int):=by omega
     have nx:(0:Int)<=(k:Int):=by omega
     have hk:k<u.code.length:=by omega
     have hkn:(k:Int)<(u.code.length:Int):=by omega
     have hk6:(k:Int)<=600:=by omega
     have hks:k<s2.length:=by have:=HL2.out.lv.len;omega
     obtain⟨W0,rfl⟩:∃W0,W0=wr:=⟨_,rfl⟩
     obtain⟨la,lc,hcN,hrN⟩:=HL2.out.nd.row hks;have HRL:=za (fun t=>HL2.out.lv.rowLen hn6 t);have HL0L:Hid ((s2.getD k []).length<=1200):=za (HRL.out k);have HNW:Hid (ja u s2 k=yG ((yU u k).foldl (qN s2 (zc (u.code.getD k zw))) (yG (s2.getD k []) (zp (u.code.getD k zw)))) (Js u s2 k)):=za rfl;have HGR:Hid (Js u s2 k=if (yZ (u.code.getD k zw)&&decide (0<=zD u k))=true then s2.getD (u.guards.getD (zD u k).toNat jF).at'.toNat []else []):=za rfl;rw[zk hk]at HNW HGR;have HRD:=za (XS u.code[k]);have HWR:=za (ZY u.code[k]);have HRS:=za (J2 u.code[k]);have HBY:=za (fun wx (hb:Below w.heap.size w wx)=>R1 u k hk hn6 ca cc ga gc wx (HM.out.rc.below hb));have HGD:=za (fun wx (hb:Below w.heap.size w wx)=>Ia u k ca cc ga gc wx (HM.out.rg.below hb) (by omega));have HR2:=za (xD u.code[k]);have HBL:=za (Zl u k);have HBIN:=za (HBI.out k hk);have HSTAY:=za (fun(e:(ja u s2 k).length=(s2.getD k []).length)=>HE.out.stay e);have HSTEP:=za (fun(e:(ja u s2 k).length≠(s2.getD k []).length)=>HE.out.step hks e);have HSTL:=za (HST.out s2 HL2.out.lv k hk);have HIC:=za (fun wx (hb:Below w.heap.size w wx)=>(HM.out.rc.below hb) k hk)
     have hq:zD u k= -1\/∃m:Nat,zD u k=m/\m<u.guards.length:=by
      have h:=Zr (yH (k:Int)) u.guards;have e:zD u k=Ya (yH (k:Int)) u.guards:=rfl;by_cases h0:zD u k= -1
      ·exact .inl h0
      ·exact .inr ⟨(zD u k).toNat,by omega,by omega⟩
     have HQ:=za hq;clear hq HE;generalize zD u k=q at *;generalize yU u k=B at *;generalize Js u s2 k=G at *;generalize ja u s2 k=NW at *;generalize u.code[k]=i at *;generalize zp i=R at *;generalize zc i=WI at *;generalize yZ i=br at *;obtain⟨L0,hL0⟩:∃L,L=s2.getD k []:=⟨_,rfl⟩
     rw[<-hL0]at hcN hrN HL0L HNW HSTAY HSTEP;have HEL:=za hL0;clear hL0;have HUX:=za (fun wx (hb:Below W0.heap.size W0 wx)=>zb hb HL2.out.hu);have HCN:=za (fun wx (hb:Below W0.heap.size W0 wx)=>zK hb hcN);have hcNa:=HCN.out _ (zd W0 (.cells #[] 3));obtain⟨bc,oc,hca,hlc,c0,c1,c2,c3⟩:=HIC.out _ HL2.out.hb;subst hca;clear c0 c1 c2 c3 hlc
     go_upto_region 13 with (first
      |(at_builtin;refine zv _ rfl _ _ rfl W0.heap.size _ [] L0 rfl (zu.none (zI _) (zo _ _ _ rfl)) la lc rfl (hrN.below (zd _ _)) (by simp;have:=HL0L.out;omega) (by simp) ?_;intro v1 w3 hown1 hg1 hat1;have HO1:Hid (zu w3 W0.heap.size v1 L0):=za (by simpa using hown1);have HB1:Hid (Below W0.heap.size W0 w3):=za (xX (zd _ _) hg1 (by simp) (zy (zu.none (base:=W0.heap.size) (w:=W0.alloc (.cells #[] 3)) (zI _) (zo _ _ _ rfl))));clear hown1 hg1 hat1;obtain⟨k0,k1,k2,k3,k4,k5,k6⟩:=zr (HUX.out _ HB1.out);obtain⟨b3,o3,e3,hl3,c0,c1,c2,c3⟩:=HIC.out _ (HL2.out.hb.step HB1.out);cases e3)
      |(go_at_call 115;(with_reducible refine(HRD.out _).mono ?_);rintro e w4 ⟨hb4,v4,rfl,ho4⟩;have HB4:=za hb4;have HO4:=za ho4;clear hb4 ho4))
     clear k0 k1 k2 k3 k4 k5 k6 c0 c1 c2 c3 hl3 hcNa;obtain⟨ra,rc,rfl,hgi⟩:=Of.of HO1.out HB4.out HO4.out (zI _);have HGI:=za hgi;have HBW:=za (HB1.out.step HB4.out);clear hgi HO1 HB1 HO4 HB4 hrN hcN;have hr2:=HR2.out;have hl0:=HL0L.out;have hbl:=HBL.out;go_wp2;go_loopg [7,9] R.length (fun gh s7 s9 wr=>∃j:Nat,j<=R.length/\gh=R.length-j/\s9= .int .i64 j/\Hid (Of W0.heap.size ra R wr s7 (yG L0 (R.take j))/\Below W0.heap.size W0 wr));case atStart=>exact⟨0,zE _,rfl,rfl,za ⟨HGI.out,HBW.out⟩⟩
     case round=>
      clear HGI HBW;obtain⟨j,hj,rfl,rfl,HK⟩:=hrel;by_cases hlj:j<R.length
      ·obtain⟨rb,ro,hra,hltr,h0⟩:=HK.out.1.rd j hlj
       subst hra;have nj:(j:Int)<(R.length:Int):=by omega
       have HT:Hid (R.take (j+1)=R.take j++ [R[j]]):=za (zO hlj);have HSN:=za (Q4 L0 (R.take j) R[j]);rw[<-HT.out]at HSN;have hln:=qt L0 (R.take j);rw[xm,Nat.min_eq_left hj]at hln;have HAD:=za (fun y=>Oa W0.heap.size u7 (yG L0 (R.take j)) y wr HK.out.1.own (by omega) HK.out.2.size);generalize R[j]=y at *;go_wp2_with (go_at_call 119;(with_reducible refine(HAD.out _).mono ?_);rintro e w6 hA6;obtain⟨v6,rfl,hg6,hgr6⟩:=Of.add HK.out.1 hA6;have HG6:=za hg6;have HR6:=za (Of.grown HK.out.1 HK.out.2 (zI _) hgr6);clear hA6 hg6 hgr6);go_roundg (R.length-(j+1));case measure=>omega
       case rel=>exact⟨j+1,by omega,rfl,by go_num,za ⟨by rw[HSN.out];exact HG6.out,HR6.out⟩⟩
      ·obtain rfl:j=R.length:=by omega
       have nj:¬(R.length:Int)<(R.length:Int):=by omega
       rw[xL]at HK;obtain⟨A0,hA0⟩:∃A,A=yG L0 R:=⟨_,rfl⟩
       have HA0L:Hid (A0.length<=1202):=za (by have:=qt L0 R;rw[hA0];omega);rw[<-hA0]at HK HNW;clear hA0;obtain⟨k0,k1,k2,k3,k4,k5,k6⟩:=zr (HUX.out _ HK.out.2);obtain⟨b3,o3,e3,hl3,c0,c1,c2,c3⟩:=HIC.out _ (HL2.out.hb.step HK.out.2);cases e3
       go_upto_region 19 with (first
        |(go_at_call 82;(with_reducible refine(HWR.out _).mono ?_);rintro e w5 ⟨rfl,hb5⟩;have HB5:=za (HK.out.2.step hb5);have HG5:=za (HK.out.1.own.later hb5);obtain⟨j0,j1,j2,j3,j4,j5,j6⟩:=zr (HUX.out _ HB5.out);clear hb5)
        |(go_at_call 120;(with_reducible refine(HBY.out _ (HL2.out.hb.step HB5.out)).mono ?_);rintro e w6 ⟨hb6,v6,rfl,ho6⟩;have HB6:=za hb6;have HO6:=za ho6;clear hb6 ho6))
       clear k0 k1 k2 k3 k4 k5 k6 j0 j1 j2 j3 j4 j5 j6 c0 c1 c2 c3 hl3;obtain⟨ba,bcc,rfl,hgi⟩:=Of.of HG5.out HB6.out HO6.out (zI _);have HGI:=za hgi;have HBW:=za (HB5.out.step HB6.out);clear hgi HK HB5 HG5 HB6 HO6 nj;go_wp2;go_loopg [7,12] B.length (fun gh s7 s12 wr=>∃j:Nat,j<=B.length/\gh=B.length-j/\s12= .int .i64 j/\Hid (Of W0.heap.size ba B wr s7 ((B.take j).foldl (qN s2 WI) A0)/\Below W0.heap.size W0 wr));case atStart=>exact⟨0,zE _,rfl,rfl,za ⟨HGI.out,HBW.out⟩⟩
       case round=>
        clear HGI HBW;obtain⟨j,hj,rfl,rfl,HK⟩:=hrel;by_cases hlj:j<B.length
        ·obtain⟨bb,bo,hba,hltb,h0⟩:=HK.out.1.rd j hlj
         subst hba;have nj:(j:Int)<(B.length:Int):=by omega
         have HT:Hid (B.take (j+1)=B.take j++ [B[j]]):=za (zO hlj);have HSN:=za (Qb (qN s2 WI) A0 (B.take j) B[j]);rw[<-HT.out]at HSN;have hln:=QT s2 WI HRL.out (B.take j) A0;rw[xm,Nat.min_eq_left hj]at hln;have ha0:=HA0L.out;have hpin:=HBIN.out B[j] (yy hlj);have HBJ:Hid (∀wx,yC wx (some ⟨bb,bo,none⟩) B->wx.cell? ⟨bb,bo+j,none⟩=some (.int .i64 B[j])):=za (fun wx hg=>by obtain⟨b9,o9,e9,_,h9⟩:=hg j hlj;cases e9;exact h9);generalize B[j]=p at *;obtain⟨pn,rfl⟩:∃pn:Nat,p=pn:=⟨p.toNat,by omega⟩
         have hpn:pn<s2.length:=by have:=HL2.out.lv.len;omega
         have npl:(pn:Int)<(u.code.length:Int):=by omega
         obtain⟨pa,pc,hcP,hrP⟩:=HL2.out.nd.row hpn;have HCP:=za (fun wx (hb:Below W0.heap.size W0 wx)=>And.intro (zK hb hcP) (hrP.below hb));have HRPL:=za (HRL.out pn);have HSJ:Hid (qN s2 WI ((B.take j).foldl (qN s2 WI) A0) (pn:Int)=yG ((B.take j).foldl (qN s2 WI) A0) ((s2.getD pn []).filter fun m=>m !=WI)):=za (by unfold qN;rw[qQ]);rw[HSJ.out]at HSN;clear HSJ hcP hrP hpin h0;generalize s2.getD pn []=Rp at *;obtain⟨A',hA'⟩:∃A',A'=(B.take (j+1)).foldl (qN s2 WI) A0:=⟨_,rfl⟩
         rw[<-hA']at HSN;have HA':=za hA';clear hA';generalize (B.take j).foldl (qN s2 WI) A0=A at *;have hrpl:=HRPL.out;go_wp2;go_loopg [7,13] Rp.length (fun gh s7 s13 wr=>∃m:Nat,m<=Rp.length/\gh=Rp.length-m/\s13= .int .i64 m/\Hid (Of W0.heap.size (some ⟨bb,bo,none⟩) B wr s7 (yG A ((Rp.take m).filter fun x=>x !=WI))/\Below W0.heap.size W0 wr));case atStart=>exact⟨0,zE _,rfl,rfl,za ⟨HK.out.1,HK.out.2⟩⟩
         case round=>
          clear HK;obtain⟨m,hm1,rfl,rfl,HK⟩:=hrel;have h0:=HBJ.out _ HK.out.1.rd;have hcp:=(HCP.out _ HK.out.2).1;by_cases hlm:m<Rp.length
          ·obtain⟨qb,qo,hqa,hlq,hy⟩:=(HCP.out _ HK.out.2).2 m hlm
           subst hqa;have nm:(m:Int)<(Rp.length:Int):=by omega
           have HTm:Hid (Rp.take (m+1)=Rp.take m++ [Rp[m]]):=za (zO hlm);have HFm:=za (U1 (fun x=>x !=WI) (Rp.take m) Rp[m]);rw[<-HTm.out]at HFm;have hlf:=ZP (fun x=>x !=WI) (Rp.take m);rw[xm,Nat.min_eq_left hm1]at hlf;have hla:=qt A ((Rp.take m).filter fun x=>x !=WI);have HAD:=za (fun y=>Oa W0.heap.size u7 (yG A ((Rp.take m).filter fun x=>x !=WI)) y wr HK.out.1.own (by omega) HK.out.2.size);have HS1:=za (Q4 A ((Rp.take m).filter fun x=>x !=WI) Rp[m]);generalize Rp[m]=y at *
           cases hyw:(y==WI)with
           |true=>
            have HF2:Hid ((Rp.take (m+1)).filter (fun x=>x !=WI)=(Rp.take m).filter (fun x=>x !=WI)):=za (by rw[HFm.out,zi (by simp[bne,hyw])]);clear HS1 HFm;go_wp2;go_roundg (Rp.length-(m+1));case measure=>omega
            case rel=>exact⟨m+1,by omega,rfl,by go_num,za ⟨by rw[HF2.out];exact HK.out.1,HK.out.2⟩⟩
           |false=>
            have HF2:Hid ((Rp.take (m+1)).filter (fun x=>x !=WI)=(Rp.take m).filter (fun x=>x !=WI)++ [y]):=za (by rw[HFm.out,zj (by simp[bne,hyw])]);clear HFm;go_wp2_with (go_at_call 119;(with_reducible refine(HAD.out _).mono ?_);rintro e w6 hA6;obtain⟨v6,rfl,hg6,hgr6⟩:=Of.add HK.out.1 hA6;have HG6:=za hg6;have HR6:=za (Of.grown HK.out.1 HK.out.2 (zI _) hgr6);clear hA6 hg6 hgr6);go_roundg (Rp.length-(m+1));case measure=>omega
            case rel=>exact⟨m+1,by omega,rfl,by go_num,za ⟨by rw[HF2.out,HS1.out];exact HG6.out,HR6.out⟩⟩
          ·obtain rfl:m=Rp.length:=by omega
           have nm:¬(Rp.length:Int)<(Rp.length:Int):=by omega
           rw[xL]at HK;go_wp2;go_roundg (B.length-(j+1));case measure=>omega
           case rel=>exact⟨j+1,by omega,rfl,by go_num,za ⟨by rw[<-HA'.out,HSN.out];exact HK.out.1,HK.out.2⟩⟩
        ·obtain rfl:j=B.length:=by omega
         have nj:¬(B.length:Int)<(B.length:Int):=by omega
         rw[xL]at HK;have HA1L:=za (QT s2 WI HRL.out B A0);generalize B.foldl (qN s2 WI) A0=A1 at *;have ha1:A1.length<=10000:=by have:=HA1L.out;have:=HA0L.out;omega
         obtain⟨k0,k1,k2,k3,k4,k5,k6⟩:=zr (HUX.out _ HK.out.2);go_upto_region 28 with (go_at_call 121;(with_reducible refine(HGD.out _ (HL2.out.hb.step HK.out.2)).mono ?_);rintro e w5 ⟨rfl,hb5⟩;have HB5:=za (HK.out.2.step hb5);have HO5:=za (HK.out.1.own.later hb5);clear hb5);clear k0 k1 k2 k3 k4 k5 k6 HK HRD HWR HBY HGD HBIN nj;obtain⟨k0,k1,k2,k3,k4,k5,k6⟩:=zr (HUX.out _ HB5.out);obtain⟨b3,o3,e3,hl3,c0,c1,c2,c3⟩:=HIC.out _ (HL2.out.hb.step HB5.out);cases e3;have HA1:=za ha1;clear ha1 hl3;go_cut [120]from 111 to 119 (fun s120 wy=>s120= .bool (br&&decide (0<=q))/\Hid (Below w5.heap.size w5 wy))
         case first=>
          cases br with
          |false=>
           go_wp2_with (go_at_call 122;(with_reducible refine(HRS.out _).mono ?_);rintro e w6 ⟨rfl,hb6⟩;have HB6:=za hb6;clear hb6);go_meet
           exact⟨rfl,HB6⟩
          |true=>
           rcases HQ.out with rfl|⟨m,rfl,hm2⟩
           ·go_wp2_with (go_at_call 122;(with_reducible refine(HRS.out _).mono ?_);rintro e w6 ⟨rfl,hb6⟩;have HB6:=za hb6;clear hb6)
            go_meet;exact⟨rfl,HB6⟩
           ·have nm0:(0:Int)<=(m:Int):=by omega
            have nmd:decide ((0:Int)<=(m:Int))=true:=zP nm0;go_wp2_with (go_at_call 122;(with_reducible refine(HRS.out _).mono ?_);rintro e w6 ⟨rfl,hb6⟩;have HB6:=za hb6;clear hb6);go_meet;exact⟨by rw[nmd];rfl,HB6⟩
         case rest=>
         obtain⟨rfl,HB6⟩:=hcut;clear k0 k1 k2 k3 k4 k5 k6 c0 c1 c2 c3;obtain⟨w6,rfl⟩:∃w6,w6=wc:=⟨_,rfl⟩
         go_upto_if 120 with fail;go_cut [7,15,16]from 120 to 144 (fun s7 s15 s16 wy=>Hid (zu wy W0.heap.size s7 NW)/\Hid (Below W0.heap.size W0 wy))
         case first=>
          cases hbq:(br&&decide (0<=q))with
          |false=>
           have HNW2:Hid (NW=A1):=za (by rw[HNW.out,HGR.out.trans (zi (by rw[hbq];simp))];rfl);go_wp2;go_meet
           exact⟨by rw[HNW2.out];exact za (zu.later HO5.out HB6.out),za (HB5.out.step HB6.out)⟩
          |true=>
           have hq2:∃m:Nat,q=m/\m<u.guards.length:=by
            rcases HQ.out with h|h
            ·rw[h]at hbq;simp at hbq
            ·exact h
           replace HGR:=za (HGR.out.trans (zj hbq));clear hbq HQ;obtain⟨m,rfl,hm2⟩:=hq2;have HPIN:=za (HPG.out u.guards[m] (yy hm2));have HG2:=HGR;rw[qQ,zk hm2]at HG2;have HGC:=za (fun wx (hb:Below w.heap.size w wx)=>(HM.out.rg.below hb) m hm2);generalize u.guards[m]=g at *;obtain⟨gf,gt,gat⟩:=g;dsimp only at HG2 HPIN HGC;obtain⟨pn,rfl⟩:∃pn:Nat,gat=pn:=⟨gat.toNat,by have:=HPIN.out;omega⟩
           rw[qQ]at HG2;have hpin:=HPIN.out;have hpn:pn<s2.length:=by have:=HL2.out.lv.len;omega
           have npl:(pn:Int)<(u.code.length:Int):=by omega
           have nm:(m:Int)<(u.guards.length:Int):=by omega
           have nm0:(0:Int)<=(m:Int):=by omega
           obtain⟨pa,pc,hcP,hrP⟩:=HL2.out.nd.row hpn;have HCP:=za (fun wx (hb:Below W0.heap.size W0 wx)=>And.intro (zK hb hcP) (hrP.below hb));have HRPL:=za (HRL.out pn);rw[HG2.out]at HNW;clear HG2 HGR hcP hrP hpin HPIN;generalize s2.getD pn []=Rp at *;obtain⟨gb,go,hga,hltg,e0,e1,e2⟩:=HGC.out _ (HL2.out.hb.step HB5.out);subst hga;clear e0 e1 e2 hltg;obtain⟨k0,k1,k2,k3,k4,k5,k6⟩:=zr (HUX.out _ (HB5.out.step HB6.out));obtain⟨g3,o4,e4,hl4,d0,d1,d2⟩:=HGC.out _ (HL2.out.hb.step (HB5.out.step HB6.out));cases e4;have hrpl:=HRPL.out;have ha1:=HA1.out;go_wp2;go_loopg [7,16] Rp.length (fun gh s7 s16 wr=>∃j:Nat,j<=Rp.length/\gh=Rp.length-j/\s16= .int .i64 j/\Hid (zu wr W0.heap.size s7 (yG A1 (Rp.take j))/\Below W0.heap.size W0 wr));case atStart=>exact⟨0,zE _,rfl,rfl,za ⟨zu.later HO5.out HB6.out,HB5.out.step HB6.out⟩⟩
           case round=>
            clear HO5 HB5 HB6;obtain⟨j,hj,rfl,rfl,HK⟩:=hrel;have hcp:=(HCP.out _ HK.out.2).1;by_cases hlj:j<Rp.length
            ·obtain⟨qb,qo,hqa,hlq,hy⟩:=(HCP.out _ HK.out.2).2 j hlj
             subst hqa;have nj:(j:Int)<(Rp.length:Int):=by omega
             have HT:Hid (Rp.take (j+1)=Rp.take j++ [Rp[j]]):=za (zO hlj);have HSN:=za (Q4 A1 (Rp.take j) Rp[j]);rw[<-HT.out]at HSN;have hln:=qt A1 (Rp.take j);rw[xm,Nat.min_eq_left hj]at hln;have HAD:=za (fun y=>Oa W0.heap.size u7 (yG A1 (Rp.take j)) y wr HK.out.1 (by omega) HK.out.2.size);generalize Rp[j]=y at *;go_wp2_with (go_at_call 119;(with_reducible refine(HAD.out _).mono ?_);rintro e w6 ⟨v6,rfl,ho6,hg6,-⟩;have HO6:=za ho6;have HR6:=za (xX HK.out.2 hg6 HK.out.2.size (zy HK.out.1));clear ho6 hg6);go_roundg (Rp.length-(j+1));case measure=>omega
             case rel=>exact⟨j+1,by omega,rfl,by go_num,za ⟨by rw[HSN.out];exact HO6.out,HR6.out⟩⟩
            ·obtain rfl:j=Rp.length:=by omega
             have nj:¬(Rp.length:Int)<(Rp.length:Int):=by omega
             rw[xL]at HK;go_wp2;go_meet;exact⟨by rw[HNW.out];exact za HK.out.1,za HK.out.2⟩
         case rest=>
          obtain⟨HO,HBC⟩:=hcut;clear HO5 HB5 HRS HQ;have HV7:=za (YU HO.out);obtain⟨a7,c7,rfl,-⟩:=HO.out.rd;have hcl:=HCN.out _ HBC.out;have HLc:=za (HL2.out.below HBC.out);by_cases hne:NW.length=L0.length
          ·have nb:((NW.length:Int)==(L0.length:Int))=true:=by simp[hne]
           have HTS:=za (HSTAY.out hne);go_wp2;go_roundg (0+k);case measure=>omega
           case rel=>exact⟨k,(k:Int)-1,s2,c2,rfl,by omega,by omega,by go_num,rfl,HLc,HTS⟩
          ·have nb:((NW.length:Int)==(L0.length:Int))=false:=by simp;omega
           have HTS:=za (HSTEP.out hne);obtain⟨cur,hcur,-,-⟩:=HLc.out.nd;have fA:=zF k hcur;have HLS:Hid (P5 u (some ⟨bc,oc,none⟩) cc ga gc w bA (s2.set k NW) (wc.setCell ⟨bA,k,none⟩ (.slice a7 NW.length c7))):=za ⟨HLc.out.hb.setCell (p:=⟨bA,k,none⟩) (by show w.heap.size<=bA;have:=HL2.out.ge;omega) _,(yF _ _ _ _ (by show w.heap.size≠bA;have:=HL2.out.ge;omega)).trans HLc.out.hu,HLc.out.nd.set hks HV7.out,HSTL.out,HL2.out.ge⟩;clear hcur;go_wp2;go_roundg (0+k);case measure=>omega
           case rel=>exact⟨k,(k:Int)-1,_,true,rfl,by omega,by omega,by go_num,rfl,HLS,HTS⟩
def Al(code:List zm)(i:Nat):Bool:=!(ZN (code.getD i zw)&&decide (0<i)&&jQ (code.getD (i-1) zw))
def Zs(code:List zm)(f:Nat):Nat->Bool
 |0=>true
 |c+1=>Zs code f c&&(jQ (code.getD (f+c) zw)&&(code.getD (f+c) zw).a==(c:Int))
theorem Ex(code:List zm)(i f:Nat):Ib code i f=Zs code f (i-f):=by
 unfold Ib;generalize i-f=n
 induction n with
 |zero=>rfl
 |succ n ih=>
  rw[Ze,List.all_append,ih];simp[Zs]
theorem V8{code:List zm}{out:List Int}{i:Nat}(h:Ey code i=false):X7 code out i=out:=zi (by rw[h];simp)
theorem LJ{code:List zm}{i:Nat}(h:Al code i=true):Ey code i=false:=by
 unfold Al at h;unfold Ey;simp only[jb]at h;rw[h];simp
theorem PO{code:List zm}{i:Nat}(h:¬(0<=V9 code i/\V9 code i<i)):Ey code i=false:=by
 unfold Ey;by_cases h1:0<=V9 code i
 ·have h2:¬V9 code i<i:=fun h2=>h ⟨h1,h2⟩
  simp[h2]
 ·simp[h1]
theorem PN{code:List zm}{i f:Nat}(h:Al code i=false)(hf:V9 code i=f)(hfi:f<i):Ey code i=Zs code f (i-f):=by
 unfold Al at h;simp only[Bool.not_eq_false']at h;unfold Ey;rw[h,hf,qQ,Ex];have h1:decide ((0:Int)<=(f:Int))=true:=by simp
 have h2:decide ((f:Int)<(i:Int))=true:=by simp;omega
 rw[h1,h2];simp
theorem Ew{code:List zm}{out:List Int}{i f:Nat}(h:Ey code i=true)(hf:V9 code i=f):X7 code out i=xQ out f f (i+1-f):=by
 unfold X7;rw[zj h,hf,qQ]
structure Fl(u:zg)(ca cc ga gc)(w:World)(l:List Int)(wr:World):Prop where
 bi:BI wr (w.heap.size+1) l
 hb:Below w.heap.size w wr
 hu:wr.heap[w.heap.size]?=some (oU u ca cc ga gc)
theorem Fl.below{u:zg}{ca cc ga gc}{w:World}{l:List Int}{wr w':World}(h:Fl u ca cc ga gc w l wr)(hb:Below wr.heap.size wr w'):Fl u ca cc ga gc w l w':=
 ⟨h.bi.below hb,h.hb.step hb,zb hb h.hu⟩
theorem Fl.set{u:zg}{ca cc ga gc}{w:World}{l:List Int}{wr:World}(h:Fl u ca cc ga gc w l wr){k:Nat}(hk:k<l.length)(v:Int):Fl u ca cc ga gc w (l.set k v) (wr.setCell ⟨w.heap.size+1,k,none⟩ (.int .i64 v)):=
 ⟨h.bi.set hk v,h.hb.setCell (p:=⟨w.heap.size+1,k,none⟩) (by show w.heap.size<=w.heap.size+1;omega) _,(yF _ _ _ _ (by show w.heap.size≠w.heap.size+1;omega)).trans h.hu⟩
theorem G6(u:zg)(ca cc ga gc)(w:World)(hm:jo w u ca cc ga gc)(hlen:u.code.length<=1000000)(hab:∀x∈u.code,-9223372036854775808<=x.a/\x.a<=9223372036854775807):
  Calls prog 54 #[vU u ca cc ga gc] w (Mo (zl u.code) w):=by
 have HM:=za hm;clear hm;have HAB:=za hab;clear hab;have HFIN:=za (DL u.code);have hmk:=fun w=>run_make_row' (P:=prog) 28 3 (.int .i64 0) 8 Tryz.underlying28 GV rfl .i64 .i64 u.code.length (by omega) (by omega) w
 have HMD:=za (fun w=>Gc w u.code.length);obtain⟨M,hM⟩:∃M,M=madeCells #[.int .i64 0] u.code.length:=⟨_,rfl⟩
 rw[<-hM]at hmk HMD;clear hM;have HX1:=za (zb (zd _ (.cells M 3)) (zo w (oU u ca cc ga gc) _ rfl));have HB:=za ((zd w (oU u ca cc ga gc)).step (zd _ (.cells M 3)));have HG:=za (HMD.out (w.alloc (oU u ca cc ga gc)));rw[vJ]at HG;clear HMD;go_enter func54,ntmps54;go_upto_region 2 with fail;obtain⟨w2,hw2⟩:∃w2,w2=(w.alloc (oU u ca cc ga gc)).alloc (.cells M 3):=⟨_,rfl⟩
 rw[<-hw2]at HX1 HB HG;rw[<-hw2];clear hw2 hmk;have HI0:Hid (Fl u ca cc ga gc w (Am u.code 0) w2):=za ⟨HG.out,HB.out,HX1.out⟩;clear HX1 HB HG;go_wp2;go_loopg [4] u.code.length (fun gh s4 wr=>∃k:Nat,k<=u.code.length/\gh=u.code.length-k/\s4= .int .i64 k/\Hid (Fl u ca cc ga gc w (Am u.code k) wr));case atStart=>exact⟨0,zE _,rfl,rfl,HI0⟩
 case round=>
  obtain⟨k,hk,rfl,rfl,HK⟩:=hrel;by_cases hlk:k<u.code.length
  ·have nk:(k:Int)<(u.code.length:Int):=by omega
   have lfs:k<(Am u.code k).length:=by rw[Xk];exact hlk
   have HS:Hid (Am u.code (k+1)=(Am u.code k).set k (if jQ u.code[k]=true then -1 else k)):=za (by show qi u.code (Am u.code k) k=_;unfold qi;rw[zk hlk]);have HAR:Hid (jQ u.code[k]=(u.code[k].op==19)):=za rfl;obtain⟨b2,off,ha,hlt2,c0,c1,c2,c3⟩:=(HM.out.rc.below HK.out.hb) k hlk;obtain⟨b3,off3,ha3,hlt3,d0,d1,d2,d3⟩:=(HM.out.rc.below (HK.out.set lfs k).hb) k hlk;subst ha;cases ha3;have hfr:=HK.out.bi.frozen k;have hfr2:=(HK.out.set lfs k).bi.frozen k;obtain⟨k0,k1,k2,k3,k4,k5,k6⟩:=zr HK.out.hu;obtain⟨j0,j1,j2,j3,j4,j5,j6⟩:=zr (HK.out.set lfs k).hu;obtain⟨old,hold⟩:∃v,wr.cell? ⟨w.heap.size+1,k,none⟩=some v:=⟨_,HK.out.bi.at lfs⟩
   have lw1:w.heap.size+1<wr.heap.size:=HK.out.bi.lt;generalize u.code[k]=x at *
   cases ha:(x.op==19)with
   |true=>
    rw[HAR.out,ha,zj rfl]at HS;go_wp2;go_roundg (u.code.length-(k+1));case measure=>omega
    case rel=>
     refine⟨k+1,by omega,rfl,by go_num,za ?_⟩;have h2:=(HK.out.set lfs k).set (k:=k) (by rw[List.length_set];exact lfs) (-1);rw[List.set_set]at h2;rw[HS.out]
     exact h2
   |false=>
    rw[HAR.out,ha,zi (by simp)]at HS;go_wp2;go_roundg (u.code.length-(k+1));case measure=>omega
    case rel=>exact⟨k+1,by omega,rfl,by go_num,za (by rw[HS.out];exact HK.out.set lfs k)⟩
  ·obtain rfl:k=u.code.length:=by omega
   have nk:¬(u.code.length:Int)<(u.code.length:Int):=by omega
   have HI1:Hid (Fl u ca cc ga gc w (JD u.code 0) wr):=za HK.out;clear HK HI0;obtain⟨W0,rfl⟩:∃W0,W0=wr:=⟨_,rfl⟩
   go_wp2;go_loopg [5] u.code.length (fun gh s5 wr=>∃k:Nat,k<=u.code.length/\gh=u.code.length-k/\s5= .int .i64 k/\Hid (Fl u ca cc ga gc w (JD u.code k) wr));case atStart=>exact⟨0,zE _,rfl,rfl,HI1⟩
   case round=>
    clear nk;obtain⟨k,hk,rfl,rfl,HK⟩:=hrel;by_cases hlk:k<u.code.length
    ·have nk:(k:Int)<(u.code.length:Int):=by omega
     have HS:Hid (JD u.code (k+1)=X7 u.code (JD u.code k) k):=za rfl;have HLT:Hid ((JD u.code k).length=u.code.length):=za (Zx u.code k);have HRC:=za (fun wx (hb:Below w.heap.size w wx) q (hq:q<u.code.length)=>(HM.out.rc.below hb) q hq);obtain⟨b2,off,ha,hlt2,c0,c1,c2,c3⟩:=HRC.out _ HK.out.hb k hlk;subst ha;generalize JD u.code k=OUT at *;have HXC:Hid (ZN u.code[k]= !((u.code[k].op !=20)&&(u.code[k].op !=22))):=za (by unfold ZN bne;cases (u.code[k].op==20)<;>cases (u.code[k].op==22)<;>rfl);obtain⟨k0,k1,k2,k3,k4,k5,k6⟩:=zr HK.out.hu;rcases Nat.eq_zero_or_pos k with h0|h0
     ·have n0:((k:Int)==0)=true:=by simp;omega
      have HN:=za (HS.out.trans (V8 (out:=OUT) (LJ (show Al u.code k=true by subst h0;simp[Al]))));have HK0:=za h0;clear h0;generalize u.code[k]=x at *;have HKB:=za (fun wx (hb:Below wr.heap.size wr wx)=>HK.out.below hb);rcases(show(x.op !=20)=false\/((x.op !=20)=true/\(x.op !=22)=false)\/((x.op !=20)=true/\(x.op !=22)=true) by cases (x.op !=20)<;>cases (x.op !=22)<;>simp)with e20|⟨e20,e22⟩|⟨e20,e22⟩
      all_goals
       go_wp2;go_roundg (u.code.length-(k+1));case measure=>have:=HK0.out;omega
       case rel=>exact⟨k+1,by omega,rfl,by first|go_num|(rw[HK0.out];rfl),za (by rw[HN.out];exact HKB.out _ (zd _ _))⟩
     have n0:((k:Int)==0)=false:=by simp;omega
     go_upto_region 12 with fail;obtain⟨w3,hw3⟩:∃W,W=wr.alloc (.cells #[.int .i64 u.code[k].op,.int .i64 u.code[k].a,.int .i64 u.code[k].b,.int .i64 u.code[k].c] 85):=⟨_,rfl⟩
     obtain⟨b6,hb6⟩:∃b,b=wr.heap.size:=⟨_,rfl⟩
     have HX6:Hid (w3.heap[b6]?=some (.cells #[.int .i64 u.code[k].op,.int .i64 u.code[k].a,.int .i64 u.code[k].b,.int .i64 u.code[k].c] 85)):=za (by rw[hw3];exact zo _ _ _ hb6);have HK3:Hid (Fl u (some ⟨b2,off,none⟩) cc ga gc w OUT w3):=za (by rw[hw3];exact HK.out.below (zd _ _));rw[<-hw3,<-hb6];clear hw3 hb6 c0 c1 c2 c3 hlt2 HK k0 k1 k2 k3 k4 k5 k6;obtain⟨q0,q1,q2,q3⟩:=zX HX6.out;obtain⟨k0,k1,k2,k3,k4,k5,k6⟩:=zr HK3.out.hu;have HC:Hid (Al u.code k= !(ZN u.code[k]&&decide (0<k)&&jQ (u.code.getD (k-1) zw))):=za (by unfold Al;rw[zk hlk]);clear HX6;generalize u.code[k]=x at *;obtain⟨q,hq⟩:∃q,k=q+1:=⟨k-1,by omega⟩
     have eq1:(k:Int)-1=(q:Int):=by omega
     have hmx:max (0:Int) (q:Int)=(q:Int):=by omega
     have hql:q<u.code.length:=by omega
     have nql:(q:Int)<(u.code.length:Int):=by omega
     obtain⟨b7,o7,e7,h7,d0,d1,d2,d3⟩:=HRC.out w3 HK3.out.hb q hql;cases e7;have HC2:Hid (Al u.code k= !(ZN x&&jQ u.code[q])):=za (by rw[HC.out,show k-1=q by omega,zk hql,show decide (0<k)=true by simp;omega,Bool.and_true]);have HFF:Hid (V9 u.code k=(q:Int)-u.code[q].a):=za (by unfold V9;rw[show k-1=q by omega,zk hql,eq1]);have hya:=HAB.out u.code[q] (yy hql);have HQ:=za hq;clear hq h0 HC;generalize u.code[q]=y at *;go_cut [68]from 41 to 67 (fun s68 wy=>s68= .bool (Al u.code k)/\Hid (w3=wy))
     case first=>
      rcases(show(x.op !=20)=false\/((x.op !=20)=true/\(x.op !=22)=false)\/((x.op !=20)=true/\(x.op !=22)=true) by cases (x.op !=20)<;>cases (x.op !=22)<;>simp)with e20|⟨e20,e22⟩|⟨e20,e22⟩
      ·have HV:Hid (Al u.code k=(y.op !=19)):=za (by rw[HC2.out,HXC.out,e20];rfl)
       clear HXC;go_wp2;go_meet;exact⟨by rw[HV.out],za rfl⟩
      ·have HV:Hid (Al u.code k=(y.op !=19)):=za (by rw[HC2.out,HXC.out,e20,e22];rfl)
       clear HXC;go_wp2;go_meet;exact⟨by rw[HV.out],za rfl⟩
      ·have HV:Hid (Al u.code k=true):=za (by rw[HC2.out,HXC.out,e20,e22];rfl)
       clear HXC;go_wp2;go_meet;exact⟨by rw[HV.out],za rfl⟩
     case rest=>
      obtain⟨rfl,HW⟩:=hcut;obtain rfl:=HW.out;clear HW q0 q1 q2 q3 HC2 HXC
      cases hC:Al u.code k with
      |true=>
       have HN:=za (HS.out.trans (V8 (LJ hC)));clear hC;go_wp2;go_roundg (u.code.length-(k+1));case measure=>omega
       case rel=>exact⟨k+1,by omega,rfl,by go_num,za (by rw[HN.out];exact HK3.out)⟩
      |false=>
       by_cases hin:0<=V9 u.code k/\V9 u.code k<k
       ·obtain⟨f,hf⟩:∃f:Nat,V9 u.code k=f:=⟨(V9 u.code k).toNat,by omega⟩
        have hfe:(q:Int)-y.a=(f:Int):=by rw[<-hf];exact HFF.out.symm
        have hfk:f<k:=by omega
        have nf1:¬(k:Int)<=(f:Int):=by omega
        have HGY:=za (PN hC hf hfk);have HGS:=za (fun h=>HS.out.trans (Ew (out:=OUT) h hf));have HGN:=za (fun h=>HS.out.trans (V8 (out:=OUT) h));clear hin hf hC HFF;go_wp2;go_loopg [8,9] (k-f) (fun gh s8 s9 wr=>∃j:Nat,(f<=j/\j<=k)/\gh=k-j/\s9= .int .i64 j/\s8= .bool (Zs u.code f (j-f))/\Hid (w3=wr));case atStart=>exact⟨f,⟨zI _,by omega⟩,rfl,rfl,by rw[Nat.sub_self];rfl,za rfl⟩
        case round=>
         obtain⟨j,⟨hj1,hj2⟩,rfl,rfl,rfl,HW⟩:=hrel;obtain rfl:=HW.out;by_cases hck:j<k
         ·have ncl:(j:Int)<(k:Int):=by omega
          have ncn:(j:Int)<(u.code.length:Int):=by omega
          obtain⟨c,hc⟩:∃c:Nat,j=f+c:=⟨j-f,by omega⟩
          have ncf:(j:Int)-(f:Int)=(c:Int):=by omega
          obtain⟨b8,o8,e8,h8,g0,g1,g2,g3⟩:=HRC.out _ HK3.out.hb j (by omega);cases e8
          have HRN:Hid (Zs u.code f (j+1-f)=(Zs u.code f (j-f)&&((u.code[j]'(by omega)).op==19&&(u.code[j]'(by omega)).a==(c:Int)))):=za (by
           rw[show j+1-f=c+1 by omega,show j-f=c by omega];show(Zs u.code f c&&(jQ (u.code.getD (f+c) zw)&&(u.code.getD (f+c) zw).a==(c:Int)))=_;rw[<-hc,zk (by omega)]
           rfl)
          have HJ:=za hc;clear hc;generalize (u.code[j]'(by omega))=z at *;generalize Zs u.code f (j-f)=rb at *;go_cut [8,9]from 88 to 114 (fun s8 s9 wy=>s8= .bool (rb&&(z.op==19&&z.a==(c:Int)))/\s9= .int .i64 ((j+1:Nat):Int)/\Hid (w3=wy))
          case first=>
           cases rb with
           |false=>
            go_wp2;go_meet
            exact⟨rfl,by go_num,za rfl⟩
           |true=>
            cases ez:(z.op==19)with
            |false=>
             have HV:Hid ((true&&(z.op==19&&z.a==(c:Int)))=false):=za (by rw[ez];rfl);go_wp2;go_meet
             exact⟨by rw[HV.out],by go_num,za rfl⟩
            |true=>
             have HV:Hid ((true&&(z.op==19&&z.a==(c:Int)))=(z.a==(c:Int))):=za (by rw[ez];rfl);go_wp2;go_meet;exact⟨by rw[HV.out],by go_num,za rfl⟩
          case rest=>
           obtain⟨rfl,rfl,HW⟩:=hcut;obtain rfl:=HW.out;rw[<-HRN.out];go_wp2;go_roundg (k-(j+1));case measure=>omega
           case rel=>exact⟨j+1,⟨by omega,by omega⟩,rfl,by go_num,rfl,za rfl⟩
         ·obtain rfl:j=k:=by omega
          have ncl:¬(j:Int)<(j:Int):=by omega
          cases hrb:Zs u.code f (j-f)with
          |false=>
           have HN:=za (HGN.out (HGY.out.trans hrb));clear hrb;go_wp2;go_roundg (u.code.length-(j+1));case measure=>omega
           case rel=>exact⟨j+1,by omega,rfl,by go_num,za (by rw[HN.out];exact HK3.out)⟩
          |true=>
           have HN:=za (HGS.out (HGY.out.trans hrb));clear hrb;go_wp2;go_loopg [10] (j+1-f) (fun gh s10 wr=>∃p:Nat,(f<=p/\p<=j+1)/\gh=j+1-p/\s10= .int .i64 p/\Hid (Fl u (some ⟨b2,off,none⟩) cc ga gc w (xQ OUT f f (p-f)) wr));case atStart=>exact⟨f,⟨zI _,by omega⟩,rfl,rfl,za (by rw[Nat.sub_self];exact HK3.out)⟩
           case round=>
            obtain⟨p,⟨hp1,hp2⟩,rfl,rfl,HP⟩:=hrel;by_cases hpk:p<=j
            ·have np:(p:Int)<=(j:Int):=by omega
             have npn:(p:Int)<(u.code.length:Int):=by omega
             have lp:p<(xQ OUT f f (p-f)).length:=by rw[xZ,HLT.out];omega
             obtain⟨old,hold⟩:∃v,wr.cell? ⟨w.heap.size+1,p,none⟩=some v:=⟨_,HP.out.bi.at lp⟩
             have hfr:=HP.out.bi.frozen p;go_wp2;go_roundg (j+1-(p+1));case measure=>omega
             case rel=>
              refine⟨p+1,⟨by omega,by omega⟩,rfl,by go_num,za ?_⟩;have h2:=HP.out.set lp f;rw[show p+1-f=(p-f)+1 by omega];show Fl _ _ _ _ _ _ ((xQ OUT f f (p-f)).set (f+(p-f)) f) _;rw[show f+(p-f)=p by omega];exact h2
            ·have np:¬(p:Int)<=(j:Int):=by omega
             have HPN:=za (show p-f=j+1-f by omega);go_wp2;go_roundg (u.code.length-(j+1));case measure=>omega
             case rel=>exact⟨j+1,by omega,rfl,by go_num,za (by rw[HN.out,<-HPN.out];exact HP.out)⟩
       ·have HN:=za (HS.out.trans (V8 (out:=OUT) (PO hin)))
        have hff:=HFF.out;by_cases hw1:(q:Int)-y.a<=9223372036854775807
        ·by_cases hw2:(q:Int)-y.a<0
         ·clear hin
          go_wp2;go_roundg (u.code.length-(k+1));case measure=>omega
          case rel=>exact⟨k+1,by omega,rfl,by go_num,za (by rw[HN.out];exact HK3.out)⟩
         ·have hw3:(k:Int)<=(q:Int)-y.a:=by omega
          clear hin;go_wp2;go_roundg (u.code.length-(k+1));case measure=>omega
          case rel=>exact⟨k+1,by omega,rfl,by go_num,za (by rw[HN.out];exact HK3.out)⟩
        ·have hw3:RowKit.wrap64 ((q:Int)-y.a)=(q:Int)-y.a-18446744073709551616:=by unfold RowKit.wrap64;omega
         have hw4:(q:Int)-y.a-18446744073709551616<0:=by omega
         clear hin;go_wp2;go_roundg (u.code.length-(k+1));case measure=>omega
         case rel=>exact⟨k+1,by omega,rfl,by go_num,za (by rw[HN.out];exact HK3.out)⟩
    ·obtain rfl:k=u.code.length:=by omega
     have nk:¬(u.code.length:Int)<(u.code.length:Int):=by omega
     rw[HFIN.out]at HK;have HFL:Hid ((zl u.code).length=u.code.length):=za (z_ _ _);go_wp2;go_ret;exact⟨HK.out.hb,_,by rw[HFL.out];rfl,HK.out.bi,by omega⟩
end Go.Proofs.YtgalekifgnecjaaGreat
