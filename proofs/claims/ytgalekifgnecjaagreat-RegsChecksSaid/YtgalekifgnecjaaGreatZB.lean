/- The reference of layer 16: nexts -/
import Derived.Test.YtgalekifgnecjaaGreatZ7
import Derived.Test.YtgalekifgnecjaaGreatX1
namespace Go.Proofs.YtgalekifgnecjaaGreat
open Tryz Go.RowKit
open Go.RowKit Go.Shelf
set_option maxHeartbeats 16000000
set_option maxRecDepth 100000
attribute [local go_sem] Oper.semAt_some
attribute [local irreducible] wpStill
theorem Pz(w:World)(x y:Int)(T:TypeId):yC (w.alloc (.cells #[.int .i64 x,.int .i64 y] T)) (some ⟨w.heap.size,0,none⟩) [x,y]:=by
 intro i hi;have hi':i<2:=hi;have hx:=qp w (.cells #[.int .i64 x,.int .i64 y] T);rcases(show i=0\/i=1 by omega)with rfl|rfl
 ·exact⟨_,_,rfl,XX _ _,jP hx rfl⟩
 ·exact⟨_,_,rfl,XX _ _,jP hx rfl⟩
theorem MG(w:World)(x:Int)(T:TypeId):Vj (w.alloc (.cells #[.int .i64 x] T)) (.slice (some ⟨w.heap.size,0,none⟩) 1 1) [x]:=⟨_,_,rfl,yJ w x T,zI _,.inr ⟨_,_,rfl⟩⟩
theorem MF(w:World)(x y:Int)(T:TypeId):Vj (w.alloc (.cells #[.int .i64 x,.int .i64 y] T)) (.slice (some ⟨w.heap.size,0,none⟩) 2 2) [x,y]:=⟨_,_,rfl,Pz w x y T,zI _,.inr ⟨_,_,rfl⟩⟩
theorem Oz(w:World)(x:Int)(T:TypeId)(k:Nat)(h:k=w.heap.size):Vj (w.alloc (.cells #[.int .i64 x] T)) (.slice (some ⟨k,0,none⟩) 1 1) [x]:=by subst h;exact MG w x T
theorem Oy(w:World)(x y:Int)(T:TypeId)(k:Nat)(h:k=w.heap.size):Vj (w.alloc (.cells #[.int .i64 x,.int .i64 y] T)) (.slice (some ⟨k,0,none⟩) 2 2) [x,y]:=by subst h;exact MF w x y T
theorem Ld(u:zg)(t:Nat)(ht:t<u.code.length)(hlen:u.code.length<=600)(ca cc ga gc)(w:World)(hm:Qz w ca u.code):
  Calls prog 145 #[vU u ca cc ga gc,.int .i64 t] w (Od (js (u.code.getD t zw) t) w):=by
 rw[zk ht];have HB0:=za (zd w (oU u ca cc ga gc));have HX0:=za (zo w (oU u ca cc ga gc) _ rfl);obtain⟨bc,oc,hca,hlc2,c0,c1,c2,c3⟩:=hm.below HB0.out t ht;subst hca;obtain⟨k0,k1,k2,k3,k4,k5,k6⟩:=zr HX0.out;have nt:(t:Int)<(u.code.length:Int):=by omega
 have nt1:(t:Int)+1<=600:=by omega
 clear hm;have HN:Hid (∀x:zm,x=u.code[t]->js u.code[t] t=if x.op=24 then [x.a]else if x.op=26\/x.op=27\/x.op=28 then []else if x.op=25\/x.op=32 then [(t:Int)+1,x.b]else [(t:Int)+1]):=za (fun x e=>by rw[e];rfl);replace HN:=za (HN.out _ rfl);generalize js u.code[t] t=L at *;generalize u.code[t]=i at *;have HB:Hid (∀o,Below w.heap.size w ((w.alloc (oU u (some ⟨bc,oc,none⟩) cc ga gc)).alloc o)):=za (fun o=>HB0.out.step (zd _ _));by_cases e24:i.op=24
 ·rw[zj e24]at HN
  have d24:(i.op==24)=true:=by simpa using e24
  clear e24;go_enter func145,ntmps145;go_wp2;go_ret;exact⟨(HB.out _).step (zd _ _),_,rfl,by rw[HN.out];exact Oz _ _ _ _ (by simp)⟩
 ·by_cases e26:i.op=26
  ·rw[zi e24,zj (.inl e26)]at HN
   have d24:(i.op==24)=false:=by simpa using e24
   have d26:(i.op==26)=true:=by simpa using e26
   clear e24 e26;go_enter func145,ntmps145;go_wp2;go_ret;exact⟨HB.out _,_,rfl,by rw[HN.out];exact Vj.nilP _⟩
  ·by_cases e27:i.op=27
   ·rw[zi e24,zj (.inr (.inl e27))]at HN
    have d24:(i.op==24)=false:=by simpa using e24
    have d26:(i.op==26)=false:=by simpa using e26
    have d27:(i.op==27)=true:=by simpa using e27
    clear e24 e26 e27;go_enter func145,ntmps145;go_wp2;go_ret;exact⟨HB.out _,_,rfl,by rw[HN.out];exact Vj.nilP _⟩
   ·by_cases e28:i.op=28
    ·rw[zi e24,zj (.inr (.inr e28))]at HN
     have d24:(i.op==24)=false:=by simpa using e24
     have d26:(i.op==26)=false:=by simpa using e26
     have d27:(i.op==27)=false:=by simpa using e27
     have d28:(i.op==28)=true:=by simpa using e28
     clear e24 e26 e27 e28;go_enter func145,ntmps145;go_wp2;go_ret;exact⟨HB.out _,_,rfl,by rw[HN.out];exact Vj.nilP _⟩
    ·by_cases e25:i.op=25
     ·rw[zi e24,zi (by omega),zj (.inl e25)]at HN
      have d24:(i.op==24)=false:=by simpa using e24
      have d26:(i.op==26)=false:=by simpa using e26
      have d27:(i.op==27)=false:=by simpa using e27
      have d28:(i.op==28)=false:=by simpa using e28
      have d25:(i.op==25)=true:=by simpa using e25
      clear e24 e26 e27 e28 e25;go_enter func145,ntmps145;go_wp2;go_ret;exact⟨(HB.out _).step (zd _ _),_,rfl,by rw[HN.out];exact Oy _ _ _ _ _ (by simp)⟩
     ·by_cases e32:i.op=32
      ·rw[zi e24,zi (by omega),zj (.inr e32)]at HN
       have d24:(i.op==24)=false:=by simpa using e24
       have d26:(i.op==26)=false:=by simpa using e26
       have d27:(i.op==27)=false:=by simpa using e27
       have d28:(i.op==28)=false:=by simpa using e28
       have d25:(i.op==25)=false:=by simpa using e25
       have d32:(i.op==32)=true:=by simpa using e32
       clear e24 e26 e27 e28 e25 e32;go_enter func145,ntmps145;go_wp2;go_ret;exact⟨(HB.out _).step (zd _ _),_,rfl,by rw[HN.out];exact Oy _ _ _ _ _ (by simp)⟩
      ·rw[zi e24,zi (by omega),zi (by omega)]at HN
       have d24:(i.op==24)=false:=by simpa using e24
       have d26:(i.op==26)=false:=by simpa using e26
       have d27:(i.op==27)=false:=by simpa using e27
       have d28:(i.op==28)=false:=by simpa using e28
       have d25:(i.op==25)=false:=by simpa using e25
       have d32:(i.op==32)=false:=by simpa using e32
       clear e24 e26 e27 e28 e25 e32;go_enter func145,ntmps145;go_wp2;go_ret;exact⟨(HB.out _).step (zd _ _),_,rfl,by rw[HN.out];exact Oz _ _ _ _ (by simp)⟩
theorem Ul(x:Int):∀l:List Int,(xB x l).length<=l.length+1
 | []=>by simp[xB]
 |y::l=>by
  unfold xB;split
  ·simp
  ·split
   ·simp
   ·have:=Ul x l
    simp only[xv];omega
theorem Xa(s l:List Int):(jj s l).length<=s.length+l.length:=by
 induction l generalizing s with
 |nil=>simp[jj]
 |cons x l ih=>
  have h1:=ih (xB x s);have h2:=Ul x s;simp only[jj,qP,xv]at h1 ⊢;omega
theorem Vs(s l:List Int)(x:Int):jj s (l++ [x])=xB x (jj s l):=by
 simp[jj]
def XG(live:List (List Int))(ps:List Int):List Int:=ps.foldl (fun s p=>jj s (live.getD p.toNat [])) []
theorem ES(live:List (List Int))(ps:List Int)(p:Int):XG live (ps++ [p])=jj (XG live ps) (live.getD p.toNat []):=by
 simp[XG]
theorem Kk(live:List (List Int))(h:∀r∈live,r.length<=10000):∀(ps s:List Int),(ps.foldl (fun s p=>jj s (live.getD p.toNat [])) s).length<=s.length+10000*ps.length
 | [],s=>by simp
 |p::ps,s=>by
  have h1:=Xa s (live.getD p.toNat [])
  have h2:(live.getD p.toNat []).length<=10000:=by
   by_cases hp:p.toNat<live.length
   ·rw[zk hp];exact h _ (yy hp)
   ·rw[jI,YJ (by omega)];simp
  have h3:=Kk live h ps (jj s (live.getD p.toNat []));rw[qP,xv];omega
theorem Qy(live:List (List Int))(h:∀r∈live,r.length<=10000)(ps:List Int):(XG live ps).length<=10000*ps.length:=by
 have:=Kk live h ps [];simpa[XG]using this
theorem Xe(x:zm)(t:Nat):(js x t).length<=2:=by
 unfold js;split
 ·simp
 ·split
  ·simp
  ·split
   ·simp
   ·simp
theorem IA(u:zg)(live:List (List Int))(t:Nat)(ht:t<u.code.length)(hlen:u.code.length<=600)(ca cc ga gc)(la:Option Addr)(lc:Nat)(w:World)(hm:Qz w ca u.code)(hl:Kt w la live)
  (hrow:∀r∈live,r.length<=10000) (hp:∀p∈js (u.code.getD t zw) t,0<=p/\p<live.length):
  Calls prog 81 #[vU u ca cc ga gc,.slice la live.length lc,.int .i64 t] w (Od (xV u live t) w):=by
 have HNX:=za (fun wx (hb:Below w.heap.size w wx)=>Ld u t ht hlen ca cc ga gc wx (hm.below hb));obtain⟨P,hP⟩:∃P,P=js (u.code.getD t zw) t:=⟨_,rfl⟩
 have HPL:Hid (P.length<=2):=za (by rw[hP];exact Xe _ _);have HFIN:Hid (xV u live t=XG live P):=za (by rw[hP];rfl);rw[<-hP]at hp HNX;have HPR:=za hp;have HROW:=za hrow;have HL:=za hl;have HX:=za (zo w (oU u ca cc ga gc) _ rfl);have HB:=za (zd w (oU u ca cc ga gc));clear hm hl hrow hp hP;generalize xV u live t=Q at *;go_enter func81,ntmps81;obtain⟨k0,k1,k2,k3,k4,k5,k6⟩:=zr HX.out;go_upto_region 3 with (go_at_call 145;(with_reducible refine(HNX.out _ HB.out).mono ?_);rintro e w2 ⟨hb2,v2,rfl,hv2⟩;have HB2:=za (HB.out.step hb2);have HV2:=za hv2;clear hb2 hv2);obtain⟨pa,pc,rfl,hpr,-,-⟩:=HV2.out.ex;have HP:=za hpr;clear hpr k0 k1 k2 k3 k4 k5 k6;go_wp2;go_loopg [7,9] P.length (fun gh s7 s9 wr=>∃j:Nat,j<=P.length/\gh=P.length-j/\s9= .int .i64 j/\Hid (Vj wr s7 (XG live (P.take j))/\Below w2.heap.size w2 wr));case atStart=>exact⟨0,zE _,rfl,rfl,za ⟨Vj.nilP _,zG _ _⟩⟩
 case round=>
  obtain⟨j,hj,rfl,rfl,HK⟩:=hrel;by_cases hlj:j<P.length
  ·obtain⟨pb,po,hpa,hltp,h0⟩:=(HP.out.below HK.out.2) j hlj
   subst hpa;have nj:(j:Int)<(P.length:Int):=by omega
   have HT:Hid (P.take (j+1)=P.take j++ [P[j]]):=za (zO hlj);have HSN:=za (ES live (P.take j) P[j]);rw[<-HT.out]at HSN;have hpr:=HPR.out P[j] (yy hlj);have HLN:=za (Qy live HROW.out (P.take j));rw[xm,Nat.min_eq_left hj]at HLN;generalize P[j]=p at *;obtain⟨pn,rfl⟩:∃pn:Nat,p=pn:=⟨p.toNat,by omega⟩
   have hpn:pn<live.length:=by omega
   have npl:(pn:Int)<(live.length:Int):=by omega
   rw[qQ]at HSN;obtain⟨lb,lo,hla,hltl,la2,lc2,hc,hrr⟩:=Kt.row (HL.out.below ((HB2.out.step HK.out.2))) hpn;subst hla;have HRL:Hid ((live.getD pn []).length<=10000):=za (by rw[zk hpn];exact HROW.out _ (yy hpn));have HRR:=za hrr;have HBW:=za (HB2.out.step HK.out.2);clear hrr hpr;generalize live.getD pn []=R at *;generalize XG live (P.take j)=A at *;obtain⟨A',hA'⟩:∃A',A'=XG live (P.take (j+1)):=⟨_,rfl⟩
   rw[<-hA']at HSN;have HA':=za hA';clear hA';have hpl:=HPL.out;have hrl:=HRL.out;go_wp2;go_loopg [7,10] R.length (fun gh s7 s10 w5=>∃k:Nat,k<=R.length/\gh=R.length-k/\s10= .int .i64 k/\Hid (Vj w5 s7 (jj A (R.take k))/\Below wr.heap.size wr w5));case atStart=>exact⟨0,zE _,rfl,rfl,za ⟨HK.out.1,zG _ _⟩⟩
   case round=>
    rename_i w0;obtain⟨k,hk,rfl,rfl,HK5⟩:=hrel;have h05:=zK HK5.out.2 h0;have hc5:=zK HK5.out.2 hc;clear h0 hc;by_cases hlk:k<R.length
    ·obtain⟨rb,ro,hra,hltr,hy⟩:=(HRR.out.below HK5.out.2) k hlk
     subst hra;have nk:(k:Int)<(R.length:Int):=by omega
     have HTK:Hid (R.take (k+1)=R.take k++ [R[k]]):=za (zO hlk);have HSK:=za (Vs A (R.take k) R[k]);rw[<-HTK.out]at HSK;have hln:=Xa A (R.take k);rw[xm,Nat.min_eq_left hk]at hln;have HPT:=za (fun y=>NE u7 (jj A (R.take k)) y wr HK5.out.1 (by have:=HLN.out;have:=HRL.out;omega));generalize R[k]=y at *;go_wp2_with (go_at_call 83;(with_reducible refine(HPT.out _).mono ?_);rintro e w6 ⟨hb6,v6,rfl,hv6⟩;have HB6:=za hb6;have HV6:=za hv6;clear hb6 hv6);go_roundg (R.length-(k+1));case measure=>omega
     case rel=>exact⟨k+1,by omega,rfl,by go_num,za ⟨by rw[HSK.out];exact HV6.out,HK5.out.2.step HB6.out⟩⟩
    ·obtain rfl:k=R.length:=by omega
     have nk:¬(R.length:Int)<(R.length:Int):=by omega
     rw[xL]at HK5;go_wp2;go_roundg (P.length-(j+1));case measure=>omega
     case rel=>exact⟨j+1,by omega,rfl,by go_num,za ⟨by rw[<-HA'.out,HSN.out];exact HK5.out.1,HK.out.2.step HK5.out.2⟩⟩
  ·obtain rfl:j=P.length:=by omega
   have nj:¬(P.length:Int)<(P.length:Int):=by omega
   rw[xL]at HK;go_wp2;go_ret;exact⟨HB2.out.step HK.out.2,_,rfl,by rw[HFIN.out];exact HK.out.1⟩
theorem Md(u:zg)(live:List (List Int))(t:Nat)(ht:t<u.code.length)(hpl:zJ u=true)(ca cc ga gc)(la:Option Addr)(lc:Nat)(w:World)(hm:jo w u ca cc ga gc)(hl:Kt w la live)
  (hrow:∀r∈live,r.length<=10000) (hp:∀p∈js (u.code.getD t zw) t,0<=p/\p<live.length) (hg:∀g∈u.guards,0<=g.at'/\g.at'<live.length) (hlen:u.code.length<=600) (hgl:u.guards.length<=40):
  Calls prog 124 #[vU u ca cc ga gc,.slice la live.length lc,.int .i64 t] w (Od (jJ u live t) w):=by
 have HBH:=za (fun wx (hb:Below w.heap.size w wx)=>IA u live t ht hlen ca cc ga gc la lc wx (hm.rc.below hb) (hl.below hb) hrow hp);have HGO:=za (fun wx (hb:Below w.heap.size w wx)=>G0 u t ca cc ga gc wx (hm.below hb) (by omega) (by omega));have hin:yr (t:Int) 0 ((u.code.length:Int)-1)=true:=by unfold yr;simp;omega
 rw[zj hpl,zj hin]at HGO;have HRS:=za (fun wx=>J2 (u.code[t]'ht) wx);have HAF:Hid (jJ u live t=if (yZ (u.code.getD t zw)&&decide (0<=zD u t))=true then jj (xV u live t) (live.getD (u.guards.getD (zD u t).toNat jF).at'.toNat [])else xV u live t):=za rfl;rw[zk ht]at HAF
 have HBL:Hid ((xV u live t).length<=20000):=za (by
  have h1:=Qy live hrow (js (u.code.getD t zw) t);have h2:=Xe (u.code.getD t zw) t;have h3:xV u live t=XG live (js (u.code.getD t zw) t):=rfl;rw[h3]
  omega)
 have HM:=za hm;have HL:=za hl;have HX:=za (zo w (oU u ca cc ga gc) _ rfl);have HB:=za (zd w (oU u ca cc ga gc))
 have hq:zD u t= -1\/∃m:Nat,zD u t=m/\m<u.guards.length:=(by
  have h:=Zr (yH (t:Int)) u.guards;have e:zD u t=Ya (yH (t:Int)) u.guards:=rfl;by_cases h0:zD u t= -1
  ·exact .inl h0
  ·exact .inr ⟨(zD u t).toNat,by omega,by omega⟩)
 generalize jJ u live t=Q at *;generalize xV u live t=BH at *;generalize zD u t=q at *;obtain⟨b2,off,hca,hlt2,c0,c1,c2,c3⟩:=(hm.rc.below (zd w (oU u ca cc ga gc))) t ht;subst hca;clear c0 c1 c2 c3 hp hin;have HRC:=za (fun wx (hb:Below w.heap.size w wx)=>(hm.rc.below hb) t ht);clear hm;have nt:(t:Int)<(u.code.length:Int):=by omega
 generalize u.code[t]'ht=i at *;generalize yZ i=br at *;obtain⟨k0,k1,k2,k3,k4,k5,k6⟩:=zr HX.out;go_enter func124,ntmps124
 go_upto_region 4 with (first
  |(go_at_call 81;(with_reducible refine(HBH.out _ HB.out).mono ?_);rintro e w2 ⟨hb2,v2,rfl,hv2⟩;have HB2:=za (HB.out.step hb2);have HC2:=za hb2;have HV2:=za hv2;obtain⟨y0,y1,y2,y3,y4,y5,y6⟩:=zr (zb hb2 HX.out);obtain⟨b3,off3,ha3,hlt3,d0,d1,d2,d3⟩:=HRC.out _ HB2.out;cases ha3;clear hb2 hv2)
  |(go_at_call 122;refine(HRS.out _).mono ?_;rintro e w3 ⟨rfl,hb3⟩;have HB3:=za (HB2.out.step hb3);have HV3:=za (HV2.out.below hb3);have HC3:=za (HC2.out.step hb3);obtain⟨z0,z1,z2,z3,z4,z5,z6⟩:=zr (zb HC3.out HX.out);clear hb3)
  |(go_at_call 180;refine(HGO.out _ HB3.out).mono ?_;rintro e w4 ⟨rfl,hb4⟩;have HB4:=za (HB3.out.step hb4);have HC4:=za (HC3.out.step hb4);have HV4:=za (HV3.out.below hb4);clear hb4))
 clear y0 y1 y2 y3 y4 y5 y6 z0 z1 z2 z3 z4 z5 z6 d0 d1 d2 d3 k0 k1 k2 k3 k4 k5 k6
 cases br with
 |false=>
  replace HAF:=za (HAF.out.trans (zi (by simp)));go_wp2;go_ret
  exact⟨HB4.out,_,rfl,by rw[HAF.out];exact HV4.out⟩
 |true=>
  rcases hq with rfl|⟨m,rfl,hm2⟩
  ·replace HAF:=za (HAF.out.trans (zi (by simp)))
   go_wp2;go_ret;exact⟨HB4.out,_,rfl,by rw[HAF.out];exact HV4.out⟩
  ·replace HAF:=za (HAF.out.trans (zj (by simp)))
   obtain⟨gb,go,hga,hltg,e0,e1,e2⟩:=(HM.out.rg.below HB4.out) m hm2;subst hga;have nm:(m:Int)<(u.guards.length:Int):=by omega
   have nm0:(0:Int)<=(m:Int):=by omega
   rw[qQ,zk hm2]at HAF;have hgg:=hg u.guards[m] (yy hm2);clear hg;generalize u.guards[m]=g at *;obtain⟨gf,gt,ga'⟩:=g;dsimp only at hgg e0 e1 e2 HAF;obtain⟨pn,rfl⟩:∃pn:Nat,ga'=pn:=⟨ga'.toNat,by omega⟩
   have hpn:pn<live.length:=by omega
   have npl:(pn:Int)<(live.length:Int):=by omega
   rw[qQ]at HAF;obtain⟨lb,lo,hla,hltl,la2,lc2,hc,hrr⟩:=Kt.row (HL.out.below HB4.out) hpn;subst hla;have HRL:Hid ((live.getD pn []).length<=10000):=za (by rw[zk hpn];exact hrow _ (yy hpn));have HRR:=za hrr;clear hrr hgg hrow;generalize live.getD pn []=R at *;obtain⟨k0,k1,k2,k3,k4,k5,k6⟩:=zr (zb HC4.out HX.out);have hrl:=HRL.out;go_wp2;go_loopg [7,11] R.length (fun gh s7 s11 w5=>∃k:Nat,k<=R.length/\gh=R.length-k/\s11= .int .i64 k/\Hid (Vj w5 s7 (jj BH (R.take k))/\Below w4.heap.size w4 w5));case atStart=>exact⟨0,zE _,rfl,rfl,za ⟨HV4.out,zG _ _⟩⟩
   case round=>
    obtain⟨k,hk,rfl,rfl,HK5⟩:=hrel;have hc5:=zK HK5.out.2 hc;clear hc;by_cases hlk:k<R.length
    ·obtain⟨rb,ro,hra,hltr,hy⟩:=(HRR.out.below HK5.out.2) k hlk
     subst hra;have nk:(k:Int)<(R.length:Int):=by omega
     have HTK:Hid (R.take (k+1)=R.take k++ [R[k]]):=za (zO hlk);have HSK:=za (Vs BH (R.take k) R[k]);rw[<-HTK.out]at HSK;have hln:=Xa BH (R.take k);rw[xm,Nat.min_eq_left hk]at hln;have HPT:=za (fun y=>NE u7 (jj BH (R.take k)) y wr HK5.out.1 (by have:=HBL.out;omega));generalize R[k]=y at *;go_wp2_with (go_at_call 83;(with_reducible refine(HPT.out _).mono ?_);rintro e w6 ⟨hb6,v6,rfl,hv6⟩;have HB6:=za hb6;have HV6:=za hv6;clear hb6 hv6);go_roundg (R.length-(k+1));case measure=>omega
     case rel=>exact⟨k+1,by omega,rfl,by go_num,za ⟨by rw[HSK.out];exact HV6.out,HK5.out.2.step HB6.out⟩⟩
    ·obtain rfl:k=R.length:=by omega
     have nk:¬(R.length:Int)<(R.length:Int):=by omega
     rw[xL]at HK5;go_wp2;go_ret;exact⟨HB4.out.step HK5.out.2,_,rfl,by rw[HAF.out];exact HK5.out.1⟩
theorem PH(u:zg)(p:Int)(hpl:zJ u=true)(ca cc ga gc)(w:World)(hm:jo w u ca cc ga gc)(hlen:u.code.length<=600)(hgl:u.guards.length<=40):
  Calls prog 116 #[vU u ca cc ga gc,.int .i64 p] w (zV (.bool (VR u p)) w):=by
 have HGO:=za (fun(t:Nat) (ht:t<u.code.length) wx (hb:Below w.heap.size w wx)=>(by
  have h:=G0 u t ca cc ga gc wx (hm.below hb) (by omega) (by omega);have hin:yr (t:Int) 0 ((u.code.length:Int)-1)=true:=by unfold yr;simp;omega
  rwa [zj hpl,zj hin]at h:Calls prog 180 #[vU u ca cc ga gc,.int .i64 t] wx (zV (.int .i64 (zD u t)) wx)))
 have HLED:Hid (VR u p=(List.range u.code.length).any (ZI u p)):=za rfl;generalize VR u p=Q at *;have HM:=za hm;have HX:=za (zo w (oU u ca cc ga gc) _ rfl);have HB:=za (zd w (oU u ca cc ga gc));clear hm hpl;go_enter func116,ntmps116;go_wp2;obtain⟨w2,hw2⟩:∃w2,w2=w.alloc (oU u ca cc ga gc):=⟨_,rfl⟩
 rw[<-hw2]at HX HB;rw[<-hw2];clear hw2;go_loopg [5] u.code.length (fun gh s5 wr=>∃t:Nat,t<=u.code.length/\gh=u.code.length-t/\s5= .int .i64 t/\Hid ((∀k,k<t->ZI u p k=false)/\Below w2.heap.size w2 wr));case atStart=>exact⟨0,zE _,rfl,rfl,za ⟨fun k h=>absurd h (y_ _),zG _ _⟩⟩
 case round=>
  obtain⟨t,htl,rfl,rfl,HK⟩:=hrel;obtain⟨k0,k1,k2,k3,k4,k5,k6⟩:=zr (zb HK.out.2 HX.out);by_cases ht:t<u.code.length
  ·have nt:(t:Int)<(u.code.length:Int):=by omega
   have HGT:=za (HGO.out t ht);obtain⟨b2,off,hca,hlt2,c0,c1,c2,c3⟩:=(HM.out.rc.below (HB.out.step HK.out.2)) t ht;subst hca;have HYES:Hid (ZI u p t=true->Q=true):=za (fun e=>by rw[HLED.out];exact v_.2 ⟨t,yR.2 ht,e⟩)
   have HNO:Hid (ZI u p t=false->∀k,k<t+1->ZI u p k=false):=za (fun e k hk=>by
    by_cases h:k<t
    ·exact HK.out.1 k h
    ·obtain rfl:k=t:=by omega
     exact e)
   have HONE:Hid (ZI u p t=((match zQ (u.code.getD t zw)with|some q=>q==p|none=>false)||(yZ (u.code.getD t zw)&&decide (0<=zD u t)&&(u.guards.getD (zD u t).toNat jF).at'==p))):=za rfl;rw[zk ht]at HONE;have HRS:=za (fun wx=>J2 u.code[t] wx)
   have hq:zD u t= -1\/∃m:Nat,zD u t=m/\m<u.guards.length:=(by
    have h:=Zr (yH (t:Int)) u.guards;have e:zD u t=Ya (yH (t:Int)) u.guards:=rfl;by_cases h0:zD u t= -1
    ·exact .inl h0
    ·exact .inr ⟨(zD u t).toNat,by omega,by omega⟩)
   have HRC:=za (fun wx (hb:Below wr.heap.size wr wx)=>(HM.out.rc.below (HB.out.step (HK.out.2.step hb))) t ht);generalize ZI u p t=L1 at *;generalize zD u t=q at *;generalize u.code[t]=x at *;have HPO:Hid (zQ x=if x.op==24 then some x.a else if x.op==25||x.op==32 then some x.b else none):=za rfl;generalize zQ x=po at *;generalize yZ x=br at *;have HXB:=za (zo wr (.cells #[.int .i64 x.op,.int .i64 x.a,.int .i64 x.b,.int .i64 x.c] 85) _ rfl);have HBX:=za (zd wr (.cells #[.int .i64 x.op,.int .i64 x.a,.int .i64 x.b,.int .i64 x.c] 85));obtain⟨op,a,b,c⟩:=x;dsimp only at HPO c0 c1 c2 c3 HXB HBX;by_cases h24:op=24
   ·subst h24
    have hpo:po=some a:=HPO.out;clear HPO;subst hpo;replace HONE:Hid (L1=((a==p)||(br&&decide (0<=q)&&(u.guards.getD q.toNat jF).at'==p))):=za HONE.out
    cases hap:(a==p)with
    |true=>
     rw[hap,Bool.true_or]at HONE;replace HYES:=za (HYES.out HONE.out);clear HNO HONE;go_wp2;go_ret
     exact⟨zn HYES.out.symm,HB.out.step (HK.out.2.step HBX.out)⟩
    |false=>
     rw[hap,Bool.false_or]at HONE
     cases br with
     |false=>
      replace HONE:=za (HONE.out.trans rfl:L1=false);replace HNO:=za (HNO.out HONE.out);clear HYES HONE
      go_wp2_with (first
       |(go_at_call 122;refine(HRS.out _).mono ?_;rintro e w3 ⟨rfl,hb3⟩;have HB3:=za (HBX.out.step hb3);have HW3:=za (HK.out.2.step HB3.out);obtain⟨y0,y1,y2,y3,y4,y5,y6⟩:=zr (zb HW3.out HX.out);clear hb3)
       |(go_at_call 180;refine(HGT.out _ (HB.out.step HW3.out)).mono ?_;rintro e w4 ⟨rfl,hb4⟩;have HB4:=za (HW3.out.step hb4);obtain⟨z0,z1,z2,z3,z4,z5,z6⟩:=zr (zb HB4.out HX.out);clear hb4))
      go_roundg (u.code.length-(t+1));case measure=>omega
      case rel=>exact⟨t+1,by omega,rfl,by go_num,za ⟨HNO.out,HB4.out⟩⟩
     |true=>
      rcases hq with rfl|⟨m,rfl,hm2⟩
      ·replace HONE:=za (HONE.out.trans rfl:L1=false)
       replace HNO:=za (HNO.out HONE.out);clear HYES HONE
       go_wp2_with (first
        |(go_at_call 122;refine(HRS.out _).mono ?_;rintro e w3 ⟨rfl,hb3⟩;have HB3:=za (HBX.out.step hb3);have HW3:=za (HK.out.2.step HB3.out);obtain⟨y0,y1,y2,y3,y4,y5,y6⟩:=zr (zb HW3.out HX.out);clear hb3)
        |(go_at_call 180;refine(HGT.out _ (HB.out.step HW3.out)).mono ?_;rintro e w4 ⟨rfl,hb4⟩;have HB4:=za (HW3.out.step hb4);obtain⟨z0,z1,z2,z3,z4,z5,z6⟩:=zr (zb HB4.out HX.out);clear hb4))
       go_roundg (u.code.length-(t+1));case measure=>omega
       case rel=>exact⟨t+1,by omega,rfl,by go_num,za ⟨HNO.out,HB4.out⟩⟩
      ·have nm:(m:Int)<(u.guards.length:Int):=by omega
       have nm0:(0:Int)<=(m:Int):=by omega
       have HRG:=za (fun wx (hb:Below w.heap.size w wx)=>(HM.out.rg.below hb) m hm2);rw[qQ,zk hm2,zP nm0]at HONE;generalize u.guards[m]=g at *;obtain⟨gf,gt,gA⟩:=g;dsimp only at HONE HRG;obtain⟨gb0,go0,hga0,-⟩:=HRG.out w (zG _ _);subst hga0
       cases hgp:(gA==p)with
       |true=>
        rw[hgp]at HONE;replace HYES:=za (HYES.out HONE.out);clear HNO HONE
        go_wp2_with (first
         |(go_at_call 122;refine(HRS.out _).mono ?_;rintro e w3 ⟨rfl,hb3⟩;have HB3:=za (HBX.out.step hb3);have HW3:=za (HK.out.2.step HB3.out);obtain⟨y0,y1,y2,y3,y4,y5,y6⟩:=zr (zb HW3.out HX.out);clear hb3)
         |(go_at_call 180;refine(HGT.out _ (HB.out.step HW3.out)).mono ?_;rintro e w4 ⟨rfl,hb4⟩;have HB4:=za (HW3.out.step hb4);obtain⟨z0,z1,z2,z3,z4,z5,z6⟩:=zr (zb HB4.out HX.out);obtain⟨gb,go,hga,hltg,e0,e1,e2⟩:=HRG.out _ (HB.out.step HB4.out);cases hga;clear hb4))
        go_ret
        exact⟨zn HYES.out.symm,HB.out.step HB4.out⟩
       |false=>
        rw[hgp]at HONE;replace HONE:=za (HONE.out.trans rfl:L1=false);replace HNO:=za (HNO.out HONE.out);clear HYES HONE
        go_wp2_with (first
         |(go_at_call 122;refine(HRS.out _).mono ?_;rintro e w3 ⟨rfl,hb3⟩;have HB3:=za (HBX.out.step hb3);have HW3:=za (HK.out.2.step HB3.out);obtain⟨y0,y1,y2,y3,y4,y5,y6⟩:=zr (zb HW3.out HX.out);clear hb3)
         |(go_at_call 180;refine(HGT.out _ (HB.out.step HW3.out)).mono ?_;rintro e w4 ⟨rfl,hb4⟩;have HB4:=za (HW3.out.step hb4);obtain⟨z0,z1,z2,z3,z4,z5,z6⟩:=zr (zb HB4.out HX.out);obtain⟨gb,go,hga,hltg,e0,e1,e2⟩:=HRG.out _ (HB.out.step HB4.out);cases hga;clear hb4))
        go_roundg (u.code.length-(t+1));case measure=>omega
        case rel=>exact⟨t+1,by omega,rfl,by go_num,za ⟨HNO.out,HB4.out⟩⟩
   ·by_cases h25:op=25
    ·subst h25
     have hpo:po=some b:=HPO.out;clear HPO;subst hpo;replace HONE:Hid (L1=((b==p)||(br&&decide (0<=q)&&(u.guards.getD q.toNat jF).at'==p))):=za HONE.out
     cases hap:(b==p)with
     |true=>
      rw[hap,Bool.true_or]at HONE;replace HYES:=za (HYES.out HONE.out);clear HNO HONE;go_wp2;go_ret
      exact⟨zn HYES.out.symm,HB.out.step (HK.out.2.step HBX.out)⟩
     |false=>
      rw[hap,Bool.false_or]at HONE
      cases br with
      |false=>
       replace HONE:=za (HONE.out.trans rfl:L1=false);replace HNO:=za (HNO.out HONE.out);clear HYES HONE
       go_wp2_with (first
        |(go_at_call 122;refine(HRS.out _).mono ?_;rintro e w3 ⟨rfl,hb3⟩;have HB3:=za (HBX.out.step hb3);have HW3:=za (HK.out.2.step HB3.out);obtain⟨y0,y1,y2,y3,y4,y5,y6⟩:=zr (zb HW3.out HX.out);clear hb3)
        |(go_at_call 180;refine(HGT.out _ (HB.out.step HW3.out)).mono ?_;rintro e w4 ⟨rfl,hb4⟩;have HB4:=za (HW3.out.step hb4);obtain⟨z0,z1,z2,z3,z4,z5,z6⟩:=zr (zb HB4.out HX.out);clear hb4))
       go_roundg (u.code.length-(t+1));case measure=>omega
       case rel=>exact⟨t+1,by omega,rfl,by go_num,za ⟨HNO.out,HB4.out⟩⟩
      |true=>
       rcases hq with rfl|⟨m,rfl,hm2⟩
       ·replace HONE:=za (HONE.out.trans rfl:L1=false)
        replace HNO:=za (HNO.out HONE.out);clear HYES HONE
        go_wp2_with (first
         |(go_at_call 122;refine(HRS.out _).mono ?_;rintro e w3 ⟨rfl,hb3⟩;have HB3:=za (HBX.out.step hb3);have HW3:=za (HK.out.2.step HB3.out);obtain⟨y0,y1,y2,y3,y4,y5,y6⟩:=zr (zb HW3.out HX.out);clear hb3)
         |(go_at_call 180;refine(HGT.out _ (HB.out.step HW3.out)).mono ?_;rintro e w4 ⟨rfl,hb4⟩;have HB4:=za (HW3.out.step hb4);obtain⟨z0,z1,z2,z3,z4,z5,z6⟩:=zr (zb HB4.out HX.out);clear hb4))
        go_roundg (u.code.length-(t+1));case measure=>omega
        case rel=>exact⟨t+1,by omega,rfl,by go_num,za ⟨HNO.out,HB4.out⟩⟩
       ·have nm:(m:Int)<(u.guards.length:Int):=by omega
        have nm0:(0:Int)<=(m:Int):=by omega
        have HRG:=za (fun wx (hb:Below w.heap.size w wx)=>(HM.out.rg.below hb) m hm2);rw[qQ,zk hm2,zP nm0]at HONE;generalize u.guards[m]=g at *;obtain⟨gf,gt,gA⟩:=g;dsimp only at HONE HRG;obtain⟨gb0,go0,hga0,-⟩:=HRG.out w (zG _ _);subst hga0
        cases hgp:(gA==p)with
        |true=>
         rw[hgp]at HONE;replace HYES:=za (HYES.out HONE.out);clear HNO HONE
         go_wp2_with (first
          |(go_at_call 122;refine(HRS.out _).mono ?_;rintro e w3 ⟨rfl,hb3⟩;have HB3:=za (HBX.out.step hb3);have HW3:=za (HK.out.2.step HB3.out);obtain⟨y0,y1,y2,y3,y4,y5,y6⟩:=zr (zb HW3.out HX.out);clear hb3)
          |(go_at_call 180;refine(HGT.out _ (HB.out.step HW3.out)).mono ?_;rintro e w4 ⟨rfl,hb4⟩;have HB4:=za (HW3.out.step hb4);obtain⟨z0,z1,z2,z3,z4,z5,z6⟩:=zr (zb HB4.out HX.out);obtain⟨gb,go,hga,hltg,e0,e1,e2⟩:=HRG.out _ (HB.out.step HB4.out);cases hga;clear hb4))
         go_ret
         exact⟨zn HYES.out.symm,HB.out.step HB4.out⟩
        |false=>
         rw[hgp]at HONE;replace HONE:=za (HONE.out.trans rfl:L1=false);replace HNO:=za (HNO.out HONE.out);clear HYES HONE
         go_wp2_with (first
          |(go_at_call 122;refine(HRS.out _).mono ?_;rintro e w3 ⟨rfl,hb3⟩;have HB3:=za (HBX.out.step hb3);have HW3:=za (HK.out.2.step HB3.out);obtain⟨y0,y1,y2,y3,y4,y5,y6⟩:=zr (zb HW3.out HX.out);clear hb3)
          |(go_at_call 180;refine(HGT.out _ (HB.out.step HW3.out)).mono ?_;rintro e w4 ⟨rfl,hb4⟩;have HB4:=za (HW3.out.step hb4);obtain⟨z0,z1,z2,z3,z4,z5,z6⟩:=zr (zb HB4.out HX.out);obtain⟨gb,go,hga,hltg,e0,e1,e2⟩:=HRG.out _ (HB.out.step HB4.out);cases hga;clear hb4))
         go_roundg (u.code.length-(t+1));case measure=>omega
         case rel=>exact⟨t+1,by omega,rfl,by go_num,za ⟨HNO.out,HB4.out⟩⟩
    ·by_cases h32:op=32
     ·subst h32
      have hpo:po=some b:=HPO.out;clear HPO;subst hpo;replace HONE:Hid (L1=((b==p)||(br&&decide (0<=q)&&(u.guards.getD q.toNat jF).at'==p))):=za HONE.out
      cases hap:(b==p)with
      |true=>
       rw[hap,Bool.true_or]at HONE;replace HYES:=za (HYES.out HONE.out);clear HNO HONE;go_wp2;go_ret
       exact⟨zn HYES.out.symm,HB.out.step (HK.out.2.step HBX.out)⟩
      |false=>
       rw[hap,Bool.false_or]at HONE
       cases br with
       |false=>
        replace HONE:=za (HONE.out.trans rfl:L1=false);replace HNO:=za (HNO.out HONE.out);clear HYES HONE
        go_wp2_with (first
         |(go_at_call 122;refine(HRS.out _).mono ?_;rintro e w3 ⟨rfl,hb3⟩;have HB3:=za (HBX.out.step hb3);have HW3:=za (HK.out.2.step HB3.out);obtain⟨y0,y1,y2,y3,y4,y5,y6⟩:=zr (zb HW3.out HX.out);clear hb3)
         |(go_at_call 180;refine(HGT.out _ (HB.out.step HW3.out)).mono ?_;rintro e w4 ⟨rfl,hb4⟩;have HB4:=za (HW3.out.step hb4);obtain⟨z0,z1,z2,z3,z4,z5,z6⟩:=zr (zb HB4.out HX.out);clear hb4))
        go_roundg (u.code.length-(t+1));case measure=>omega
        case rel=>exact⟨t+1,by omega,rfl,by go_num,za ⟨HNO.out,HB4.out⟩⟩
       |true=>
        rcases hq with rfl|⟨m,rfl,hm2⟩
        ·replace HONE:=za (HONE.out.trans rfl:L1=false)
         replace HNO:=za (HNO.out HONE.out);clear HYES HONE
         go_wp2_with (first
          |(go_at_call 122;refine(HRS.out _).mono ?_;rintro e w3 ⟨rfl,hb3⟩;have HB3:=za (HBX.out.step hb3);have HW3:=za (HK.out.2.step HB3.out);obtain⟨y0,y1,y2,y3,y4,y5,y6⟩:=zr (zb HW3.out HX.out);clear hb3)
          |(go_at_call 180;refine(HGT.out _ (HB.out.step HW3.out)).mono ?_;rintro e w4 ⟨rfl,hb4⟩;have HB4:=za (HW3.out.step hb4);obtain⟨z0,z1,z2,z3,z4,z5,z6⟩:=zr (zb HB4.out HX.out);clear hb4))
         go_roundg (u.code.length-(t+1));case measure=>omega
         case rel=>exact⟨t+1,by omega,rfl,by go_num,za ⟨HNO.out,HB4.out⟩⟩
        ·have nm:(m:Int)<(u.guards.length:Int):=by omega
         have nm0:(0:Int)<=(m:Int):=by omega
         have HRG:=za (fun wx (hb:Below w.heap.size w wx)=>(HM.out.rg.below hb) m hm2);rw[qQ,zk hm2,zP nm0]at HONE;generalize u.guards[m]=g at *;obtain⟨gf,gt,gA⟩:=g;dsimp only at HONE HRG;obtain⟨gb0,go0,hga0,-⟩:=HRG.out w (zG _ _);subst hga0
         cases hgp:(gA==p)with
         |true=>
          rw[hgp]at HONE;replace HYES:=za (HYES.out HONE.out);clear HNO HONE
          go_wp2_with (first
           |(go_at_call 122;refine(HRS.out _).mono ?_;rintro e w3 ⟨rfl,hb3⟩;have HB3:=za (HBX.out.step hb3);have HW3:=za (HK.out.2.step HB3.out);obtain⟨y0,y1,y2,y3,y4,y5,y6⟩:=zr (zb HW3.out HX.out);clear hb3)
           |(go_at_call 180;refine(HGT.out _ (HB.out.step HW3.out)).mono ?_;rintro e w4 ⟨rfl,hb4⟩;have HB4:=za (HW3.out.step hb4);obtain⟨z0,z1,z2,z3,z4,z5,z6⟩:=zr (zb HB4.out HX.out);obtain⟨gb,go,hga,hltg,e0,e1,e2⟩:=HRG.out _ (HB.out.step HB4.out);cases hga;clear hb4))
          go_ret
          exact⟨zn HYES.out.symm,HB.out.step HB4.out⟩
         |false=>
          rw[hgp]at HONE;replace HONE:=za (HONE.out.trans rfl:L1=false);replace HNO:=za (HNO.out HONE.out);clear HYES HONE
          go_wp2_with (first
           |(go_at_call 122;refine(HRS.out _).mono ?_;rintro e w3 ⟨rfl,hb3⟩;have HB3:=za (HBX.out.step hb3);have HW3:=za (HK.out.2.step HB3.out);obtain⟨y0,y1,y2,y3,y4,y5,y6⟩:=zr (zb HW3.out HX.out);clear hb3)
           |(go_at_call 180;refine(HGT.out _ (HB.out.step HW3.out)).mono ?_;rintro e w4 ⟨rfl,hb4⟩;have HB4:=za (HW3.out.step hb4);obtain⟨z0,z1,z2,z3,z4,z5,z6⟩:=zr (zb HB4.out HX.out);obtain⟨gb,go,hga,hltg,e0,e1,e2⟩:=HRG.out _ (HB.out.step HB4.out);cases hga;clear hb4))
          go_roundg (u.code.length-(t+1));case measure=>omega
          case rel=>exact⟨t+1,by omega,rfl,by go_num,za ⟨HNO.out,HB4.out⟩⟩
     ·have d24:(op==24)=false:=by simpa using h24
      have d25:(op==25)=false:=by simpa using h25
      have d32:(op==32)=false:=by simpa using h32
      have hpo:po=none:=by rw[HPO.out,d24,d25,d32];rfl
      clear HPO h24 h25 h32;subst hpo;replace HONE:Hid (L1=(br&&decide (0<=q)&&(u.guards.getD q.toNat jF).at'==p)):=za (HONE.out.trans (Bool.false_or _))
      cases br with
      |false=>
       replace HONE:=za (HONE.out.trans rfl:L1=false);replace HNO:=za (HNO.out HONE.out);clear HYES HONE
       go_wp2_with (first
        |(go_at_call 122;refine(HRS.out _).mono ?_;rintro e w3 ⟨rfl,hb3⟩;have HB3:=za (HBX.out.step hb3);have HW3:=za (HK.out.2.step HB3.out);obtain⟨y0,y1,y2,y3,y4,y5,y6⟩:=zr (zb HW3.out HX.out);clear hb3)
        |(go_at_call 180;refine(HGT.out _ (HB.out.step HW3.out)).mono ?_;rintro e w4 ⟨rfl,hb4⟩;have HB4:=za (HW3.out.step hb4);obtain⟨z0,z1,z2,z3,z4,z5,z6⟩:=zr (zb HB4.out HX.out);clear hb4))
       go_roundg (u.code.length-(t+1));case measure=>omega
       case rel=>exact⟨t+1,by omega,rfl,by go_num,za ⟨HNO.out,HB4.out⟩⟩
      |true=>
       rcases hq with rfl|⟨m,rfl,hm2⟩
       ·replace HONE:=za (HONE.out.trans rfl:L1=false)
        replace HNO:=za (HNO.out HONE.out);clear HYES HONE
        go_wp2_with (first
         |(go_at_call 122;refine(HRS.out _).mono ?_;rintro e w3 ⟨rfl,hb3⟩;have HB3:=za (HBX.out.step hb3);have HW3:=za (HK.out.2.step HB3.out);obtain⟨y0,y1,y2,y3,y4,y5,y6⟩:=zr (zb HW3.out HX.out);clear hb3)
         |(go_at_call 180;refine(HGT.out _ (HB.out.step HW3.out)).mono ?_;rintro e w4 ⟨rfl,hb4⟩;have HB4:=za (HW3.out.step hb4);obtain⟨z0,z1,z2,z3,z4,z5,z6⟩:=zr (zb HB4.out HX.out);clear hb4))
        go_roundg (u.code.length-(t+1));case measure=>omega
        case rel=>exact⟨t+1,by omega,rfl,by go_num,za ⟨HNO.out,HB4.out⟩⟩
       ·have nm:(m:Int)<(u.guards.length:Int):=by omega
        have nm0:(0:Int)<=(m:Int):=by omega
        have HRG:=za (fun wx (hb:Below w.heap.size w wx)=>(HM.out.rg.below hb) m hm2);rw[qQ,zk hm2,zP nm0]at HONE;generalize u.guards[m]=g at *;obtain⟨gf,gt,gA⟩:=g;dsimp only at HONE HRG;obtain⟨gb0,go0,hga0,-⟩:=HRG.out w (zG _ _);subst hga0
        cases hgp:(gA==p)with
        |true=>
         rw[hgp]at HONE;replace HYES:=za (HYES.out HONE.out);clear HNO HONE
         go_wp2_with (first
          |(go_at_call 122;refine(HRS.out _).mono ?_;rintro e w3 ⟨rfl,hb3⟩;have HB3:=za (HBX.out.step hb3);have HW3:=za (HK.out.2.step HB3.out);obtain⟨y0,y1,y2,y3,y4,y5,y6⟩:=zr (zb HW3.out HX.out);clear hb3)
          |(go_at_call 180;refine(HGT.out _ (HB.out.step HW3.out)).mono ?_;rintro e w4 ⟨rfl,hb4⟩;have HB4:=za (HW3.out.step hb4);obtain⟨z0,z1,z2,z3,z4,z5,z6⟩:=zr (zb HB4.out HX.out);obtain⟨gb,go,hga,hltg,e0,e1,e2⟩:=HRG.out _ (HB.out.step HB4.out);cases hga;clear hb4))
         go_ret
         exact⟨zn HYES.out.symm,HB.out.step HB4.out⟩
        |false=>
         rw[hgp]at HONE;replace HONE:=za (HONE.out.trans rfl:L1=false);replace HNO:=za (HNO.out HONE.out);clear HYES HONE
         go_wp2_with (first
          |(go_at_call 122;refine(HRS.out _).mono ?_;rintro e w3 ⟨rfl,hb3⟩;have HB3:=za (HBX.out.step hb3);have HW3:=za (HK.out.2.step HB3.out);obtain⟨y0,y1,y2,y3,y4,y5,y6⟩:=zr (zb HW3.out HX.out);clear hb3)
          |(go_at_call 180;refine(HGT.out _ (HB.out.step HW3.out)).mono ?_;rintro e w4 ⟨rfl,hb4⟩;have HB4:=za (HW3.out.step hb4);obtain⟨z0,z1,z2,z3,z4,z5,z6⟩:=zr (zb HB4.out HX.out);obtain⟨gb,go,hga,hltg,e0,e1,e2⟩:=HRG.out _ (HB.out.step HB4.out);cases hga;clear hb4))
         go_roundg (u.code.length-(t+1));case measure=>omega
         case rel=>exact⟨t+1,by omega,rfl,by go_num,za ⟨HNO.out,HB4.out⟩⟩
  ·obtain rfl:t=u.code.length:=by omega
   have nt:¬(u.code.length:Int)<(u.code.length:Int):=by omega
   have HF:Hid (Q=false):=za (by
    rw[HLED.out]
    cases h:(List.range u.code.length).any (ZI u p)with
    |false=>rfl
    |true=>
     obtain⟨k,hk,e⟩:=v_.1 h;rw[HK.out.1 k (yR.1 hk)]at e
     cases e)
   go_wp2;go_ret;exact⟨zn HF.out.symm,HB.out.step HK.out.2⟩
end Go.Proofs.YtgalekifgnecjaaGreat
