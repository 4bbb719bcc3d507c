/- writable of package regs -/
import Derived.Test.YtgalekifgnecjaaGreatC8
import Derived.Deep.CutBlock
namespace Go.Proofs.YtgalekifgnecjaaGreat
open Tryz Go.RowKit Go.Shelf
set_option maxHeartbeats 8000000
set_option maxRecDepth 100000
theorem S9(x p g:Nat)(L:List Int)(w:World)(hp:w.cell? ⟨p,0,none⟩=some (.slice (some ⟨g,0,none⟩) L.length L.length))(hb:BI w g L)(hx:x<L.length)(_hl:L.length<=1000000):
  Calls prog 98 #[.int .i64 x,.pointer (some ⟨p,0,none⟩)] w (zV (.bool (jt L x)) w):=by
 have hc:=hb.at hx;have H:Hid (jt L x=(L[x] !=(x:Int))):=za (by unfold jt;rw[show((x:Int)).toNat=x from rfl,zk hx]);have nx:(x:Int)<(L.length:Int):=by omega
 clear hb;generalize jt L x=r at *;generalize L[x]=y at *;go_enter func98,ntmps98;go_wp2;go_ret;exact⟨zn H.out.symm,zG _ _⟩
theorem SK(x s:Int)(p:Nat)(w:World)(hp:w.cell? ⟨p,3,none⟩=some (.int .i64 s))(hs:0<=s/\s<=1000000):
  Calls prog 100 #[.int .i64 x,.pointer (some ⟨p,0,none⟩)] w (zV (.bool (!yr x 0 (s-1))) w):=by
 have HW:=za (fun w=>xY x 0 (s-1) w);obtain⟨h1,h2⟩:=hs;generalize yr x 0 (s-1)=r at *;go_enter func100,ntmps100;go_wp2_with (go_at_call 43;refine(HW.out _).mono ?_;rintro e w' ⟨rfl,rfl⟩);go_ret;exact⟨rfl,zG _ _⟩
theorem Fa:xE 100:=enters_of func100 (by kernel_rfl) rfl
def Gf(u:zg)(x:zm):Bool:=((zp x).any fun s=> !yr s 0 (u.slots-1))||((zc x != -1)&& !yr (zc x) 0 (u.slots-1))
def IJ(u:zg)(fs:List Int)(k:Nat)(x:zm):Bool:=Gf u x||decide (fs.getD k 0<0)||x.op==33||x.op==34
def Qk(fs:List Int)(x:zm):Bool:=match zQ x with|some p=>jt fs p|none=>false
def KT(u:zg)(fs:List Int)(k:Nat)(x:zm):Bool:=decide (0<=zD u k)&&yZ x&&jt fs (u.guards.getD (zD u k).toNat jF).at'
theorem IK(u:zg)(fs:List Int)(k:Nat):qx u fs k=(!IJ u fs k (u.code.getD k zw)&& !Qk fs (u.code.getD k zw)&& !KT u fs k (u.code.getD k zw)):=by
 unfold qx IJ Gf Qk KT;generalize u.code.getD k zw=x;have e1:((zp x).all fun s=>yr s 0 (u.slots-1))= !((zp x).any fun s=> !yr s 0 (u.slots-1)):=by rw[List.all_eq_not_any_not]
 rw[e1];generalize ((zp x).any fun s=> !yr s 0 (u.slots-1))=a;generalize yr (zc x) 0 (u.slots-1)=b;have e2:(zc x != -1)= !(zc x== -1):=rfl;rw[e2];generalize (zc x== -1)=c;generalize decide (fs.getD k 0<0)=d;generalize (x.op==33)=e;generalize (x.op==34)=f;generalize decide (0<=zD u k)=g1;generalize yZ x=g2;generalize jt fs (u.guards.getD (zD u k).toNat jF).at'=g3;cases zQ x<;>cases a<;>cases b<;>cases c<;>cases d<;>cases e<;>cases f<;>simp
theorem OD{x:zm}{p:Int}(h:zQ x=some p):p∈qR x:=by
 unfold zQ at h;unfold qR;rw[xI];by_cases h1:x.op=24
 ·rw[zj (by simp[h1])]at h
  cases h;exact⟨0,by rw[h1];decide,rfl⟩
 ·rw[zi (by simpa using h1)]at h
  by_cases h2:x.op=25
  ·rw[zj (by simp[h2])]at h
   cases h;exact⟨1,by rw[h2];decide,rfl⟩
  ·by_cases h3:x.op=32
   ·rw[zj (by simp[h3])]at h
    cases h;exact⟨1,by rw[h3];decide,rfl⟩
   ·rw[zi (by simp[h2,h3])]at h
    cases h
structure AI(u:zg):Prop where
 pl:zJ u=true
 fr:u.frame=0
 sl:1<=u.slots/\u.slots<=200
 ar:yr u.args 0 u.slots=true
 en:qq (u.code.getD (u.code.length-1) zw)=true
theorem YB{u:zg}(h:zJ u=true):0<=u.slots/\u.slots<=200:=by
 unfold zJ at h;simp only[yi]at h;have:=h.1.1.1.2;unfold yr at this;simp at this;exact this
theorem jz{u:zg}(h:zJ u=true){k:Nat}(hk:k<u.code.length){p:Int}(hp:zQ u.code[k]=some p):0<=p/\p<u.code.length:=by
 unfold zJ at h;simp only[yi,yL]at h;have:=h.1.2 _ (yy hk);unfold xf at this;simp only[yi,yL]at this;have:=this.2 p (OD hp);unfold yr at this;simp at this;omega
theorem Zv{u:zg}(h:zJ u=true){g:Nat}(hg:g<u.guards.length):0<=u.guards[g].at'/\u.guards[g].at'<u.code.length/\0<=u.guards[g].frm/\u.guards[g].frm<u.guards[g].til/\u.guards[g].til<=u.code.length:=by
 unfold zJ at h;simp only[yi,yL]at h;have:=h.2 _ (yy hg);unfold xF yr at this;simp at this;omega
theorem Fu{u:zg}(h:AI u):zC u=(List.range u.code.length).all (qx u (zl u.code)):=by
 unfold zC;rw[h.pl,h.fr,h.ar,h.en,zP h.sl.1];rfl
theorem UC(u:zg)(ca cc ga gc)(w:World)(hm:jo w u ca cc ga gc)(h:AI u):
  Calls prog 42 #[vU u ca cc ga gc] w (zV (.bool (zC u)) w):=by
 obtain⟨hn0,hn6,hg4,_⟩:=z8 h.pl;obtain⟨hs1,hs2⟩:=h.sl;have HPL:=za (fun w' hb=>GA u ca cc ga gc w' (hm.below hb) (by omega) (by omega));have HFI:=za (fun w' hb=>G_ u ca cc ga gc w' (hm.below hb) (by omega));have HGU:=za (fun(n:Nat) w' hb=>JC u n ca cc ga gc w' (hm.rg.below hb) (by omega));have HAR:=za (fun w=>xY u.args 0 u.slots w);rw[h.ar]at HAR;rw[h.pl]at HPL;have hen:=h.en;obtain⟨m,hmm⟩:∃m,u.code.length=m+1:=⟨u.code.length-1,by omega⟩
 have hl1:(u.code.length:Int)-1=(m:Int):=by omega
 have hml:m<u.code.length:=by omega
 rw[show u.code.length-1=m by omega,zk hml]at hen;have nm:(m:Int)<(u.code.length:Int):=by omega
 have HMM:=za hmm;clear hmm;obtain⟨bc,oc,hca,hlt0,g0,g1,g2,g3⟩:=hm.rc m hml;have HEN:=za (fun w=>Kc u.code[m] w);rw[hen]at HEN;have HG0:=za (fun w1 (hb:Below w.heap.size w w1)=>zK hb g0);have HG1:=za (fun w1 (hb:Below w.heap.size w w1)=>zK hb g1);have HG2:=za (fun w1 (hb:Below w.heap.size w w1)=>zK hb g2);have HG3:=za (fun w1 (hb:Below w.heap.size w w1)=>zK hb g3);generalize u.code[m]=xl at *;clear hen g0 g1 g2 g3;have HM:=za hm;clear hm;have hfr0:(u.frame !=0)=false:=by rw[h.fr];rfl
 have hsl0:decide (u.slots<1)=false:=yn (by omega);have HWB:=za (Fu h);have HH:=za h;clear h;subst hca;have HX1:=za (zo w (oU u (some ⟨bc,oc,none⟩) cc ga gc) _ rfl);have HB:=za (zd w (oU u (some ⟨bc,oc,none⟩) cc ga gc));go_enter func42,ntmps42
 go_upto_region 3 with (first
  |(go_at_call 76;(with_reducible refine(HPL.out _ HB.out).mono ?_);rintro e w1 ⟨rfl,hb⟩;obtain⟨k0,k1,k2,k3,k4,k5,k6⟩:=zr (zb hb HX1.out);have hb1:=HB.out.step hb;have y0:=HG0.out _ hb1;have y1:=HG1.out _ hb1;have y2:=HG2.out _ hb1;have y3:=HG3.out _ hb1;have HB1:=za hb;clear hb hb1)
  |(go_at_call 43;(with_reducible refine(HAR.out _).mono ?_);rintro e w' ⟨rfl,rfl⟩)
  |(go_at_call 97;(with_reducible refine(HEN.out _).mono ?_);rintro e w2 ⟨rfl,hb⟩;have HB2:=za (HB1.out.step hb);clear hb))
 clear k0 k1 k2 k3 k4 k5 k6 y0 y1 y2 y3 HG0 HG1 HG2 HG3 HEN HAR HPL;obtain⟨w3,hw3⟩:∃w3,w3=w2:=⟨_,rfl⟩
 rw[<-hw3]at HB2;rw[<-hw3];clear hw3;have HX2:=za (zb HB2.out HX1.out);replace HB2:=za (HB.out.step HB2.out);clear HX1 HB;obtain⟨k0,k1,k2,k3,k4,k5,k6⟩:=zr HX2.out;have HFW:=za (HFI.out w3 HB2.out);have hfl:(zl u.code).length=u.code.length:=z_ _ _;generalize zl u.code=FS at *;go_upto_region 5 with (go_at_call 80;(with_reducible refine HFW.out.mono ?_);rintro e w4 ⟨hb,gF,rfl,hbi,hge⟩;have HB4:=za hb;have HBI:=za hbi;clear hb hbi hge);clear k0 k1 k2 k3 k4 k5 k6;have HFL:=za hfl;clear hfl;obtain⟨bF,hbF⟩:∃b,b=w4.heap.size:=⟨_,rfl⟩
 rw[<-hbF];obtain⟨wl,hwl⟩:∃wl,wl=w4.alloc (.cells #[.slice (some ⟨gF,0,none⟩) u.code.length u.code.length] 28):=⟨_,rfl⟩
 have HXF:Hid (wl.heap[bF]?=some (.cells #[.slice (some ⟨gF,0,none⟩) u.code.length u.code.length] 28)):=za (by rw[hwl];exact zo _ _ _ hbF);have HBL:Hid (Below w.heap.size w wl):=za (by rw[hwl];exact(HB2.out.step HB4.out).step (zd _ _));have HXU:Hid (wl.heap[w.heap.size]?=some (oU u (some ⟨bc,oc,none⟩) cc ga gc)):=za (by rw[hwl];exact zb (zd _ _) (zb HB4.out HX2.out));have HFB:Hid (BI wl gF FS):=za (by rw[hwl];exact HBI.out.below (zd _ _));rw[<-hwl];clear hwl hbF HBI HB4 HX2 HFW HFI HB2;obtain⟨k0,k1,k2,k3,k4,k5,k6⟩:=zr HXU.out;go_wp2;clear k0 k1 k2 k3 k4 k5 k6;go_loopg [50] u.code.length (fun gh s50 wr=>∃k:Nat,k<=u.code.length/\gh=u.code.length-k/\s50= .int .i64 k/\Hid (∀j,j<k->qx u FS j=true)/\Hid (Below wl.heap.size wl wr));case atStart=>exact⟨0,zE _,rfl,rfl,za (fun j hj=>absurd hj (y_ _)),za (zG _ _)⟩
 case round=>
  obtain⟨k,hk,rfl,rfl,HQ,HBR⟩:=hrel;by_cases hlk:k<u.code.length
  ·obtain⟨b3,o3,ha3,hlt3,c0,c1,c2,c3⟩:=(HM.out.rc.below (HBL.out.step HBR.out)) k hlk
   cases ha3;have nk:(k:Int)<(u.code.length:Int):=by omega
   have hpp:=fun p h=>jz HH.out.pl hlk (p:=p) h
   have HWI:=za (IK u FS k);rw[zk hlk]at HWI;have HFAL:Hid (qx u FS k=false->zC u=false):=za (fun e=>by rw[HWB.out];exact ZX hlk e);have HRD:=za (fun w=>Qn u.code[k] w);have HWR:=za (fun w=>qz u.code[k] w);have HRA:=za (fun w=>Gz u.code[k] w);have hrl2:(zp u.code[k]).length<=2:=by unfold zp;rw[yV];have:=ji u.code[k] (zM u.code[k].op).r0;have:=ji u.code[k] (zM u.code[k].op).r1;omega
   have HRL:=za hrl2;have HPP:=za hpp;clear hrl2 hpp;generalize u.code[k]=x at *;obtain⟨b6,hb6⟩:∃b,b=wr.heap.size:=⟨_,rfl⟩
   have HX6:=za (zo wr (.cells #[.int .i64 x.op,.int .i64 x.a,.int .i64 x.b,.int .i64 x.c] 85) b6 hb6);have HBX:=za (zd wr (.cells #[.int .i64 x.op,.int .i64 x.a,.int .i64 x.b,.int .i64 x.c] 85));go_upto_region 9 with (go_at_call 71;(with_reducible refine(HWR.out _).mono ?_);rintro e w5 ⟨rfl,hb⟩;have HB5:=za hb;clear hb);rw[<-hb6];replace HX6:=za (zb HB5.out HX6.out);have HB6:=za (HBR.out.step (HBX.out.step HB5.out));clear c0 c1 c2 c3 HBX HB5 hb6;go_cut [8]from 55 (fun s8 wx=>s8= .bool (Gf u x)/\Hid (Below w5.heap.size w5 wx))
   case first=>
    obtain⟨b0,b1,b2,b3⟩:=zX HX6.out;have k3:=(zA _ _ 3 _ _ _ (zb HB6.out HXU.out)).trans rfl;have HV:Hid (Gf u x=(((zp x).any fun s=> !yr s 0 (u.slots-1))||((zc x != -1)&& !yr (zc x) 0 (u.slots-1)))):=za rfl;have HSA:Hid (∀(pa:Option Addr) (pc:Nat) (w6:World),Below w5.heap.size w5 w6->yC w6 pa (zp x)->Calls prog 99 #[.slice pa (zp x).length pc,.func (.func 100) #[] #[.pointer (some ⟨w.heap.size,0,none⟩)]] w6 (zV (.bool ((zp x).any fun s=> !yr s 0 (u.slots-1))) w6)):=za (fun pa pc w6 hb6 hr=>E3 100 Fa #[.pointer (some ⟨w.heap.size,0,none⟩)] (fun s=> !yr s 0 (u.slots-1)) (zp x) pa pc w6 (fun y _ w' hb'=>SK y u.slots w.heap.size w' (zK hb' (zK hb6 k3)) (by omega)) hr (by have:=HRL.out;omega));have HWS:=za (fun w=>xY (zc x) 0 (u.slots-1) w);generalize ((zp x).any fun s=> !yr s 0 (u.slots-1))=vA at *;generalize yr (zc x) 0 (u.slots-1)=vI2 at *;generalize zc x=wx at *;generalize zp x=rl at *;generalize Gf u x=vb at *;have ns1:1<=u.slots:=hs1
    cases vA with
    |true=>
     go_wp2_with (first
      |(go_at_call 70;(with_reducible refine(HRD.out _).mono ?_);rintro e w6 ⟨hb,v,rfl,ho⟩;obtain⟨pa,pc,rfl,hrp⟩:=ho.rd;have HB7:=za hb;have HSB:=za (HSA.out pa pc _ hb hrp);clear hb ho hrp)
      |(go_at_call 99;(with_reducible refine HSB.out.mono ?_);rintro e w7 ⟨rfl,hb⟩;have HB8:=za hb;clear hb))
     go_meet
     exact⟨by rw[HV.out];rfl,za (HB7.out.step HB8.out)⟩
    |false=>
     cases hwn:(wx != -1)with
     |false=>
      rw[hwn]at HV
      go_wp2_with (first
       |(go_at_call 70;(with_reducible refine(HRD.out _).mono ?_);rintro e w6 ⟨hb,v,rfl,ho⟩;obtain⟨pa,pc,rfl,hrp⟩:=ho.rd;have HB7:=za hb;have HSB:=za (HSA.out pa pc _ hb hrp);clear hb ho hrp)
       |(go_at_call 99;(with_reducible refine HSB.out.mono ?_);rintro e w7 ⟨rfl,hb⟩;have HB8:=za hb;clear hb))
      go_meet
      exact⟨by rw[HV.out];rfl,za (HB7.out.step HB8.out)⟩
     |true=>
      rw[hwn]at HV
      go_wp2_with (first
       |(go_at_call 70;(with_reducible refine(HRD.out _).mono ?_);rintro e w6 ⟨hb,v,rfl,ho⟩;obtain⟨pa,pc,rfl,hrp⟩:=ho.rd;have HB7:=za hb;have HSB:=za (HSA.out pa pc _ hb hrp);clear hb ho hrp)
       |(go_at_call 99;(with_reducible refine HSB.out.mono ?_);rintro e w7 ⟨rfl,hb⟩;have HB8:=za hb;have k33:=zK (HB7.out.step hb) k3;clear hb)
       |(go_at_call 43;(with_reducible refine(HWS.out _).mono ?_);rintro e w' ⟨rfl,rfl⟩))
      go_meet;exact⟨by rw[HV.out];rfl,za (HB7.out.step HB8.out)⟩
   case rest=>
    obtain⟨rfl,HB9⟩:=hcut;have HB10:=za (HB6.out.step HB9.out);have HX7:=za (zb HB9.out HX6.out);clear HX6 HRD HWR;obtain⟨b0,b1,b2,b3⟩:=zX HX7.out;have kF:=(zA _ _ 0 _ _ _ (zb HB10.out HXF.out)).trans rfl;have lk:k<FS.length:=by rw[HFL.out];exact hlk
    have fk:=(HFB.out.below HB10.out).at lk;have HV:Hid (IJ u FS k x=(Gf u x||decide (FS[k]<0)||x.op==33||x.op==34)):=za (by unfold IJ;rw[zk lk]);generalize FS[k]=fsk at *;generalize hv8:Gf u x=v8 at *;clear hv8;obtain⟨wd,hwd⟩:∃wd:World,wd=wc:=⟨_,rfl⟩
    rw[<-hwd]at HB9 HB10 HX7 b0 b1 b2 b3 kF fk;rw[<-hwd];clear hwd;go_upto_region 10 with fail;go_cut [90]from 91 (fun s90 wx=>s90= .bool (IJ u FS k x)/\Hid (wd=wx))
    case first=>
     generalize IJ u FS k x=vo at *
     cases v8 with
     |true=>
      go_wp2;go_meet
      exact⟨by rw[HV.out];rfl,za rfl⟩
     |false=>
      by_cases hd:fsk<0
      ·have dd:decide (fsk<0)=true:=zP hd
       rw[dd]at HV;go_wp2;go_meet;exact⟨by rw[HV.out];rfl,za rfl⟩
      ·have dd:decide (fsk<0)=false:=yn hd
       rw[dd]at HV
       cases e33:(x.op==33)with
       |true=>
        rw[e33]at HV;go_wp2;go_meet
        exact⟨by rw[HV.out];rfl,za rfl⟩
       |false=>
        rw[e33]at HV;go_wp2;go_meet;exact⟨by rw[HV.out];rfl,za rfl⟩
    case rest=>
     obtain⟨rfl,HW9⟩:=hcut;rw[HW9.out]at HB9 HB10 HX7;clear HV b0 b1 b2 b3 kF fk HW9;obtain⟨b0,b1,b2,b3⟩:=zX HX7.out;have kF:=(zA _ _ 0 _ _ _ (zb HB10.out HXF.out)).trans rfl
     cases hvo:IJ u FS k x with
     |true=>
      have HE:=za (HFAL.out (by rw[HWI.out,hvo];rfl));clear hvo;go_wp2;go_ret
      exact⟨zn HE.out.symm,HBL.out.step HB10.out⟩
     |false=>
      rw[hvo]at HWI;clear hvo;have HPA:=za (Qo x.op b6 0 wc b0);have H98:Hid (∀(p:Nat),p<u.code.length->∀w',Below wc.heap.size wc w'->Calls prog 98 #[.int .i64 p,.pointer (some ⟨bF,0,none⟩)] w' (zV (.bool (jt FS p)) w')):=za (fun p hp w' hb'=>S9 p bF gF FS w' (by rw[HFL.out];exact zK hb' kF) ((HFB.out.below HB10.out).below hb') (by rw[HFL.out];exact hp) (by rw[HFL.out];omega));have HPV:Hid (Qk FS x=match zQ x with|some p=>jt FS p|none=>false):=za rfl;have HPO:Hid (zQ x=if x.op==24 then some x.a else if x.op==25||x.op==32 then some x.b else none):=za rfl;have HPD:Hid (YM x.op b6 0=if x.op==24 then some ⟨b6,0+1,none⟩else if x.op==25||x.op==32 then some ⟨b6,0+2,none⟩else none):=za rfl;obtain⟨we,hwe⟩:∃we:World,we=wc:=⟨_,rfl⟩
      rw[<-hwe]at HB9 HB10 HX7 b0 b1 b2 b3 kF H98 HPA;rw[<-hwe];clear hwe;go_upto_region 13 with (go_at_call 101;(with_reducible refine HPA.out.mono ?_);rintro e w' ⟨rfl,rfl⟩);generalize zQ x=po at *;generalize YM x.op b6 0=pA at *;go_cut [100]from 101 (fun s100 wx=>s100= .bool (Qk FS x)/\Hid (Below we.heap.size we wx))
      case first=>
       generalize Qk FS x=vp at *
       cases e24:(x.op==24)with
       |true=>
        rw[e24]at HPO HPD;obtain rfl:po=some x.a:=HPO.out;obtain rfl:pA=some ⟨b6,1,none⟩:=HPD.out;obtain⟨hp0,hp1⟩:=HPP.out _ rfl;obtain⟨p,hp⟩:∃p:Nat,x.a=(p:Int):=⟨x.a.toNat,by omega⟩
        have H9:=za (H98.out p (by omega) _ (zG _ _));rw[<-hp]at H9;replace HPV:=za (HPV.out.trans rfl:vp=jt FS x.a);clear hp0 hp1 hp;go_wp2_with (go_at_call 98;(with_reducible refine H9.out.mono ?_);rintro e w' ⟨rfl,hb⟩;have HB11:=za hb;clear hb);go_meet
        exact⟨by rw[HPV.out],HB11⟩
       |false=>
        rw[e24]at HPO HPD
        cases e25:(x.op==25||x.op==32)with
        |true=>
         rw[e25]at HPO HPD;obtain rfl:po=some x.b:=HPO.out;obtain rfl:pA=some ⟨b6,2,none⟩:=HPD.out;obtain⟨hp0,hp1⟩:=HPP.out _ rfl;obtain⟨p,hp⟩:∃p:Nat,x.b=(p:Int):=⟨x.b.toNat,by omega⟩
         have H9:=za (H98.out p (by omega) _ (zG _ _));rw[<-hp]at H9;replace HPV:=za (HPV.out.trans rfl:vp=jt FS x.b);clear hp0 hp1 hp e25;go_wp2_with (go_at_call 98;(with_reducible refine H9.out.mono ?_);rintro e w' ⟨rfl,hb⟩;have HB11:=za hb;clear hb);go_meet
         exact⟨by rw[HPV.out],HB11⟩
        |false=>
         rw[e25]at HPO HPD;obtain rfl:po=none:=HPO.out;obtain rfl:pA=none:=HPD.out;replace HPV:=za (HPV.out.trans rfl:vp=false);clear e25;go_wp2;go_meet;exact⟨by rw[HPV.out],za (zG _ _)⟩
      case rest=>
       obtain⟨rfl,HB11⟩:=hcut;have HB12:=za (HB10.out.step HB11.out);have HX8:=za (zb HB11.out HX7.out);clear HPV HPO HPD HPA b0 b1 b2 b3 kF HX7
       cases hvp:Qk FS x with
       |true=>
        have HE:=za (HFAL.out (by rw[HWI.out,hvp];rfl));clear hvp;go_wp2;go_ret
        exact⟨zn HE.out.symm,HBL.out.step HB12.out⟩
       |false=>
        rw[hvp]at HWI;clear hvp;obtain⟨k0,k1,k2,k3,k4,k5,k6⟩:=zr (zb HB12.out HXU.out);have HGW:=za (HGU.out k wc (HBL.out.step HB12.out));have HGV:Hid (KT u FS k x=(decide (0<=zD u k)&&yZ x&&jt FS (u.guards.getD (zD u k).toNat jF).at')):=za rfl;have HGL2:=za (And.intro (Zr (yH k) u.guards).1 (Zr (yH k) u.guards).2);have HGI:Hid (zD u k=Ya (yH k) u.guards):=za rfl;rw[<-HGI.out]at HGL2;clear HGI;generalize zD u k=gl at *;go_upto_region 16 with (go_at_call 102;(with_reducible refine HGW.out.mono ?_);rintro e w9 ⟨rfl,hb⟩;have HB13:=za hb;clear hb);clear k0 k1 k2 k3 k4 k5 k6;have HX9:=za (zb HB13.out HX8.out);have HB14:=za (HB12.out.step HB13.out);have HB15:=za (HB11.out.step HB13.out);obtain⟨b0,b1,b2,b3⟩:=zX HX9.out;have k6:=(zA _ _ 6 _ _ _ (zb HB14.out HXU.out)).trans rfl;go_cut [119]from 120 (fun s119 wx=>s119= .bool (KT u FS k x)/\Hid (Below w9.heap.size w9 wx))
        case first=>
         generalize KT u FS k x=vg at *;by_cases hg0:0<=gl
         ·have dg:decide (0<=gl)=true:=zP hg0
          rw[dg]at HGV
          cases hrz:yZ x with
          |false=>
           rw[hrz]at HGV HRA;clear hrz;go_wp2_with (go_at_call 103;(with_reducible refine(HRA.out _).mono ?_);rintro e w' ⟨rfl,hb⟩;have HB16:=za hb;clear hb);go_meet
           exact⟨by rw[HGV.out];rfl,HB16⟩
          |true=>
           rw[hrz]at HGV HRA;clear hrz;obtain⟨gn,rfl⟩:∃q:Nat,gl=(q:Int):=⟨gl.toNat,by omega⟩
           have hgl:gn<u.guards.length:=by have:=HGL2.out.2;omega
           have ngl:(gn:Int)<(u.guards.length:Int):=by omega
           obtain⟨hat0,hat1,_⟩:=Zv HH.out.pl hgl;obtain⟨bg,og,hga,_,-,-,q2⟩:=(HM.out.rg.below (HBL.out.step HB14.out)) gn hgl;rw[show((gn:Int)).toNat=gn from rfl,zk hgl]at HGV;subst hga;obtain⟨p,hp⟩:∃p:Nat,u.guards[gn].at'=(p:Int):=⟨u.guards[gn].at'.toNat,by omega⟩
           have H9:=za (fun w' hb=>H98.out p (by omega) w' (HB15.out.step hb));rw[<-hp]at H9;have HQ2:=za (fun w' (hb:Below w9.heap.size w9 w')=>zK hb q2);have HQ6:=za (fun w' (hb:Below w9.heap.size w9 w')=>zK hb k6);generalize u.guards[gn]=gd at *;clear hat0 hat1 hp q2
           go_wp2_with (first
            |(go_at_call 103;(with_reducible refine(HRA.out _).mono ?_);rintro e w' ⟨rfl,hb⟩;have HB16:=za hb;have kk6:=HQ6.out _ hb;have qq2:=HQ2.out _ hb;clear hb)
            |(go_at_call 98;(with_reducible refine(H9.out _ HB16.out).mono ?_);rintro e w' ⟨rfl,hb⟩;have HB17:=za (HB16.out.step hb);clear hb))
           go_meet;exact⟨by rw[HGV.out];rfl,HB17⟩
         ·have dg:decide (0<=gl)=false:=yn hg0
          rw[dg]at HGV;go_wp2;go_meet;exact⟨by rw[HGV.out];rfl,za (zG _ _)⟩
        case rest=>
         obtain⟨rfl,HB18⟩:=hcut;have HB19:=za (HB14.out.step HB18.out);clear HGV b0 b1 b2 b3 k6
         cases hvg:KT u FS k x with
         |true=>
          have HE:=za (HFAL.out (by rw[HWI.out,hvg];rfl));clear hvg;go_wp2;go_ret
          exact⟨zn HE.out.symm,HBL.out.step HB19.out⟩
         |false=>
          have HE:Hid (qx u FS k=true):=za (by rw[HWI.out,hvg];rfl);clear hvg;go_wp2;go_roundg (u.code.length-(k+1));case measure=>omega
          case rel=>
           refine⟨k+1,by omega,rfl,by go_num,za (fun j hj=> ?_),HB19⟩;by_cases hjk:j<k
           ·exact HQ.out j hjk
           ·obtain rfl:j=k:=by omega
            exact HE.out
  ·obtain rfl:k=u.code.length:=by omega
   have HT:Hid (zC u=true):=za (by rw[HWB.out,yL];exact fun j hj=>HQ.out j (yR.1 hj));go_wp2;go_ret;exact⟨zn HT.out.symm,HBL.out.step HBR.out⟩
theorem Om(u:zg)(ca cc ga gc)(w:World)(hm:jo w u ca cc ga gc)(hlc:u.code.length<=1000000)(hlg:u.guards.length<=1000000)(h:¬AI u):
  Calls prog 42 #[vU u ca cc ga gc] w (zV (.bool (zC u)) w):=by
 have HPL:=za (fun w' hb=>GA u ca cc ga gc w' (hm.below hb) hlc hlg);have HAR:=za (fun w=>xY u.args 0 u.slots w);have HWB:Hid (zC u=(zJ u&&u.frame==0&&decide (1<=u.slots)&&yr u.args 0 u.slots&&qq (u.code.getD (u.code.length-1) zw)&&(List.range u.code.length).all (qx u (zl u.code)))):=za rfl;have HX1:=za (zo w (oU u ca cc ga gc) _ rfl);have HB:=za (zd w (oU u ca cc ga gc));generalize zC u=r at *
 cases hp:zJ u with
 |false=>
  rw[hp]at HPL HWB;go_enter func42,ntmps42;go_wp2_with (go_at_call 76;(with_reducible refine(HPL.out _ HB.out).mono ?_);rintro e w1 ⟨rfl,hb⟩;have HB1:=za (HB.out.step hb);clear hb);go_ret
  exact⟨zn (by rw[HWB.out];rfl),HB1.out⟩
 |true=>
  obtain⟨hn0,hn6,hg4,_⟩:=z8 hp;obtain⟨hs0,hs2⟩:=YB hp;rw[hp]at HPL HWB
  cases hf:(u.frame==0)with
  |false=>
   rw[hf]at HWB;have hf2:(u.frame !=0)=true:=by unfold bne;rw[hf];rfl
   clear hf;go_enter func42,ntmps42;go_wp2_with (go_at_call 76;(with_reducible refine(HPL.out _ HB.out).mono ?_);rintro e w1 ⟨rfl,hb⟩;obtain⟨k0,k1,k2,k3,k4,k5,k6⟩:=zr (zb hb HX1.out);have HB1:=za (HB.out.step hb);clear hb);go_ret
   exact⟨zn (by rw[HWB.out];rfl),HB1.out⟩
  |true=>
   rw[hf]at HWB;have hf2:(u.frame !=0)=false:=by unfold bne;rw[hf];rfl
   have HF0:=za (eq_of_beq hf);clear hf;by_cases hs:u.slots<1
   ·have ds:decide (u.slots<1)=true:=zP hs
    rw[yn (show ¬1<=u.slots by omega)]at HWB;clear hs;go_enter func42,ntmps42;go_wp2_with (go_at_call 76;(with_reducible refine(HPL.out _ HB.out).mono ?_);rintro e w1 ⟨rfl,hb⟩;obtain⟨k0,k1,k2,k3,k4,k5,k6⟩:=zr (zb hb HX1.out);have HB1:=za (HB.out.step hb);clear hb);go_ret;exact⟨zn (by rw[HWB.out];rfl),HB1.out⟩
   ·have ds:decide (u.slots<1)=false:=yn hs
    have hs1:1<=u.slots:=by omega
    rw[zP hs1]at HWB;clear hs
    cases ha:yr u.args 0 u.slots with
    |false=>
     rw[ha]at HWB HAR;clear ha;go_enter func42,ntmps42
     go_wp2_with (first
      |(go_at_call 76;(with_reducible refine(HPL.out _ HB.out).mono ?_);rintro e w1 ⟨rfl,hb⟩;obtain⟨k0,k1,k2,k3,k4,k5,k6⟩:=zr (zb hb HX1.out);have HB1:=za (HB.out.step hb);clear hb)
      |(go_at_call 43;(with_reducible refine(HAR.out _).mono ?_);rintro e w' ⟨rfl,rfl⟩))
     go_ret
     exact⟨zn (by rw[HWB.out];rfl),HB1.out⟩
    |true=>
     obtain⟨m,hmm⟩:∃m,u.code.length=m+1:=⟨u.code.length-1,by omega⟩
     have hl1:(u.code.length:Int)-1=(m:Int):=by omega
     have hml:m<u.code.length:=by omega
     have nm:(m:Int)<(u.code.length:Int):=by omega
     have hel:u.code.getD (u.code.length-1) zw=u.code[m]:=by rw[show u.code.length-1=m by omega,zk hml]
     have hen:qq u.code[m]=false:=by
      cases he:qq u.code[m]with
      |false=>rfl
      |true=>exact absurd ⟨hp,HF0.out,⟨hs1,hs2⟩,ha,by rw[hel];exact he⟩ h
     rw[ha]at HWB HAR;rw[hel,hen]at HWB;clear hel hmm;obtain⟨bc,oc,hca,hlt0,g0,g1,g2,g3⟩:=hm.rc m hml;have HEN:=za (fun w=>Kc u.code[m] w);rw[hen]at HEN;have HG0:=za (fun w1 (hb:Below w.heap.size w w1)=>zK hb g0);have HG1:=za (fun w1 (hb:Below w.heap.size w w1)=>zK hb g1);have HG2:=za (fun w1 (hb:Below w.heap.size w w1)=>zK hb g2);have HG3:=za (fun w1 (hb:Below w.heap.size w w1)=>zK hb g3);generalize u.code[m]=xl at *;clear hen g0 g1 g2 g3 ha hp;subst hca;go_enter func42,ntmps42
     go_wp2_with (first
      |(go_at_call 76;(with_reducible refine(HPL.out _ HB.out).mono ?_);rintro e w1 ⟨rfl,hb⟩;obtain⟨k0,k1,k2,k3,k4,k5,k6⟩:=zr (zb hb HX1.out);have hb1:=HB.out.step hb;have y0:=HG0.out _ hb1;have y1:=HG1.out _ hb1;have y2:=HG2.out _ hb1;have y3:=HG3.out _ hb1;have HB1:=za hb1;clear hb hb1)
      |(go_at_call 43;(with_reducible refine(HAR.out _).mono ?_);rintro e w' ⟨rfl,rfl⟩)
      |(go_at_call 97;(with_reducible refine(HEN.out _).mono ?_);rintro e w2 ⟨rfl,hb⟩;have HB2:=za (HB1.out.step hb);clear hb))
     go_ret;exact⟨zn (by rw[HWB.out];rfl),HB2.out⟩
theorem qv(u:zg)(ca cc ga gc)(w:World)(hm:jo w u ca cc ga gc)(hlc:u.code.length<=1000000)(hlg:u.guards.length<=1000000):
  Calls prog 42 #[vU u ca cc ga gc] w (zV (.bool (zC u)) w):=by
 by_cases h:AI u
 ·exact UC u ca cc ga gc w hm h
 ·exact Om u ca cc ga gc w hm hlc hlg h
end Go.Proofs.YtgalekifgnecjaaGreat
