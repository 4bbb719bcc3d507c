/- Clashes of a unit that can be written anew: what they are made of -/
import Derived.Test.YtgalekifgnecjaaGreatS3
import Derived.Test.YtgalekifgnecjaaGreatN1
import Derived.Test.YtgalekifgnecjaaGreatN6
namespace Go.Proofs.YtgalekifgnecjaaGreat
open Tryz Go.RowKit
open Go.RowKit Go.Shelf
set_option maxHeartbeats 8000000
set_option maxRecDepth 100000
theorem zu.kept{w w':World}{base:Nat}{v:Value}{l:List Int}{row:Option Nat}(h:zu w base v l)(hg:w.grownBy w' row)(hn:∀b,v.ownBlock=some b->some b≠row):zu w' base v l:=
 yA h (fun b hb hlt=>hg.block b hlt (hn b hb))
theorem XQ{u:zg}(hw:zC u=true){k:Nat}(hk:k<u.code.length):qx u (zl u.code) k=true:=by
 simp only[zC,yi,yL]at hw;exact hw.2 k (yR.2 hk)
theorem qG{u:zg}(hw:zC u=true){k:Nat}(hk:k<u.code.length):∀x∈zp u.code[k],0<=x/\x<u.slots:=by
 intro x hx;have h2:=XQ hw hk;unfold qx at h2;simp only[yi,yL]at h2;have h3:=h2.1.1.1.1.1.1 x (by rw[zk hk];exact hx);simp only[yr,yi,yB]at h3;omega
theorem xA{u:zg}(hw:zC u=true){k:Nat}(hk:k<u.code.length): -1<=zc u.code[k]/\zc u.code[k]<u.slots:=by
 have h2:=XQ hw hk
 have h0:1<=u.slots:=by
  simp only[zC,yi,yB]at hw;exact hw.1.1.1.2
 unfold qx at h2;simp only[yi]at h2;have h3:=h2.1.1.1.1.1.2;rw[zk hk]at h3;simp only[yr,jV,qE,yi,yB]at h3;omega
theorem ZR{u:zg}(hw:zC u=true)(t:Nat):∀x∈(zf u).getD t [],0<=x/\x<u.slots:=by
 intro x hx;have h1:=(yq u).un t x hx;unfold Vm at h1;rw[List.mem_flatMap]at h1;obtain⟨y,hy,hx2⟩:=h1;obtain⟨k,hk,rfl⟩:=List.getElem_of_mem hy;exact qG hw hk x hx2
theorem Zh{L:List (List Int)}{x:Int}:∀ {ps:List Int},x∈qV L ps↔∃p∈ps,x∈L.getD p.toNat []:=by
 have h:∀(ps:List Int) (s:List Int),x∈ps.foldl (fun out p=>yG out (L.getD p.toNat [])) s↔x∈s\/∃p∈ps,x∈L.getD p.toNat []:=by
  intro ps
  induction ps with
  |nil=>intro s;simp
  |cons p ps ih=>
   intro s;rw[qP,ih,qs];simp only[xK,exists_eq_or_imp];constructor
   ·rintro((h|h)|h)
    ·exact .inl h
    ·exact .inr (.inl h)
    ·exact .inr (.inr h)
   ·rintro(h|h|h)
    ·exact .inl (.inl h)
    ·exact .inl (.inr h)
    ·exact .inr h
 intro ps;unfold qV;rw[h];simp
theorem Jn{u:zg}(hw:zC u=true)(ps:List Int):∀x∈qV (zf u) ps,0<=x/\x<u.slots:=by
 intro x hx;obtain⟨p,_,hx⟩:=Zh.1 hx;exact ZR hw _ x hx
theorem zL{u:zg}(hw:zC u=true):0<=u.args/\u.args<=u.slots/\1<=u.slots/\u.slots<=200:=by
 have hs:=YB (zH hw);simp only[zC,yr,yi,yB]at hw;omega
attribute [local go_sem] Oper.semAt_some
structure EY(w0:World)(bu:Nat)(ou:Obj)(bx bm:Nat)(S:List (Int×Int))(wr:World):Prop where
 hb:Below w0.heap.size w0 wr
 hu:wr.heap[bu]?=some ou
 hx:wr.heap[bx]?=some (.cells #[.map (some bm)] 116)
 hs:y8 wr bm S
theorem EY.put{w0:World}{bu:Nat}{ou:Obj}{bx bm:Nat}{S S':List (Int×Int)}{wr w6:World}(h:EY w0 bu ou bx bm S wr)(hg:wr.grownBy w6 (some bm))(hs:y8 w6 bm S')(h1:w0.heap.size<=bm)(h2:bu≠bm)(h3:bx≠bm):EY w0 bu ou bx bm S' w6:=
 ⟨h.hb.grown hg h.hb.size (fun r e=>by cases e;exact h1),(hg.block _ (ze h.hu) (fun e=>h2 (by cases e;rfl))).trans h.hu,(hg.block _ (ze h.hx) (fun e=>h3 (by cases e;rfl))).trans h.hx,hs⟩
theorem EY.below{w0:World}{bu:Nat}{ou:Obj}{bx bm:Nat}{S:List (Int×Int)}{wr w6:World}(h:EY w0 bu ou bx bm S wr)(hb:Below wr.heap.size wr w6):EY w0 bu ou bx bm S w6:=
 ⟨h.hb.step hb,zb hb h.hu,zb hb h.hx,h.hs.below hb⟩
def AL(w:World)(b:Nat):Prop:=∃es c,w.heap[b]?=some (.map es c)
theorem y8.isMap{w:World}{b:Nat}{S:List (Int×Int)}(h:y8 w b S):AL w b:=by
 obtain⟨es,clock,hb,_⟩:=h.mp.own;exact⟨es,clock,hb⟩
theorem Ki{w w':World}{b:Nat}{p:Addr}{v:Value}(hm:AL w b)(hg:w.grownBy w' (some b))(h:w.cell? p=some v):w'.cell? p=some v:=by
 have hlt:p.block<w.heap.size:=by
  unfold World.cell? at h
  cases hh:w.heap[p.block]? with
  |none=>simp[hh]at h
  |some o=>exact ze hh
 have hne:p.block≠b:=fun e=>by
  obtain⟨es,c,hb⟩:=hm;unfold World.cell? at h;rw[e]at h;simp[hb]at h
 exact(ZO (hg.block p.block hlt (fun e=>hne (by cases e;rfl)))).trans h
theorem yC.but{w w':World}{b:Nat}{a:Option Addr}{l:List Int}(h:yC w a l)(hm:AL w b)(hg:w.grownBy w' (some b)):yC w' a l:=by
 intro i hi;obtain⟨b2,off,ha,hlt,hc⟩:=h i hi;exact⟨b2,off,ha,xh hlt hg.size,Ki hm hg hc⟩
theorem QC.but{w w':World}{b:Nat}{a:Option Addr}{L:List (List Int)}(h:QC w a L)(hm:AL w b)(hg:w.grownBy w' (some b)):QC w' a L:=by
 intro i hi;obtain⟨b2,off,ai,ci,ha,hlt,hc,hr,hl,hn⟩:=h i hi;exact⟨b2,off,ai,ci,ha,xh hlt hg.size,Ki hm hg hc,hr.but hm hg,hl,fun b2 o2 e=>xh (hn b2 o2 e) hg.size⟩
theorem Ye{w w':World}{b k:Nat}{o:Obj}(hg:w.grownBy w' (some b))(h:w.heap[k]?=some o)(hn:k≠b):w'.heap[k]?=some o:=
 (hg.block _ (ze h) (fun e=>hn (by cases e;rfl))).trans h
def XC(a:Int)(l:List (Int×Int))(bs:List Int):List (Int×Int):=bs.foldl (fun l b=>xu l a b) l
theorem G9{a:Int}{l:List (Int×Int)}{bs:List Int}{j:Nat}(h:j<bs.length):XC a l (bs.take (j+1))=xu (XC a l (bs.take j)) a bs[j]:=by
 unfold XC;rw[zO h,jc];rfl
theorem Ih(k:Nat)(l:List (Int×Int))(j:Nat):(List.range (j+1)).foldl (fun l (b:Nat)=>xu l k b) l=xu ((List.range j).foldl (fun l (b:Nat)=>xu l k b) l) k j:=by
 rw[Ze,jc];rfl
theorem YG(u:zg)(ca cc ga gc)(w:World)(hm:jo w u ca cc ga gc)(hw:zC u=true):
  Calls prog 63 #[vU u ca cc ga gc] w fun e w'=>Below w.heap.size w w'/\∃b,e= .returned (.map (some b))/\y8 w' b (zZ u)/\w.heap.size<=b:=by
 have hn6:=qA hw;have hargs:=zL hw;have hgo:=yq u
 have hlen0:0<u.code.length:=by
  have:=zH hw;simp only[zJ,yr,yi,yB]at this;omega
 have HM:=za hm;clear hm;have HFO:=za (fun w' (hb:Below w.heap.size w w')=>Xn u ca cc ga gc w' (HM.out.below hb) hw);obtain⟨n,hn⟩:∃n:Nat,u.args=(n:Int):=⟨u.args.toNat,by omega⟩
 have HN:=za hn;have hn2:n<=200:=by omega
 clear hn;have hmm:=@run_makeMap prog;obtain⟨wa,hwa⟩:∃wa,wa=((w.alloc (oU u ca cc ga gc)).alloc (.map #[] 0)).alloc (.cells #[.map (some (w.heap.size+1))] 116):=⟨_,rfl⟩
 have HI:Hid (EY w w.heap.size (oU u ca cc ga gc) (w.heap.size+1+1) (w.heap.size+1) [] wa):=za (by
  have hs:=OH (w.alloc (oU u ca cc ga gc));rw[vJ]at hs;rw[hwa]
  exact⟨((zd w _).step (zd _ _)).step (zd _ _),zb (zd _ _) (zb (zd _ _) (zo _ _ _ rfl)),zo _ _ _ (by simp),hs.below (zd _ _)⟩)
 obtain⟨bm,hbm⟩:∃b,b=w.heap.size+1:=⟨_,rfl⟩
 obtain⟨bx,hbx⟩:∃b,b=bm+1:=⟨_,rfl⟩
 have HBM:=za hbm;have HBX:=za hbx;rw[<-hbm,<-hbx]at HI;go_enter func63,ntmps63;go_upto_region 3 with fail;rw[<-hwa,<-hbm,<-hbx];clear hwa hbm hbx hmm;have HU:Hid (w.heap.size≠bm/\bx≠bm/\w.heap.size<=bm):=za (by have:=HBM.out;have:=HBX.out;omega);obtain⟨k0,k1,k2,k3,k4,k5,k6⟩:=zr HI.out.hu;rw[HN.out]at k2;go_upto_region 4 with fail;clear k0 k1 k2 k3 k4 k5 k6;go_loopg [20] n (fun gh s20 wr=>∃k:Nat,k<=n/\gh=n-k/\s20= .int .i64 k/\Hid (EY w w.heap.size (oU u ca cc ga gc) bx bm (yT [] k) wr));case atStart=>exact⟨0,zE _,rfl,rfl,HI⟩
 case round=>
  obtain⟨k,hk,rfl,rfl,HQ⟩:=hrel;by_cases hkn:k<n
  ·have nk:(k:Int)<(n:Int):=by omega
   go_upto_region 7 with fail;go_loopg [24] k (fun gh s24 wr=>∃j:Nat,j<=k/\gh=k-j/\s24= .int .i64 j/\Hid (EY w w.heap.size (oU u ca cc ga gc) bx bm ((List.range j).foldl (fun l (b:Nat)=>xu l k b) (yT [] k)) wr));case atStart=>exact⟨0,zE _,rfl,rfl,HQ⟩
   case round=>
    obtain⟨j,hj,rfl,rfl,HJ⟩:=hrel;by_cases hjk:j<k
    ·have nj:(j:Int)<(k:Int):=by omega
     have HNO:=za (GF k j bx bm _ wr HJ.out.hx HJ.out.hs (by omega) (by omega));have HFR:=za (Ih k (yT [] k) j);generalize (List.range j).foldl (fun l (b:Nat)=>xu l k b) (yT [] k)=S0 at *
     go_wp2_with (first
      |(go_at_call 134;(with_reducible refine HNO.out.mono ?_);rintro e w6 ⟨rfl,hg6,hs6⟩;have HS6:=za hs6;have HG6:=za hg6;clear hs6 hg6))
     go_roundg (k-(j+1));case measure=>omega
     case rel=>exact⟨j+1,by omega,rfl,by go_num,za (by rw[HFR.out];exact HJ.out.put HG6.out HS6.out HU.out.2.2 HU.out.1 HU.out.2.1)⟩
    ·obtain rfl:j=k:=by omega
     have nj:¬(j:Int)<(j:Int):=by omega
     go_wp2;go_roundg (n-(j+1));case measure=>omega
     case rel=>exact⟨j+1,by omega,rfl,by go_num,za HJ.out⟩
  ·obtain rfl:k=n:=by omega
   have nk:¬(k:Int)<(k:Int):=by omega
   clear HI;obtain⟨k0,k1,k2,k3,k4,k5,k6⟩:=zr HQ.out.hu
   go_upto_region 13 with (first
    |(go_at_call 48;(with_reducible refine(HFO.out _ HQ.out.hb).mono ?_);rintro e w3 ⟨hb,v3,rfl,ho⟩;obtain⟨va,vc,rfl,hrl⟩:=ho.rd;have HI3:=za (HQ.out.below hb);have HL3:=za hrl;clear hb ho hrl))
   clear k0 k1 k2 k3 k4 k5 k6;obtain⟨bf,hbf⟩:∃b,b=w3.heap.size:=⟨_,rfl⟩
   obtain⟨wb,hwb⟩:∃wb,wb=w3.alloc (Dg u ca cc ga gc (.slice va (zf u).length vc)):=⟨_,rfl⟩
   have HFB:Hid (wb.heap[bf]?=some (Dg u ca cc ga gc (.slice va (zf u).length vc))):=za (by rw[hwb];exact zo _ _ _ hbf);have HIB:Hid (EY w w.heap.size (oU u ca cc ga gc) bx bm (yT [] k) wb):=za (by rw[hwb];exact HI3.out.below (zd _ _));have HLB:Hid (QC wb va (zf u)):=za (by rw[hwb];exact HL3.out.below (zd _ _));have HUF:Hid (bf≠bm):=za (by have:=HI3.out.hs.lt;omega);rw[<-hbf,<-hwb];clear hwb hbf HQ HI3 HL3 HFO;have HLEN:Hid ((zf u).length=u.code.length):=za hgo.len;have HL0:=za (HLB.out 0 (by have:=HLEN.out;omega));have HL0E:Hid ((zf u).getD 0 []=(zf u)[0]'(by have:=HLEN.out;omega)):=za (zk (by have:=HLEN.out;omega));have HS0:=za (fun x hx=>ZR hw 0 x hx);rw[HL0E.out]at HS0;obtain⟨r0,hr0⟩:∃r,r=(zf u)[0]'(by have:=HLEN.out;omega):=⟨_,rfl⟩
   have HR0:=za hr0;rw[<-hr0]at HL0 HL0E HS0;clear hr0;have hr0l:r0.length<=200:=by have:=qJ hw 0;rw[HL0E.out]at this;exact this
   obtain⟨b4,off4,ai,ci,hva,_,hc4,hr4,_,_⟩:=HL0.out;subst hva;have HC4:Hid (wb.cell? ⟨b4,off4,none⟩=some (.slice ai r0.length ci)):=za (by simpa using hc4);have HR4:=za hr4;have nll:(0:Int)<((zf u).length:Int):=by have:=HLEN.out;omega
   clear hc4 hr4 HL0;obtain⟨k0,k1,k2,k3,k4,k5,k6⟩:=zr HIB.out.hu;rw[HN.out]at k2;go_upto_region 14 with fail;clear k0 k1 k2 k3 k4 k5 k6;go_loopg [37] k (fun gh s37 wr=>∃a:Nat,a<=k/\gh=k-a/\s37= .int .i64 a/\Hid (wb.grownBy wr (some bm))/\Hid (EY w w.heap.size (oU u ca cc ga gc) bx bm (qd (yT [] k) r0 a) wr));case atStart=>exact⟨0,zE _,rfl,rfl,za ⟨rfl,rfl,rfl,zI _,fun _ _ _=>rfl⟩,HIB⟩
   case round=>
    obtain⟨a,ha,rfl,rfl,HG,HQ⟩:=hrel;by_cases hak:a<k
    ·have na:(a:Int)<(k:Int):=by omega
     have c7:wr.cell? ⟨bf,7,none⟩=some (.slice (some ⟨b4,off4,none⟩) (zf u).length vc):=(zA _ _ 7 _ _ _ (Ye HG.out HFB.out HUF.out)).trans rfl;have c4:wr.cell? ⟨b4,off4,none⟩=some (.slice ai r0.length ci):=Ki HIB.out.hs.isMap HG.out HC4.out;have HRR:=za (HR4.out.but HIB.out.hs.isMap HG.out);go_upto_region 17 with fail;clear c7 c4;go_loopg [45] r0.length (fun gh s45 wy=>∃j:Nat,j<=r0.length/\gh=r0.length-j/\s45= .int .i64 j/\Hid (wr.grownBy wy (some bm))/\Hid (EY w w.heap.size (oU u ca cc ga gc) bx bm (XC a (qd (yT [] k) r0 a) (r0.take j)) wy));case atStart=>exact⟨0,zE _,rfl,rfl,za ⟨rfl,rfl,rfl,zI _,fun _ _ _=>rfl⟩,HQ⟩
     case round=>
      obtain⟨j,hj,rfl,rfl,HGJ,HJ⟩:=hrel;by_cases hjr:j<r0.length
      ·have nj:(j:Int)<(r0.length:Int):=by omega
       obtain⟨b5,o5,ha5,_,h5⟩:=(HRR.out.but HQ.out.hs.isMap HGJ.out) j hjr;subst ha5;have hrb:=HS0.out r0[j] (yy hjr);have HFR:=za (G9 (a:=a) (l:=qd (yT [] k) r0 a) hjr);have HNO:=za (GF a r0[j] bx bm _ wr HJ.out.hx HJ.out.hs (by omega) (by omega));generalize XC a (qd (yT [] k) r0 a) (r0.take j)=S0 at *;generalize r0[j]=x at *
       go_wp2_with (first
        |(go_at_call 134;(with_reducible refine HNO.out.mono ?_);rintro e w6 ⟨rfl,hg6,hs6⟩;have HS6:=za hs6;have HG6:=za hg6;clear hs6 hg6))
       go_roundg (r0.length-(j+1));case measure=>omega
       case rel=>exact⟨j+1,by omega,rfl,by go_num,za (HGJ.out.andThen HG6.out (fun j e=> .inr e)),za (by rw[HFR.out];exact HJ.out.put HG6.out HS6.out HU.out.2.2 HU.out.1 HU.out.2.1)⟩
      ·obtain rfl:j=r0.length:=by omega
       have nj:¬(r0.length:Int)<(r0.length:Int):=by omega
       have HE:Hid (XC a (qd (yT [] k) r0 a) (r0.take r0.length)=qd (yT [] k) r0 (a+1)):=za (by rw[xL];rfl);go_wp2;go_roundg (k-(a+1));case measure=>omega
       case rel=>exact⟨a+1,by omega,rfl,by go_num,za (HG.out.andThen HGJ.out (fun j e=> .inr e)),za (by rw[<-HE.out];exact HJ.out)⟩
    ·obtain rfl:a=k:=by omega
     have na:¬(a:Int)<(a:Int):=by omega
     obtain⟨k0,k1,k2,k3,k4,k5,k6⟩:=zr HQ.out.hu;go_upto_region 23 with fail;clear k0 k1 k2 k3 k4 k5 k6;go_loopg [58] u.code.length (fun gh s58 wr=>∃t:Nat,t<=u.code.length/\gh=u.code.length-t/\s58= .int .i64 t/\Hid (wb.grownBy wr (some bm))/\Hid (EY w w.heap.size (oU u ca cc ga gc) bx bm ((List.range t).foldl (ZM u (zf u)) (qd (yT [] a) r0 a)) wr));case atStart=>exact⟨0,zE _,rfl,rfl,HG,HQ⟩
     case round=>
      obtain⟨t,ht,rfl,rfl,HGT,HT⟩:=hrel;by_cases htn:t<u.code.length
      ·have nt:(t:Int)<(u.code.length:Int):=by omega
       obtain⟨bc,oc,hca,_,c0,c1,c2,c3⟩:=(HM.out.rc.below HT.out.hb) t htn;subst hca;have HWI:=za (xA hw htn);have HCI:Hid (∀l,ZM u (zf u) l t=if 0<=zc u.code[t]then XC (zc u.code[t]) l (qV (zf u) (yU u t))else l):=za (fun l=>by unfold ZM XC;rw[zk htn]);have HFR:Hid ((List.range (t+1)).foldl (ZM u (zf u)) (qd (yT [] a) r0 a)=ZM u (zf u) ((List.range t).foldl (ZM u (zf u)) (qd (yT [] a) r0 a)) t):=za (by rw[Ze,jc];rfl);have HWR:=za (fun wz=>qz u.code[t] wz);go_upto_region 25 with fail;obtain⟨wx,hwx⟩:∃wx,wx=wr.alloc (.cells #[.int .i64 u.code[t].op,.int .i64 u.code[t].a,.int .i64 u.code[t].b,.int .i64 u.code[t].c] 85):=⟨_,rfl⟩
       obtain⟨bi,hbi⟩:∃b,b=wr.heap.size:=⟨_,rfl⟩
       have HXX:Hid (wx.heap[bi]?=some (.cells #[.int .i64 u.code[t].op,.int .i64 u.code[t].a,.int .i64 u.code[t].b,.int .i64 u.code[t].c] 85)):=za (by rw[hwx];exact zo _ _ _ hbi);have HTX:=za (show EY w w.heap.size (oU u (some ⟨bc,oc,none⟩) cc ga gc) bx bm ((List.range t).foldl (ZM u (zf u)) (qd (yT [] a) r0 a)) wx from by rw[hwx];exact HT.out.below (zd _ _));have HGX:Hid (wb.grownBy wx (some bm)):=za (by rw[hwx];exact HGT.out.andThen (World.grownBy_alloc _ _ none) (fun j e=>by cases e));rw[<-hwx,<-hbi];clear hwx hbi c0 c1 c2 c3;obtain⟨q0,q1,q2,q3⟩:=zX HXX.out;generalize (List.range t).foldl (ZM u (zf u)) (qd (yT [] a) r0 a)=S0 at *;replace HCI:=za (HCI.out S0);generalize u.code[t]=y at *;obtain⟨wi,hwi⟩:∃wi,wi=zc y:=⟨_,rfl⟩
       rw[<-hwi]at HWI HCI HWR;clear hwi;by_cases hw0:(0:Int)<=wi
       ·rw[zj hw0]at HCI
        go_upto_region 27 with (first
         |(go_at_call 71;(with_reducible refine(HWR.out _).mono ?_);rintro e w7 ⟨rfl,hb⟩;have HT7:=za (HTX.out.below hb);have HG7:=za (HGX.out.andThen (row':=none) ⟨hb.os,hb.tape,hb.output,hb.size,fun k hk _=>hb.block k hk⟩ (fun j e=>by cases e));clear hb))
        clear q0 q1 q2 q3;have HF7:=za (Ye HG7.out HFB.out HUF.out);have HL7:=za (HLB.out.but HIB.out.hs.isMap HG7.out);have HNL:=za (YV (zf u) 200 (qJ hw) (yU u t));have HNB:=za (Zl u t);have HNI:=za (Jn hw (yU u t));have HBY:=za (fun(w':World) (hb:Below w.heap.size w w')=>Xr u t htn hn6 (some ⟨bc,oc,none⟩) cc ga gc (some ⟨b4,off4,none⟩) (zf u).length vc w' (HM.out.below hb).rc);have HND:=za (fun(pa:Option Addr) (pc:Nat) (w':World) (hb:Below w7.heap.size w7 w') (hr:yC w' pa (yU u t))=>YC u (some ⟨bc,oc,none⟩) cc ga gc (zf u) (some ⟨b4,off4,none⟩) vc (yU u t) pa pc w' (HL7.out.below hb) hr (by rw[HLEN.out];exact Zm (zH hw) htn) (by have:=HNB.out;omega) (qJ hw));obtain⟨N,hNN⟩:∃N,N=qV (zf u) (yU u t):=⟨_,rfl⟩
        rw[<-hNN]at HCI HNL HNI HND;clear hNN;go_cut [71,72,73]from 67 to 73 (fun s71 s72 s73 wy=>s72= .int .i64 N.length/\s73= .int .i64 0/\Hid (zu wy w7.heap.size s71 N)/\Hid (Below w7.heap.size w7 wy))
        case first=>
         have HF7d:Hid (w7.drew.heap[bf]?=some (Dg u (some ⟨bc,oc,none⟩) cc ga gc (.slice (some ⟨b4,off4,none⟩) (zf u).length vc))):=HF7;obtain⟨k0,k1,k2,k3,k4,k5,k6,k7⟩:=VX HF7.out;have HBXd:Hid (Below w.heap.size w w7.drew):=za (HT7.out.hb.step (zt _))
         go_region_with (first
          |(go_at_call 73;(with_reducible refine(HBY.out _ HBXd.out).mono ?_);rintro e w8 ⟨hb,v7,rfl,ho⟩;obtain⟨pa,pc,rfl,hrp⟩:=ho.rd;obtain⟨j0,j1,j2,j3,j4,j5,j6,j7⟩:=VX (zb hb HF7d.out);have HB7:=za hb;have HR7:=za hrp;clear hb ho hrp)
          |(go_at_call 72;(with_reducible refine(HND.out pa pc _ ((zt w7).step HB7.out) HR7.out).mono ?_);rintro e w9 ⟨hb,v8,rfl,ho8⟩;obtain⟨sa,sc,rfl,hrs⟩:=ho8.rd;have HB8:=za hb;have HO8:=za (zu.mono ho8 HB7.out.size);clear hb ho8 hrs))
         all_goals (go_wp2_with fail;go_meet;exact⟨rfl,rfl,HO8,za (((zt w7).step HB7.out).step HB8.out)⟩)
        case rest=>
         obtain⟨rfl,rfl,HO,HY⟩:=hcut;obtain⟨sa,sc,rfl,hrs⟩:=HO.out.rd;have HRS:=za hrs;clear hrs;have HTY:=za (HT7.out.below HY.out);have HGY:=za (HG7.out.andThen (row':=none) ⟨HY.out.os,HY.out.tape,HY.out.output,HY.out.size,fun k hk _=>HY.out.block k hk⟩ (fun j e=>by cases e));clear HO HY HT7 HG7 HF7 HL7 HBY HND;go_upto_region 28 with fail;go_loopg [73] N.length (fun gh s73 wz=>∃j:Nat,j<=N.length/\gh=N.length-j/\s73= .int .i64 j/\Hid (wc.grownBy wz (some bm))/\Hid (EY w w.heap.size (oU u (some ⟨bc,oc,none⟩) cc ga gc) bx bm (XC wi S0 (N.take j)) wz));case atStart=>exact⟨0,zE _,rfl,rfl,za ⟨rfl,rfl,rfl,zI _,fun _ _ _=>rfl⟩,HTY⟩
         case round=>
          obtain⟨j,hj,rfl,rfl,HGJ,HJ⟩:=hrel;by_cases hjr:j<N.length
          ·have nj:(j:Int)<(N.length:Int):=by omega
           obtain⟨b5,o5,ha5,_,h5⟩:=(HRS.out.but HTY.out.hs.isMap HGJ.out) j hjr;subst ha5;have hrb:=HNI.out N[j] (yy hjr);have HFJ:=za (G9 (a:=wi) (l:=S0) hjr);have hwib:=HWI.out;have hnlb:N.length<=400:=by have h1:=HNL.out;have h2:=HNB.out;omega
           have HNO:=za (GF wi N[j] bx bm _ wr HJ.out.hx HJ.out.hs (by omega) (by omega));generalize XC wi S0 (N.take j)=S1 at *;generalize N[j]=x at *
           go_wp2_with (first
            |(go_at_call 134;(with_reducible refine HNO.out.mono ?_);rintro e w6 ⟨rfl,hg6,hs6⟩;have HS6:=za hs6;have HG6:=za hg6;clear hs6 hg6))
           go_roundg (N.length-(j+1));case measure=>omega
           case rel=>exact⟨j+1,by omega,rfl,by go_num,za (HGJ.out.andThen HG6.out (fun j e=> .inr e)),za (by rw[HFJ.out];exact HJ.out.put HG6.out HS6.out HU.out.2.2 HU.out.1 HU.out.2.1)⟩
          ·obtain rfl:j=N.length:=by omega
           have nj:¬(N.length:Int)<(N.length:Int):=by omega
           have HE:Hid (XC wi S0 (N.take N.length)=XC wi S0 N):=za (by rw[xL]);go_wp2;go_roundg (u.code.length-(t+1));case measure=>omega
           case rel=>exact⟨t+1,by omega,rfl,by go_num,za (HGY.out.andThen HGJ.out (fun j e=> .inr e)),za (by rw[HFR.out,HCI.out,<-HE.out];exact HJ.out)⟩
       ·rw[zi hw0]at HCI
        go_wp2_with (first
         |(go_at_call 71;(with_reducible refine(HWR.out _).mono ?_);rintro e w7 ⟨rfl,hb⟩;have HT7:=za (HTX.out.below hb);have HG7:=za (HGX.out.andThen (row':=none) ⟨hb.os,hb.tape,hb.output,hb.size,fun k hk _=>hb.block k hk⟩ (fun j e=>by cases e));clear hb))
        go_roundg (u.code.length-(t+1));case measure=>omega
        case rel=>exact⟨t+1,by omega,rfl,by go_num,HG7,za (by rw[HFR.out,HCI.out];exact HT7.out)⟩
      ·obtain rfl:t=u.code.length:=by omega
       have nt:¬(u.code.length:Int)<(u.code.length:Int):=by omega
       have HE:Hid (zZ u=(List.range u.code.length).foldl (ZM u (zf u)) (qd (yT [] a) r0 a)):=za (by unfold zZ;rw[HN.out,HL0E.out];rfl);have c0:wr.cell? ⟨bx,0,none⟩=some (.map (some bm)):=(zA _ _ 0 _ _ _ HT.out.hx).trans rfl;go_wp2;go_ret;exact⟨HT.out.hb,bm,rfl,by rw[HE.out];exact HT.out.hs,HU.out.2.2⟩
end Go.Proofs.YtgalekifgnecjaaGreat
