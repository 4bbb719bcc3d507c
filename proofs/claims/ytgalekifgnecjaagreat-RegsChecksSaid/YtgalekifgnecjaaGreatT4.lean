/- colour of package regs -/
import Derived.Test.YtgalekifgnecjaaGreatS3
import Derived.Test.YtgalekifgnecjaaGreatS6
namespace Go.Proofs.YtgalekifgnecjaaGreat
open Tryz Go.RowKit
set_option maxHeartbeats 8000000
set_option maxRecDepth 100000
attribute [local go_sem] Oper.semAt_some
theorem Ke(cl L:List (Int×Int))(s:Int)(bc bh:Nat)(w:World)(hc:y8 w bc cl)(hh:xe xU w bh L)(hs:0<=s/\s<=1000000)(hL:∀x∈L,0<=x.1/\x.1<=1000000)(hl:L.length<=1000000):
  Calls prog 66 #[.map (some bc),.map (some bh),.int .i64 s] w (zV (.int .i64 (Zj cl L s)) w):=by
 have HC:=za hc;have HH:=za hh;have HL:=za hL;have hbc:=hc.lt;clear hc hh hL;go_enter func66,ntmps66;go_wp2
 go_step3
 go_wp2
 go_step3
 go_wp2;go_loopg [7] (L.length+1) (fun gh s7 wr=>∃n:Nat,gh=L.length+1-n/\s7= .int .i64 n/\Hid (∀m,m<n->vw cl L s m=true)/\Hid (Below w.heap.size w wr));case atStart=>exact⟨0,rfl,rfl,za (fun m h=>absurd h (y_ _)),za (zG _ _)⟩
 case round=>
  obtain⟨n,rfl,rfl,HN,HB⟩:=hrel;have hnl:=Gd HN.out;have HH1:=za (HH.out.below HB.out)
  go_upto_region 3 with (first
   |(at_range;refine YR xU _ Tryz.underlying120 rfl _ rfl bh L rfl HH1.out ?_;intro w1 hr1 hg1 hsz1;have HR1:=za hr1;have HG1:=za hg1;clear hr1 hg1))
  have HB1:Hid (Below w.heap.size w w1):=za (HB.out.grown HG1.out HB.out.size (fun r e=>by cases e));obtain⟨br,hbr⟩:∃b,b=wr.heap.size:=⟨_,rfl⟩
  rw[<-hbr]at HR1;rw[<-hbr];have HBR:Hid (w.heap.size<=br):=za (by rw[hbr];exact HB.out.size);clear hbr hsz1 HG1;go_frame;go_loopg [7] L.length (fun gh s7 wr=>∃R:List (Int×Int),R.length<=gh/\s7= .int .i64 n/\Hid (j_ xU wr br bh L R)/\Hid (∀x∈L,x∉R->¬(x.2=(n:Int)/\ZT cl s x.1=true))/\Hid (Below w.heap.size w wr));case atStart=>exact⟨L,zI _,rfl,HR1,za (fun x h1 h2=>absurd h1 h2),HB1⟩
  case round=>
   obtain⟨R,hR,rfl,HRG,HQ,HB2⟩:=hrel
   go_upto_region 4 with (first
    |(at_next;refine Xv xU _ rfl _ rfl br bh L R rfl HRG.out ?_ ?_))
   ·intro hR0
    have HE:Hid ((n:Nat)=Zj cl L s):=za (Nm HN.out (by
     cases hcb:vw cl L s n with
     |false=>rfl
     |true=>
      obtain⟨x,hx,h1,h2⟩:=Q2.1 hcb
      exact absurd ⟨h1,h2⟩ (HQ.out x hx (by rw[hR0];simp))))
    clear hR0;go_wp2
    try rw[Exit.noGoto_ret]
    go_ret;exact⟨by rw[<-HE.out];rfl,HB2.out⟩
   ·intro x v w2 hxR hrg2 hg2 hsz2 hen
    have hxL:=HRG.out.sub _ hxR;have hx0:=HL.out _ hxL;have HXR:=za hxR;have hrb:br≠bh:=fun e=>by obtain⟨_,_,_,hr,_⟩:=HRG.out;exact hr.ne e
    have HB3:Hid (Below w.heap.size w w2):=za (HB2.out.grown hg2 HB2.out.size (fun r e=>by cases e;exact HBR.out));have HC3:Hid (y8 w2 bc cl):=za (HC.out.below HB3.out);have HR3:=za hrg2
    have hflt:(R.filter fun p=> !decide (p.1=x)).length<R.length:=by
     have h1:=List.length_filter_lt_length_iff_exists (p:=fun p:Int×Int=> !decide (p.1=x)) (l:=R);exact h1.2 ⟨(x,v),hxR,by simp⟩
    have HAP:=za (HRG.out.apart);have hen2:(Instr.entry (.pointer (some ⟨br,0,none⟩))).run prog w2= .ok (.tuple #[.int .i64 x,.int .i64 v]) w2:=hen;clear hen hg2 hsz2 hrg2 hxR hxL;have HCL:=za (Ux s x bc cl w2 HC3.out hs (by exact hx0))
    have HST:Hid (¬(v=(n:Int)/\ZT cl s x=true)->∀y∈L,y∉(R.filter fun p=> !decide (p.1=x))->¬(y.2=(n:Int)/\ZT cl s y.1=true)):=za (fun hno y hy hyn=>by
     by_cases hyR:y∈R
     ·by_cases e:y.1=x
      ·have:y=(x,v):=by
        have h1:=vE HAP.out (show(y.1,y.2)∈R from hyR);have h2:=vE HAP.out HXR.out;rw[e]at h1;rw[h1]at h2;injection h2 with h2;exact Prod.ext e h2
       rw[this];exact hno
      ·exact absurd (jn.2 ⟨hyR,by simp[e]⟩) hyn
     ·exact HQ.out y hy hyR)
    clear HAP;by_cases hv:v=(n:Int)
    ·have d:(v==(n:Int))=true:=by simpa using hv
     cases hcb:ZT cl s x with
     |true=>
      have HBD:Hid (vw cl L s n=true):=za (Q2.2 ⟨(x,v),HRG.out.sub _ HXR.out,hv,hcb⟩);rw[hcb]at HCL;clear hcb hv HST
      have hnl2:=Gd (cl:=cl) (had:=L) (s:=s) (n:=n+1) (fun m hm=>by
       by_cases e:m=n
       ·rw[e];exact HBD.out
       ·exact HN.out m (by omega))
      have hnw:(n:Int)+1<=1000001:=by omega
      go_wp2_with (first
       |(go_at_call 137;(with_reducible refine HCL.out.mono ?_);rintro e w4 ⟨rfl,rfl⟩))
      go_roundg (L.length+1-(n+1));case measure=>omega
      case rel=>exact⟨n+1,rfl,by go_num,za (fun m hm=>by
       by_cases e:m=n
       ·rw[e];exact HBD.out
       ·exact HN.out m (by omega)),HB3⟩
     |false=>
      rw[hcb]at HCL;have HS2:=za (HST.out (fun h=>by rw[hcb]at h;cases h.2));clear hcb hv HST
      go_wp2_with (first
       |(go_at_call 137;(with_reducible refine HCL.out.mono ?_);rintro e w4 ⟨rfl,rfl⟩))
      go_roundg ((R.filter fun p=> !decide (p.1=x)).length);case measure=>omega
      case rel=>exact⟨_,zI _,rfl,HR3,HS2,HB3⟩
    ·have d:(v==(n:Int))=false:=by simpa using hv
     have HS2:=za (HST.out (fun h=>hv h.1));clear hv HST
     go_wp2_with (first
      |(go_at_call 137;(with_reducible refine HCL.out.mono ?_);rintro e w4 ⟨rfl,rfl⟩))
     go_roundg ((R.filter fun p=> !decide (p.1=x)).length);case measure=>omega
     case rel=>exact⟨_,zI _,rfl,HR3,HS2,HB3⟩
open Go.RowKit Go.Shelf
def JG(cl:List (Int×Int))(n:Nat):List Int:=(yl cl n).map (·.2)
theorem EJ(cl:List (Int×Int))(n:Nat):JG cl (n+1)=JG cl n++ [(Zj cl (yl cl n) n:Int)]:=by
 unfold JG;rw[show yl cl (n+1)=yl cl n++ [((n:Int),(Zj cl (yl cl n) n:Int))]from rfl,q8];rfl
theorem U5(cl:List (Int×Int))(n:Nat):(JG cl n).length=n:=by unfold JG;rw[ym,xO]
theorem Fc(cl:List (Int×Int))(n:Nat):(putM (n:Int) (Zj cl (yl cl n) n:Int) (yl cl n)).Perm (yl cl (n+1)):=by
 unfold putM
 have e:((yl cl n).filter fun p=> !decide (p.1=(n:Int)))=yl cl n:=List.filter_eq_self.2 fun x hx=>by
  obtain⟨i,hi,rfl⟩:=Kd.1 hx;simp only[jb,ZQ];omega
 rw[e,show yl cl (n+1)=yl cl n++ [((n:Int),(Zj cl (yl cl n) n:Int))]from rfl];exact(List.perm_append_comm (l₁:=[((n:Int),(Zj cl (yl cl n) n:Int))]) (l₂:=yl cl n))
theorem YS{x:Int}(h:0<=x/\x<=1000000):xU.ok x/\xU.okE x:=⟨Gk h,Gk h⟩
theorem Lj(l:List (Int×Int)):0<=YW l:=(Lk (l:=l) (m:=0)).1
theorem GN(cl:List (Int×Int)):∀n:Nat,YW (yl cl n)<=n
 |0=>by simp[YW,yl]
 |n+1=>by
  rw[show yl cl (n+1)=yl cl n++ [((n:Int),(Zj cl (yl cl n) n:Int))]from rfl,GM];have h1:=GN cl n;have h2:=Iv cl n;unfold LY at h2;simp only;omega
theorem It(u:zg)(ca cc ga gc)(w:World)(hm:jo w u ca cc ga gc)(hlc:u.code.length<=1000000)(hlg:u.guards.length<=1000000)(hw:zC u=true):
  Calls prog 20 #[vU u ca cc ga gc] w fun e w'=>Below w.heap.size w w'/\∃v,e= .returned (.tuple #[v,.int .i64 (YW (yl (zZ u) u.slots.toNat)),.int .i64 0])/\zu w' w.heap.size v (JG (zZ u) u.slots.toNat):=by
 have hargs:=zL hw;have HM:=za hm;clear hm;have HW:=za (fun w' (hb:Below w.heap.size w w')=>qv u ca cc ga gc w' (HM.out.below hb) hlc hlg);rw[hw]at HW;have HCL:=za (fun w' (hb:Below w.heap.size w w')=>YG u ca cc ga gc w' (HM.out.below hb) hw);obtain⟨cl,hcl⟩:∃cl,cl=zZ u:=⟨_,rfl⟩
 rw[<-hcl]at HCL;rw[<-hcl];clear hcl;obtain⟨n,hn⟩:∃n:Nat,u.slots=(n:Int):=⟨u.slots.toNat,by omega⟩
 have HN:=za hn;have hn2:n<=200:=by omega
 rw[show u.slots.toNat=n by omega];clear hn;have hmm:=@run_makeMap prog;have HX1:=za (zo w (oU u ca cc ga gc) _ rfl);have HB:=za (zd w (oU u ca cc ga gc));obtain⟨w1,hw1⟩:∃w1,w1=w.alloc (oU u ca cc ga gc):=⟨_,rfl⟩
 rw[<-hw1]at HX1 HB;obtain⟨k0,k1,k2,k3,k4,k5,k6⟩:=zr HX1.out;go_enter func20,ntmps20;go_upto_region 1 with fail;rw[<-hw1];clear hw1
 go_upto_region 4 with (first
  |(go_at_call 42;(with_reducible refine(HW.out _ HB.out).mono ?_);rintro e w2 ⟨rfl,hb⟩;obtain⟨j0,j1,j2,j3,j4,j5,j6⟩:=zr (zb hb HX1.out);have HX2:=za (zb hb HX1.out);have HB2:=za (HB.out.step hb);clear hb)
  |(go_at_call 63;(with_reducible refine(HCL.out _ HB2.out).mono ?_);rintro e w3 ⟨hb,bc,rfl,hpa,hbc⟩;have HX3:=za (zb hb HX2.out);have HB3:=za (HB2.out.step hb);have HC3:=za hpa;clear hb hpa hbc))
 clear k0 k1 k2 k3 k4 k5 k6 j0 j1 j2 j3 j4 j5 j6;obtain⟨bh,hbh⟩:∃b,b=w3.heap.size:=⟨_,rfl⟩
 obtain⟨wa,hwa⟩:∃wa,wa=w3.alloc (.map #[] 0):=⟨_,rfl⟩
 have HXA:Hid (wa.heap[w.heap.size]?=some (oU u ca cc ga gc)):=za (by rw[hwa];exact zb (zd _ _) HX3.out);have HBA:Hid (Below w.heap.size w wa):=za (by rw[hwa];exact HB3.out.step (zd _ _));have HCA:Hid (y8 wa bc cl):=za (by rw[hwa];exact HC3.out.below (zd _ _));have HHA:Hid (xe xU wa bh []):=za (by rw[hwa,hbh];exact Z9 xU w3);have HSA:Hid (wa.heap.size=bh+1/\bc<bh/\w.heap.size<=bh):=za (by rw[hwa,hbh];exact⟨by simp,HC3.out.lt,HB3.out.size⟩);go_upto_region 5 with fail;rw[<-hbh,<-hwa];clear hwa hbh HX3 HB3 HC3 HX2 HB2 HX1 HB HW HCL hmm;obtain⟨k0,k1,k2,k3,k4,k5,k6⟩:=zr HXA.out;rw[HN.out]at k3;go_upto_region 8 with fail;clear k0 k1 k2 k3 k4 k5 k6;go_loopg [7,8,19] n (fun gh s7 s8 s19 wr=>∃k:Nat,k<=n/\gh=n-k/\s19= .int .i64 k/\s8= .int .i64 (YW (yl cl k))/\Hid (zu wr wa.heap.size s7 (JG cl k))/\Hid (Below w.heap.size w wr/\wa.heap.size<=wr.heap.size)/\Hid (y8 wr bc cl)/\Hid (xe xU wr bh (yl cl k)));case atStart=>exact⟨0,zE _,rfl,rfl,rfl,za (jd _ _ _ _),za ⟨HBA.out,zI _⟩,HCA,HHA⟩
 case round=>
  obtain⟨k,hk,rfl,rfl,rfl,HO,HB,HC,HH⟩:=hrel;by_cases hkn:k<n
  ·have nk:(k:Int)<(n:Int):=by omega
   have HCO:=za (Ke cl (yl cl k) k bc bh wr HC.out HH.out (by omega) (fun x hx=>by obtain⟨i,hi,rfl⟩:=Kd.1 hx;simp only;omega) (by rw[xO];omega));have HPE:=za (Fc cl k);have HMS:=za (GM (yl cl k) ((k:Int),(Zj cl (yl cl k) k:Int)));have HCS:=za (EJ cl k);have hck:=Iv cl k;unfold LY at hck;have HML:Hid (yl cl (k+1)=yl cl k++ [((k:Int),(Zj cl (yl cl k) k:Int))]):=za rfl;rw[<-HML.out]at HMS;have HCLn:=za (U5 cl k);have hmn:=GN cl k;have hmn0:=Lj (yl cl k);generalize Zj cl (yl cl k) k=c at *;generalize hmm:YW (yl cl k)=m at *;clear hmm;have hlk:(yl cl k).length<=1000000000:=by rw[xO];omega
   have hok:=YS (x:=(k:Int)) (by omega);have hoc:=YS (x:=(c:Int)) (by omega)
   go_upto_region 12 with (first
    |(go_at_call 66;(with_reducible refine HCO.out.mono ?_);rintro e w4 ⟨rfl,hb⟩;have HB4:=za hb;have HH4:=za (HH.out.below hb);clear hb)
    |(at_mapUpdate;refine vM xU _ Tryz.underlying120 rfl _ _ _ rfl bh _ (k:Int) (c:Int) rfl HH4.out hlk rfl rfl hok.1 hoc.2 ?_;intro w5 hm5 hg5;have HM5:=za hm5;have HG5:=za hg5;clear hm5 hg5))
   have HO5:Hid (zu w5 wa.heap.size u7 (JG cl k)):=za ((zu.later HO.out HB4.out).kept HG5.out (fun b hb e=>by cases e;have h1:=zy HO.out _ hb;have h2:=HSA.out.1;omega));have HB5:Hid (Below w.heap.size w w5/\wa.heap.size<=w5.heap.size):=za ⟨(HB.out.1.step HB4.out).grown HG5.out (HB.out.1.step HB4.out).size (fun r e=>by cases e;have:=HSA.out;omega),yP HB.out.2 (yP HB4.out.size HG5.out.size)⟩;have HC5:Hid (y8 w5 bc cl):=za ((HC.out.below HB4.out).kept HG5.out (fun e=>by cases e;have:=HSA.out;omega));have HM6:Hid (xe xU w5 bh (yl cl (k+1))):=za (HM5.out.perm HPE.out);clear HM5 HG5 HH4 HB4 HCO HO HB HC HH;have HOB:=za (zy HO5.out);by_cases hlt:m<(c:Int)+1
   ·have HMS2:Hid (YW (yl cl (k+1))=(c:Int)+1):=za (by rw[HMS.out];first|omega|(simp only;omega))
    have n5:(c:Int)+1<=1000000:=by omega
    clear HMS
    go_wp2_with (first
     |(at_builtin;refine zv _ rfl _ _ rfl wa.heap.size _ _ [(c:Int)] rfl (zu.later HO5.out (zd _ _)) (some ⟨_,0,none⟩) 1 rfl (yJ _ _ _) (by have:=HCLn.out;simp;omega) (by have:=HB5.out.2;simp;omega) ?_;intro v' w6 hown' hgrow hnil;have HOW:=za hown';have HGR:=za hgrow;clear hown' hgrow hnil))
    go_roundg (n-(k+1));case measure=>omega
    case rel=>
     refine⟨k+1,by omega,rfl,by go_num,by rw[HMS2.out];go_num,za (by rw[HCS.out];exact HOW.out),za ⟨(HB5.out.1.step (zd _ _)).grown HGR.out (by have:=HB5.out.1.size;simp;omega) (fun r e=>by have:=HOB.out r e;have:=HSA.out;omega),yP HB5.out.2 (yP (by simp) HGR.out.size)⟩,za ((HC5.out.below (zd _ _)).kept HGR.out (fun e=>by have:=HOB.out _ e.symm;have:=HSA.out;omega)),za ((HM6.out.below (zd _ _)).kept HGR.out (fun e=>by have:=HOB.out _ e.symm;have:=HSA.out;omega))⟩
   ·have HMS2:Hid (YW (yl cl (k+1))=m):=za (by rw[HMS.out];first|omega|(simp only;omega))
    have n5:(c:Int)+1<=1000000:=by omega
    clear HMS
    go_wp2_with (first
     |(at_builtin;refine zv _ rfl _ _ rfl wa.heap.size _ _ [(c:Int)] rfl (zu.later HO5.out (zd _ _)) (some ⟨_,0,none⟩) 1 rfl (yJ _ _ _) (by have:=HCLn.out;simp;omega) (by have:=HB5.out.2;simp;omega) ?_;intro v' w6 hown' hgrow hnil;have HOW:=za hown';have HGR:=za hgrow;clear hown' hgrow hnil))
    go_roundg (n-(k+1));case measure=>omega
    case rel=>
     refine⟨k+1,by omega,rfl,by go_num,by rw[HMS2.out,show max m ((c:Int)+1)=m by omega],za (by rw[HCS.out];exact HOW.out),za ⟨(HB5.out.1.step (zd _ _)).grown HGR.out (by have:=HB5.out.1.size;simp;omega) (fun r e=>by have:=HOB.out r e;have:=HSA.out;omega),yP HB5.out.2 (yP (by simp) HGR.out.size)⟩,za ((HC5.out.below (zd _ _)).kept HGR.out (fun e=>by have:=HOB.out _ e.symm;have:=HSA.out;omega)),za ((HM6.out.below (zd _ _)).kept HGR.out (fun e=>by have:=HOB.out _ e.symm;have:=HSA.out;omega))⟩
  ·obtain rfl:k=n:=by omega
   have nk:¬(k:Int)<(k:Int):=by omega
   go_wp2
   all_goals exact xJ (v:=.tuple #[u7,.int .i64 (YW (yl cl k)),.int .i64 0]) (by simp[results,Tryz.results20,go_sem]) rfl ⟨HB.out.1,u7,rfl,zu.mono HO.out (show w.heap.size<=wa.heap.size by have:=HSA.out;omega)⟩
end Go.Proofs.YtgalekifgnecjaaGreat
