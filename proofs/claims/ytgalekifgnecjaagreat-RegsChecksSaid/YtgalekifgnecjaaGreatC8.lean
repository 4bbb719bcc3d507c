/- firsts of package regs -/
import Derived.Test.YtgalekifgnecjaaGreatC7
namespace Go.Proofs.YtgalekifgnecjaaGreat
open Tryz Go.RowKit Go.Shelf
set_option maxHeartbeats 8000000
set_option maxRecDepth 100000
theorem JV{α: Type}{p:α-> Bool}:∀(l:List α) (r:Nat) (_:r<=(l.takeWhile p).length) (h:r<l.length),(p l[r]=true↔r<(l.takeWhile p).length)
 | [],_,_,h=>absurd h (y_ _)
 |x::l,0,_,_=>by
  cases hx:p x<;>simp[hx]
 |x::l,r+1,h1,h=>by
  cases hx:p x with
  |false=>simp[hx]at h1
  |true=>
   simp only[List.takeWhile_cons,hx,if_true,xv]at h1 ⊢;have:=JV (p:=p) l r (by omega) (by simpa using h);simp only[List.getElem_cons_succ];rw[this];omega
theorem Gm{α: Type}(p:α-> Bool):∀(l:List α),(l.takeWhile p).length<=l.length
 | []=>zI _
 |x::l=>by
  rw[List.takeWhile_cons];split
  ·simp only[xv]
   have:=Gm p l;omega
  ·simp
theorem Ql{code:List zm}{i:Nat}(hi:i<=code.length):QA code i<=i:=by
 unfold QA;refine yP (Gm _ _) ?_;rw[List.length_reverse,xm];omega
theorem Gr{code:List zm}{i r:Nat}(hi:i<=code.length)(h:r<=QA code i)(hr:r<i):(jQ (code[i-r-1]'(by omega))=true↔r<QA code i):=by
 have:=JV (p:=jQ) (code.take i).reverse r h (by rw[List.length_reverse,xm];omega);unfold QA;rw[<-this];rw[List.getElem_reverse,List.getElem_take];have e:(code.take i).length-1-r=i-r-1:=by rw[xm];omega
 simp only[e]
theorem Yl(code:List zm)(i:Nat):∀n,Zy code i n<=n
 |0=>zI _
 |n+1=>by
  unfold Zy;split
  ·exact zI _
  ·exact Nat.le_succ_of_le (Yl code i n)
theorem xZ(l:List Int)(a:Nat)(v:Int):∀n,(xQ l a v n).length=l.length
 |0=>rfl
 |n+1=>by unfold xQ;rw[List.length_set];exact xZ l a v n
theorem qL(code:List zm)(l:List Int)(i:Nat):(qi code l i).length=l.length:=by unfold qi;rw[List.length_set]
theorem KL(code:List zm)(l:List Int)(i:Nat):(vX code l i).length=l.length:=by
 unfold vX;split
 ·rw[xZ,qL]
 ·exact qL _ _ _
theorem z_(code:List zm):∀k,(qh code k).length=code.length
 |0=>List.length_replicate
 |k+1=>by unfold qh;rw[KL];exact z_ code k
def Mo(l:List Int)(w:World)(e:Ending)(w':World):Prop:=Below w.heap.size w w'/\∃g,e= .returned (.slice (some ⟨g,0,none⟩) l.length l.length)/\BI w' g l/\w.heap.size<=g
theorem Gc(w:World)(n:Nat):BI (w.alloc (.cells (madeCells #[.int .i64 0] n) 3)) w.heap.size (List.replicate n 0):=by
 refine⟨_,zo _ _ _ rfl,fun i hi=> ?_⟩;have hi':i<n:=by simpa using hi
 simp[madeCells,hi',Nat.mod_one]
theorem Qz.sub{w:World}{b off:Nat}{l:List zm}(h:Qz w (some ⟨b,off,none⟩) l)(lo n:Nat):Qz w (some ⟨b,off+lo*4,none⟩) ((l.drop lo).take n):=by
 intro i hi;have hi2:lo+i<l.length:=by rw[xm,jH]at hi;omega
 obtain⟨b',off',e,hlt,h0,h1,h2,h3⟩:=h (lo+i) hi2;cases e;have e1:off+lo*4+i*4=off+(lo+i)*4:=by omega
 refine⟨b,off+lo*4,rfl,hlt,?_⟩;rw[e1];simp only[List.getElem_take,List.getElem_drop];exact⟨h0,h1,h2,h3⟩
theorem G_(u:zg)(ca cc ga gc)(w:World)(hm:jo w u ca cc ga gc)(hlen:u.code.length<=1000000):
  Calls prog 80 #[vU u ca cc ga gc] w (Mo (zl u.code) w):=by
 have HM:=za hm;clear hm;have hlc:=HM.out.lc;have hmk:=fun w=>run_make_row' (P:=prog) 28 3 (.int .i64 0) 8 Tryz.underlying28 GV rfl .i64 .i64 u.code.length (by omega) (by omega) w
 have HMD:=za (fun w=>Gc w u.code.length);obtain⟨M,hM⟩:∃M,M=madeCells #[.int .i64 0] u.code.length:=⟨_,rfl⟩
 rw[<-hM]at hmk HMD;clear hM;have HX1:=za (zb (zd _ (.cells M 3)) (zo w (oU u ca cc ga gc) _ rfl));have HB:=za ((zd w (oU u ca cc ga gc)).step (zd _ (.cells M 3)));have HG:=za (HMD.out (w.alloc (oU u ca cc ga gc)));rw[vJ]at HG;clear HMD;go_enter func80,ntmps80;go_upto_region 2 with fail;obtain⟨w2,hw2⟩:∃w2,w2=(w.alloc (oU u ca cc ga gc)).alloc (.cells M 3):=⟨_,rfl⟩
 rw[<-hw2]at HX1 HB HG;rw[<-hw2];clear hw2 hmk;have lg2:=HG.out.lt;obtain⟨k0,k1,k2,k3,k4,k5,k6⟩:=zr HX1.out;go_wp2;clear k0 k1 k2 k3 k4 k5 k6;go_loopg [16] u.code.length (fun gh s16 wr=>∃k:Nat,k<=u.code.length/\gh=u.code.length-k/\s16= .int .i64 k/\Hid (BI wr (w.heap.size+1) (qh u.code k))/\Hid (Below w.heap.size w wr/\wr.heap[w.heap.size]?=some (oU u ca cc ga gc)));case atStart=>exact⟨0,zE _,rfl,rfl,HG,za ⟨HB.out,HX1.out⟩⟩
 case round=>
  obtain⟨k,hk,rfl,rfl,HBI,HK⟩:=hrel;by_cases hlk:k<u.code.length
  ·obtain⟨b2,off,ha,hlt2,c0,c1,c2,c3⟩:=(HM.out.rc.below HK.out.1) k hlk
   subst ha;have nk:(k:Int)<(u.code.length:Int):=by omega
   have lfs:k<(qh u.code k).length:=by rw[z_];exact hlk
   have HS:Hid (qh u.code (k+1)=vX u.code (qh u.code k) k):=za rfl;have HO:Hid (qi u.code (qh u.code k) k=(qh u.code k).set k (if jQ u.code[k]=true then -1 else k)):=za (by unfold qi;rw[zk hlk]);have HST:Hid (vX u.code (qh u.code k) k=if ZN u.code[k]=true/\0<xW u.code k then xQ (qi u.code (qh u.code k) k) (k-xW u.code k) (k-xW u.code k:Nat) (xW u.code k+1)else qi u.code (qh u.code k) k):=za (by unfold vX;rw[zk hlk]);have HCA:=za (fun w'=>Fe u.code[k] w');have HAR:Hid (jQ u.code[k]=(u.code[k].op==19)):=za rfl;have HNC:Hid (jQ u.code[k]=true->ZN u.code[k]=false):=za (fun h=>by unfold jQ at h;unfold ZN;have:=eq_of_beq h;rw[this];rfl);obtain⟨old,hold⟩:∃v,wr.cell? ⟨w.heap.size+1,k,none⟩=some v:=⟨_,HBI.out.at lfs⟩
   have hfr:=HBI.out.frozen k;have lw1:w.heap.size+1<wr.heap.size:=HBI.out.lt;generalize hx:u.code[k]=x at *;clear hx
   cases ha:(x.op==19)with
   |true=>
    rw[HAR.out,ha]at HO;have hc:=HNC.out (HAR.out.trans ha);rw[hc]at HCA HST;replace HST:=za (HS.out.trans (HST.out.trans (zi (by simp))));replace HO:=za (HO.out.trans (congrArg _ (zj rfl)));clear hc HNC;go_wp2_with (go_at_call 143;(with_reducible refine(HCA.out _).mono ?_);rintro e w3 ⟨rfl,hb⟩;have HB3:=za hb;clear hb);go_roundg (u.code.length-(k+1));case measure=>omega
    case rel=>
     refine⟨k+1,by omega,rfl,by go_num,za ?_,za ⟨?_,?_⟩⟩
     ·have h2:=((HBI.out.set lfs k).set (by rw[List.length_set];exact lfs) (-1))
      rw[List.set_set]at h2;rw[HST.out,HO.out];exact(h2.below (zd _ _)).below HB3.out
     ·exact((((HK.out.1.setCell (p:=⟨w.heap.size+1,k,none⟩) (by show w.heap.size<=w.heap.size+1;omega) _).setCell (p:=⟨w.heap.size+1,k,none⟩) (by show w.heap.size<=w.heap.size+1;omega) _)).step (zd _ _)).step HB3.out
     ·exact zb HB3.out (zb (zd _ _) ((yF _ _ _ _ (by show w.heap.size≠w.heap.size+1;omega)).trans ((yF _ _ _ _ (by show w.heap.size≠w.heap.size+1;omega)).trans HK.out.2)))
   |false=>
    rw[HAR.out,ha]at HO;replace HO:=za (HO.out.trans (congrArg _ (zi (by simp))));clear HNC HAR
    cases hc:ZN x with
    |false=>
     rw[hc]at HCA HST;replace HST:=za (HS.out.trans (HST.out.trans (zi (by simp))));clear hc;go_wp2_with (go_at_call 143;(with_reducible refine(HCA.out _).mono ?_);rintro e w3 ⟨rfl,hb⟩;have HB3:=za hb;clear hb);go_roundg (u.code.length-(k+1));case measure=>omega
     case rel=>
      refine⟨k+1,by omega,rfl,by go_num,za ?_,za ⟨?_,?_⟩⟩
      ·rw[HST.out,HO.out]
       exact(((HBI.out.set lfs k)).below (zd _ _)).below HB3.out
      ·exact(((HK.out.1.setCell (p:=⟨w.heap.size+1,k,none⟩) (by show w.heap.size<=w.heap.size+1;omega) _)).step (zd _ _)).step HB3.out
      ·exact zb HB3.out (zb (zd _ _) ((yF _ _ _ _ (by show w.heap.size≠w.heap.size+1;omega)).trans HK.out.2))
    |true=>
     rw[hc]at HCA HST;clear hc
     have HBO:Hid (∀w3,Below ((wr.setCell ⟨w.heap.size+1,k,none⟩ (.int .i64 k)).alloc (.cells #[.int .i64 x.op,.int .i64 x.a,.int .i64 x.b,.int .i64 x.c] 85)).heap.size ((wr.setCell ⟨w.heap.size+1,k,none⟩ (.int .i64 k)).alloc (.cells #[.int .i64 x.op,.int .i64 x.a,.int .i64 x.b,.int .i64 x.c] 85)) w3->BI w3 (w.heap.size+1) (qi u.code (qh u.code k) k)/\Below w.heap.size w w3/\w3.heap[w.heap.size]?=some (oU u (some ⟨b2,off,none⟩) cc ga gc)):=za (fun w3 hb=>by
      refine⟨?_,?_,?_⟩
      ·rw[HO.out]
       exact(((HBI.out.set lfs k)).below (zd _ _)).below hb
      ·exact(((HK.out.1.setCell (p:=⟨w.heap.size+1,k,none⟩) (by show w.heap.size<=w.heap.size+1;omega) _)).step (zd _ _)).step hb
      ·exact zb hb (zb (zd _ _) ((yF _ _ _ _ (by show w.heap.size≠w.heap.size+1;omega)).trans HK.out.2)))
     go_upto_region 9 with (go_at_call 143;(with_reducible refine(HCA.out _).mono ?_);rintro e w3 ⟨rfl,hb⟩;obtain⟨hbi3,hb3,hx3⟩:=HBO.out w3 hb;have HB3:=za (And.intro hbi3 (And.intro hb3 hx3));clear hb hbi3 hb3 hx3);clear HBO HCA hold hfr c0 c1 c2 c3;replace HST:=za (HS.out.trans HST.out);have hFl:(qi u.code (qh u.code k) k).length=u.code.length:=by rw[qL,z_]
     generalize qi u.code (qh u.code k) k=F at *;clear HO HS;have hrl:=Ql (code:=u.code) (i:=k) (by omega);have HRI:=za (fun r h hr=>Gr (code:=u.code) (i:=k) (r:=r) (by omega) h hr);have HGL:=za (Yl u.code k);have HGN:Hid (xW u.code k=Zy u.code k (QA u.code k)):=za rfl;generalize hrn:QA u.code k=rn at *;clear hrn;go_wp2;go_loopg [6] rn (fun gh s6 wr=>∃r:Nat,r<=rn/\gh=rn-r/\s6= .int .i64 r/\Hid (w3=wr));case atStart=>exact⟨0,zE _,rfl,rfl,za rfl⟩
     case round=>
      obtain⟨r,hr,rfl,rfl,HW⟩:=hrel;have HB4:=HB3;rw[HW.out]at HB4;have kc:=(zA _ _ 5 _ _ _ HB4.out.2.2).trans rfl;by_cases hrr:r<rn
      ·have hrk:r<k:=by omega
       obtain⟨q,hq⟩:∃q,k=q+r+1:=⟨k-r-1,by omega⟩
       have eq1:(k:Int)-(r:Int)-1=(q:Int):=by omega
       have nq0:(0:Int)<=(q:Int):=by omega
       have nq1:(q:Int)<(u.code.length:Int):=by omega
       have hql:q<u.code.length:=by omega
       obtain⟨b3,off3,ha3,hlt3,d0,d1,d2,d3⟩:=(HM.out.rc.below HB4.out.2.1) q hql;cases ha3;have hi:=(HRI.out r hr hrk).2 hrr;have e2:k-r-1=q:=by omega
       simp only[e2]at hi;have HQ:=za hq;have hy:(u.code[q].op==19)=true:=hi;clear hq hi e2;generalize u.code[q]=y at *;go_wp2;go_roundg (rn-(r+1));case measure=>omega
       case rel=>exact⟨r+1,by omega,rfl,by go_num,HW⟩
      ·obtain rfl:r=rn:=by omega
       have hsplit:r=k\/∃(q:Nat) (y:zm),(k:Int)-(r:Int)-1=(q:Int)/\q<u.code.length/\(y.op==19)=false/\wr.cell? ⟨b2,off+q*4,none⟩=some (.int .i64 y.op):=by
        by_cases hrk:r<k
        ·right
         obtain⟨q,hq⟩:∃q,k=q+r+1:=⟨k-r-1,by omega⟩
         have hql:q<u.code.length:=by omega
         obtain⟨b3,off3,ha3,hlt3,d0,d1,d2,d3⟩:=(HM.out.rc.below HB4.out.2.1) q hql;cases ha3;have hi:=HRI.out r hr hrk;have e2:k-r-1=q:=by omega
         simp only[e2]at hi;refine⟨q,u.code[q],by omega,hql,?_,d0⟩
         cases h:(u.code[q].op==19)with
         |false=>rfl
         |true=>exact absurd (hi.1 h) hrr
        ·left
         omega
       have HX4:=za HB4.out.2.2;have HL4:=za hFl;have HRL:=za hrl;rcases hsplit with e1|⟨q,y,eq1,hql,hy,d0⟩
       case' inl=>
        have eq1:(k:Int)-(r:Int)-1= -1:=by omega
        have HRK:=za e1;clear e1;go_upto_region 12 with fail
       case' inr=>
        have nq0:(0:Int)<=(q:Int):=by omega
        have nq1:(q:Int)<(u.code.length:Int):=by omega
        go_upto_region 12 with fail
       all_goals
        clear eq1
        try clear hy d0
        obtain⟨wo,hwo⟩:∃wo,wo=wr:=⟨_,rfl⟩
        rw[<-hwo]at HB4;rw[<-hwo];clear hwo kc HX4 hFl;have hrl2:r<=k:=HRL.out;go_wp2;go_loopg [7] r (fun gh s7 wr=>∃n:Nat,n<=r/\gh=0+n/\s7= .int .i64 n/\Hid (Zy u.code k n=xW u.code k)/\Hid (BI wr (w.heap.size+1) F/\Below w.heap.size w wr/\wr.heap[w.heap.size]?=some (oU u (some ⟨b2,off,none⟩) cc ga gc)));case atStart=>exact⟨r,zI _,by omega,rfl,za HGN.out.symm,HB4⟩
        case round=>
         obtain⟨n,hn,rfl,rfl,HG2,HB5⟩:=hrel;have kc:=(zA _ _ 5 _ _ _ HB5.out.2.2).trans rfl;rcases Nat.eq_zero_or_pos n with hn0|hn0
         ·subst hn0
          have hg0:¬(True/\0<xW u.code k):=by rw[<-HG2.out];show ¬(True/\0<0);omega
          have HE:=za (HST.out.trans (zi hg0));clear hg0;go_wp2;go_roundg (u.code.length-(k+1));case measure=>omega
          case rel=>exact⟨k+1,by omega,rfl,by go_num,za (by rw[HE.out];exact HB5.out.1),za HB5.out.2⟩
         ·obtain⟨m,hm⟩:∃m,n=m+1:=⟨n-1,by omega⟩
          obtain⟨lo,hlo⟩:∃lo,k=lo+n:=⟨k-n,by omega⟩
          have nn0:(0:Int)<(n:Int):=by omega
          have nn1:(n:Int)<=(k:Int):=by omega
          have eq2:(k:Int)-(n:Int)=(lo:Int):=by omega
          have nl0:(lo:Int)<=(k:Int):=by omega
          have nl1:(k:Int)<=(cc:Int):=by omega
          have nl2:lo<=k:=by omega
          have nl3:k<=cc:=by omega
          have hcl:¬cc=lo:=by omega
          have hkl:k-lo=n:=by omega
          have hsub:=(HM.out.rc.below HB5.out.2.1).sub lo n;have hsl:((u.code.drop lo).take n).length=n:=by rw[xm,jH];omega
          have hri:=IW ((u.code.drop lo).take n) (some ⟨b2,off+lo*4,none⟩) (cc-lo) wr hsub (by omega);rw[hsl]at hri;have HRB:=za hri;have HGS:Hid (Zy u.code k n=if jv ((u.code.drop lo).take n)=true then n else Zy u.code k m):=za (by rw[hm];show(if jv ((u.code.drop (k-(m+1))).take (m+1))=true then m+1 else Zy u.code k m)=_;rw[show k-(m+1)=lo by omega]);have HMN:=za (And.intro hm hlo);clear hm hlo hsub hsl hri;generalize jv ((u.code.drop lo).take n)=rb at *
          cases rb with
          |true=>
           have hgn:xW u.code k=n:=by rw[<-HG2.out,HGS.out];rfl
           have HE:Hid (qh u.code (k+1)=xQ F lo lo (n+1)):=za (by rw[HST.out,zj (by rw[hgn];exact⟨trivial,hn0⟩),hgn,show k-n=lo by omega]);clear hgn HGS HST;go_wp2_with (go_at_call 144;(with_reducible refine HRB.out.mono ?_);rintro e w6 ⟨rfl,hb⟩;have HB6:=za (And.intro (HB5.out.1.below hb) (And.intro (HB5.out.2.1.step hb) (zb hb HB5.out.2.2)));clear hb);clear kc eq2;obtain⟨wp,hwp⟩:∃wp,wp=w6:=⟨_,rfl⟩
           rw[<-hwp]at HB6;rw[<-hwp];clear hwp;go_loopg [8] (k+1-lo) (fun gh s8 wr=>∃q:Nat,(lo<=q/\q<=k+1)/\gh=k+1-q/\s8= .int .i64 q/\Hid (BI wr (w.heap.size+1) (xQ F lo lo (q-lo))/\Below w.heap.size w wr/\wr.heap[w.heap.size]?=some (oU u (some ⟨b2,off,none⟩) cc ga gc)));case atStart=>exact⟨lo,⟨zI _,by omega⟩,rfl,rfl,za ⟨by rw[Nat.sub_self];exact HB6.out.1,HB6.out.2⟩⟩
           case round=>
            obtain⟨q2,⟨hq2,hq3⟩,rfl,rfl,HB7⟩:=hrel;by_cases hqk:q2<=k
            ·have nq2:(q2:Int)<=(k:Int):=by omega
             have nq3:(q2:Int)<(u.code.length:Int):=by omega
             have nq4:(0:Int)<=(q2:Int):=by omega
             have eq2:(k:Int)-(n:Int)=(lo:Int):=by have:=HMN.out;omega
             have lq2:q2<(xQ F lo lo (q2-lo)).length:=by rw[xZ,HL4.out];omega
             obtain⟨old2,hold2⟩:∃v,wr.cell? ⟨w.heap.size+1,q2,none⟩=some v:=⟨_,HB7.out.1.at lq2⟩
             have hfr2:=HB7.out.1.frozen q2;go_wp2;go_roundg (k+1-(q2+1));case measure=>omega
             case rel=>
              refine⟨q2+1,⟨by omega,by omega⟩,rfl,by go_num,za ⟨?_,HB7.out.2.1.setCell (p:=⟨w.heap.size+1,q2,none⟩) (by show w.heap.size<=w.heap.size+1;omega) _,(yF _ _ _ _ (by show w.heap.size≠w.heap.size+1;omega)).trans HB7.out.2.2⟩⟩;have h2:=HB7.out.1.set lq2 lo;rw[show q2+1-lo=(q2-lo)+1 by omega];show BI _ _ ((xQ F lo lo (q2-lo)).set (lo+(q2-lo)) lo);rw[show lo+(q2-lo)=q2 by omega];exact h2
            ·have nq2:¬(q2:Int)<=(k:Int):=by omega
             have HQN:Hid (q2-lo=n+1):=za (by have:=HMN.out;omega);go_wp2;go_roundg (u.code.length-(k+1));case measure=>omega
             case rel=>exact⟨k+1,by omega,rfl,by go_num,za (by rw[HE.out,<-HQN.out];exact HB7.out.1),za HB7.out.2⟩
          |false=>
           have hgm:Zy u.code k m=xW u.code k:=by rw[<-HG2.out,HGS.out];rfl
           have HE:=za hgm;clear hgm;go_wp2_with (go_at_call 144;(with_reducible refine HRB.out.mono ?_);rintro e w6 ⟨rfl,hb⟩;have HB6:=za (And.intro (HB5.out.1.below hb) (And.intro (HB5.out.2.1.step hb) (zb hb HB5.out.2.2)));clear hb);go_roundg m;case measure=>have:=HMN.out.1;omega
           case rel=>exact⟨m,by have:=HMN.out.1;omega,by omega,by have:=HMN.out.1;rw[this];go_num,HE,HB6⟩
  ·obtain rfl:k=u.code.length:=by omega
   go_wp2;go_ret;exact⟨HK.out.1,_,by rw[zl,z_];rfl,HBI.out,by omega⟩
end Go.Proofs.YtgalekifgnecjaaGreat
