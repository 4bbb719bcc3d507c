/- The reference of layer 8: Plain, GuardOf -/
import Derived.Test.YtgalekifgnecjaaGreatZ5
import Derived.Test.YtgalekifgnecjaaGreatX1
import Derived.Test.YtgalekifgnecjaaGreatT7
namespace Go.Proofs.YtgalekifgnecjaaGreat
open Tryz Go.RowKit
open Go.RowKit Go.Shelf
set_option maxHeartbeats 8000000
set_option maxRecDepth 100000
attribute [local go_sem] Oper.semAt_some
attribute [local irreducible] wpStill
theorem UM(n:Nat)(i:zm):xf n i=(jA i.op&&(match zQ i with|none=>true|some x=>yr x 0 ((n:Int)-1))):=by
 unfold xf
 cases h:jA i.op with
 |false=>rfl
 |true=>
  rw[(Us h).2.2]
  cases zQ i with
  |none=>rfl
  |some x=>simp
theorem Ng{u:zg}{j:Nat}(h:j<u.guards.length)(hb:xF u.code.length u.guards[j]=false):zJ u=false:=by
 rw[ZV,List.all_eq_false (l:=u.guards).2 ⟨_,yy h,by simp[hb]⟩,Bool.and_false]
theorem I8(u:zg)(ca cc ga gc)(w:World)(hlc:u.code.length<=1000000)(hlg:u.guards.length<=1000000)(hh:vO u=false):
  Calls prog 61 #[vU u ca cc ga gc] w (zV (.bool (zJ u)) w):=by
 have HP:Hid (zJ u=false):=za (by rw[ZV,hh];rfl);have H:Hid ((yr u.code.length 1 600&&decide (u.guards.length<=40)&&yr u.slots 0 200&&yr u.frame 0 200)=false):=za hh;clear hh;have HB:=za (zd w (oU u ca cc ga gc));have HW1:=za (fun w=>Jy u.code.length 1 600 w);have HW2:=za (fun w=>Jy u.slots 0 200 w);have HW3:=za (fun w=>Jy u.frame 0 200 w);have ng:(u.guards.length:Int)<=1000000:=by omega
 have nc:(u.code.length:Int)<=1000000:=by omega
 obtain⟨b1,hb1⟩:∃b,b=yr u.code.length 1 600:=⟨_,rfl⟩
 obtain⟨b2,hb2⟩:∃b,b=yr u.slots 0 200:=⟨_,rfl⟩
 obtain⟨b3,hb3⟩:∃b,b=yr u.frame 0 200:=⟨_,rfl⟩
 rw[<-hb1]at HW1 H;rw[<-hb2]at HW2 H;rw[<-hb3]at HW3 H;clear hb1 hb2 hb3;generalize zJ u=r at *
 cases b1 with
 |false=>
  go_enter func61,ntmps61;go_wp2_with (go_at_call 129;(with_reducible refine(HW1.out _).mono ?_);rintro e w' ⟨rfl,rfl⟩);go_ret
  exact⟨zn HP.out.symm,HB.out⟩
 |true=>
  by_cases h40:u.guards.length<=40
  ·have d40:decide ((40:Int)<(u.guards.length:Int))=false:=yn (by omega)
   rw[zP h40]at H;clear h40
   cases b2 with
   |false=>
    go_enter func61,ntmps61
    go_wp2_with (first
     |(go_at_call 129;(with_reducible refine(HW1.out _).mono ?_);rintro e w' ⟨rfl,rfl⟩)
     |(go_at_call 129;(with_reducible refine(HW2.out _).mono ?_);rintro e w' ⟨rfl,rfl⟩))
    go_ret
    exact⟨zn HP.out.symm,HB.out⟩
   |true=>
    cases b3 with
    |false=>
     go_enter func61,ntmps61
     go_wp2_with (first
      |(go_at_call 129;(with_reducible refine(HW1.out _).mono ?_);rintro e w' ⟨rfl,rfl⟩)
      |(go_at_call 129;(with_reducible refine(HW2.out _).mono ?_);rintro e w' ⟨rfl,rfl⟩)
      |(go_at_call 129;(with_reducible refine(HW3.out _).mono ?_);rintro e w' ⟨rfl,rfl⟩))
     go_ret
     exact⟨zn HP.out.symm,HB.out⟩
    |true=>exact absurd H.out (by simp)
  ·have d40:decide ((40:Int)<(u.guards.length:Int))=true:=zP (by omega)
   clear h40;go_enter func61,ntmps61;go_wp2_with (go_at_call 129;(with_reducible refine(HW1.out _).mono ?_);rintro e w' ⟨rfl,rfl⟩);go_ret;exact⟨zn HP.out.symm,HB.out⟩
theorem OC(u:zg)(ca cc ga gc)(w:World)(hm:jo w u ca cc ga gc)(h1:yr u.code.length 1 600=true)(h2:u.guards.length<=40)(h3:yr u.slots 0 200=true)(h4:yr u.frame 0 200=true):
  Calls prog 61 #[vU u ca cc ga gc] w (zV (.bool (zJ u)) w):=by
 have HM:=za hm;clear hm;have hlen:1<=u.code.length/\u.code.length<=600:=by unfold yr at h1;simp at h1;omega
 have hhd:vO u=true:=by unfold vO;rw[h1,h3,h4,zP h2];rfl
 have HP:Hid (zJ u=(u.code.all (xf u.code.length)&&u.guards.all (xF u.code.length))):=za (by rw[ZV,hhd];rfl);clear hhd;have HW1:=za (fun w=>Jy u.code.length 1 600 w);have HW2:=za (fun w=>Jy u.slots 0 200 w);have HW3:=za (fun w=>Jy u.frame 0 200 w);have HBAD:=za (fun j h hb=>Iw (u:=u) (j:=j) h hb);have HGAD:=za (fun j h hb=>Ng (u:=u) (j:=j) h hb);rw[h1]at HW1;rw[h3]at HW2;rw[h4]at HW3;clear h1 h3 h4;obtain⟨hl1,hl2⟩:=hlen;have ng:¬(40:Int)<(u.guards.length:Int):=by omega
 have d40:decide ((40:Int)<(u.guards.length:Int))=false:=yn ng;clear ng;have HX1:=za (zo w (oU u ca cc ga gc) _ rfl);have HB:=za (zd w (oU u ca cc ga gc));go_enter func61,ntmps61
 go_wp2_with (first
  |(go_at_call 129;(with_reducible refine(HW1.out _).mono ?_);rintro e w' ⟨rfl,rfl⟩)
  |(go_at_call 129;(with_reducible refine(HW2.out _).mono ?_);rintro e w' ⟨rfl,rfl⟩)
  |(go_at_call 129;(with_reducible refine(HW3.out _).mono ?_);rintro e w' ⟨rfl,rfl⟩))
 obtain⟨w2,hw2⟩:∃w2,w2=w.alloc (oU u ca cc ga gc):=⟨_,rfl⟩
 rw[<-hw2]at HX1 HB;rw[<-hw2];clear hw2;go_loopg [4] u.code.length (fun gh s4 wr=>∃j:Nat,j<=u.code.length/\gh=u.code.length-j/\s4= .int .i64 j/\Hid (∀k (hk:k<u.code.length),k<j->xf u.code.length u.code[k]=true)/\Hid (Below w2.heap.size w2 wr));case atStart=>exact⟨0,zE _,rfl,rfl,za (fun k _ h=>absurd h (y_ _)),za (zG _ _)⟩
 case round=>
  obtain⟨j,hj,rfl,rfl,HQ,HK⟩:=hrel;by_cases hlj:j<u.code.length
  ·obtain⟨b2,off,ha,hlt2,c0,c1,c2,c3⟩:=(HM.out.rc.below (HB.out.step HK.out)) j hlj
   subst ha;have nj:(j:Int)<(u.code.length:Int):=by omega
   have HF:=za (HBAD.out j hlj)
   have HS:Hid (xf u.code.length u.code[j]=true->∀k (hk:k<u.code.length),k<j+1->xf u.code.length u.code[k]=true):=za (fun e k hk hkj=>by
    by_cases h:k<j
    ·exact HQ.out k hk h
    ·obtain rfl:k=j:=by omega
     exact e)
   obtain⟨k0,k1,k2,k3,k4,k5,k6⟩:=zr (zb HK.out HX1.out);have HRC:=za (fun w' (hb:Below wr.heap.size wr w')=>(HM.out.rc.below (HB.out.step (HK.out.step hb))) j hlj);generalize hi:u.code[j]=i at *;have HFO:=za (fun w=>Qm i.op w);have HJ:=za (fun w=>Ai i w);have HJV:Hid (OY i= .tuple #[.int .i64 ((zQ i).getD 0),.bool (zQ i).isSome]):=za rfl;have HD:=za (UM u.code.length i);clear hi;generalize Yv i.op=r at *;generalize jA i.op=ok at *;generalize zQ i=po at *;rw[HJV.out]at HJ;clear HJV
   cases ok with
   |false=>
    have HE:=za (HF.out (HD.out.trans (Bool.false_and _)));clear HF HS
    go_wp2_with (first
     |(go_at_call 130;refine(HFO.out _).mono ?_;rintro e w3 ⟨rfl,hb⟩;have HB3:=za (hb.step (zd w3 (.cells (cR r) 169)));have HK3:=za (HK.out.step HB3.out);obtain⟨y0,y1,y2,y3,y4,y5,y6⟩:=zr (zb HK3.out HX1.out);obtain⟨b3,off3,ha3,hlt3,d0,d1,d2,d3⟩:=HRC.out _ HB3.out;cases ha3;clear hb)
     |(go_at_call 131;refine(HJ.out _).mono ?_;rintro e w4 ⟨rfl,hb⟩;have HK4:=za (HK3.out.step hb);clear hb))
    go_ret
    exact⟨zn HE.out.symm,HB.out.step HK4.out⟩
   |true=>
    cases po with
    |none=>
     have HT:=za (HS.out HD.out);clear HF HS
     go_wp2_with (first
      |(go_at_call 130;refine(HFO.out _).mono ?_;rintro e w3 ⟨rfl,hb⟩;have HB3:=za (hb.step (zd w3 (.cells (cR r) 169)));have HK3:=za (HK.out.step HB3.out);obtain⟨y0,y1,y2,y3,y4,y5,y6⟩:=zr (zb HK3.out HX1.out);obtain⟨b3,off3,ha3,hlt3,d0,d1,d2,d3⟩:=HRC.out _ HB3.out;cases ha3;clear hb)
      |(go_at_call 131;refine(HJ.out _).mono ?_;rintro e w4 ⟨rfl,hb⟩;have HK4:=za (HK3.out.step hb);clear hb))
     go_roundg (u.code.length-(j+1));case measure=>omega
     case rel=>exact⟨j+1,by omega,rfl,by go_num,HT,HK4⟩
    |some x=>
     have HW:=za (fun w=>Jy x 0 ((u.code.length:Int)-1) w);replace HD:Hid (xf u.code.length i=yr x 0 ((u.code.length:Int)-1)):=za HD.out;generalize yr x 0 ((u.code.length:Int)-1)=bq at *
     cases bq with
     |false=>
      have HE:=za (HF.out HD.out);clear HF HS
      go_wp2_with (first
       |(go_at_call 130;refine(HFO.out _).mono ?_;rintro e w3 ⟨rfl,hb⟩;have HB3:=za (hb.step (zd w3 (.cells (cR r) 169)));have HK3:=za (HK.out.step HB3.out);obtain⟨y0,y1,y2,y3,y4,y5,y6⟩:=zr (zb HK3.out HX1.out);obtain⟨b3,off3,ha3,hlt3,d0,d1,d2,d3⟩:=HRC.out _ HB3.out;cases ha3;clear hb)
       |(go_at_call 131;refine(HJ.out _).mono ?_;rintro e w4 ⟨rfl,hb⟩;have HK4:=za (HK3.out.step hb);clear hb)
       |(go_at_call 129;refine(HW.out _).mono ?_;rintro e w5 ⟨rfl,rfl⟩))
      go_ret
      exact⟨zn HE.out.symm,HB.out.step HK4.out⟩
     |true=>
      have HT:=za (HS.out HD.out);clear HF HS
      go_wp2_with (first
       |(go_at_call 130;refine(HFO.out _).mono ?_;rintro e w3 ⟨rfl,hb⟩;have HB3:=za (hb.step (zd w3 (.cells (cR r) 169)));have HK3:=za (HK.out.step HB3.out);obtain⟨y0,y1,y2,y3,y4,y5,y6⟩:=zr (zb HK3.out HX1.out);obtain⟨b3,off3,ha3,hlt3,d0,d1,d2,d3⟩:=HRC.out _ HB3.out;cases ha3;clear hb)
       |(go_at_call 131;refine(HJ.out _).mono ?_;rintro e w4 ⟨rfl,hb⟩;have HK4:=za (HK3.out.step hb);clear hb)
       |(go_at_call 129;refine(HW.out _).mono ?_;rintro e w5 ⟨rfl,rfl⟩))
      go_roundg (u.code.length-(j+1));case measure=>omega
      case rel=>exact⟨j+1,by omega,rfl,by go_num,HT,HK4⟩
  ·obtain rfl:j=u.code.length:=by omega
   have HA:Hid (zJ u=u.guards.all (xF u.code.length)):=za (by
    rw[HP.out,yL.2 (fun x hx=>by obtain⟨k,hk,rfl⟩:=List.getElem_of_mem hx;exact HQ.out k hk hk),xk])
   clear HBAD HQ HW1 HW2 HW3 HP;have nj:¬(u.code.length:Int)<(u.code.length:Int):=by omega
   go_wp2;clear nj;go_loopg [9] u.guards.length (fun gh s9 w5=>∃m:Nat,m<=u.guards.length/\gh=u.guards.length-m/\s9= .int .i64 m/\Hid (∀k (hk:k<u.guards.length),k<m->xF u.code.length u.guards[k]=true)/\Hid (Below w2.heap.size w2 w5));case atStart=>exact⟨0,zE _,rfl,rfl,za (fun k _ h=>absurd h (y_ _)),HK⟩
   case round=>
    clear HK;obtain⟨m,hm,rfl,rfl,HQ,HK⟩:=hrel;obtain⟨k0,k1,k2,k3,k4,k5,k6⟩:=zr (zb HK.out HX1.out);by_cases hlm:m<u.guards.length
    ·obtain⟨b2,off,ha,hlt2,c0,c1,c2⟩:=(HM.out.rg.below (HB.out.step HK.out)) m hlm
     subst ha;have nm:(m:Int)<(u.guards.length:Int):=by omega
     have HF:=za (HGAD.out m hlm)
     have HS:Hid (xF u.code.length u.guards[m]=true->∀k (hk:k<u.guards.length),k<m+1->xF u.code.length u.guards[k]=true):=za (fun e k hk hkm=>by
      by_cases h:k<m
      ·exact HQ.out k hk h
      ·obtain rfl:k=m:=by omega
       exact e)
     have HBN:=za (HK.out.step (zd wr (.cells #[.int .i64 u.guards[m].frm,.int .i64 u.guards[m].til,.int .i64 u.guards[m].at'] 90)));generalize u.guards[m]=g at *;have HW:=za (fun w=>Jy g.at' 0 ((u.code.length:Int)-1) w);have HD:Hid (xF u.code.length g=(decide (0<=g.frm)&&decide (g.frm<g.til)&&decide (g.til<=u.code.length)&&yr g.at' 0 ((u.code.length:Int)-1))):=za rfl;generalize yr g.at' 0 ((u.code.length:Int)-1)=bq at *;by_cases h1:0<=g.frm
     ·have d1:decide (g.frm<0)=false:=yn (by omega)
      by_cases h2:g.frm<g.til
      ·have d2:decide (g.til<=g.frm)=false:=yn (by omega)
       by_cases h3:g.til<=u.code.length
       ·have d3:decide ((u.code.length:Int)<g.til)=false:=yn (by omega)
        replace HD:=za (HD.out.trans (by rw[zP h1,zP h2,zP h3];rfl:_=bq));clear h1 h2 h3
        cases bq with
        |false=>
         have HE:=za (HF.out HD.out);clear HF HS;go_wp2_with (go_at_call 129;refine(HW.out _).mono ?_;rintro e w6 ⟨rfl,rfl⟩);go_ret
         exact⟨zn HE.out.symm,HB.out.step HBN.out⟩
        |true=>
         have HT:=za (HS.out HD.out);clear HF HS;go_wp2_with (go_at_call 129;refine(HW.out _).mono ?_;rintro e w6 ⟨rfl,rfl⟩);go_roundg (u.guards.length-(m+1));case measure=>omega
         case rel=>exact⟨m+1,by omega,rfl,by go_num,HT,HBN⟩
       ·have d3:decide ((u.code.length:Int)<g.til)=true:=zP (by omega)
        have HE:=za (HF.out (HD.out.trans (by rw[zP h1,zP h2,yn h3];rfl:_=false)));clear h1 h2 h3 HF HS;go_wp2;go_ret;exact⟨zn HE.out.symm,HB.out.step HBN.out⟩
      ·have d2:decide (g.til<=g.frm)=true:=zP (by omega)
       have HE:=za (HF.out (HD.out.trans (by rw[zP h1,yn h2];rfl:_=false)));clear h1 h2 HF HS;go_wp2;go_ret;exact⟨zn HE.out.symm,HB.out.step HBN.out⟩
     ·have d1:decide (g.frm<0)=true:=zP (by omega)
      have HE:=za (HF.out (HD.out.trans (by rw[yn h1];rfl:_=false)));clear h1 HF HS;go_wp2;go_ret;exact⟨zn HE.out.symm,HB.out.step HBN.out⟩
    ·obtain rfl:m=u.guards.length:=by omega
     have nm:¬(u.guards.length:Int)<(u.guards.length:Int):=by omega
     have HE:Hid (zJ u=true):=za (by
      rw[HA.out]
      exact yL.2 (fun x hx=>by obtain⟨k,hk,rfl⟩:=List.getElem_of_mem hx;exact HQ.out k hk hk))
     go_wp2;go_ret;exact⟨zn HE.out.symm,HB.out.step HK.out⟩
theorem V5(u:zg)(ca cc ga gc)(w:World)(hm:jo w u ca cc ga gc)(hlc:u.code.length<=1000000)(hlg:u.guards.length<=1000000):
  Calls prog 61 #[vU u ca cc ga gc] w (zV (.bool (zJ u)) w):=by
 cases hh:vO u with
 |false=>exact I8 u ca cc ga gc w hlc hlg hh
 |true=>
  unfold vO at hh;simp only[yi,yB]at hh;exact OC u ca cc ga gc w hm hh.1.1.1 hh.1.1.2 hh.1.2 hh.2
theorem G0(u:zg)(n:Int)(ca cc ga gc)(w:World)(hm:jo w u ca cc ga gc)(hlc:u.code.length<=1000000)(hlg:u.guards.length<=1000000):
  Calls prog 180 #[vU u ca cc ga gc,.int .i64 n] w (zV (.int .i64 (if zJ u=true then if yr n 0 ((u.code.length:Int)-1)=true then zD u n else -1 else -1)) w):=by
 have HX:=za (zo w (oU u ca cc ga gc) _ rfl);have HB:=za (zd w (oU u ca cc ga gc));have HP:=za (V5 u ca cc ga gc (w.alloc (oU u ca cc ga gc)) (hm.below (zd _ _)) hlc hlg);have HW:=za (fun w=>Jy n 0 ((u.code.length:Int)-1) w);have HG:=za (fun w' (hb:Below w.heap.size w w')=>Ia u n ca cc ga gc w' ((hm.below hb).rg) hlg);clear hm hlg;obtain⟨k0,k1,k2,k3,k4,k5,k6⟩:=zr HX.out;have nc:(u.code.length:Int)<=1000000:=by omega
 have nc0:(0:Int)<=(u.code.length:Int):=by omega
 generalize yr n 0 ((u.code.length:Int)-1)=bn at *;generalize zD u n=q at *
 cases hp:zJ u with
 |false=>
  rw[hp]at HP;rw[zi (by simp)];go_enter func180,ntmps180;go_wp2_with (go_at_call 61;refine HP.out.mono ?_;rintro e w3 ⟨rfl,hb⟩;have HB3:=za (HB.out.step hb);clear hb);go_ret
  exact⟨rfl,HB3.out⟩
 |true=>
  rw[hp]at HP;rw[zj rfl]
  cases bn with
  |false=>
   rw[zi (by simp)];go_enter func180,ntmps180
   go_wp2_with (first
    |(go_at_call 61;refine HP.out.mono ?_;rintro e w3 ⟨rfl,hb⟩;have HB3:=za (HB.out.step hb);obtain⟨y0,y1,y2,y3,y4,y5,y6⟩:=zr (zb hb HX.out);clear hb)
    |(go_at_call 129;refine(HW.out _).mono ?_;rintro e w5 ⟨rfl,rfl⟩))
   go_ret
   exact⟨rfl,HB3.out⟩
  |true=>
   rw[zj rfl];go_enter func180,ntmps180
   go_wp2_with (first
    |(go_at_call 61;refine HP.out.mono ?_;rintro e w3 ⟨rfl,hb⟩;have HB3:=za (HB.out.step hb);obtain⟨y0,y1,y2,y3,y4,y5,y6⟩:=zr (zb hb HX.out);clear hb)
    |(go_at_call 129;refine(HW.out _).mono ?_;rintro e w5 ⟨rfl,rfl⟩)
    |(go_at_call 121;refine(HG.out _ HB3.out).mono ?_;rintro e w6 ⟨rfl,hb⟩;have HB6:=za (HB3.out.step hb);clear hb))
   go_ret;exact⟨rfl,HB6.out⟩
theorem FB{α: Type}{p:α-> Bool}:∀(l:List α) (m:Nat),m<=l.length->(∀k (h:k<l.length),k<m->p l[k]=true)->(∀h:m<l.length,p l[m]=false)->(l.takeWhile p).length=m
 | [],m,hm,_,_=>by
  have:m=0:=by simpa using hm
  subst this
  rfl
 |x::l,0,_,_,h=>by
  have h0:=h (by simp);simp only[List.getElem_cons_zero]at h0
  simp[List.takeWhile,h0]
 |x::l,m+1,hm,h1,h2=>by
  have h0:=h1 0 (by simp) (by omega);simp only[List.getElem_cons_zero]at h0;simp only[List.takeWhile,h0,xv];rw[FB l m (by simpa using hm) (fun k h hk=>by have:=h1 (k+1) (by simpa using h) (by omega);simpa using this) (fun h=>by have:=h2 (by simpa using h);simpa using this)]
theorem DO{fs:List Int}{i j:Nat}(hij:i<=j)(hj:j<fs.length)(h1:∀k (h:k<fs.length),i<k->k<=j->fs[k]=(i:Int))(h2:∀h:j+1<fs.length,fs[j+1]≠(i:Int)):zS fs i=j:=by
 unfold zS;rw[FB (fs.drop (i+1)) (j-i) (by rw[jH];omega)]
 ·omega
 ·intro k h hk
  rw[jH]at h;rw[List.getElem_drop];simpa using h1 (i+1+k) (by omega) (by omega) (by omega)
 ·intro h
  rw[jH]at h;rw[List.getElem_drop];have e:i+1+(j-i)=j+1:=by omega
  have:=h2 (by omega);simp only[e];simpa using this
theorem Ag(fs:List Int)(i:Nat)(a:Option Addr)(c:Nat)(w:World)(hr:yC w a fs)(hi:i<fs.length)(hlen:fs.length<=1000000):Calls prog 118 #[.slice a fs.length c,.int .i64 i] w (Q5 (.int .i64 (zS fs i)) w):=by
 have HR:=za hr;clear hr;have HE:=za (fun j=>DO (fs:=fs) (i:=i) (j:=j));generalize zS fs i=q at *;have ni:(i:Int)<=1000000:=by omega
 go_enter func118,ntmps118;go_wp2;go_loopg [5] (fs.length-i) (fun gh s5 wr=>∃j:Nat,i<=j/\j<fs.length/\gh=fs.length-j/\s5= .int .i64 j/\Hid (wr=w/\∀k (h:k<fs.length),i<k->k<=j->fs[k]=(i:Int)));case atStart=>exact⟨i,zI _,hi,rfl,rfl,za ⟨rfl,fun k _ h1 h2=>absurd h1 (by omega)⟩⟩
 case round=>
  obtain⟨j,hij,hj,rfl,rfl,HK⟩:=hrel;obtain⟨rfl,hk⟩:=HK.out;have HKJ:=za hk;clear HK hk;have HEJ:=za (HE.out j hij hj HKJ.out);have wj:IntKind.i64.wrap ((j:Int)+1)=((j+1:Nat):Int):=by rw[ju ⟨by omega,by omega⟩];omega
  by_cases hlj:j+1<fs.length
  ·obtain⟨b,off,ha,hlt,h0⟩:=HR.out (j+1) hlj
   subst ha;have nj:((j+1:Nat):Int)<(fs.length:Int):=by omega
   have nj0:(0:Int)<=((j+1:Nat):Int):=by omega
   have HT:Hid (fs[j+1]=(i:Int)->∀k (h:k<fs.length),i<k->k<=j+1->fs[k]=(i:Int)):=za (fun e k h h1 h2=>by
    by_cases hkj:k<=j
    ·exact HKJ.out k h h1 hkj
    ·obtain rfl:k=j+1:=by omega
     exact e)
   have HX:Hid (fs[j+1]≠(i:Int)->q=j):=za (fun e=>HEJ.out (fun _=>e));clear HE HEJ HKJ;generalize fs[j+1]=x at *
   cases hxn:(x==(i:Int))with
   |true=>
    have HT2:=za (HT.out (by simpa using hxn));clear HT HX;go_wp2;go_roundg (fs.length-(j+1));case measure=>omega
    case rel=>exact⟨j+1,by omega,hlj,rfl,rfl,za ⟨rfl,HT2.out⟩⟩
   |false=>
    have HX2:Hid (q=j):=za (HX.out (by simpa using hxn));clear HT HX;go_wp2;go_ret;exact⟨by rw[HX2.out];rfl,rfl⟩
  ·have nj:¬((j+1:Nat):Int)<(fs.length:Int):=by omega
   have HX2:Hid (q=j):=za (HEJ.out (fun h=>absurd h hlj));clear HE HEJ HKJ;go_wp2;go_ret;exact⟨by rw[HX2.out];rfl,rfl⟩
def Fo(code:List zm)(i t:Nat):List Int:=((code.drop i).take (t-i)).foldl (fun l x=>yG l (zp x)) []
theorem If(code:List zm){i t:Nat}(h:i<=t)(ht:t<code.length):Fo code i (t+1)=yG (Fo code i t) (zp code[t]):=by
 unfold Fo;have e:t+1-i=(t-i)+1:=by omega
 have hl:t-i<(code.drop i).length:=by rw[jH];omega
 have e2:(code.drop i)[t-i]=code[t]:=by
  rw[List.getElem_drop];congr 1;omega
 rw[e,zO hl,jc,e2];rfl
theorem Ga(code:List zm)(i:Nat):∀n,(Fo code i (i+n)).length<=2*n
 |0=>by simp[Fo]
 |n+1=>by
  by_cases h:i+n<code.length
  ·rw[<-Nat.add_assoc,If code (by omega) h]
   have h1:=qt (Fo code i (i+n)) (zp code[i+n]);have h2:=Ga code i n;have h3:=xD code[i+n];omega
  ·have h2:=Ga code i n
   have e:Fo code i (i+(n+1))=Fo code i (i+n):=by
    unfold Fo;rw[List.take_of_length_le (by rw[jH];omega),List.take_of_length_le (by rw[jH];omega)]
   rw[e];omega
theorem E7(u:zg)(fs:List Int)(i:Nat)(fa:Option Addr)(fc:Nat)(ca:Option Addr)(cc:Nat)(ga:Option Addr)(gc:Nat)(w:World)(hm:Qz w ca u.code)(hf:yC w fa fs)(hi:i<u.code.length)(hfl:fs.length=u.code.length)(hlen:u.code.length<=600):
  Calls prog 55 #[vU u ca cc ga gc,.slice fa fs.length fc,.int .i64 i] w (Za (yu u.code i (zS fs i)) w):=by
 obtain⟨J,hJ⟩:∃J,J=zS fs i:=⟨_,rfl⟩
 obtain⟨GR,hGR⟩:∃GR:Nat->List Int,GR=Fo u.code i:=⟨_,rfl⟩
 have hJ1:i<=zS fs i:=Nat.le_add_right _ _;have hJ2:=vD (fs:=fs) (i:=i) (by omega);rw[<-hJ]at hJ1 hJ2;have HFIN:Hid (yu u.code i J=GR (J+1)):=za (by rw[hGR];rfl);have HG0:Hid (GR i= []):=za (by rw[hGR];simp[Fo]);have HGS:=za (fun t (h:i<=t) (ht:t<u.code.length)=>(by rw[hGR];exact If u.code h ht:GR (t+1)=yG (GR t) (zp u.code[t])));have HGL:=za (fun t (h:i<=t)=>(by rw[hGR];have:=Ga u.code i (t-i);rwa [show i+(t-i)=t by omega]at this:(GR t).length<=2*(t-i)));have HL:=za (fun wx (hb:Below w.heap.size w wx)=>Ag fs i fa fc wx (hf.below hb) (by omega) (by omega));rw[<-hJ]at HL ⊢;have HX:=za (zo w (oU u ca cc ga gc) _ rfl);have HB:=za (zd w (oU u ca cc ga gc));have HM:=za hm;clear hm hf hJ hGR;rw[hfl]at hJ2;clear hfl;go_enter func55,ntmps55;go_upto_region 3 with fail;obtain⟨w2,hw2⟩:∃w2,w2=w.alloc (oU u ca cc ga gc):=⟨_,rfl⟩
 rw[<-hw2]at HX HB;rw[<-hw2];clear hw2;go_loopg [7,8] (J+1-i) (fun gh s7 s8 wr=>∃t:Nat,i<=t/\t<=J+1/\gh=J+1-t/\s8= .int .i64 t/\Hid (zu wr w2.heap.size s7 (GR t)/\Below w2.heap.size w2 wr));case atStart=>exact⟨i,zI _,by omega,rfl,rfl,za ⟨by rw[HG0.out];exact jd _ _ _ _,zG _ _⟩⟩
 case round=>
  obtain⟨t,hit,htj,rfl,rfl,HK⟩:=hrel;have hsz:=HK.out.2.size;have HLW:=za (HL.out wr (HB.out.step HK.out.2));by_cases hlt:t<=J
  ·have nt:(t:Int)<=(J:Int):=by omega
   obtain⟨b,off,hca,hltb,c0,c1,c2,c3⟩:=(HM.out.below (HB.out.step HK.out.2)) t (by omega);subst hca;obtain⟨k0,k1,k2,k3,k4,k5,k6⟩:=zr (zb HK.out.2 HX.out);have nl:(t:Int)<(u.code.length:Int):=by omega
   have HN:=za (HGS.out t hit (by omega));have HLN:=za (HGL.out t hit);have HRD:=za (XS (u.code[t]'(by omega)));have HR2:=za (xD (u.code[t]'(by omega)));generalize (u.code[t]'(by omega))=x at *;generalize zp x=R at *
   go_upto_region 6 with (first
    |(go_at_call 118;(with_reducible refine HLW.out.mono ?_);rintro e w3 ⟨rfl,rfl⟩)
    |(go_at_call 115;refine(HRD.out _).mono ?_;rintro e w3 ⟨hb3,v3,rfl,ho3⟩;have HB3:=za hb3;have HO3:=za ho3;clear hb3 ho3))
   have HB3W:=za (HK.out.2.step HB3.out);obtain⟨ra,rc,rfl,hrr⟩:=HO3.out.rd;have HRA:Hid (∀b off,ra=some ⟨b,off,none⟩->wr.heap.size<=b):=za (fun b off e=>zy HO3.out b (by subst e;rfl));have HRR:=za hrr;have HO7:=za (zu.later HK.out.1 HB3.out);have HO7L:=za (fun b (e:u7.ownBlock=some b)=>Xd HK.out.1 b e);clear hrr;go_wp2;go_loopg [7,10] R.length (fun gh s7 s10 w5=>∃k:Nat,k<=R.length/\gh=R.length-k/\s10= .int .i64 k/\Hid (zu w5 w2.heap.size s7 (yG (GR t) (R.take k))/\Below w2.heap.size w2 w5/\yC w5 ra R/\∀b off,ra=some ⟨b,off,none⟩->some b≠s7.ownBlock));case atStart=>exact⟨0,zE _,rfl,rfl,za ⟨HO7.out,HB3W.out,HRR.out,fun b off e h=>by have h1:=HRA.out b off e;have h2:=HO7L.out b h.symm;omega⟩⟩
   case round=>
    clear HK HB3 HO3 HB3W HRA HRR HO7 HO7L;obtain⟨k,hk,rfl,rfl,HK⟩:=hrel;have hln:=qt (GR t) (R.take k);have hlr:=HR2.out;have hlg:=HLN.out;rw[xm,Nat.min_eq_left hk]at hln;have hsz5:=HK.out.2.1.size;by_cases hlk:k<R.length
    ·obtain⟨rb,ro,hra,hltr,h0⟩:=HK.out.2.2.1 k hlk
     subst hra;have nk:(k:Int)<(R.length:Int):=by omega
     have HT:Hid (R.take (k+1)=R.take k++ [R[k]]):=za (zO hlk);have HSN:=za (UB (GR t) (R.take k) R[k]);rw[<-HT.out]at HSN;generalize R[k]=y at *;obtain⟨a7,c7,e7,hr7⟩:=HK.out.1.rd;have HAS:=za (O9 (yG (GR t) (R.take k)) y a7 c7 wr hr7 (by omega));rw[<-e7]at HAS;clear e7 hr7;obtain⟨A',hA'⟩:∃A',A'=yG (GR t) (R.take (k+1)):=⟨_,rfl⟩
     rw[<-hA']at HSN;have HA':=za hA';clear hA';generalize yG (GR t) (R.take k)=A at *
     cases hc:A.contains y with
     |true=>
      rw[hc,zj rfl]at HSN;rw[hc]at HAS;clear hc;go_wp2_with (go_at_call 85;(with_reducible refine HAS.out.mono ?_);rintro e w6 ⟨rfl,rfl⟩);go_roundg (R.length-(k+1));case measure=>omega
      case rel=>exact⟨k+1,by omega,rfl,by go_num,za ⟨by rw[<-HA'.out,HSN.out];exact HK.out.1,HK.out.2⟩⟩
     |false=>
      rw[hc,zi (by simp)]at HSN;rw[hc]at HAS;clear hc
      go_wp2_with (first
       |(go_at_call 85;(with_reducible refine HAS.out.mono ?_);rintro e w6 ⟨rfl,rfl⟩)
       |(at_builtin;refine zv _ rfl _ _ rfl w2.heap.size _ A [y] rfl (zu.later HK.out.1 (zd _ _)) (some ⟨_,0,none⟩) 1 rfl (yJ _ _ _) (by simp;omega) (by simp;omega) ?_;intro v' w8 hown' hgrow hat;have HOW:=za hown';have HGR:=za hgrow;have HAT:=za hat;clear hown' hgrow hat))
      go_roundg (R.length-(k+1));case measure=>omega
      case rel=>exact⟨k+1,by omega,rfl,by go_num,za ⟨by rw[<-HA'.out,HSN.out];exact HOW.out,xX (HK.out.2.1.step (zd _ _)) HGR.out (by simp;omega) (zy HK.out.1),yC.grown (HK.out.2.2.1.below (zd _ _)) HGR.out HK.out.2.2.2,fun b' o' e h=>by
       cases e;rcases HAT.out with h2|h2
       ·exact HK.out.2.2.2 _ _ rfl (h.trans h2)
       ·rw[h2]at h
        simp at h
        omega⟩⟩
    ·obtain rfl:k=R.length:=by omega
     have nk:¬(R.length:Int)<(R.length:Int):=by omega
     rw[xL]at HK;go_wp2;go_roundg (J+1-(t+1));case measure=>omega
     case rel=>exact⟨t+1,by omega,by omega,rfl,by go_num,za ⟨by rw[HN.out];exact HK.out.1,HK.out.2.1⟩⟩
  ·obtain rfl:t=J+1:=by omega
   have nt:¬((J+1:Nat):Int)<=(J:Int):=by omega
   go_wp2_with (go_at_call 118;(with_reducible refine HLW.out.mono ?_);rintro e w3 ⟨rfl,rfl⟩);go_ret;exact⟨HB.out.step HK.out.2,_,rfl,by rw[HFIN.out];exact zu.mono HK.out.1 HB.out.size⟩
end Go.Proofs.YtgalekifgnecjaaGreat
