/- The small functions of package regs -/
import Derived.Test.YtgalekifgnecjaaGreatC2
import Derived.Test.YtgalekifgnecjaaGreatB4
namespace Go.Proofs.YtgalekifgnecjaaGreat
open Tryz Go.RowKit
open Go.RowKit Go.Shelf
set_option maxHeartbeats 4000000
set_option maxRecDepth 100000
theorem xY(n lo hi:Int)(w:World):Calls prog 43 #[.int .i64 n,.int .i64 lo,.int .i64 hi] w (Q5 (.bool (yr n lo hi)) w):=by
 have H:Hid (yr n lo hi=(decide (lo<=n)&&decide (n<=hi))):=za rfl;generalize yr n lo hi=r at *;by_cases h1:lo<=n
 ·by_cases h2:n<=hi
  ·go_enter func43,ntmps43
   go_wp2;go_ret;exact⟨zn (by rw[H.out];simp[h1,h2]),rfl⟩
  ·have d2:decide (n<=hi)=false:=yn h2
   go_enter func43,ntmps43;go_wp2;go_ret;exact⟨zn (by rw[H.out];simp[h1,h2]),rfl⟩
 ·have d1:decide (lo<=n)=false:=yn h1
  go_enter func43,ntmps43;go_wp2;go_ret;exact⟨zn (by rw[H.out,d1];rfl),rfl⟩
theorem Kc(i:zm)(w:World):Calls prog 97 #[vI i] w (zV (.bool (qq i)) w):=by
 have H:Hid (qq i=(i.op==24||i.op==26||i.op==27||i.op==28)):=za rfl;generalize qq i=r at *
 cases h1:(i.op==24)with
 |true=>
  go_enter func97,ntmps97;go_wp2;go_ret
  exact⟨zn (by rw[H.out,h1];rfl),zd _ _⟩
 |false=>
  cases h2:(i.op==26)with
  |true=>
   go_enter func97,ntmps97;go_wp2;go_ret
   exact⟨zn (by rw[H.out,h1,h2];rfl),zd _ _⟩
  |false=>
   cases h3:(i.op==27)with
   |true=>
    go_enter func97,ntmps97;go_wp2;go_ret
    exact⟨zn (by rw[H.out,h1,h2,h3];rfl),zd _ _⟩
   |false=>
    go_enter func97,ntmps97;go_wp2;go_ret;exact⟨zn (by rw[H.out,h1,h2,h3];rfl),zd _ _⟩
theorem Fe(i:zm)(w:World):Calls prog 143 #[vI i] w (zV (.bool (ZN i)) w):=by
 have H:Hid (ZN i=(i.op==20||i.op==22)):=za rfl;generalize ZN i=r at *
 cases h1:(i.op==20)with
 |true=>
  go_enter func143,ntmps143;go_wp2;go_ret
  exact⟨zn (by rw[H.out,h1];rfl),zd _ _⟩
 |false=>
  go_enter func143,ntmps143;go_wp2;go_ret;exact⟨zn (by rw[H.out,h1];rfl),zd _ _⟩
def YM(op:Int)(b off:Nat):Option Addr:=if op==24 then some ⟨b,off+1,none⟩else if op==25||op==32 then some ⟨b,off+2,none⟩else none
theorem Qo(op:Int)(b off:Nat)(w:World)(hc:w.cell? ⟨b,off,none⟩=some (.int .i64 op)):Calls prog 101 #[.pointer (some ⟨b,off,none⟩)] w (Q5 (.pointer (YM op b off)) w):=by
 have H:Hid (YM op b off=if op==24 then some ⟨b,off+1,none⟩else if op==25||op==32 then some ⟨b,off+2,none⟩else none):=za rfl;generalize YM op b off=r at *
 cases h1:(op==24)with
 |true=>
  go_enter func101,ntmps101;go_wp2;go_ret
  exact⟨V1 (by rw[H.out,h1];rfl),rfl⟩
 |false=>
  cases h2:(op==25)with
  |true=>
   go_enter func101,ntmps101;go_wp2;go_ret
   exact⟨V1 (by rw[H.out,h1,h2];rfl),rfl⟩
  |false=>
   cases h3:(op==32)with
   |true=>
    go_enter func101,ntmps101;go_wp2;go_ret
    exact⟨V1 (by rw[H.out,h1,h2,h3];rfl),rfl⟩
   |false=>
    go_enter func101,ntmps101;go_wp2;go_ret;exact⟨V1 (by rw[H.out,h1,h2,h3];rfl),rfl⟩
theorem PA(w:World)(l:List Int)(T:TypeId):yC (w.alloc (.cells (l.map (Value.int .i64)).toArray T)) (some ⟨w.heap.size,0,none⟩) l:=by
 intro k hk;refine⟨w.heap.size,0,rfl,XX _ _,?_⟩;rw[zA _ _ _ _ _ _ (zo w _ _ rfl)];simp[q9 hk]
theorem A9(x:Int)(w:World):Calls prog 141 #[.slice (some ⟨w.heap.size,0,none⟩) 14 14,.int .i64 x] (w.alloc (.cells #[.int .i64 6,.int .i64 7,.int .i64 8,.int .i64 9,.int .i64 10,.int .i64 17,.int .i64 20,.int .i64 21,.int .i64 22,.int .i64 23,.int .i64 26,.int .i64 27,.int .i64 30,.int .i64 32] 3)) (Q5 (.bool (XT.contains x)) (w.alloc (.cells #[.int .i64 6,.int .i64 7,.int .i64 8,.int .i64 9,.int .i64 10,.int .i64 17,.int .i64 20,.int .i64 21,.int .i64 22,.int .i64 23,.int .i64 26,.int .i64 27,.int .i64 30,.int .i64 32] 3))):=
 Xq XT x (some ⟨w.heap.size,0,none⟩) 14 _ (PA w XT 3) (by decide)
theorem Gz(i:zm)(w:World):Calls prog 103 #[vI i] w (zV (.bool (yZ i)) w):=by
 have hc:=A9 i.op (w.alloc (.cells #[.int .i64 i.op,.int .i64 i.a,.int .i64 i.b,.int .i64 i.c] 85));rw[vJ]at hc;have HC:=za hc;clear hc;have H:Hid (yZ i=XT.contains i.op):=za rfl;generalize yZ i=r at *;rw[<-H.out]at HC;go_enter func103,ntmps103;go_wp2_with (go_at_call 141;refine HC.out.mono ?_;rintro e w' ⟨rfl,rfl⟩);go_ret;exact⟨rfl,(zd _ _).step (zd _ _)⟩
theorem KA{l:List zm}{k:Nat}(h:k<l.length)(hn:l[k].a≠(k:Int)):jv l=false:=by
 unfold jv;exact ZX h (by rw[zk h];simpa using hn)
theorem UI{l:List zm}(h:∀k (hk:k<l.length),l[k].a=(k:Int)):jv l=true:=by
 unfold jv;rw[yL];intro k hk;rw[yR]at hk;rw[zk hk,h k hk];simp
theorem IW(l:List zm)(a:Option Addr)(cap:Nat)(w:World)(hl:Qz w a l)(hll:l.length<=1000000):Calls prog 144 #[.slice a l.length cap] w (zV (.bool (jv l)) w):=by
 have HL:=za hl;clear hl;go_enter func144,ntmps144;go_wp2;go_loopg [7] l.length (fun gh s7 wr=>∃j:Nat,j<=l.length/\gh=l.length-j/\s7= .int .i64 j/\Hid (∀k (hk:k<l.length),k<j->l[k].a=(k:Int))/\Hid (Below w.heap.size w wr));case atStart=>exact⟨0,zE _,rfl,rfl,za (fun k _ h=>absurd h (y_ _)),za (zG _ _)⟩
 case round=>
  obtain⟨j,hj,rfl,rfl,HQ,HB⟩:=hrel;by_cases hlj:j<l.length
  ·obtain⟨b2,off,ha,hlt2,h0,h1,h2,h3⟩:=(HL.out.below HB.out) j hlj
   subst ha;have nj:(j:Int)<(l.length:Int):=by omega
   have HF:=za (KA (l:=l) (k:=j) hlj)
   have HS:Hid (l[j].a=(j:Int)->∀k (hk:k<l.length),k<j+1->l[k].a=(k:Int)):=za (fun e k hk hkj=>by
    by_cases h:k<j
    ·exact HQ.out k hk h
    ·obtain rfl:k=j:=by omega
     exact e)
   generalize l[j]=g at *
   cases hg:(g.a !=(j:Int))with
   |true=>
    have HE:=za (HF.out (by simpa using hg));go_wp2;go_ret
    exact⟨zn HE.out.symm,HB.out.step (zd _ _)⟩
   |false=>
    have HE:=za (HS.out (by simpa using hg));go_wp2;go_roundg (l.length-(j+1));case measure=>omega
    case rel=>exact⟨j+1,by omega,rfl,by go_num,HE,za (HB.out.step (zd _ _))⟩
  ·obtain rfl:j=l.length:=by omega
   have HE:=za (UI (l:=l) (fun k hk=>HQ.out k hk hk));go_wp2;go_ret;exact⟨zn HE.out.symm,HB.out⟩
theorem SL(g:jR)(n:Int)(p:Nat)(w:World)(hp:w.cell? ⟨p,0,none⟩=some (.int .i64 n)):
  Calls prog 173 #[vG g,.pointer (some ⟨p,0,none⟩)] w (zV (.bool (yH n g)) w):=by
 have H:Hid (yH n g=(decide (g.frm<=n)&&decide (n<g.til))):=za rfl;have hp1:=zK (zd w (.cells #[.int .i64 g.frm,.int .i64 g.til,.int .i64 g.at'] 90)) hp;have HB:=za (zd w (.cells #[.int .i64 g.frm,.int .i64 g.til,.int .i64 g.at'] 90));clear hp;generalize yH n g=r at *;by_cases h1:g.frm<=n
 ·have d1:decide (g.frm<=n)=true:=zP h1
  by_cases h2:n<g.til
  ·have d2:decide (n<g.til)=true:=zP h2
   rw[d1,d2]at H;go_enter func173,ntmps173;go_wp2;go_ret;exact⟨zn (by rw[H.out];rfl),HB.out⟩
  ·have d2:decide (n<g.til)=false:=yn h2
   rw[d1,d2]at H;go_enter func173,ntmps173;go_wp2;go_ret;exact⟨zn (by rw[H.out];rfl),HB.out⟩
 ·have d1:decide (g.frm<=n)=false:=yn h1
  rw[d1]at H;go_enter func173,ntmps173;go_wp2;go_ret;exact⟨zn (by rw[H.out];rfl),HB.out⟩
theorem D7:xE 173:=enters_of func173 (by kernel_rfl) rfl
theorem JC(u:zg)(n:Int)(ca cc ga gc)(w:World)(hg:IG w ga u.guards)(hlg:u.guards.length<=1000000):
  Calls prog 102 #[vU u ca cc ga gc,.int .i64 n] w (zV (.int .i64 (zD u n)) w):=by
 have HB:=za ((zd w (oU u ca cc ga gc)).step (zd _ (.cells #[.int .i64 n] 3)));have hc:((w.alloc (oU u ca cc ga gc)).alloc (.cells #[.int .i64 n] 3)).cell? ⟨w.heap.size+1,0,none⟩=some (.int .i64 n):=by have:=Qg (w.alloc (oU u ca cc ga gc)) (.int .i64 n) 3;rw[vJ]at this;exact this
 have HI:=za (Lu 173 D7 #[.pointer (some ⟨w.heap.size+1,0,none⟩)] (yH n) u.guards ga gc _ (fun x _ w' hb=>SL x n _ w' (zK hb hc)) (hg.below HB.out) (by omega));clear hg hc;go_enter func102,ntmps102;go_wp2_with (go_at_call 172;refine HI.out.mono ?_;rintro e w' ⟨rfl,hb⟩;have HB2:=za (HB.out.step hb);clear hb);go_ret;exact⟨rfl,HB2.out⟩
theorem SD(x n:Int)(p:Nat)(w:World)(hp:w.cell? ⟨p,0,none⟩=some (.int .i64 n))(hn:0<=n/\n<=1000000):
  Calls prog 213 #[.int .i64 x,.pointer (some ⟨p,0,none⟩)] w (zV (.bool (!yr x 0 (n-1))) w):=by
 have HW:=za (fun w=>jy x 0 (n-1) w);generalize yr x 0 (n-1)=r at *;obtain⟨h1,h2⟩:=hn;go_enter func213,ntmps213;go_wp2_with (go_at_call 91;refine(HW.out _).mono ?_;rintro e w' ⟨rfl,rfl⟩);go_ret;exact⟨rfl,zG _ _⟩
theorem D5:xE 213:=enters_of func213 (by kernel_rfl) rfl
theorem SC(g:jR)(n:Nat)(p:Nat)(w:World)(hp:w.cell? ⟨p,0,none⟩=some (.int .i64 n))(hn:n<=1000000):
  Calls prog 215 #[vG g,.pointer (some ⟨p,0,none⟩)] w (zV (.bool (!xF n g)) w):=by
 have HW:=za (fun w=>jy g.at' 0 ((n:Int)-1) w);have H:Hid (xF n g=(decide (0<=g.frm)&&decide (g.frm<g.til)&&decide (g.til<=n)&&yr g.at' 0 ((n:Int)-1))):=za rfl;have hp1:=zK (zd w (.cells #[.int .i64 g.frm,.int .i64 g.til,.int .i64 g.at'] 90)) hp;have HB:=za (zd w (.cells #[.int .i64 g.frm,.int .i64 g.til,.int .i64 g.at'] 90));clear hp;generalize yr g.at' 0 ((n:Int)-1)=q at *;generalize xF n g=r at *;have hn0:(0:Int)<=(n:Int):=by omega
 have hn1:(n:Int)<=1000000:=by omega
 by_cases h1:0<=g.frm
 ·have d1:decide (g.frm<0)=false:=yn (by omega)
  by_cases h2:g.frm<g.til
  ·have d2:decide (g.til<=g.frm)=false:=yn (by omega)
   by_cases h3:g.til<=n
   ·have d3:decide ((n:Int)<g.til)=false:=yn (by omega)
    replace H:=za (H.out.trans (by rw[zP h1,zP h2,zP h3];rfl:_=q));clear h1 h2 h3;go_enter func215,ntmps215;go_wp2_with (go_at_call 91;refine(HW.out _).mono ?_;rintro e w' ⟨rfl,rfl⟩);go_ret;exact⟨zn (by rw[H.out]),HB.out⟩
   ·have d3:decide ((n:Int)<g.til)=true:=zP (by omega)
    replace H:=za (H.out.trans (by rw[zP h1,zP h2,yn h3];rfl:_=false));clear h1 h2 h3;go_enter func215,ntmps215;go_wp2;go_ret;exact⟨zn (by rw[H.out];rfl),HB.out⟩
  ·have d2:decide (g.til<=g.frm)=true:=zP (by omega)
   replace H:=za (H.out.trans (by rw[zP h1,yn h2];rfl:_=false));clear h1 h2;go_enter func215,ntmps215;go_wp2;go_ret;exact⟨zn (by rw[H.out];rfl),HB.out⟩
 ·have d1:decide (g.frm<0)=true:=zP (by omega)
  replace H:=za (H.out.trans (by rw[yn h1];rfl:_=false));clear h1;go_enter func215,ntmps215;go_wp2;go_ret;exact⟨zn (by rw[H.out];rfl),HB.out⟩
theorem D4:xE 215:=enters_of func215 (by kernel_rfl) rfl
def vO(u:zg):Bool:=yr u.code.length 1 600&&decide (u.guards.length<=40)&&yr u.slots 0 200&&yr u.frame 0 200
theorem ZV(u:zg):zJ u=(vO u&&u.code.all (xf u.code.length)&&u.guards.all (xF u.code.length)):=rfl
theorem Iw{u:zg}{j:Nat}(h:j<u.code.length)(hb:xf u.code.length u.code[j]=false):zJ u=false:=by
 rw[ZV,List.all_eq_false.2 ⟨_,yy h,by simp[hb]⟩];simp
theorem Da(u:zg)(ca cc ga gc)(w:World)(hm:jo w u ca cc ga gc)(h1:yr u.code.length 1 600=true)(h2:u.guards.length<=40)(h3:yr u.slots 0 200=true)(h4:yr u.frame 0 200=true):
  Calls prog 174 #[vU u ca cc ga gc] w (zV (.bool (zJ u)) w):=by
 have HM:=za hm;clear hm;have hlen:1<=u.code.length/\u.code.length<=600:=by unfold yr at h1;simp at h1;omega
 have hhd:vO u=true:=by unfold vO;rw[h1,h3,h4,zP h2];rfl
 have HP:Hid (zJ u=(u.code.all (xf u.code.length)&&u.guards.all (xF u.code.length))):=za (by rw[ZV,hhd];rfl);clear hhd;have HW1:=za (fun w=>jy u.code.length 1 600 w);have HW2:=za (fun w=>jy u.slots 0 200 w);have HW3:=za (fun w=>jy u.frame 0 200 w);have HBAD:=za (fun j h hb=>Iw (u:=u) (j:=j) h hb);rw[h1]at HW1;rw[h3]at HW2;rw[h4]at HW3;clear h1 h3 h4;obtain⟨hl1,hl2⟩:=hlen;have ng:¬(40:Int)<(u.guards.length:Int):=by omega
 have d40:decide ((40:Int)<(u.guards.length:Int))=false:=yn ng;clear ng;have HX1:=za (zb (zd _ (.cells #[.int .i64 u.code.length] 3)) (zo w (oU u ca cc ga gc) _ rfl));have HX2:=za (zo (w.alloc (oU u ca cc ga gc)) (.cells #[.int .i64 u.code.length] 3) _ rfl);rw[vJ]at HX2;have HB:=za ((zd w (oU u ca cc ga gc)).step (zd _ (.cells #[.int .i64 u.code.length] 3)));go_enter func174,ntmps174
 go_wp2_with (first
  |(go_at_call 91;(with_reducible refine(HW1.out _).mono ?_);rintro e w' ⟨rfl,rfl⟩)
  |(go_at_call 91;(with_reducible refine(HW2.out _).mono ?_);rintro e w' ⟨rfl,rfl⟩)
  |(go_at_call 91;(with_reducible refine(HW3.out _).mono ?_);rintro e w' ⟨rfl,rfl⟩))
 obtain⟨w2,hw2⟩:∃w2,w2=(w.alloc (oU u ca cc ga gc)).alloc (.cells #[.int .i64 u.code.length] 3):=⟨_,rfl⟩
 rw[<-hw2]at HX1 HX2 HB;rw[<-hw2];clear hw2;go_loopg [35] u.code.length (fun gh s35 wr=>∃j:Nat,j<=u.code.length/\gh=u.code.length-j/\s35= .int .i64 j/\Hid (∀k (hk:k<u.code.length),k<j->xf u.code.length u.code[k]=true)/\Hid (Below w2.heap.size w2 wr));case atStart=>exact⟨0,zE _,rfl,rfl,za (fun k _ h=>absurd h (y_ _)),za (zG _ _)⟩
 case round=>
  obtain⟨j,hj,rfl,rfl,HQ,HK⟩:=hrel;by_cases hlj:j<u.code.length
  ·obtain⟨b2,off,ha,hlt2,c0,c1,c2,c3⟩:=(HM.out.rc.below (HB.out.step HK.out)) j hlj
   subst ha;have nj:(j:Int)<(u.code.length:Int):=by omega
   have HF:=za (HBAD.out j hlj)
   have HS:Hid (xf u.code.length u.code[j]=true->∀k (hk:k<u.code.length),k<j+1->xf u.code.length u.code[k]=true):=za (fun e k hk hkj=>by
    by_cases h:k<j
    ·exact HQ.out k hk h
    ·obtain rfl:k=j:=by omega
     exact e)
   obtain⟨k0,k1,k2,k3,k4,k5,k6⟩:=zr (zb HK.out HX1.out);have kn:=(zA _ _ 0 _ _ _ (zb HK.out HX2.out)).trans rfl;generalize hi:u.code[j]=i at *;have HFO:=za (fun w=>Yn i.op w);have HPL:=za (fun w=>GC i w);have HD:Hid (xf u.code.length i=(jA i.op&&(qR i).all fun p=>yr p 0 ((u.code.length:Int)-1))):=za rfl;have HLP:Hid ((qR i).length<=3):=za (Z8 (zM i.op) i 3);clear hi;generalize zM i.op=f at *
   cases hok:jA i.op with
   |false=>
    rw[hok]at HFO HD;have HE:=za (HF.out (HD.out.trans rfl));clear hok;go_wp2_with (go_at_call 139;refine(HFO.out _).mono ?_;rintro e w3 ⟨rfl,hb⟩;have HB3:=za (HB.out.step (HK.out.step ((zd _ _).step (hb.step (zd w3 (.cells (cF f) 186))))));clear hb);go_ret
    exact⟨zn HE.out.symm,HB3.out⟩
   |true=>
    rw[hok]at HFO HD;clear hok;replace HD:=za (HD.out.trans (xk _));have HY:=za (zo wr (.cells #[.int .i64 i.op,.int .i64 i.a,.int .i64 i.b,.int .i64 i.c] 85) _ rfl);generalize qR i=pl at *;obtain⟨qb,hqb⟩:∃qb,qb=pl.any fun x=> !yr x 0 ((u.code.length:Int)-1):=⟨_,rfl⟩
    replace HD:=za (HD.out.trans (by rw[hqb,List.all_eq_not_any_not]:_= !qb));have HQB:=za hqb;clear hqb;cases qb
    all_goals
     go_wp2_with (first
      |(go_at_call 139;refine(HFO.out _).mono ?_;rintro e w3 ⟨rfl,hb⟩;have HB3:=za (HK.out.step ((zd wr (.cells #[.int .i64 i.op,.int .i64 i.a,.int .i64 i.b,.int .i64 i.c] 85)).step (hb.step (zd w3 (.cells (cF f) 186)))));obtain⟨y0,y1,y2,y3⟩:=zX (zb (zd w3 (.cells (cF f) 186)) (zb hb HY.out));clear hb)
      |(go_at_call 209;refine(HPL.out _).mono ?_;rintro e w4 ⟨hb,v,rfl,ho⟩;obtain⟨pa,pc,rfl,hrp⟩:=ho.rd;have HB4:=za (HB3.out.step hb);have HS4:=za (E3 213 D5 #[.pointer (some ⟨w.heap.size+1,0,none⟩)] (fun x=> !yr x 0 ((u.code.length:Int)-1)) pl pa pc w4 (fun x _ w' hb'=>SD x _ _ w' (zK hb' ((zA _ _ 0 _ _ _ (zb HB4.out HX2.out)).trans rfl)) (by omega)) hrp (by have:=HLP.out;omega));rw[<-HQB.out]at HS4;clear hb ho hrp)
      |(go_at_call 99;refine HS4.out.mono ?_;rintro e w5 ⟨rfl,hb⟩;have HB5:=za (HB4.out.step hb);clear hb))
    ·go_roundg (u.code.length-(j+1))
     case measure=>omega
     case rel=>exact⟨j+1,by omega,rfl,by go_num,za (HS.out HD.out),HB5⟩
    ·have HE:=za (HF.out HD.out)
     go_ret;exact⟨zn HE.out.symm,HB.out.step HB5.out⟩
  ·obtain rfl:j=u.code.length:=by omega
   have HA:Hid (zJ u= !(u.guards.any fun g=> !xF u.code.length g)):=za (by
    rw[HP.out,yL.2 (fun x hx=>by obtain⟨k,hk,rfl⟩:=List.getElem_of_mem hx;exact HQ.out k hk hk),xk,List.all_eq_not_any_not])
   obtain⟨k0,k1,k2,k3,k4,k5,k6⟩:=zr (zb HK.out HX1.out);have kn:=(zA _ _ 0 _ _ _ (zb HK.out HX2.out)).trans rfl;have HS4:=za (Rn 215 D4 #[.pointer (some ⟨w.heap.size+1,0,none⟩)] (fun g=> !xF u.code.length g) u.guards ga gc wr (fun x _ w' hb'=>SC x _ _ w' (zK hb' kn) (by omega)) (HM.out.rg.below (HB.out.step HK.out)) (by omega));generalize (u.guards.any fun g=> !xF u.code.length g)=qb at *;go_wp2_with (go_at_call 214;refine HS4.out.mono ?_;rintro e w5 ⟨rfl,hb⟩;have HB5:=za (HK.out.step hb);clear hb);go_ret;exact⟨zn HA.out.symm,HB.out.step HB5.out⟩
theorem F8(u:zg)(ca cc ga gc)(w:World)(hlc:u.code.length<=1000000)(hlg:u.guards.length<=1000000)(hh:vO u=false):
  Calls prog 174 #[vU u ca cc ga gc] w (zV (.bool (zJ u)) w):=by
 have HP:Hid (zJ u=false):=za (by rw[ZV,hh];rfl);have H:Hid ((yr u.code.length 1 600&&decide (u.guards.length<=40)&&yr u.slots 0 200&&yr u.frame 0 200)=false):=za hh;clear hh;have HB:=za ((zd w (oU u ca cc ga gc)).step (zd _ (.cells #[.int .i64 u.code.length] 3)));have HW1:=za (fun w=>jy u.code.length 1 600 w);have HW2:=za (fun w=>jy u.slots 0 200 w);have HW3:=za (fun w=>jy u.frame 0 200 w);have ng:(u.guards.length:Int)<=1000000:=by omega
 have nc:(u.code.length:Int)<=1000000:=by omega
 obtain⟨b1,hb1⟩:∃b,b=yr u.code.length 1 600:=⟨_,rfl⟩
 obtain⟨b2,hb2⟩:∃b,b=yr u.slots 0 200:=⟨_,rfl⟩
 obtain⟨b3,hb3⟩:∃b,b=yr u.frame 0 200:=⟨_,rfl⟩
 rw[<-hb1]at HW1 H;rw[<-hb2]at HW2 H;rw[<-hb3]at HW3 H;clear hb1 hb2 hb3;generalize zJ u=r at *
 cases b1 with
 |false=>
  go_enter func174,ntmps174;go_wp2_with (go_at_call 91;(with_reducible refine(HW1.out _).mono ?_);rintro e w' ⟨rfl,rfl⟩);go_ret
  exact⟨zn HP.out.symm,HB.out⟩
 |true=>
  by_cases h40:u.guards.length<=40
  ·have d40:decide ((40:Int)<(u.guards.length:Int))=false:=yn (by omega)
   rw[zP h40]at H;clear h40
   cases b2 with
   |false=>
    go_enter func174,ntmps174
    go_wp2_with (first
     |(go_at_call 91;(with_reducible refine(HW1.out _).mono ?_);rintro e w' ⟨rfl,rfl⟩)
     |(go_at_call 91;(with_reducible refine(HW2.out _).mono ?_);rintro e w' ⟨rfl,rfl⟩))
    go_ret
    exact⟨zn HP.out.symm,HB.out⟩
   |true=>
    cases b3 with
    |false=>
     go_enter func174,ntmps174
     go_wp2_with (first
      |(go_at_call 91;(with_reducible refine(HW1.out _).mono ?_);rintro e w' ⟨rfl,rfl⟩)
      |(go_at_call 91;(with_reducible refine(HW2.out _).mono ?_);rintro e w' ⟨rfl,rfl⟩)
      |(go_at_call 91;(with_reducible refine(HW3.out _).mono ?_);rintro e w' ⟨rfl,rfl⟩))
     go_ret
     exact⟨zn HP.out.symm,HB.out⟩
    |true=>exact absurd H.out (by simp)
  ·have d40:decide ((40:Int)<(u.guards.length:Int))=true:=zP (by omega)
   clear h40;go_enter func174,ntmps174;go_wp2_with (go_at_call 91;(with_reducible refine(HW1.out _).mono ?_);rintro e w' ⟨rfl,rfl⟩);go_ret;exact⟨zn HP.out.symm,HB.out⟩
theorem K5(u:zg)(ca cc ga gc)(w:World)(hm:jo w u ca cc ga gc)(hlc:u.code.length<=1000000)(hlg:u.guards.length<=1000000):
  Calls prog 174 #[vU u ca cc ga gc] w (zV (.bool (zJ u)) w):=by
 cases hh:vO u with
 |false=>exact F8 u ca cc ga gc w hlc hlg hh
 |true=>
  unfold vO at hh;simp only[yi,yB]at hh;exact Da u ca cc ga gc w hm hh.1.1.1 hh.1.1.2 hh.1.2 hh.2
attribute [local go_sem] Oper.semAt_some
def BT(w:World)(g:Nat)(L:List Bool):Prop:=∃cur,w.heap[g]?=some (.cells cur 4 (0,0))/\∀i (h:i<L.length),cur[i]?=some (.bool L[i])
theorem BT.at{w:World}{g:Nat}{L:List Bool}(h:BT w g L){i:Nat}(hi:i<L.length):w.cell? ⟨g,i,none⟩=some (.bool L[i]):=by
 obtain⟨cur,hh,hc⟩:=h;rw[zA _ _ _ _ _ _ hh];exact hc i hi
theorem BT.frozen{w:World}{g:Nat}{L:List Bool}(h:BT w g L)(o:Nat):w.frozen? ⟨g,o,none⟩=false:=by
 obtain⟨cur,hh,_⟩:=h;simp[World.frozen?,hh]
theorem BT.lt{w:World}{g:Nat}{L:List Bool}(h:BT w g L):g<w.heap.size:=by
 obtain⟨cur,hh,_⟩:=h;exact ze hh
theorem BT.keep{w w':World}{g:Nat}{L:List Bool}(h:BT w g L)(e:w'.heap[g]?=w.heap[g]?):BT w' g L:=by
 obtain⟨cur,hh,hc⟩:=h;exact⟨cur,by rw[e];exact hh,hc⟩
theorem BT.below{w w':World}{g:Nat}{L:List Bool}(h:BT w g L)(hb:Below w.heap.size w w'):BT w' g L:=h.keep (hb.block g h.lt)
theorem BT.set{w:World}{g:Nat}{L:List Bool}(h:BT w g L){i:Nat}(hi:i<L.length)(v:Bool):BT (w.setCell ⟨g,i,none⟩ (.bool v)) g (L.set i v):=by
 obtain⟨cur,hh,hc⟩:=h;have hsz:i<cur.size:=(qM.1 (hc i hi)).1;refine⟨_,yk _ _ _ _ _ _ hh,fun k hk=> ?_⟩;have hk':k<L.length:=by simpa using hk
 rw[Array.getElem?_setIfInBounds,List.getElem_set];by_cases e:i=k
 ·subst e
  simp[hsz]
 ·rw[zi e,zi e]
  exact hc k hk'
def OM(d:List Bool):Nat:=d.countP (!·)
theorem OL{d:List Bool}{k:Nat}(hk:k<d.length)(h:d[k]=false):OM (d.set k true)+1=OM d:=by
 unfold OM;rw[List.countP_set hk];have h3:0<d.countP (!·):=List.countP_pos_iff.2 ⟨_,yy hk,by rw[h];rfl⟩;simp only[h];simp;omega
theorem zF{W:World}{b:Nat}{c:Array Value}{T:TypeId}(o:Nat)(h:W.heap[b]?=some (.cells c T (0,0))):W.frozen? ⟨b,o,none⟩=false:=by simp[World.frozen?,h]
theorem QB.init{w:World}{g off cap:Nat}{x:Int}{l:List Int}(h:QB w g off cap (l++ [x])):QB w g off cap l:=by
 obtain⟨cur,hg,h1,h2,h3,hx⟩:=h;rw[yV,Y8]at h1;refine⟨cur,hg,by omega,h2,h3,fun i hi=> ?_⟩;have:=hx i (by simp;omega);rw[this,List.getElem_append_left hi]
theorem qK{W W':World}{row:Option Nat}(hg:W.grownBy W' row)(hr:∀r,row=some r->∃o:Obj,W.heap[r]?=some o/\o.isCells=false){k:Nat}{o:Obj}(h:W.heap[k]?=some o)(ho:o.isCells=true):W'.heap[k]?=W.heap[k]?:=by
 refine hg.block k (qM.1 h).1 (fun e=> ?_);obtain⟨o',h1,h2⟩:=hr k e.symm;rw[h]at h1;cases h1;rw[ho]at h2;cases h2
theorem yI.grown{S:Nat->Prop}{g:Nat}{W0 W W':World}{row:Option Nat}(h:yI (Oh S g) (Fp S g) W0 W)(hg:W.grownBy W' row)(hr:∀r,row=some r->∃o:Obj,W.heap[r]?=some o/\o.isCells=false):yI (Oh S g) (Fp S g) W0 W':=by
 obtain⟨v,hv⟩:=h.wf.cell;have hb:=block_lt_of_cell hv
 have hc:W.heap[g].isCells=true:=by
  unfold World.cell? at hv;rw[show(⟨g,0,none⟩:Addr).block=g from rfl,Array.getElem?_eq_getElem hb]at hv;cases ho:W.heap[g]<;>simp[ho,Obj.isCells]at hv ⊢
 have e:W'.cell? ⟨g,0,none⟩=W.cell? ⟨g,0,none⟩:=ZO (qK hg hr (Array.getElem?_eq_getElem hb) hc);have wf:Fp S g W':=⟨fun k hk=>xh (h.wf.own k hk) hg.size,⟨v,e.trans hv⟩,fun b off n c h'=>xh (h.wf.back b off n c (e.symm.trans h')) hg.size⟩
 refine⟨wf,hg.os.trans h.os,hg.tape.trans h.tape,hg.output.trans h.output,yP h.size hg.size,fun k o m hk ho=> ?_⟩;obtain⟨h1,h2⟩:=h.same k o m hk ho;exact⟨(qK hg hr h1 ho).trans h1,h2.1,h2.2.1,fun b off n c h'=>h2.2.2 b off n c (e.symm.trans h')⟩
theorem ZU{B:Nat}{w W W':World}{row:Option Nat}(h:Below B w W)(hg:W.grownBy W' row)(hB:B<=W.heap.size)(hr:∀r,row=some r->B<=r):Below B w W':=
 h.trans ⟨hg.os,hg.tape,hg.output,hg.size,fun k hk=>hg.block k (by omega) (fun e=>by have:=hr k e.symm;omega)⟩
theorem Dm{W0 W W':World}{row:Option Nat}(h:∀(k:Nat) (o:Obj),k<W0.heap.size->W0.heap[k]?=some o->o.isCells=false->W.heap[k]?=some o)(hg:W.grownBy W' row)(hr:∀r,row=some r->W0.heap.size<=r):
  ∀(k:Nat) (o:Obj),k<W0.heap.size->W0.heap[k]?=some o->o.isCells=false->W'.heap[k]?=some o:=by
 intro k o hk h1 h2;have h3:=h k o hk h1 h2;exact(hg.block k (qM.1 h3).1 (fun e=>by have:=hr k e.symm;omega)).trans h3
structure R4(u:zg)(ca cc ga gc)(w:World)(gO gX gB:Nat)(Ds:List Nat)(d:List Bool)(op:List Int)(g off cap:Nat)(wr:World):Prop where
 hb:Below w.heap.size w wr
 x1:wr.heap[w.heap.size]?=some (oU u ca cc ga gc)
 x2:wr.heap[w.heap.size+1]?=some (.cells #[.func (.func 200) #[] #[]] 86)
 x3:wr.heap[w.heap.size+1+1]?=some (.cells #[.slice none 0 0] 137)
 x4:wr.heap[gX]?=some (.cells #[.slice (some ⟨gO,0,none⟩) u.code.length u.code.length] 137)
 bi:BT wr gO d
 x5:wr.heap[gB]?=some (.cells #[.slice (some ⟨g,off,none⟩) op.length cap] 28)
 qb:QB wr g off cap op
 o1:w.heap.size+1+1<gO
 o2:gO<gX
 o3:gX<g
 o4:gX<gB
 ds:∀D,D∈Ds->w.heap.size<=D/\wr.heap[D]?=some (.deferred (some []))
 nd:Ds.Nodup
 len:d.length=u.code.length
 opn:∀x,x∈op->0<=x/\x<u.code.length
 cnt:OM d+op.length+Ds.length=u.code.length
structure Mf(u:zg)(w:World)(gO gX gB:Nat)(d:List Bool)(op:List Int)(W0:World)(d':List Bool)(op':List Int)(g off cap:Nat)(W:World):Prop where
 len:d'.length=u.code.length
 opn:∀x,x∈op'->0<=x/\x<u.code.length
 cnt:OM d'+op'.length=OM d+op.length
 bi:BT W gO d'
 x5:W.heap[gB]?=some (.cells #[.slice (some ⟨g,off,none⟩) op'.length cap] 28 (0,0))
 qb:QB W g off cap op'
 o3:gX<g
 hk:yI (Oh (fun k=>k=gO) gB) (Fp (fun k=>k=gO) gB) W0 W
 hb:Below w.heap.size w W
 low:∀(k:Nat) (o:Obj),k<W0.heap.size->W0.heap[k]?=some o->o.isCells=false->W.heap[k]?=some o
section
variable {u:zg} {w:World} {gO gX gB:Nat} {d:List Bool} {op:List Int} {W0:World} {d':List Bool} {op':List Int} {g off cap:Nat} {W W1 W':World}
theorem Mf.own{row:Option Nat}(h:Mf u w gO gX gB d op W0 d' op' g off cap W)(hw:w.heap.size<=W0.heap.size)(hg:W.grownBy W' row)(hr:∀r,row=some r->W0.heap.size<=r/\∃o:Obj,W.heap[r]?=some o/\o.isCells=false):
  Mf u w gO gX gB d op W0 d' op' g off cap W':=by
 have hc:=fun {k:Nat} {o:Obj}=>qK hg (fun r e=>(hr r e).2) (k:=k) (o:=o)
 obtain⟨cur,h1⟩:=h.qb.cells;refine⟨h.len,h.opn,h.cnt,?_,(hc h.x5 rfl).trans h.x5,h.qb.keep (hc h1 rfl),h.o3,h.hk.grown hg (fun r e=>(hr r e).2),ZU h.hb hg h.hb.size (fun r e=>yP hw (hr r e).1),Dm h.low hg (fun r e=>(hr r e).1)⟩;obtain⟨cur2,h2,_⟩:=h.bi;exact h.bi.keep (hc h2 rfl)
theorem Mf.same(HJ:Mf u w gO gX gB d op W0 d' op' g off cap W)(hb:Below W.heap.size W W1):
  KeepsOthers W W1/\yI (Oh (fun k=>k=gO) gB) (Fp (fun k=>k=gO) gB) W W1/\Mf u w gO gX gB d op W0 d' op' g off cap W1:=by
 have hk:=yI.of_below (Ka (fun k=>k=gO) gB) HJ.hk.wf hb;have ho:=(jK.below (S:=fun _=>False) hb (zI _)).others;exact⟨ho,hk,HJ.len,HJ.opn,HJ.cnt,HJ.bi.below hb,zb hb HJ.x5,HJ.qb.below hb,HJ.o3,HJ.hk.trans hk,HJ.hb.step hb,fun k o hk h1 h2=>ho.same k o (HJ.low k o hk h1 h2) h2⟩
theorem Mf.new{k:Nat}{W4:World}{g2 off2 cap2:Nat}(HJ:Mf u w gO gX gB d op W0 d' op' g off cap W)(hb:Below W.heap.size W W1)(hx:k<u.code.length)(hoff:d'.getD k true=false)(hgO:gO<gX)(hw0:w.heap.size<=gO)(hw1:gX<gB)
  (hq:QB W4 g2 off2 cap2 (op'++ [(k:Int)])) (hg:((W1.setCell ⟨gO,k,none⟩ (.bool true)).alloc (.cells #[.int .i64 k] 3)).grownBy W4 (some g)) (hg2:g2=g\/g2=((W1.setCell ⟨gO,k,none⟩ (.bool true)).alloc (.cells #[.int .i64 k] 3)).heap.size):
  KeepsOthers W (W4.setCell ⟨gB,0,none⟩ (.slice (some ⟨g2,off2,none⟩) (op'.length+1) cap2))/\yI (Oh (fun k=>k=gO) gB) (Fp (fun k=>k=gO) gB) W (W4.setCell ⟨gB,0,none⟩ (.slice (some ⟨g2,off2,none⟩) (op'.length+1) cap2)) /\
   Mf u w gO gX gB d op W0 (d'.set k true) (op'++ [(k:Int)]) g2 off2 cap2 (W4.setCell ⟨gB,0,none⟩ (.slice (some ⟨g2,off2,none⟩) (op'.length+1) cap2)):=by
 obtain⟨cur,hcg⟩:=HJ.qb.cells;have lg:=HJ.qb.lt;have lB:=ze HJ.x5;have lO:=HJ.bi.lt;have o3:=HJ.o3;have sz1:=hb.size;have hkl:k<d'.length:=by rw[HJ.len];exact hx
 have ngB:gB≠g:=fun e=>by
  subst e;have h:=hcg.symm.trans HJ.x5;simp at h
 have h1g:=zb hb hcg;have h1B:=zb hb HJ.x5;have e2:(W1.setCell ⟨gO,k,none⟩ (.bool true)).heap.size=W1.heap.size:=by simp
 have e3:((W1.setCell ⟨gO,k,none⟩ (.bool true)).alloc (.cells #[.int .i64 k] 3)).heap.size=W1.heap.size+1:=by simp
 have h3:∀j,j<W1.heap.size->j≠gO->((W1.setCell ⟨gO,k,none⟩ (.bool true)).alloc (.cells #[.int .i64 k] 3)).heap[j]?=W1.heap[j]?:=by
  intro j hj hn;rw[(zd _ _).block j (by rw[e2];exact hj),yF _ _ _ _ hn]
 have h3g:=(h3 g (by omega) (by omega)).trans h1g;have h3B:=(h3 gB (by omega) (by omega)).trans h1B;have h4B:=(hg.block gB (by omega) (fun e=>ngB (by cases e;rfl))).trans h3B;have sz4:=hg.size
 have T:jK W.heap.size (fun j=>j=gO\/j=gB\/j=g) W (W4.setCell ⟨gB,0,none⟩ (.slice (some ⟨g2,off2,none⟩) (op'.length+1) cap2)):=by
  refine(((((jK.below hb (zI _)).trans (jK.put ⟨gO,k,none⟩ _ (.inl (.inl rfl)))).trans (jK.below (zd _ _) (by rw[e2];exact sz1))).trans (jK.grown hg (.inl (.inr (.inr rfl))) h3g (by omega))).trans (jK.put ⟨gB,0,none⟩ _ (.inl (.inr (.inl rfl)))))
 have hx5:(W4.setCell ⟨gB,0,none⟩ (.slice (some ⟨g2,off2,none⟩) (op'.length+1) cap2)).heap[gB]?=some (.cells #[.slice (some ⟨g2,off2,none⟩) (op'++ [(k:Int)]).length cap2] 28 (0,0)):=by
  rw[yk _ _ _ _ _ _ h4B];simp
 have hc5:=(zA _ _ 0 _ _ _ hx5).trans rfl;have lq:=hq.lt
 have wf:Fp (fun j=>j=gO) gB (W4.setCell ⟨gB,0,none⟩ (.slice (some ⟨g2,off2,none⟩) (op'.length+1) cap2)):=
  ⟨fun j hj=>by rw[hj];simp;omega,⟨_,hc5⟩,fun b o n c h=>by rw[hc5]at h;cases h;simpa using lq⟩
 have c5W:W.cell? ⟨gB,0,none⟩=some (.slice (some ⟨g,off,none⟩) op'.length cap):=(zA _ _ 0 _ _ _ HJ.x5).trans rfl
 have hk:yI (Oh (fun k=>k=gO) gB) (Fp (fun k=>k=gO) gB) W (W4.setCell ⟨gB,0,none⟩ (.slice (some ⟨g2,off2,none⟩) (op'.length+1) cap2)):=by
  refine T.keepM (fun j hj m=> ?_) wf (fun j hj m=>⟨m.1,m.2.1,fun b o n c h=> ?_⟩)
  ·rcases hj with h|h|h
   ·exact m.1 h
   ·exact m.2.1 h
   ·exact m.2.2 _ _ _ _ c5W h
  ·rw[hc5]at h
   cases h;rcases hg2 with h|h
   ·rw[h]
    exact m.2.2 _ _ _ _ c5W
   ·omega
 refine⟨T.others,hk,by rw[List.length_set];exact HJ.len,?_,?_,?_,hx5,hq.keep (yF _ _ _ _ ?_),?_,HJ.hk.trans hk,?_,fun j o hj h1 h2=>T.others.same j o (HJ.low j o hj h1 h2) h2⟩
 ·intro x hx'
  rcases qr.1 hx' with h|h
  ·exact HJ.opn x h
  ·rw[qf.1 h];omega
 ·have h1:=OL hkl (by rw[zk hkl]at hoff;exact hoff)
  have h2:=HJ.cnt;rw[yV,Y8];omega
 ·have b1:=((HJ.bi.below hb).set (i:=k) hkl true).below (zd _ (.cells #[.int .i64 k] 3))
  exact(b1.keep (hg.block gO (by omega) (fun e=>by cases e;omega))).keep (yF _ _ _ _ (by show gO≠gB;omega))
 ·show g2≠gB
  rcases hg2 with h|h<;>omega
 ·rcases hg2 with h|h<;>omega
 ·have hb1:=((HJ.hb.step hb).setCell (p:=⟨gO,k,none⟩) hw0 (.bool true)).step (zd _ (.cells #[.int .i64 k] 3))
  refine(ZU hb1 hg hb1.size (fun r e=>by cases e;omega)).setCell (p:=⟨gB,0,none⟩) ?_ _;show w.heap.size<=gB;omega
end
theorem R4.next{u:zg}{ca cc ga gc}{w:World}{gO gX gB:Nat}{Ds:List Nat}{d:List Bool}{op:List Int}{x:Int}{g off cap:Nat}{wr W0 W:World}{d':List Bool}{op':List Int}{g' off' cap' D:Nat}(HI:R4 u ca cc ga gc w gO gX gB Ds d (op++ [x]) g off cap wr)
  (hle:wr.heap.size<=W0.heap.size) (hsm:∀k,k<wr.heap.size->k≠gB->W0.heap[k]?=wr.heap[k]?)
  (m1:Oh (fun k=>k=gO) gB W0 w.heap.size) (m2:Oh (fun k=>k=gO) gB W0 (w.heap.size+1)) (m3:Oh (fun k=>k=gO) gB W0 (w.heap.size+1+1)) (m4:Oh (fun k=>k=gO) gB W0 gX) (hJ:Mf u w gO gX gB d op W0 d' op' g' off' cap' W)
  (hD:W0.heap.size<=D) (hdef:W.heap[D]?=some (.deferred (some []))):
  R4 u ca cc ga gc w gO gX gB (D::Ds) d' op' g' off' cap' W:=by
 have hb:=fun {b:Nat} {c:Array Value} {T:TypeId} (h:wr.heap[b]?=some (.cells c T (0,0))) (hn:b≠gB) (m:Oh (fun k=>k=gO) gB W0 b)=>(hJ.hk.box ⟨(hsm b (ze h) hn).trans h,m⟩).1
 have o1:=HI.o1;have o2:=HI.o2;have o4:=HI.o4;have hs0:=HI.hb.size;have hcn:=HI.cnt;rw[yV,Y8]at hcn;have hc2:=hJ.cnt;refine⟨hJ.hb,hb HI.x1 (by omega) m1,hb HI.x2 (by omega) m2,hb HI.x3 (by omega) m3,hb HI.x4 (by omega) m4,hJ.bi,hJ.x5,hJ.qb,HI.o1,HI.o2,hJ.o3,HI.o4,?_,?_,hJ.len,hJ.opn,by rw[xv];omega⟩
 ·intro E hE
  rcases xK.1 hE with rfl|h
  ·exact⟨by omega,hdef⟩
  ·obtain⟨k1,k2⟩:=HI.ds E h
   have hl:=(qM.1 k2).1;exact⟨k1,hJ.low E _ (by omega) ((hsm E hl (fun e=>by rw[e]at k2;rw[HI.x5]at k2;cases k2)).trans k2) rfl⟩
 ·exact List.nodup_cons.2 ⟨fun h=>by have hl:=(qM.1 (HI.ds D h).2).1;omega,HI.nd⟩
end Go.Proofs.YtgalekifgnecjaaGreat
