/- The rows of the reference of layer 8: what an operation has -/
import Derived.Test.YtgalekifgnecjaaGreatB4
import Derived.Test.YtgalekifgnecjaaGreatV1
import Derived.Test.YtgalekifgnecjaaGreatC2
import Derived.Test.YtgalekifgnecjaaGreatC5
import Derived.Lib.QuietBelow
import Derived.Deep.RegionHeld3
import Derived.Deep.RegionHeldLaw
import Derived.StillTailTactics
import Derived.BigQuiet
import Derived.Deep.AppendLies
namespace Go.Proofs.YtgalekifgnecjaaGreat
open Tryz Go.RowKit
open Go.RowKit Go.Shelf
set_option maxHeartbeats 8000000
set_option maxRecDepth 100000
attribute [local go_sem] Oper.semAt_some
structure EW where
 h0:Int
 h1:Int
 h2:Int
 wr:Int
 r0:Int
 r1:Int
 rs:Bool
def Gs:EW:=⟨0,0,0,0,0,0,false⟩
def IU:List EW:=[Gs,
 ⟨1,3,0,1,0,0,false⟩,
 ⟨1,4,0,1,0,0,false⟩,
 ⟨1,0,0,1,0,0,false⟩,
 ⟨1,1,0,1,2,0,false⟩,
 ⟨1,0,0,1,0,0,false⟩,
 ⟨1,1,1,1,2,3,true⟩,
 ⟨1,1,1,1,2,3,true⟩,
 ⟨1,1,1,1,2,3,true⟩,
 ⟨1,1,1,1,2,3,true⟩,
 ⟨1,1,1,1,2,3,true⟩,
 ⟨1,1,0,1,2,0,false⟩,
 ⟨1,1,1,1,2,3,false⟩,
 ⟨1,1,1,1,2,3,false⟩,
 ⟨1,1,1,1,2,3,false⟩,
 ⟨1,1,0,1,2,0,false⟩,
 ⟨1,1,0,1,2,0,false⟩,
 ⟨1,2,5,1,2,0,true⟩,
 ⟨5,1,0,0,2,0,false⟩,
 ⟨6,1,0,0,2,0,false⟩,
 ⟨7,2,8,1,2,0,true⟩,
 ⟨1,9,4,1,0,0,true⟩,
 ⟨1,10,0,0,1,0,true⟩,
 ⟨2,0,0,0,1,0,true⟩,
 ⟨11,0,0,0,0,0,false⟩,
 ⟨1,11,0,0,1,0,false⟩,
 ⟨12,0,0,0,0,0,true⟩,
 ⟨0,0,0,0,0,0,true⟩,
 ⟨2,0,0,0,1,0,false⟩,
 ⟨1,0,0,0,1,0,false⟩,
 ⟨1,0,0,0,1,0,true⟩,
 ⟨0,0,0,0,0,0,false⟩,
 ⟨1,11,0,0,1,0,true⟩,
 ⟨1,13,0,1,0,0,false⟩,
 ⟨13,1,0,0,2,0,false⟩]
def Yv(op:Int):EW:=if jA op=true then IU.getD op.toNat Gs else Gs
abbrev cR(r:EW):Array Value:=#[.int .i64 r.h0,.int .i64 r.h1,.int .i64 r.h2,.int .i64 r.wr,.int .i64 r.r0,.int .i64 r.r1,.bool r.rs]
abbrev vR(r:EW):Value:=.agg (cR r)
theorem Ou(op:Int):(Yv op).wr=(zM op).wr/\(Yv op).r0=(zM op).r0/\(Yv op).r1=(zM op).r1/\(Yv op).rs=(zM op).rs:=by
 unfold Yv zM;by_cases h:jA op=true
 ·rw[zj h,zj h]
  have h2:1<=op/\op<=34:=by unfold jA at h;simpa using h
  have:∀k,k<35->(IU.getD k Gs).wr=(Zz.getD k jT).wr/\(IU.getD k Gs).r0=(Zz.getD k jT).r0/\(IU.getD k Gs).r1=(Zz.getD k jT).r1/\(IU.getD k Gs).rs=(Zz.getD k jT).rs:=by decide
  exact this _ (by omega)
 ·rw[zi h,zi h]
  exact⟨rfl,rfl,rfl,rfl⟩
theorem Mw:(prog.info? 169).map (·.size)=some 7:=by kernel_rfl
theorem yD{w:World}{a:Act}{r:EW}{b:Bool}(hd:a.defers= [])(h2:a.tmps.getD 2 undef= .pointer (some ⟨w.heap.size,0,none⟩))(h3:a.tmps.getD 3 undef= .bool b):
  bodyPost prog Tryz.f130 (zV (.tuple #[vR r,.bool b]) w) .ret a (w.alloc (.cells (cR r) 169)):=
 xJ (v:=.tuple #[vR r,.bool b]) (vi rfl _ _ w.heap.size 169 (cR r) (0,0) _ h2 (zo _ _ _ rfl) Tryz.underlying169 rfl Mw _ h3) hd ⟨rfl,zd _ _⟩
theorem RB(w:World):Calls prog 130 #[.int .i64 1] w (zV (.tuple #[vR ⟨1,3,0,1,0,0,false⟩,.bool true]) w):=by
 go_enter func130,ntmps130;go_wp2;exact yD rfl rfl rfl
theorem RA(w:World):Calls prog 130 #[.int .i64 2] w (zV (.tuple #[vR ⟨1,4,0,1,0,0,false⟩,.bool true]) w):=by
 go_enter func130,ntmps130;go_wp2;exact yD rfl rfl rfl
theorem Rz(w:World):Calls prog 130 #[.int .i64 3] w (zV (.tuple #[vR ⟨1,0,0,1,0,0,false⟩,.bool true]) w):=by
 go_enter func130,ntmps130;go_wp2;exact yD rfl rfl rfl
theorem Ry(w:World):Calls prog 130 #[.int .i64 4] w (zV (.tuple #[vR ⟨1,1,0,1,2,0,false⟩,.bool true]) w):=by
 go_enter func130,ntmps130;go_wp2;exact yD rfl rfl rfl
theorem Rx(w:World):Calls prog 130 #[.int .i64 5] w (zV (.tuple #[vR ⟨1,0,0,1,0,0,false⟩,.bool true]) w):=by
 go_enter func130,ntmps130;go_wp2;exact yD rfl rfl rfl
theorem Rw(w:World):Calls prog 130 #[.int .i64 6] w (zV (.tuple #[vR ⟨1,1,1,1,2,3,true⟩,.bool true]) w):=by
 go_enter func130,ntmps130;go_wp2;exact yD rfl rfl rfl
theorem Rv(w:World):Calls prog 130 #[.int .i64 7] w (zV (.tuple #[vR ⟨1,1,1,1,2,3,true⟩,.bool true]) w):=by
 go_enter func130,ntmps130;go_wp2;exact yD rfl rfl rfl
theorem Ru(w:World):Calls prog 130 #[.int .i64 8] w (zV (.tuple #[vR ⟨1,1,1,1,2,3,true⟩,.bool true]) w):=by
 go_enter func130,ntmps130;go_wp2;exact yD rfl rfl rfl
theorem Rt(w:World):Calls prog 130 #[.int .i64 9] w (zV (.tuple #[vR ⟨1,1,1,1,2,3,true⟩,.bool true]) w):=by
 go_enter func130,ntmps130;go_wp2;exact yD rfl rfl rfl
theorem Ps(w:World):Calls prog 130 #[.int .i64 10] w (zV (.tuple #[vR ⟨1,1,1,1,2,3,true⟩,.bool true]) w):=by
 go_enter func130,ntmps130;go_wp2;exact yD rfl rfl rfl
theorem Pr(w:World):Calls prog 130 #[.int .i64 11] w (zV (.tuple #[vR ⟨1,1,0,1,2,0,false⟩,.bool true]) w):=by
 go_enter func130,ntmps130;go_wp2;exact yD rfl rfl rfl
theorem Pq(w:World):Calls prog 130 #[.int .i64 12] w (zV (.tuple #[vR ⟨1,1,1,1,2,3,false⟩,.bool true]) w):=by
 go_enter func130,ntmps130;go_wp2;exact yD rfl rfl rfl
theorem Pp(w:World):Calls prog 130 #[.int .i64 13] w (zV (.tuple #[vR ⟨1,1,1,1,2,3,false⟩,.bool true]) w):=by
 go_enter func130,ntmps130;go_wp2;exact yD rfl rfl rfl
theorem Po(w:World):Calls prog 130 #[.int .i64 14] w (zV (.tuple #[vR ⟨1,1,1,1,2,3,false⟩,.bool true]) w):=by
 go_enter func130,ntmps130;go_wp2;exact yD rfl rfl rfl
theorem Pn(w:World):Calls prog 130 #[.int .i64 15] w (zV (.tuple #[vR ⟨1,1,0,1,2,0,false⟩,.bool true]) w):=by
 go_enter func130,ntmps130;go_wp2;exact yD rfl rfl rfl
theorem Pm(w:World):Calls prog 130 #[.int .i64 16] w (zV (.tuple #[vR ⟨1,1,0,1,2,0,false⟩,.bool true]) w):=by
 go_enter func130,ntmps130;go_wp2;exact yD rfl rfl rfl
theorem Pk(w:World):Calls prog 130 #[.int .i64 17] w (zV (.tuple #[vR ⟨1,2,5,1,2,0,true⟩,.bool true]) w):=by
 go_enter func130,ntmps130;go_wp2;exact yD rfl rfl rfl
theorem Pj(w:World):Calls prog 130 #[.int .i64 18] w (zV (.tuple #[vR ⟨5,1,0,0,2,0,false⟩,.bool true]) w):=by
 go_enter func130,ntmps130;go_wp2;exact yD rfl rfl rfl
theorem Pi(w:World):Calls prog 130 #[.int .i64 19] w (zV (.tuple #[vR ⟨6,1,0,0,2,0,false⟩,.bool true]) w):=by
 go_enter func130,ntmps130;go_wp2;exact yD rfl rfl rfl
theorem Ph(w:World):Calls prog 130 #[.int .i64 20] w (zV (.tuple #[vR ⟨7,2,8,1,2,0,true⟩,.bool true]) w):=by
 go_enter func130,ntmps130;go_wp2;exact yD rfl rfl rfl
theorem Pg(w:World):Calls prog 130 #[.int .i64 21] w (zV (.tuple #[vR ⟨1,9,4,1,0,0,true⟩,.bool true]) w):=by
 go_enter func130,ntmps130;go_wp2;exact yD rfl rfl rfl
theorem Pf(w:World):Calls prog 130 #[.int .i64 22] w (zV (.tuple #[vR ⟨1,10,0,0,1,0,true⟩,.bool true]) w):=by
 go_enter func130,ntmps130;go_wp2;exact yD rfl rfl rfl
theorem Pe(w:World):Calls prog 130 #[.int .i64 23] w (zV (.tuple #[vR ⟨2,0,0,0,1,0,true⟩,.bool true]) w):=by
 go_enter func130,ntmps130;go_wp2;exact yD rfl rfl rfl
theorem Pd(w:World):Calls prog 130 #[.int .i64 24] w (zV (.tuple #[vR ⟨11,0,0,0,0,0,false⟩,.bool true]) w):=by
 go_enter func130,ntmps130;go_wp2;exact yD rfl rfl rfl
theorem Pc(w:World):Calls prog 130 #[.int .i64 25] w (zV (.tuple #[vR ⟨1,11,0,0,1,0,false⟩,.bool true]) w):=by
 go_enter func130,ntmps130;go_wp2;exact yD rfl rfl rfl
theorem Pb(w:World):Calls prog 130 #[.int .i64 26] w (zV (.tuple #[vR ⟨12,0,0,0,0,0,true⟩,.bool true]) w):=by
 go_enter func130,ntmps130;go_wp2;exact yD rfl rfl rfl
theorem Pa(w:World):Calls prog 130 #[.int .i64 27] w (zV (.tuple #[vR ⟨0,0,0,0,0,0,true⟩,.bool true]) w):=by
 go_enter func130,ntmps130;go_wp2;exact yD rfl rfl rfl
theorem N_(w:World):Calls prog 130 #[.int .i64 28] w (zV (.tuple #[vR ⟨2,0,0,0,1,0,false⟩,.bool true]) w):=by
 go_enter func130,ntmps130;go_wp2;exact yD rfl rfl rfl
theorem N9(w:World):Calls prog 130 #[.int .i64 29] w (zV (.tuple #[vR ⟨1,0,0,0,1,0,false⟩,.bool true]) w):=by
 go_enter func130,ntmps130;go_wp2;exact yD rfl rfl rfl
theorem N8(w:World):Calls prog 130 #[.int .i64 30] w (zV (.tuple #[vR ⟨1,0,0,0,1,0,true⟩,.bool true]) w):=by
 go_enter func130,ntmps130;go_wp2;exact yD rfl rfl rfl
theorem N7(w:World):Calls prog 130 #[.int .i64 31] w (zV (.tuple #[vR ⟨0,0,0,0,0,0,false⟩,.bool true]) w):=by
 go_enter func130,ntmps130;go_wp2;exact yD rfl rfl rfl
theorem N6(w:World):Calls prog 130 #[.int .i64 32] w (zV (.tuple #[vR ⟨1,11,0,0,1,0,true⟩,.bool true]) w):=by
 go_enter func130,ntmps130;go_wp2;exact yD rfl rfl rfl
theorem N5(w:World):Calls prog 130 #[.int .i64 33] w (zV (.tuple #[vR ⟨1,13,0,1,0,0,false⟩,.bool true]) w):=by
 go_enter func130,ntmps130;go_wp2;exact yD rfl rfl rfl
theorem N4(w:World):Calls prog 130 #[.int .i64 34] w (zV (.tuple #[vR ⟨13,1,0,0,2,0,false⟩,.bool true]) w):=by
 go_enter func130,ntmps130;go_wp2;exact yD rfl rfl rfl
theorem N3(op:Int)(h:jA op=false)(w:World):Calls prog 130 #[.int .i64 op] w (zV (.tuple #[vR Gs,.bool false]) w):=by
 have hn:op<1\/34<op:=by
  unfold jA at h;simp at h;omega
 have e1:(op==1)=false:=by rw[yY];omega
 have e2:(op==2)=false:=by rw[yY];omega
 have e3:(op==3)=false:=by rw[yY];omega
 have e4:(op==4)=false:=by rw[yY];omega
 have e5:(op==5)=false:=by rw[yY];omega
 have e6:(op==6)=false:=by rw[yY];omega
 have e7:(op==7)=false:=by rw[yY];omega
 have e8:(op==8)=false:=by rw[yY];omega
 have e9:(op==9)=false:=by rw[yY];omega
 have e10:(op==10)=false:=by rw[yY];omega
 have e11:(op==11)=false:=by rw[yY];omega
 have e12:(op==12)=false:=by rw[yY];omega
 have e13:(op==13)=false:=by rw[yY];omega
 have e14:(op==14)=false:=by rw[yY];omega
 have e15:(op==15)=false:=by rw[yY];omega
 have e16:(op==16)=false:=by rw[yY];omega
 have e17:(op==17)=false:=by rw[yY];omega
 have e18:(op==18)=false:=by rw[yY];omega
 have e19:(op==19)=false:=by rw[yY];omega
 have e20:(op==20)=false:=by rw[yY];omega
 have e21:(op==21)=false:=by rw[yY];omega
 have e22:(op==22)=false:=by rw[yY];omega
 have e23:(op==23)=false:=by rw[yY];omega
 have e24:(op==24)=false:=by rw[yY];omega
 have e25:(op==25)=false:=by rw[yY];omega
 have e26:(op==26)=false:=by rw[yY];omega
 have e27:(op==27)=false:=by rw[yY];omega
 have e28:(op==28)=false:=by rw[yY];omega
 have e29:(op==29)=false:=by rw[yY];omega
 have e30:(op==30)=false:=by rw[yY];omega
 have e31:(op==31)=false:=by rw[yY];omega
 have e32:(op==32)=false:=by rw[yY];omega
 have e33:(op==33)=false:=by rw[yY];omega
 have e34:(op==34)=false:=by rw[yY];omega
 clear hn h;go_enter func130,ntmps130;go_wp2;exact yD rfl rfl rfl
theorem Qm(op:Int)(w:World):Calls prog 130 #[.int .i64 op] w (zV (.tuple #[vR (Yv op),.bool (jA op)]) w):=by
 cases ho:jA op with
 |false=>
  have hf:Yv op=Gs:=by unfold Yv;rw[ho];rfl
  rw[hf]
  exact N3 op ho w
 |true=>
  have hf:Yv op=IU.getD op.toNat Gs:=by unfold Yv;rw[ho];rfl
  rw[hf];have h:1<=op/\op<=34:=by unfold jA at ho;simpa using ho
  clear hf ho;have hc:op=1\/op=2\/op=3\/op=4\/op=5\/op=6\/op=7\/op=8\/op=9\/op=10\/op=11\/op=12\/op=13\/op=14\/op=15\/op=16\/op=17\/op=18\/op=19\/op=20\/op=21\/op=22\/op=23\/op=24\/op=25\/op=26\/op=27\/op=28\/op=29\/op=30\/op=31\/op=32\/op=33\/op=34:=by omega
  rcases hc with rfl|rfl|rfl|rfl|rfl|rfl|rfl|rfl|rfl|rfl|rfl|rfl|rfl|rfl|rfl|rfl|rfl|rfl|rfl|rfl|rfl|rfl|rfl|rfl|rfl|rfl|rfl|rfl|rfl|rfl|rfl|rfl|rfl|rfl
  ·exact RB w
  ·exact RA w
  ·exact Rz w
  ·exact Ry w
  ·exact Rx w
  ·exact Rw w
  ·exact Rv w
  ·exact Ru w
  ·exact Rt w
  ·exact Ps w
  ·exact Pr w
  ·exact Pq w
  ·exact Pp w
  ·exact Po w
  ·exact Pn w
  ·exact Pm w
  ·exact Pk w
  ·exact Pj w
  ·exact Pi w
  ·exact Ph w
  ·exact Pg w
  ·exact Pf w
  ·exact Pe w
  ·exact Pd w
  ·exact Pc w
  ·exact Pb w
  ·exact Pa w
  ·exact N_ w
  ·exact N9 w
  ·exact N8 w
  ·exact N7 w
  ·exact N6 w
  ·exact N5 w
  ·exact N4 w
attribute [local irreducible] wpStill
theorem Jy(n lo hi:Int)(w:World):Calls prog 129 #[.int .i64 n,.int .i64 lo,.int .i64 hi] w (Q5 (.bool (yr n lo hi)) w):=by
 have H:Hid (yr n lo hi=(decide (lo<=n)&&decide (n<=hi))):=za rfl;generalize yr n lo hi=r at *;by_cases h1:lo<=n
 ·by_cases h2:n<=hi
  ·go_enter func129,ntmps129
   go_wp2;go_ret;exact⟨zn (by rw[H.out];simp[h1,h2]),rfl⟩
  ·have d2:decide (n<=hi)=false:=yn h2
   go_enter func129,ntmps129;go_wp2;go_ret;exact⟨zn (by rw[H.out];simp[h1,h2]),rfl⟩
 ·have d1:decide (lo<=n)=false:=yn h1
  go_enter func129,ntmps129;go_wp2;go_ret;exact⟨zn (by rw[H.out,d1];rfl),rfl⟩
theorem UT(n lo hi:Int)(w:World):Calls prog 56 #[.int .i64 n,.int .i64 lo,.int .i64 hi] w (Q5 (.bool (yr n lo hi)) w):=by
 have H:Hid (yr n lo hi=(decide (lo<=n)&&decide (n<=hi))):=za rfl;generalize yr n lo hi=r at *;by_cases h1:lo<=n
 ·by_cases h2:n<=hi
  ·go_enter func56,ntmps56
   go_wp2;go_ret;exact⟨zn (by rw[H.out];simp[h1,h2]),rfl⟩
  ·have d2:decide (n<=hi)=false:=yn h2
   go_enter func56,ntmps56;go_wp2;go_ret;exact⟨zn (by rw[H.out];simp[h1,h2]),rfl⟩
 ·have d1:decide (lo<=n)=false:=yn h1
  go_enter func56,ntmps56;go_wp2;go_ret;exact⟨zn (by rw[H.out,d1];rfl),rfl⟩
theorem Av(i:zm)(w:World):Calls prog 117 #[vI i] w (zV (.bool (qq i)) w):=by
 have H:Hid (qq i=(i.op==24||i.op==26||i.op==27||i.op==28)):=za rfl;generalize qq i=r at *
 cases h1:(i.op==24)with
 |true=>
  go_enter func117,ntmps117;go_wp2;go_ret
  exact⟨zn (by rw[H.out,h1];rfl),zd _ _⟩
 |false=>
  cases h2:(i.op==26)with
  |true=>
   go_enter func117,ntmps117;go_wp2;go_ret
   exact⟨zn (by rw[H.out,h1,h2];rfl),zd _ _⟩
  |false=>
   cases h3:(i.op==27)with
   |true=>
    go_enter func117,ntmps117;go_wp2;go_ret
    exact⟨zn (by rw[H.out,h1,h2,h3];rfl),zd _ _⟩
   |false=>
    go_enter func117,ntmps117;go_wp2;go_ret;exact⟨zn (by rw[H.out,h1,h2,h3];rfl),zd _ _⟩
def OY(i:zm):Value:=.tuple #[.int .i64 ((zQ i).getD 0),.bool (zQ i).isSome]
theorem Ai(i:zm)(w:World):Calls prog 131 #[vI i] w (zV (OY i) w):=by
 have H:Hid (OY i= .tuple #[.int .i64 ((if i.op==24 then some i.a else if i.op==25||i.op==32 then some i.b else none).getD 0),.bool (if i.op==24 then some i.a else if i.op==25||i.op==32 then some i.b else none).isSome]):=za rfl;generalize OY i=r at *
 cases h1:(i.op==24)with
 |true=>
  rw[h1]at H;go_enter func131,ntmps131;go_wp2
  go_ret2
  exact⟨by rw[H.out];rfl,zd _ _⟩
 |false=>
  rw[h1]at H
  cases h2:(i.op==25)with
  |true=>
   rw[h2]at H;go_enter func131,ntmps131;go_wp2
   go_ret2
   exact⟨by rw[H.out];rfl,zd _ _⟩
  |false=>
   rw[h2]at H
   cases h3:(i.op==32)with
   |true=>
    rw[h3]at H;go_enter func131,ntmps131;go_wp2
    go_ret2
    exact⟨by rw[H.out];rfl,zd _ _⟩
   |false=>
    rw[h3]at H;go_enter func131,ntmps131;go_wp2
    go_ret2
    exact⟨by rw[H.out];rfl,zd _ _⟩
theorem Aa(i:zm)(n:Int)(h:n=1\/n=2\/n=3)(w:World):Calls prog 146 #[vI i,.int .i64 n] w (zV (.int .i64 (vP i (n-1).toNat)) w):=by
 rcases h with rfl|rfl|rfl
 ·go_enter func146,ntmps146
  go_wp2;go_ret;exact⟨rfl,zd _ _⟩
 ·go_enter func146,ntmps146
  go_wp2;go_ret;exact⟨rfl,zd _ _⟩
 ·go_enter func146,ntmps146
  go_wp2;go_ret;exact⟨rfl,zd _ _⟩
theorem A8(i:zm):yZ i=(Yv i.op).rs:=by
 unfold yZ Yv;by_cases h:jA i.op=true
 ·rw[zj h]
  have h2:1<=i.op/\i.op<=34:=by unfold jA at h;simpa using h
  have:∀k:Nat,k<35->XT.contains (k:Int)=(IU.getD k Gs).rs:=by decide
  have e:=this i.op.toNat (by omega)
  rwa [show((i.op.toNat:Nat):Int)=i.op by omega]at e
 ·rw[zi h]
  cases hc:XT.contains i.op with
  |false=>rfl
  |true=>
   exact absurd ((by decide:∀op∈XT,jA op=true) _ (xn.1 hc)) h
theorem JJ{W:World}{b:Nat}{r:EW}(h:W.heap[b]?=some (.cells (cR r) 169 (0,0))):W.cell? ⟨b,3,none⟩=some (.int .i64 r.wr)/\W.cell? ⟨b,4,none⟩=some (.int .i64 r.r0)/\W.cell? ⟨b,5,none⟩=some (.int .i64 r.r1)/\W.cell? ⟨b,6,none⟩=some (.bool r.rs):=
 ⟨(zA _ _ _ _ _ _ h).trans rfl,(zA _ _ _ _ _ _ h).trans rfl,(zA _ _ _ _ _ _ h).trans rfl,(zA _ _ _ _ _ _ h).trans rfl⟩
theorem J2(i:zm)(w:World):Calls prog 122 #[vI i] w (zV (.bool (yZ i)) w):=by
 have HF:=za (Qm i.op);rw[A8];generalize Yv i.op=r at *;have HX:=za (zo w (.cells #[.int .i64 i.op,.int .i64 i.a,.int .i64 i.b,.int .i64 i.c] 85) _ rfl);have HB:=za (zd w (.cells #[.int .i64 i.op,.int .i64 i.a,.int .i64 i.b,.int .i64 i.c] 85));go_enter func122,ntmps122;go_wp2_with (go_at_call 130;(with_reducible refine(HF.out _).mono ?_);rintro e w1 ⟨rfl,hb⟩;replace HB:=za (HB.out.step (hb.step (zd w1 (.cells (cR r) 169))));clear hb);go_ret;exact⟨rfl,HB.out⟩
theorem ZY(i:zm)(w:World):Calls prog 82 #[vI i] w (zV (.int .i64 (zc i)) w):=by
 have HF:=za (Qm i.op);have hwr:=(Ou i.op).1;have H:Hid (zc i=if (Yv i.op).wr=0 then -1 else vP i ((Yv i.op).wr-1).toNat):=za (by unfold zc;rw[hwr]);have hs:(Yv i.op).wr=0\/(Yv i.op).wr=1:=by rw[hwr];exact(ZB i.op).2.2
 have HP:=za (Aa i 1 (.inl rfl));clear hwr;generalize zc i=q at *;generalize Yv i.op=r at *;obtain⟨h0,h1,h2,wr,r0,r1,rs⟩:=r;dsimp only at hs H;have HX:=za (zo w (.cells #[.int .i64 i.op,.int .i64 i.a,.int .i64 i.b,.int .i64 i.c] 85) _ rfl);have HB:=za (zd w (.cells #[.int .i64 i.op,.int .i64 i.a,.int .i64 i.b,.int .i64 i.c] 85));rcases hs with rfl|rfl
 ·go_enter func82,ntmps82
  go_wp2_with (go_at_call 130;(with_reducible refine(HF.out _).mono ?_);rintro e w1 ⟨rfl,hb⟩;replace HB:=za (HB.out.step (hb.step (zd w1 (.cells (cR ⟨h0,h1,h2,0,r0,r1,rs⟩) 169))));clear hb);go_ret;exact⟨by rw[H.out];rfl,HB.out⟩
 ·go_enter func82,ntmps82
  go_wp2_with (first
   |(go_at_call 130;(with_reducible refine(HF.out _).mono ?_);rintro e w1 ⟨rfl,hb⟩;have HX1:=za (zb (hb.step (zd w1 (.cells (cR ⟨h0,h1,h2,1,r0,r1,rs⟩) 169))) HX.out);obtain⟨k0,k1,k2,k3⟩:=zX HX1.out;replace HB:=za (HB.out.step (hb.step (zd w1 (.cells (cR ⟨h0,h1,h2,1,r0,r1,rs⟩) 169))));clear hb)
   |(go_at_call 146;(with_reducible refine(HP.out _).mono ?_);rintro e w2 ⟨rfl,hb⟩;replace HB:=za (HB.out.step hb);clear hb))
  go_ret;exact⟨by rw[H.out];rfl,HB.out⟩
theorem Me(l:List Int)(n:Int):yG l [n]=if l.contains n=true then l else l++ [n]:=rfl
theorem Oa(base:Nat)(v:Value)(l:List Int)(n:Int)(w:World)(ho:zu w base v l)(hlen:l.length+1<=1000000)(hb:base<=w.heap.size):Calls prog 119 #[v,.int .i64 n] w (Og v base (yG l [n]) w):=by
 have HO:=za ho;obtain⟨a,c,rfl,hr⟩:=ho.rd;have HR:=za hr;have HAL:=za (Me l n);clear ho hr;go_enter func119,ntmps119;go_wp2;go_loopg [5] l.length (fun gh s5 wr=>∃j:Nat,j<=l.length/\gh=l.length-j/\s5= .int .i64 j/\Hid (wr=w/\n∉l.take j));case atStart=>exact⟨0,zE _,rfl,rfl,za ⟨rfl,by simp⟩⟩
 case round=>
  obtain⟨j,hj,rfl,rfl,HK⟩:=hrel;obtain⟨rfl,hni⟩:=HK.out;clear HK;by_cases hlj:j<l.length
  ·obtain⟨b,off,ha,hlt,h0⟩:=HR.out j hlj
   subst ha;have nj:(j:Int)<(l.length:Int):=by omega
   have HT:Hid (l.take (j+1)=l.take j++ [l[j]]):=za (zO hlj);have HMM:Hid (l[j]∈l):=za (yy hlj);have HNI:=za hni;clear hni;generalize l[j]=x at *
   cases hxn:(x==n)with
   |true=>
    have e:x=n:=by simpa using hxn
    have HC:Hid (l.contains n=true):=za (xn.2 (by rw[<-e];exact HMM.out));rw[zj HC.out]at HAL;clear e;go_wp2;go_ret
    exact⟨_,rfl,by rw[HAL.out];exact HO.out,⟨rfl,rfl,rfl,zI _,fun _ _ _=>rfl⟩,.inl rfl⟩
   |false=>
    have HN2:Hid (n∉l.take (j+1)):=za (by
     rw[HT.out,qr,qf];rintro(h|h)
     ·exact HNI.out h
     ·rw[h]at hxn;simp at hxn)
    go_wp2;go_roundg (l.length-(j+1));case measure=>omega
    case rel=>exact⟨j+1,by omega,rfl,by go_num,za ⟨rfl,HN2.out⟩⟩
  ·obtain rfl:j=l.length:=by omega
   have nj:¬(l.length:Int)<(l.length:Int):=by omega
   rw[xL]at hni;have HC:Hid (¬l.contains n=true):=za (fun h=>hni (xn.1 h));rw[zi HC.out]at HAL;clear hni
   go_wp2_with (first
    |(at_builtin;refine zv _ rfl _ _ rfl base _ _ [n] rfl (zu.later HO.out (zd _ _)) (some ⟨_,0,none⟩) 1 rfl (yJ _ _ _) (by simp;omega) (by simp;omega) ?_;intro v' w5 hown' hgrow hat;have HOW:=za hown';have HGR:=za hgrow;have HAT:=za hat;clear hown' hgrow hat))
   go_ret;refine⟨_,rfl,by rw[HAL.out];exact HOW.out,Qa (World.grownBy_alloc _ _ _) HGR.out (.inl rfl),?_⟩;rcases HAT.out with h|h
   ·exact .inl h
   ·exact .inr ⟨_,h,by simp⟩
theorem Ia(u:zg)(n:Int)(ca cc ga gc)(w:World)(hg:IG w ga u.guards)(hlg:u.guards.length<=1000000):
  Calls prog 121 #[vU u ca cc ga gc,.int .i64 n] w (zV (.int .i64 (zD u n)) w):=by
 have HG:=za hg;clear hg;have HX:=za (zo w (oU u ca cc ga gc) _ rfl);have HB:=za (zd w (oU u ca cc ga gc));have HGL:Hid (zD u n=Ya (yH n) u.guards):=za rfl;generalize zD u n=q at *;obtain⟨k0,k1,k2,k3,k4,k5,k6⟩:=zr HX.out;go_enter func121,ntmps121;go_wp2;go_loopg [5] u.guards.length (fun gh s5 wr=>∃j:Nat,j<=u.guards.length/\gh=u.guards.length-j/\s5= .int .i64 j/\Hid (wr=w.alloc (oU u ca cc ga gc)/\∀x∈u.guards.take j,yH n x=false));case atStart=>exact⟨0,zE _,rfl,rfl,za ⟨rfl,by simp⟩⟩
 case round=>
  obtain⟨j,hj,rfl,rfl,HK⟩:=hrel;obtain⟨rfl,hni⟩:=HK.out;have HNI:=za hni;clear HK hni;by_cases hlj:j<u.guards.length
  ·obtain⟨b,off,ha,hlt,h0,h1,h2⟩:=(HG.out.below HB.out) j hlj
   subst ha;have nj:(j:Int)<(u.guards.length:Int):=by omega
   have HT:Hid (u.guards.take (j+1)=u.guards.take j++ [u.guards[j]]):=za (zO hlj);have HQ:Hid (yH n u.guards[j]=true->q=(j:Int)):=za (fun h=>by rw[HGL.out];exact YZ hlj h HNI.out);have HGI:Hid (yH n u.guards[j]=(decide (u.guards[j].frm<=n)&&decide (n<u.guards[j].til))):=za rfl
   have HNX:Hid (yH n u.guards[j]=false->∀x∈u.guards.take (j+1),yH n x=false):=za (fun h x hx=>by
    rw[HT.out,qr,qf]at hx;rcases hx with hx|hx
    ·exact HNI.out x hx
    ·rw[hx];exact h)
   generalize yH n u.guards[j]=bg at *;generalize u.guards[j].frm=gf at *;generalize u.guards[j].til=gt at *;by_cases c1:gf<=n
   ·rw[zP c1,xk]at HGI
    by_cases c2:n<gt
    ·rw[zP c2]at HGI
     go_wp2;go_ret;exact⟨by rw[HQ.out HGI.out];rfl,HB.out⟩
    ·rw[yn c2]at HGI
     have d2:decide (n<gt)=false:=yn c2;go_wp2;go_roundg (u.guards.length-(j+1));case measure=>omega
     case rel=>exact⟨j+1,by omega,rfl,by go_num,za ⟨rfl,HNX.out HGI.out⟩⟩
   ·rw[yn c1,Bool.false_and]at HGI
    have d1:decide (gf<=n)=false:=yn c1;go_wp2;go_roundg (u.guards.length-(j+1));case measure=>omega
    case rel=>exact⟨j+1,by omega,rfl,by go_num,za ⟨rfl,HNX.out HGI.out⟩⟩
  ·obtain rfl:j=u.guards.length:=by omega
   have nj:¬(u.guards.length:Int)<(u.guards.length:Int):=by omega
   have hq:q= -1:=by
    rw[HGL.out];have h:=HNI.out;rw[xL]at h;exact Y0 h
   clear HGL;go_wp2;go_ret;exact⟨rfl,HB.out⟩
theorem zT{ops:Array Oper}{o:Oper}{a:Act}{K:Act->World->Prop}{Q:Exit->Act->World->Prop}{E:Prop}(w:World)(hgd:o.guard=none)(s x:Operand)
  (ho:o.op= .call { callee:=.builtin .append,args:=#[s,x],argTypes:=#[28,28] }) (base:Nat) (v:Value) (l0 l:List Int) (hsv:a.eval s=v) (hown:zu w base v l0) (A:Option Addr) (c:Nat) (ln:Nat) (hln:l.length=ln) (hx:a.eval x= .slice A ln c) (hl:yC w A l) (hs:l0.length+l.length<=1000000) (hb:base<=w.heap.size)
  (h:∀v' w',zu w' base v' (l0++l)->w.grownBy w' v.ownBlock->(v'.ownBlock=v.ownBlock\/v'.ownBlock=some w.heap.size)->K (a.put o.dst v') w'):
  if Region.wanted o (yielded ops a.tmps)=true then Oper.wp prog o a w K Q else E:=by
 subst hln;have hw:Region.wanted o (yielded ops a.tmps)=true:=by simp[Region.wanted,hgd]
 rw[zj hw];obtain⟨v',w',hrun,h2,h3,h4⟩:=Xx w base o.type v l0 l hown A c hl hs hb;unfold Oper.wp execOp;simp only[ho,resolve,invoke,builtin,Sem.run_bind,Sem.run_pure,Result.andThen_ok,List.map_toArray,j9,List.map_nil,hsv,hx,hrun];exact h v' w' h2 h3 h4
theorem yC.headP{w:World}{a:Option Addr}{ks:List Int}(h:yC w a ks)(i:Nat):yC w a (ks.take i):=by
 intro j hj
 have hj':j<ks.length:=by
  rw[xm]at hj;omega
 obtain⟨b,off,ha,hlt,hc⟩:=h j hj';exact⟨b,off,ha,hlt,by rw[List.getElem_take];exact hc⟩
theorem yC.tailP{w:World}{b off:Nat}{ks:List Int}(h:yC w (some ⟨b,off,none⟩) ks)(i:Nat):yC w (some ⟨b,off+i,none⟩) (ks.drop i):=by
 intro j hj
 have hj':i+j<ks.length:=by
  rw[jH]at hj;omega
 obtain⟨b',off',ha,hlt,hc⟩:=h (i+j) hj';simp only[Option.some.injEq,Addr.mk.injEq,and_true]at ha;obtain⟨rfl,rfl⟩:=ha;exact⟨b,off+i,rfl,hlt,by rw[List.getElem_drop,Nat.add_assoc];exact hc⟩
theorem yC.emptyP(w:World)(a:Option Addr)(ks:List Int)(h:ks.length=0):yC w a ks:=fun i hi=>by omega
structure Vj(w:World)(v:Value)(l:List Int):Prop where
 ex:∃a c,v= .slice a l.length c/\yC w a l/\l.length<=c/\(a=none/\c=0\/∃b off,a=some ⟨b,off,none⟩)
theorem Vj.below{w w':World}{v:Value}{l:List Int}(h:Vj w v l)(hb:Below w.heap.size w w'):Vj w' v l:=by
 obtain⟨a,c,e,hr,hl,hn⟩:=h.ex;exact⟨a,c,e,hr.below hb,hl,hn⟩
theorem Vj.nilP(w:World):Vj w (.slice none 0 0) []:=⟨none,0,rfl,fun _ h=>absurd h (y_ _),zI _,.inl ⟨rfl,rfl⟩⟩
theorem YU{w:World}{base:Nat}{v:Value}{l:List Int}(h:zu w base v l):Vj w v l:=by
 obtain⟨a,c,rfl,hr⟩:=h.rd;refine⟨a,c,rfl,hr,?_,?_⟩
 ·rcases h.2 with ⟨e1,e2⟩|⟨g,cap,cur,e1,_,_,h1,_⟩
  ·injection e1 with q1 q2 q3
   omega
  ·injection e1 with q1 q2 q3
   omega
 ·rcases h.2 with ⟨e1,_⟩|⟨g,cap',cur,e1,_⟩
  ·injection e1 with q1 q2 q3
   exact .inl ⟨q1,q3⟩
  ·injection e1 with q1 q2 q3
   exact .inr ⟨_,_,q1⟩
theorem GT(n:Int):∀(l:List Int) (i:Nat),i<=l.length->(∀x∈l.take i,x<n)->(∀h:i<l.length,n<=l[i])->xB n l=if l[i]?=some n then l else l.take i++n::l.drop i
 | [],i,hi,_,_=>by
  have:i=0:=by simpa using hi
  subst this
  simp[xB]
 |y::l,0,_,_,h=>by
  have h0:=h (by simp);simp only[List.getElem_cons_zero]at h0;unfold xB;by_cases h1:n<y
  ·rw[zj h1,zi (by simp;omega)]
   simp
  ·have e:n=y:=by omega
   rw[zi h1,zj e,zj (by simp[e])]
 |y::l,i+1,hi,ht,h=>by
  have hy:=ht y (by simp);have ih:=GT n l i (by simpa using hi) (fun x hx=>ht x (by simp[hx])) (fun hh=>by have:=h (by simpa using hh);simpa using this);unfold xB;rw[zi (by omega),zi (by omega),ih];simp only[List.getElem?_cons_succ,List.take_succ_cons,List.drop_succ_cons];split
  ·rfl
  ·rfl
theorem O9(l:List Int)(n:Int)(a:Option Addr)(c:Nat)(w:World)(hr:yC w a l)(hlen:l.length<=1000000):Calls prog 85 #[.slice a l.length c,.int .i64 n] w (Q5 (.bool (l.contains n)) w):=by
 have HR:=za hr;clear hr;have HCT:Hid (l.contains n=true↔n∈l):=za xn;generalize l.contains n=cn at *;go_enter func85,ntmps85;go_wp2;go_loopg [5] l.length (fun gh s5 wr=>∃j:Nat,j<=l.length/\gh=l.length-j/\s5= .int .i64 j/\Hid (wr=w/\n∉l.take j));case atStart=>exact⟨0,zE _,rfl,rfl,za ⟨rfl,by simp⟩⟩
 case round=>
  obtain⟨j,hj,rfl,rfl,HK⟩:=hrel;obtain⟨rfl,hni⟩:=HK.out;have HNI:=za hni;clear HK hni;by_cases hlj:j<l.length
  ·obtain⟨b,off,ha,hlt,h0⟩:=HR.out j hlj
   subst ha;have nj:(j:Int)<(l.length:Int):=by omega
   have HT:Hid (l.take (j+1)=l.take j++ [l[j]]):=za (zO hlj);have HMM:Hid (l[j]∈l):=za (yy hlj);generalize l[j]=x at *
   cases hxn:(x==n)with
   |true=>
    have e:x=n:=by simpa using hxn
    have HC:Hid (cn=true):=za (HCT.out.2 (by rw[<-e];exact HMM.out));clear e;go_wp2;go_ret
    exact⟨zn HC.out.symm,rfl⟩
   |false=>
    have HN2:Hid (n∉l.take (j+1)):=za (by
     rw[HT.out,qr,qf];rintro(h|h)
     ·exact HNI.out h
     ·rw[h]at hxn;simp at hxn)
    go_wp2;go_roundg (l.length-(j+1));case measure=>omega
    case rel=>exact⟨j+1,by omega,rfl,by go_num,za ⟨rfl,HN2.out⟩⟩
  ·obtain rfl:j=l.length:=by omega
   have nj:¬(l.length:Int)<(l.length:Int):=by omega
   have HC:Hid (cn=false):=za (by
    have h:=HNI.out;rw[xL]at h
    cases cn with
    |false=>rfl
    |true=>exact absurd (HCT.out.1 rfl) h)
   go_wp2;go_ret;exact⟨zn HC.out.symm,rfl⟩
theorem qD{w w':World}(h:Below w.heap.size w w')(o:Obj):Below w.heap.size w (w'.alloc o):=h.alloc h.size o
theorem qp(w:World)(o:Obj):(w.alloc o).heap[w.heap.size]?=some o:=zo _ _ _ rfl
theorem VQ{w:World}{k:Nat}{x:Int}{T:TypeId}(h:w.heap[k]?=some (.cells #[.int .i64 x] T (0,0))):yC w (some ⟨k,0,none⟩) [x]:=by
 intro i hi;obtain rfl:i=0:=by simp at hi;exact hi
 exact⟨_,_,rfl,ze h,jP h rfl⟩
theorem Yi(w:World)(o o':Obj):((w.alloc o').alloc o).heap[w.heap.size+1]?=some o:=zo _ _ _ (by simp)
theorem Yh(w:World)(o o':Obj):((w.alloc o').drew.alloc o).heap[w.heap.size+1]?=some o:=zo _ _ _ (by simp)
theorem Yg(w:World)(o o':Obj):((w.alloc o').alloc o).heap[w.heap.size]?=some o':=zb (zd _ _) (qp w o')
theorem Yf(w:World)(o o':Obj):((w.alloc o').drew.alloc o).heap[w.heap.size]?=some o':=zb (qD (zt _) _) (qp w o')
def Od(l:List Int)(w:World)(e:Ending)(w':World):Prop:=Below w.heap.size w w'/\∃v,e= .returned v/\Vj w' v l
theorem NE(v:Value)(l:List Int)(n:Int)(w:World)(hv:Vj w v l)(hlen:l.length<=100000):Calls prog 83 #[v,.int .i64 n] w (Od (xB n l) w):=by
  obtain⟨a,c,rfl,hr,hlc,hnc⟩:=hv.ex;have HV:=za hv;clear hv;have HR:=za hr;clear hr;have HSP:=za (GT n l);go_enter func83,ntmps83;go_wp2;go_loopg [5] l.length (fun gh s5 wr=>∃j:Nat,j<=l.length/\gh=l.length-j/\s5= .int .i64 j/\Hid (wr=w/\∀x∈l.take j,x<n));case atStart=>exact⟨0,zE _,rfl,rfl,za ⟨rfl,by simp⟩⟩
  case round=>
    obtain⟨j,hj,rfl,rfl,HK⟩:=hrel;obtain⟨rfl,hni⟩:=HK.out;have HNI:=za hni;clear HK hni;have HSJ:=za (HSP.out j hj HNI.out);by_cases hlj:j<l.length
    · obtain⟨b,off,ha,hlt,h0⟩:=HR.out j hlj
      subst ha;have nj:(j:Int)<(l.length:Int):=by omega
      have HT:Hid (l.take (j+1)=l.take j++ [l[j]]):=za (zO hlj)
      have HS2:Hid (n<=l[j]->xB n l=if l[j]=n then l else l.take j++n::l.drop j):=za (fun h=>by
        rw[HSJ.out (fun _=>h),q9 hlj]
        simp only[Option.some.injEq])
      generalize l[j]=x at *;by_cases hxn:x<n
      · have HN2:Hid (∀y∈l.take (j+1),y<n):=za (by
          intro y hy;rw[HT.out,qr,qf]at hy;rcases hy with h|h
          · exact HNI.out y h
          · rw[h];exact hxn)
        go_wp2;go_roundg (l.length-(j+1));case measure=>omega
        case rel=>exact⟨j+1,by omega,rfl,by go_num,za ⟨rfl,HN2.out⟩⟩
      · have HS3:=za (HS2.out (by omega))
        have dx:decide (x<n)=false:=yn hxn;by_cases hxe:x=n
        · rw[zj hxe]at HS3
          have de:(x==n)=true:=by simpa using hxe
          clear hxe;go_wp2;go_ret;exact⟨zG _ _,_,rfl,by rw[HS3.out];exact HV.out⟩
        · rw[zi hxe]at HS3
          have de:(x==n)=false:=by simpa using hxe
          clear hxe;have i1:(j:Int)<=c:=by omega
          have i2:(j:Int)<=l.length:=by omega
          have i3:(0:Int)<=j:=by omega
          have i4:(l.length:Int)<=c:=by omega
          have hti:(l.take j).length=j:=by rw[xm];omega
          have htd:(l.drop j).length=l.length-j:=jH ..;go_upto_region 6 with fail;have hcj:¬c=j:=by omega
          go_region_law (first
              | (refine zT _ rfl (.tmp 33) (.tmp 36) rfl wr.heap.size (.slice (some ⟨wr.heap.size,0,none⟩) 0 0) [] (l.take j) (by rfl) (by exact zu.none (by omega) (by first|exact qp _ _|exact qp wr _|exact Yi wr _ _|exact Yh wr _ _|exact Yg wr _ _|exact Yf wr _ _)) _ _ j hti (by rfl) (yC.headP (HR.out.below (by repeat (first|exact zG _ _|refine yX ?_|refine qD ?_ _))) j) (by simp;omega) (by simp;try omega) ?_
                 intro v1 w1 hown1 hg1 hat1;have HA1:Hid (zu w1 wr.heap.size v1 (l.take j)/\Below wr.heap.size wr w1):=za ⟨by simpa using hown1,xX (by repeat (first|exact zG _ _|refine yX ?_|refine qD ?_ _)) hg1 (by simp;try omega) (by intro q hq;simp[Value.ownBlock]at hq;omega)⟩;have h1s:=HA1.out.2.size;have HN1:Hid (w1.heap[wr.heap.size+1]?=some (.cells #[.int .i64 n] 3 (0,0))):=za ((hg1.block _ (by simp;try omega) (by simp[Value.ownBlock])).trans (by first|exact qp _ _|exact qp wr _|exact Yi wr _ _|exact Yh wr _ _|exact Yg wr _ _|exact Yf wr _ _))
                 clear hown1 hg1 hat1)
              | (refine zT _ rfl (.tmp 33) (.tmp 36) rfl wr.heap.size (.slice (some ⟨wr.heap.size+1,0,none⟩) 0 0) [] (l.take j) (by rfl) (by exact zu.none (by omega) (by first|exact qp _ _|exact qp wr _|exact Yi wr _ _|exact Yh wr _ _|exact Yg wr _ _|exact Yf wr _ _)) _ _ j hti (by rfl) (yC.headP (HR.out.below (by repeat (first|exact zG _ _|refine yX ?_|refine qD ?_ _))) j) (by simp;omega) (by simp;try omega) ?_
                 intro v1 w1 hown1 hg1 hat1;have HA1:Hid (zu w1 wr.heap.size v1 (l.take j)/\Below wr.heap.size wr w1):=za ⟨by simpa using hown1,xX (by repeat (first|exact zG _ _|refine yX ?_|refine qD ?_ _)) hg1 (by simp;try omega) (by intro q hq;simp[Value.ownBlock]at hq;omega)⟩;have h1s:=HA1.out.2.size;have HN1:Hid (w1.heap[wr.heap.size]?=some (.cells #[.int .i64 n] 3 (0,0))):=za ((hg1.block _ (by simp;try omega) (by simp[Value.ownBlock])).trans (by first|exact qp _ _|exact qp wr _|exact Yi wr _ _|exact Yh wr _ _|exact Yg wr _ _|exact Yf wr _ _))
                 clear hown1 hg1 hat1)
              | (refine zT _ rfl (.tmp 33) (.tmp 36) rfl wr.heap.size (.slice (some ⟨wr.heap.size,0,none⟩) 0 0) [] (l.take j) (by rfl) (by exact zu.none (by omega) (by first|exact qp _ _|exact qp wr _|exact Yi wr _ _|exact Yh wr _ _|exact Yg wr _ _|exact Yf wr _ _)) _ _ j hti (by rfl) (yC.headP (HR.out.below (by repeat (first|exact zG _ _|refine yX ?_|refine qD ?_ _))) j) (by simp;omega) (by simp;try omega) ?_
                 intro v1 w1 hown1 hg1 hat1;have HA1:Hid (zu w1 wr.heap.size v1 (l.take j)/\Below wr.heap.size wr w1):=za ⟨by simpa using hown1,xX (by repeat (first|exact zG _ _|refine yX ?_|refine qD ?_ _)) hg1 (by simp;try omega) (by intro q hq;simp[Value.ownBlock]at hq;omega)⟩;have h1s:=HA1.out.2.size
                 clear hown1 hg1 hat1)
              | (refine zT _ rfl (.tmp 37) (.tmp 39) rfl wr.heap.size v1 (l.take j) [n] (by rfl) (by exact HA1.out.1.later (by repeat (first|exact zG _ _|refine yX ?_|refine qD ?_ _))) (some ⟨w1.heap.size,0,none⟩) 1 1 rfl (by rfl) (by first|exact yJ _ _ _|exact(yJ _ _ _).below (zt _)) (by simp;omega) (by first|exact h1s|(simp;omega)) ?_
                 intro v2 w2 hown2 hg2 hat2;have HA2:Hid (zu w2 wr.heap.size v2 (l.take j++ [n])/\Below wr.heap.size wr w2):=za ⟨hown2,xX (HA1.out.2.step (by repeat (first|exact zG _ _|refine yX ?_|refine qD ?_ _))) hg2 (by first|exact h1s|(simp;omega)) (zy HA1.out.1)⟩;have h2s:=HA2.out.2.size
                 clear hown2 hg2 hat2)
              | (refine zT _ rfl (.tmp 37) (.tmp 39) rfl wr.heap.size v1 (l.take j) [n] (by rfl) (by exact HA1.out.1.later (by repeat (first|exact zG _ _|refine yX ?_|refine qD ?_ _))) (some ⟨wr.heap.size+1,0,none⟩) 1 1 rfl (by rfl) (by first|exact VQ HN1.out|exact(VQ HN1.out).below (zt _)) (by simp;omega) (by first|exact h1s|(simp;omega)) ?_
                 intro v2 w2 hown2 hg2 hat2;have HA2:Hid (zu w2 wr.heap.size v2 (l.take j++ [n])/\Below wr.heap.size wr w2):=za ⟨hown2,xX (HA1.out.2.step (by repeat (first|exact zG _ _|refine yX ?_|refine qD ?_ _))) hg2 (by first|exact h1s|(simp;omega)) (zy HA1.out.1)⟩;have h2s:=HA2.out.2.size
                 clear hown2 hg2 hat2)
              | (refine zT _ rfl (.tmp 37) (.tmp 39) rfl wr.heap.size v1 (l.take j) [n] (by rfl) (by exact HA1.out.1.later (by repeat (first|exact zG _ _|refine yX ?_|refine qD ?_ _))) (some ⟨wr.heap.size,0,none⟩) 1 1 rfl (by rfl) (by first|exact VQ HN1.out|exact(VQ HN1.out).below (zt _)) (by simp;omega) (by first|exact h1s|(simp;omega)) ?_
                 intro v2 w2 hown2 hg2 hat2;have HA2:Hid (zu w2 wr.heap.size v2 (l.take j++ [n])/\Below wr.heap.size wr w2):=za ⟨hown2,xX (HA1.out.2.step (by repeat (first|exact zG _ _|refine yX ?_|refine qD ?_ _))) hg2 (by first|exact h1s|(simp;omega)) (zy HA1.out.1)⟩;have h2s:=HA2.out.2.size
                 clear hown2 hg2 hat2)
              | (refine zT _ rfl (.tmp 40) (.tmp 43) rfl wr.heap.size v2 (l.take j++ [n]) (l.drop j) (by rfl) (by first|exact HA2.out.1|exact HA2.out.1.later (zt _)) _ _ (l.length-j) htd (by rfl) (yC.tailP (HR.out.below (by first|exact HA2.out.2|exact HA2.out.2.drew)) j) (by simp;omega) (by first|exact h2s|(simp;omega)) ?_
                 intro v3 w3 hown3 hg3 hat3;have HA3:Hid (zu w3 wr.heap.size v3 (l.take j++n::l.drop j)/\Below wr.heap.size wr w3):=za ⟨by simpa using hown3,xX (by first|exact HA2.out.2|exact HA2.out.2.drew) hg3 (by first|exact h2s|(simp;omega)) (zy HA2.out.1)⟩
                 clear hown3 hg3 hat3))
          all_goals
            go_wp2;go_ret;exact⟨HA3.out.2,_,rfl,by rw[HS3.out];exact YU HA3.out.1⟩
    · obtain rfl:j=l.length:=by omega
      have nj:¬(l.length:Int)<(l.length:Int):=by omega
      have HS3:=za (HSJ.out (fun h=>absurd h hlj));rw[YJ (zI _),zi (by simp)]at HS3;have i1:(l.length:Int)<=c:=by omega
      have i3:(0:Int)<=l.length:=by omega
      have hti:(l.take l.length).length=l.length:=by rw[xm];omega
      have htd:(l.drop l.length).length=l.length-l.length:=jH ..;by_cases hcj:c=l.length
      · go_upto_region 6 with fail
        go_region_law (first
            | (refine zT _ rfl (.tmp 33) (.tmp 36) rfl wr.heap.size (.slice (some ⟨wr.heap.size,0,none⟩) 0 0) [] (l.take l.length) (by rfl) (by exact zu.none (by omega) (by first|exact qp _ _|exact qp wr _|exact Yi wr _ _|exact Yh wr _ _|exact Yg wr _ _|exact Yf wr _ _)) _ _ l.length hti (by rfl) (yC.headP (HR.out.below (by repeat (first|exact zG _ _|refine yX ?_|refine qD ?_ _))) l.length) (by simp;omega) (by simp;try omega) ?_
               intro v1 w1 hown1 hg1 hat1;have HA1:Hid (zu w1 wr.heap.size v1 (l.take l.length)/\Below wr.heap.size wr w1):=za ⟨by simpa using hown1,xX (by repeat (first|exact zG _ _|refine yX ?_|refine qD ?_ _)) hg1 (by simp;try omega) (by intro q hq;simp[Value.ownBlock]at hq;omega)⟩;have h1s:=HA1.out.2.size;have HN1:Hid (w1.heap[wr.heap.size+1]?=some (.cells #[.int .i64 n] 3 (0,0))):=za ((hg1.block _ (by simp;try omega) (by simp[Value.ownBlock])).trans (by first|exact qp _ _|exact qp wr _|exact Yi wr _ _|exact Yh wr _ _|exact Yg wr _ _|exact Yf wr _ _))
               clear hown1 hg1 hat1)
            | (refine zT _ rfl (.tmp 33) (.tmp 36) rfl wr.heap.size (.slice (some ⟨wr.heap.size+1,0,none⟩) 0 0) [] (l.take l.length) (by rfl) (by exact zu.none (by omega) (by first|exact qp _ _|exact qp wr _|exact Yi wr _ _|exact Yh wr _ _|exact Yg wr _ _|exact Yf wr _ _)) _ _ l.length hti (by rfl) (yC.headP (HR.out.below (by repeat (first|exact zG _ _|refine yX ?_|refine qD ?_ _))) l.length) (by simp;omega) (by simp;try omega) ?_
               intro v1 w1 hown1 hg1 hat1;have HA1:Hid (zu w1 wr.heap.size v1 (l.take l.length)/\Below wr.heap.size wr w1):=za ⟨by simpa using hown1,xX (by repeat (first|exact zG _ _|refine yX ?_|refine qD ?_ _)) hg1 (by simp;try omega) (by intro q hq;simp[Value.ownBlock]at hq;omega)⟩;have h1s:=HA1.out.2.size;have HN1:Hid (w1.heap[wr.heap.size]?=some (.cells #[.int .i64 n] 3 (0,0))):=za ((hg1.block _ (by simp;try omega) (by simp[Value.ownBlock])).trans (by first|exact qp _ _|exact qp wr _|exact Yi wr _ _|exact Yh wr _ _|exact Yg wr _ _|exact Yf wr _ _))
               clear hown1 hg1 hat1)
            | (refine zT _ rfl (.tmp 33) (.tmp 36) rfl wr.heap.size (.slice (some ⟨wr.heap.size,0,none⟩) 0 0) [] (l.take l.length) (by rfl) (by exact zu.none (by omega) (by first|exact qp _ _|exact qp wr _|exact Yi wr _ _|exact Yh wr _ _|exact Yg wr _ _|exact Yf wr _ _)) _ _ l.length hti (by rfl) (yC.headP (HR.out.below (by repeat (first|exact zG _ _|refine yX ?_|refine qD ?_ _))) l.length) (by simp;omega) (by simp;try omega) ?_
               intro v1 w1 hown1 hg1 hat1;have HA1:Hid (zu w1 wr.heap.size v1 (l.take l.length)/\Below wr.heap.size wr w1):=za ⟨by simpa using hown1,xX (by repeat (first|exact zG _ _|refine yX ?_|refine qD ?_ _)) hg1 (by simp;try omega) (by intro q hq;simp[Value.ownBlock]at hq;omega)⟩;have h1s:=HA1.out.2.size
               clear hown1 hg1 hat1)
            | (refine zT _ rfl (.tmp 37) (.tmp 39) rfl wr.heap.size v1 (l.take l.length) [n] (by rfl) (by exact HA1.out.1.later (by repeat (first|exact zG _ _|refine yX ?_|refine qD ?_ _))) (some ⟨w1.heap.size,0,none⟩) 1 1 rfl (by rfl) (by first|exact yJ _ _ _|exact(yJ _ _ _).below (zt _)) (by simp;omega) (by first|exact h1s|(simp;omega)) ?_
               intro v2 w2 hown2 hg2 hat2;have HA2:Hid (zu w2 wr.heap.size v2 (l.take l.length++ [n])/\Below wr.heap.size wr w2):=za ⟨hown2,xX (HA1.out.2.step (by repeat (first|exact zG _ _|refine yX ?_|refine qD ?_ _))) hg2 (by first|exact h1s|(simp;omega)) (zy HA1.out.1)⟩;have h2s:=HA2.out.2.size
               clear hown2 hg2 hat2)
            | (refine zT _ rfl (.tmp 37) (.tmp 39) rfl wr.heap.size v1 (l.take l.length) [n] (by rfl) (by exact HA1.out.1.later (by repeat (first|exact zG _ _|refine yX ?_|refine qD ?_ _))) (some ⟨wr.heap.size+1,0,none⟩) 1 1 rfl (by rfl) (by first|exact VQ HN1.out|exact(VQ HN1.out).below (zt _)) (by simp;omega) (by first|exact h1s|(simp;omega)) ?_
               intro v2 w2 hown2 hg2 hat2;have HA2:Hid (zu w2 wr.heap.size v2 (l.take l.length++ [n])/\Below wr.heap.size wr w2):=za ⟨hown2,xX (HA1.out.2.step (by repeat (first|exact zG _ _|refine yX ?_|refine qD ?_ _))) hg2 (by first|exact h1s|(simp;omega)) (zy HA1.out.1)⟩;have h2s:=HA2.out.2.size
               clear hown2 hg2 hat2)
            | (refine zT _ rfl (.tmp 37) (.tmp 39) rfl wr.heap.size v1 (l.take l.length) [n] (by rfl) (by exact HA1.out.1.later (by repeat (first|exact zG _ _|refine yX ?_|refine qD ?_ _))) (some ⟨wr.heap.size,0,none⟩) 1 1 rfl (by rfl) (by first|exact VQ HN1.out|exact(VQ HN1.out).below (zt _)) (by simp;omega) (by first|exact h1s|(simp;omega)) ?_
               intro v2 w2 hown2 hg2 hat2;have HA2:Hid (zu w2 wr.heap.size v2 (l.take l.length++ [n])/\Below wr.heap.size wr w2):=za ⟨hown2,xX (HA1.out.2.step (by repeat (first|exact zG _ _|refine yX ?_|refine qD ?_ _))) hg2 (by first|exact h1s|(simp;omega)) (zy HA1.out.1)⟩;have h2s:=HA2.out.2.size
               clear hown2 hg2 hat2)
            | (refine zT _ rfl (.tmp 40) (.tmp 43) rfl wr.heap.size v2 (l.take l.length++ [n]) (l.drop l.length) (by rfl) (by first|exact HA2.out.1|exact HA2.out.1.later (zt _)) _ _ 0 (by rw[htd];omega) (by rfl) (yC.emptyP _ _ _ (by rw[htd];omega)) (by simp;omega) (by first|exact h2s|(simp;omega)) ?_
               intro v3 w3 hown3 hg3 hat3;have HA3:Hid (zu w3 wr.heap.size v3 (l.take l.length++n::l.drop l.length)/\Below wr.heap.size wr w3):=za ⟨by simpa using hown3,xX (by first|exact HA2.out.2|exact HA2.out.2.drew) hg3 (by first|exact h2s|(simp;omega)) (zy HA2.out.1)⟩
               clear hown3 hg3 hat3))
        all_goals
          go_wp2;go_ret;exact⟨HA3.out.2,_,rfl,by rw[HS3.out];exact YU HA3.out.1⟩
      · obtain⟨b,off,rfl⟩:∃b off,a=some ⟨b,off,none⟩:=by
          rcases hnc with ⟨_,h0⟩|h
          · omega
          · exact h
        go_upto_region 6 with fail
        go_region_law (first
            | (refine zT _ rfl (.tmp 33) (.tmp 36) rfl wr.heap.size (.slice (some ⟨wr.heap.size,0,none⟩) 0 0) [] (l.take l.length) (by rfl) (by exact zu.none (by omega) (by first|exact qp _ _|exact qp wr _|exact Yi wr _ _|exact Yh wr _ _|exact Yg wr _ _|exact Yf wr _ _)) _ _ l.length hti (by rfl) (yC.headP (HR.out.below (by repeat (first|exact zG _ _|refine yX ?_|refine qD ?_ _))) l.length) (by simp;omega) (by simp;try omega) ?_
               intro v1 w1 hown1 hg1 hat1;have HA1:Hid (zu w1 wr.heap.size v1 (l.take l.length)/\Below wr.heap.size wr w1):=za ⟨by simpa using hown1,xX (by repeat (first|exact zG _ _|refine yX ?_|refine qD ?_ _)) hg1 (by simp;try omega) (by intro q hq;simp[Value.ownBlock]at hq;omega)⟩;have h1s:=HA1.out.2.size;have HN1:Hid (w1.heap[wr.heap.size+1]?=some (.cells #[.int .i64 n] 3 (0,0))):=za ((hg1.block _ (by simp;try omega) (by simp[Value.ownBlock])).trans (by first|exact qp _ _|exact qp wr _|exact Yi wr _ _|exact Yh wr _ _|exact Yg wr _ _|exact Yf wr _ _))
               clear hown1 hg1 hat1)
            | (refine zT _ rfl (.tmp 33) (.tmp 36) rfl wr.heap.size (.slice (some ⟨wr.heap.size+1,0,none⟩) 0 0) [] (l.take l.length) (by rfl) (by exact zu.none (by omega) (by first|exact qp _ _|exact qp wr _|exact Yi wr _ _|exact Yh wr _ _|exact Yg wr _ _|exact Yf wr _ _)) _ _ l.length hti (by rfl) (yC.headP (HR.out.below (by repeat (first|exact zG _ _|refine yX ?_|refine qD ?_ _))) l.length) (by simp;omega) (by simp;try omega) ?_
               intro v1 w1 hown1 hg1 hat1;have HA1:Hid (zu w1 wr.heap.size v1 (l.take l.length)/\Below wr.heap.size wr w1):=za ⟨by simpa using hown1,xX (by repeat (first|exact zG _ _|refine yX ?_|refine qD ?_ _)) hg1 (by simp;try omega) (by intro q hq;simp[Value.ownBlock]at hq;omega)⟩;have h1s:=HA1.out.2.size;have HN1:Hid (w1.heap[wr.heap.size]?=some (.cells #[.int .i64 n] 3 (0,0))):=za ((hg1.block _ (by simp;try omega) (by simp[Value.ownBlock])).trans (by first|exact qp _ _|exact qp wr _|exact Yi wr _ _|exact Yh wr _ _|exact Yg wr _ _|exact Yf wr _ _))
               clear hown1 hg1 hat1)
            | (refine zT _ rfl (.tmp 33) (.tmp 36) rfl wr.heap.size (.slice (some ⟨wr.heap.size,0,none⟩) 0 0) [] (l.take l.length) (by rfl) (by exact zu.none (by omega) (by first|exact qp _ _|exact qp wr _|exact Yi wr _ _|exact Yh wr _ _|exact Yg wr _ _|exact Yf wr _ _)) _ _ l.length hti (by rfl) (yC.headP (HR.out.below (by repeat (first|exact zG _ _|refine yX ?_|refine qD ?_ _))) l.length) (by simp;omega) (by simp;try omega) ?_
               intro v1 w1 hown1 hg1 hat1;have HA1:Hid (zu w1 wr.heap.size v1 (l.take l.length)/\Below wr.heap.size wr w1):=za ⟨by simpa using hown1,xX (by repeat (first|exact zG _ _|refine yX ?_|refine qD ?_ _)) hg1 (by simp;try omega) (by intro q hq;simp[Value.ownBlock]at hq;omega)⟩;have h1s:=HA1.out.2.size
               clear hown1 hg1 hat1)
            | (refine zT _ rfl (.tmp 37) (.tmp 39) rfl wr.heap.size v1 (l.take l.length) [n] (by rfl) (by exact HA1.out.1.later (by repeat (first|exact zG _ _|refine yX ?_|refine qD ?_ _))) (some ⟨w1.heap.size,0,none⟩) 1 1 rfl (by rfl) (by first|exact yJ _ _ _|exact(yJ _ _ _).below (zt _)) (by simp;omega) (by first|exact h1s|(simp;omega)) ?_
               intro v2 w2 hown2 hg2 hat2;have HA2:Hid (zu w2 wr.heap.size v2 (l.take l.length++ [n])/\Below wr.heap.size wr w2):=za ⟨hown2,xX (HA1.out.2.step (by repeat (first|exact zG _ _|refine yX ?_|refine qD ?_ _))) hg2 (by first|exact h1s|(simp;omega)) (zy HA1.out.1)⟩;have h2s:=HA2.out.2.size
               clear hown2 hg2 hat2)
            | (refine zT _ rfl (.tmp 37) (.tmp 39) rfl wr.heap.size v1 (l.take l.length) [n] (by rfl) (by exact HA1.out.1.later (by repeat (first|exact zG _ _|refine yX ?_|refine qD ?_ _))) (some ⟨wr.heap.size+1,0,none⟩) 1 1 rfl (by rfl) (by first|exact VQ HN1.out|exact(VQ HN1.out).below (zt _)) (by simp;omega) (by first|exact h1s|(simp;omega)) ?_
               intro v2 w2 hown2 hg2 hat2;have HA2:Hid (zu w2 wr.heap.size v2 (l.take l.length++ [n])/\Below wr.heap.size wr w2):=za ⟨hown2,xX (HA1.out.2.step (by repeat (first|exact zG _ _|refine yX ?_|refine qD ?_ _))) hg2 (by first|exact h1s|(simp;omega)) (zy HA1.out.1)⟩;have h2s:=HA2.out.2.size
               clear hown2 hg2 hat2)
            | (refine zT _ rfl (.tmp 37) (.tmp 39) rfl wr.heap.size v1 (l.take l.length) [n] (by rfl) (by exact HA1.out.1.later (by repeat (first|exact zG _ _|refine yX ?_|refine qD ?_ _))) (some ⟨wr.heap.size,0,none⟩) 1 1 rfl (by rfl) (by first|exact VQ HN1.out|exact(VQ HN1.out).below (zt _)) (by simp;omega) (by first|exact h1s|(simp;omega)) ?_
               intro v2 w2 hown2 hg2 hat2;have HA2:Hid (zu w2 wr.heap.size v2 (l.take l.length++ [n])/\Below wr.heap.size wr w2):=za ⟨hown2,xX (HA1.out.2.step (by repeat (first|exact zG _ _|refine yX ?_|refine qD ?_ _))) hg2 (by first|exact h1s|(simp;omega)) (zy HA1.out.1)⟩;have h2s:=HA2.out.2.size
               clear hown2 hg2 hat2)
            | (refine zT _ rfl (.tmp 40) (.tmp 43) rfl wr.heap.size v2 (l.take l.length++ [n]) (l.drop l.length) (by rfl) (by first|exact HA2.out.1|exact HA2.out.1.later (zt _)) _ _ 0 (by rw[htd];omega) (by rfl) (yC.emptyP _ _ _ (by rw[htd];omega)) (by simp;omega) (by first|exact h2s|(simp;omega)) ?_
               intro v3 w3 hown3 hg3 hat3;have HA3:Hid (zu w3 wr.heap.size v3 (l.take l.length++n::l.drop l.length)/\Below wr.heap.size wr w3):=za ⟨by simpa using hown3,xX (by first|exact HA2.out.2|exact HA2.out.2.drew) hg3 (by first|exact h2s|(simp;omega)) (zy HA2.out.1)⟩
               clear hown3 hg3 hat3))
        all_goals
          go_wp2;go_ret;exact⟨HA3.out.2,_,rfl,by rw[HS3.out];exact YU HA3.out.1⟩
end Go.Proofs.YtgalekifgnecjaaGreat
