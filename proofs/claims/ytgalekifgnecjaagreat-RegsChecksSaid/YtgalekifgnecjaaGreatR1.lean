/- must of the reader: it returns, or panics with the value of a wrong unit -/
import Derived.Test.YtgalekifgnecjaaGreatN6
namespace Go.Proofs.YtgalekifgnecjaaGreat
open Tryz Go.RowKit
open Go.RowKit Go.Shelf
set_option maxHeartbeats 8000000
set_option maxRecDepth 100000
attribute [local go_sem] Oper.semAt_some
def jr:List PanicEntry:=[{ v:=.iface 175 (.agg #[]),recovered:=false }]
def R8(b:Bool)(w:World)(e:Ending)(w':World):Prop:=w'=w/\e=if b=true then .returned (.tuple #[])else .panicked jr
theorem GI(b:Bool)(w:World):Calls prog 185 #[.bool b] w (R8 b w):=by
 cases b with
 |true=>
  go_enter func185,ntmps185;go_wp2
  go_end0
  exact⟨rfl,rfl⟩
 |false=>
  go_enter func185,ntmps185;go_wp2;exact⟨rfl,rfl,rfl⟩
theorem yE(w:World):Calls prog 185 #[.bool true] w (fun e w'=>w'=w/\e= .returned (.tuple #[])):=(GI true w).mono fun _ _ h=>⟨h.1,h.2⟩
theorem yM(w:World):Calls prog 185 #[.bool false] w (fun e w'=>w'=w/\e= .panicked jr):=(GI false w).mono fun _ _ h=>⟨h.1,h.2⟩
theorem yW.putT{T:TypeId}(hT:prog.underlying T=some (.map 3 4)){w:World}{b:Nat}{S:List Int}{k:Int}(h:yW w b S)(hk:0<=k/\k<1000000):
  ∃w',(Instr.mapUpdate T (.map (some b)) (.int .i64 k) (.bool true)).run prog w= .ok () w'/\yW w' b (xB k S)/\w.grownBy w' (some b):=by
 have hl:=h.len;obtain⟨w',h1,h2,h3⟩:=h.own.update XY hT (by unfold maxLen;omega) (M0 ⟨hk.1,by omega⟩) (Ut true);rw[Ot h.so]at h2;exact⟨w',h1,⟨Zu h.so,fun x hx=>by rcases vQ.1 hx with rfl|hx;exact hk;exact h.bd x hx,Ab h2⟩,h3⟩
theorem Rg(w:World):(zeroValue 4).run prog w= .ok (.bool false) w:=by
 simp[zeroValue,go_sem];rfl
theorem yW.hasT{T:TypeId}(hT:prog.underlying T=some (.map 3 4)){w:World}{b:Nat}{S:List Int}{k:Int}(h:yW w b S)(hk:0<=k/\k<=1000000):
  (Instr.lookup T (.map (some b)) (.int .i64 k) false).run prog w= .ok (.bool (S.contains k)) w:=by
 obtain⟨v,ps,h1,h2⟩:=h.own.lookup XY hT (Rg w) (Ut false) (M0 hk);obtain⟨c,rfl,h3⟩:=Qx h2;rw[Jf]at h3;rw[h1];by_cases hx:k∈S
 ·rw[zj hx]at h3
  cases h3;rw[xn.2 hx]
 ·rw[zi hx]at h3
  cases h3;rw[show S.contains k=false from by simpa using hx]
theorem ve{T:TypeId}(hT:prog.underlying T=some (.map 3 4))(w:World){ops:Array Oper}{rest:List Oper}{o:Oper}{a:Act}{Q:Exit->Act->World->Prop}(hg:o.guard=none)(m x v:Operand)(hop:o.op=Op.mapUpdate T m x v)(b:Nat)(S:List Int)(k:Int)(hm:a.eval m= .map (some b))(h:yW w b S)(hx:a.eval x= .int .i64 k)(hv:a.eval v= .bool true)(hk:0<=k/\k<1000000)
  (hK:∀w',yW w' b (xB k S)->w.grownBy w' (some b)->wpList prog ops Q rest (a.put o.dst undef) w'):wpList prog ops Q (o::rest) a w:=by
 refine wpList_plain hg fun K' hK'=> ?_
 obtain⟨w',hrun,r1,r2⟩:=h.putT hT hk;unfold Oper.wp;simp[execOp,hop,hm,hx,hv,hrun,Result.andThen];exact hK' _ _ (hK w' r1 r2)
def yh(n:Nat):List Int:=(List.range n).map Int.ofNat
theorem XW{n:Nat}{x:Int}:x∈yh n↔0<=x/\x<n:=by
 unfold yh;rw[xI];constructor
 ·rintro⟨k,hk,rfl⟩
  have:=yR.1 hk;simp only[Int.ofNat_eq_natCast];omega
 ·rintro⟨h0,h1⟩
  exact⟨x.toNat,yR.2 (by omega),by simp only[Int.ofNat_eq_natCast];omega⟩
theorem Xo(n:Nat):yh (n+1)=yh n++ [(n:Int)]:=by
 unfold yh;rw[Ze,q8];rfl
theorem Vn:∀ {l:List Int} {x:Int},xt l->(∀y∈l,y<x)->xt (l++ [x])
 | [],_,_,_=>by simp[xt]
 |y::l,x,h,hx=>by
  obtain⟨h1,h2⟩:=jW.1 h;refine jW.2 ⟨fun z hz=> ?_,Vn h2 (fun z hz=>hx z (by simp[hz]))⟩;rcases qr.1 hz with hz|hz
  ·exact h1 z hz
  ·rw[qf.1 hz]
   exact hx y (by simp)
theorem Z3:∀n,xt (yh n)
 |0=> .nil
 |n+1=>by
  rw[Xo];exact Vn (Z3 n) (fun y hy=>(XW.1 hy).2)
theorem O1(n:Nat):xB (n:Int) (yh n)=yh (n+1):=
 Z4 (Zu (Z3 n)) (Z3 (n+1)) fun x=>by
  rw[vQ,XW,XW];omega
def QO(l:List Int)(x:zm):List Int:=if 0<=zc x then xB (zc x) ((zp x).foldl (fun l s=>xB s l) l)else(zp x).foldl (fun l s=>xB s l) l
theorem Fy(u:zg):yx u=u.code.foldl QO (yh u.args.toNat):=rfl
theorem On(u:zg)(ca cc ga gc)(w:World)(hm:Qz w ca u.code)(hlc:u.code.length<=600)(ha:0<=u.args/\u.args<=200)(hr:∀t (ht:t<u.code.length),∀x∈zp u.code[t],0<=x/\x<1000000)(hws:∀t (ht:t<u.code.length),zc u.code[t]<1000000):
  Calls prog 104 #[vU u ca cc ga gc] w fun e w'=>Below w.heap.size w w'/\∃b,e= .returned (.map (some b))/\yW w' b (yx u)/\w.heap.size<=b:=by
 have HM:=za hm;clear hm;have HUS:=za (Fy u);have HRB:=za hr;clear hr;have HWB:=za hws;clear hws;have hmm:=@run_makeMap prog;obtain⟨n,hn⟩:∃n:Nat,u.args=(n:Int):=⟨u.args.toNat,by omega⟩
 have HN:=za hn;have hx1:((w.alloc (oU u ca cc ga gc)).alloc (.map #[] 0)).heap[w.heap.size]?=some (oU u ca cc ga gc):=zb (zd _ _) (zo _ _ _ rfl)
 have hs1:yW ((w.alloc (oU u ca cc ga gc)).alloc (.map #[] 0)) (w.heap.size+1) []:=by
  have:=QQ (w.alloc (oU u ca cc ga gc))
  rwa [vJ]at this
 have hb1:Below w.heap.size w ((w.alloc (oU u ca cc ga gc)).alloc (.map #[] 0)):=(zd w _).step (zd _ _);have HX1:=za (And.intro hx1 (And.intro hs1 hb1));clear hx1 hs1 hb1;obtain⟨k0,k1,k2,k3,k4,k5,k6⟩:=zr HX1.out.1;have hn2:n<=200:=by omega
 clear hn;go_enter func104,ntmps104;go_upto_region 3 with fail;obtain⟨bm,hbm⟩:∃b,b=w.heap.size+1:=⟨_,rfl⟩
 have HBM:=za hbm;obtain⟨wa,hwa⟩:∃wa,wa=(w.alloc (oU u ca cc ga gc)).alloc (.map #[] 0):=⟨_,rfl⟩
 rw[<-hwa,<-hbm]at HX1;rw[<-hwa,<-hbm];clear hwa hbm hmm k0 k1 k2 k3 k4 k5 k6;go_loopg [13] n (fun gh s13 wr=>∃k:Nat,k<=n/\gh=n-k/\s13= .int .i64 k/\Hid (Below w.heap.size w wr/\wr.heap[w.heap.size]?=some (oU u ca cc ga gc)/\yW wr bm (yh k)));case atStart=>exact⟨0,zE _,rfl,rfl,za ⟨HX1.out.2.2,HX1.out.1,HX1.out.2.1⟩⟩
 case round=>
  obtain⟨k,hk,rfl,rfl,HQ⟩:=hrel;by_cases hkn:k<n
  ·have nk:(k:Int)<u.args:=by have:=HN.out;omega
   have nk0:(0:Int)<=(k:Int)/\(k:Int)<1000000:=by omega
   have HS:=za HQ.out.2.2
   go_wp2_with (first
    |(at_mapUpdate;refine ve Tryz.underlying156 _ rfl _ _ _ rfl bm (yh k) k rfl HS.out rfl rfl nk0 ?_;intro w6 hs6 hg6;have HS6:=za hs6;have HG6:=za hg6;clear hs6 hg6))
   go_roundg (n-(k+1));case measure=>omega
   case rel=>exact⟨k+1,by omega,rfl,by go_num,za ⟨HQ.out.1.grown HG6.out HQ.out.1.size (fun r e=>by cases e;rw[HBM.out];omega),(HG6.out.block _ (ze HQ.out.2.1) (fun e=>by cases e;have:=HBM.out;omega)).trans HQ.out.2.1,by rw[<-O1];exact HS6.out⟩⟩
  ·obtain rfl:k=n:=by omega
   have nk:¬(k:Int)<u.args:=by have:=HN.out;omega
   obtain⟨k0,k1,k2,k3,k4,k5,k6⟩:=zr HQ.out.2.1;go_upto_region 8 with fail;clear k0 k1 k2 k3 k4 k5 k6;go_loopg [22] u.code.length (fun gh s22 wr=>∃t:Nat,t<=u.code.length/\gh=u.code.length-t/\s22= .int .i64 t/\Hid (Below w.heap.size w wr/\yW wr bm ((u.code.take t).foldl QO (yh k))));case atStart=>exact⟨0,zE _,rfl,rfl,za ⟨HQ.out.1,HQ.out.2.2⟩⟩
   case round=>
    obtain⟨t,ht,rfl,rfl,HT⟩:=hrel;by_cases hlt:t<u.code.length
    ·obtain⟨bc,oc,hca,_,c0,c1,c2,c3⟩:=(HM.out.below HT.out.1) t hlt
     subst hca;have ntt:(t:Int)<(u.code.length:Int):=by omega
     have HRR:=za (fun wx=>Qn u.code[t] wx);have HWW:=za (fun wx=>qz u.code[t] wx);have HRX:=za (HRB.out t hlt);have HWX:=za (HWB.out t hlt);obtain⟨S0,hS0⟩:∃S,S=(u.code.take t).foldl QO (yh k):=⟨_,rfl⟩
     have HST:Hid ((u.code.take (t+1)).foldl QO (yh k)=QO S0 u.code[t]):=za (by rw[zO hlt,jc,hS0];rfl);rw[<-hS0]at HT;clear hS0;have hrl:=xD u.code[t];have HUE:Hid (QO S0 u.code[t]=if 0<=zc u.code[t]then xB (zc u.code[t]) ((zp u.code[t]).foldl (fun l s=>xB s l) S0)else(zp u.code[t]).foldl (fun l s=>xB s l) S0):=za rfl;generalize u.code[t]=y at *;generalize zp y=R at *;generalize zc y=wi at *;go_upto_region 10 with fail;obtain⟨wx,hwx⟩:∃wx,wx=wr.alloc (.cells #[.int .i64 y.op,.int .i64 y.a,.int .i64 y.b,.int .i64 y.c] 85):=⟨_,rfl⟩
     obtain⟨bx,hbx⟩:∃b,b=wr.heap.size:=⟨_,rfl⟩
     have HXX:Hid (wx.heap[bx]?=some (.cells #[.int .i64 y.op,.int .i64 y.a,.int .i64 y.b,.int .i64 y.c] 85)):=za (by rw[hwx];exact zo _ _ _ hbx);have HBX:Hid (Below w.heap.size w wx):=za (by rw[hwx];exact HT.out.1.step (zd _ _));have HSX:Hid (yW wx bm S0):=za (by rw[hwx];exact HT.out.2.below (zd _ _));have HNE:Hid (bx≠bm):=za (by have:=HT.out.2.lt;omega);rw[<-hwx,<-hbx];clear hwx hbx c0 c1 c2 c3;obtain⟨q0,q1,q2,q3⟩:=zX HXX.out
     go_upto_region 11 with (first
      |(go_at_call 70;(with_reducible refine(HRR.out _).mono ?_);rintro e9 w5 ⟨hb,v5,rfl,ho⟩;obtain⟨ra,rc,rfl,hrp⟩:=ho.rd;have HB5:=za hb;have HR5:=za hrp;clear hb ho hrp))
     clear q0 q1 q2 q3;go_loopg [29] R.length (fun gh s29 wr=>∃j:Nat,j<=R.length/\gh=R.length-j/\s29= .int .i64 j/\Hid (w5.grownBy wr (some bm)/\yW wr bm ((R.take j).foldl (fun l s=>xB s l) S0)));case atStart=>exact⟨0,zE _,rfl,rfl,za ⟨⟨rfl,rfl,rfl,zI _,fun _ _ _=>rfl⟩,HSX.out.below HB5.out⟩⟩
     case round=>
      obtain⟨j,hj,rfl,rfl,HJ⟩:=hrel;by_cases hlj:j<R.length
      ·have hxb:=HRX.out R[j] (yy hlj)
       obtain⟨b2,off,ha2,hlt2,h0⟩:=HR5.out j hlj;subst ha2
       have hne:b2≠bm:=fun e=>by
        obtain⟨es,clock,hmb,_⟩:=(HSX.out.below HB5.out).own;rw[e]at h0;unfold World.cell? at h0;simp[hmb]at h0
       have h0r:wr.cell? ⟨b2,off+j,none⟩=some (.int .i64 R[j]):=(ZO (w:=w5) (w':=wr) (a:=⟨b2,off+j,none⟩) (HJ.out.1.block b2 hlt2 (fun e=>hne (by cases e;rfl)))).trans h0;clear h0;have nj:(j:Int)<(R.length:Int):=by omega
       have HTJ:Hid ((R.take (j+1)).foldl (fun l s=>xB s l) S0=xB R[j] ((R.take j).foldl (fun l s=>xB s l) S0)):=za (by rw[zO hlj,jc];rfl);generalize R[j]=x at *;have HS:=za HJ.out.2
       go_wp2_with (first
        |(at_mapUpdate;refine ve Tryz.underlying156 _ rfl _ _ _ rfl bm _ x rfl HS.out rfl rfl hxb ?_;intro w6 hs6 hg6;have HS6:=za hs6;have HG6:=za hg6;clear hs6 hg6))
       go_roundg (R.length-(j+1));case measure=>omega
       case rel=>exact⟨j+1,by omega,rfl,by go_num,za ⟨HJ.out.1.andThen HG6.out (fun j e=> .inr e),by rw[HTJ.out];exact HS6.out⟩⟩
      ·obtain rfl:j=R.length:=by omega
       have nj:¬(R.length:Int)<(R.length:Int):=by omega
       have hxr:wr.heap[bx]?=some (.cells #[.int .i64 y.op,.int .i64 y.a,.int .i64 y.b,.int .i64 y.c] 85):=(HJ.out.1.block bx (ze (zb HB5.out HXX.out)) (fun e=>HNE.out (by cases e;rfl))).trans (zb HB5.out HXX.out);obtain⟨q0,q1,q2,q3⟩:=zX hxr;have HBR:Hid (Below w.heap.size w wr):=za ((HBX.out.step HB5.out).grown HJ.out.1 (HBX.out.step HB5.out).size (fun r e=>by cases e;rw[HBM.out];omega));have HSR:Hid (yW wr bm (R.foldl (fun l s=>xB s l) S0)):=za (by have:=HJ.out.2;rwa [xL]at this);by_cases hwi:(0:Int)<=wi
       ·rw[zj hwi]at HUE
        have hwb:(0:Int)<=wi/\wi<1000000:=⟨hwi,HWX.out⟩
        go_wp2_with (first
         |(go_at_call 71;(with_reducible refine(HWW.out _).mono ?_);rintro e w7 ⟨rfl,hb⟩;have HB7:=za (HBR.out.step hb);have HS7:=za (HSR.out.below hb);clear hb)
         |(at_mapUpdate;refine ve Tryz.underlying156 _ rfl _ _ _ rfl bm _ wi rfl HS7.out rfl rfl hwb ?_;intro w6 hs6 hg6;have HS6:=za hs6;have HG6:=za hg6;clear hs6 hg6))
        go_roundg (u.code.length-(t+1));case measure=>omega
        case rel=>exact⟨t+1,by omega,rfl,by go_num,za ⟨HB7.out.grown HG6.out HB7.out.size (fun r e=>by cases e;rw[HBM.out];omega),by rw[HST.out,HUE.out];exact HS6.out⟩⟩
       ·rw[zi hwi]at HUE
        go_wp2_with (first
         |(go_at_call 71;(with_reducible refine(HWW.out _).mono ?_);rintro e w7 ⟨rfl,hb⟩;have HB7:=za (HBR.out.step hb);have HS7:=za (HSR.out.below hb);clear hb))
        go_roundg (u.code.length-(t+1));case measure=>omega
        case rel=>exact⟨t+1,by omega,rfl,by go_num,za ⟨HB7.out,by rw[HST.out,HUE.out];exact HS7.out⟩⟩
    ·obtain rfl:t=u.code.length:=by omega
     have ntt:¬(u.code.length:Int)<(u.code.length:Int):=by omega
     have hE:(u.code.take u.code.length).foldl QO (yh k)=yx u:=by rw[xL,HUS.out,HN.out];rfl
     go_wp2;go_ret;exact⟨HT.out.1,bm,rfl,by have:=HT.out.2;rwa [hE]at this,by rw[HBM.out];omega⟩
end Go.Proofs.YtgalekifgnecjaaGreat
