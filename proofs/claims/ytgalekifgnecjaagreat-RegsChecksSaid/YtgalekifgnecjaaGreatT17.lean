/- The closures of the reader's group -/
import Derived.Test.YtgalekifgnecjaaGreatT13
import Derived.Test.YtgalekifgnecjaaGreatS3
namespace Go.Proofs.YtgalekifgnecjaaGreat
open Tryz Go.RowKit Go.Shelf
set_option maxHeartbeats 8000000
set_option maxRecDepth 100000
attribute [local go_sem] Oper.semAt_some
attribute [local irreducible] wpStill
theorem qZ{b1:Nat}{w:World}{T:TypeId}{v:Value}(h1:w.heap[b1]?=some (.cells #[v] T)):w.cell? ⟨b1,0,none⟩=some v:=(zA _ _ 0 _ _ _ h1).trans rfl
theorem Ri{y b:Int}(hy: -1000<=y/\y<=1000)(hb: -9223372036854775808<=b/\b<=9223372036854775807):(y==IntKind.i64.wrap (-2-b))=(y== -2-b):=by
 by_cases h:b=9223372036854775807
 ·subst h
  have e1:IntKind.i64.wrap (-2-9223372036854775807)=9223372036854775807:=by decide
  rw[e1];have h1:(y==9223372036854775807)=false:=by simp only[yY,ne_eq];omega
  have h2:(y== -2-9223372036854775807)=false:=by simp only[yY,ne_eq];omega
  rw[h1,h2]
 ·rw[ju (by omega)]
theorem SB(w0:World)(r:qF)(a:Nat)(s:Int)(x:zm)(b1 b2:Nat)(w:World)(hm:Xs w0 r)(h:RI w0 r a w)(h1:w.heap[b1]?=some (.cells #[.pointer (some ⟨w0.heap.size,0,none⟩)] 177))(h2:w.heap[b2]?=some (.cells #[.int .i64 x.op,.int .i64 x.a,.int .i64 x.b,.int .i64 x.c] 85))(hs:0<=s/\s<r.h.length)(_hl:r.h.length<=1000000)(hy: -1000<=zh r.h s/\zh r.h s<=1000)(hb: -9223372036854775808<=x.b/\x.b<=9223372036854775807):
  Calls prog 219 #[.int .i64 s,.pointer (some ⟨b1,0,none⟩),.pointer (some ⟨b2,0,none⟩)] w (zV (.bool (zh r.h s== -2-x.b)) w):=by
 have HE:=za (Ri hy hb);obtain⟨k,rfl⟩:∃k:Nat,s=(k:Int):=⟨s.toNat,by omega⟩
 have hk:k<r.h.length:=by omega
 obtain⟨bh,oh,hha,_,h0⟩:=(hm.below h.hb).mh k hk;have c1:=qZ h1;obtain⟨q0,q1,q2,q3⟩:=zX h2;have k15:w.cell? ⟨w0.heap.size,15,none⟩=some (.slice (some ⟨bh,oh,none⟩) r.h.length r.hc):=(zA _ _ 15 _ _ _ h.hr).trans (by rw[<-hha];rfl);have nk:(k:Int)<(r.h.length:Int):=by omega
 rw[show zh r.h (k:Int)=r.h[k]from zk hk]at HE;rw[show zh r.h (k:Int)=r.h[k]from zk hk];obtain⟨e,he⟩:∃e,e=(r.h[k]== -2-x.b):=⟨_,rfl⟩
 rw[<-he]at HE;rw[<-he];clear he hm h h1 h2 hs hha hy;generalize r.h[k]=z at *;have HBW:=za (zt w);go_enter func219,ntmps219;go_upto_region 1 with fail;go_still_tail 12,(by kernel_rfl);change wpList _ _ _ _ _ w.drew;go_wp2;go_ret;exact⟨zn HE.out,HBW.out⟩
theorem D3:xE 219:=enters_of func219 (by kernel_rfl) rfl
theorem SA(w0:World)(r:qF)(a:Nat)(s:Int)(m:List (Int×Int))(L:List (Int×Int))(b1 b2 bm:Nat)(w:World)(hm:Xs w0 r)(h:RI w0 r a w)(h1:w.heap[b1]?=some (.cells #[.pointer (some ⟨w0.heap.size,0,none⟩)] 177))(h2:w.heap[b2]?=some (.cells #[.map (some bm)] 120))(hM:xe xU w bm L)(hL:jZ L s=ZL m s)(hs:0<=s/\s<r.h.length)(hl:r.h.length<=1000000):
  Calls prog 220 #[.int .i64 s,.pointer (some ⟨b1,0,none⟩),.pointer (some ⟨b2,0,none⟩)] w (fun e w''=>Below w.heap.size w w''/\((∃v,xG r.h m s=some v/\e= .returned (.int .i64 v))\/(xG r.h m s=none/\e= .panicked jr))):=by
 have hlk:=hM.lookOk (T:=120) Tryz.underlying120 (x:=s) (show(Lit.int .i64 s).wf=true from Gk (by omega));rw[hL]at hlk;obtain⟨k,rfl⟩:∃k:Nat,s=(k:Int):=⟨s.toNat,by omega⟩
 have hk:k<r.h.length:=by omega
 obtain⟨bh,oh,hha,_,h0⟩:=(hm.below h.hb).mh k hk;have c1:=qZ h1;have c2:=qZ h2;have k15:w.cell? ⟨w0.heap.size,15,none⟩=some (.slice (some ⟨bh,oh,none⟩) r.h.length r.hc):=(zA _ _ 15 _ _ _ h.hr).trans (by rw[<-hha];rfl);have nk:(k:Int)<(r.h.length:Int):=by omega
 have HE:Hid (xG r.h m (k:Int)=if 0<=r.h[k]then some r.h[k]else ZL m (k:Int)):=za (by unfold xG;rw[show zh r.h (k:Int)=r.h[k]from zk hk]);obtain⟨o,ho⟩:∃o,o=xG r.h m (k:Int):=⟨_,rfl⟩
 rw[<-ho]at HE;rw[<-ho];clear ho hm h h1 h2 hs hha hL hM;generalize r.h[k]=z at *;by_cases hz:0<=z
 ·rw[zj hz]at HE
  go_enter func220,ntmps220;go_wp2;go_ret;exact⟨zG _ _,.inl ⟨z,HE.out,rfl⟩⟩
 ·rw[zi hz]at HE
  cases hp:ZL m (k:Int)with
  |none=>
   rw[hp]at HE hlk;have hlk2:(Instr.lookup 120 (.map (some bm)) (.int .i64 k) true).run prog w= .ok (.tuple #[.int .i64 0,.bool false]) w:=hlk;clear hlk hp;go_enter func220,ntmps220
   go_wp2_with (first
    |(go_at_call 185;(with_reducible refine(yM _).mono ?_);rintro e w8 ⟨rfl,rfl⟩))
   exact⟨rfl,zG _ _,.inr ⟨HE.out,rfl⟩⟩
  |some v=>
   rw[hp]at HE hlk;have hlk2:(Instr.lookup 120 (.map (some bm)) (.int .i64 k) true).run prog w= .ok (.tuple #[.int .i64 v,.bool true]) w:=hlk;clear hlk hp;go_enter func220,ntmps220
   go_wp2_with (first
    |(go_at_call 185;(with_reducible refine(yE _).mono ?_);rintro e w8 ⟨rfl,rfl⟩))
   go_ret;exact⟨zG _ _,.inl ⟨v,HE.out,rfl⟩⟩
theorem D0:xE 220:=enters_of func220 (by kernel_rfl) rfl
theorem Sz(w0:World)(r:qF)(a:Nat)(s:Int)(x:zm)(l:List Int)(la:Option Addr)(lc:Nat)(b1 b2 b3:Nat)(w:World)(hm:Xs w0 r)(h:RI w0 r a w)(h1:w.heap[b1]?=some (.cells #[.pointer (some ⟨w0.heap.size,0,none⟩)] 177))(h2:w.heap[b2]?=some (.cells #[.int .i64 x.op,.int .i64 x.a,.int .i64 x.b,.int .i64 x.c] 85))(h3:w.heap[b3]?=some (.cells #[.slice la l.length lc] 28))(hr:yC w la l)(hin:∀s∈l,0<=s/\s<r.h.length)(hll:l.length<=1000000)(hs:0<=s/\s<r.h.length)(hl:r.h.length<=1000000)(hv: -1000000<=r.v.slots/\r.v.slots<=1000000):
  Calls prog 221 #[.int .i64 s,.pointer (some ⟨b1,0,none⟩),.pointer (some ⟨b2,0,none⟩),.pointer (some ⟨b3,0,none⟩)] w (fun e w''=>Below w.heap.size w w''/\((∃v,qH r.v r.h l x s=some v/\e= .returned (.int .i64 v))\/(qH r.v r.h l x s=none/\e= .panicked jr))):=by
 obtain⟨k,rfl⟩:∃k:Nat,s=(k:Int):=⟨s.toNat,by omega⟩
 have hk:k<r.h.length:=by omega
 obtain⟨bh,oh,hha,_,h0⟩:=(hm.below h.hb).mh k hk;have c1:=qZ h1;have c3:=qZ h3;obtain⟨q0,q1,q2,q3⟩:=zX h2;have k15:w.cell? ⟨w0.heap.size,15,none⟩=some (.slice (some ⟨bh,oh,none⟩) r.h.length r.hc):=(zA _ _ 15 _ _ _ h.hr).trans (by rw[<-hha];rfl);have k11:w.cell? ⟨w0.heap.size,11,none⟩=some (.int .i64 r.v.slots):=(zA _ _ 11 _ _ _ h.hr).trans rfl;have nk:(k:Int)<(r.h.length:Int):=by omega
 have HE:Hid (qH r.v r.h l x (k:Int)=if 0<=r.h[k]then some r.h[k]else if (yr x.a 0 (r.v.slots-1)&& !yS r.h x.a l)=true then some x.a else none):=za (by unfold qH;rw[show zh r.h (k:Int)=r.h[k]from zk hk]);have HT:=za (KV w0 r a x.a l la lc w.drew hm (h.below (zt w)) (hr.below (zt w)) hin hl hll);have HWI:=za (fun w=>xY x.a 0 (r.v.slots-1) w);have H2:=za h2;obtain⟨o,ho⟩:∃o,o=qH r.v r.h l x (k:Int):=⟨_,rfl⟩
 rw[<-ho]at HE;rw[<-ho];clear ho hm h h1 h2 h3 hr hs hha hin;generalize r.h[k]=z at *;generalize yS r.h x.a l=tk at *;have HBW:=za (zt w);by_cases hz:0<=z
 ·rw[zj hz]at HE
  go_enter func221,ntmps221;go_wp2;go_ret;exact⟨zG _ _,.inl ⟨z,HE.out,rfl⟩⟩
 ·rw[zi hz]at HE
  have e1:IntKind.i64.wrap (r.v.slots-1)=r.v.slots-1:=ju (by omega)
  cases hi:yr x.a 0 (r.v.slots-1)with
  |false=>
   rw[hi]at HE HWI;have HN:Hid (o=none):=za HE.out;clear hi HE;go_enter func221,ntmps221;go_upto_region 3 with fail;go_still_tail 17,(by kernel_rfl);still_call (KB (HWI.out _))
   repeat still_step
   refine wpStill_nil ?_;change wpList _ _ _ _ _ w.drew
   go_wp2_with (first
    |(go_at_call 185;(with_reducible refine(yM _).mono ?_);rintro e w8 ⟨rfl,rfl⟩))
   exact⟨rfl,HBW.out,.inr ⟨HN.out,rfl⟩⟩
  |true=>
   rw[hi,xk]at HE;rw[hi]at HWI;clear hi;go_enter func221,ntmps221;go_upto_region 3 with fail
   cases tk with
   |true=>
    have HN:Hid (o=none):=za HE.out
    go_region_with (first
     |(go_at_call 43;(with_reducible refine(HWI.out _).mono ?_);rintro e w3 ⟨rfl,rfl⟩)
     |(go_at_call 218;(with_reducible refine HT.out.mono ?_);rintro e w4 ⟨rfl,hb⟩;have HB4:=za (HBW.out.step hb);clear hb)
     |(go_at_call 185;(with_reducible refine(UP _ _).mono ?_);intro e w8 hor;refine hor.elim (fun h1=> ?_) (fun h2=>by obtain⟨_,rfl,rfl⟩:=h2;exact⟨rfl,HB4.out,.inr ⟨HN.out,rfl⟩⟩);clear hor;obtain⟨hbad,rfl,rfl⟩:=h1;have HBad:=za hbad;clear hbad))
    all_goals exact absurd HBad.out (by simp)
   |false=>
    have HN:Hid (o=some x.a):=za HE.out
    go_region_with (first
     |(go_at_call 43;(with_reducible refine(HWI.out _).mono ?_);rintro e w3 ⟨rfl,rfl⟩)
     |(go_at_call 218;(with_reducible refine HT.out.mono ?_);rintro e w4 ⟨rfl,hb⟩;have HB4:=za (HBW.out.step hb);obtain⟨j0,j1,j2,j3⟩:=zX (zb (HBW.out.step hb) H2.out);clear hb)
     |(go_at_call 185;(with_reducible refine(yE _).mono ?_);rintro e w8 ⟨rfl,rfl⟩))
    all_goals
     go_wp2;go_ret;exact⟨HB4.out,.inl ⟨x.a,HN.out,rfl⟩⟩
theorem DZ:xE 221:=enters_of func221 (by kernel_rfl) rfl
end Go.Proofs.YtgalekifgnecjaaGreat
