/- The reader of package regs: the homes of slots, where the first tests fail -/
import Derived.Test.YtgalekifgnecjaaGreatT10
import Derived.Test.YtgalekifgnecjaaGreatT8
import Derived.BigQuiet
namespace Go.Proofs.YtgalekifgnecjaaGreat
open Tryz Go.RowKit
open Go.RowKit Go.Shelf
set_option maxHeartbeats 8000000
set_option maxRecDepth 100000
attribute [local go_sem] Oper.semAt_some
attribute [local irreducible] wpStill
theorem DB(w0:World)(r:qF)(a:Nat)(w:World)(hm:Xs w0 r)(h:RI w0 r a w)(_hw:zC r.u=true)(_hh:r.h.length<=1000000)(_ht:r.t.length<=1000000)(_hv:r.v.code.length<=1000000)(hno:X5 r.u r.v r.h r.t=false):
  Calls prog 182 #[.pointer (some ⟨w0.heap.size,0,none⟩)] w (RP w0 r none w):=by
 have HM:=za hm;have HI:=za h;have HN0:=za hno;clear hm h hno
 have kk:∀k v,(#[.string r.u.cls,.string r.u.name,.int .i64 r.u.args,.int .i64 r.u.slots,.int .i64 r.u.frame,.slice r.ca r.u.code.length r.cc,.slice r.ga r.u.guards.length r.gc,.slice r.va (zf r.u).length r.vc,
 .string r.v.cls,.string r.v.name,.int .i64 r.v.args,.int .i64 r.v.slots,.int .i64 r.v.frame,.slice r.da r.v.code.length r.dc,.slice r.ea r.v.guards.length r.ec,.slice r.ha r.h.length r.hc,.slice r.ta r.t.length r.tc,Value.int .i64 a]:Array Value)[k]?=some v->w.cell? ⟨w0.heap.size,k,none⟩=some v:=fun k v hk=>(zA _ _ k _ _ _ HI.out.hr).trans hk
 have k0:=kk 0 _ rfl;have k1:=kk 1 _ rfl;have k2:=kk 2 _ rfl;have k3:=kk 3 _ rfl;have k4:=kk 4 _ rfl;have k5:=kk 5 _ rfl;have k6:=kk 6 _ rfl;have k8:=kk 8 _ rfl;have k9:=kk 9 _ rfl;have k10:=kk 10 _ rfl;have k11:=kk 11 _ rfl;have k12:=kk 12 _ rfl;have k13:=kk 13 _ rfl;have k14:=kk 14 _ rfl;have k15:=kk 15 _ rfl;clear kk;have hlt:=ze HI.out.hr;have z1:¬w0.heap.size=w.heap.size:=by omega
 have z2:¬w0.heap.size=w.heap.size+1:=by omega
 have z3:¬w.heap.size=w0.heap.size:=by omega
 have z4:¬w.heap.size+1=w0.heap.size:=by omega
 go_enter func182,ntmps182;go_upto_region 0 with fail;go_cut [2,3,4]from 13 to 26 (fun s2 s3 s4 wy=>∃bu bv:Nat,s2= .pointer (some ⟨bu,0,none⟩)/\s3= .pointer (some ⟨bv,0,none⟩)/\s4= .slice r.ha r.h.length r.hc/\Hid (P8 w0 r a bu bv wy)/\Hid (Below w.heap.size w wy))
 case first=>
  go_region
  all_goals
   go_wp2_with fail;go_meet
   first
    |exact⟨w.heap.size,w.heap.size+1,rfl,rfl,rfl,za ⟨HI.out.below (((zd _ _).step (zd _ _)).step (zt _)),zb (zt _) (zb (zd _ _) (zo _ _ _ rfl)),zb (zt _) (zo _ _ _ (by simp))⟩,za (((zd _ _).step (zd _ _)).step (zt _))⟩
    |exact⟨w.heap.size+1,w.heap.size,rfl,rfl,rfl,za ⟨HI.out.below (((zd _ _).step (zd _ _)).step (zt _)),zb (zt _) (zo _ _ _ (by simp)),zb (zt _) (zb (zd _ _) (zo _ _ _ rfl))⟩,za (((zd _ _).step (zd _ _)).step (zt _))⟩
 case rest=>
  obtain⟨bu,bv,rfl,rfl,rfl,HB,HW0⟩:=hcut;clear k0 k1 k2 k3 k4 k5 k6 k8 k9 k10 k11 k12 k13 k14 k15;obtain⟨u0,u1,u2,u3,u4,u5,u6⟩:=zr HB.out.hu;obtain⟨v0,v1,v2,v3,v4,v5,v6⟩:=zr HB.out.hv;have k16:wc.cell? ⟨w0.heap.size,16,none⟩=some (.slice r.ta r.t.length r.tc):=(zA _ _ 16 _ _ _ HB.out.hi.hr).trans rfl;have HGD:=za (qB (yw HW0.out (some w0.heap.size)) (zt wc));have HD1:Hid (X5 r.u r.v r.h r.t=(decide ((r.h.length:Int)=r.u.slots)&&r.t.length==r.u.code.length&&r.u.cls==r.v.cls&&r.u.name==r.v.name&&r.u.args==r.v.args)):=za rfl;go_upto_region 1 with fail;have HBD:=za (HB.out.below (zt wc));by_cases h1:(r.h.length:Int)=r.u.slots
  case neg=>
   have d1:((r.h.length:Int)==r.u.slots)=false:=by simp only[yY,ne_eq];first|exact h1|omega
   clear h1;go_still_tail 38,(by kernel_rfl);change wpList _ _ _ _ _ wc.drew
   go_wp2_with (first
    |(go_at_call 185;(with_reducible refine(yM _).mono ?_);rintro e w8 ⟨rfl,rfl⟩))
   exact⟨rfl,HGD.out,rfl⟩
  have d1:((r.h.length:Int)==r.u.slots)=true:=by simp only[qE];first|exact h1|omega
  by_cases h2:r.t.length=r.u.code.length
  case neg=>
   have d2:((r.t.length:Int)==(r.u.code.length:Int))=false:=by simp only[yY,ne_eq];first|exact h2|omega
   clear h1 h2;go_still_tail 38,(by kernel_rfl);change wpList _ _ _ _ _ wc.drew
   go_wp2_with (first
    |(go_at_call 185;(with_reducible refine(yM _).mono ?_);rintro e w8 ⟨rfl,rfl⟩))
   exact⟨rfl,HGD.out,rfl⟩
  have d2:((r.t.length:Int)==(r.u.code.length:Int))=true:=by simp only[qE];first|exact h2|omega
  by_cases h3:(r.u.cls==r.v.cls)=true
  case neg=>
   have d3:(r.u.cls.toList==r.v.cls.toList)=false:=by rw[<-beq_toListBytes];exact Bool.eq_false_iff.2 h3
   clear h1 h2 h3;go_still_tail 38,(by kernel_rfl);change wpList _ _ _ _ _ wc.drew
   go_wp2_with (first
    |(go_at_call 185;(with_reducible refine(yM _).mono ?_);rintro e w8 ⟨rfl,rfl⟩))
   exact⟨rfl,HGD.out,rfl⟩
  have d3:(r.u.cls.toList==r.v.cls.toList)=true:=by rw[<-beq_toListBytes];exact h3
  by_cases h4:(r.u.name==r.v.name)=true
  case neg=>
   have d4:(r.u.name.toList==r.v.name.toList)=false:=by rw[<-beq_toListBytes];exact Bool.eq_false_iff.2 h4
   clear h1 h2 h3 h4;go_still_tail 38,(by kernel_rfl);change wpList _ _ _ _ _ wc.drew
   go_wp2_with (first
    |(go_at_call 185;(with_reducible refine(yM _).mono ?_);rintro e w8 ⟨rfl,rfl⟩))
   exact⟨rfl,HGD.out,rfl⟩
  have d4:(r.u.name.toList==r.v.name.toList)=true:=by rw[<-beq_toListBytes];exact h4
  by_cases h5:r.u.args=r.v.args
  case neg=>
   have d5:(r.u.args==r.v.args)=false:=by simp only[yY,ne_eq];first|exact h5|omega
   clear h1 h2 h3 h4 h5;go_still_tail 38,(by kernel_rfl);change wpList _ _ _ _ _ wc.drew
   go_wp2_with (first
    |(go_at_call 185;(with_reducible refine(yM _).mono ?_);rintro e w8 ⟨rfl,rfl⟩))
   exact⟨rfl,HGD.out,rfl⟩
  have d5:(r.u.args==r.v.args)=true:=by simp only[qE];first|exact h5|omega
  exact absurd HN0.out (by rw[HD1.out,h3,h4,h1,h2,h5];simp)
theorem Sy(w0:World)(r:qF)(a:Nat)(s reg:Int)(b1 b2:Nat)(w:World)(hm:Xs w0 r)(h:RI w0 r a w)(h1:w.heap[b1]?=some (.cells #[.pointer (some ⟨w0.heap.size,0,none⟩)] 177))(h2:w.heap[b2]?=some (.cells #[.int .i64 reg] 3))(hs:0<=s/\s<r.h.length)(_hl:r.h.length<=1000000):
  Calls prog 232 #[.int .i64 s,.pointer (some ⟨b1,0,none⟩),.pointer (some ⟨b2,0,none⟩)] w (zV (.bool (zh r.h s==reg)) w):=by
 obtain⟨k,rfl⟩:∃k:Nat,s=(k:Int):=⟨s.toNat,by omega⟩
 have hk:k<r.h.length:=by omega
 obtain⟨bh,oh,hha,_,h0⟩:=(hm.below h.hb).mh k hk;have c1:w.cell? ⟨b1,0,none⟩=some (.pointer (some ⟨w0.heap.size,0,none⟩)):=(zA _ _ 0 _ _ _ h1).trans rfl;have c2:w.cell? ⟨b2,0,none⟩=some (.int .i64 reg):=(zA _ _ 0 _ _ _ h2).trans rfl;have k15:w.cell? ⟨w0.heap.size,15,none⟩=some (.slice (some ⟨bh,oh,none⟩) r.h.length r.hc):=(zA _ _ 15 _ _ _ h.hr).trans (by rw[<-hha];rfl);have nk:(k:Int)<(r.h.length:Int):=by omega
 have HE:Hid ((zh r.h (k:Int)==reg)=(r.h[k]==reg)):=za (by rw[show zh r.h (k:Int)=r.h[k]from zk hk]);obtain⟨e,he⟩:∃e,e=(zh r.h (k:Int)==reg):=⟨_,rfl⟩
 rw[<-he]at HE;rw[<-he];clear he hm h h1 h2 hs hha;generalize r.h[k]=x at *;have HBW:=za (zt w);go_enter func232,ntmps232;go_upto_region 1 with fail;go_still_tail 10,(by kernel_rfl);change wpList _ _ _ _ _ w.drew;go_wp2;go_ret;exact⟨zn HE.out.symm,HBW.out⟩
theorem DY:xE 232:=enters_of func232 (by kernel_rfl) rfl
theorem KV(w0:World)(r:qF)(a:Nat)(reg:Int)(l:List Int)(la:Option Addr)(lc:Nat)(w:World)(hm:Xs w0 r)(h:RI w0 r a w)(hr:yC w la l)(hs:∀s∈l,0<=s/\s<r.h.length)(hl:r.h.length<=1000000)(hll:l.length<=1000000):
  Calls prog 218 #[.pointer (some ⟨w0.heap.size,0,none⟩),.int .i64 reg,.slice la l.length lc] w (zV (.bool (yS r.h reg l)) w):=by
 have HB:=za ((zd w (.cells #[.pointer (some ⟨w0.heap.size,0,none⟩)] 177)).step (zd _ (.cells #[.int .i64 reg] 3)));have h1:((w.alloc (.cells #[.pointer (some ⟨w0.heap.size,0,none⟩)] 177)).alloc (.cells #[.int .i64 reg] 3)).heap[w.heap.size]?=some (.cells #[.pointer (some ⟨w0.heap.size,0,none⟩)] 177):=zb (zd _ _) (zo _ _ _ rfl);have h2:((w.alloc (.cells #[.pointer (some ⟨w0.heap.size,0,none⟩)] 177)).alloc (.cells #[.int .i64 reg] 3)).heap[w.heap.size+1]?=some (.cells #[.int .i64 reg] 3):=zo _ _ _ (by simp);have HI:=za (E3 232 DY #[.pointer (some ⟨w.heap.size,0,none⟩),.pointer (some ⟨w.heap.size+1,0,none⟩)] (fun s=>zh r.h s==reg) l la lc _ (fun x hx w' hb=>Sy w0 r a x reg _ _ w' hm (h.below (HB.out.step hb)) (zb hb h1) (zb hb h2) (hs x hx) hl) (hr.below HB.out) (by omega));have HT:Hid (yS r.h reg l=l.any fun s=>zh r.h s==reg):=za rfl;generalize yS r.h reg l=t at *;rw[<-HT.out]at HI;clear hm h hr hs h1 h2;go_enter func218,ntmps218
 go_wp2_with (first
  |(go_at_call 99;(with_reducible refine HI.out.mono ?_);rintro e w' ⟨rfl,hb⟩;have HB2:=za (HB.out.step hb);clear hb))
 go_ret;exact⟨rfl,HB2.out⟩
def Ob(F:Nat)(lb:Array Value)(f:Int->Option Int)(D:Int->Prop)(w:World):Prop:=
 ∀x,D x->∀w',Below w.heap.size w w'->Calls prog F (#[.int .i64 x]++lb) w' fun e w''=>Below w'.heap.size w' w''/\((∃v,f x=some v/\e= .returned (.int .i64 v))\/(f x=none/\e= .panicked jr))
theorem Ob.below{F:Nat}{lb:Array Value}{f:Int->Option Int}{D:Int->Prop}{w w':World}(h:Ob F lb f D w)(hb:Below w.heap.size w w'):Ob F lb f D w':=fun x hx w'' hb2=>h x hx w'' (hb.step hb2)
def ZG(y:Int)(f:Int->Option Int):Option Int:=if 0<=y then f y else some y
theorem SF(F:Nat)(eg:xE F)(lb:Array Value)(f:Int->Option Int)(D:Int->Prop)(w w1:World)(b k:Nat)(cs:Array Value)(T:TypeId)(y:Int)(hf:Ob F lb f D w)(hb:Below w.heap.size w w1)(hw:w1.heap[b]?=some (.cells cs T (0,0)))(hy:cs[k]?=some (.int .i64 y))(hD:0<=y->D y):
  Calls prog 179 #[.pointer (some ⟨b,k,none⟩),.func (.func F) #[] lb] w1 (fun e w'=>w1.grownBy w' (some b)/\((∃v,ZG y f=some v/\e= .returned (.tuple #[])/\w'.heap[b]?=some (.cells (cs.setIfInBounds k (.int .i64 v)) T (0,0)))\/(ZG y f=none/\e= .panicked jr))):=by
 have c0:w1.cell? ⟨b,k,none⟩=some (.int .i64 y):=jP hw hy;have HW:=za hw;have f0:w1.frozen? ⟨b,k,none⟩=false:=YF hw;have heg:∀args w,(callFunc F args).run prog w= .ok (.enter F args) w:=eg;clear hw;by_cases h0:0<=y
 ·have HC:=za (hf y (hD h0) w1 hb)
  have HS:Hid (ZG y f=f y):=za (by unfold ZG;rw[zj h0]);clear hf hD;go_enter func179,ntmps179;go_wp2;refine HC.out.mono ?_;rintro e w2 ⟨hb2,(⟨v,hv,rfl⟩|⟨hv,rfl⟩)⟩
  ·have HW2:=za (zb hb2 HW.out)
   have HB2:=za hb2;have f1:w2.frozen? ⟨b,k,none⟩=false:=YF HW2.out;have c1:=jP HW2.out hy;have HV:=za hv;clear hb2 hv;go_wp2
   go_end0
   exact⟨(yw HB2.out _).andThen (YO (vv _ _) k _ (.inl rfl)) (fun _ e=> .inr e),.inl ⟨v,HS.out.trans HV.out,rfl,yk _ _ k _ _ _ HW2.out⟩⟩
  ·exact⟨rfl,yw hb2 _,.inr ⟨HS.out.trans hv,rfl⟩⟩
 ·have HS:Hid (ZG y f=some y):=za (by unfold ZG;rw[zi h0])
  clear hf hD;go_enter func179,ntmps179;go_wp2
  go_end0
  refine⟨vv _ _,.inl ⟨y,HS.out,rfl,?_⟩⟩;rw[HW.out]
  have hcs:cs.setIfInBounds k (.int .i64 y)=cs:=by
   apply Array.ext_getElem?;intro i;rw[Array.getElem?_setIfInBounds];split
   ·rename_i e
    subst e;rw[hy];split
    ·rfl
    ·rename_i h
     rw[Array.getElem?_eq_none (by omega)]at hy;cases hy
   ·rfl
  rw[hcs]
end Go.Proofs.YtgalekifgnecjaaGreat
