/- Reads and Writes of package core -/
import Derived.Test.YtgalekifgnecjaaGreatV1
import Derived.Lib.QuietBelow
import Derived.OwnWalkIn
namespace Go.Proofs.YtgalekifgnecjaaGreat
open Tryz Go.RowKit
set_option maxHeartbeats 4000000
set_option maxRecDepth 100000
theorem QZ:∀f,f∈Zz->(f.r0=0\/f.r0=1\/f.r0=2)/\(f.r1=0\/f.r1=3)/\(f.wr=0\/f.wr=1):=by decide
theorem ZB(op:Int):((zM op).r0=0\/(zM op).r0=1\/(zM op).r0=2)/\((zM op).r1=0\/(zM op).r1=3)/\((zM op).wr=0\/(zM op).wr=1):=by
 unfold zM;split
 ·rw[jI]
  cases h:Zz[op.toNat]? with
  |none=>exact QZ jT (by simp[Zz])
  |some f=>exact QZ f (List.mem_of_getElem? h)
 ·exact QZ jT (by simp[Zz])
def K4(f:XJ)(i:zm)(k:Nat):List Int:=match k with|0=> []|1=>ye i f.r0|_=>ye i f.r0++ye i f.r1
theorem ji(i:zm)(k:Int):(ye i k).length<=1:=by unfold ye;split<;>simp
theorem E8(f:XJ)(i:zm)(k:Nat):(K4 f i k).length<=2:=by
 have h0:=ji i f.r0;have h1:=ji i f.r1;unfold K4;split<;>simp<;>omega
theorem xS{i:zm}{k:Int}(h:k<=0\/vP i (k-1).toNat= -1):ye i k= []:=by
 unfold ye;rw[zi];intro ⟨h1,h2⟩;rcases h with h|h
 ·omega
 ·exact h2 h
theorem jM{i:zm}{k:Int}(h:0<k)(h2:vP i (k-1).toNat≠ -1):ye i k= [vP i (k-1).toNat]:=zj ⟨h,h2⟩
theorem O3(x y z:Int)(w:World):(Instr.index 167 (.agg #[.int .i64 x,.int .i64 y,.int .i64 z]) (.int .i64 0)).run prog w= .ok (.int .i64 x) w:=by kernel_rfl
theorem Ly(x y z:Int)(w:World):(Instr.index 167 (.agg #[.int .i64 x,.int .i64 y,.int .i64 z]) (.int .i64 1)).run prog w= .ok (.int .i64 y) w:=by kernel_rfl
theorem Lx(x y z:Int)(w:World):(Instr.index 167 (.agg #[.int .i64 x,.int .i64 y,.int .i64 z]) (.int .i64 2)).run prog w= .ok (.int .i64 z) w:=by kernel_rfl
theorem M9(x y:Int)(w:World):(Instr.index 48 (.agg #[.int .i64 x,.int .i64 y]) (.int .i64 0)).run prog w= .ok (.int .i64 x) w:=by kernel_rfl
theorem M8(x y:Int)(w:World):(Instr.index 48 (.agg #[.int .i64 x,.int .i64 y]) (.int .i64 1)).run prog w= .ok (.int .i64 y) w:=by kernel_rfl
theorem Qn(i:zm)(w:World):Calls prog 70 #[vI i] w (Za (zp i) w):=by
 have HF:=za (Yn i.op);have HPL:Hid (zp i=K4 (zM i.op) i 2):=za rfl;have HPA:=za (fun w=>J4 i w);obtain⟨hs0,hs1,-⟩:=ZB i.op;have H0:=za hs0;have H1:=za hs1;clear hs0 hs1;have HOK:Hid (jA i.op=false->(zM i.op).r0=0/\(zM i.op).r1=0):=za (fun h=>by unfold zM;rw[h];exact⟨rfl,rfl⟩);generalize zM i.op=f at *;generalize jA i.op=ok at *;have HX0:=za (M9 f.r0 f.r1);have HX2:=za (M8 f.r0 f.r1);have hy0:=O3 i.a i.b i.c;have hy1:=Ly i.a i.b i.c;have hy2:=Lx i.a i.b i.c;have HX1:=za (zo w (.cells #[.int .i64 i.op,.int .i64 i.a,.int .i64 i.b,.int .i64 i.c] 85) _ rfl);have HB:=za (zd w (.cells #[.int .i64 i.op,.int .i64 i.a,.int .i64 i.b,.int .i64 i.c] 85));go_enter func70,ntmps70;go_upto_region 4 with (go_at_call 139;(with_reducible refine(HF.out _).mono ?_);rintro e w1 ⟨rfl,hb⟩;replace HX1:=za (zb (hb.step (zd w1 (.cells (cF f) 186))) HX1.out);replace HB:=za (HB.out.step (hb.step (zd w1 (.cells (cF f) 186))));clear hb);obtain⟨w2,hw2⟩:∃w2,w2=w1.alloc (.cells (cF f) 186):=⟨_,rfl⟩
 have e2:w1.alloc (.cells #[.string ⟨f.name⟩,.int .i64 f.h0,.int .i64 f.h1,.int .i64 f.h2,.int .i64 f.wr,.int .i64 f.r0,.int .i64 f.r1,.bool f.rs,.bool f.en] 186)=w2:=hw2.symm;rw[e2]at HX1 HB;rw[e2];clear e2 hw2;go_loopg [5,16] 2 (fun gh s5 s16 wr=>∃k:Nat,k<=2/\gh=2-k/\s16= .int .i64 k/\Hid (zu wr w2.heap.size s5 (K4 f i k)/\Below w2.heap.size w2 wr));case atStart=>exact⟨0,zE _,rfl,rfl,za ⟨jd _ _ _ _,zG _ _⟩⟩
 case round=>
  obtain⟨k,hk,rfl,rfl,HK⟩:=hrel;have hlen:=E8 f i k;have hsz:=HK.out.2.size;obtain⟨k0,k1,k2,k3⟩:=zX (zb HK.out.2 HX1.out);by_cases hlt:k<2
  ·cases ok with
   |false=>
    obtain⟨z0,z1⟩:=HOK.out rfl;have HE:Hid (K4 f i (k+1)=K4 f i k):=za (by rcases(show k=0\/k=1 by omega)with rfl|rfl<;>simp[K4,xS (k:=f.r0) (i:=i) (.inl (by omega)),xS (k:=f.r1) (i:=i) (.inl (by omega))]);have hx0:∀w,(Instr.index 48 (.agg #[.int .i64 f.r0,.int .i64 f.r1]) (.int .i64 0)).run prog w= .ok (.int .i64 0) w:=fun w=>by rw[HX0.out,z0]
    have hx1:∀w,(Instr.index 48 (.agg #[.int .i64 f.r0,.int .i64 f.r1]) (.int .i64 1)).run prog w= .ok (.int .i64 0) w:=fun w=>by rw[HX2.out,z1]
    clear z0 z1;rcases(show k=0\/k=1 by omega)with rfl|rfl
    ·rw[show((0:Nat):Int)=0 from rfl]
     go_wp2_with fail;go_roundg (2-(0+1));case measure=>omega
     case rel=>exact⟨0+1,by omega,rfl,rfl,za ⟨by rw[HE.out];exact HK.out.1,HK.out.2⟩⟩
    ·rw[show((1:Nat):Int)=1 from rfl]
     go_wp2_with fail;go_roundg (2-(1+1));case measure=>omega
     case rel=>exact⟨1+1,by omega,rfl,rfl,za ⟨by rw[HE.out];exact HK.out.1,HK.out.2⟩⟩
   |true=>
    clear HOK;rcases(show k=0\/k=1 by omega)with rfl|rfl
    ·rw[show((0:Nat):Int)=0 from rfl]
     have HR:=H0.out;have HS:Hid (∀q,f.r0=q->K4 f i (0+1)=ye i q):=za (fun q e=>by rw[<-e];rfl);have HXX:Hid (∀q,f.r0=q->∀w,(Instr.index 48 (.agg #[.int .i64 f.r0,.int .i64 f.r1]) (.int .i64 0)).run prog w= .ok (.int .i64 q) w):=za (fun q e w=>by rw[HX0.out,e]);rcases HR with e|e|e
     all_goals have hx0:=HXX.out _ e
     all_goals replace HS:=za (HS.out _ e)
     all_goals clear e HXX
     ·have HE:=za (HS.out.trans (xS (.inl (by omega))))
      clear HS;go_wp2_with fail;go_roundg (2-(0+1));case measure=>omega
      case rel=>exact⟨0+1,by omega,rfl,rfl,za ⟨by rw[HE.out];exact HK.out.1,HK.out.2⟩⟩
     ·by_cases hn:i.a= -1
      ·have d:(i.a != -1)=false:=by rw[hn];rfl
       have HE:=za (HS.out.trans (xS (.inr hn)));clear HS hn;go_wp2_with (go_at_call 140;(with_reducible refine(HPA.out _).mono ?_);rintro e w4 ⟨rfl,hb4⟩;have HB4:=za hb4;clear hb4);go_roundg (2-(0+1));case measure=>omega
       case rel=>exact⟨0+1,by omega,rfl,rfl,za ⟨by rw[HE.out];exact HK.out.1.later HB4.out,HK.out.2.step HB4.out⟩⟩
      ·have d:(i.a != -1)=true:=by simpa using hn
       have HE:=za (HS.out.trans (jM (by omega) hn));clear HS hn
       go_wp2_with (first
        |(go_at_call 140;(with_reducible refine(HPA.out _).mono ?_);rintro e w4 ⟨rfl,hb4⟩;have HB4:=za hb4;have hsz4:=hb4.size;replace HK:=za (And.intro (HK.out.1.later hb4) (HK.out.2.step hb4));obtain⟨k0,k1,k2,k3⟩:=zX (zb HK.out.2 HX1.out);have hsz:=HK.out.2.size;clear hb4)
        |(at_builtin;refine zv _ rfl _ _ rfl w2.heap.size _ _ [i.a] rfl (zu.later HK.out.1 (zd _ _)) (some ⟨_,0,none⟩) 1 rfl (yJ _ _ _) (by simp[K4]) (by simp;omega) ?_;intro v' w5 hown' hgrow hnil))
       go_roundg (2-(0+1));case measure=>omega
       case rel=>exact⟨0+1,by omega,rfl,rfl,za ⟨by rw[HE.out];exact hown',((HK.out.2).alloc (by omega) _).grown hgrow (by simp;omega) (zy HK.out.1)⟩⟩
     ·by_cases hn:i.b= -1
      ·have d:(i.b != -1)=false:=by rw[hn];rfl
       have HE:=za (HS.out.trans (xS (.inr hn)));clear HS hn;go_wp2_with (go_at_call 140;(with_reducible refine(HPA.out _).mono ?_);rintro e w4 ⟨rfl,hb4⟩;have HB4:=za hb4;clear hb4);go_roundg (2-(0+1));case measure=>omega
       case rel=>exact⟨0+1,by omega,rfl,rfl,za ⟨by rw[HE.out];exact HK.out.1.later HB4.out,HK.out.2.step HB4.out⟩⟩
      ·have d:(i.b != -1)=true:=by simpa using hn
       have HE:=za (HS.out.trans (jM (by omega) hn));clear HS hn
       go_wp2_with (first
        |(go_at_call 140;(with_reducible refine(HPA.out _).mono ?_);rintro e w4 ⟨rfl,hb4⟩;have HB4:=za hb4;have hsz4:=hb4.size;replace HK:=za (And.intro (HK.out.1.later hb4) (HK.out.2.step hb4));obtain⟨k0,k1,k2,k3⟩:=zX (zb HK.out.2 HX1.out);have hsz:=HK.out.2.size;clear hb4)
        |(at_builtin;refine zv _ rfl _ _ rfl w2.heap.size _ _ [i.b] rfl (zu.later HK.out.1 (zd _ _)) (some ⟨_,0,none⟩) 1 rfl (yJ _ _ _) (by simp[K4]) (by simp;omega) ?_;intro v' w5 hown' hgrow hnil))
       go_roundg (2-(0+1));case measure=>omega
       case rel=>exact⟨0+1,by omega,rfl,rfl,za ⟨by rw[HE.out];exact hown',((HK.out.2).alloc (by omega) _).grown hgrow (by simp;omega) (zy HK.out.1)⟩⟩
    ·rw[show((1:Nat):Int)=1 from rfl]
     have HR:=H1.out;have HS:Hid (∀q,f.r1=q->K4 f i (1+1)=K4 f i 1++ye i q):=za (fun q e=>by rw[<-e];rfl);have HXX:Hid (∀q,f.r1=q->∀w,(Instr.index 48 (.agg #[.int .i64 f.r0,.int .i64 f.r1]) (.int .i64 1)).run prog w= .ok (.int .i64 q) w):=za (fun q e w=>by rw[HX2.out,e]);have hl1:(K4 f i 1).length<=1:=ji i f.r0;rcases HR with e|e
     all_goals have hx1:=HXX.out _ e
     all_goals replace HS:=za (HS.out _ e)
     all_goals clear e HXX
     ·have HE:Hid (K4 f i (1+1)=K4 f i 1):=za (by rw[HS.out,xS (i:=i) (k:=0) (.inl (by omega)),qO])
      clear HS;go_wp2_with fail;go_roundg (2-(1+1));case measure=>omega
      case rel=>exact⟨1+1,by omega,rfl,rfl,za ⟨by rw[HE.out];exact HK.out.1,HK.out.2⟩⟩
     ·by_cases hn:i.c= -1
      ·have d:(i.c != -1)=false:=by rw[hn];rfl
       have HE:Hid (K4 f i (1+1)=K4 f i 1):=za (by rw[HS.out,xS (i:=i) (k:=3) (.inr hn),qO]);clear HS hn;go_wp2_with (go_at_call 140;(with_reducible refine(HPA.out _).mono ?_);rintro e w4 ⟨rfl,hb4⟩;have HB4:=za hb4;clear hb4);go_roundg (2-(1+1));case measure=>omega
       case rel=>exact⟨1+1,by omega,rfl,rfl,za ⟨by rw[HE.out];exact HK.out.1.later HB4.out,HK.out.2.step HB4.out⟩⟩
      ·have d:(i.c != -1)=true:=by simpa using hn
       have HE:Hid (K4 f i (1+1)=K4 f i 1++ [i.c]):=za (by rw[HS.out,jM (i:=i) (k:=3) (by omega) hn];rfl);clear HS hn
       go_wp2_with (first
        |(go_at_call 140;(with_reducible refine(HPA.out _).mono ?_);rintro e w4 ⟨rfl,hb4⟩;have HB4:=za hb4;have hsz4:=hb4.size;replace HK:=za (And.intro (HK.out.1.later hb4) (HK.out.2.step hb4));obtain⟨k0,k1,k2,k3⟩:=zX (zb HK.out.2 HX1.out);have hsz:=HK.out.2.size;clear hb4)
        |(at_builtin;refine zv _ rfl _ _ rfl w2.heap.size _ _ [i.c] rfl (zu.later HK.out.1 (zd _ _)) (some ⟨_,0,none⟩) 1 rfl (yJ _ _ _) (by simp;omega) (by simp;omega) ?_;intro v' w5 hown' hgrow hnil))
       go_roundg (2-(1+1));case measure=>omega
       case rel=>exact⟨1+1,by omega,rfl,rfl,za ⟨by rw[HE.out];exact hown',((HK.out.2).alloc (by omega) _).grown hgrow (by simp;omega) (zy HK.out.1)⟩⟩
  ·obtain rfl:k=2:=by omega
   go_wp2_with fail;go_ret;exact⟨HB.out.step HK.out.2,_,rfl,by rw[HPL.out];exact HK.out.1.mono HB.out.size⟩
theorem qz(i:zm)(w:World):Calls prog 71 #[vI i] w (zV (.int .i64 (zc i)) w):=by
 have HF:=za (Yn i.op);have HPL:Hid (zc i=if (zM i.op).wr=0 then -1 else vP i ((zM i.op).wr-1).toNat):=za rfl;have HPA:=za (fun w=>J4 i w);obtain⟨-,-,hs⟩:=ZB i.op;have HS:=za hs;clear hs;generalize zc i=r at *;generalize zM i.op=f at *;generalize jA i.op=ok at *;have hy0:=O3 i.a i.b i.c;have HX1:=za (zo w (.cells #[.int .i64 i.op,.int .i64 i.a,.int .i64 i.b,.int .i64 i.c] 85) _ rfl);have HB:=za (zd w (.cells #[.int .i64 i.op,.int .i64 i.a,.int .i64 i.b,.int .i64 i.c] 85));rcases HS.out with e|e
 ·have d:(f.wr==0)=true:=by rw[e];rfl
  have HE:=za (HPL.out.trans (zj e));clear e;go_enter func71,ntmps71;go_wp2_with (go_at_call 139;(with_reducible refine(HF.out _).mono ?_);rintro e w1 ⟨rfl,hb⟩;replace HB:=za (HB.out.step (hb.step (zd w1 (.cells (cF f) 186))));clear hb);go_ret;exact⟨Zq HE.out.symm,HB.out⟩
 ·have d:(f.wr==0)=false:=by rw[e];rfl
  have HE:Hid (r=i.a):=za (by rw[HPL.out,e];rfl);have HW:=za e;clear e;go_enter func71,ntmps71;go_wp2_with (go_at_call 139;(with_reducible refine(HF.out _).mono ?_);rintro e w1 ⟨rfl,hb⟩;replace HX1:=za (zb (hb.step (zd w1 (.cells (cF f) 186))) HX1.out);replace HB:=za (HB.out.step (hb.step (zd w1 (.cells (cF f) 186))));have HX2:=za (zo w1 (.cells (cF f) 186) _ rfl);clear hb);obtain⟨w2,hw2⟩:∃w2,w2=w1.alloc (.cells (cF f) 186):=⟨_,rfl⟩
  have e2:w1.alloc (.cells #[.string ⟨f.name⟩,.int .i64 f.h0,.int .i64 f.h1,.int .i64 f.h2,.int .i64 f.wr,.int .i64 f.r0,.int .i64 f.r1,.bool f.rs,.bool f.en] 186)=w2:=hw2.symm;have e3:w1.alloc (.cells (cF f) 186)=w2:=hw2.symm;rw[e3]at HX1 HB HX2;rw[e2];clear e2 e3 hw2;obtain⟨k0,k1,k2,k3⟩:=zX HX1.out;have kw:w2.cell? ⟨w1.heap.size,4,none⟩=some (.int .i64 1):=by rw[(zA _ _ 4 _ _ _ HX2.out)];show some (Value.int .i64 f.wr)=_;rw[HW.out]
  have q0:=fun d os=>cell_regrown k0 d os
  have q1:=fun d os=>cell_regrown k1 d os
  have q2:=fun d os=>cell_regrown k2 d os
  have q3:=fun d os=>cell_regrown k3 d os
  have qw:=fun d os=>cell_regrown kw d os
  refine wp_region_quiet_below (by kernel_rfl) (by kernel_rfl) ?_
  repeat (go_big_quiet_step ((go_at_call 140;exact Calls.regrown_of (HPA.out _))))
  refine wpQuiet_nil ?_;rintro _ ⟨p9,rfl⟩;have hb:=below_regrown w2 p9.d p9.os;generalize Go.Sort.grow (redrawn w2 p9.d) p9.os=wq at *;go_wp2;go_ret;exact⟨Zq HE.out.symm,HB.out.step hb⟩
structure Oj(α: Type) where
 k:Nat
 c:α-> List Value
 len:∀x,(c x).length=k
 one:∀x,∀u∈c x,u.oneCell'=true
 pos:0<k
section
variable {α: Type} {E:Oj α}
theorem Oj.at(E:Oj α)(l:List α)(i:Nat)(h:i<l.length)(j:Nat)(hj:j<E.k):(l.flatMap E.c)[i*E.k+j]?=(E.c l[i])[j]?:=by
 induction l generalizing i with
 |nil=>exact absurd h (y_ _)
 |cons x l ih=>
  rw[List.flatMap_cons,List.getElem?_append,E.len x]
  cases i with
  |zero=>
   rw[zj (by omega),Nat.zero_mul,jU]
   rfl
  |succ i=>
   rw[zi (by rw[Nat.succ_mul];omega),show(i+1)*E.k+j-E.k=i*E.k+j by rw[Nat.succ_mul];omega];exact ih i (by simpa using h)
theorem Oj.length(E:Oj α)(l:List α):(l.flatMap E.c).length=l.length*E.k:=by
 induction l with
 |nil=>simp
 |cons x l ih=>
  rw[List.flatMap_cons,yV,ih,xv,E.len x,Nat.succ_mul];omega
theorem Oj.ones(E:Oj α)(l:List α):∀u∈l.flatMap E.c,u.oneCell'=true:=by
 intro u hu;rw[List.mem_flatMap]at hu;obtain⟨x,_,hx⟩:=hu;exact E.one x u hx
def VJ(E:Oj α)(w:World)(a:Option Addr)(l:List α):Prop:=
 ∀i (h:i<l.length),∃b off,a=some ⟨b,off,none⟩/\b<w.heap.size/\∀j u,(E.c l[i])[j]?=some u->w.cell? ⟨b,off+i*E.k+j,none⟩=some u
theorem VJ.below{w w':World}{a:Option Addr}{l:List α}(h:VJ E w a l)(hb:Below w.heap.size w w'):VJ E w' a l:=by
 intro i hi;obtain⟨b,off,ha,hlt,h1⟩:=h i hi;exact⟨b,off,ha,xh hlt hb.size,fun j u hu=>zK hb (h1 j u hu)⟩
theorem VJ.nil(w:World)(a:Option Addr):VJ E w a []:=fun _ hi=>absurd hi (y_ _)
theorem VJ.cells{w:World}{b off:Nat}{l:List α}(h:VJ E w (some ⟨b,off,none⟩) l):∀j u,(l.flatMap E.c)[j]?=some u->w.cell? ((⟨b,off,none⟩:Addr).add j)=some u:=by
 intro j u hu
 have hj:j<l.length*E.k:=by
  have:=(ZE.1 hu).1
  rwa [E.length]at this
 have hp:=E.pos;have hi:j / E.k<l.length:=(Nat.div_lt_iff_lt_mul hp).2 hj;obtain⟨b',off',e,hlt,h0⟩:=h (j / E.k) hi;simp only[Option.some.injEq,Addr.mk.injEq,and_true]at e;obtain⟨rfl,rfl⟩:=e;have hk:j % E.k<E.k:=Nat.mod_lt _ hp;have ej:j / E.k*E.k+j % E.k=j:=by rw[Nat.mul_comm];exact Nat.div_add_mod j E.k
 have hc:=E.at l (j / E.k) hi (j % E.k) hk;rw[ej,hu]at hc
 have ea:((⟨b,off,none⟩:Addr).add j)=⟨b,off+j / E.k*E.k+j % E.k,none⟩:=by
  rw[Nat.add_assoc,ej];unfold Addr.add;by_cases h0:j=0
  ·subst h0;simp
  ·simp[h0]
 rw[ea];exact h0 _ _ hc.symm
theorem VJ.take{w:World}{a:Option Addr}{l:List α}(h:VJ E w a l)(n:Nat):VJ E w a (l.take n):=by
 intro i hi;have hi':i<l.length:=by rw[xm]at hi;omega
 obtain⟨b,off,ha,hlt,h1⟩:=h i hi';refine⟨b,off,ha,hlt,?_⟩;rw[List.getElem_take];exact h1
structure P0(E:Oj α)(ts T:TypeId):Prop where
 u:prog.underlying ts=some (.slice T)
 i:∃z bytes,(prog.info? T).map (fun i=>(i.zero,i.size,i.bytes))=some (some z,E.k,bytes)/\z.cells.size=E.k/\bytes<=64
def y9(E:Oj α)(T:TypeId)(w:World)(base:Nat)(v:Value)(l:List α):Prop:=w.ownsRow base T E.k v l.length (l.flatMap E.c)
theorem y9.nil(T:TypeId)(w:World)(base:Nat):y9 E T w base (.slice none 0 0) []:=jd _ _ _ _
theorem y9.rdB{T:TypeId}{w:World}{base:Nat}{v:Value}{l:List α}(h:y9 E T w base v l):∃a cap,v= .slice a l.length cap/\VJ E w a l/\l.length<=cap/\(∀b off,a=some ⟨b,off,none⟩->base<=b/\v.ownBlock=some b):=by
 obtain⟨_,h⟩:=h;rcases h with ⟨rfl,h0⟩|⟨g,cap,cur,rfl,hg,hh,h1,h2,h3,h4⟩
 ·exact⟨none,0,by rw[h0],fun i hi=>by omega,by omega,fun b off e=>by cases e⟩
 ·refine⟨_,cap,rfl,fun i hi=>⟨g,0,rfl,ze hh,fun j u hu=> ?_⟩,h1,fun b off e=>by cases e;exact⟨hg,rfl⟩⟩
  have hj:j<E.k:=by
   have:=(ZE.1 hu).1
   rwa [E.len]at this
  rw[zA _ _ _ _ _ _ hh,jU];have e:(cur.toList.take (l.length*E.k))[i*E.k+j]?=(l.flatMap E.c)[i*E.k+j]?:=by rw[h4]
  have hlt:i*E.k+j<l.length*E.k:=by
   have:(i+1)*E.k<=l.length*E.k:=Nat.mul_le_mul_right _ hi;rw[Nat.succ_mul]at this;omega
  rw[List.getElem?_take,zj hlt,E.at l i hi j hj,hu]at e;simpa using e
theorem y9.rd{T:TypeId}{w:World}{base:Nat}{v:Value}{l:List α}(h:y9 E T w base v l):∃a cap,v= .slice a l.length cap/\VJ E w a l:=by
 obtain⟨a,cap,h1,h2,_⟩:=h.rdB;exact⟨a,cap,h1,h2⟩
theorem y9.later{T:TypeId}{w w':World}{base:Nat}{v:Value}{l:List α}(h:y9 E T w base v l)(hb:Below w.heap.size w w'):y9 E T w' base v l:=Dd h hb
theorem y9.mono{T:TypeId}{w:World}{base base':Nat}{v:Value}{l:List α}(h:y9 E T w base v l)(hb:base'<=base):y9 E T w base' v l:=Lc h hb
theorem y9.none{T:TypeId}{w:World}{base g:Nat}(hb:base<=g)(h:w.heap[g]?=some (.cells #[] T (0,0))):y9 E T w base (.slice (some ⟨g,0,none⟩) 0 0) []:=⟨by simp,.inr ⟨g,0,#[],rfl,hb,h,zI _,zE _,by simp,by simp⟩⟩
theorem Jg{ts T:TypeId}(st:P0 E ts T)(w:World)(base:Nat)(ty:TypeId)(v:Value)(l0 l:List α)(hown:y9 E T w base v l0)(a:Option Addr)(c:Nat)(hl:VJ E w a l)(hs:l0.length+l.length<=1000000)(hb:base<=w.heap.size):
  ∃v' w',(Builtin.append_ #[ts,ts] ty #[v,.slice a l.length c]).run prog w= .ok v' w'/\y9 E T w' base v' (l0++l)/\w.grownBy w' v.ownBlock/\(v'.ownBlock=v.ownBlock\/v'.ownBlock=some w.heap.size):=by
 obtain⟨z,bytes,hi,hz,h64⟩:=st.i;obtain⟨i4,hj4,hy0,hy1,hy2⟩:=info_parts hi
 cases a with
 |none=>
  have hl0:l= []:=by
   cases l with
   |nil=>rfl
   |cons x l=>
    obtain⟨b,off,e,_⟩:=hl 0 (Nat.succ_pos _);cases e
  subst hl0;refine⟨v,w,?_,by rw[qO];exact hown,⟨rfl,rfl,rfl,zI _,fun _ _ _=>rfl⟩,.inl rfl⟩;rcases hown.2 with ⟨rfl,h0⟩|⟨g,cap,cur,rfl,_,_,hnc,_⟩
  ·simp[Builtin.append_,run_underlying st.u,sizeOf,typeInfo,hj4,Builtin.lenOf,Builtin.firstCells]
  ·simp[Builtin.append_,run_underlying st.u,sizeOf,typeInfo,hj4,Builtin.lenOf,Builtin.firstCells,hnc,storeCells]
 |some ad=>
  have hcells:∀j u,(l.flatMap E.c)[j]?=some u->w.cell? (ad.add j)=some u:=by
   cases l with
   |nil=>intro j u hu;simp at hu
   |cons x l=>
    obtain⟨b,off,e,_⟩:=hl 0 (Nat.succ_pos _);injection e with e;subst e;exact hl.cells
  have hbd:(l0.length+l.length)*bytes<=140737488355328:=yP (Nat.mul_le_mul hs h64) (by omega);obtain⟨v',w',h1,h2,h3,_,h5⟩:=run_append_own_at (P:=prog) w base ts ty T i4 _ E.k bytes st.u hj4 hy0 hy1 hy2 hz E.pos v l0.length (l0.flatMap E.c) hown ad l.length c (l.flatMap E.c) (E.length l) hcells (E.ones l) (by unfold maxLen;omega) hbd hb;refine⟨v',w',h1,?_,h3,h5⟩;unfold y9;rw[yV,List.flatMap_append];exact h2
theorem qj{ts T:TypeId}(st:P0 E ts T){ops:Array Oper}{rest:List Oper}{o:Oper}{a:Act}{Q:Exit->Act->World->Prop}(w:World)(hgd:o.guard=none)(s x:Operand)
  (ho:o.op= .call { callee:=.builtin .append,args:=#[s,x],argTypes:=#[ts,ts] }) (base:Nat) (v:Value) (l0 l:List α) (hsv:a.eval s=v) (hown:y9 E T w base v l0) (A:Option Addr) (c:Nat) (hx:a.eval x= .slice A l.length c) (hl:VJ E w A l) (hs:l0.length+l.length<=1000000) (hb:base<=w.heap.size)
  (h:∀v' w',y9 E T w' base v' (l0++l)->w.grownBy w' v.ownBlock->(v'.ownBlock=v.ownBlock\/v'.ownBlock=some w.heap.size)->wpList prog ops Q rest (a.put o.dst v') w'):wpList prog ops Q (o::rest) a w:=by
 refine wpList_plain hgd fun K hK=> ?_
 obtain⟨v',w',hrun,h2,h3,h4⟩:=Jg st w base o.type v l0 l hown A c hl hs hb;unfold Oper.wp execOp;simp only[ho,resolve,invoke,builtin,Sem.run_bind,Sem.run_pure,Result.andThen_ok,List.map_toArray,j9,List.map_nil,hsv,hx,hrun];exact hK _ _ (h v' w' h2 h3 h4)
def AK(E:Oj α)(T:TypeId)(l:List α)(w:World)(e:Ending)(w':World):Prop:=Below w.heap.size w w'/\∃v,e= .returned v/\y9 E T w' w.heap.size v l
theorem V2(w:World)(x:α)(T:TypeId):VJ E (w.alloc (.cells (E.c x).toArray T)) (some ⟨w.heap.size,0,none⟩) [x]:=by
 intro i hi;have:i=0:=by simpa using hi
 subst this;refine⟨_,_,rfl,XX _ _,fun j u hu=> ?_⟩;have hh:=zo w (.cells (E.c x).toArray T) _ rfl;rw[zA _ _ _ _ _ _ hh];simpa using hu
end
def Yo:Oj zm:=⟨4,fun i=> [.int .i64 i.op,.int .i64 i.a,.int .i64 i.b,.int .i64 i.c],fun _=>rfl,fun x u hu=>by simp at hu;rcases hu with rfl|rfl|rfl|rfl<;>rfl,by decide⟩
def Qc:Oj jR:=⟨3,fun g=> [.int .i64 g.frm,.int .i64 g.til,.int .i64 g.at'],fun _=>rfl,fun x u hu=>by simp at hu;rcases hu with rfl|rfl|rfl<;>rfl,by decide⟩
def ZD:Oj (Int×Int):=⟨2,fun p=> [.int .i64 p.1,.int .i64 p.2],fun _=>rfl,fun x u hu=>by simp at hu;rcases hu with rfl|rfl<;>rfl,by decide⟩
theorem Mu:P0 Yo 22 85:=⟨Tryz.underlying22,.agg #[.int .i64 0,.int .i64 0,.int .i64 0,.int .i64 0],32,by kernel_rfl,rfl,by decide⟩
theorem Rm:P0 Qc 23 90:=⟨Tryz.underlying23,.agg #[.int .i64 0,.int .i64 0,.int .i64 0],24,by kernel_rfl,rfl,by decide⟩
theorem Sq:P0 ZD 43 48:=⟨Tryz.underlying43,.agg #[.int .i64 0,.int .i64 0],16,by kernel_rfl,rfl,by decide⟩
theorem Jm{w:World}{a:Option Addr}{l:List zm}:VJ Yo w a l↔Qz w a l:=by
 constructor
 ·intro h i hi
  obtain⟨b,off,ha,hlt,h1⟩:=h i hi;exact⟨b,off,ha,hlt,h1 0 _ rfl,h1 1 _ rfl,h1 2 _ rfl,h1 3 _ rfl⟩
 ·intro h i hi
  obtain⟨b,off,ha,hlt,h0,h1,h2,h3⟩:=h i hi;refine⟨b,off,ha,hlt,fun j u hu=> ?_⟩
  match j with
  |0=>cases hu;exact h0
  |1=>cases hu;exact h1
  |2=>cases hu;exact h2
  |3=>cases hu;exact h3
  |j+4=>simp[Yo]at hu
theorem V3{w:World}{a:Option Addr}{l:List jR}:VJ Qc w a l↔IG w a l:=by
 constructor
 ·intro h i hi
  obtain⟨b,off,ha,hlt,h1⟩:=h i hi;exact⟨b,off,ha,hlt,h1 0 _ rfl,h1 1 _ rfl,h1 2 _ rfl⟩
 ·intro h i hi
  obtain⟨b,off,ha,hlt,h0,h1,h2⟩:=h i hi;refine⟨b,off,ha,hlt,fun j u hu=> ?_⟩
  match j with
  |0=>cases hu;exact h0
  |1=>cases hu;exact h1
  |2=>cases hu;exact h2
  |j+3=>simp[Qc]at hu
def Mh(F:Nat)(lb:Array Value)(p:Int->Bool)(l:List Int)(w:World):Prop:=∀x,x∈l->∀w',Below w.heap.size w w'->Calls prog F (#[.int .i64 x]++lb) w' (zV (.bool (p x)) w')
def xE(F:Nat):Prop:=∀args w,(callFunc F args).run prog w= .ok (.enter F args) w
theorem PL(F:Nat)(eg:xE F)(lb:Array Value)(p:Int->Bool)(l:List Int)(a:Option Addr)(cap:Nat)(w:World)(hk:Mh F lb p l w)(hl:yC w a l)(hll:l.length<=9223372036854775807):
  Calls prog 171 #[.slice a l.length cap,.func (.func F) #[] lb] w (zV (.int .i64 (Ya p l)) w):=by
 have HL:=za hl;clear hl;have HK:=za hk;clear hk;have heg:∀args w,(callFunc F args).run prog w= .ok (.enter F args) w:=eg;clear eg;go_enter func171,ntmps171;go_wp2;go_loopg [8] l.length (fun gh s8 wr=>∃j:Nat,j<=l.length/\gh=l.length-j/\s8= .int .i64 j/\Hid (∀x,x∈l.take j->p x=false)/\Hid (Below w.heap.size w wr));case atStart=>exact⟨0,zE _,rfl,rfl,za (by simp),za (zG _ _)⟩
 case round=>
  obtain⟨j,hj,rfl,rfl,HQ,HB⟩:=hrel;by_cases hlj:j<l.length
  ·obtain⟨b2,off,ha,hlt2,h0⟩:=(HL.out.below HB.out) j hlj
   subst ha;have nj:(j:Int)<(l.length:Int):=by omega
   have HG:=za (YZ (p:=p) (l:=l) (i:=j) hlj);have HT:Hid (l.take (j+1)=l.take j++ [l[j]]):=za (zO hlj);have HKG:=za (HK.out l[j] (yy hlj) wr HB.out);generalize l[j]=g at *
   cases hg:p g with
   |true=>
    rw[hg]at HKG;have HE:=za (HG.out hg HQ.out);clear hg;go_wp2;refine HKG.out.mono ?_;rintro e w' ⟨rfl,hb⟩;have HB2:=za (HB.out.step hb);clear hb;go_wp2;go_ret
    exact⟨Zq HE.out.symm,HB2.out⟩
   |false=>
    rw[hg]at HKG;have HGF:=za hg;clear hg;go_wp2;refine HKG.out.mono ?_;rintro e w' ⟨rfl,hb⟩;have HB2:=za (HB.out.step hb);clear hb;go_wp2;go_roundg (l.length-(j+1));case measure=>omega
    case rel=>
     refine⟨j+1,by omega,rfl,by go_num,za fun x hx=> ?_,HB2⟩;rw[HT.out,qr]at hx;rcases hx with hx|hx
     ·exact HQ.out x hx
     ·rw[qf.1 hx];exact HGF.out
  ·obtain rfl:j=l.length:=by omega
   have HE:=za (Y0 (p:=p) (fun x hx=>HQ.out x (by rw[xL];exact hx)));go_wp2;go_ret;exact⟨Zq HE.out.symm,HB.out⟩
def NP(F:Nat)(lb:Array Value)(p:jR->Bool)(l:List jR)(w:World):Prop:=∀x,x∈l->∀w',Below w.heap.size w w'->Calls prog F (#[vG x]++lb) w' (zV (.bool (p x)) w')
def SX(F:Nat)(lb:Array Value)(p:zm->Bool)(l:List zm)(w:World):Prop:=∀x,x∈l->∀w',Below w.heap.size w w'->Calls prog F (#[vI x]++lb) w' (zV (.bool (p x)) w')
theorem Lu(F:Nat)(eg:xE F)(lb:Array Value)(p:jR->Bool)(l:List jR)(a:Option Addr)(cap:Nat)(w:World)(hk:NP F lb p l w)(hl:IG w a l)(hll:l.length<=9223372036854775807):
  Calls prog 172 #[.slice a l.length cap,.func (.func F) #[] lb] w (zV (.int .i64 (Ya p l)) w):=by
 have HL:=za hl;clear hl;have HK:=za hk;clear hk;have heg:∀args w,(callFunc F args).run prog w= .ok (.enter F args) w:=eg;clear eg;go_enter func172,ntmps172;go_wp2;go_loopg [8] l.length (fun gh s8 wr=>∃j:Nat,j<=l.length/\gh=l.length-j/\s8= .int .i64 j/\Hid (∀x,x∈l.take j->p x=false)/\Hid (Below w.heap.size w wr));case atStart=>exact⟨0,zE _,rfl,rfl,za (by simp),za (zG _ _)⟩
 case round=>
  obtain⟨j,hj,rfl,rfl,HQ,HB⟩:=hrel;by_cases hlj:j<l.length
  ·obtain⟨b2,off,ha,hlt2,h0,h1,h2⟩:=(HL.out.below HB.out) j hlj
   subst ha;have nj:(j:Int)<(l.length:Int):=by omega
   have HG:=za (YZ (p:=p) (l:=l) (i:=j) hlj);have HT:Hid (l.take (j+1)=l.take j++ [l[j]]):=za (zO hlj);have HKG:=za (HK.out l[j] (yy hlj) wr HB.out);generalize l[j]=g at *
   cases hg:p g with
   |true=>
    rw[hg]at HKG;have HE:=za (HG.out hg HQ.out);clear hg;go_wp2;refine HKG.out.mono ?_;rintro e w' ⟨rfl,hb⟩;have HB2:=za (HB.out.step hb);clear hb;go_wp2;go_ret
    exact⟨Zq HE.out.symm,HB2.out⟩
   |false=>
    rw[hg]at HKG;have HGF:=za hg;clear hg;go_wp2;refine HKG.out.mono ?_;rintro e w' ⟨rfl,hb⟩;have HB2:=za (HB.out.step hb);clear hb;go_wp2;go_roundg (l.length-(j+1));case measure=>omega
    case rel=>
     refine⟨j+1,by omega,rfl,by go_num,za fun x hx=> ?_,HB2⟩;rw[HT.out,qr]at hx;rcases hx with hx|hx
     ·exact HQ.out x hx
     ·rw[qf.1 hx];exact HGF.out
  ·obtain rfl:j=l.length:=by omega
   have HE:=za (Y0 (p:=p) (fun x hx=>HQ.out x (by rw[xL];exact hx)));go_wp2;go_ret;exact⟨Zq HE.out.symm,HB.out⟩
theorem E3(F:Nat)(eg:xE F)(lb:Array Value)(p:Int->Bool)(l:List Int)(a:Option Addr)(cap:Nat)(w:World)(hk:Mh F lb p l w)(hl:yC w a l)(hll:l.length<=9223372036854775807):
  Calls prog 99 #[.slice a l.length cap,.func (.func F) #[] lb] w (zV (.bool (l.any p)) w):=by
 have HI:=za (PL F eg lb p l a cap w hk hl hll);have HA:=za (GY p l);clear hk hl eg;generalize l.any p=r at *;generalize Ya p l=i at *;go_enter func99,ntmps99;go_wp2_with (go_at_call 171;refine HI.out.mono ?_;rintro e w' ⟨rfl,hb⟩;have HB:=za hb;clear hb);go_ret;exact⟨zn HA.out,HB.out⟩
theorem Rn(F:Nat)(eg:xE F)(lb:Array Value)(p:jR->Bool)(l:List jR)(a:Option Addr)(cap:Nat)(w:World)(hk:NP F lb p l w)(hl:IG w a l)(hll:l.length<=9223372036854775807):
  Calls prog 214 #[.slice a l.length cap,.func (.func F) #[] lb] w (zV (.bool (l.any p)) w):=by
 have HI:=za (Lu F eg lb p l a cap w hk hl hll);have HA:=za (GY p l);clear hk hl eg;generalize l.any p=r at *;generalize Ya p l=i at *;go_enter func214,ntmps214;go_wp2_with (go_at_call 172;refine HI.out.mono ?_;rintro e w' ⟨rfl,hb⟩;have HB:=za hb;clear hb);go_ret;exact⟨zn HA.out,HB.out⟩
theorem Dx(l:List Int)(x:Int)(a:Option Addr)(cap:Nat)(w:World)(hl:yC w a l)(hll:l.length<=9223372036854775807):
  Calls prog 198 #[.slice a l.length cap,.int .i64 x] w (Q5 (.int .i64 (Ya (fun y=>x==y) l)) w):=by
 have HL:=za hl;clear hl;go_enter func198,ntmps198;go_wp2;go_loopg [8] l.length (fun gh s8 wr=>∃j:Nat,j<=l.length/\gh=l.length-j/\s8= .int .i64 j/\Hid (∀y,y∈l.take j->(x==y)=false)/\Hid (w=wr));case atStart=>exact⟨0,zE _,rfl,rfl,za (by simp),za rfl⟩
 case round=>
  obtain⟨j,hj,rfl,rfl,HQ,HB⟩:=hrel;by_cases hlj:j<l.length
  ·have hrd:=HL.out j hlj
   rw[HB.out]at hrd;obtain⟨b2,off,ha,hlt2,h0⟩:=hrd;subst ha;have nj:(j:Int)<(l.length:Int):=by omega
   have HG:=za (YZ (p:=fun y=>x==y) (l:=l) (i:=j) hlj);have HT:Hid (l.take (j+1)=l.take j++ [l[j]]):=za (zO hlj);generalize l[j]=g at *
   cases hg:(x==g)with
   |true=>
    have HE:=za (HG.out hg HQ.out);go_wp2;go_ret
    exact⟨Zq HE.out.symm,HB.out⟩
   |false=>
    have HGF:=za hg;go_wp2;go_roundg (l.length-(j+1));case measure=>omega
    case rel=>
     refine⟨j+1,by omega,rfl,by go_num,za fun x hx=> ?_,HB⟩;rw[HT.out,qr]at hx;rcases hx with hx|hx
     ·exact HQ.out x hx
     ·rw[qf.1 hx];exact HGF.out
  ·obtain rfl:j=l.length:=by omega
   have HE:=za (Y0 (p:=fun y=>x==y) (fun x hx=>HQ.out x (by rw[xL];exact hx)));go_wp2;go_ret;exact⟨Zq HE.out.symm,HB.out⟩
theorem Xq(l:List Int)(x:Int)(a:Option Addr)(cap:Nat)(w:World)(hl:yC w a l)(hll:l.length<=9223372036854775807):
  Calls prog 141 #[.slice a l.length cap,.int .i64 x] w (Q5 (.bool (l.contains x)) w):=by
 have HI:=za (Dx l x a cap w hl hll);have HA:=za (GY (fun y=>x==y) l);rw[<-List.contains_eq_any_beq]at HA;clear hl;generalize l.contains x=r at *;generalize Ya (fun y=>x==y) l=i at *;go_enter func141,ntmps141;go_wp2_with (go_at_call 198;refine HI.out.mono ?_;rintro e w' ⟨rfl,rfl⟩);go_ret;exact⟨zn HA.out,rfl⟩
def Og(v:Value)(base:Nat)(l:List Int)(w:World)(e:Ending)(w':World):Prop:=∃v',e= .returned v'/\zu w' base v' l/\w.grownBy w' v.ownBlock/\(v'.ownBlock=v.ownBlock\/∃b,v'.ownBlock=some b/\w.heap.size<=b)
theorem UB(l more:List Int)(x:Int):yG l (more++ [x])=if (yG l more).contains x=true then yG l more else yG l more++ [x]:=by
 unfold yG;rw[jc];rfl
theorem qt(l more:List Int):(yG l more).length<=l.length+more.length:=by
 unfold yG
 induction more generalizing l with
 |nil=>exact zI _
 |cons x m ih=>
  rw[qP];refine yP (ih _) ?_;rw[xv];split
  ·omega
  ·rw[yV,Y8];omega
theorem Qa{a b c:World}{r r':Option Nat}(h:a.grownBy b r)(k:b.grownBy c r')(hr:r'=r\/∃x,r'=some x/\a.heap.size<=x):a.grownBy c r:=
 ⟨k.os.trans h.os,k.tape.trans h.tape,k.output.trans h.output,yP h.size k.size,fun i hi hn=>(k.block i (xh hi h.size) (by
  rcases hr with rfl|⟨x,rfl,hx⟩
  ·exact hn
  ·intro e;cases e;omega)).trans (h.block i hi hn)⟩
theorem yC.grown{w w':World}{a:Option Addr}{l:List Int}{r:Option Nat}(h:yC w a l)(hg:w.grownBy w' r)(hn:∀b off,a=some ⟨b,off,none⟩->some b≠r):yC w' a l:=by
 intro i hi;obtain⟨b,off,ha,hlt,h0⟩:=h i hi;exact⟨b,off,ha,xh hlt hg.size,by rw[ZO (w:=w) (hg.block b hlt (hn b off ha))];exact h0⟩
theorem JN(base:Nat)(v:Value)(l more:List Int)(a:Option Addr)(cap:Nat)(w:World)(ho:zu w base v l)(hm:yC w a more)(hlen:l.length+more.length<=1000000)(hn:∀b off,a=some ⟨b,off,none⟩->some b≠v.ownBlock)(hb:base<=w.heap.size):
  Calls prog 74 #[v,.slice a more.length cap] w (Og v base (yG l more) w):=by
 have HO:=za ho;clear ho;have HM:=za hm;clear hm;have HN:=za hn;clear hn;go_enter func74,ntmps74;go_wp2;go_loopg [0,9] more.length (fun gh s0 s9 wr=>∃j:Nat,j<=more.length/\gh=more.length-j/\s9= .int .i64 j/\Hid (zu wr base s0 (yG l (more.take j))/\w.grownBy wr v.ownBlock/\(s0.ownBlock=v.ownBlock\/∃b,s0.ownBlock=some b/\w.heap.size<=b)));case atStart=>exact⟨0,zE _,rfl,rfl,za ⟨HO.out,⟨rfl,rfl,rfl,zI _,fun _ _ _=>rfl⟩,.inl rfl⟩⟩
 case round=>
  obtain⟨j,hj,rfl,rfl,HK⟩:=hrel;by_cases hlj:j<more.length
  ·have hm2:=HM.out.grown HK.out.2.1 HN.out
   obtain⟨b2,off,ha,hlt2,h0⟩:=hm2 j hlj;have HL2:(yG l (more.take j)).length<=1000000-1:=by have:=qt l (more.take j);rw[xm]at this;omega
   subst ha;have nj:(j:Int)<(more.length:Int):=by omega
   have HS:Hid (yG l (more.take (j+1))=if (yG l (more.take j)).contains more[j]=true then yG l (more.take j)else yG l (more.take j)++ [more[j]]):=za (by rw[zO hlj,UB]);obtain⟨v0,hv0⟩:∃v0,v0=u0:=⟨_,rfl⟩
   obtain⟨a1,c1,rfl,hr1⟩:=HK.out.1.rd;have HC:=za (Xq (yG l (more.take j)) more[j] a1 c1 wr hr1 (by omega));generalize more[j]=x at *
   cases hg:(yG l (more.take j)).contains x with
   |true=>
    rw[hg]at HC;rw[zj hg]at HS;clear hg hr1;go_wp2_with (go_at_call 141;(with_reducible refine HC.out.mono ?_);rintro e w' ⟨rfl,rfl⟩);go_roundg (more.length-(j+1));case measure=>omega
    case rel=>exact⟨j+1,by omega,rfl,by go_num,za ⟨by rw[HS.out];exact HK.out.1,HK.out.2⟩⟩
   |false=>
    rw[hg]at HC;rw[zi (by rw[hg];simp)]at HS;clear hg hr1;have hsz:=HK.out.2.1.size
    go_wp2_with (first
     |(go_at_call 141;(with_reducible refine HC.out.mono ?_);rintro e w' ⟨rfl,rfl⟩)
     |(at_builtin;refine zv _ rfl _ _ rfl base _ _ [x] rfl (zu.later HK.out.1 (zd _ _)) (some ⟨_,0,none⟩) 1 rfl (yJ _ _ _) (by simp;omega) (by simp;omega) ?_;intro v' w5 hown' hgrow hat))
    go_roundg (more.length-(j+1));case measure=>omega
    case rel=>
     refine⟨j+1,by omega,rfl,by go_num,za ⟨by rw[HS.out];exact hown',?_,?_⟩⟩
     ·exact Qa (Qa HK.out.2.1 (World.grownBy_alloc _ _ _) (.inl rfl)) hgrow HK.out.2.2
     ·rcases hat with h|h
      ·rw[h];exact HK.out.2.2
      ·exact .inr ⟨_,h,by simp;omega⟩
  ·obtain rfl:j=more.length:=by omega
   go_wp2;go_ret;exact⟨_,rfl,by have:=HK.out.1;rwa [xL]at this,HK.out.2⟩
theorem VE(F:Nat)(eg:xE F)(lb:Array Value)(p:Int->Bool)(l:List Int)(a:Option Addr)(cap:Nat)(w:World)(hk:Mh F lb p l w)(hl:yC w a l)(hll:l.length<=1000000):
  Calls prog 109 #[.slice a l.length cap,.func (.func F) #[] lb] w (Za (l.filter p) w):=by
 have HL:=za hl;clear hl;have HK:=za hk;clear hk;have heg:∀args w,(callFunc F args).run prog w= .ok (.enter F args) w:=eg;clear eg;go_enter func109,ntmps109;go_wp2;go_loopg [5,10] l.length (fun gh s5 s10 wr=>∃j:Nat,j<=l.length/\gh=l.length-j/\s10= .int .i64 j/\Hid (zu wr w.heap.size s5 ((l.take j).filter p)/\Below w.heap.size w wr));case atStart=>exact⟨0,zE _,rfl,rfl,za ⟨jd _ _ _ _,zG _ _⟩⟩
 case round=>
  obtain⟨j,hj,rfl,rfl,HQ⟩:=hrel;by_cases hlj:j<l.length
  ·obtain⟨b2,off,ha,hlt2,h0⟩:=(HL.out.below HQ.out.2) j hlj
   subst ha;have nj:(j:Int)<(l.length:Int):=by omega
   have hlen:((l.take j).filter p).length<=j:=by have:=ZP p (l.take j);rw[xm]at this;omega
   have HT:Hid ((l.take (j+1)).filter p=(l.take j).filter p++(if p l[j]=true then [l[j]]else [])):=za (by rw[zO hlj,List.filter_append];cases h:p l[j]<;>simp[h]);have HKG:=za (HK.out l[j] (yy hlj) wr HQ.out.2);generalize l[j]=g at *
   cases hg:p g with
   |true=>
    rw[hg]at HKG;rw[zj hg]at HT;clear hg;go_wp2;refine HKG.out.mono ?_;rintro e w' ⟨rfl,hb⟩;have HQ2:=za (And.intro (HQ.out.1.later hb) (HQ.out.2.step hb));have hsz:=HQ2.out.2.size;clear hb;go_wp2_with (at_builtin;refine zv _ rfl _ _ rfl w.heap.size _ _ [g] rfl (zu.later HQ2.out.1 (zd _ _)) (some ⟨_,0,none⟩) 1 rfl (yJ _ _ _) (by simp;omega) (by simp;omega) ?_;intro v' w5 hown' hgrow hnil);go_roundg (l.length-(j+1));case measure=>omega
    case rel=>exact⟨j+1,by omega,rfl,by go_num,za ⟨by rw[HT.out];exact hown',((HQ2.out.2).alloc (by omega) _).grown hgrow (by simp;omega) (zy HQ2.out.1)⟩⟩
   |false=>
    rw[hg]at HKG;rw[zi (by rw[hg];simp),qO]at HT;clear hg;go_wp2;refine HKG.out.mono ?_;rintro e w' ⟨rfl,hb⟩;have HQ2:=za (And.intro (HQ.out.1.later hb) (HQ.out.2.step hb));clear hb;go_wp2;go_roundg (l.length-(j+1));case measure=>omega
    case rel=>exact⟨j+1,by omega,rfl,by go_num,za ⟨by rw[HT.out];exact HQ2.out.1,HQ2.out.2⟩⟩
  ·obtain rfl:j=l.length:=by omega
   go_wp2;go_ret;exact⟨HQ.out.2,_,rfl,by have:=HQ.out.1;rwa [xL]at this⟩
theorem Kg(L:List Int)(a:Option Addr)(cap:Nat)(w:World)(hl:yC w a L)(hlen:L.length<=100000):
  Calls prog 108 #[.slice a L.length cap] w (Za L w):=by
 have HL:=za hl;clear hl;have hq:=fun(w:World) (a:Option Addr) (n c:Nat)=>Lib.run_eql_slice_nil (P:=prog) w 28 3 a n c 0 0 Tryz.underlying28
 cases a with
 |none=>
  have hn:L= []:=by
   cases L with
   |nil=>rfl
   |cons x l=>
    obtain⟨b,off,e,_⟩:=HL.out 0 (Nat.succ_pos _);cases e
  subst hn;go_enter func108,ntmps108;go_wp2;go_ret
  exact⟨zG _ _,_,rfl,jd _ _ _ _⟩
 |some a=>
  go_enter func108,ntmps108;go_wp2_with (at_builtin;refine zv _ rfl _ _ rfl w.heap.size _ [] L rfl (zu.none (zI _) (zo _ _ _ rfl)) (some a) cap rfl (HL.out.below (zd _ _)) (by simp;omega) (by simp) ?_;intro v' w3 hown' hgrow hnil;have HG:=za hgrow;have HO:=za hown';clear hgrow hown' hnil);go_ret;exact⟨(zd _ _).grown HG.out (by simp) (zy (zu.none (base:=w.heap.size) (w:=w.alloc (.cells #[] 3)) (zI _) (zo _ _ _ rfl))),_,rfl,by simpa using HO.out⟩
theorem EL(L:List zm)(a:Option Addr)(cap:Nat)(w:World)(hl:VJ Yo w a L)(hlen:L.length<=100000):
  Calls prog 44 #[.slice a L.length cap] w (AK Yo 85 L w):=by
 have HL:=za hl;clear hl;have hq:=fun(w:World) (a:Option Addr) (n c:Nat)=>Lib.run_eql_slice_nil (P:=prog) w 22 85 a n c 0 0 Tryz.underlying22
 cases a with
 |none=>
  have hn:L= []:=by
   cases L with
   |nil=>rfl
   |cons x l=>
    obtain⟨b,off,e,_⟩:=HL.out 0 (Nat.succ_pos _);cases e
  subst hn;go_enter func44,ntmps44;go_wp2;go_ret
  exact⟨zG _ _,_,rfl,y9.nil _ _ _⟩
 |some a=>
  go_enter func44,ntmps44;go_wp2_with (at_builtin;refine qj Mu _ rfl _ _ rfl w.heap.size _ [] L rfl (y9.none (zI _) (zo _ _ _ rfl)) (some a) cap rfl (HL.out.below (zd _ _)) (by simp;omega) (by simp) ?_;intro v' w3 hown' hgrow hnil;have HG:=za hgrow;have HO:=za hown';clear hgrow hown' hnil);go_ret;exact⟨(zd _ _).grown HG.out (by simp) (zy (y9.none (E:=Yo) (T:=85) (base:=w.heap.size) (w:=w.alloc (.cells #[] 85)) (zI _) (zo _ _ _ rfl))),_,rfl,by simpa using HO.out⟩
theorem EK(L:List jR)(a:Option Addr)(cap:Nat)(w:World)(hl:VJ Qc w a L)(hlen:L.length<=100000):
  Calls prog 45 #[.slice a L.length cap] w (AK Qc 90 L w):=by
 have HL:=za hl;clear hl;have hq:=fun(w:World) (a:Option Addr) (n c:Nat)=>Lib.run_eql_slice_nil (P:=prog) w 23 90 a n c 0 0 Tryz.underlying23
 cases a with
 |none=>
  have hn:L= []:=by
   cases L with
   |nil=>rfl
   |cons x l=>
    obtain⟨b,off,e,_⟩:=HL.out 0 (Nat.succ_pos _);cases e
  subst hn;go_enter func45,ntmps45;go_wp2;go_ret
  exact⟨zG _ _,_,rfl,y9.nil _ _ _⟩
 |some a=>
  go_enter func45,ntmps45;go_wp2_with (at_builtin;refine qj Rm _ rfl _ _ rfl w.heap.size _ [] L rfl (y9.none (zI _) (zo _ _ _ rfl)) (some a) cap rfl (HL.out.below (zd _ _)) (by simp;omega) (by simp) ?_;intro v' w3 hown' hgrow hnil;have HG:=za hgrow;have HO:=za hown';clear hgrow hown' hnil);go_ret;exact⟨(zd _ _).grown HG.out (by simp) (zy (y9.none (E:=Qc) (T:=90) (base:=w.heap.size) (w:=w.alloc (.cells #[] 90)) (zI _) (zo _ _ _ rfl))),_,rfl,by simpa using HO.out⟩
end Go.Proofs.YtgalekifgnecjaaGreat
