/- Comparison of numbers and of lists of numbers -/
import Derived.Test.YtgalekifgnecjaaGreatS3
import Derived.Test.YtgalekifgnecjaaGreatC2
import Derived.Deep.RegionWith
namespace Go.Proofs.YtgalekifgnecjaaGreat
open Tryz Go.RowKit
set_option maxHeartbeats 4000000
set_option maxRecDepth 100000
attribute [local go_sem] Oper.semAt_some
def Vh(x y:Int):Int:=if x<y then -1 else if y<x then 1 else 0
def Qe:List Int->List Int->Int
 |x::l,y::m=>if x=y then Qe l m else Vh x y
 |_,_=>0
theorem MP(x:Int)(w:World):Calls prog 138 #[.int .i64 x] w (fun e w'=>e= .returned (.bool false)/\w'=w):=by
 have d:(x !=x)=false:=by simp
 go_enter func138,ntmps138;go_wp2;go_ret;exact⟨rfl,rfl⟩
theorem Nn(x y:Int)(w:World):Calls prog 67 #[.int .i64 x,.int .i64 y] w (fun e w'=>e= .returned (.int .i64 (Vh x y))/\w'=w):=by
 have HN:=za (fun z w=>MP z w);have HE:Hid (Vh x y=if x<y then -1 else if y<x then 1 else 0):=za rfl;generalize Vh x y=r at *;rcases Int.lt_trichotomy x y with h|h|h
 ·rw[zj h]at HE
  have h2:¬y<x:=by omega
  go_enter func67,ntmps67;go_wp2_with (go_at_call 138;(with_reducible refine(HN.out _ _).mono ?_);rintro e w' ⟨rfl,rfl⟩);go_ret;exact⟨by rw[HE.out];rfl,rfl⟩
 ·subst h
  have h2:¬x<x:=by omega
  rw[zi h2,zi h2]at HE;go_enter func67,ntmps67;go_wp2_with (go_at_call 138;(with_reducible refine(HN.out _ _).mono ?_);rintro e w' ⟨rfl,rfl⟩);go_ret;exact⟨by rw[HE.out];rfl,rfl⟩
 ·have h2:¬x<y:=by omega
  rw[zi h2,zj h]at HE;have h3:y<x:=h;go_enter func67,ntmps67;go_wp2_with (go_at_call 138;(with_reducible refine(HN.out _ _).mono ?_);rintro e w' ⟨rfl,rfl⟩);go_ret;exact⟨by rw[HE.out];rfl,rfl⟩
theorem Uw{x y:Int}:Vh x y=0↔x=y:=by
 unfold Vh;split
 ·omega
 ·split<;>omega
theorem Is(l m:List Int)(a b:Option Addr)(ac bc:Nat)(w:World)(hl:yC w a l)(hm:yC w b m)(he:m.length=l.length)(hll:l.length<=1000000):
  Calls prog 21 #[.slice a l.length ac,.slice b l.length bc] w (fun e w'=>e= .returned (.int .i64 (Qe l m))/\w'=w):=by
 have HL:=za hl;have HM:=za hm;have HE:=za he;have HC:=za (fun x y w=>Nn x y w);clear hl hm he;have n9:¬(l.length:Int)<(l.length:Int):=by omega
 go_enter func21,ntmps21;go_wp2;go_loopg [11] l.length (fun gh s11 wr=>∃k:Nat,k<=l.length/\gh=l.length-k/\s11= .int .i64 k/\Hid (Qe l m=Qe (l.drop k) (m.drop k))/\wr=w);case atStart=>exact⟨0,zE _,rfl,rfl,za rfl,rfl⟩
 case round=>
  obtain⟨k,hk,rfl,rfl,HQ,rfl⟩:=hrel;by_cases hlk:k<l.length
  ·have hmk:k<m.length:=by rw[HE.out];exact hlk
   obtain⟨b1,o1,ha1,_,h1⟩:=HL.out k hlk;obtain⟨b2,o2,ha2,_,h2⟩:=HM.out k hmk;subst ha1 ha2;have nk:(k:Int)<(l.length:Int):=by omega
   have nk2:¬(l.length:Int)<=(k:Int):=by omega
   have HD:Hid (Qe (l.drop k) (m.drop k)=if l[k]=m[k]then Qe (l.drop (k+1)) (m.drop (k+1))else Vh l[k] m[k]):=za (by rw[List.drop_eq_getElem_cons hlk,List.drop_eq_getElem_cons hmk];rfl);generalize l[k]=x at *;generalize m[k]=y at *;by_cases hxy:x=y
   ·rw[zj hxy]at HD
    have HC0:Hid (Vh x y=0):=za (Uw.2 hxy);clear hxy;have HCC:=za (fun w=>HC.out x y w);rw[HC0.out]at HCC;go_wp2_with (go_at_call 67;(with_reducible refine(HCC.out _).mono ?_);rintro e w' ⟨rfl,rfl⟩);go_roundg (l.length-(k+1));case measure=>omega
    case rel=>exact⟨k+1,by omega,rfl,by go_num,za (HQ.out.trans HD.out),rfl⟩
   ·rw[zi hxy]at HD
    have hne:Vh x y≠0:=fun h=>hxy (Uw.1 h)
    have d:(Vh x y !=0)=true:=by simpa using hne
    clear hxy hne;generalize hcc:Vh x y=c at *;have HCC:=za (fun w=>HC.out x y w);rw[hcc]at HCC;have HCE:=za hcc;clear hcc;go_wp2_with (go_at_call 67;(with_reducible refine(HCC.out _).mono ?_);rintro e w' ⟨rfl,rfl⟩);go_ret;exact⟨by rw[HQ.out,HD.out];rfl,rfl⟩
  ·obtain rfl:k=l.length:=by omega
   have HZ:Hid (Qe (l.drop l.length) (m.drop l.length)=0):=za (by rw[List.drop_length];rfl);go_wp2;go_ret;exact⟨by rw[HQ.out,HZ.out];rfl,rfl⟩
def JI(p q:Int×Int):Int:=Qe [p.1,p.2] [q.1,q.2]
theorem OA(w:World)(p:Int×Int)(b:Nat)(T:TypeId)(h:w.heap[b]?=some (.cells #[.int .i64 p.1,.int .i64 p.2] T)):yC w (some ⟨b,0,none⟩) [p.1,p.2]:=by
 intro i hi;refine⟨b,0,rfl,ze h,?_⟩;have hi2:i<2:=hi;rcases(show i=0\/i=1 by omega)with rfl|rfl
 ·exact(zA _ _ 0 _ _ _ h).trans rfl
 ·exact(zA _ _ 1 _ _ _ h).trans rfl
theorem S_(x y:Int×Int)(w:World):Calls prog 65 #[.agg #[.int .i64 x.1,.int .i64 x.2],.agg #[.int .i64 y.1,.int .i64 y.2]] w fun e w'=>e= .returned (.int .i64 (JI x y))/\∃q os',w'=Go.Sort.grow (w.drewN q) os':=by
 have HX0:=za (zb (zd _ (.cells #[.int .i64 y.1,.int .i64 y.2] 48)) (zo w (.cells #[.int .i64 x.1,.int .i64 x.2] 48) _ rfl));have HX1:=za (zo (w.alloc (.cells #[.int .i64 x.1,.int .i64 x.2] 48)) (.cells #[.int .i64 y.1,.int .i64 y.2] 48) (w.heap.size+1) (by simp))
 have HC:Hid (Calls prog 21 #[.slice (some ⟨w.heap.size,0,none⟩) 2 2,.slice (some ⟨w.heap.size+1,0,none⟩) 2 2] ((w.alloc (.cells #[.int .i64 x.1,.int .i64 x.2] 48)).alloc (.cells #[.int .i64 y.1,.int .i64 y.2] 48)).drew (fun e w'=>e= .returned (.int .i64 (JI x y))/\w'=((w.alloc (.cells #[.int .i64 x.1,.int .i64 x.2] 48)).alloc (.cells #[.int .i64 y.1,.int .i64 y.2] 48)).drew)):=za
  (Is [x.1,x.2] [y.1,y.2] (some ⟨w.heap.size,0,none⟩) (some ⟨w.heap.size+1,0,none⟩) 2 2 _ (OA _ x _ 48 HX0.out) (OA _ y _ 48 HX1.out) rfl (by simp))
 go_enter func65,ntmps65;go_upto_region 1 with fail;go_region_with (go_at_call 21;(with_reducible refine HC.out.mono ?_);rintro e w' ⟨rfl,rfl⟩)
 all_goals
  go_wp2;go_ret;refine⟨rfl,1,#[.cells #[.int .i64 x.1,.int .i64 x.2] 48,.cells #[.int .i64 y.1,.int .i64 y.2] 48],?_⟩;rw[Go.Sort.alloc_eq_grow,Go.Sort.alloc_eq_grow,Go.Sort.grow_grow,Go.Sort.drew_grow];rfl
end Go.Proofs.YtgalekifgnecjaaGreat
