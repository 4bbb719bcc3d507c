/- replaced of package regs, at any instruction -/
import Derived.Test.YtgalekifgnecjaaGreatT15
import Derived.Test.YtgalekifgnecjaaGreatN6
import Derived.Test.YtgalekifgnecjaaGreatS6
namespace Go.Proofs.YtgalekifgnecjaaGreat
open Tryz Go.RowKit
open Go.RowKit Go.Shelf
theorem FZ{x:zm}(h:(zM x.op).r0=1)(h0:0<=x.a):x.a∈zp x:=by
 unfold zp ye;rw[h];exact List.mem_append_left _ (by rw[zj ⟨by omega,by show x.a≠ -1;omega⟩];exact qf.2 rfl)
theorem Gy{x:zm}(h:(zM x.op).r0=2)(h0:0<=x.b):x.b∈zp x:=by
 unfold zp ye;rw[h];exact List.mem_append_left _ (by rw[zj ⟨by omega,by show x.b≠ -1;omega⟩];exact qf.2 rfl)
theorem FY{x:zm}(h:(zM x.op).r1=3)(h0:0<=x.c):x.c∈zp x:=by
 unfold zp ye;rw[h];exact List.mem_append_right _ (by rw[zj ⟨by omega,by show x.c≠ -1;omega⟩];exact qf.2 rfl)
theorem Q7{x:zm}(h:0<=zc x):zc x=x.a:=by
 unfold zc at *;rcases(ZB x.op).2.2 with e|e
 ·rw[zj e]at h;omega
 ·rw[zi (by omega),e];rfl
theorem Jh(x:zm)(F1 F2:Nat)(e1:xE F1)(e2:xE F2)(lb1 lb2:Array Value)(rd wr:Int->Option Int)(D1 D2:Int->Prop)(w:World)(hr:Ob F1 lb1 rd D1 w)(hw:Ob F2 lb2 wr D2 w)(hD1:∀s∈zp x,D1 s)(hD2:0<=zc x->D2 (zc x)):
  Calls prog 113 #[vI x,.func (.func F1) #[] lb1,.func (.func F2) #[] lb2] w (Ks (vz x rd wr) w):=by
 have h2:0<=zc x->0<=x.a->D2 x.a:=fun h _=>by rw[<-Q7 h];exact hD2 h
 obtain⟨op,A,B,C⟩:=x;by_cases hB:op=4\/op=11\/op=15\/op=16\/op=17\/op=20
 ·exact Pv op hB A B C F1 F2 e1 e2 lb1 lb2 rd wr D1 D2 w hr hw h2 (fun h0=>hD1 _ (Gy (x:=⟨op,A,B,C⟩) (show(zM op).r0=2 from by rcases hB with rfl|rfl|rfl|rfl|rfl|rfl<;>decide) h0))
 by_cases hE:op=18\/op=19
 ·exact Pu op hE A B C F1 F2 e1 e2 lb1 lb2 rd wr D1 D2 w hr hw h2 (fun h0=>hD1 _ (Gy (x:=⟨op,A,B,C⟩) (show(zM op).r0=2 from by rcases hE with rfl|rfl<;>decide) h0))
 by_cases hBC:op=6\/op=7\/op=8\/op=9\/op=10\/op=12\/op=13\/op=14
 ·exact Mz op hBC A B C F1 F2 e1 e2 lb1 lb2 rd wr D1 D2 w hr hw h2 (fun h0=>hD1 _ (Gy (x:=⟨op,A,B,C⟩) (show(zM op).r0=2 from by rcases hBC with rfl|rfl|rfl|rfl|rfl|rfl|rfl|rfl<;>decide) h0)) (fun h0=>hD1 _ (FY (x:=⟨op,A,B,C⟩) (show(zM op).r1=3 from by rcases hBC with rfl|rfl|rfl|rfl|rfl|rfl|rfl|rfl<;>decide) h0))
 by_cases hA:op=22\/op=23\/op=28\/op=29\/op=25\/op=30\/op=32
 ·exact Pw op hA A B C F1 F2 e1 e2 lb1 lb2 rd wr D1 D2 w hr hw h2 (fun h0=>hD1 _ (FZ (x:=⟨op,A,B,C⟩) (show(zM op).r0=1 from by rcases hA with rfl|rfl|rfl|rfl|rfl|rfl|rfl<;>decide) h0))
 exact Mx op (fun h=>hB (by rw[h];decide)) (fun h=>hB (by rw[h];decide)) (fun h=>hB (by rw[h];decide)) (fun h=>hB (by rw[h];decide)) (fun h=>hB (by rw[h];decide)) (fun h=>hE (by rw[h];decide)) (fun h=>hE (by rw[h];decide)) (fun h=>hB (by rw[h];decide)) (fun h=>hBC (by rw[h];decide)) (fun h=>hBC (by rw[h];decide)) (fun h=>hBC (by rw[h];decide)) (fun h=>hBC (by rw[h];decide)) (fun h=>hBC (by rw[h];decide)) (fun h=>hBC (by rw[h];decide)) (fun h=>hBC (by rw[h];decide)) (fun h=>hBC (by rw[h];decide)) (fun h=>hA (by rw[h];decide)) (fun h=>hA (by rw[h];decide)) (fun h=>hA (by rw[h];decide)) (fun h=>hA (by rw[h];decide)) (fun h=>hA (by rw[h];decide)) (fun h=>hA (by rw[h];decide)) (fun h=>hA (by rw[h];decide)) A B C F1 F2 e1 e2 lb1 lb2 rd wr D1 D2 w hr hw h2
attribute [local go_sem] Oper.semAt_some
attribute [local irreducible] wpStill
structure Sc(w0:World)(r:qF)(a b1 b2:Nat)(x:YK)(w:World):Prop where
 hi:RI w0 r a w
 h1:w.heap[b1]?=some (.cells #[.pointer (some ⟨w0.heap.size,0,none⟩)] 177)
 h2:w.heap[b2]?=some (.cells #[.int .i64 x.g.frm,.int .i64 x.g.til,.slice x.a x.g.reads.length x.c,.int .i64 x.g.wr] 107)
theorem Sc.below{w0:World}{r:qF}{a b1 b2:Nat}{x:YK}{w w':World}(h:Sc w0 r a b1 b2 x w)(hb:Below w.heap.size w w'):Sc w0 r a b1 b2 x w':=⟨h.hi.below hb,zb hb h.h1,zb hb h.h2⟩
theorem ON{u:zg}(hp:zJ u=true){t:Nat}(ht:t<u.code.length):∀p∈Zc u t,0<=p/\p<u.code.length:=by
 intro p hp2;rw[GH,qs]at hp2;rcases hp2 with h|h
 ·exact Zm hp ht p h
 ·unfold GE at h
  split at h
  ·rename_i hc
   simp only[yi,yB]at hc;have hg:(zD u t).toNat<u.guards.length:=by have:=JB u t;omega
   rw[qf.1 h,zk hg];have:=Zv hp hg;omega
  ·simp at h
theorem Qq(u:zg)(t:Nat):(Zc u t).length<=3:=by
 rw[GH];have h1:=qt (yU u t) (GE u t);have h2:=Zl u t;have h3:(GE u t).length<=1:=by unfold GE;split<;>simp
 omega
structure Mm(u:zg)(g:xd):Prop where
 lt:g.til<u.code.length
 le:g.frm<=g.til
 rd:∀s∈g.reads,0<=s/\s<u.slots
 wr:g.wr=zc (u.code.getD g.til zw)
 ra:∀i,g.frm<=i->i<=g.til->∀s∈zp (u.code.getD i zw),s∈g.reads
 rq:g.reads=yu u.code g.frm g.til
theorem vV{code:List zm}{i j:Nat}{s:Int}:s∈yu code i j↔∃y∈(code.drop i).take (j+1-i),s∈zp y:=by
 have h:∀(l:List zm) (acc:List Int),s∈l.foldl (fun l x=>yG l (zp x)) acc↔s∈acc\/∃y∈l,s∈zp y:=by
  intro l
  induction l with
  |nil=>intro acc;simp
  |cons y l ih=>
   intro acc;rw[qP,ih,qs];simp only[xK,exists_eq_or_imp];constructor
   ·rintro((h|h)|h)
    ·exact .inl h
    ·exact .inr (.inl h)
    ·exact .inr (.inr h)
   ·rintro(h|h|h)
    ·exact .inl (.inl h)
    ·exact .inl (.inr h)
    ·exact .inr h
 unfold yu;rw[h];simp
theorem Uq{u:zg}(hw:zC u=true):∀(f i:Nat),∀g∈jE u.code (zl u.code) f i,Mm u g
 |0,_,g,h=>by simp[jE]at h
 |f+1,i,g,h=>by
  unfold jE at h;split at h
  ·rename_i hi
   rcases xK.1 h with rfl|h
   ·have hfl:(zl u.code).length=u.code.length:=z_ u.code u.code.length
    have hlt:zS (zl u.code) i<u.code.length:=by rw[<-hfl];exact vD (by rw[hfl];exact hi)
    refine⟨hlt,jp _ _,fun s hs=> ?_,rfl,fun k h1 h2 s hs=> ?_,rfl⟩
    ·obtain⟨y,hy,hs2⟩:=vV.1 hs
     obtain⟨k,hk,rfl⟩:=List.getElem_of_mem (List.mem_of_mem_drop (List.mem_of_mem_take hy));exact qG hw hk s hs2
    ·have h1':i<=k:=h1
     have h2':k<=zS (zl u.code) i:=h2;have hk:k<u.code.length:=by omega
     rw[zk hk]at hs;refine vV.2 ⟨u.code[k],?_,hs⟩;rw[List.mem_iff_getElem];refine⟨k-i,by rw[xm,jH];omega,?_⟩;rw[List.getElem_take,List.getElem_drop];congr 1;omega
   ·exact Uq hw f _ g h
  ·simp at h
theorem jq{u:zg}(hw:zC u=true){g:xd}(hg:g∈yg u):Mm u g:=Uq hw _ _ g hg
theorem M1{α: Type}{p q:Prop}[Decidable p][Decidable q](h:p↔q)(x y:α):(if p then x else y)=if q then x else y:=by
 by_cases hp:p
 ·rw[zj hp,zj (h.1 hp)]
 ·rw[zi hp,zi (fun hq=>hp (h.2 hq))]
theorem Je(y:Int)(f:Int->Option Int):ZG y f=if (0<=y->(f y).isSome=true)then some (qg y fun s=>(f s).getD 0)else none:=by
 unfold ZG qg;by_cases h:0<=y
 ·rw[zj h,zj h]
  cases hf:f y with
  |none=>rw[zi (by intro h2;have:=h2 h;simp at this)]
  |some v=>
   rw[zj (by intro _;rfl)];show some v=some ((f y).getD 0);rw[hf];rfl
 ·rw[zi h,zi h,zj (fun h2=>absurd h2 h)]
theorem FP(x:zm)(wr:Int->Option Int):Zb x wr=if (0<=zc x->(wr (zc x)).isSome=true)then some (if 0<=zc x then qg x.a (fun s=>(wr s).getD 0)else x.a)else none:=by
 unfold Zb;by_cases h:0<=zc x
 ·rw[zj h,zj h,Je,Q7 h]
 ·rw[zi h,zi h,zj (fun h2=>absurd h2 h)]
theorem RH(x:zm)(P:Int->Prop):(∀s∈ye x 1,P s)↔(x.a≠ -1->P x.a):=by
 unfold ye;show(∀s∈(if 0<(1:Int)/\x.a≠ -1 then [x.a]else []),P s)↔_;by_cases h:x.a= -1<;>simp[h]
theorem MD(x:zm)(P:Int->Prop):(∀s∈ye x 2,P s)↔(x.b≠ -1->P x.b):=by
 unfold ye;show(∀s∈(if 0<(2:Int)/\x.b≠ -1 then [x.b]else []),P s)↔_;by_cases h:x.b= -1<;>simp[h]
theorem RG(x:zm)(P:Int->Prop):(∀s∈ye x 3,P s)↔(x.c≠ -1->P x.c):=by
 unfold ye;show(∀s∈(if 0<(3:Int)/\x.c≠ -1 then [x.c]else []),P s)↔_;by_cases h:x.c= -1<;>simp[h]
theorem RV:∀op∈V4,(zM op).r0=1/\(zM op).r1=0/\(zM op).wr=0:=by decide
theorem PR:∀op∈Yy,(zM op).r0=2/\(zM op).r1=3:=by decide
theorem RT:∀op∈rdB,(zM op).r0=2/\(zM op).r1=0:=by decide
theorem PQ:∀k∈List.range 35,(k≠34/\V4.contains (Int.ofNat k)=false/\Yy.contains (Int.ofNat k)=false/\rdB.contains (Int.ofNat k)=false)->(Zz.getD k jT).r0=0/\(Zz.getD k jT).r1=0:=by decide
theorem RS{op:Int}(h:op≠34)(h1:V4.contains op=false)(h2:Yy.contains op=false)(h3:rdB.contains op=false):(zM op).r0=0/\(zM op).r1=0:=by
 unfold zM
 cases ho:jA op with
 |false=>exact⟨rfl,rfl⟩
 |true=>
  rw[zj rfl];have hb:1<=op/\op<=34:=by unfold jA at ho;simpa using ho
  obtain⟨k,rfl⟩:∃k:Nat,op=(k:Int):=⟨op.toNat,by omega⟩
  exact PQ k (yR.2 (by omega)) ⟨by omega,h1,h2,h3⟩
theorem K2(x:zm)(P:Int->Prop):(∀s∈zp x,P s)↔(∀s∈ye x (zM x.op).r0,P s)/\∀s∈ye x (zM x.op).r1,P s:=by
 unfold zp;constructor
 ·intro h
  exact⟨fun s hs=>h s (List.mem_append_left _ hs),fun s hs=>h s (List.mem_append_right _ hs)⟩
 ·rintro⟨h1,h2⟩ s hs
  rcases qr.1 hs with h|h
  ·exact h1 s h
  ·exact h2 s h
theorem ME(x:zm)(P:Int->Prop):(∀s∈ye x 0,P s):=by
 unfold ye;simp
theorem nn{y:Int}{P:Prop}(h:y≠ -1->0<=y):(y≠ -1->P)↔(0<=y->P):=⟨fun h1 h2=>h1 (by omega),fun h1 h2=>h1 (h h2)⟩
theorem Ov(x:zm)(rd wr:Int->Option Int)(hop:x.op≠34)(hrd:∀s∈zp x,0<=s):
  vz x rd wr=if (∀s∈zp x,(rd s).isSome=true)/\(0<=zc x->(wr (zc x)).isSome=true)then some (zY x (fun s=>(rd s).getD 0) (fun s=>(wr s).getD 0))else none:=by
 rw[K2]at hrd;have hra:=K2 x (fun s=>(rd s).isSome=true);unfold vz;rw[FP]
 cases h1:V4.contains x.op with
 |true=>
  obtain⟨e1,e2,e3⟩:=RV x.op (xn.1 h1);have hw:¬0<=zc x:=by unfold zc;rw[zj e3];omega
  rw[e1,e2]at hrd;rw[RH]at hrd;rw[e1,e2,RH,nn hrd.1]at hra;have hra2:(∀s∈zp x,(rd s).isSome=true)↔(0<=x.a->(rd x.a).isSome=true):=hra.trans ⟨fun h=>h.1,fun h=>⟨h,ME x _⟩⟩;rw[M1 (and_congr hra2 Iff.rfl)];have hI:zY x (fun s=>(rd s).getD 0) (fun s=>(wr s).getD 0)=⟨x.op,qg x.a (fun s=>(rd s).getD 0),x.b,x.c⟩:=by unfold zY;rw[zj h1]
  rw[hI,zj (fun h=>absurd h hw),zi hw,xz,zj rfl,Je];by_cases hc:0<=x.a->(rd x.a).isSome=true
  ·rw[zj hc,zj ⟨hc,fun h=>absurd h hw⟩];rfl
  ·rw[zi hc,zi (fun h=>hc h.1)];rfl
 |false=>
 cases h2:Yy.contains x.op with
 |true=>
  obtain⟨e1,e2⟩:=PR x.op (xn.1 h2);rw[e1,e2,MD,RG]at hrd;rw[e1,e2,MD,RG,nn hrd.1,nn hrd.2]at hra;rw[M1 (and_congr hra Iff.rfl)];have hI:zY x (fun s=>(rd s).getD 0) (fun s=>(wr s).getD 0)=⟨x.op,if 0<=zc x then qg x.a (fun s=>(wr s).getD 0)else x.a,qg x.b (fun s=>(rd s).getD 0),qg x.c (fun s=>(rd s).getD 0)⟩:=by unfold zY;rw[zi (by rw[h1];simp),zj h2]
  rw[hI];generalize (if 0<=zc x then qg x.a (fun s=>(wr s).getD 0)else x.a)=A;by_cases hw:0<=zc x->(wr (zc x)).isSome=true
  ·rw[zj hw,xz,zi (by simp),zj rfl,Je,Je]
   by_cases hb:0<=x.b->(rd x.b).isSome=true
   ·rw[zj hb,xz]
    by_cases hc:0<=x.c->(rd x.c).isSome=true
    ·rw[zj hc,zj ⟨⟨hb,hc⟩,hw⟩];rfl
    ·rw[zi hc,zi (fun h=>hc h.1.2)];rfl
   ·rw[zi hb,Option.bind_none,zi (fun h=>hb h.1.1)]
  ·rw[zi hw,zi (fun h=>hw h.2)];rfl
 |false=>
 cases h3:rdB.contains x.op with
 |true=>
  obtain⟨e1,e2⟩:=RT x.op (xn.1 h3);rw[e1,e2,MD]at hrd;rw[e1,e2,MD,nn hrd.1]at hra;have hra2:(∀s∈zp x,(rd s).isSome=true)↔(0<=x.b->(rd x.b).isSome=true):=hra.trans ⟨fun h=>h.1,fun h=>⟨h,ME x _⟩⟩;rw[M1 (and_congr hra2 Iff.rfl)];have hI:zY x (fun s=>(rd s).getD 0) (fun s=>(wr s).getD 0)=⟨x.op,if 0<=zc x then qg x.a (fun s=>(wr s).getD 0)else x.a,qg x.b (fun s=>(rd s).getD 0),x.c⟩:=by unfold zY;rw[zi (by rw[h1];simp),zi (by rw[h2];simp),zj h3]
  rw[hI];generalize (if 0<=zc x then qg x.a (fun s=>(wr s).getD 0)else x.a)=A;by_cases hw:0<=zc x->(wr (zc x)).isSome=true
  ·rw[zj hw,xz,zi (by simp),zi (by simp),zj rfl,Je]
   by_cases hb:0<=x.b->(rd x.b).isSome=true
   ·rw[zj hb,zj ⟨hb,hw⟩];rfl
   ·rw[zi hb,zi (fun h=>hb h.1)];rfl
  ·rw[zi hw,zi (fun h=>hw h.2)];rfl
 |false=>
  obtain⟨e1,e2⟩:=RS hop h1 h2 h3;have hI:zY x (fun s=>(rd s).getD 0) (fun s=>(wr s).getD 0)=⟨x.op,if 0<=zc x then qg x.a (fun s=>(wr s).getD 0)else x.a,x.b,x.c⟩:=by unfold zY;rw[zi (by rw[h1];simp),zi (by rw[h2];simp),zi (by rw[h3];simp)]
  rw[e1,e2]at hra;have hra2:(∀s∈zp x,(rd s).isSome=true)↔True:=hra.trans ⟨fun _=>trivial,fun _=>⟨ME x _,ME x _⟩⟩;rw[hI,M1 (and_congr hra2 Iff.rfl)];generalize (if 0<=zc x then qg x.a (fun s=>(wr s).getD 0)else x.a)=A;by_cases hw:0<=zc x->(wr (zc x)).isSome=true
  ·rw[zj hw,xz,zi (by simp),zi (by simp),zi (by simp),zj ⟨trivial,hw⟩]
  ·rw[zi hw,zi (fun h=>hw h.2)];rfl
theorem El(m:List (Int×Int))(s v t:Int):ZL (m++ [(s,v)]) t=if t=s then some v else ZL m t:=by
 unfold ZL;rw[List.reverse_append,List.reverse_singleton,List.singleton_append,List.find?_cons];by_cases h:t=s
 ·subst h
  simp
 ·rw[zi h,show(((s,v):Int×Int).1==t)=false by simpa using fun e:s=t=>h e.symm]
theorem DV(x v:Int):∀(L:List (Int×Int)) (t:Int),jZ (putM x v L) t=if t=x then some v else jZ L t:=by
 intro L t;unfold putM jZ;rw[List.find?_cons];by_cases h:t=x
 ·subst h
  simp
 ·rw[zi h,show decide (((x,v):Int×Int).1=t)=false from yn (fun e=>h e.symm)]
  congr 1
  induction L with
  |nil=>rfl
  |cons p L ih=>
   rw[vH];by_cases hp:p.1=x
   ·rw[show(!decide (p.1=x))=false by simp[hp]]
    rw[List.find?_cons,show decide (p.1=t)=false from yn (fun e=>h (e.symm.trans hp))];exact ih
   ·rw[show(!decide (p.1=x))=true by simp[hp],zj rfl,List.find?_cons,List.find?_cons]
    by_cases ht:p.1=t
    ·rw[show decide (p.1=t)=true from zP ht]
    ·rw[show decide (p.1=t)=false from yn ht]
     exact ih
theorem F4(x v:Int)(L:List (Int×Int)):(putM x v L).length<=L.length+1:=by
 unfold putM;rw[xv];have:=ZP (fun p:Int×Int=> !decide (p.1=x)) L;omega
theorem UX(code:List zm)(i j:Nat):(yu code i j).length<=2*(j+1-i):=by
 have h:∀(l:List zm) (acc:List Int),(l.foldl (fun l x=>yG l (zp x)) acc).length<=acc.length+2*l.length:=by
  intro l
  induction l with
  |nil=>intro acc;simp
  |cons y l ih=>
   intro acc;rw[qP];refine yP (ih _) ?_;have h1:=qt acc (zp y);have h2:=xD y;rw[xv];omega
 unfold yu;refine yP (h _ _) ?_;have:=List.length_take_le (j+1-i) (code.drop i);simp only[List.length_nil];omega
theorem PI{v:zg}{h reads needed had:List Int}{f a:Nat}{m:List (Int×Int)}(hx:v.code[a]?=none):vL v h reads needed (f+1) a had m=some (a,m):=by
 rw[vL,hx]
theorem MV{v:zg}{h reads needed had:List Int}{f a:Nat}{m:List (Int×Int)}{x:zm}(hx:v.code[a]?=some x)(ho:x.op≠33):vL v h reads needed (f+1) a had m=some (a,m):=by
 rw[vL,hx];exact zj ho
theorem MX{v:zg}{h reads needed had:List Int}{f a:Nat}{m:List (Int×Int)}{x:zm}(hx:v.code[a]?=some x)(ho:x.op=33)(hd:XA v h reads needed x had=true):vL v h reads needed (f+1) a had m=vL v h reads needed f (a+1) (had++ [x.a]) (GQ h reads x m):=by
 rw[vL,hx];show(if x.op≠33 then _ else _)=_;rw[zi (fun h=>h ho),zj hd]
theorem MW{v:zg}{h reads needed had:List Int}{f a:Nat}{m:List (Int×Int)}{x:zm}(hx:v.code[a]?=some x)(ho:x.op=33)(hd:XA v h reads needed x had=false):vL v h reads needed (f+1) a had m=none:=by
 rw[vL,hx];show(if x.op≠33 then _ else _)=_;rw[zi (fun h=>h ho),zi (by rw[hd];simp)]
structure Sa(u v:zg)(h t:List Int):Prop where
 hl:(h.length:Int)=u.slots
 tl:t.length=u.code.length
 vs:1<=v.slots/\v.slots<=u.slots
 vf:0<=v.frame/\v.frame<=200
 vc:v.code.length<=600
 hb:∀s:Int,0<=s->s<u.slots-> -202<=zh h s/\zh h s<=200
theorem O7{u v:zg}{h t:List Int}(hw:zC u=true)(hm:qk u v h t=true):Sa u v h t:=by
 unfold qk at hm;simp only[yi,yB,qE,yL,yR]at hm;obtain⟨⟨⟨⟨⟨⟨⟨⟨⟨h1,h2⟩,_⟩,_⟩,_⟩,h3⟩,h4⟩,h5⟩,h6⟩,_⟩:=hm;have hs:=zL hw;have e3:1<=v.slots/\v.slots<=u.slots:=by unfold yr at h3;simpa using h3
 have e4:0<=v.frame/\v.frame<=200:=by unfold yr at h4;simpa using h4
 refine⟨h1,h2,e3,e4,h5,fun s h0 hs2=> ?_⟩;have hk:=h6 s.toNat (by omega);unfold vr at hk;rw[yi]at hk;have hk:=hk.1;have es:((s.toNat:Nat):Int)=s:=by omega
 rw[es]at hk;unfold yr at hk;simp only[jV,yi,yB,qE]at hk;omega
end Go.Proofs.YtgalekifgnecjaaGreat
