/- A set of pairs of numbers in memory -/
import Derived.Test.YtgalekifgnecjaaGreatS1
namespace Go.Proofs.YtgalekifgnecjaaGreat
open Tryz Go.RowKit
set_option maxHeartbeats 4000000
set_option maxRecDepth 100000
attribute [local go_sem] Oper.semAt_some
theorem Qt{x y:Int×Int}:IE x y=true↔x.1<y.1\/(x.1=y.1/\x.2<y.2):=by simp[IE]
abbrev vl(l:List (Int×Int)):Prop:=l.Pairwise fun x y=>IE x y=true
theorem YD(x:Int×Int):¬IE x x=true:=by rw[Qt];omega
theorem Qs{x y z:Int×Int}(h:IE x y=true)(h2:IE y z=true):IE x z=true:=by rw[Qt]at *;omega
theorem J7{x y:Int×Int}(h:¬IE x y=true)(h2:x≠y):IE y x=true:=by
 rw[Qt]at *
 have:x.1≠y.1\/x.2≠y.2:=by
  refine Decidable.byContradiction fun hc=>h2 ?_
  rw[not_or,Decidable.not_not,Decidable.not_not]at hc;exact Prod.ext hc.1 hc.2
 omega
theorem XV{a x:Int×Int}:∀ {l:List (Int×Int)},x∈XL a l↔x=a\/x∈l
 | []=>by simp[XL]
 |y::l=>by
  unfold XL;split
  ·simp
  ·split
   ·rename_i h
    subst h;simp
   ·simp only[xK,XV (l:=l)]
    constructor
    ·rintro(h|h|h)
     ·exact .inr (.inl h)
     ·exact .inl h
     ·exact .inr (.inr h)
    ·rintro(h|h|h)
     ·exact .inr (.inl h)
     ·exact .inl h
     ·exact .inr (.inr h)
theorem Vp{a:Int×Int}:∀ {l:List (Int×Int)},vl l->vl (XL a l)
 | [],_=>by simp[XL,vl]
 |y::l,h=>by
  obtain⟨h1,h2⟩:=jW.1 h;unfold XL;split
  ·rename_i hlt
   refine jW.2 ⟨fun z hz=> ?_,h⟩;rcases xK.1 hz with rfl|hz
   ·exact hlt
   ·exact Qs hlt (h1 z hz)
  ·split
   ·exact h
   ·rename_i hn hne
    refine jW.2 ⟨fun z hz=> ?_,Vp h2⟩;rcases XV.1 hz with rfl|hz
    ·exact J7 hn hne
    ·exact h1 z hz
theorem Vr:∀ {l m:List (Int×Int)},vl l->vl m->(∀x,x∈l↔x∈m)->l=m
 | [],[],_,_,_=>rfl
 | [],y::m,_,_,h=>absurd ((h y).2 (by simp)) (by simp)
 |x::l,[],_,_,h=>absurd ((h x).1 (by simp)) (by simp)
 |x::l,y::m,hl,hm,h=>by
  obtain⟨h1,h2⟩:=jW.1 hl;obtain⟨h3,h4⟩:=jW.1 hm
  have hxy:x=y:=by
   rcases xK.1 ((h x).1 (by simp))with e|e
   ·exact e
   ·rcases xK.1 ((h y).2 (by simp))with e'|e'
    ·exact e'.symm
    ·exact absurd (Qs (h1 y e') (h3 x e)) (YD x)
  subst hxy;congr 1;refine Vr h2 h4 fun z=>⟨fun hz=> ?_,fun hz=> ?_⟩
  ·rcases xK.1 ((h z).1 (by simp[hz]))with e|e
   ·subst e
    exact absurd (h1 z hz) (YD z)
   ·exact e
  ·rcases xK.1 ((h z).2 (by simp[hz]))with e|e
   ·subst e
    exact absurd (h3 z hz) (YD z)
   ·exact e
theorem Kx{l:List (Int×Int)}(h:vl l):l.Nodup:=h.imp fun hlt e=>by subst e;exact YD _ hlt
theorem Um{a:Int×Int}:∀ {l:List (Int×Int)},vl l->(XL a l).Perm (a::l.filter fun p=> !decide (p=a))
 | [],_=>by simp[XL]
 |y::l,h=>by
  obtain⟨h1,h2⟩:=jW.1 h;unfold XL;split
  ·rename_i hlt
   have:((y::l).filter fun p=> !decide (p=a))=y::l:=List.filter_eq_self.2 fun z hz=>by
    have:z≠a:=by
     rintro rfl;rcases xK.1 hz with rfl|hz
     ·exact YD _ hlt
     ·exact YD _ (Qs hlt (h1 _ hz))
    simp[this]
   rw[this]
  ·split
   ·rename_i heq
    subst heq
    have:((a::l).filter fun p=> !decide (p=a))=l:=by
     rw[vH];simp only[decide_true,Bool.not_true,XH,if_false]
     exact List.filter_eq_self.2 fun z hz=>by
      have:z≠a:=by
       rintro rfl;exact YD _ (h1 _ hz)
      simp[this]
    rw[this]
   ·rename_i hn hne
    have hy:(!decide (y=a))=true:=by
     simp only[jb,ZQ];exact fun e=>hne e.symm
    rw[vH,zj hy];exact((Um h2).cons y).trans (.swap _ _ _)
def M7(p:Int×Int):Prop:=(0<=p.1/\p.1<1000)/\(0<=p.2/\p.2<1000)
theorem Vq{l:List (Int×Int)}(h:vl l)(hb:∀p∈l,M7 p):l.length<=1000000:=by
 have hs:xt (l.map fun p=>p.1*1000+p.2):=by
  rw[xt,List.pairwise_map];refine h.imp_of_mem ?_;intro x y hx hy hlt;have h1:=hb x hx;have h2:=hb y hy;unfold M7 at h1 h2;rw[Qt]at hlt;omega
 have:=Z2 (a:=0) (n:=1000000) hs (fun x hx=>by
  obtain⟨p,hp,rfl⟩:=xI.1 hx;have:=hb p hp;unfold M7 at this
  omega)
 rw[ym]at this;omega
def Z1(S:List (Int×Int)):List ((Int×Int)×Bool):=S.map fun p=>(p,true)
structure y8(w:World)(b:Nat)(S:List (Int×Int)):Prop where
 so:vl S
 bd:∀p∈S,M7 p
 mp:xe Jq w b (Z1 S)
section
variable {w w':World} {b r:Nat} {S:List (Int×Int)}
theorem y8.lt(h:y8 w b S):b<w.heap.size:=h.mp.lt
theorem y8.keep(h:y8 w b S)(e:w'.heap[b]?=w.heap[b]?):y8 w' b S:=⟨h.so,h.bd,h.mp.keep e⟩
theorem y8.kept{row:Option Nat}(h:y8 w b S)(hg:w.grownBy w' row)(hn:some b≠row):y8 w' b S:=h.keep (hg.block b h.lt hn)
theorem y8.below(h:y8 w b S)(hb:Below w.heap.size w w'):y8 w' b S:=h.keep (hb.block b h.lt)
theorem OH(w:World):y8 (w.alloc (.map #[] 0)) w.heap.size []:=⟨.nil,by simp,Z9 Jq w⟩
theorem y8.put(h:y8 w b S){x y:Int}(hp:M7 (x,y)):
  ∃w',(Instr.mapUpdate 116 (.map (some b)) (.agg #[.int .i64 x,.int .i64 y]) (.bool true)).run prog w= .ok () w'/\y8 w' b (XL (x,y) S)/\w.grownBy w' (some b):=by
 have hl:=Vq h.so h.bd;have hk:=hp;unfold M7 at hk;obtain⟨w',h1,h2,h3⟩:=h.mp.put (T:=116) Tryz.underlying116 (x:=(x,y)) (v:=true) (by unfold Z1;rw[ym];omega) (show(0<=x/\x<=1000000)/\(0<=y/\y<=1000000) by simp only at hk;omega) trivial;refine⟨w',h1,⟨Vp h.so,fun p hp'=> ?_,h2.perm ?_⟩,h3⟩
 ·rcases XV.1 hp' with rfl|hp'
  ·exact hp
  ·exact h.bd p hp'
 ·unfold putM Z1
  refine List.Perm.trans ?_ ((Um h.so).map _).symm;rw[j9,List.filter_map];exact .refl _
theorem y8.has(h:y8 w b S){x y:Int}(hp:(0<=x/\x<=1000000)/\(0<=y/\y<=1000000)):
  (Instr.lookup 116 (.map (some b)) (.agg #[.int .i64 x,.int .i64 y]) false).run prog w= .ok (.bool (S.contains (x,y))) w:=by
 have h1:=h.mp.look (T:=116) Tryz.underlying116 (x:=(x,y)) hp;refine h1.trans (congrArg (fun z=>Result.ok (Value.bool z) w) ?_);show(jZ (Z1 S) (x,y)).getD false=_
 cases hg:jZ (Z1 S) (x,y)with
 |none=>
  have:(x,y)∉S:=fun hm=>Vc hg ((x,y),true) (xI.2 ⟨_,hm,rfl⟩) rfl
  show false=_
  rw[show S.contains (x,y)=false from by simpa using this]
 |some v=>
  obtain⟨q,hq,e⟩:=xI.1 (G7 hg);have e1:q=(x,y):=congrArg Prod.fst e;have e2:true=v:=congrArg Prod.snd e;rw[e1]at hq;have e3:S.contains (x,y)=true:=xn.2 hq;rw[e3,<-e2];rfl
end
section
variable (w:World) {ops:Array Oper} {rest:List Oper} {o:Oper} {a:Act} {Q:Exit->Act->World->Prop}
theorem Xu(hg:o.guard=none)(m x v:Operand)(hop:o.op=Op.mapUpdate 116 m x v)(b:Nat)(S:List (Int×Int))(i j:Int)(hm:a.eval m= .map (some b))(h:y8 w b S)(hx:a.eval x= .agg #[.int .i64 i,.int .i64 j])(hv:a.eval v= .bool true)(hk:M7 (i,j))
  (hK:∀w',y8 w' b (XL (i,j) S)->w.grownBy w' (some b)->wpList prog ops Q rest (a.put o.dst undef) w'):wpList prog ops Q (o::rest) a w:=by
 refine wpList_plain hg fun K' hK'=> ?_
 obtain⟨w',hrun,r1,r2⟩:=h.put hk;unfold Oper.wp;simp[execOp,hop,hm,hx,hv,hrun,Result.andThen];exact hK' _ _ (hK w' r1 r2)
end
theorem La:∀(k:Nat) (l:List Int),(∀m,m<k->(m:Int)∈l)->k<=l.length
 |0,_,_=>zE _
 |k+1,l,h=>by
  have hm:=h k (by omega);have h1:=La k (l.erase k) fun m hm2=>(List.mem_erase_of_ne (by omega)).2 (h m (by omega))
  rw[List.length_erase_of_mem hm]at h1;have:=List.length_pos_of_mem hm;omega
theorem Q2{cl had:List (Int×Int)}{s:Int}{n:Nat}:vw cl had s n=true↔∃x∈had,x.2=(n:Int)/\ZT cl s x.1=true:=by
 unfold vw;rw[v_];constructor
 ·rintro⟨x,hx,h⟩
  simp only[yi,qE]at h;exact⟨x,hx,h⟩
 ·rintro⟨x,hx,h1,h2⟩
  exact⟨x,hx,by simp[h1,h2]⟩
theorem Gd{cl had:List (Int×Int)}{s:Int}{n:Nat}(h:∀m,m<n->vw cl had s m=true):n<=had.length:=by
 have:=La n (had.map (·.2)) fun m hm=>by
  obtain⟨x,hx,h1,_⟩:=Q2.1 (h m hm);exact xI.2 ⟨x,hx,h1⟩
 rwa [ym]at this
theorem Kf{cl had:List (Int×Int)}{s:Int}:∀(f n:Nat),(∀m,m<n->vw cl had s m=true)->had.length<n+f->(∀m,m<Iu cl had s f n->vw cl had s m=true)/\vw cl had s (Iu cl had s f n)=false
 |0,n,h,hl=>by
  have:=Gd h
  omega
 |f+1,n,h,hl=>by
  unfold Iu;split
  ·rename_i hb
   exact Kf f (n+1) (fun m hm=>by
    by_cases e:m=n
    ·rw[e];exact hb
    ·exact h m (by omega)) (by omega)
  ·rename_i hb
   exact⟨h,by simpa using hb⟩
theorem Vg(cl had:List (Int×Int))(s:Int):(∀m,m<Zj cl had s->vw cl had s m=true)/\vw cl had s (Zj cl had s)=false:=
 Kf _ 0 (fun m hm=>absurd hm (y_ _)) (by omega)
theorem Nm{cl had:List (Int×Int)}{s:Int}{n:Nat}(h:∀m,m<n->vw cl had s m=true)(h2:vw cl had s n=false):n=Zj cl had s:=by
 obtain⟨h3,h4⟩:=Vg cl had s;rcases Nat.lt_trichotomy n (Zj cl had s)with h5|h5|h5
 ·rw[h3 n h5]at h2;cases h2
 ·exact h5
 ·rw[h _ h5]at h4;cases h4
theorem Aw(cl had:List (Int×Int))(s:Int):Zj cl had s<=had.length:=Gd (Vg cl had s).1
theorem xO(cl:List (Int×Int)):∀n,(yl cl n).length=n
 |0=>rfl
 |n+1=>by unfold yl;rw[yV,xO cl n];rfl
theorem Q1(cl:List (Int×Int)){i:Nat}:∀ {n:Nat} (h:i<n),(yl cl n)[i]'(by rw[xO];exact h)=((i:Int),(Zj cl (yl cl i) i:Int))
 |0,h=>absurd h (y_ _)
 |n+1,h=>by
  refine(List.getElem_of_eq (show yl cl (n+1)=yl cl n++ [((n:Int),(Zj cl (yl cl n) n:Int))]from rfl) _).trans ?_;by_cases e:i<n
  ·rw[List.getElem_append_left (by rw[xO];exact e)]
   exact Q1 cl e
  ·obtain rfl:i=n:=by omega
   rw[List.getElem_append_right (by rw[xO];omega)];simp only[xO,Nat.sub_self,List.getElem_cons_zero]
theorem Kd{cl:List (Int×Int)}{n:Nat}{x:Int×Int}:x∈yl cl n↔∃i,i<n/\x=((i:Int),(Zj cl (yl cl i) i:Int)):=by
 constructor
 ·intro h
  obtain⟨i,hi,rfl⟩:=List.getElem_of_mem h;rw[xO]at hi;exact⟨i,hi,Q1 cl hi⟩
 ·rintro⟨i,hi,rfl⟩
  rw[<-Q1 cl hi];exact yy _
def LY(cl:List (Int×Int))(i:Nat):Nat:=Zj cl (yl cl i) i
theorem Iv(cl:List (Int×Int))(i:Nat):LY cl i<=i:=by
 have:=Aw cl (yl cl i) i;rw[xO]at this;exact this
theorem GM(l:List (Int×Int))(x:Int×Int):YW (l++ [x])=max (YW l) (x.2+1):=by unfold YW;rw[jc];rfl
theorem Lk{l:List (Int×Int)}:∀ {m:Int},m<=l.foldl (fun m x=>max m (x.2+1)) m/\∀x∈l,x.2+1<=l.foldl (fun m x=>max m (x.2+1)) m:=by
 induction l with
 |nil=>intro m;simp
 |cons y l ih=>
  intro m;obtain⟨h1,h2⟩:=ih (m:=max m (y.2+1));rw[qP];refine⟨by omega,fun x hx=> ?_⟩;rcases xK.1 hx with rfl|hx
  ·omega
  ·exact h2 x hx
abbrev S4(n:Int)(l:List (Int×Int)):Prop:=vl l/\∀p∈l,0<=p.1/\p.1<p.2/\p.2<n
theorem GF(a b:Int)(bx bm:Nat)(S:List (Int×Int))(w:World)(hbx:w.heap[bx]?=some (.cells #[.map (some bm)] 116))(hs:y8 w bm S)(ha:0<=a/\a<1000)(hb:0<=b/\b<1000):
  Calls prog 134 #[.int .i64 a,.int .i64 b,.pointer (some ⟨bx,0,none⟩)] w (fun e w'=>e= .returned (.tuple #[])/\w.grownBy w' (some bm)/\y8 w' bm (xu S a b)):=by
 have c0:w.cell? ⟨bx,0,none⟩=some (.map (some bm)):=(zA _ _ 0 _ _ _ hbx).trans rfl;have HS:=za hs;clear hs hbx;by_cases h:a=b
 ·have HN:Hid (xu S a b=S):=za (by unfold xu;rw[zj h])
  have d:(a !=b)=false:=by rw[h];simp
  clear h;go_enter func134,ntmps134;go_wp2
  go_end0
  exact⟨rfl,⟨rfl,rfl,rfl,zI _,fun _ _ _=>rfl⟩,by rw[HN.out];exact HS.out⟩
 ·have d:(a !=b)=true:=by simpa using h
  rcases Int.lt_or_gt_of_ne h with hlt|hlt
  ·have hk:M7 (a,b):=⟨ha,hb⟩
   have HN:Hid (xu S a b=XL (a,b) S):=za (by unfold xu qU;rw[zi h,show min a b=a by omega,show max a b=b by omega]);have n1:¬b<a:=by omega
   have m1:min a b=a:=by omega
   have m2:max a b=b:=by omega
   clear h;go_enter func134,ntmps134
   go_wp2_with (first
    |(at_mapUpdate;refine Xu _ rfl _ _ _ rfl bm S a b rfl HS.out rfl rfl hk ?_;intro w6 hs6 hg6;have HS6:=za hs6;have HG6:=za hg6;clear hs6 hg6))
   go_end0
   exact⟨rfl,HG6.out,by rw[HN.out];exact HS6.out⟩
  ·have hk:M7 (b,a):=⟨hb,ha⟩
   have HN:Hid (xu S a b=XL (b,a) S):=za (by unfold xu qU;rw[zi h,show min a b=b by omega,show max a b=a by omega]);have n1:¬a<b:=by omega
   have m1:min a b=b:=by omega
   have m2:max a b=a:=by omega
   have hlt2:b<a:=hlt;clear h hlt;go_enter func134,ntmps134
   go_wp2_with (first
    |(at_mapUpdate;refine Xu _ rfl _ _ _ rfl bm S b a rfl HS.out rfl rfl hk ?_;intro w6 hs6 hg6;have HS6:=za hs6;have HG6:=za hg6;clear hs6 hg6))
   go_end0
   exact⟨rfl,HG6.out,by rw[HN.out];exact HS6.out⟩
theorem Ux(a b:Int)(bm:Nat)(S:List (Int×Int))(w:World)(hs:y8 w bm S)(ha:0<=a/\a<=1000000)(hb:0<=b/\b<=1000000):
  Calls prog 137 #[.map (some bm),.int .i64 a,.int .i64 b] w (fun e w'=>e= .returned (.bool (ZT S a b))/\w'=w):=by
 have hpair:∀x y:Int,min a b=x->max a b=y->(Instr.lookup 116 (.map (some bm)) (.agg #[.int .i64 x,.int .i64 y]) false).run prog w= .ok (.bool (ZT S a b)) w:=fun x y hx hy=>by
  unfold ZT qU;rw[hx,hy];exact hs.has (by omega)
 clear hs;generalize ZT S a b=r at *;rcases Int.lt_trichotomy a b with h|h|h
 ·have hl:=hpair a b (by omega) (by omega)
  have n1:¬b<a:=by omega
  have m1:min a b=a:=by omega
  have m2:max a b=b:=by omega
  clear hpair;go_enter func137,ntmps137;go_wp2;go_ret;exact⟨rfl,rfl⟩
 ·subst h
  have hl:=hpair a a (by omega) (by omega);have n1:¬a<a:=by omega
  clear hpair;go_enter func137,ntmps137;go_wp2;go_ret;exact⟨rfl,rfl⟩
 ·have hl:=hpair b a (by omega) (by omega)
  have n1:¬a<b:=by omega
  have m1:min a b=b:=by omega
  have m2:max a b=a:=by omega
  clear hpair;go_enter func137,ntmps137;go_wp2;go_ret;exact⟨rfl,rfl⟩
end Go.Proofs.YtgalekifgnecjaaGreat
