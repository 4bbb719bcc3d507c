/- Sets of slots: maps from numbers to truths -/
import Derived.Test.YtgalekifgnecjaaGreatV1
import Derived.Test.YtgalekifgnecjaaGreatB1
import Derived.Maps.OwnIn
import Derived.Maps.RangeWalk
import Derived.Laws.IdiomRangeMap
import Derived.RangeFuncWrites
namespace Go.Proofs.YtgalekifgnecjaaGreat
open Tryz Go.RowKit
open Go.Maps (Keyed int_keyed keyOf_int_mk keyOf_int_inv)
attribute [local go_sem] Oper.semAt_some
abbrev xt(l:List Int):Prop:=l.Pairwise (· < ·)
theorem vQ{a x:Int}:∀ {l:List Int},x∈xB a l↔x=a\/x∈l
 | []=>by simp[xB]
 |y::l=>by
  unfold xB;split
  ·simp
  ·split
   ·rename_i h
    subst h;simp
   ·simp only[xK,vQ (l:=l)]
    constructor
    ·rintro(h|h|h)
     ·exact .inr (.inl h)
     ·exact .inl h
     ·exact .inr (.inr h)
    ·rintro(h|h|h)
     ·exact .inr (.inl h)
     ·exact .inl h
     ·exact .inr (.inr h)
theorem Zu{a:Int}:∀ {l:List Int},xt l->xt (xB a l)
 | [],_=>by simp[xB,xt]
 |y::l,h=>by
  obtain⟨h1,h2⟩:=jW.1 h;unfold xB;split
  ·rename_i hlt
   refine jW.2 ⟨fun z hz=> ?_,h⟩;rcases xK.1 hz with rfl|hz
   ·exact hlt
   ·have:=h1 z hz
    omega
  ·split
   ·exact h
   ·refine jW.2 ⟨fun z hz=> ?_,Zu h2⟩
    rcases vQ.1 hz with rfl|hz
    ·omega
    ·exact h1 z hz
theorem Z4:∀ {l m:List Int},xt l->xt m->(∀x,x∈l↔x∈m)->l=m
 | [],[],_,_,_=>rfl
 | [],y::m,_,_,h=>absurd ((h y).2 (by simp)) (by simp)
 |x::l,[],_,_,h=>absurd ((h x).1 (by simp)) (by simp)
 |x::l,y::m,hl,hm,h=>by
  obtain⟨h1,h2⟩:=jW.1 hl;obtain⟨h3,h4⟩:=jW.1 hm
  have hxy:x=y:=by
   rcases xK.1 ((h x).1 (by simp))with e|e
   ·exact e
   ·rcases xK.1 ((h y).2 (by simp))with e'|e'
    ·exact e'.symm
    ·have:=h1 y e'
     have:=h3 x e;omega
  subst hxy;congr 1;refine Z4 h2 h4 fun z=>⟨fun hz=> ?_,fun hz=> ?_⟩
  ·rcases xK.1 ((h z).1 (by simp[hz]))with e|e
   ·have:=h1 z hz
    omega
   ·exact e
  ·rcases xK.1 ((h z).2 (by simp[hz]))with e|e
   ·have:=h3 z hz
    omega
   ·exact e
theorem jB{x:Int}:∀ {l s:List Int},x∈l.foldl (fun s n=>xB n s) s↔x∈s\/x∈l
 | [],s=>by simp
 |y::l,s=>by
  rw[qP,jB,vQ,xK];constructor
  ·rintro((h|h)|h)
   ·exact .inr (.inl h)
   ·exact .inl h
   ·exact .inr (.inr h)
  ·rintro(h|h|h)
   ·exact .inl (.inr h)
   ·exact .inl (.inl h)
   ·exact .inr h
theorem vN:∀ {l s:List Int},xt s->xt (l.foldl (fun s n=>xB n s) s)
 | [],_,h=>h
 |_::l,_,h=>vN (l:=l) (Zu h)
theorem Z2:∀ {l:List Int} {a n:Int},xt l->(∀x∈l,a<=x/\x<n)->l.length<=(n-a).toNat
 | [],_,_,_,_=>by simp
 |x::l,a,n,h,hx=>by
  obtain⟨h1,h2⟩:=jW.1 h;have h3:=hx x (by simp);have:=Z2 (l:=l) (a:=x+1) (n:=n) h2 (fun y hy=>⟨by have:=h1 y hy;omega,(hx y (by simp[hy])).2⟩);simp only[xv];omega
def YT(x:Int):Lit×DataW Unit:=(.int .i64 x,.lit (.bool true))
def JX(l:List Int):DataW Unit:=.map (l.map YT)
theorem JW{x:Int}:∀ {l:List Int},(∀y∈l,y≠x)->((l.map YT).filter fun p=> !p.1.sameKey (.int .i64 x))=l.map YT
 | [],_=>rfl
 |y::l,h=>by
  have h1:(y==x)=false:=by simpa using h y (by simp)
  rw[j9,vH,JW (l:=l) fun z hz=>h z (by simp[hz])];have:(YT y).1.sameKey (.int .i64 x)=false:=by simp[YT,Lit.sameKey];simpa using h1
  simp[this]
theorem Oq{x:Int}:∀ {l:List Int},xt l->DataW.insert (.int .i64 x,.lit (.bool true)) ((l.map YT).filter fun p=> !p.1.sameKey (.int .i64 x))=(xB x l).map YT
 | [],_=>rfl
 |y::l,h=>by
  obtain⟨h1,h2⟩:=jW.1 h;unfold xB;by_cases hlt:x<y
  ·rw[zj hlt,JW (l:=y::l) fun z hz=>by
    rcases xK.1 hz with rfl|hz
    ·omega
    ·have:=h1 z hz
     omega]
   simp[DataW.insert,YT,Lit.before,hlt]
  ·rw[zi hlt]
   by_cases heq:x=y
   ·subst heq
    rw[zj rfl,j9,vH,JW (l:=l) fun z hz=>by have:=h1 z hz;omega];have:(YT x).1.sameKey (.int .i64 x)=true:=by simp[YT,Lit.sameKey]
    simp only[this,Bool.not_true,XH,if_false]
    cases l with
    |nil=>rfl
    |cons z l=>
     have:=h1 z (by simp);simp[DataW.insert,YT,Lit.before,this]
   ·rw[zi heq,j9,vH]
    have e1:(YT y).1.sameKey (.int .i64 x)=false:=by simp[YT,Lit.sameKey];omega
    have e2:(Lit.int .i64 x).before (YT y).1=false:=by simp[YT,Lit.before];omega
    simp only[e1,Bool.not_false,if_true];rw[DataW.insert];simp only[e2,XH,if_false];rw[Oq h2,j9]
theorem Ot{x:Int}{l:List Int}(h:xt l):(JX l).put (.int .i64 x) (.lit (.bool true))=JX (xB x l):=by
 unfold JX DataW.put;simp only;rw[Oq h]
theorem KY(l:List Int):Maps.size (JX l)=l.length:=by simp[JX,Maps.size]
theorem Jf(x:Int)(z:DataW Unit):∀(l:List Int),(JX l).atKey (.int .i64 x) z=if x∈l then .lit (.bool true)else z
 | []=>by simp[JX,DataW.atKey]
 |y::l=>by
  have ih:=Jf x z l;unfold JX DataW.atKey at *;simp only[j9,List.find?_cons]at *;by_cases h:y=x
  ·subst h
   simp[YT,Lit.sameKey]
  ·have:(YT y).1.sameKey (.int .i64 x)=false:=by simp[YT,Lit.sameKey,h]
   simp only[this];rw[ih];simp[show ¬x=y from fun e=>h e.symm]
section
variable {w w':World} {b r:Nat} {S L:List Int} {v:Value}
theorem XY:Keyed prog 3:=int_keyed Tryz.underlying3
theorem Gk{x:Int}(h:0<=x/\x<=1000000):(Lit.int .i64 x).wf=true:=by
 have h1:IntKind.i64.min= -9223372036854775808:=by decide
 have h2:IntKind.i64.max=9223372036854775807:=by decide
 simp only[Lit.wf,h1,h2,yi,yB];omega
theorem M0{x:Int}(h:0<=x/\x<=1000000):keyOf prog 3 (.int .i64 x)=some (.int .i64 x):=keyOf_int_mk Tryz.underlying3 (Gk h)
theorem Ut(x:Bool):plainElem (H:=Unit) prog 4 (.bool x)=some (.lit (.bool x),[]):=plainElem_bool Tryz.underlying4 x
theorem Qx{v:Value}{z:DataW Unit×List MemPlace}(h:plainElem prog 4 v=some z):∃c,v= .bool c/\z=(.lit (.bool c),[]):=by
 unfold plainElem at h;have hu:=Tryz.underlying4;split at h
 ·cases h
  exact⟨_,rfl,rfl⟩
 ·rename_i hq
  rw[hu]at hq;cases hq
 ·rename_i hq
  rw[hu]at hq;cases hq
 ·cases h
structure yW(w:World)(b:Nat)(S:List Int):Prop where
 so:xt S
 bd:∀x∈S,0<=x/\x<1000000
 own:w.ownsMap prog 3 (plainElem prog 4) b S.length (JX S)
theorem Ab{w:World}{b n:Nat}{S:List Int}(h:w.ownsMap prog 3 (plainElem (H:=Unit) prog 4) b n (JX S)):w.ownsMap prog 3 (plainElem (H:=Unit) prog 4) b S.length (JX S):=by
 obtain⟨es,clock,hb,F,_,hD⟩:=h;refine⟨es,clock,hb,F,?_,hD⟩
 have h1:S.length=es.size:=by
  have h2:=congrArg Maps.size hD;rw[KY]at h2;rw[h2];simp[Maps.size,length_sorted]
 omega
theorem yW.len(h:yW w b S):S.length<=1000000:=by
 have:=Z2 (a:=0) (n:=1000000) h.so h.bd;omega
theorem yW.lt(h:yW w b S):b<w.heap.size:=h.own.lt
theorem yW.kept{row:Option Nat}(h:yW w b S)(hg:w.grownBy w' row)(hn:some b≠row):yW w' b S:=⟨h.so,h.bd,h.own.kept hg hn⟩
theorem yW.keep(h:yW w b S)(e:w'.heap[b]?=w.heap[b]?):yW w' b S:=by
 obtain⟨es,clock,hb,r⟩:=h.own;exact⟨h.so,h.bd,es,clock,e.trans hb,r⟩
theorem yW.below(h:yW w b S)(hb:Below w.heap.size w w'):yW w' b S:=h.keep (hb.block b h.lt)
theorem QQ(w:World):yW (w.alloc (.map #[] 0)) w.heap.size []:=⟨.nil,by simp,World.ownsMap_made w _ _ _⟩
def YA(w:World)(v:Value)(S:List Int):Prop:=(v= .map none/\S= [])\/∃b,v= .map (some b)/\yW w b S
theorem YA.below(h:YA w v S)(hb:Below w.heap.size w w'):YA w' v S:=by
 rcases h with h|⟨b,e,h⟩
 ·exact .inl h
 ·exact .inr ⟨b,e,h.below hb⟩
theorem YA.so(h:YA w v S):xt S:=by
 rcases h with ⟨_,rfl⟩|⟨b,e,h⟩
 ·exact .nil
 ·exact h.so
theorem YA.bd(h:YA w v S):∀x∈S,0<=x/\x<1000000:=by
 rcases h with ⟨_,rfl⟩|⟨b,e,h⟩
 ·simp
 ·exact h.bd
def ZK(w:World)(r:Nat)(v:Value)(S L:List Int):Prop:=
 (v= .map none/\S= []/\L= []/\∃q c seen,w.heap[r]?=some (.mapIter none q seen c)) \/
 ∃b left cnt,v= .map (some b)/\yW w b S/\w.ranges prog 3 (plainElem (H:=Unit) prog 4) b r S.length (JX S) left cnt/\L=S.filter (fun x=>left (.int .i64 x))
theorem ZK.sub(h:ZK w r v S L):∀x∈L,x∈S:=by
 rcases h with ⟨_,rfl,rfl,_⟩|⟨b,left,cnt,_,_,_,rfl⟩
 ·simp
 ·intro x hx
  exact(jn.1 hx).1
theorem ZK.lt(h:ZK w r v S L):r<w.heap.size:=by
 rcases h with ⟨_,_,_,q,c,seen,h⟩|⟨b,left,cnt,_,_,h,_⟩
 ·exact(qM.1 h).1
 ·exact h.lt
theorem ZK.kept{row:Option Nat}(h:ZK w r v S L)(hg:w.grownBy w' row)(hr:some r≠row)(hv:∀b,v= .map (some b)->some b≠row):ZK w' r v S L:=by
 have hl:=h.lt;rcases h with ⟨e,e1,e2,q,c,seen,h⟩|⟨b,left,cnt,e,hs,h,e2⟩
 ·exact .inl ⟨e,e1,e2,q,c,seen,(hg.block r hl hr).trans h⟩
 ·exact .inr ⟨b,left,cnt,e,hs.kept hg (hv b e),h.kept hg (hv b e) hr,e2⟩
theorem ZK.below(h:ZK w r v S L)(hb:Below w.heap.size w w'):ZK w' r v S L:=
 h.kept (row:=none) ⟨hb.os,hb.tape,hb.output,hb.size,fun k hk _=>hb.block k hk⟩ (by simp) (by simp)
theorem UG{w:World}{r q c:Nat}{seen:Array Nat}(ty:TypeId)(h:w.heap[r]?=some (.mapIter none q seen c)):(Instr.next (.pointer (some ⟨r,0,none⟩)) false ty).run prog w= .ok (.tuple #[.bool false]) w:=by
 simp only[Instr.next,getObj,Sem.run_bind,Sem.run,h,Result.andThen];rfl
theorem YA.range(h:YA w v S):∃w',(Instr.range 217 v).run prog w= .ok (.pointer (some ⟨w.heap.size,0,none⟩)) w'/\ZK w' w.heap.size v S S/\w.grownBy w' none/\w'.heap.size=w.heap.size+1:=by
 rcases h with ⟨rfl,rfl⟩|⟨b,rfl,h⟩
 ·exact⟨_,run_range_nilMap w 217 3 4 Tryz.underlying217,.inl ⟨rfl,rfl,rfl,0,0,#[],zo _ _ _ rfl⟩,World.grownBy_alloc w _ none,by simp⟩
 ·obtain⟨w',h1,h2,h3,h4⟩:=h.own.range XY Tryz.underlying217
  refine⟨w',h1,.inr ⟨b,_,_,rfl,h.kept h3 (by simp),h2,?_⟩,h3,h4⟩;refine(List.filter_eq_self.2 fun x hx=> ?_).symm;unfold JX Maps.has;exact v_.2 ⟨YT x,xI.2 ⟨x,hx,rfl⟩,by simp[YT,Lit.sameKey]⟩
theorem ZK.next(h:ZK w r v S L)(ty:TypeId):(L= []/\(Instr.next (.pointer (some ⟨r,0,none⟩)) false ty).run prog w= .ok (.tuple #[.bool false]) w) \/
  ∃x w',x∈L/\(Instr.next (.pointer (some ⟨r,0,none⟩)) false ty).run prog w= .ok (.tuple #[.bool true,.int .i64 x,.bool true]) w'/\ZK w' r v S (L.filter (· !=x))/\w.grownBy w' (some r)/\w'.heap.size=w.heap.size /\
   (Instr.entry (.pointer (some ⟨r,0,none⟩))).run prog w'= .ok (.tuple #[.int .i64 x,.bool true]) w':=by
 rcases h with ⟨rfl,rfl,rfl,q,c,seen,h⟩|⟨b,left,cnt,rfl,hs,h,rfl⟩
 ·exact .inl ⟨rfl,UG ty h⟩
 ·rcases h.next XY ty with ⟨_,hl,hrun⟩|⟨key,u,kl,y,w',cnt',hkey,hlk,hv,hat,hrun,hrg,_,hgr,hsz,hen⟩
  ·exact .inl ⟨List.filter_eq_nil_iff.2 fun x _=>by simp[hl],hrun⟩
  ·obtain⟨x,rfl,rfl,_⟩:=keyOf_int_inv Tryz.underlying3 hkey
   obtain⟨c,rfl,rfl⟩:=Qx hv
   have hx:x∈S:=by
    refine Decidable.byContradiction fun hx=> ?_
    have h1:=hat (.lit (.bool true));have h2:=hat (.lit (.bool false));rw[Jf,zi hx]at h1 h2;rw[<-h1]at h2;cases h2
   have hc:c=true:=by
    have h1:=hat (.lit (.bool true));rw[Jf,zj hx]at h1;cases h1;rfl
   subst hc;refine .inr ⟨x,w',jn.2 ⟨hx,hlk⟩,hrun,.inr ⟨b,_,_,rfl,hs.kept hgr (fun e=>by cases e;exact h.ne rfl),hrg,?_⟩,hgr,hsz,hen⟩;rw[List.filter_filter];refine List.filter_congr fun z _=> ?_
   by_cases hz:z=x
   ·subst hz;simp[Lit.sameKey]
   ·simp[Lit.sameKey,hz]
end
theorem KeepsFrom.step{B:Nat}{W A C:World}{r:Nat}(h:KeepsFrom B W A)(hg:A.grownBy C (some r))(hr:W.heap.size<=r\/r<B):KeepsFrom B W C:=by
 refine⟨yP h.size hg.size,fun k o hB hk ho=> ?_⟩;have h1:=h.same k o hB hk ho;have h2:=ze hk;exact(hg.block k (ze h1) (fun e=>by cases e;omega)).trans h1
theorem yW.put{w:World}{b:Nat}{S:List Int}{k:Int}(h:yW w b S)(hk:0<=k/\k<1000000):
  ∃w',(Instr.mapUpdate 217 (.map (some b)) (.int .i64 k) (.bool true)).run prog w= .ok () w'/\yW w' b (xB k S)/\w.grownBy w' (some b):=by
 have hl:=h.len;obtain⟨w',h1,h2,h3⟩:=h.own.update XY Tryz.underlying217 (by unfold maxLen;omega) (M0 ⟨hk.1,by omega⟩) (Ut true);rw[Ot h.so]at h2;exact⟨w',h1,⟨Zu h.so,fun x hx=>by rcases vQ.1 hx with rfl|hx;exact hk;exact h.bd x hx,Ab h2⟩,h3⟩
theorem yW.has{w:World}{b:Nat}{S:List Int}{k:Int}(h:yW w b S)(hk:0<=k/\k<=1000000):
  (Instr.lookup 217 (.map (some b)) (.int .i64 k) false).run prog w= .ok (.bool (S.contains k)) w:=by
 have hz:(zeroValue 4).run prog w= .ok (.bool false) w:=by
  simp[zeroValue,go_sem];rfl
 obtain⟨v,ps,h1,h2⟩:=h.own.lookup XY Tryz.underlying217 hz (Ut false) (M0 hk);obtain⟨c,rfl,h3⟩:=Qx h2;rw[Jf]at h3;rw[h1];by_cases hx:k∈S
 ·rw[zj hx]at h3
  cases h3;rw[xn.2 hx]
 ·rw[zi hx]at h3
  cases h3;rw[show S.contains k=false from by simpa using hx]
section
variable {F:Fence} {nF:Nat} (w:World) {ops:Array Oper} {rest:List Oper} {o:Oper} {a:Act} {Q:Exit->Act->World->Prop}
theorem Zg(hg:o.guard=none)(m x v:Operand)(hop:o.op=Op.mapUpdate 217 m x v)(b:Nat)(S:List Int)(k:Int)(hm:a.eval m= .map (some b))(h:yW w b S)(hx:a.eval x= .int .i64 k)(hv:a.eval v= .bool true)(hk:0<=k/\k<1000000)
  (hK:∀w',yW w' b (xB k S)->w.grownBy w' (some b)->wpListIn F nF prog ops Q rest (a.put o.dst undef) w'):wpListIn F nF prog ops Q (o::rest) a w:=by
 refine wpListIn_plain hg fun K' hK'=> ?_
 obtain⟨w',hrun,r1,r2⟩:=h.put hk;unfold Oper.wpIn;refine⟨by simp[Oper.about,hop],?_⟩;rw[Oper.semAt_plain F _ _ (by rw[hop];intro c hc';cases hc')];simp[execOp,hop,hm,hx,hv,hrun,Result.andThen];exact hK' _ _ (hK w' r1 r2)
theorem QL(hg:o.guard=none)(m:Operand)(hop:o.op=Op.range 217 m)(v:Value)(S:List Int)(hm:a.eval m=v)(h:YA w v S)
  (hK:∀w',ZK w' w.heap.size v S S->w.grownBy w' none->w'.heap.size=w.heap.size+1->wpListIn F nF prog ops Q rest (a.put o.dst (.pointer (some ⟨w.heap.size,0,none⟩))) w'):wpListIn F nF prog ops Q (o::rest) a w:=by
 refine wpListIn_plain hg fun K' hK'=> ?_
 obtain⟨w',hrun,r1,r2,r3⟩:=h.range;unfold Oper.wpIn;refine⟨by simp[Oper.about,hop],?_⟩;rw[Oper.semAt_plain F _ _ (by rw[hop];intro c hc';cases hc')];simp[execOp,hop,hm,hrun,Result.andThen];exact hK' _ _ (hK w' r1 r2 r3)
theorem JS(hg:o.guard=none)(m:Operand)(hop:o.op=Op.range 217 m)(v:Value)(S:List Int)(hm:a.eval m=v)(h:YA w v S)
  (hK:∀w',ZK w' w.heap.size v S S->w.grownBy w' none->w'.heap.size=w.heap.size+1->wpList prog ops Q rest (a.put o.dst (.pointer (some ⟨w.heap.size,0,none⟩))) w'):wpList prog ops Q (o::rest) a w:=by
 refine wpList_plain hg fun K' hK'=> ?_
 obtain⟨w',hrun,r1,r2,r3⟩:=h.range;unfold Oper.wp;simp[execOp,hop,hm,hrun,Result.andThen];exact hK' _ _ (hK w' r1 r2 r3)
theorem Q9(hg:o.guard=none)(it:Operand)(hop:o.op=Op.next it false)(r:Nat)(v:Value)(S L:List Int)(hit:a.eval it= .pointer (some ⟨r,0,none⟩))(h:ZK w r v S L)
  (hDone:L= []->wpListIn F nF prog ops Q rest (a.put o.dst (.tuple #[.bool false])) w)
  (hMore:∀(x:Int) (w':World),x∈L->ZK w' r v S (L.filter (· !=x))->w.grownBy w' (some r)->w'.heap.size=w.heap.size->(Instr.entry (.pointer (some ⟨r,0,none⟩))).run prog w'= .ok (.tuple #[.int .i64 x,.bool true]) w' ->
   wpListIn F nF prog ops Q rest (a.put o.dst (.tuple #[.bool true,.int .i64 x,.bool true])) w'):wpListIn F nF prog ops Q (o::rest) a w:=by
 refine wpListIn_plain hg fun K' hK'=> ?_
 unfold Oper.wpIn;refine⟨by simp[Oper.about,hop],?_⟩;rw[Oper.semAt_plain F _ _ (by rw[hop];intro c hc';cases hc')];rcases h.next o.type with ⟨h0,hrun⟩|⟨x,w',hx,hrun,hrg,hgr,hsz,hen⟩
 ·simp[execOp,hop,hit,hrun,Result.andThen]
  exact hK' _ _ (hDone h0)
 ·simp[execOp,hop,hit,hrun,Result.andThen]
  exact hK' _ _ (hMore x w' hx hrg hgr hsz hen)
theorem VL(hg:o.guard=none)(it:Operand)(hop:o.op=Op.next it false)(r:Nat)(v:Value)(S L:List Int)(hit:a.eval it= .pointer (some ⟨r,0,none⟩))(h:ZK w r v S L)
  (hDone:L= []->wpList prog ops Q rest (a.put o.dst (.tuple #[.bool false])) w)
  (hMore:∀(x:Int) (w':World),x∈L->ZK w' r v S (L.filter (· !=x))->w.grownBy w' (some r)->w'.heap.size=w.heap.size->(Instr.entry (.pointer (some ⟨r,0,none⟩))).run prog w'= .ok (.tuple #[.int .i64 x,.bool true]) w' ->
   wpList prog ops Q rest (a.put o.dst (.tuple #[.bool true,.int .i64 x,.bool true])) w'):wpList prog ops Q (o::rest) a w:=by
 refine wpList_plain hg fun K' hK'=> ?_
 unfold Oper.wp;rcases h.next o.type with ⟨h0,hrun⟩|⟨x,w',hx,hrun,hrg,hgr,hsz,hen⟩
 ·simp[execOp,hop,hit,hrun,Result.andThen]
  exact hK' _ _ (hDone h0)
 ·simp[execOp,hop,hit,hrun,Result.andThen]
  exact hK' _ _ (hMore x w' hx hrg hgr hsz hen)
end
theorem YA.len{w:World}{v:Value}{S:List Int}(h:YA w v S)(ty:TypeId):(Builtin.len_ #[217] ty #[v]).run prog w= .ok (.int .i64 S.length) w:=by
 rcases h with ⟨rfl,rfl⟩|⟨b,rfl,h⟩
 ·exact Maps.len_nil Tryz.underlying217 ty
 ·rw[h.own.len Tryz.underlying217 ty,KY]
end Go.Proofs.YtgalekifgnecjaaGreat
