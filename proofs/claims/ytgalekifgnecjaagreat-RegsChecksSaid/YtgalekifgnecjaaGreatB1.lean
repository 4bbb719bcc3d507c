/- What is about no one program: worlds, blocks, slices of numbers, rows of rows -/
import Derived.Test.YtgalekifgnecjaaGreatProg
import Derived.WalkKit
import Derived.Below
import Derived.Laws.AppendOwn
import Derived.WalkSpells
import Derived.WalkLawsBesides
import Derived.OwnWalk
import Derived.Maps.AppendAt
import Derived.IntWalk
import Derived.StillTailTactics
import Derived.Deep.CutBlock
import Derived.Deep.RegionHeld3
import Derived.Deep.RegionLaw
import Derived.Deep.QuietTactic
import Derived.BigQuiet
import Derived.WalkSmall
import Derived.RangeFuncNested
import Derived.RangeFuncBound
import Derived.RangeFuncCalls
import Derived.RangeFuncLeaves
import Derived.Shelf.Abstract
import Derived.Shelf.RegionOpen
import Derived.OwnWalkIn
import Derived.TacticsInMore
import Derived.LoopNIn
import Derived.LoopIn
namespace Go.Proofs.YtgalekifgnecjaaGreat
open Tryz Go.RowKit
set_option maxHeartbeats 4000000
set_option maxRecDepth 100000
theorem zA:∀ (w : World) (g j : Nat) (cs : Array Value) (t : TypeId) (fr : Nat × Nat), (World.heap w)[g]? = some (Obj.cells cs t fr) -> World.cell? w { block := g, off := j } = cs[j]?:=@cell_of_row
theorem zi.{u_1}:∀ {c : Prop} {_ : Decidable c}, ¬c -> ∀ {α : Sort u_1} {t e : α}, (if c then t else e) = e:=@if_neg
theorem zj.{u_1}:∀ {c : Prop} {_ : Decidable c}, c -> ∀ {α : Sort u_1} {t e : α}, (if c then t else e) = t:=@if_pos
theorem yi:∀ (a b : Bool), ((a && b) = true) = (a = true /\ b = true):=@Bool.and_eq_true
theorem zI:∀ (n : Nat), n <= n:=@Nat.le_refl
theorem yF:∀ (w : World) (a : Addr) (k : Nat) (v : Value), k ≠ Addr.block a -> (World.heap (World.setCell w a v))[k]? = (World.heap w)[k]?:=@heap_setCell_other
theorem zG:∀ (B : Nat) (w : World), Below B w w:=@Below.refl
theorem yB:∀ {p : Prop} [Decidable p], (decide p = true) = p:=@decide_eq_true_eq
theorem yn:∀ {p : Prop} [Decidable p], ¬p -> decide p = false:=@decide_eq_false
theorem zK:∀ {w wx : World} {a : Addr} {v : Value}, Below (Array.size (World.heap w)) w wx -> World.cell? w a = some v -> World.cell? wx a = some v:=@cell_later
theorem zP:∀ {p : Prop} [Decidable p], p -> decide p = true:=@decide_eq_true
theorem zE:∀ (n : Nat), 0 <= n:=@Nat.zero_le
theorem yk:∀ (w : World) (g i : Nat) (cs : Array Value) (t : TypeId) (v : Value), (World.heap w)[g]? = some (Obj.cells cs t) -> (World.heap (World.setCell w { block := g, off := i } v))[g]? = some (Obj.cells (Array.setIfInBounds cs i v) t):=@heap_setCell_same
theorem ym.{u_1,u_2}:∀ {α : Type u_1} {β : Type u_2} {xs : List α} (f : α -> β), List.length (List.map f xs) = List.length xs:=@List.length_map
theorem xn.{u_1}:∀ {α : Type u_1} [BEq α] [LawfulBEq α] {a : α} {xs : List α}, List.contains xs a = true ↔ a ∈ xs:=@List.contains_iff_mem
theorem yy.{u_1}:∀ {α : Type u_1} {l : List α} {n : Nat} (h : n < List.length l), l[n] ∈ l:=@List.getElem_mem
theorem yY.{u_1}:∀ {α : Type u_1} [BEq α] [LawfulBEq α] {a b : α}, (a == b) = false ↔ a ≠ b:=@beq_eq_false_iff_ne
theorem yV.{u_1}:∀ {α : Type u_1} {xs bs : List α}, List.length (xs ++ bs) = List.length xs + List.length bs:=@List.length_append
theorem yL.{u_1}:∀ {α : Type u_1} {p : α -> Bool} {l : List α}, List.all l p = true ↔ ∀ (x : α), x ∈ l -> p x = true:=@List.all_eq_true
theorem xh:∀ {n m k : Nat}, n < m -> m <= k -> n < k:=@Nat.lt_of_lt_of_le
theorem qM.{u_1}:∀ {α : Type u_1} {i : Nat} {b : α} {xs : Array α}, xs[i]? = some b ↔ ∃ h, xs[i] = b:=@Array.getElem?_eq_some_iff
theorem yR:∀ {m n : Nat}, m ∈ List.range n ↔ m < n:=@List.mem_range
theorem xm.{u_1}:∀ {α : Type u_1} {i : Nat} {l : List α}, List.length (List.take i l) = min i (List.length l):=@List.length_take
theorem y_:∀ (n : Nat), ¬n < 0:=@Nat.not_lt_zero
theorem xv.{u_1}:∀ {α : Type u_1} {a : α} {xs : List α}, List.length (a :: xs) = List.length xs + 1:=@List.length_cons
theorem xz.{u_1,u_2}:∀ {α : Type u_1} {β : Type u_2} (a : α) (f : α -> Option β), Option.bind (some a) f = f a:=@Option.bind_some
theorem q9.{u_1}:∀ {α : Type u_1} {l : List α} {i : Nat} (h : i < List.length l), l[i]? = some l[i]:=@List.getElem?_eq_getElem
theorem yP:∀ {n m k : Nat}, n <= m -> m <= k -> n <= k:=@Nat.le_trans
theorem xL.{u_1}:∀ {α : Type u_1} {l : List α}, List.take (List.length l) l = l:=@List.take_length
theorem qf.{u_1}:∀ {α : Type u_1} {a b : α}, a ∈ [b] ↔ a = b:=@List.mem_singleton
theorem jI.{u_1}:∀ {α : Type u_1} {l : List α} {i : Nat} {a : α}, List.getD l i a = Option.getD l[i]? a:=@List.getD_eq_getElem?_getD
theorem xk:∀ (b : Bool), (true && b) = b:=@Bool.true_and
theorem xK.{u_1}:∀ {α : Type u_1} {b : α} {l : List α} {a : α}, a ∈ b :: l ↔ a = b \/ a ∈ l:=@List.mem_cons
theorem yX:∀ {B : Nat} {a w : World}, Below B a w -> Below B a (World.drew w):=@Below.drew
theorem qr.{u_1}:∀ {α : Type u_1} {a : α} {s t : List α}, a ∈ s ++ t ↔ a ∈ s \/ a ∈ t:=@List.mem_append
theorem qQ:∀ (n : Nat), Int.toNat ↑n = n:=@Int.toNat_natCast
theorem xJ:∀ {P : Program} {fn : Func} {R : Ending -> World -> Prop} {a : Act} {w : World} {v : Value}, Sem.run P (results fn (Act.tmps a)) w = Result.ok v w -> Act.defers a = [] -> R (Ending.returned v) w -> bodyPost P fn R Exit.ret a w:=@bodyPost_ret
theorem xI.{u_1,u_2}:∀ {α : Type u_1} {β : Type u_2} {b : β} {f : α -> β} {l : List α}, b ∈ List.map f l ↔ ∃ a, a ∈ l /\ f a = b:=@List.mem_map
theorem jd:∀ (w : World) (base : Nat) (e : TypeId) (size : Nat), World.ownsRow w base e size (Value.slice none 0 0) 0 []:=@World.ownsRow_nil
theorem jc.{u_1,u_2}:∀ {α : Type u_1} {β : Type u_2} {f : β -> α -> β} {b : β} {l l' : List α}, List.foldl f b (l ++ l') = List.foldl f (List.foldl f b l) l':=@List.foldl_append
theorem jb:∀ (b : Bool), ((!b) = true) = (b = false):=@Bool.not_eq_true'
theorem xH:∀ (n : Nat), n <= Nat.succ n:=@Nat.le_succ
theorem qP.{u_1,u_2}:∀ {α : Type u_1} {β : Type u_2} {a : α} {l : List α} {f : β -> α -> β} {b : β}, List.foldl f b (a :: l) = List.foldl f (f b a) l:=@List.foldl_cons
theorem qO.{u_1}:∀ {α : Type u_1} (xs : List α), xs ++ [] = xs:=@List.append_nil
theorem ZE.{u_1}:∀ {α : Type u_1} {i : Nat} {a : α} {l : List α}, l[i]? = some a ↔ ∃ h, l[i] = a:=@List.getElem?_eq_some_iff
theorem q8.{u_1,u_2}:∀ {α : Type u_1} {β : Type u_2} {f : α -> β} {l₁ l₂ : List α}, List.map f (l₁ ++ l₂) = List.map f l₁ ++ List.map f l₂:=@List.map_append
theorem jW.{u_1}:∀ {α : Type u_1} {R : α -> α -> Prop} {a : α} {l : List α}, List.Pairwise R (a :: l) ↔ (∀ (a' : α), a' ∈ l -> R a a') /\ List.Pairwise R l:=@List.pairwise_cons
theorem xX:∀ {B : Nat} {a w w' : World} {row : Option Nat}, Below B a w -> World.grownBy w w' row -> B <= Array.size (World.heap w) -> (∀ (k : Nat), row = some k -> B <= k) -> Below B a w':=@Below.grown
theorem jn.{u_1}:∀ {α : Type u_1} {p : α -> Bool} {xs : List α} {x : α}, x ∈ List.filter p xs ↔ x ∈ xs /\ p x = true:=@List.mem_filter
theorem qC:∀ {n : Nat} {P : Program} {f : FuncId} {args : Array Value} {w : World} {R : Ending -> World -> Prop}, CallsIn Fence.wide n P f args w R ↔ Calls P f args w R:=@callsIn_wide
theorem jH.{u_1}:∀ {α : Type u_1} {i : Nat} {l : List α}, List.length (List.drop i l) = List.length l - i:=@List.length_drop
theorem ZQ:∀ {p : Prop} {_ : Decidable p}, decide p = false ↔ ¬p:=@decide_eq_false_iff_not
theorem ZP.{u_1}:∀ {α : Type u_1} (p : α -> Bool) (l : List α), List.length (List.filter p l) <= List.length l:=@List.length_filter_le
theorem jV:∀ (a b : Bool), ((a || b) = true) = (a = true \/ b = true):=@Bool.or_eq_true
theorem Yr.{u_1}:∀ {α : Type u_1} (xs bs cs : List α), xs ++ bs ++ cs = xs ++ (bs ++ cs):=@List.append_assoc
theorem vJ:∀ (w : World) (o : Obj), Array.size (World.heap (World.alloc w o)) = Array.size (World.heap w) + 1:=@World.size_alloc
theorem vH.{u_1}:∀ {α : Type u_1} {x : α} {xs : List α} {p : α -> Bool}, List.filter p (x :: xs) = if p x = true then x :: List.filter p xs else List.filter p xs:=@List.filter_cons
theorem ZO:∀ {w w' : World} {a : Addr}, (World.heap w')[Addr.block a]? = (World.heap w)[Addr.block a]? -> World.cell? w' a = World.cell? w a:=@World.cell?_of_block
theorem v_.{u_1}:∀ {α : Type u_1} {p : α -> Bool} {l : List α}, List.any l p = true ↔ ∃ x, x ∈ l /\ p x = true:=@List.any_eq_true
theorem qE.{u_1}:∀ {α : Type u_1} [BEq α] [LawfulBEq α] {a b : α}, (a == b) = true ↔ a = b:=@beq_iff_eq
theorem YJ.{u_1}:∀ {α : Type u_1} {l : List α} {i : Nat}, List.length l <= i -> l[i]? = none:=@List.getElem?_eq_none
theorem j9.{u_1,u_2}:∀ {α : Type u_1} {β : Type u_2} {f : α -> β} {a : α} {l : List α}, List.map f (a :: l) = f a :: List.map f l:=@List.map_cons
theorem Ze:∀ {n : Nat}, List.range (Nat.succ n) = List.range n ++ [n]:=@List.range_succ
theorem Zd.{u_1}:∀ {α : Type u_1} (xs : List α), [] ++ xs = xs:=@List.nil_append
theorem jU:∀ (n : Nat), 0 + n = n:=@Nat.zero_add
theorem Y8.{u_1}:∀ {α : Type u_1} {a : α}, List.length [a] = 1:=@List.length_singleton
theorem XI:∀ {x y : Bool}, (x && y) = false ↔ x = false \/ y = false:=@Bool.and_eq_false_iff
theorem Y7:false ≠ true:=@Bool.false_ne_true
theorem XH:(false = true) = False:=@Bool.false_eq_true
theorem Y6.{u_1}:∀ {α : Type u_1} {a : α} {xs bs : List α}, a :: xs ++ bs = a :: (xs ++ bs):=@List.cons_append
theorem Qi:∀ {p : Prop} [Decidable p], decide p = true -> p:=@of_decide_eq_true
theorem Qh:∀ {n : Nat}, List.length (List.range n) = n:=@List.length_range
theorem JM.{u_1}:∀ {α : Type u_1} {a : α}, Array.replicate 0 a = #[]:=@Array.replicate_zero
theorem za{p:Prop}(h:p):Hid p:=h
theorem zn{a b:Bool}(h:a=b):Ending.returned (.bool a)= .returned (.bool b):=by rw[h]
theorem Zq{k:IntKind}{a b:Int}(h:a=b):Ending.returned (.int k a)= .returned (.int k b):=by rw[h]
def Q5(v:Value)(w:World)(e:Ending)(w':World):Prop:=e= .returned v/\w=w'
def zV(v:Value)(w:World)(e:Ending)(w':World):Prop:=e= .returned v/\Below w.heap.size w w'
def Tl(n lo hi:Int):Bool:=decide (lo<=n/\n<=hi)
theorem zd(w:World)(o:Obj):Below w.heap.size w (w.alloc o):=(zG _ _).alloc (zI _) _
theorem XX(w:World)(o:Obj):w.heap.size<(w.alloc o).heap.size:=by simp
theorem Qg(w:World)(v:Value)(T:TypeId):(w.alloc (.cells #[v] T)).cell? ⟨w.heap.size,0,none⟩=some v:=by simp
theorem zO{α: Type}{l:List α}{k:Nat}(h:k<l.length):l.take (k+1)=l.take k++ [l[k]]:=by
 rw[List.take_succ_eq_append_getElem h]
theorem ze{w:World}{b:Nat}{o:Obj}(h:w.heap[b]?=some o):b<w.heap.size:=by
 rcases Nat.lt_or_ge b w.heap.size with h'|h'
 ·exact h'
 ·rw[Array.getElem?_eq_none h']at h;cases h
theorem V1{a b:Value}(h:a=b):Ending.returned a= .returned b:=by rw[h]
theorem _root_.Go.RowKit.Below.step{w w1 w2:World}(h:Below w.heap.size w w1)(k:Below w1.heap.size w1 w2):Below w.heap.size w w2:=h.trans (k.mono h.size)
theorem KB{P:Program}{f:FuncId}{args:Array Value}{w:World}{v:Value}(h:Calls P f args w (Q5 v w)):Calls P f args w fun e w''=>e= .returned v/\w''=w:=h.mono fun _ _ ⟨a,b⟩=>⟨a,b.symm⟩
theorem zo(w:World)(o:Obj)(k:Nat)(h:k=w.heap.size):(w.alloc o).heap[k]?=some o:=by subst h;exact heap_alloc_new _ _
theorem zt(w:World):Below w.heap.size w w.drew:=(zG _ _).drew
def Tf(v u:Value)(w:World)(e:Ending)(w':World):Prop:=e= .returned (.tuple #[v,u])/\Below w.heap.size w w'
def Te(v u x:Value)(w:World)(e:Ending)(w':World):Prop:=e= .returned (.tuple #[v,u,x])/\Below w.heap.size w w'
def yC(w:World)(a:Option Addr)(l:List Int):Prop:=
 ∀i (h:i<l.length),∃b off,a=some ⟨b,off,none⟩/\b<w.heap.size/\w.cell? ⟨b,off+i,none⟩=some (.int .i64 l[i])
theorem yC.below{w w':World}{a:Option Addr}{l:List Int}(h:yC w a l)(hb:Below w.heap.size w w'):yC w' a l:=by
 intro i hi;obtain⟨b,off,ha,hlt,h1⟩:=h i hi;exact⟨b,off,ha,xh hlt hb.size,zK hb h1⟩
def Ta(p:Int->Bool)(l:List Int):Int:=match l.findIdx? p with|some i=>i|none=> -1
def zu(w:World)(base:Nat)(v:Value)(l:List Int):Prop:=w.ownsRow base 3 1 v l.length (l.map (Value.int .i64))
theorem GV:(prog.info? 3).map (fun i=>(i.zero,i.size,i.bytes))=some (some (.int .i64 0),1,8):=by kernel_rfl
theorem zu.rd{w:World}{base:Nat}{v:Value}{l:List Int}(h:zu w base v l):∃a cap,v= .slice a l.length cap/\yC w a l:=by
 obtain⟨_,h⟩:=h;rcases h with ⟨rfl,h0⟩|⟨g,cap,cur,rfl,hg,hh,h1,h2,h3,h4⟩
 ·exact⟨none,0,by rw[h0],fun i hi=>by omega⟩
 ·refine⟨_,cap,rfl,fun i hi=>⟨g,0,rfl,ze hh,?_⟩⟩
  rw[zA _ _ _ _ _ _ hh,jU];have e:(cur.toList.take (l.length*1))[i]?=(l.map (Value.int .i64))[i]?:=by rw[h4]
  rw[List.getElem?_take,zj (by omega)]at e;simpa[hi]using e
theorem zu.later{w w':World}{base:Nat}{v:Value}{l:List Int}(h:zu w base v l)(hb:Below w.heap.size w w'):zu w' base v l:=by
 refine⟨h.1,?_⟩;rcases h.2 with ⟨rfl,h0⟩|⟨g,cap,cur,rfl,hg,hh,h1⟩
 ·exact .inl ⟨rfl,h0⟩
 ·exact .inr ⟨g,cap,cur,rfl,hg,by rw[hb.block g (ze hh)];exact hh,h1⟩
theorem zu.mono{w:World}{base base':Nat}{v:Value}{l:List Int}(h:zu w base v l)(hb:base'<=base):zu w base' v l:=by
 refine⟨h.1,?_⟩;rcases h.2 with h0|⟨g,cap,cur,rfl,hg,h1⟩
 ·exact .inl h0
 ·exact .inr ⟨g,cap,cur,rfl,yP hb hg,h1⟩
theorem zy{w:World}{base:Nat}{e:TypeId}{size:Nat}{v:Value}{n:Nat}{xs:List Value}(h:w.ownsRow base e size v n xs):∀k,v.ownBlock=some k->base<=k:=by
 rcases h.2 with ⟨rfl,_⟩|⟨g,cap,cur,rfl,hg,_⟩
 ·intro k hk
  cases hk
 ·intro k hk
  cases hk;exact hg
theorem yA{w w':World}{base:Nat}{e:TypeId}{sz:Nat}{v:Value}{n:Nat}{xs:List Value}(h:w.ownsRow base e sz v n xs)(hk:∀b,v.ownBlock=some b->b<w.heap.size->w'.heap[b]?=w.heap[b]?):w'.ownsRow base e sz v n xs:=by
 refine⟨h.1,?_⟩;rcases h.2 with ⟨rfl,h0⟩|⟨g,cap,cur,rfl,hg,hh,h1⟩
 ·exact .inl ⟨rfl,h0⟩
 ·exact .inr ⟨g,cap,cur,rfl,hg,by rw[hk g rfl (ze hh)];exact hh,h1⟩
theorem Lc{w:World}{base base':Nat}{e:TypeId}{sz:Nat}{v:Value}{n:Nat}{xs:List Value}(h:w.ownsRow base e sz v n xs)(hb:base'<=base):w.ownsRow base' e sz v n xs:=by
 refine⟨h.1,?_⟩;rcases h.2 with h|⟨g,cap,cur,h1,hg,h2⟩
 ·exact .inl h
 ·exact .inr ⟨g,cap,cur,h1,by omega,h2⟩
theorem xR{B:Nat}{a w:World}(h:Below B a w)(n:Nat):Below B a (w.drewN n):=⟨h.os,h.tape,h.output,h.size,h.block⟩
theorem jP{w:World}{b k:Nat}{c:Array Value}{e:TypeId}{v:Value}(h:w.heap[b]?=some (.cells c e (0,0)))(hk:c[k]?=some v):w.cell? ⟨b,k,none⟩=some v:=by
 rw[zA _ _ _ _ _ _ h];exact hk
theorem YF{w:World}{b k:Nat}{c:Array Value}{e:TypeId}(h:w.heap[b]?=some (.cells c e (0,0))):w.frozen? ⟨b,k,none⟩=false:=by simp[World.frozen?,h]
theorem jG{W1 w1:World}{g:Option Nat}(hg:W1.grownBy w1 g){b:Nat}{o:Obj}(hb:W1.heap[b]?=some o)(hne:some b≠g):w1.heap[b]?=some o:=(hg.block b (ze hb) hne).trans hb
theorem ju{x:Int}(h: -9223372036854775808<=x/\x<=9223372036854775807):IntKind.i64.wrap x=x:=IntWalk.i64_in _ h
theorem Dd{w w':World}{base:Nat}{e:TypeId}{size:Nat}{v:Value}{n:Nat}{xs:List Value}(h:w.ownsRow base e size v n xs)(hb:Below w.heap.size w w'):w'.ownsRow base e size v n xs:=by
 refine⟨h.1,?_⟩;rcases h.2 with ⟨rfl,h0⟩|⟨g,cap,cur,rfl,hg,hh,h1⟩
 ·exact .inl ⟨rfl,h0⟩
 ·exact .inr ⟨g,cap,cur,rfl,hg,by rw[hb.block g (ze hh)];exact hh,h1⟩
theorem zb{w w':World}{b:Nat}{o:Obj}(hb:Below w.heap.size w w')(h:w.heap[b]?=some o):w'.heap[b]?=some o:=(hb.block b (ze h)).trans h
theorem qe{W:World}{b:Nat}{x y:Value}{T:TypeId}(h:W.heap[b]?=some (.cells #[x,y] T (0,0))):W.cell? ⟨b,0,none⟩=some x/\W.cell? ⟨b,1,none⟩=some y/\W.frozen? ⟨b,0,none⟩=false/\W.frozen? ⟨b,1,none⟩=false:=by
 simp[World.cell?,World.frozen?,h]
theorem KO{W:World}{b:Nat}{x y z:Value}{T:TypeId}(h:W.heap[b]?=some (.cells #[x,y,z] T (0,0))):W.cell? ⟨b,0,none⟩=some x/\W.cell? ⟨b,1,none⟩=some y/\W.cell? ⟨b,2,none⟩=some z/\W.frozen? ⟨b,0,none⟩=false/\W.frozen? ⟨b,1,none⟩=false/\W.frozen? ⟨b,2,none⟩=false:=by
 simp[World.cell?,World.frozen?,h]
theorem yC.cells{w:World}{b off:Nat}{l:List Int}(h:yC w (some ⟨b,off,none⟩) l):∀j u,(l.map (Value.int .i64))[j]?=some u->w.cell? ((⟨b,off,none⟩:Addr).add j)=some u:=by
 intro j u hu
 have hj:j<l.length:=by
  have:=(ZE.1 hu).1
  rwa [ym]at this
 obtain⟨b',off',e,hlt,h0⟩:=h j hj;simp only[Option.some.injEq,Addr.mk.injEq,and_true]at e;obtain⟨rfl,rfl⟩:=e
 have ea:((⟨b,off,none⟩:Addr).add j)=⟨b,off+j,none⟩:=by
  unfold Addr.add;by_cases h0:j=0
  ·subst h0;simp
  ·simp[h0]
 rw[ea,h0];simpa[hj]using hu
theorem Xx(w:World)(base:Nat)(ty:TypeId)(v:Value)(l0 l:List Int)(hown:zu w base v l0)(a:Option Addr)(c:Nat)(hl:yC w a l)(hs:l0.length+l.length<=1000000)(hb:base<=w.heap.size):
  ∃v' w',(Builtin.append_ #[28,28] ty #[v,.slice a l.length c]).run prog w= .ok v' w'/\zu w' base v' (l0++l)/\w.grownBy w' v.ownBlock/\(v'.ownBlock=v.ownBlock\/v'.ownBlock=some w.heap.size):=by
 obtain⟨i0,hi,hz0,hz1,hz2⟩:=info_parts GV
 cases a with
 |none=>
  have hl0:l= []:=by
   cases l with
   |nil=>rfl
   |cons x l=>
    obtain⟨b,off,e,_⟩:=hl 0 (Nat.succ_pos _);cases e
  subst hl0;refine⟨v,w,?_,by rw[qO];exact hown,⟨rfl,rfl,rfl,zI _,fun _ _ _=>rfl⟩,.inl rfl⟩;rcases hown.2 with ⟨rfl,h0⟩|⟨g,cap,cur,rfl,_,_,hnc,_⟩
  ·simp[Builtin.append_,run_underlying Tryz.underlying28,sizeOf,typeInfo,hi,Builtin.lenOf,Builtin.firstCells]
  ·simp[Builtin.append_,run_underlying Tryz.underlying28,sizeOf,typeInfo,hi,Builtin.lenOf,Builtin.firstCells,hnc,storeCells]
 |some ad=>
  have hcells:∀j u,(l.map (Value.int .i64))[j]?=some u->w.cell? (ad.add j)=some u:=by
   cases l with
   |nil=>intro j u hu;simp at hu
   |cons x l=>
    obtain⟨b,off,e,_⟩:=hl 0 (Nat.succ_pos _);injection e with e;subst e;exact hl.cells
  have hone:∀u∈l.map (Value.int .i64),u.oneCell'=true:=by
   intro u hu;obtain⟨x,_,rfl⟩:=xI.1 hu;rfl
  obtain⟨v',w',h1,h2,h3,_,h5⟩:=run_append_own_at (P:=prog) w base 28 ty 3 i0 _ 1 8 Tryz.underlying28 hi hz0 hz1 hz2 rfl (by decide) v l0.length (l0.map (Value.int .i64)) hown ad l.length c (l.map (Value.int .i64)) (by simp) hcells hone (by unfold maxLen;omega) (by omega) hb;refine⟨v',w',h1,?_,h3,h5⟩;unfold zu;rw[yV,q8];exact h2
theorem zv{ops:Array Oper}{rest:List Oper}{o:Oper}{a:Act}{Q:Exit->Act->World->Prop}(w:World)(hgd:o.guard=none)(s x:Operand)
  (ho:o.op= .call { callee:=.builtin .append,args:=#[s,x],argTypes:=#[28,28] }) (base:Nat) (v:Value) (l0 l:List Int) (hsv:a.eval s=v) (hown:zu w base v l0) (A:Option Addr) (c:Nat) (hx:a.eval x= .slice A l.length c) (hl:yC w A l) (hs:l0.length+l.length<=1000000) (hb:base<=w.heap.size)
  (h:∀v' w',zu w' base v' (l0++l)->w.grownBy w' v.ownBlock->(v'.ownBlock=v.ownBlock\/v'.ownBlock=some w.heap.size)->wpList prog ops Q rest (a.put o.dst v') w'):wpList prog ops Q (o::rest) a w:=by
 refine wpList_plain hgd fun K hK=> ?_
 obtain⟨v',w',hrun,h2,h3,h4⟩:=Xx w base o.type v l0 l hown A c hl hs hb;unfold Oper.wp execOp;simp only[ho,resolve,invoke,builtin,Sem.run_bind,Sem.run_pure,Result.andThen_ok,List.map_toArray,j9,List.map_nil,hsv,hx,hrun];exact hK _ _ (h v' w' h2 h3 h4)
theorem zu.none{w:World}{base g:Nat}(hb:base<=g)(h:w.heap[g]?=some (.cells #[] 3 (0,0))):zu w base (.slice (some ⟨g,0,none⟩) 0 0) []:=⟨rfl,.inr ⟨g,0,#[],rfl,hb,h,zI _,zE _,rfl,rfl⟩⟩
def BI(w:World)(g:Nat)(L:List Int):Prop:=∃cur,w.heap[g]?=some (.cells cur 3 (0,0))/\∀i (h:i<L.length),cur[i]?=some (.int .i64 L[i])
theorem BI.of_own{w:World}{base:Nat}{v:Value}{L:List Int}(h:zu w base v L)(hne:L≠ []):∃g cap,v= .slice (some ⟨g,0,none⟩) L.length cap/\base<=g/\BI w g L:=by
 rcases h.2 with ⟨_,h0⟩|⟨g,cap,cur,rfl,hg,hh,h1,h2,h3,h4⟩
 ·exact absurd (List.length_eq_zero_iff.1 h0) hne
 ·refine⟨g,cap,rfl,hg,cur,hh,fun i hi=> ?_⟩
  have e:(cur.toList.take (L.length*1))[i]?=(L.map (Value.int .i64))[i]?:=by rw[h4]
  rw[List.getElem?_take,zj (by omega)]at e;simpa[hi]using e
theorem BI.at{w:World}{g:Nat}{L:List Int}(h:BI w g L){i:Nat}(hi:i<L.length):w.cell? ⟨g,i,none⟩=some (.int .i64 L[i]):=by
 obtain⟨cur,hh,hc⟩:=h;rw[zA _ _ _ _ _ _ hh];exact hc i hi
theorem BI.frozen{w:World}{g:Nat}{L:List Int}(h:BI w g L)(o:Nat):w.frozen? ⟨g,o,none⟩=false:=by
 obtain⟨cur,hh,_⟩:=h;simp[World.frozen?,hh]
theorem BI.lt{w:World}{g:Nat}{L:List Int}(h:BI w g L):g<w.heap.size:=by
 obtain⟨cur,hh,_⟩:=h;exact ze hh
theorem BI.rd{w:World}{g:Nat}{L:List Int}(h:BI w g L):yC w (some ⟨g,0,none⟩) L:=fun i hi=>⟨g,0,rfl,h.lt,by rw[jU];exact h.at hi⟩
theorem BI.keep{w w':World}{g:Nat}{L:List Int}(h:BI w g L)(e:w'.heap[g]?=w.heap[g]?):BI w' g L:=by
 obtain⟨cur,hh,hc⟩:=h;exact⟨cur,by rw[e];exact hh,hc⟩
theorem BI.below{w w':World}{g:Nat}{L:List Int}(h:BI w g L)(hb:Below w.heap.size w w'):BI w' g L:=h.keep (hb.block g h.lt)
theorem BI.set{w:World}{g:Nat}{L:List Int}(h:BI w g L){i:Nat}(hi:i<L.length)(v:Int):BI (w.setCell ⟨g,i,none⟩ (.int .i64 v)) g (L.set i v):=by
 obtain⟨cur,hh,hc⟩:=h;have hsz:i<cur.size:=(qM.1 (hc i hi)).1;refine⟨_,yk _ _ _ _ _ _ hh,fun k hk=> ?_⟩;have hk':k<L.length:=by simpa using hk
 rw[Array.getElem?_setIfInBounds,List.getElem_set];by_cases e:i=k
 ·subst e
  simp[hsz]
 ·rw[zi e,zi e]
  exact hc k hk'
def Ya{α: Type}(p:α-> Bool)(l:List α):Int:=match l.findIdx? p with|some i=>i|none=> -1
theorem YZ{α: Type}{p:α-> Bool}{l:List α}{i:Nat}(h:i<l.length)(hp:p l[i]=true)(hn:∀x,x∈l.take i->p x=false):Ya p l=i:=by
 unfold Ya
 have:l.findIdx? p=some i:=by
  rw[List.findIdx?_eq_some_iff_getElem];refine⟨h,hp,fun j hj=> ?_⟩;have:=hn l[j] (by rw[List.mem_take_iff_getElem];exact⟨j,by omega,rfl⟩);simp[this]
 rw[this]
theorem Y0{α: Type}{p:α-> Bool}{l:List α}(hn:∀x,x∈l->p x=false):Ya p l= -1:=by
 unfold Ya;have:l.findIdx? p=none:=by rw[List.findIdx?_eq_none_iff];exact fun x hx=>hn x hx
 rw[this]
theorem GY{α: Type}(p:α-> Bool)(l:List α):decide (0<=Ya p l)=l.any p:=by
 unfold Ya
 cases h:l.findIdx? p with
 |none=>
  rw[List.findIdx?_eq_none_iff]at h;symm;rw[show decide ((0:Int)<= -1)=false from rfl,List.any_eq_false];intro x hx
  simp[h x hx]
 |some i=>
  obtain⟨hi,hp,_⟩:=List.findIdx?_eq_some_iff_getElem.1 h;have:l.any p=true:=v_.2 ⟨_,yy hi,hp⟩;rw[this];simp
theorem Zr{α: Type}(p:α-> Bool)(l:List α): -1<=Ya p l/\Ya p l<l.length:=by
 unfold Ya
 cases h:l.findIdx? p with
 |none=>exact⟨Int.le_refl _,by have:=Int.natCast_nonneg l.length;show(-1:Int)<_;omega⟩
 |some i=>
  obtain⟨hi,_,_⟩:=List.findIdx?_eq_some_iff_getElem.1 h;exact⟨by show(-1:Int)<=(i:Int);omega,by show(i:Int)<_;omega⟩
theorem zk{α: Type}{l:List α}{d:α}{i:Nat}(h:i<l.length):l.getD i d=l[i]:=by
 rw[jI,q9 h];rfl
def Kt(w:World)(a:Option Addr)(m:List (List Int)):Prop:=
 ∀i (h:i<m.length),∃b off,a=some ⟨b,off,none⟩/\b<w.heap.size/\∃ai ci,w.cell? ⟨b,off+i,none⟩=some (.slice ai m[i].length ci)/\yC w ai m[i]
theorem Kt.below{w w':World}{a:Option Addr}{m:List (List Int)}(h:Kt w a m)(hb:Below w.heap.size w w'):Kt w' a m:=by
 intro i hi;obtain⟨b,off,ha,hlt,ai,ci,h1,h2⟩:=h i hi;exact⟨b,off,ha,xh hlt hb.size,ai,ci,zK hb h1,h2.below hb⟩
theorem yC.at{w:World}{a:Option Addr}{l:List Int}(h:yC w a l){i:Nat}(hi:i<l.length):∃b off,a=some ⟨b,off,none⟩/\b<w.heap.size/\w.cell? ⟨b,off+i,none⟩=some (.int .i64 (l.getD i (-1))):=by
 obtain⟨b,off,h1,h2,h3⟩:=h i hi;exact⟨b,off,h1,h2,by rw[zk hi];exact h3⟩
def Tm(l:List Nat):List Int:=l.map Int.ofNat
theorem yJ(w:World)(x:Int)(T:TypeId):yC (w.alloc (.cells #[.int .i64 x] T)) (some ⟨w.heap.size,0,none⟩) [x]:=by
 intro i hi;obtain rfl:i=0:=by simp at hi;exact hi
 exact⟨_,_,rfl,XX _ _,Qg _ _ _⟩
theorem ZX{p:Nat->Bool}{n k:Nat}(hk:k<n)(hp:p k=false):(List.range n).all p=false:=by
 rw[Bool.eq_false_iff];intro h;have:=yL.1 h k (yR.2 hk);rw[hp]at this;cases this
def Za(l:List Int)(w:World)(e:Ending)(w':World):Prop:=Below w.heap.size w w'/\∃v,e= .returned v/\zu w' w.heap.size v l
theorem Kt.row{w:World}{a:Option Addr}{m:List (List Int)}(h:Kt w a m){i:Nat}(hi:i<m.length):∃b off,a=some ⟨b,off,none⟩/\b<w.heap.size/\∃ai ci,w.cell? ⟨b,off+i,none⟩=some (.slice ai (m.getD i []).length ci)/\yC w ai (m.getD i []):=by
 obtain⟨b,off,ha,hlt,h1⟩:=h i hi;exact⟨b,off,ha,hlt,by rw[zk hi];exact h1⟩
structure zm where
 op:Int
 a:Int
 b:Int
 c:Int
structure jR where
 frm:Int
 til:Int
 at':Int
structure zg where
 cls:ByteArray
 name:ByteArray
 args:Int
 slots:Int
 frame:Int
 code:List zm
 guards:List jR
structure XJ where
 name:Array UInt8
 h0:Int
 h1:Int
 h2:Int
 wr:Int
 r0:Int
 r1:Int
 rs:Bool
 en:Bool
def jT:XJ:=⟨#[],0,0,0,0,0,0,false,false⟩
def Zz:List XJ:=[jT,
 ⟨#[105,110,116],1,4,0,1,0,0,false,false⟩,
 ⟨#[98,111,111,108],1,5,0,1,0,0,false,false⟩,
 ⟨#[118,111,105,100],1,0,0,1,0,0,false,false⟩,
 ⟨#[109,111,118,101],1,1,0,1,2,0,false,false⟩,
 ⟨#[115,101,108,102],1,0,0,1,0,0,false,false⟩,
 ⟨#[97,100,100],1,1,1,1,2,3,true,false⟩,
 ⟨#[115,117,98],1,1,1,1,2,3,true,false⟩,
 ⟨#[109,117,108],1,1,1,1,2,3,true,false⟩,
 ⟨#[100,105,118],1,1,1,1,2,3,true,false⟩,
 ⟨#[109,111,100],1,1,1,1,2,3,true,false⟩,
 ⟨#[110,101,103],1,1,0,1,2,0,false,false⟩,
 ⟨#[101,113],1,1,1,1,2,3,false,false⟩,
 ⟨#[108,101,115,115],1,1,1,1,2,3,false,false⟩,
 ⟨#[109,111,115,116],1,1,1,1,2,3,false,false⟩,
 ⟨#[110,111,116],1,1,0,1,2,0,false,false⟩,
 ⟨#[104,97,115],1,1,0,1,2,0,false,false⟩,
 ⟨#[103,101,116],1,2,7,1,2,0,true,false⟩,
 ⟨#[115,101,116],7,1,0,0,2,0,false,false⟩,
 ⟨#[97,114,103],6,1,0,0,2,0,false,false⟩,
 ⟨#[99,97,108,108],2,2,8,1,2,0,true,false⟩,
 ⟨#[110,101,119],1,10,5,1,0,0,true,false⟩,
 ⟨#[109,97,107,101],1,9,0,0,1,0,true,false⟩,
 ⟨#[105,110,118],2,0,0,0,1,0,true,false⟩,
 ⟨#[106,117,109,112],3,0,0,0,0,0,false,true⟩,
 ⟨#[102,97,108,115,101],1,3,0,0,1,0,false,false⟩,
 ⟨#[114,97,105,115,101],11,0,0,0,0,0,true,true⟩,
 ⟨#[102,97,105,108],0,0,0,0,0,0,true,true⟩,
 ⟨#[114,101,116],2,0,0,0,1,0,false,true⟩,
 ⟨#[112,117,116],1,0,0,0,1,0,false,false⟩,
 ⟨#[101,110,116,101,114],1,0,0,0,1,0,true,false⟩,
 ⟨#[108,101,97,118,101],0,0,0,0,0,0,false,false⟩,
 ⟨#[97,103,97,105,110],1,3,0,0,1,0,true,false⟩,
 ⟨#[108,111,97,100],1,12,0,1,0,0,false,false⟩,
 ⟨#[115,116,111,114,101],12,1,0,0,2,0,false,false⟩]
def jA(op:Int):Bool:=decide (1<=op)&&decide (op<=34)
def zM(op:Int):XJ:=if jA op=true then Zz.getD op.toNat jT else jT
abbrev vI(i:zm):Value:=.agg #[.int .i64 i.op,.int .i64 i.a,.int .i64 i.b,.int .i64 i.c]
abbrev vG(g:jR):Value:=.agg #[.int .i64 g.frm,.int .i64 g.til,.int .i64 g.at']
abbrev vU(u:zg)(ca:Option Addr)(cc:Nat)(ga:Option Addr)(gc:Nat):Value:=.agg #[.string u.cls,.string u.name,.int .i64 u.args,.int .i64 u.slots,.int .i64 u.frame,.slice ca u.code.length cc,.slice ga u.guards.length gc]
abbrev cF(f:XJ):Array Value:=#[.string ⟨f.name⟩,.int .i64 f.h0,.int .i64 f.h1,.int .i64 f.h2,.int .i64 f.wr,.int .i64 f.r0,.int .i64 f.r1,.bool f.rs,.bool f.en]
abbrev vF(f:XJ):Value:=.agg (cF f)
def vP(i:zm)(k:Nat):Int:=match k with|0=>i.a|1=>i.b|_=>i.c
def Eu(f:XJ)(k:Nat):Int:=match k with|0=>f.h0|1=>f.h1|_=>f.h2
def qR(i:zm):List Int:=((List.range 3).filter fun k=>Eu (zM i.op) k==3).map (vP i)
def yH(at':Int)(g:jR):Bool:=decide (g.frm<=at')&&decide (at'<g.til)
def zD(u:zg)(at':Int):Int:=Ya (yH at') u.guards
def zw:zm:=⟨0,0,0,0⟩
def jF:jR:=⟨0,0,0⟩
def xp(u:zg)(at':Nat):List (Int×Int):=
 (if (!(zM (u.code.getD at' zw).op).en&&decide (at'+1<u.code.length))=true then [((at':Int)+1,0)]else [])++(qR (u.code.getD at' zw)).map (fun p=>(p,1)) ++
 (if ((zM (u.code.getD at' zw).op).rs&&decide (0<=zD u at'))=true then [((u.guards.getD (zD u at').toNat jF).at',2)]else [])
def Qz(w:World)(a:Option Addr)(l:List zm):Prop:=
 ∀i (h:i<l.length),∃b off,a=some ⟨b,off,none⟩/\b<w.heap.size/\w.cell? ⟨b,off+i*4,none⟩=some (.int .i64 l[i].op)/\w.cell? ⟨b,off+i*4+1,none⟩=some (.int .i64 l[i].a)/\w.cell? ⟨b,off+i*4+2,none⟩=some (.int .i64 l[i].b)/\w.cell? ⟨b,off+i*4+3,none⟩=some (.int .i64 l[i].c)
theorem Qz.below{w w':World}{a:Option Addr}{l:List zm}(h:Qz w a l)(hb:Below w.heap.size w w'):Qz w' a l:=by
 intro i hi;obtain⟨b,off,ha,hlt,h0,h1,h2,h3⟩:=h i hi;exact⟨b,off,ha,xh hlt hb.size,zK hb h0,zK hb h1,zK hb h2,zK hb h3⟩
def IG(w:World)(a:Option Addr)(l:List jR):Prop:=
 ∀i (h:i<l.length),∃b off,a=some ⟨b,off,none⟩/\b<w.heap.size/\w.cell? ⟨b,off+i*3,none⟩=some (.int .i64 l[i].frm)/\w.cell? ⟨b,off+i*3+1,none⟩=some (.int .i64 l[i].til)/\w.cell? ⟨b,off+i*3+2,none⟩=some (.int .i64 l[i].at')
theorem IG.below{w w':World}{a:Option Addr}{l:List jR}(h:IG w a l)(hb:Below w.heap.size w w'):IG w' a l:=by
 intro i hi;obtain⟨b,off,ha,hlt,h0,h1,h2⟩:=h i hi;exact⟨b,off,ha,xh hlt hb.size,zK hb h0,zK hb h1,zK hb h2⟩
structure jo(w:World)(u:zg)(ca cc ga gc):Prop where
 rc:Qz w ca u.code
 rg:IG w ga u.guards
 lc:u.code.length<=cc
 lg:u.guards.length<=gc
theorem jo.below{w w':World}{u:zg}{ca cc ga gc}(h:jo w u ca cc ga gc)(hb:Below w.heap.size w w'):jo w' u ca cc ga gc:=⟨h.rc.below hb,h.rg.below hb,h.lc,h.lg⟩
theorem zX{W:World}{b:Nat}{x0 x1 x2 x3:Value}{T:TypeId}(h:W.heap[b]?=some (.cells #[x0,x1,x2,x3] T (0,0))):W.cell? ⟨b,0,none⟩=some x0/\W.cell? ⟨b,1,none⟩=some x1/\W.cell? ⟨b,2,none⟩=some x2/\W.cell? ⟨b,3,none⟩=some x3:=
 ⟨(zA _ _ _ _ _ _ h).trans rfl,(zA _ _ _ _ _ _ h).trans rfl,(zA _ _ _ _ _ _ h).trans rfl,(zA _ _ _ _ _ _ h).trans rfl⟩
theorem zr{W:World}{b:Nat}{x0 x1 x2 x3 x4 x5 x6:Value}{T:TypeId}(h:W.heap[b]?=some (.cells #[x0,x1,x2,x3,x4,x5,x6] T (0,0))):W.cell? ⟨b,0,none⟩=some x0/\W.cell? ⟨b,1,none⟩=some x1/\W.cell? ⟨b,2,none⟩=some x2/\W.cell? ⟨b,3,none⟩=some x3/\W.cell? ⟨b,4,none⟩=some x4/\W.cell? ⟨b,5,none⟩=some x5/\W.cell? ⟨b,6,none⟩=some x6:=
 ⟨(zA _ _ _ _ _ _ h).trans rfl,(zA _ _ _ _ _ _ h).trans rfl,(zA _ _ _ _ _ _ h).trans rfl,(zA _ _ _ _ _ _ h).trans rfl,(zA _ _ _ _ _ _ h).trans rfl,(zA _ _ _ _ _ _ h).trans rfl,(zA _ _ _ _ _ _ h).trans rfl⟩
def yr(n lo hi:Int):Bool:=decide (lo<=n)&&decide (n<=hi)
def RN(c:UInt8):Bool:=(97<=c&&c<=122)||(65<=c&&c<=90)||(48<=c&&c<=57)||c==95
def Sx(s:ByteArray):Bool:=s.data.toList.all RN&&yr s.size 1 20
theorem jy(n lo hi:Int)(w:World):Calls prog 91 #[.int .i64 n,.int .i64 lo,.int .i64 hi] w (Q5 (.bool (yr n lo hi)) w):=by
 have H:Hid (yr n lo hi=(decide (lo<=n)&&decide (n<=hi))):=za rfl;generalize yr n lo hi=r at *;by_cases h1:lo<=n
 ·by_cases h2:n<=hi
  ·go_enter func91,ntmps91
   go_wp2;go_ret;exact⟨zn (by rw[H.out];simp[h1,h2]),rfl⟩
  ·have d2:decide (n<=hi)=false:=yn h2
   go_enter func91,ntmps91;go_wp2;go_ret;exact⟨zn (by rw[H.out];simp[h1,h2]),rfl⟩
 ·have d1:decide (lo<=n)=false:=yn h1
  go_enter func91,ntmps91;go_wp2;go_ret;exact⟨zn (by rw[H.out,d1];rfl),rfl⟩
def Y5(P:Program):List Oper->Act->Option Act
 | [],a=>some a
 |o::l,a=>match o.guard,o.op with
  |none,.build t parts=>match P.built t (parts.map fun(i,x)=>(i,a.eval x)).toList with
   |some C=>Y5 P l (a.put o.dst (.agg C))
   |none=>none
  |_,_=>none
theorem QD{P:Program}{ops:Array Oper}{w:World}{Q:Exit->Act->World->Prop}:∀(l1:List Oper) (a a':Act) (rest:List Oper),Y5 P l1 a=some a'->wpList P ops Q rest a' w->wpList P ops Q (l1++rest) a w
 | [],a,a',rest,h,hK=>by
  obtain rfl:a=a':=Option.some.inj h
  exact hK
 |o::l,a,a',rest,h,hK=>by
  unfold Y5 at h;split at h
  ·rename_i t parts hg ho
   split at h
   ·rename_i C hC
    refine wpList_build hg t parts ho (by rw[hC];rfl) ?_;rw[hC];exact QD l _ a' rest h hK
   ·cases h
  ·cases h
theorem Gi{P:Program}{ops:Array Oper}{w:World}{Q:Exit->Act->World->Prop}(n:Nat)(l:List Oper)(a:Act)(h:(Y5 P (l.take n) a).isSome=true)(hK:wpList P ops Q (l.drop n) ((Y5 P (l.take n) a).getD a) w):wpList P ops Q l a w:=by
 obtain⟨a',ha⟩:=Option.isSome_iff_exists.1 h;rw[ha]at hK;have:=QD (l.take n) a a' (l.drop n) ha hK
 rwa [List.take_append_drop]at this
theorem PC{l:List Oper}{x:Op}(h:l.map (fun o=>(o.guard,o.op,o.dst))= [(none,x,none)]):∃o,l= [o]/\o.guard=none/\o.op=x/\o.dst=none:=by
 cases l with
 |nil=>cases h
 |cons o l=>
  cases l with
  |nil=>
   simp only[j9,List.map_nil,List.cons.injEq,Prod.mk.injEq,and_true]at h
   exact⟨o,rfl,h.1,h.2.1,h.2.2⟩
  |cons _ _=>simp at h
def G8:Array Value:=(Zz.flatMap fun f=>(cF f).toList).toArray
theorem E4:(prog.info? 235).map (·.size)=some 315:=by kernel_rfl
theorem DX(w:World):Calls prog 197 #[] w (zV (.agg G8) w):=by
 go_enter func197,ntmps197;go_upto_region 1 with fail;rename_i K hK;refine wp_region_lit ?_;refine Gi 103 _ _ (by kernel_rfl) ?_;obtain⟨o,ho,hg,hop,hds⟩:=PC (l:=List.drop 103 _) (x:=.store 235 (.tmp 0) (.tmp 103)) (by kernel_rfl);rw[ho];refine wpList_store_row hg 235 (.tmp 0) (.tmp 103) hop w.heap.size G8 (by kernel_rfl) (by kernel_rfl) 235 Tryz.zeroCells235 (zo _ _ _ rfl) (E4.trans (by kernel_rfl)) (by kernel_rfl) (by kernel_rfl) ?_;rw[hds];refine wpList_nil ?_;refine hK _ _ ?_;clear hK K;go_wp2;refine xJ (v:=.agg G8) (results_cell_row rfl _ _ w.heap.size 235 G8 (0,0) _ (by kernel_rfl) (setRow_heap _ _ _ _ _ _ (zo _ _ _ rfl)) Tryz.underlying235 rfl (E4.trans (by kernel_rfl))) (by kernel_rfl) ⟨rfl,?_⟩;exact(zd _ _).trans ⟨rfl,rfl,rfl,by simp,fun k hk=>setRow_other _ _ _ _ (by omega)⟩
theorem vi{P:Program}{fn:Func}{p u:Tmp}{ty:TypeId}(h:fn.results= #[.cell p ty,.tmp u])(tmps:Array Value)(w:World)(g:Nat)(t:TypeId)(cs:Array Value)(fr:Nat×Nat)(d:TypeDesc)
  (hp:tmps.getD p undef= .pointer (some ⟨g,0,none⟩)) (hg:w.heap[g]?=some (.cells cs t fr))
  (hu:P.underlying ty=some d) (hd:(match d with| .struct _| .array _ _=>true|_=>false)=true) (hi:(P.info? ty).map (·.size)=some cs.size) (v:Value) (hv:tmps.getD u undef=v):
  (results fn tmps).run P w= .ok (.tuple #[.agg cs,v]) w:=by
 rw[results_cell_tmp h,hp,hv];show((loadVar ty ⟨g,0,none⟩).run P w).andThen _=_;rw[run_loadVar_row w g t ty cs fr d hg hu hd hi];rfl
theorem PX(f:XJ):(cF f).all (·.oneCell')=true:=by simp[cF,Value.oneCell']
theorem V0:(prog.info? 186).map (·.size)=some 9:=by kernel_rfl
theorem Lw(w:World):∀k:Nat,k<35->(Instr.index 235 (.agg G8) (.int .i64 k)).run prog w= .ok (vF (Zz.getD k jT)) w
 |0,_=>by kernel_rfl
 |1,_=>by kernel_rfl
 |2,_=>by kernel_rfl
 |3,_=>by kernel_rfl
 |4,_=>by kernel_rfl
 |5,_=>by kernel_rfl
 |6,_=>by kernel_rfl
 |7,_=>by kernel_rfl
 |8,_=>by kernel_rfl
 |9,_=>by kernel_rfl
 |10,_=>by kernel_rfl
 |11,_=>by kernel_rfl
 |12,_=>by kernel_rfl
 |13,_=>by kernel_rfl
 |14,_=>by kernel_rfl
 |15,_=>by kernel_rfl
 |16,_=>by kernel_rfl
 |17,_=>by kernel_rfl
 |18,_=>by kernel_rfl
 |19,_=>by kernel_rfl
 |20,_=>by kernel_rfl
 |21,_=>by kernel_rfl
 |22,_=>by kernel_rfl
 |23,_=>by kernel_rfl
 |24,_=>by kernel_rfl
 |25,_=>by kernel_rfl
 |26,_=>by kernel_rfl
 |27,_=>by kernel_rfl
 |28,_=>by kernel_rfl
 |29,_=>by kernel_rfl
 |30,_=>by kernel_rfl
 |31,_=>by kernel_rfl
 |32,_=>by kernel_rfl
 |33,_=>by kernel_rfl
 |34,_=>by kernel_rfl
 |n+35,h=>absurd h (by omega)
theorem Yn(op:Int)(w:World):Calls prog 139 #[.int .i64 op] w (zV (.tuple #[vF (zM op),.bool (jA op)]) w):=by
 cases ho:jA op with
 |false=>
  have hf:zM op=jT:=by unfold zM;rw[ho];rfl
  rw[hf];unfold jA at ho;by_cases h1:1<=op
  ·have h2:34<op:=by simp at ho;omega
   have d1:decide (op<1)=false:=yn (by omega);have d2:decide (34<op)=true:=zP h2;clear ho hf;go_enter func139,ntmps139;go_wp2;exact xJ (v:=.tuple #[vF jT,.bool false]) (vi rfl _ _ w.heap.size 186 (cF jT) (0,0) _ rfl (zo _ _ _ rfl) Tryz.underlying186 rfl V0 _ rfl) rfl ⟨rfl,zd _ _⟩
  ·have d1:decide (op<1)=true:=zP (by omega)
   clear ho hf;go_enter func139,ntmps139;go_wp2
   exact xJ (v:=.tuple #[vF jT,.bool false]) (vi rfl _ _ w.heap.size 186 (cF jT) (0,0) _ rfl (zo _ _ _ rfl) Tryz.underlying186 rfl V0 _ rfl) rfl ⟨rfl,zd _ _⟩
 |true=>
  have hf:zM op=Zz.getD op.toNat jT:=by unfold zM;rw[ho];rfl
  rw[hf];have h:1<=op/\op<=34:=by unfold jA at ho;simpa using ho
  obtain⟨k,rfl⟩:∃k:Nat,op=(k:Int):=⟨op.toNat,by omega⟩
  obtain⟨h1,h2⟩:=h;have hix:=fun w=>Lw w k (by omega)
  have n1:¬(k:Int)<1:=by omega
  have n2:¬34<(k:Int):=by omega
  have d1:decide ((k:Int)<1)=false:=yn n1;have d2:decide (34<(k:Int))=false:=yn n2;rw[show(k:Int).toNat=k from rfl];generalize Zz.getD k jT=f at *;clear ho hf h1 h2;go_enter func139,ntmps139
  go_wp2_with (first
   |(go_at_call 197;(with_reducible refine(DX _).mono ?_);rintro e w1 ⟨rfl,hb⟩;have HB:=za ((zd w _).step hb);have HX:=za (zb hb (zo w (.cells (cF jT) 186) _ rfl));clear hb)
   |(refine wpList_store_row rfl 186 (.tmp 2) (.tmp 13) rfl w.heap.size (cF f) rfl rfl 186 _ HX.out V0 rfl (PX f) ?_))
  exact xJ (v:=.tuple #[vF f,.bool true]) (vi rfl _ _ w.heap.size 186 (cF f) (0,0) _ rfl (setRow_heap _ _ _ _ _ _ HX.out) Tryz.underlying186 rfl V0 _ rfl) rfl ⟨rfl,HB.out.trans ⟨rfl,rfl,rfl,by simp,fun k hk=>setRow_other _ _ _ _ (by omega)⟩⟩
theorem Tb(g:jR)(n:Int)(p:Nat)(w:World)(hp:w.cell? ⟨p,0,none⟩=some (.int .i64 n))(_hlt:p<w.heap.size):
  Calls prog 229 #[vG g,.pointer (some ⟨p,0,none⟩)] w (zV (.bool (yH n g)) w):=by
 have H:Hid (yH n g=(decide (g.frm<=n)&&decide (n<g.til))):=za rfl;have hp1:=zK (zd w (.cells #[.int .i64 g.frm,.int .i64 g.til,.int .i64 g.at'] 90)) hp;have HB:=za (zd w (.cells #[.int .i64 g.frm,.int .i64 g.til,.int .i64 g.at'] 90));clear hp;generalize yH n g=r at *;by_cases h1:g.frm<=n
 ·have d1:decide (g.frm<=n)=true:=zP h1
  by_cases h2:n<g.til
  ·have d2:decide (n<g.til)=true:=zP h2
   rw[d1,d2]at H;go_enter func229,ntmps229;go_wp2;go_ret;exact⟨zn (by rw[H.out];rfl),HB.out⟩
  ·have d2:decide (n<g.til)=false:=yn h2
   rw[d1,d2]at H;go_enter func229,ntmps229;go_wp2;go_ret;exact⟨zn (by rw[H.out];rfl),HB.out⟩
 ·have d1:decide (g.frm<=n)=false:=yn h1
  rw[d1]at H;go_enter func229,ntmps229;go_wp2;go_ret;exact⟨zn (by rw[H.out];rfl),HB.out⟩
theorem M6(n:Int)(p:Nat)(l:List jR)(a:Option Addr)(cap:Nat)(w:World)(hl:IG w a l)(hll:l.length<=9223372036854775807)(hp:w.cell? ⟨p,0,none⟩=some (.int .i64 n))(hlt:p<w.heap.size):
  Calls prog 172 #[.slice a l.length cap,.func (.func 229) #[] #[.pointer (some ⟨p,0,none⟩)]] w (zV (.int .i64 (Ya (yH n) l)) w):=by
 have HL:=za hl;clear hl;have HP:=za hp;clear hp;have HLT:=za hlt;clear hlt;go_enter func172,ntmps172;go_wp2;go_loopg [8] l.length (fun gh s8 wr=>∃j:Nat,j<=l.length/\gh=l.length-j/\s8= .int .i64 j/\Hid (∀x,x∈l.take j->yH n x=false)/\Hid (Below w.heap.size w wr));case atStart=>exact⟨0,zE _,rfl,rfl,za (by simp),za (zG _ _)⟩
 case round=>
  obtain⟨j,hj,rfl,rfl,HQ,HB⟩:=hrel;by_cases hlj:j<l.length
  ·obtain⟨b2,off,ha,hlt2,h0,h1,h2⟩:=(HL.out.below HB.out) j hlj
   subst ha;have HK:=za (fun g=>Tb g n p wr (zK HB.out HP.out) (xh HLT.out HB.out.size));have nj:(j:Int)<(l.length:Int):=by omega
   have HG:=za (YZ (p:=yH n) (l:=l) (i:=j) hlj);have HT:Hid (l.take (j+1)=l.take j++ [l[j]]):=za (zO hlj);generalize l[j]=g at *
   cases hg:yH n g with
   |true=>
    have HKG:=za (HK.out g);rw[hg]at HKG;have HE:=za (HG.out hg HQ.out);clear hg;go_wp2_with (go_at_call 229;(with_reducible refine HKG.out.mono ?_);rintro e w' ⟨rfl,hb⟩;have HB2:=za (HB.out.step hb);clear hb);go_ret
    exact⟨Zq HE.out.symm,HB2.out⟩
   |false=>
    have HKG:=za (HK.out g);rw[hg]at HKG;have HGF:=za hg;clear hg;go_wp2_with (go_at_call 229;(with_reducible refine HKG.out.mono ?_);rintro e w' ⟨rfl,hb⟩;have HB2:=za (HB.out.step hb);clear hb);go_roundg (l.length-(j+1));case measure=>omega
    case rel=>
     refine⟨j+1,by omega,rfl,by go_num,za fun x hx=> ?_,HB2⟩;rw[HT.out,qr]at hx;rcases hx with hx|hx
     ·exact HQ.out x hx
     ·rw[qf.1 hx];exact HGF.out
  ·obtain rfl:j=l.length:=by omega
   have HE:=za (Y0 (p:=yH n) (fun x hx=>HQ.out x (by rw[xL];exact hx)));go_wp2;go_ret;exact⟨Zq HE.out.symm,HB.out⟩
theorem X6(u:zg)(n:Int)(ca cc ga gc)(w:World)(hg:IG w ga u.guards)(hlg:u.guards.length<=9223372036854775807):
  Calls prog 210 #[vU u ca cc ga gc,.int .i64 n] w (zV (.int .i64 (zD u n)) w):=by
 have HB:=za ((zd w (.cells #[.string u.cls,.string u.name,.int .i64 u.args,.int .i64 u.slots,.int .i64 u.frame,.slice ca u.code.length cc,.slice ga u.guards.length gc] 25)).step (zd _ (.cells #[.int .i64 n] 3)));have HI:=za (M6 n (w.heap.size+1) u.guards ga gc _ (hg.below HB.out) hlg (by have:=Qg (w.alloc (.cells #[.string u.cls,.string u.name,.int .i64 u.args,.int .i64 u.slots,.int .i64 u.frame,.slice ca u.code.length cc,.slice ga u.guards.length gc] 25)) (.int .i64 n) 3;rw[vJ]at this;exact this) (by simp));clear hg;go_enter func210,ntmps210;go_wp2_with (go_at_call 172;refine HI.out.mono ?_;rintro e w' ⟨rfl,hb⟩;have HB2:=za (HB.out.step hb);clear hb);go_ret;exact⟨rfl,HB2.out⟩
theorem O6(x y z:Int)(w:World):(Instr.index 167 (.agg #[.int .i64 x,.int .i64 y,.int .i64 z]) (.int .i64 0)).run prog w= .ok (.int .i64 x) w:=by kernel_rfl
theorem O5(x y z:Int)(w:World):(Instr.index 167 (.agg #[.int .i64 x,.int .i64 y,.int .i64 z]) (.int .i64 1)).run prog w= .ok (.int .i64 y) w:=by kernel_rfl
theorem O4(x y z:Int)(w:World):(Instr.index 167 (.agg #[.int .i64 x,.int .i64 y,.int .i64 z]) (.int .i64 2)).run prog w= .ok (.int .i64 z) w:=by kernel_rfl
theorem J4(i:zm)(w:World):Calls prog 140 #[vI i] w (zV (.agg #[.int .i64 i.a,.int .i64 i.b,.int .i64 i.c]) w):=by
 go_enter func140,ntmps140;go_wp2;refine xJ (v:=.agg #[.int .i64 i.a,.int .i64 i.b,.int .i64 i.c]) (by simp[results,Tryz.results140,go_sem]) rfl ⟨rfl,?_⟩;exact(zd _ _).step (zd _ _)
def qI(f:XJ)(i:zm)(k:Nat):List Int:=((List.range k).filter fun j=>Eu f j==3).map (vP i)
theorem Xc(f:XJ)(i:zm)(k:Nat):qI f i (k+1)=if Eu f k=3 then qI f i k++ [vP i k]else qI f i k:=by
 unfold qI;rw[Ze,List.filter_append,q8];by_cases h:Eu f k=3
 ·rw[zj h,show [k].filter (fun j=>Eu f j==3)= [k]from List.filter_cons_of_pos (by simp[h])]
  rfl
 ·rw[zi h,show [k].filter (fun j=>Eu f j==3)= []from List.filter_cons_of_neg (by simp[h])]
  simp
theorem Z8(f:XJ)(i:zm)(k:Nat):(qI f i k).length<=k:=by
 unfold qI;rw[ym];have:=ZP (fun j=>Eu f j==3) (List.range k)
 rwa [Qh]at this
theorem GC(i:zm)(w:World):Calls prog 209 #[vI i] w (Za (qR i) w):=by
 have HF:=za (Yn i.op);have HPL:Hid (qR i=qI (zM i.op) i 3):=za rfl;have HPA:=za (fun w=>J4 i w);generalize zM i.op=f at *;generalize jA i.op=ok at *;have hx0:=O6 f.h0 f.h1 f.h2;have hx1:=O5 f.h0 f.h1 f.h2;have hx2:=O4 f.h0 f.h1 f.h2;have hy0:=O6 i.a i.b i.c;have hy1:=O5 i.a i.b i.c;have hy2:=O4 i.a i.b i.c;have HX1:=za (zo w (.cells #[.int .i64 i.op,.int .i64 i.a,.int .i64 i.b,.int .i64 i.c] 85) _ rfl);have HB:=za (zd w (.cells #[.int .i64 i.op,.int .i64 i.a,.int .i64 i.b,.int .i64 i.c] 85));go_enter func209,ntmps209;go_upto_region 4 with (go_at_call 139;(with_reducible refine(HF.out _).mono ?_);rintro e w1 ⟨rfl,hb⟩;replace HX1:=za (zb (hb.step (zd w1 (.cells (cF f) 186))) HX1.out);replace HB:=za (HB.out.step (hb.step (zd w1 (.cells (cF f) 186))));clear hb);obtain⟨w2,hw2⟩:∃w2,w2=w1.alloc (.cells (cF f) 186):=⟨_,rfl⟩
 have e2:w1.alloc (.cells #[.string ⟨f.name⟩,.int .i64 f.h0,.int .i64 f.h1,.int .i64 f.h2,.int .i64 f.wr,.int .i64 f.r0,.int .i64 f.r1,.bool f.rs,.bool f.en] 186)=w2:=hw2.symm;rw[e2]at HX1 HB;rw[e2];clear e2 hw2;go_loopg [5,16] 3 (fun gh s5 s16 wr=>∃k:Nat,k<=3/\gh=3-k/\s16= .int .i64 k/\Hid (zu wr w2.heap.size s5 (qI f i k)/\Below w2.heap.size w2 wr));case atStart=>exact⟨0,zE _,rfl,rfl,za ⟨jd _ _ _ _,zG _ _⟩⟩
 case round=>
  obtain⟨k,hk,rfl,rfl,HK⟩:=hrel;have hlen:=Z8 f i k;have hsz:=HK.out.2.size;obtain⟨k0,k1,k2,k3⟩:=zX (zb HK.out.2 HX1.out);by_cases hlt:k<3
  ·rcases(show k=0\/k=1\/k=2 by omega)with rfl|rfl|rfl
   ·have hs:=za (show qI f i (0+1)=if f.h0=3 then qI f i 0++ [i.a]else qI f i 0 from Xc f i 0)
    rw[show((0:Nat):Int)=0 from rfl];by_cases hh:f.h0=3
    ·have d:(f.h0==3)=true:=by rw[hh];rfl
     have HE:=za (hs.out.trans (zj hh));clear hh hs
     go_wp2_with (first
      |(go_at_call 140;(with_reducible refine(HPA.out _).mono ?_);rintro e w4 ⟨rfl,hb4⟩;have HB4:=za hb4;have hsz4:=hb4.size;clear hb4)
      |(at_builtin;refine zv _ rfl _ _ rfl w2.heap.size _ _ [i.a] rfl (zu.later HK.out.1 (HB4.out.step (zd _ _))) (some ⟨w4.heap.size,0,none⟩) 1 rfl (yJ _ _ _) (by simp;omega) (by simp;omega) ?_;intro v' w5 hown' hgrow hnil))
     go_roundg (3-(0+1));case measure=>omega
     case rel=>exact⟨0+1,by omega,rfl,rfl,za ⟨by rw[HE.out];exact hown',(((HK.out.2.step HB4.out)).alloc (by omega) _).grown hgrow (by simp;omega) (zy HK.out.1)⟩⟩
    ·have d:(f.h0==3)=false:=by rw[yY];exact hh
     have HE:=za (hs.out.trans (zi hh));clear hh hs;go_wp2_with fail;go_roundg (3-(0+1));case measure=>omega
     case rel=>exact⟨0+1,by omega,rfl,rfl,za ⟨by rw[HE.out];exact HK.out.1,HK.out.2⟩⟩
   ·have hs:=za (show qI f i (1+1)=if f.h1=3 then qI f i 1++ [i.b]else qI f i 1 from Xc f i 1)
    rw[show((1:Nat):Int)=1 from rfl];by_cases hh:f.h1=3
    ·have d:(f.h1==3)=true:=by rw[hh];rfl
     have HE:=za (hs.out.trans (zj hh));clear hh hs
     go_wp2_with (first
      |(go_at_call 140;(with_reducible refine(HPA.out _).mono ?_);rintro e w4 ⟨rfl,hb4⟩;have HB4:=za hb4;have hsz4:=hb4.size;clear hb4)
      |(at_builtin;refine zv _ rfl _ _ rfl w2.heap.size _ _ [i.b] rfl (zu.later HK.out.1 (HB4.out.step (zd _ _))) (some ⟨w4.heap.size,0,none⟩) 1 rfl (yJ _ _ _) (by simp;omega) (by simp;omega) ?_;intro v' w5 hown' hgrow hnil))
     go_roundg (3-(1+1));case measure=>omega
     case rel=>exact⟨1+1,by omega,rfl,rfl,za ⟨by rw[HE.out];exact hown',(((HK.out.2.step HB4.out)).alloc (by omega) _).grown hgrow (by simp;omega) (zy HK.out.1)⟩⟩
    ·have d:(f.h1==3)=false:=by rw[yY];exact hh
     have HE:=za (hs.out.trans (zi hh));clear hh hs;go_wp2_with fail;go_roundg (3-(1+1));case measure=>omega
     case rel=>exact⟨1+1,by omega,rfl,rfl,za ⟨by rw[HE.out];exact HK.out.1,HK.out.2⟩⟩
   ·have hs:=za (show qI f i (2+1)=if f.h2=3 then qI f i 2++ [i.c]else qI f i 2 from Xc f i 2)
    rw[show((2:Nat):Int)=2 from rfl];by_cases hh:f.h2=3
    ·have d:(f.h2==3)=true:=by rw[hh];rfl
     have HE:=za (hs.out.trans (zj hh));clear hh hs
     go_wp2_with (first
      |(go_at_call 140;(with_reducible refine(HPA.out _).mono ?_);rintro e w4 ⟨rfl,hb4⟩;have HB4:=za hb4;have hsz4:=hb4.size;clear hb4)
      |(at_builtin;refine zv _ rfl _ _ rfl w2.heap.size _ _ [i.c] rfl (zu.later HK.out.1 (HB4.out.step (zd _ _))) (some ⟨w4.heap.size,0,none⟩) 1 rfl (yJ _ _ _) (by simp;omega) (by simp;omega) ?_;intro v' w5 hown' hgrow hnil))
     go_roundg (3-(2+1));case measure=>omega
     case rel=>exact⟨2+1,by omega,rfl,rfl,za ⟨by rw[HE.out];exact hown',(((HK.out.2.step HB4.out)).alloc (by omega) _).grown hgrow (by simp;omega) (zy HK.out.1)⟩⟩
    ·have d:(f.h2==3)=false:=by rw[yY];exact hh
     have HE:=za (hs.out.trans (zi hh));clear hh hs;go_wp2_with fail;go_roundg (3-(2+1));case measure=>omega
     case rel=>exact⟨2+1,by omega,rfl,rfl,za ⟨by rw[HE.out];exact HK.out.1,HK.out.2⟩⟩
  ·obtain rfl:k=3:=by omega
   go_wp2_with fail;go_ret;exact⟨HB.out.step HK.out.2,_,rfl,by rw[HPL.out];exact HK.out.1.mono HB.out.size⟩
open Go.RowKit Go.Shelf
attribute [local go_sem] Oper.semAt_some
structure jw(O:Nat->Prop)(W W':World):Prop where
 os:W'.os=W.os
 tape:W'.tape=W.tape
 output:W'.output=W.output
 size:W.heap.size<=W'.heap.size
 same:∀(k:Nat) (o:Obj),¬O k->W.heap[k]?=some o->o.isCells=true->W'.heap[k]?=some o
theorem jw.refl(O:Nat->Prop)(W:World):jw O W W:=⟨rfl,rfl,rfl,zI _,fun _ _ _ h _=>h⟩
theorem jw.trans{O:Nat->Prop}{A B C:World}(h:jw O A B)(k:jw O B C):jw O A C:=
 ⟨k.os.trans h.os,k.tape.trans h.tape,k.output.trans h.output,yP h.size k.size,fun i o hn hi ho=>k.same i o hn (h.same i o hn hi ho) ho⟩
theorem jw.of_below{O:Nat->Prop}{W W':World}(h:Below W.heap.size W W'):jw O W W':=
 ⟨h.os,h.tape,h.output,h.size,fun k _o _ hk _=>(h.block k (qM.1 hk).1).trans hk⟩
theorem jw.cell{O:Nat->Prop}{W W':World}(h:jw O W W'){b off:Nat}{v:Value}(hn:¬O b)(hc:W.cell? ⟨b,off,none⟩=some v):W'.cell? ⟨b,off,none⟩=some v:=by
 have hb:b<W.heap.size:=block_lt_of_cell hc;have hh:W.heap[b]?=some W.heap[b]:=Array.getElem?_eq_getElem hb
 have hcs:W.heap[b].isCells=true:=by
  unfold World.cell? at hc;rw[show(⟨b,off,none⟩:Addr).block=b from rfl]at hc;cases ho:W.heap[b]<;>simp[hh,ho,Obj.isCells]at hc ⊢
 have h2:=h.same b _ hn hh hcs;rw[<-hc];exact ZO (w:=W) (h2.trans hh.symm)
theorem PJ{O:Nat->Prop}{w:World}(W:World)(l:Nat)(o o':Obj)(_:w.heap.size<=l)(h:W.heap[l]?=some o)(ho:o.isCells=false)(_:o.isWalk=false):jw O W (W.putObj l o'):=by
 refine⟨rfl,rfl,rfl,by simp[World.putObj],fun k o2 _ hk hc=> ?_⟩
 have hne:k≠l:=fun e=>by
  subst e;rw[h]at hk;cases hk;rw[ho]at hc;cases hc
 exact(World.putObj_heap_other hne).trans hk
structure Kv(Mi:World->Nat->Prop)(WF:World->Prop):Prop where
 below:∀A B,WF A->Below A.heap.size A B->WF B/\(∀k,Mi A k->Mi B k)/\∀k,A.heap.size<=k->k<B.heap.size->Mi B k
 put:∀(W:World) (l:Nat) (o o':Obj),W.heap[l]?=some o->o.isCells=false->WF W->WF (W.putObj l o')/\∀k,Mi W k->Mi (W.putObj l o') k
structure yI(Mi:World->Nat->Prop)(WF:World->Prop)(W W':World):Prop where
 wf:WF W'
 os:W'.os=W.os
 tape:W'.tape=W.tape
 output:W'.output=W.output
 size:W.heap.size<=W'.heap.size
 same:∀(k:Nat) (o:Obj),Mi W k->W.heap[k]?=some o->o.isCells=true->W'.heap[k]?=some o/\Mi W' k
def Yu(Mi:World->Nat->Prop)(WF:World->Prop)(W W':World):Prop:=WF W->yI Mi WF W W'
section
variable {Mi:World->Nat->Prop} {WF:World->Prop}
theorem yI.refl{W:World}(h:WF W):yI Mi WF W W:=⟨h,rfl,rfl,rfl,zI _,fun _ _ m h _=>⟨h,m⟩⟩
theorem yI.trans{A B C:World}(h:yI Mi WF A B)(k:yI Mi WF B C):yI Mi WF A C:=
 ⟨k.wf,k.os.trans h.os,k.tape.trans h.tape,k.output.trans h.output,yP h.size k.size,fun i o hn hi ho=>k.same i o (h.same i o hn hi ho).2 (h.same i o hn hi ho).1 ho⟩
theorem Yu.trans{A B C:World}(h:Yu Mi WF A B)(k:Yu Mi WF B C):Yu Mi WF A C:=fun hw=>(h hw).trans (k (h hw).wf)
theorem yI.of_below(hF:Kv Mi WF){W W':World}(hw:WF W)(h:Below W.heap.size W W'):yI Mi WF W W':=
 ⟨(hF.below W W' hw h).1,h.os,h.tape,h.output,h.size,fun k _o m hk _=>⟨(h.block k (qM.1 hk).1).trans hk,(hF.below W W' hw h).2.1 k m⟩⟩
theorem Kv.new(hF:Kv Mi WF){W W':World}(hw:WF W)(h:Below W.heap.size W W'){k:Nat}(h1:W.heap.size<=k)(h2:k<W'.heap.size):Mi W' k:=(hF.below W W' hw h).2.2 k h1 h2
theorem yI.cellM{W W':World}(h:yI Mi WF W W'){b off:Nat}{v:Value}(hn:Mi W b)(hc:W.cell? ⟨b,off,none⟩=some v):W'.cell? ⟨b,off,none⟩=some v/\Mi W' b:=by
 have hb:b<W.heap.size:=block_lt_of_cell hc;have hh:W.heap[b]?=some W.heap[b]:=Array.getElem?_eq_getElem hb
 have hcs:W.heap[b].isCells=true:=by
  unfold World.cell? at hc;rw[show(⟨b,off,none⟩:Addr).block=b from rfl]at hc;cases ho:W.heap[b]<;>simp[hh,ho,Obj.isCells]at hc ⊢
 have h2:=h.same b _ hn hh hcs;refine⟨?_,h2.2⟩;rw[<-hc];exact ZO (w:=W) (h2.1.trans hh.symm)
theorem yI.cell{W W':World}(h:yI Mi WF W W'){b off:Nat}{v:Value}(hn:Mi W b)(hc:W.cell? ⟨b,off,none⟩=some v):W'.cell? ⟨b,off,none⟩=some v:=(h.cellM hn hc).1
theorem yI.box{W W':World}{b:Nat}{c:Array Value}{T:TypeId}(h:yI Mi WF W W')(hc:W.heap[b]?=some (.cells c T (0,0))/\Mi W b):W'.heap[b]?=some (.cells c T (0,0))/\Mi W' b:=h.same b _ hc.2 hc.1 rfl
theorem GS(hF:Kv Mi WF){w:World}(W:World)(l:Nat)(o o':Obj)(_:w.heap.size<=l)(h:W.heap[l]?=some o)(ho:o.isCells=false)(_:o.isWalk=false):Yu Mi WF W (W.putObj l o'):=by
 intro hw;obtain⟨h1,h2⟩:=hF.put W l o o' h ho hw;refine⟨h1,rfl,rfl,rfl,by simp[World.putObj],fun k o2 m hk hc=>⟨?_,h2 k m⟩⟩
 have hne:k≠l:=fun e=>by
  subst e;rw[h]at hk;cases hk;rw[ho]at hc;cases hc
 exact(World.putObj_heap_other hne).trans hk
end
section
variable {Mi:World->Nat->Prop} {WF:World->Prop}
structure Fq(Mi:World->Nat->Prop)(w:World)(u:zg)(ca cc ga gc):Prop where
 m:jo w u ca cc ga gc
 oc:0<u.code.length->∀b off,ca=some ⟨b,off,none⟩->Mi w b
 og:0<u.guards.length->∀b off,ga=some ⟨b,off,none⟩->Mi w b
theorem Qz.keep{w w':World}{a:Option Addr}{l:List zm}(h:Qz w a l)(hb:yI Mi WF w w')(hn:0<l.length->∀b off,a=some ⟨b,off,none⟩->Mi w b):Qz w' a l:=by
 intro i hi;obtain⟨b,off,ha,hlt,h0,h1,h2,h3⟩:=h i hi;have hk:=hn (by omega) b off ha;exact⟨b,off,ha,xh hlt hb.size,hb.cell hk h0,hb.cell hk h1,hb.cell hk h2,hb.cell hk h3⟩
theorem IG.keep{w w':World}{a:Option Addr}{l:List jR}(h:IG w a l)(hb:yI Mi WF w w')(hn:0<l.length->∀b off,a=some ⟨b,off,none⟩->Mi w b):IG w' a l:=by
 intro i hi;obtain⟨b,off,ha,hlt,h0,h1,h2⟩:=h i hi;have hk:=hn (by omega) b off ha;exact⟨b,off,ha,xh hlt hb.size,hb.cell hk h0,hb.cell hk h1,hb.cell hk h2⟩
theorem yC.keep{w w':World}{a:Option Addr}{l:List Int}(h:yC w a l)(hb:yI Mi WF w w')(hn:0<l.length->∀b off,a=some ⟨b,off,none⟩->Mi w b):yC w' a l:=by
 intro i hi;obtain⟨b,off,ha,hlt,h0⟩:=h i hi;exact⟨b,off,ha,xh hlt hb.size,hb.cell (hn (by omega) b off ha) h0⟩
theorem Fq.keep{w w':World}{u:zg}{ca cc ga gc}(h:Fq Mi w u ca cc ga gc)(hb:yI Mi WF w w'):Fq Mi w' u ca cc ga gc:=by
 refine⟨⟨h.m.rc.keep hb h.oc,h.m.rg.keep hb h.og,h.m.lc,h.m.lg⟩,fun h0 b off e=> ?_,fun h0 b off e=> ?_⟩
 ·obtain⟨b',o',e',_,c0,_⟩:=h.m.rc 0 h0
  have hm:=h.oc h0 b' o' e';rw[e]at e';cases e';exact(hb.cellM hm c0).2
 ·obtain⟨b',o',e',_,c0,_⟩:=h.m.rg 0 h0
  have hm:=h.og h0 b' o' e';rw[e]at e';cases e';exact(hb.cellM hm c0).2
end
theorem yN{α: Type}{B:Nat}{J:List α-> World->Prop}(hJ:AbidesFrom B J){pre:List α}{W W':World}(h:J pre W)(hb:Below W.heap.size W W'):J pre W':=
 hJ pre W W' none h ⟨hb.os,hb.tape,hb.output,hb.size,fun k hk _=>hb.block k hk⟩ (fun r e=>by cases e)
theorem zu.rdN{w:World}{base:Nat}{v:Value}{l:List Int}(h:zu w base v l):∃a cap,v= .slice a l.length cap/\yC w a l/\∀b off,a=some ⟨b,off,Option.none⟩->base<=b:=by
 obtain⟨a,cap,rfl,hr⟩:=h.rd;refine⟨a,cap,rfl,hr,?_⟩;obtain⟨_,h⟩:=h;rcases h with ⟨e,h0⟩|⟨g,cap',cur,e,hg,_⟩
 ·intro b off ha
  rw[ha]at e;cases e
 ·intro b off ha
  rw[ha]at e;injection e with e1 _ _;injection e1 with e2;injection e2 with e3;rw[e3];exact hg
theorem J3{α β: Type}(A:List β)(l:List α)(g:α-> β)(C:List β){k:Nat}(hk:k<l.length):A++(l.take k).map g++ [g l[k]] <+: A++l.map g++C:=by
 refine⟨(l.drop (k+1)).map g++C,?_⟩;have h:l=l.take k++l[k]::l.drop (k+1):=by rw[<-List.drop_eq_getElem_cons hk,List.take_append_drop]
 have e:l.map g=(l.take k).map g++g l[k]::(l.drop (k+1)).map g:=by
  conv=>lhs;rw[h]
  rw[q8,j9]
 rw[e];simp
theorem JB(u:zg)(t:Int):zD u t<u.guards.length:=(Zr _ _).2
theorem Do(n:Nat)(hn:1<=n){Mi:World->Nat->Prop}{WF:World->Prop}(hFe:Kv Mi WF)(l:Nat)(u:zg)(t:Nat)(ht:t<u.code.length)(hlen:u.code.length<=1000000)(hlg:u.guards.length<=1000000)(ca cc ga gc)(gu gt:Nat)(B:Nat)(J Jx:List (Int×Int)->World->Prop)(hJ:AbidesFrom B J)
  (hY:∀pre x W1,J pre W1->pre++ [x] <+: xp u t->YieldAt Fence.wide (n-1) prog l #[.int .i64 x.1,.int .i64 x.2] W1 fun e W'=>(e= .returned (.bool true)/\J (pre++ [x]) W'/\Yu Mi WF W1 W')\/(e= .returned (.bool false)/\Jx (pre++ [x]) W'))
  (W:World) (hU:W.heap[gu]?=some (.cells #[.string u.cls,.string u.name,.int .i64 u.args,.int .i64 u.slots,.int .i64 u.frame,.slice ca u.code.length cc,.slice ga u.guards.length gc] 25 (0,0))) (hT:W.heap[gt]?=some (.cells #[.int .i64 t] 3 (0,0))) (hM:Fq Mi W u ca cc ga gc) (hOu:Mi W gu) (hOt:Mi W gt) (hw:WF W) (h0:J [] W):
  CallsIn Fence.wide n prog 208 #[.func (.yield l) #[] #[],.pointer (some ⟨gu,0,none⟩),.pointer (some ⟨gt,0,none⟩)] W fun e W'=>(∃v,e= .returned v)/\((∃ys,ys=xp u t/\J ys W')\/(∃pre,(pre <+: xp u t/\pre≠ [])/\Jx pre W')):=by
 have HY:=za hY;clear hY;have HJ:=za hJ;clear hJ;have HU:=za (And.intro hU hOu);clear hU hOu;have HFe:=za hFe;clear hFe;have HT:=za (And.intro hT hOt);clear hT hOt;have HM:=za hM;clear hM;have HWF:=za hw;clear hw;have H0:=za h0;clear h0;obtain⟨bc,oc,hca,_,c0,c1,c2,c3⟩:=HM.out.m.rc t ht;obtain⟨i,hi⟩:∃i,i=u.code[t]:=⟨_,rfl⟩
 rw[<-hi]at c0 c1 c2 c3;have HI:=za (hi.trans (zk (d:=zw) ht).symm);have hlc:=HM.out.m.lc;subst hca;have nt:(t:Int)<(u.code.length:Int):=by omega
 have nt0:(0:Int)<=(t:Int):=by omega
 obtain⟨-,-,-,-,-,k5,k6⟩:=zr HU.out.1;have t0:=(zA _ _ 0 _ _ _ HT.out.1).trans rfl;have HF:=za (Yn i.op);have HL:Hid (xp u t=(if (!(zM i.op).en&&decide (t+1<u.code.length))=true then [((t:Int)+1,(0:Int))]else [])++(qR i).map (fun p=>(p,1))++(if ((zM i.op).rs&&decide (0<=zD u t))=true then [((u.guards.getD (zD u t).toNat jF).at',(2:Int))]else [])):=za (by rw[HI.out];rfl);have HP:=za (GC i);have hpl3:(qR i).length<=3:=Z8 (zM i.op) i 3;generalize zM i.op=f at *;obtain⟨nm,q0,q1,q2,q3,q4,q5,rs,en⟩:=f;generalize jA i.op=ok at *;generalize qR i=pl at *;clear hi;have HB0:=za (zd W (.cells #[.int .i64 i.op,.int .i64 i.a,.int .i64 i.b,.int .i64 i.c] 85));have HG4:=za (zo W (.cells #[.int .i64 i.op,.int .i64 i.a,.int .i64 i.b,.int .i64 i.c] 85) _ rfl)
 cases en with
 |false=>
  by_cases hl1:t+1<u.code.length
  ·have nt1:(t:Int)+1<(u.code.length:Int):=by omega
   have dt1:decide ((t:Int)+1<(u.code.length:Int))=true:=zP nt1;rw[zj (by simp[hl1])]at HL;clear hl1;refine callsIn_of_wp func208 rfl trivial ?_ rfl;simp only[ntmps208,List.size_toArray,xv,List.length_nil,Nat.reduceAdd,Nat.reduceSub,Array.replicate_succ,JM,List.push_toArray,List.append_toArray,Zd,Y6]
   gi_wp2_with (first
    |(refine⟨trivial,?_⟩;gi_at_call 139;refine(qC.2 (HF.out _)).mono ?_;rintro e w1 ⟨rfl,hb⟩;have hb2:=hb.step (zd w1 (.cells (cF ⟨nm,q0,q1,q2,q3,q4,q5,rs,false⟩) 186));have HB2:=za (HB0.out.step hb2);have HG5:=za (zo w1 (.cells (cF ⟨nm,q0,q1,q2,q3,q4,q5,rs,false⟩) 186) _ rfl);have HS5:W.heap.size<=w1.heap.size:=yP HB0.out.size hb.size;replace HG4:=za (zb hb2 HG4.out);have HJ2:=za (yN HJ.out H0.out HB2.out);have a5:(w1.alloc (.cells #[.string ⟨nm⟩,.int .i64 q0,.int .i64 q1,.int .i64 q2,.int .i64 q3,.int .i64 q4,.int .i64 q5,.bool rs,.bool false] 186)).cell? ⟨gu,5,none⟩=some (.slice (some ⟨bc,oc,none⟩) u.code.length cc):=zK HB2.out k5;have at0:(w1.alloc (.cells #[.string ⟨nm⟩,.int .i64 q0,.int .i64 q1,.int .i64 q2,.int .i64 q3,.int .i64 q4,.int .i64 q5,.bool rs,.bool false] 186)).cell? ⟨gt,0,none⟩=some (.int .i64 t):=zK HB2.out t0;obtain⟨fn,tmps,assign,body,hy,hR⟩:=HY.out [] ((t:Int)+1,0) _ HJ2.out (by rw[HL.out];simp);dsimp only at hy;clear hb hb2))
   refine hR.mono ?_;rintro e W3 (⟨rfl,hJ3,hk3⟩|⟨rfl,hx3⟩)
   ·have HJ3:=za hJ3
    have HK2:=za (yI.of_below HFe.out HWF.out HB2.out);have HK3:=za (HK2.out.trans (hk3 HK2.out.wf));replace HG4:=za ((hk3 HK2.out.wf).box ⟨HG4.out,HFe.out.new HWF.out HB2.out (zI _) (ze HG4.out)⟩);replace HG5:=za ((hk3 HK2.out.wf).box ⟨HG5.out,HFe.out.new HWF.out HB2.out HS5 (ze HG5.out)⟩);clear hJ3 hk3 a5 at0;obtain⟨b0,b1,b2,b3⟩:=zX HG4.out.1
    gi_wp2_with (first
     |(refine⟨trivial,?_⟩;gi_at_call 209;refine(qC.2 (HP.out _)).mono ?_;rintro e w4 ⟨hb,v,rfl,ho⟩;obtain⟨pa,pc,rfl,hrp,hpn⟩:=ho.rdN;have HRP:=za hrp;have HPN:Hid (0<pl.length->∀b off,pa=some ⟨b,off,none⟩->Mi w4 b):=za (fun h0 b off e=>by obtain⟨b2,o2,e2,hlt,_⟩:=hrp 0 h0;rw[e]at e2;cases e2;exact HFe.out.new HK3.out.wf hb (hpn b off e) hlt);have HB4:=za hb;clear hb hrp hpn ho))
    clear b0 b1 b2 b3;have HJ4:=za (yN HJ.out HJ3.out HB4.out);have HKW:=za (HK3.out.trans (yI.of_below HFe.out HK3.out.wf HB4.out));replace HG5:=za ((yI.of_below HFe.out HK3.out.wf HB4.out).box HG5.out)
    gi_loopw [42] (fun s42 wr=>∃k:Nat,k<=pl.length/\s42= .int .i64 k/\Hid (J ([((t:Int)+1,0)]++(pl.take k).map (fun p=>(p,(1:Int)))) wr)/\Hid (yI Mi WF w4 wr))
     (fun s42 _=>pl.length-(intOf s42).toNat)
    case atStart=>exact⟨0,zE _,rfl,za (by simpa using HJ4.out),za (yI.refl HKW.out.wf)⟩
    case round=>
     obtain⟨k,hk,rfl,HJ5,HK5⟩:=hrel;by_cases hlk:k<pl.length
     ·obtain⟨bp,op,hpa,_,hpx⟩:=(HRP.out.keep HK5.out HPN.out) k hlk
      have nk:(k:Int)<(pl.length:Int):=by omega
      have HTK:=za (zO hlk);have HPRE:=za (J3 [((t:Int)+1,0)] pl (fun p=>(p,(1:Int))) (if (rs&&decide (0<=zD u t))=true then [((u.guards.getD (zD u t).toNat jF).at',(2:Int))]else []) hlk);obtain⟨fn,tmps,assign,body,hy,hR⟩:=HY.out _ (pl[k],1) wr HJ5.out (by rw[HL.out];exact HPRE.out);generalize pl[k]=x at *;subst hpa;dsimp only at hy
      gi_wp2
      refine hR.mono ?_;rintro e W5 (⟨rfl,hJ5,hk5⟩|⟨rfl,hx5⟩)
      ·gi_wp2
       go_roundw
       case rel=>exact⟨k+1,by omega,by go_num,za (by rw[HTK.out,q8,<-List.append_assoc];exact hJ5),za (HK5.out.trans (hk5 HK5.out.wf))⟩
       case measure=>simp[intOf];omega
      ·gi_wp2
       refine xJ (results_none rfl _ _ _) rfl ?_;exact⟨⟨_,rfl⟩,.inr ⟨_,⟨by rw[HL.out];exact HPRE.out,by simp⟩,hx5⟩⟩
     ·obtain rfl:k=pl.length:=by omega
      have HJ6:=za (by have:=HJ5.out;rwa [xL]at this:J ([((t:Int)+1,0)]++pl.map (fun p=>(p,(1:Int)))) wr);have HKX:=za (HKW.out.trans HK5.out);obtain⟨u0,u1,u2,u3,u4,u5,u6⟩:=zr (HKX.out.box HU.out).1;have v0:=(zA _ _ 0 _ _ _ (HKX.out.box HT.out).1).trans rfl;have HM6:=za (HM.out.keep HKX.out);replace HG5:=za (HK5.out.box HG5.out);have HGO:=za (X6 u t (some ⟨bc,oc,none⟩) cc ga gc wr HM6.out.m.rg (by omega));have HGL:=za (JB u t);obtain⟨gi,hgi⟩:∃gi,gi=zD u t:=⟨_,rfl⟩
      rw[<-hgi]at HGO HL HGL;clear hgi
      cases rs with
      |false=>
       rw[zi (by simp)]at HL
       gi_wp2_with (first
        |(refine⟨trivial,?_⟩;gi_at_call 210;refine(qC.2 HGO.out).mono ?_;rintro e w6 ⟨rfl,hb⟩;have HB6:=za hb;have d7:=(zA _ _ 7 _ _ _ (zb hb HG5.out.1)).trans rfl;clear hb))
       go_end0
       refine⟨⟨_,rfl⟩,.inl ⟨xp u t,rfl,?_⟩⟩;rw[HL.out,qO]
       exact yN HJ.out HJ6.out HB6.out
      |true=>
       by_cases hg0:0<=gi
       ·obtain⟨m',rfl⟩:∃q:Nat,gi=(q:Int):=⟨gi.toNat,by omega⟩
        have hgl:m'<u.guards.length:=by have:=HGL.out;omega
        have ngl:(m':Int)<(u.guards.length:Int):=by omega
        rw[zj (by simp),show((m':Int)).toNat=m' from rfl,zk hgl]at HL;obtain⟨bg,og,hga,_,-,-,g2⟩:=HM6.out.m.rg m' hgl;subst hga;generalize u.guards[m']=gd at *;have HG2:=za g2;clear g2
        gi_wp2_with (first
         |(refine⟨trivial,?_⟩;gi_at_call 210;refine(qC.2 HGO.out).mono ?_;rintro e w6 ⟨rfl,hb⟩;have HB6:=za hb;have d7:=(zA _ _ 7 _ _ _ (zb hb HG5.out.1)).trans rfl;have g2:=zK hb HG2.out;have e6:=zK hb u6;obtain⟨fn,tmps,assign,body,hy,hR⟩:=HY.out _ (gd.at',2) w6 (yN HJ.out HJ6.out hb) (by rw[HL.out];exact List.prefix_refl _);dsimp only at hy;clear hb))
        refine hR.mono ?_;rintro e W7 (⟨rfl,hJ7,hk7⟩|⟨rfl,hx7⟩)
        ·gi_wp2
         go_end0
         refine⟨⟨_,rfl⟩,.inl ⟨xp u t,rfl,?_⟩⟩;rw[HL.out];exact hJ7
        ·gi_wp2
         go_end0
         exact⟨⟨_,rfl⟩,.inr ⟨_,⟨by rw[HL.out];exact List.prefix_refl _,by simp⟩,hx7⟩⟩
       ·have dg:decide (0<=gi)=false:=yn hg0
        rw[zi (by simp;omega)]at HL
        gi_wp2_with (first
         |(refine⟨trivial,?_⟩;gi_at_call 210;refine(qC.2 HGO.out).mono ?_;rintro e w6 ⟨rfl,hb⟩;have HB6:=za hb;have d7:=(zA _ _ 7 _ _ _ (zb hb HG5.out.1)).trans rfl;clear hb))
        go_end0
        refine⟨⟨_,rfl⟩,.inl ⟨xp u t,rfl,?_⟩⟩;rw[HL.out,qO];exact yN HJ.out HJ6.out HB6.out
   ·gi_wp2
    refine xJ (results_none rfl _ _ _) rfl ?_;exact⟨⟨_,rfl⟩,.inr ⟨_,⟨by rw[HL.out];simp,by simp⟩,hx3⟩⟩
  ·have nt1:¬(t:Int)+1<(u.code.length:Int):=by omega
   have dt1:decide ((t:Int)+1<(u.code.length:Int))=false:=yn nt1;rw[zi (by simp;omega)]at HL;clear hl1;refine callsIn_of_wp func208 rfl trivial ?_ rfl;simp only[ntmps208,List.size_toArray,xv,List.length_nil,Nat.reduceAdd,Nat.reduceSub,Array.replicate_succ,JM,List.push_toArray,List.append_toArray,Zd,Y6]
   gi_wp2_with (first
    |(refine⟨trivial,?_⟩;gi_at_call 139;refine(qC.2 (HF.out _)).mono ?_;rintro e w1 ⟨rfl,hb⟩;have hb2:=hb.step (zd w1 (.cells (cF ⟨nm,q0,q1,q2,q3,q4,q5,rs,false⟩) 186));have HB2:=za (HB0.out.step hb2);have HG5:=za (zo w1 (.cells (cF ⟨nm,q0,q1,q2,q3,q4,q5,rs,false⟩) 186) _ rfl);have HS5:W.heap.size<=w1.heap.size:=yP HB0.out.size hb.size;replace HG4:=za (zb hb2 HG4.out);have HJ2:=za (yN HJ.out H0.out HB2.out);have a5:(w1.alloc (.cells #[.string ⟨nm⟩,.int .i64 q0,.int .i64 q1,.int .i64 q2,.int .i64 q3,.int .i64 q4,.int .i64 q5,.bool rs,.bool false] 186)).cell? ⟨gu,5,none⟩=some (.slice (some ⟨bc,oc,none⟩) u.code.length cc):=zK HB2.out k5;have at0:(w1.alloc (.cells #[.string ⟨nm⟩,.int .i64 q0,.int .i64 q1,.int .i64 q2,.int .i64 q3,.int .i64 q4,.int .i64 q5,.bool rs,.bool false] 186)).cell? ⟨gt,0,none⟩=some (.int .i64 t):=zK HB2.out t0;have HK3:=za (yI.of_below HFe.out HWF.out HB2.out);replace HG4:=za (And.intro HG4.out (HFe.out.new HWF.out HB2.out (zI _) (ze HG4.out)));replace HG5:=za (And.intro HG5.out (HFe.out.new HWF.out HB2.out HS5 (ze HG5.out)));have HJ3:=za HJ2.out;clear hb hb2))
   refine⟨fun _ h=>(by cases h),?_⟩;clear a5 at0;obtain⟨b0,b1,b2,b3⟩:=zX HG4.out.1
   gi_wp2_with (first
    |(refine⟨trivial,?_⟩;gi_at_call 209;refine(qC.2 (HP.out _)).mono ?_;rintro e w4 ⟨hb,v,rfl,ho⟩;obtain⟨pa,pc,rfl,hrp,hpn⟩:=ho.rdN;have HRP:=za hrp;have HPN:Hid (0<pl.length->∀b off,pa=some ⟨b,off,none⟩->Mi w4 b):=za (fun h0 b off e=>by obtain⟨b2,o2,e2,hlt,_⟩:=hrp 0 h0;rw[e]at e2;cases e2;exact HFe.out.new HK3.out.wf hb (hpn b off e) hlt);have HB4:=za hb;clear hb hrp hpn ho))
   clear b0 b1 b2 b3;have HJ4:=za (yN HJ.out HJ3.out HB4.out);have HKW:=za (HK3.out.trans (yI.of_below HFe.out HK3.out.wf HB4.out));replace HG5:=za ((yI.of_below HFe.out HK3.out.wf HB4.out).box HG5.out)
   gi_loopw [42] (fun s42 wr=>∃k:Nat,k<=pl.length/\s42= .int .i64 k/\Hid (J (([]:List (Int×Int))++(pl.take k).map (fun p=>(p,(1:Int)))) wr)/\Hid (yI Mi WF w4 wr))
    (fun s42 _=>pl.length-(intOf s42).toNat)
   case atStart=>exact⟨0,zE _,rfl,za (by simpa using HJ4.out),za (yI.refl HKW.out.wf)⟩
   case round=>
    obtain⟨k,hk,rfl,HJ5,HK5⟩:=hrel;by_cases hlk:k<pl.length
    ·obtain⟨bp,op,hpa,_,hpx⟩:=(HRP.out.keep HK5.out HPN.out) k hlk
     have nk:(k:Int)<(pl.length:Int):=by omega
     have HTK:=za (zO hlk);have HPRE:=za (J3 ([]:List (Int×Int)) pl (fun p=>(p,(1:Int))) (if (rs&&decide (0<=zD u t))=true then [((u.guards.getD (zD u t).toNat jF).at',(2:Int))]else []) hlk);obtain⟨fn,tmps,assign,body,hy,hR⟩:=HY.out _ (pl[k],1) wr HJ5.out (by rw[HL.out];exact HPRE.out);generalize pl[k]=x at *;subst hpa;dsimp only at hy
     gi_wp2
     refine hR.mono ?_;rintro e W5 (⟨rfl,hJ5,hk5⟩|⟨rfl,hx5⟩)
     ·gi_wp2
      go_roundw
      case rel=>exact⟨k+1,by omega,by go_num,za (by rw[HTK.out,q8,<-List.append_assoc];exact hJ5),za (HK5.out.trans (hk5 HK5.out.wf))⟩
      case measure=>simp[intOf];omega
     ·gi_wp2
      refine xJ (results_none rfl _ _ _) rfl ?_;exact⟨⟨_,rfl⟩,.inr ⟨_,⟨by rw[HL.out];exact HPRE.out,by simp⟩,hx5⟩⟩
    ·obtain rfl:k=pl.length:=by omega
     have HJ6:=za (by have:=HJ5.out;rwa [xL]at this:J (([]:List (Int×Int))++pl.map (fun p=>(p,(1:Int)))) wr);have HKX:=za (HKW.out.trans HK5.out);obtain⟨u0,u1,u2,u3,u4,u5,u6⟩:=zr (HKX.out.box HU.out).1;have v0:=(zA _ _ 0 _ _ _ (HKX.out.box HT.out).1).trans rfl;have HM6:=za (HM.out.keep HKX.out);replace HG5:=za (HK5.out.box HG5.out);have HGO:=za (X6 u t (some ⟨bc,oc,none⟩) cc ga gc wr HM6.out.m.rg (by omega));have HGL:=za (JB u t);obtain⟨gi,hgi⟩:∃gi,gi=zD u t:=⟨_,rfl⟩
     rw[<-hgi]at HGO HL HGL;clear hgi
     cases rs with
     |false=>
      rw[zi (by simp)]at HL
      gi_wp2_with (first
       |(refine⟨trivial,?_⟩;gi_at_call 210;refine(qC.2 HGO.out).mono ?_;rintro e w6 ⟨rfl,hb⟩;have HB6:=za hb;have d7:=(zA _ _ 7 _ _ _ (zb hb HG5.out.1)).trans rfl;clear hb))
      go_end0
      refine⟨⟨_,rfl⟩,.inl ⟨xp u t,rfl,?_⟩⟩;rw[HL.out,qO]
      exact yN HJ.out HJ6.out HB6.out
     |true=>
      by_cases hg0:0<=gi
      ·obtain⟨m',rfl⟩:∃q:Nat,gi=(q:Int):=⟨gi.toNat,by omega⟩
       have hgl:m'<u.guards.length:=by have:=HGL.out;omega
       have ngl:(m':Int)<(u.guards.length:Int):=by omega
       rw[zj (by simp),show((m':Int)).toNat=m' from rfl,zk hgl]at HL;obtain⟨bg,og,hga,_,-,-,g2⟩:=HM6.out.m.rg m' hgl;subst hga;generalize u.guards[m']=gd at *;have HG2:=za g2;clear g2
       gi_wp2_with (first
        |(refine⟨trivial,?_⟩;gi_at_call 210;refine(qC.2 HGO.out).mono ?_;rintro e w6 ⟨rfl,hb⟩;have HB6:=za hb;have d7:=(zA _ _ 7 _ _ _ (zb hb HG5.out.1)).trans rfl;have g2:=zK hb HG2.out;have e6:=zK hb u6;obtain⟨fn,tmps,assign,body,hy,hR⟩:=HY.out _ (gd.at',2) w6 (yN HJ.out HJ6.out hb) (by rw[HL.out];exact List.prefix_refl _);dsimp only at hy;clear hb))
       refine hR.mono ?_;rintro e W7 (⟨rfl,hJ7,hk7⟩|⟨rfl,hx7⟩)
       ·gi_wp2
        go_end0
        refine⟨⟨_,rfl⟩,.inl ⟨xp u t,rfl,?_⟩⟩;rw[HL.out];exact hJ7
       ·gi_wp2
        go_end0
        exact⟨⟨_,rfl⟩,.inr ⟨_,⟨by rw[HL.out];exact List.prefix_refl _,by simp⟩,hx7⟩⟩
      ·have dg:decide (0<=gi)=false:=yn hg0
       rw[zi (by simp;omega)]at HL
       gi_wp2_with (first
        |(refine⟨trivial,?_⟩;gi_at_call 210;refine(qC.2 HGO.out).mono ?_;rintro e w6 ⟨rfl,hb⟩;have HB6:=za hb;have d7:=(zA _ _ 7 _ _ _ (zb hb HG5.out.1)).trans rfl;clear hb))
       go_end0
       refine⟨⟨_,rfl⟩,.inl ⟨xp u t,rfl,?_⟩⟩;rw[HL.out,qO]
       exact yN HJ.out HJ6.out HB6.out
 |true=>
  rw[zi (by simp)]at HL;refine callsIn_of_wp func208 rfl trivial ?_ rfl;simp only[ntmps208,List.size_toArray,xv,List.length_nil,Nat.reduceAdd,Nat.reduceSub,Array.replicate_succ,JM,List.push_toArray,List.append_toArray,Zd,Y6]
  gi_wp2_with (first
   |(refine⟨trivial,?_⟩;gi_at_call 139;refine(qC.2 (HF.out _)).mono ?_;rintro e w1 ⟨rfl,hb⟩;have hb2:=hb.step (zd w1 (.cells (cF ⟨nm,q0,q1,q2,q3,q4,q5,rs,true⟩) 186));have HB2:=za (HB0.out.step hb2);have HG5:=za (zo w1 (.cells (cF ⟨nm,q0,q1,q2,q3,q4,q5,rs,true⟩) 186) _ rfl);have HS5:W.heap.size<=w1.heap.size:=yP HB0.out.size hb.size;replace HG4:=za (zb hb2 HG4.out);have HJ2:=za (yN HJ.out H0.out HB2.out);have a5:(w1.alloc (.cells #[.string ⟨nm⟩,.int .i64 q0,.int .i64 q1,.int .i64 q2,.int .i64 q3,.int .i64 q4,.int .i64 q5,.bool rs,.bool true] 186)).cell? ⟨gu,5,none⟩=some (.slice (some ⟨bc,oc,none⟩) u.code.length cc):=zK HB2.out k5;have at0:(w1.alloc (.cells #[.string ⟨nm⟩,.int .i64 q0,.int .i64 q1,.int .i64 q2,.int .i64 q3,.int .i64 q4,.int .i64 q5,.bool rs,.bool true] 186)).cell? ⟨gt,0,none⟩=some (.int .i64 t):=zK HB2.out t0;have HK3:=za (yI.of_below HFe.out HWF.out HB2.out);replace HG4:=za (And.intro HG4.out (HFe.out.new HWF.out HB2.out (zI _) (ze HG4.out)));replace HG5:=za (And.intro HG5.out (HFe.out.new HWF.out HB2.out HS5 (ze HG5.out)));have HJ3:=za HJ2.out;clear hb hb2))
  refine⟨fun _ h=>(by cases h),?_⟩;clear a5 at0;obtain⟨b0,b1,b2,b3⟩:=zX HG4.out.1
  gi_wp2_with (first
   |(refine⟨trivial,?_⟩;gi_at_call 209;refine(qC.2 (HP.out _)).mono ?_;rintro e w4 ⟨hb,v,rfl,ho⟩;obtain⟨pa,pc,rfl,hrp,hpn⟩:=ho.rdN;have HRP:=za hrp;have HPN:Hid (0<pl.length->∀b off,pa=some ⟨b,off,none⟩->Mi w4 b):=za (fun h0 b off e=>by obtain⟨b2,o2,e2,hlt,_⟩:=hrp 0 h0;rw[e]at e2;cases e2;exact HFe.out.new HK3.out.wf hb (hpn b off e) hlt);have HB4:=za hb;clear hb hrp hpn ho))
  clear b0 b1 b2 b3;have HJ4:=za (yN HJ.out HJ3.out HB4.out);have HKW:=za (HK3.out.trans (yI.of_below HFe.out HK3.out.wf HB4.out));replace HG5:=za ((yI.of_below HFe.out HK3.out.wf HB4.out).box HG5.out)
  gi_loopw [42] (fun s42 wr=>∃k:Nat,k<=pl.length/\s42= .int .i64 k/\Hid (J (([]:List (Int×Int))++(pl.take k).map (fun p=>(p,(1:Int)))) wr)/\Hid (yI Mi WF w4 wr))
   (fun s42 _=>pl.length-(intOf s42).toNat)
  case atStart=>exact⟨0,zE _,rfl,za (by simpa using HJ4.out),za (yI.refl HKW.out.wf)⟩
  case round=>
   obtain⟨k,hk,rfl,HJ5,HK5⟩:=hrel;by_cases hlk:k<pl.length
   ·obtain⟨bp,op,hpa,_,hpx⟩:=(HRP.out.keep HK5.out HPN.out) k hlk
    have nk:(k:Int)<(pl.length:Int):=by omega
    have HTK:=za (zO hlk);have HPRE:=za (J3 ([]:List (Int×Int)) pl (fun p=>(p,(1:Int))) (if (rs&&decide (0<=zD u t))=true then [((u.guards.getD (zD u t).toNat jF).at',(2:Int))]else []) hlk);obtain⟨fn,tmps,assign,body,hy,hR⟩:=HY.out _ (pl[k],1) wr HJ5.out (by rw[HL.out];exact HPRE.out);generalize pl[k]=x at *;subst hpa;dsimp only at hy
    gi_wp2
    refine hR.mono ?_;rintro e W5 (⟨rfl,hJ5,hk5⟩|⟨rfl,hx5⟩)
    ·gi_wp2
     go_roundw
     case rel=>exact⟨k+1,by omega,by go_num,za (by rw[HTK.out,q8,<-List.append_assoc];exact hJ5),za (HK5.out.trans (hk5 HK5.out.wf))⟩
     case measure=>simp[intOf];omega
    ·gi_wp2
     refine xJ (results_none rfl _ _ _) rfl ?_;exact⟨⟨_,rfl⟩,.inr ⟨_,⟨by rw[HL.out];exact HPRE.out,by simp⟩,hx5⟩⟩
   ·obtain rfl:k=pl.length:=by omega
    have HJ6:=za (by have:=HJ5.out;rwa [xL]at this:J (([]:List (Int×Int))++pl.map (fun p=>(p,(1:Int)))) wr);have HKX:=za (HKW.out.trans HK5.out);obtain⟨u0,u1,u2,u3,u4,u5,u6⟩:=zr (HKX.out.box HU.out).1;have v0:=(zA _ _ 0 _ _ _ (HKX.out.box HT.out).1).trans rfl;have HM6:=za (HM.out.keep HKX.out);replace HG5:=za (HK5.out.box HG5.out);have HGO:=za (X6 u t (some ⟨bc,oc,none⟩) cc ga gc wr HM6.out.m.rg (by omega));have HGL:=za (JB u t);obtain⟨gi,hgi⟩:∃gi,gi=zD u t:=⟨_,rfl⟩
    rw[<-hgi]at HGO HL HGL;clear hgi
    cases rs with
    |false=>
     rw[zi (by simp)]at HL
     gi_wp2_with (first
      |(refine⟨trivial,?_⟩;gi_at_call 210;refine(qC.2 HGO.out).mono ?_;rintro e w6 ⟨rfl,hb⟩;have HB6:=za hb;have d7:=(zA _ _ 7 _ _ _ (zb hb HG5.out.1)).trans rfl;clear hb))
     go_end0
     refine⟨⟨_,rfl⟩,.inl ⟨xp u t,rfl,?_⟩⟩;rw[HL.out,qO]
     exact yN HJ.out HJ6.out HB6.out
    |true=>
     by_cases hg0:0<=gi
     ·obtain⟨m',rfl⟩:∃q:Nat,gi=(q:Int):=⟨gi.toNat,by omega⟩
      have hgl:m'<u.guards.length:=by have:=HGL.out;omega
      have ngl:(m':Int)<(u.guards.length:Int):=by omega
      rw[zj (by simp),show((m':Int)).toNat=m' from rfl,zk hgl]at HL;obtain⟨bg,og,hga,_,-,-,g2⟩:=HM6.out.m.rg m' hgl;subst hga;generalize u.guards[m']=gd at *;have HG2:=za g2;clear g2
      gi_wp2_with (first
       |(refine⟨trivial,?_⟩;gi_at_call 210;refine(qC.2 HGO.out).mono ?_;rintro e w6 ⟨rfl,hb⟩;have HB6:=za hb;have d7:=(zA _ _ 7 _ _ _ (zb hb HG5.out.1)).trans rfl;have g2:=zK hb HG2.out;have e6:=zK hb u6;obtain⟨fn,tmps,assign,body,hy,hR⟩:=HY.out _ (gd.at',2) w6 (yN HJ.out HJ6.out hb) (by rw[HL.out];exact List.prefix_refl _);dsimp only at hy;clear hb))
      refine hR.mono ?_;rintro e W7 (⟨rfl,hJ7,hk7⟩|⟨rfl,hx7⟩)
      ·gi_wp2
       go_end0
       refine⟨⟨_,rfl⟩,.inl ⟨xp u t,rfl,?_⟩⟩;rw[HL.out];exact hJ7
      ·gi_wp2
       go_end0
       exact⟨⟨_,rfl⟩,.inr ⟨_,⟨by rw[HL.out];exact List.prefix_refl _,by simp⟩,hx7⟩⟩
     ·have dg:decide (0<=gi)=false:=yn hg0
      rw[zi (by simp;omega)]at HL
      gi_wp2_with (first
       |(refine⟨trivial,?_⟩;gi_at_call 210;refine(qC.2 HGO.out).mono ?_;rintro e w6 ⟨rfl,hb⟩;have HB6:=za hb;have d7:=(zA _ _ 7 _ _ _ (zb hb HG5.out.1)).trans rfl;clear hb))
      go_end0
      refine⟨⟨_,rfl⟩,.inl ⟨xp u t,rfl,?_⟩⟩;rw[HL.out,qO];exact yN HJ.out HJ6.out HB6.out
end Go.Proofs.YtgalekifgnecjaaGreat
