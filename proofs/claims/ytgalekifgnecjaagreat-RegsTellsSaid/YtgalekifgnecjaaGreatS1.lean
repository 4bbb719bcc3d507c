/- Keys that are pairs of numbers. Maps that the call itself has made, as lists of keys with their values. -/
import Derived.Test.YtgalekifgnecjaaGreatM1
import Derived.WideKeyArr
import Derived.WideKeyPair
namespace Go.Proofs.YtgalekifgnecjaaGreat
open Go.RowKit

open Go.Maps (Keyed)
theorem arr48 : WideMaps.ArrKey Tryz.prog 48 3 2 := ⟨Tryz.underlying48, by kernel_rfl, by kernel_rfl, by kernel_rfl⟩
theorem keyed48 : Keyed Tryz.prog 48 := Keyed.of_law arr48.law

attribute [local go_sem] Oper.semAt_some

/-- A map's types, and how its keys and elements are written. -/
structure MK (α β : Type) where
  kT : TypeId
  eT : TypeId
  K : Keyed Tryz.prog kT
  kV : α → Value
  kL : α → Lit
  ok : α → Prop
  key : ∀ x, ok x → keyOf Tryz.prog kT (kV x) = some (kL x)
  kInj : ∀ x y, kV x = kV y → x = y
  eV : β → Value
  eD : β → DataW Unit
  okE : β → Prop
  elem : ∀ v, okE v → plainElem (H := Unit) Tryz.prog eT (eV v) = some (eD v, [])
  elemInv : ∀ v z, plainElem (H := Unit) Tryz.prog eT v = some z → ∃ c, v = eV c ∧ okE c ∧ z = (eD c, [])
  eInj : ∀ x y, eD x = eD y → x = y
  zero : β
  okZ : okE zero
  zeroRun : ∀ w, (zeroValue eT).run Tryz.prog w = .ok (eV zero) w

section
variable {α β : Type}
def entM (M : MK α β) (x : α × β) : Lit × DataW Unit := (M.kL x.1, M.eD x.2)
def datM (M : MK α β) (L : List (α × β)) : DataW Unit := .map ((L.map (entM M)).foldr DataW.insert [])
abbrev ApartM (L : List (α × β)) : Prop := L.Pairwise fun p q => p.1 ≠ q.1
/-- Block b is a map that reads as the list L. -/
structure MapAt (M : MK α β) (w : World) (b : Nat) (L : List (α × β)) : Prop where
  ap : ApartM L
  ok : ∀ p ∈ L, M.ok p.1 ∧ M.okE p.2
  own : w.ownsMap Tryz.prog M.kT (plainElem Tryz.prog M.eT) b L.length (datM M L)
variable {M : MK α β} {w w' : World} {b r : Nat} {L L' R : List (α × β)}
theorem MK.kLinj (M : MK α β) {x y : α} (hx : M.ok x) (hy : M.ok y) (h : M.kL x = M.kL y) : x = y :=
  M.kInj _ _ (M.K.inj (M.key x hx) (by rw [h]; exact M.key y hy))
theorem datM_size (L : List (α × β)) : Maps.size (datM M L) = L.length := by unfold datM; rw [Maps.size_eq, length_sorted, List.length_map]
theorem keysM (h : ∀ p ∈ L, M.ok p.1 ∧ M.okE p.2) : Maps.Keys (Maps.KeysOf Tryz.prog M.kT) (L.map (entM M)) := by
  intro p hp
  obtain ⟨x, hx, rfl⟩ := List.mem_map.1 hp
  exact ⟨M.kV x.1, M.key _ (h x hx).1⟩
theorem apartE (h : ∀ p ∈ L, M.ok p.1 ∧ M.okE p.2) (ha : ApartM L) : (L.map (entM M)).Pairwise (fun p q => p.1 ≠ q.1) := by
  rw [List.pairwise_map]
  refine ha.imp_of_mem ?_
  intro p q hp hq hne e
  exact hne (M.kLinj (h p hp).1 (h q hq).1 e)
theorem datM_perm (h : ∀ p ∈ L, M.ok p.1 ∧ M.okE p.2) (ha : ApartM L) (hp : L.Perm L') : datM M L = datM M L' := by
  have h' : ∀ p ∈ L', M.ok p.1 ∧ M.okE p.2 := fun p hp' => h p (hp.mem_iff.2 hp')
  have ha' : ApartM L' := (hp.pairwise_iff (fun {_ _} hne => Ne.symm hne)).1 ha
  unfold datM
  congr 1
  exact ChangeMaps.eq_of_perm_sorted ((WideShapes.sorted_perm _).trans ((hp.map _).trans (WideShapes.sorted_perm _).symm)) (Maps.sorted_sorted M.K.one _ (keysM h) (apartE h ha)) (Maps.sorted_sorted M.K.one _ (keysM h') (apartE h' ha'))
theorem MapAt.perm (h : MapAt M w b L) (hp : L.Perm L') : MapAt M w b L' :=
  ⟨(hp.pairwise_iff (fun {_ _} hne => Ne.symm hne)).1 h.ap, fun p hp' => h.ok p (hp.mem_iff.2 hp'), by rw [← hp.length_eq, ← datM_perm h.ok h.ap hp]; exact h.own⟩
theorem MapAt.lt (h : MapAt M w b L) : b < w.heap.size := h.own.lt
theorem MapAt.keep (h : MapAt M w b L) (e : w'.heap[b]? = w.heap[b]?) : MapAt M w' b L := by
  obtain ⟨es, clock, hb, r⟩ := h.own
  exact ⟨h.ap, h.ok, es, clock, e.trans hb, r⟩
theorem MapAt.kept {row : Option Nat} (h : MapAt M w b L) (hg : w.grownBy w' row) (hn : some b ≠ row) : MapAt M w' b L := h.keep (hg.block b h.lt hn)
theorem MapAt.below (h : MapAt M w b L) (hb : Below w.heap.size w w') : MapAt M w' b L := h.keep (hb.block b h.lt)
theorem mapAt_made (M : MK α β) (w : World) : MapAt M (w.alloc (.map #[] 0)) w.heap.size [] := ⟨.nil, by simp, World.ownsMap_made w _ _ _⟩
/-- A range over the map L; those of R are still to come. -/
def RngAt (M : MK α β) (w : World) (r b : Nat) (L R : List (α × β)) : Prop :=
  MapAt M w b L ∧ ∃ left cnt, w.ranges Tryz.prog M.kT (plainElem (H := Unit) Tryz.prog M.eT) b r L.length (datM M L) left cnt ∧ R = L.filter (fun x => left (M.kL x.1))
theorem RngAt.lt (h : RngAt M w r b L R) : r < w.heap.size := by
  obtain ⟨_, left, cnt, h, _⟩ := h
  exact h.lt
theorem RngAt.sub (h : RngAt M w r b L R) : ∀ x ∈ R, x ∈ L := by
  obtain ⟨_, left, cnt, _, rfl⟩ := h
  intro x hx
  exact (List.mem_filter.1 hx).1
theorem RngAt.apart (h : RngAt M w r b L R) : ApartM R := by
  obtain ⟨hm, left, cnt, _, rfl⟩ := h
  exact hm.ap.filter _
theorem RngAt.kept {row : Option Nat} (h : RngAt M w r b L R) (hg : w.grownBy w' row) (hr : some r ≠ row) (hb : some b ≠ row) : RngAt M w' r b L R := by
  obtain ⟨hm, left, cnt, h, e⟩ := h
  exact ⟨hm.kept hg hb, left, cnt, h.kept hg hb hr, e⟩
theorem RngAt.below (h : RngAt M w r b L R) (hb : Below w.heap.size w w') : RngAt M w' r b L R :=
  h.kept (row := none) ⟨hb.os, hb.tape, hb.output, hb.size, fun k hk _ => hb.block k hk⟩ (by simp) (by simp)
theorem own_lenM {n : Nat} (h : w.ownsMap Tryz.prog M.kT (plainElem (H := Unit) Tryz.prog M.eT) b n (datM M L)) : w.ownsMap Tryz.prog M.kT (plainElem (H := Unit) Tryz.prog M.eT) b L.length (datM M L) := by
  obtain ⟨es, clock, hb, F, _, hD⟩ := h
  refine ⟨es, clock, hb, F, ?_, hD⟩
  have h1 : L.length = es.size := by
    have h2 := congrArg Maps.size hD
    rw [datM_size] at h2
    rw [h2]
    simp [Maps.size, length_sorted]
  omega
theorem MapAt.len {T : TypeId} (hT : Tryz.prog.underlying T = some (.map M.kT M.eT)) (h : MapAt M w b L) (ty : TypeId) : (Builtin.len_ #[T] ty #[.map (some b)]).run Tryz.prog w = .ok (.int .i64 L.length) w := by
  rw [h.own.len hT ty, datM_size]
variable [DecidableEq α]
/-- The value at a key. -/
def getM (L : List (α × β)) (x : α) : Option β := (L.find? fun p => decide (p.1 = x)).map (·.2)
/-- A value put at a key. -/
def putM (x : α) (v : β) (L : List (α × β)) : List (α × β) := (x, v) :: L.filter fun p => !decide (p.1 = x)
theorem apart_put {x : α} {v : β} (h : ApartM L) : ApartM (putM x v L) := by
  refine List.pairwise_cons.2 ⟨fun q hq => ?_, h.filter _⟩
  have := (List.mem_filter.1 hq).2
  simp only [Bool.not_eq_true', decide_eq_false_iff_not] at this
  exact fun e => this e.symm
theorem datM_put {x : α} {v : β} (h : ∀ p ∈ L, M.ok p.1 ∧ M.okE p.2) (ha : ApartM L) (hx : M.ok x) : (datM M L).put (M.kL x) (M.eD v) = datM M (putM x v L) := by
  unfold datM
  rw [DataW.put_eq]
  congr 1
  refine (Maps.sorted_put M.K.one ⟨M.kV x, M.key x hx⟩ (keysM h) (apartE h ha) ?_).symm
  unfold putM
  rw [List.map_cons]
  refine List.Perm.cons _ ?_
  rw [List.filter_map]
  refine List.Perm.of_eq (congrArg _ (List.filter_congr fun p hp => ?_))
  simp only [Function.comp, entM, ChangeMaps.notKey]
  by_cases e : p.1 = x
  · subst e
    simp [WideAt.sameKey_self (M.K.key (M.key _ hx))]
  · have : (M.kL p.1).sameKey (M.kL x) = false := by
      cases hs : (M.kL p.1).sameKey (M.kL x) with
      | false => rfl
      | true => exact absurd (M.kLinj (h p hp).1 hx (WideAt.sameKey_eq hs)) e
    simp [this, e]
theorem MapAt.put {T : TypeId} (hT : Tryz.prog.underlying T = some (.map M.kT M.eT)) {x : α} {v : β} (h : MapAt M w b L) (hl : L.length ≤ 1000000000) (hx : M.ok x) (hv : M.okE v) :
    ∃ w', (Instr.mapUpdate T (.map (some b)) (M.kV x) (M.eV v)).run Tryz.prog w = .ok () w' ∧ MapAt M w' b (putM x v L) ∧ w.grownBy w' (some b) := by
  obtain ⟨w', h1, h2, h3⟩ := h.own.update M.K hT (by unfold maxLen; omega) (M.key x hx) (M.elem v hv)
  rw [datM_put h.ok h.ap hx] at h2
  refine ⟨w', h1, ⟨apart_put h.ap, fun p hp => ?_, own_lenM h2⟩, h3⟩
  rcases List.mem_cons.1 hp with rfl | hp
  · exact ⟨hx, hv⟩
  · exact h.ok p (List.mem_filter.1 hp).1
theorem getM_mem {x : α} {v : β} (h : getM L x = some v) : (x, v) ∈ L := by
  unfold getM at h
  cases hf : L.find? (fun p => decide (p.1 = x)) with
  | none => rw [hf] at h; cases h
  | some p =>
    rw [hf] at h
    have h1 := List.mem_of_find?_eq_some hf
    have h2 := List.find?_some hf
    simp only [decide_eq_true_eq] at h2
    simp only [Option.map_some, Option.some.injEq] at h
    rw [← h2, ← h]
    exact h1
theorem getM_of_mem {x : α} {v : β} (ha : ApartM L) (h : (x, v) ∈ L) : getM L x = some v := by
  unfold getM
  cases hf : L.find? (fun p => decide (p.1 = x)) with
  | none => exact absurd (List.find?_eq_none.1 hf _ h) (by simp)
  | some p =>
    have h1 := List.mem_of_find?_eq_some hf
    have h2 := List.find?_some hf
    simp only [decide_eq_true_eq] at h2
    have : p = (x, v) := by
      clear hf
      induction L with
      | nil => simp at h1
      | cons q L ih =>
        obtain ⟨a1, a2⟩ := List.pairwise_cons.1 ha
        rcases List.mem_cons.1 h with e | h
        · rcases List.mem_cons.1 h1 with e2 | h1
          · rw [e, e2]
          · exact absurd (by rw [← e, h2]) (a1 p h1)
        · rcases List.mem_cons.1 h1 with e2 | h1
          · exact absurd (by rw [← e2, h2]) (a1 _ h)
          · exact ih a2 h h1
    rw [this]
    rfl
theorem getM_none {x : α} (h : getM L x = none) : ∀ p ∈ L, p.1 ≠ x := by
  intro p hp e
  unfold getM at h
  rw [Option.map_eq_none_iff] at h
  have := List.find?_eq_none.1 h p hp
  simp [e] at this
theorem datM_at {x : α} (h : ∀ p ∈ L, M.ok p.1 ∧ M.okE p.2) (ha : ApartM L) (hx : M.ok x) (z : DataW Unit) : (datM M L).atKey (M.kL x) z = ((getM L x).map M.eD).getD z := by
  have hat := WideShapes.atKey_sorted (L.map (entM M)) (ChangeMaps.rising_of_pairwise _ (Maps.sorted_sorted M.K.one _ (keysM h) (apartE h ha))) (M.kL x) (M.K.key (M.key x hx))
  unfold datM
  cases hg : getM L x with
  | none =>
    refine (hat.1 (fun p hp e => ?_) z).trans rfl
    obtain ⟨q, hq, rfl⟩ := List.mem_map.1 hp
    exact getM_none hg q hq (M.kLinj (h q hq).1 hx e)
  | some v => exact (hat.2 (entM M (x, v)) (List.mem_map.2 ⟨_, getM_mem hg, rfl⟩) rfl z).trans rfl
theorem MapAt.look {T : TypeId} (hT : Tryz.prog.underlying T = some (.map M.kT M.eT)) {x : α} (h : MapAt M w b L) (hx : M.ok x) :
    (Instr.lookup T (.map (some b)) (M.kV x) false).run Tryz.prog w = .ok (M.eV ((getM L x).getD M.zero)) w := by
  obtain ⟨v, ps, h1, h2⟩ := h.own.lookup M.K hT (M.zeroRun w) (M.elem _ M.okZ) (M.key x hx)
  obtain ⟨c, rfl, _, h3⟩ := M.elemInv _ _ h2
  rw [datM_at h.ok h.ap hx] at h3
  rw [h1]
  refine congrArg (fun z => Result.ok (M.eV z) w) (M.eInj _ _ ?_)
  simp only [Prod.mk.injEq] at h3
  rw [← h3.1]
  cases getM L x <;> rfl
theorem datM_has {x : α} (h : ∀ p ∈ L, M.ok p.1 ∧ M.okE p.2) (hx : M.ok x) : Maps.has (datM M L) (M.kL x) = (getM L x).isSome := by
  unfold datM
  rw [Maps.has_eq]
  cases hg : getM L x with
  | none =>
    refine List.any_eq_false.2 fun p hp e => ?_
    obtain ⟨q, hq, rfl⟩ := List.mem_map.1 ((WideShapes.sorted_perm _).mem_iff.1 hp)
    exact getM_none hg q hq (M.kLinj (h q hq).1 hx (WideAt.sameKey_eq e))
  | some v =>
    refine List.any_eq_true.2 ⟨entM M (x, v), (WideShapes.sorted_perm _).mem_iff.2 (List.mem_map.2 ⟨_, getM_mem hg, rfl⟩), ?_⟩
    exact WideAt.sameKey_self (M.K.key (M.key x hx))
theorem MapAt.lookOk {T : TypeId} (hT : Tryz.prog.underlying T = some (.map M.kT M.eT)) {x : α} (h : MapAt M w b L) (hx : M.ok x) :
    (Instr.lookup T (.map (some b)) (M.kV x) true).run Tryz.prog w = .ok (.tuple #[M.eV ((getM L x).getD M.zero), .bool (getM L x).isSome]) w := by
  obtain ⟨v, ps, h1, h2⟩ := h.own.look_ok M.K hT (M.zeroRun w) (M.elem _ M.okZ) (M.key x hx)
  obtain ⟨c, rfl, _, h3⟩ := M.elemInv _ _ h2
  rw [datM_at h.ok h.ap hx] at h3
  rw [h1, datM_has h.ok hx]
  refine congrArg (fun z => Result.ok (Value.tuple #[M.eV z, Value.bool (getM L x).isSome]) w) (M.eInj _ _ ?_)
  simp only [Prod.mk.injEq] at h3
  rw [← h3.1]
  cases getM L x <;> rfl
theorem MapAt.range {T : TypeId} (hT : Tryz.prog.underlying T = some (.map M.kT M.eT)) (h : MapAt M w b L) :
    ∃ w', (Instr.range T (.map (some b))).run Tryz.prog w = .ok (.pointer (some ⟨w.heap.size, 0, none⟩)) w' ∧ RngAt M w' w.heap.size b L L ∧ w.grownBy w' none ∧ w'.heap.size = w.heap.size + 1 := by
  obtain ⟨w', h1, h2, h3, h4⟩ := h.own.range M.K hT
  refine ⟨w', h1, ⟨h.kept h3 (by simp), _, _, h2, ?_⟩, h3, h4⟩
  refine (List.filter_eq_self.2 fun x hx => ?_).symm
  rw [datM_has h.ok (h.ok x hx).1, getM_of_mem h.ap (show (x.1, x.2) ∈ L from hx)]
  rfl
theorem RngAt.next (h : RngAt M w r b L R) (ty : TypeId) : (R = [] ∧ (Instr.next (.pointer (some ⟨r, 0, none⟩)) false ty).run Tryz.prog w = .ok (.tuple #[.bool false]) w) ∨
    ∃ x v w', (x, v) ∈ R ∧ (Instr.next (.pointer (some ⟨r, 0, none⟩)) false ty).run Tryz.prog w = .ok (.tuple #[.bool true, M.kV x, M.eV v]) w' ∧ RngAt M w' r b L (R.filter fun p => !decide (p.1 = x)) ∧ w.grownBy w' (some r) ∧ w'.heap.size = w.heap.size ∧
      (Instr.entry (.pointer (some ⟨r, 0, none⟩))).run Tryz.prog w' = .ok (.tuple #[M.kV x, M.eV v]) w' := by
  obtain ⟨hs, left, cnt, h, rfl⟩ := h
  rcases h.next M.K ty with ⟨_, hl, hrun⟩ | ⟨key, u, kl, y, w', cnt', hkey, hlk, hv, hat, hrun, hrg, _, hgr, hsz, hen⟩
  · exact .inl ⟨List.filter_eq_nil_iff.2 fun x _ => by simp [hl], hrun⟩
  · obtain ⟨c, rfl, _, rfl⟩ := M.elemInv _ _ hv
    have hhas : Maps.has (datM M L) kl = true := Maps.has_true_of_atKey hat
    unfold datM at hhas
    rw [Maps.has_eq] at hhas
    obtain ⟨p, hp, hpk⟩ := List.any_eq_true.1 hhas
    obtain ⟨q, hq, rfl⟩ := List.mem_map.1 ((WideShapes.sorted_perm _).mem_iff.1 hp)
    have hkl : M.kL q.1 = kl := WideAt.sameKey_eq hpk
    have hok := hs.ok q hq
    have hkv : key = M.kV q.1 := M.K.inj hkey (by rw [← hkl]; exact M.key _ hok.1)
    have hqv : q.2 = c := by
      have h1 := hat (M.eD M.zero)
      rw [← hkl, datM_at hs.ok hs.ap hok.1, getM_of_mem hs.ap (show (q.1, q.2) ∈ L from hq)] at h1
      exact M.eInj _ _ h1
    subst hkv
    subst hqv
    refine .inr ⟨q.1, q.2, w', List.mem_filter.2 ⟨hq, by rw [hkl]; exact hlk⟩, hrun, ⟨hs.kept hgr (fun e => by cases e; exact h.ne rfl), _, _, hrg, ?_⟩, hgr, hsz, hen⟩
    rw [List.filter_filter]
    refine List.filter_congr fun z hz => ?_
    by_cases e : z.1 = q.1
    · rw [e, hkl]
      simp [WideAt.sameKey_self (M.K.key hkey)]
    · have : (M.kL z.1).sameKey kl = false := by
        cases hs2 : (M.kL z.1).sameKey kl with
        | false => rfl
        | true => exact absurd (M.kLinj (hs.ok z hz).1 hok.1 (by rw [hkl]; exact WideAt.sameKey_eq hs2)) e
      simp [this, e]
end

/-! ### at the operations -/
section
variable {α β : Type} [DecidableEq α] (M : MK α β)
variable (w : World) {ops : Array Oper} {rest : List Oper} {o : Oper} {a : Act} {Q : Exit → Act → World → Prop}
theorem wpList_map_put {T : TypeId} (hT : Tryz.prog.underlying T = some (.map M.kT M.eT)) (hg : o.guard = none) (m x v : Operand) (hop : o.op = Op.mapUpdate T m x v) (b : Nat) (L : List (α × β)) (k : α) (c : β) (hm : a.eval m = .map (some b)) (h : MapAt M w b L) (hl : L.length ≤ 1000000000) (hx : a.eval x = M.kV k) (hv : a.eval v = M.eV c) (hk : M.ok k) (hc : M.okE c)
    (hK : ∀ w', MapAt M w' b (putM k c L) → w.grownBy w' (some b) → wpList Tryz.prog ops Q rest (a.put o.dst undef) w') : wpList Tryz.prog ops Q (o :: rest) a w := by
  refine wpList_plain hg fun K' hK' => ?_
  obtain ⟨w', hrun, r1, r2⟩ := h.put hT hl hk hc
  unfold Oper.wp
  simp [execOp, hop, hm, hx, hv, hrun, Result.andThen]
  exact hK' _ _ (hK w' r1 r2)
theorem wpList_map_range {T : TypeId} (hT : Tryz.prog.underlying T = some (.map M.kT M.eT)) (hg : o.guard = none) (m : Operand) (hop : o.op = Op.range T m) (b : Nat) (L : List (α × β)) (hm : a.eval m = .map (some b)) (h : MapAt M w b L)
    (hK : ∀ w', RngAt M w' w.heap.size b L L → w.grownBy w' none → w'.heap.size = w.heap.size + 1 → wpList Tryz.prog ops Q rest (a.put o.dst (.pointer (some ⟨w.heap.size, 0, none⟩))) w') : wpList Tryz.prog ops Q (o :: rest) a w := by
  refine wpList_plain hg fun K' hK' => ?_
  obtain ⟨w', hrun, r1, r2, r3⟩ := h.range hT
  unfold Oper.wp
  simp [execOp, hop, hm, hrun, Result.andThen]
  exact hK' _ _ (hK w' r1 r2 r3)
theorem wpList_map_next (hg : o.guard = none) (it : Operand) (hop : o.op = Op.next it false) (r b : Nat) (L R : List (α × β)) (hit : a.eval it = .pointer (some ⟨r, 0, none⟩)) (h : RngAt M w r b L R)
    (hDone : R = [] → wpList Tryz.prog ops Q rest (a.put o.dst (.tuple #[.bool false])) w)
    (hMore : ∀ (x : α) (v : β) (w' : World), (x, v) ∈ R → RngAt M w' r b L (R.filter fun p => !decide (p.1 = x)) → w.grownBy w' (some r) → w'.heap.size = w.heap.size → (Instr.entry (.pointer (some ⟨r, 0, none⟩))).run Tryz.prog w' = .ok (.tuple #[M.kV x, M.eV v]) w' →
      wpList Tryz.prog ops Q rest (a.put o.dst (.tuple #[.bool true, M.kV x, M.eV v])) w') : wpList Tryz.prog ops Q (o :: rest) a w := by
  refine wpList_plain hg fun K' hK' => ?_
  unfold Oper.wp
  rcases h.next o.type with ⟨h0, hrun⟩ | ⟨x, v, w', hx, hrun, hrg, hgr, hsz, hen⟩
  · simp [execOp, hop, hit, hrun, Result.andThen]
    exact hK' _ _ (hDone h0)
  · simp [execOp, hop, hit, hrun, Result.andThen]
    exact hK' _ _ (hMore x v w' hx hrg hgr hsz hen)
end

/-! ### pairs of numbers, with truths; numbers with numbers -/
theorem plainElem_bool_inv {v : Value} {z : DataW Unit × List MemPlace} (h : plainElem Tryz.prog 4 v = some z) : ∃ c, v = Value.bool c ∧ True ∧ z = (.lit (.bool c), []) := by
  obtain ⟨c, h1, h2⟩ := elem4_inv h
  exact ⟨c, h1, trivial, h2⟩
theorem zero4s (w : World) : (zeroValue 4).run Tryz.prog w = .ok (.bool false) w := by
  simp [zeroValue, go_sem]
  rfl
def mkPairs : MK (Int × Int) Bool where
  kT := 48
  eT := 4
  K := keyed48
  kV x := .agg #[.int .i64 x.1, .int .i64 x.2]
  kL x := .string (keyBytes [.int .i64 x.1, .int .i64 x.2])
  ok x := (0 ≤ x.1 ∧ x.1 ≤ 1000000) ∧ (0 ≤ x.2 ∧ x.2 ≤ 1000000)
  key x hx := WideMaps.keyOf_pair arr48 Tryz.underlying3 ⟨Tryz.prog.types.size - 1, by kernel_rfl⟩ (wf64 hx.1) (wf64 hx.2)
  kInj x y h := by
    injection h with h
    injection h with h
    injection h with h1 h
    injection h with h2 h
    injection h1 with _ h1
    injection h2 with _ h2
    exact Prod.ext h1 h2
  eV c := .bool c
  eD c := .lit (.bool c)
  okE _ := True
  elem v _ := elem4 v
  elemInv _ _ h := plainElem_bool_inv h
  eInj x y h := by
    injection h with h
    injection h
  zero := false
  okZ := trivial
  zeroRun w := zero4s w
theorem zero3 (w : World) : (zeroValue 3).run Tryz.prog w = .ok (.int .i64 0) w := by
  simp [zeroValue, go_sem]
  rfl
def mkInts : MK Int Int where
  kT := 3
  eT := 3
  K := keyed3
  kV x := .int .i64 x
  kL x := .int .i64 x
  ok x := (Lit.int .i64 x).wf = true
  key x hx := Go.Maps.keyOf_int_mk Tryz.underlying3 hx
  kInj x y h := by injection h
  eV c := .int .i64 c
  eD c := .lit (.int .i64 c)
  okE c := (Lit.int .i64 c).wf = true
  elem v hv := plainElem_int Tryz.underlying3 hv
  elemInv v z h := by
    obtain ⟨a, h1, h2, h3⟩ := plainElem_int_inv Tryz.underlying3 h
    exact ⟨a, h1, h3, h2⟩
  eInj x y h := by
    injection h with h
    injection h
  zero := 0
  okZ := by decide
  zeroRun w := zero3 w
def mkTruths : MK Int Bool where
  kT := 3
  eT := 4
  K := keyed3
  kV x := .int .i64 x
  kL x := .int .i64 x
  ok x := (Lit.int .i64 x).wf = true
  key x hx := Go.Maps.keyOf_int_mk Tryz.underlying3 hx
  kInj x y h := by injection h
  eV c := .bool c
  eD c := .lit (.bool c)
  okE _ := True
  elem v _ := elem4 v
  elemInv _ _ h := plainElem_bool_inv h
  eInj x y h := by
    injection h with h
    injection h
  zero := false
  okZ := trivial
  zeroRun w := zero4s w
end Go.Proofs.YtgalekifgnecjaaGreat
