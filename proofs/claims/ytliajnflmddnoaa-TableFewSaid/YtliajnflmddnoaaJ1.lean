/- What the arguments of the laws are: matrices, numbers, rows laid over each other, folded matrices. -/
import Derived.Test.YtliajnflmddnoaaRows
import Derived.Test.YtliajnflmddnoaaG24
import Derived.ProofKit
import Derived.Deep.Slices
import Derived.Deep.Fields
import Derived.Deep.Matrix
namespace Go.Proofs.Ytliajnflmddnoaa
open Go.RowKit
open Go.ChangeShapes Go.WideShapes Go.ChangeAt Go.RowKit Go.Deep

theorem Try.own : ownKnob Try.prog.godebug = none := by kernel_rfl
theorem Try.laidOut : laidOutB Try.prog = true := by kernel_rfl

section
variable {H : Type} {enc : TypeId × Value → H} {W : World} {sp : Nat → Bool} {hd : Bool}

theorem struct_ints {t : TypeId} {fs : Array Field} (ht : Try.prog.underlying t = some (.struct fs)) (hone : oneCellFields Try.prog fs = true) (h3 : ∀ (j : Nat) (f : Field), fs[j]? = some f → f.type = 3)
    {fuel : Nat} {cs : List Value} {y : DataW H × List MemPlace} (h : DataW.trod enc Try.prog W 0 sp hd fuel t cs = some y) : ∀ j, j < fs.size → ∃ z, cs[j]? = some (.int .i64 z) := by
  intro j hj
  obtain ⟨xs, n, _, _, _, hxl, hf⟩ := DataW.trod_struct ht h
  have hfj : fs[j]? = some fs[j] := Array.getElem?_eq_getElem hj
  obtain ⟨ho, hk⟩ := hone_of hone j fs[j] hfj
  have h1 := hf j fs[j] hfj
  rw [ho, hk, h3 j fs[j] hfj, List.getElem?_eq_getElem (by omega)] at h1
  obtain ⟨z, hz, _⟩ := DataW.trod_int Try.underlying3 h1
  refine ⟨z, ?_⟩
  have e : ((cs.drop j).take 1)[0]? = some (.int .i64 z) := by rw [hz]; rfl
  rw [List.getElem?_take, if_pos (by decide), List.getElem?_drop] at e
  simpa using e

theorem choose_list {α : Type} {Q : Nat → α → Prop} : ∀ (n : Nat), (∀ i, i < n → ∃ x, Q i x) → ∃ l : List α, l.length = n ∧ ∀ i (h : i < l.length), Q i l[i]
  | 0, _ => ⟨[], rfl, fun i h => absurd h (Nat.not_lt_zero i)⟩
  | n + 1, h => by
    obtain ⟨l, hl, hq⟩ := choose_list n fun i hi => h i (by omega)
    obtain ⟨x, hx⟩ := h n (by omega)
    refine ⟨l ++ [x], by simp [hl], fun i hi => ?_⟩
    rw [List.length_append, List.length_singleton] at hi
    by_cases e : i < l.length
    · rw [List.getElem_append_left e]
      exact hq i e
    · have e2 : i = l.length := by omega
      subst e2
      rw [List.getElem_append_right (Nat.le_refl _)]
      simp only [Nat.sub_self, List.getElem_cons_zero]
      rw [hl]
      exact hx

theorem cell_lt {b off : Nat} {v : Value} (h : W.cell? ⟨b, off, none⟩ = some v) : b < W.heap.size := by
  unfold World.cell? at h
  cases hh : W.heap[b]? with
  | none => simp [hh] at h
  | some o => exact lt_of_heap hh

theorem at_zero {a : Addr} {v : Value} (h : W.cell? (a.add 0) = some v) : ∃ b off, a = ⟨b, off, none⟩ := by
  obtain ⟨b, off, spot⟩ := a
  have e : (⟨b, off, spot⟩ : Addr).add 0 = ⟨b, off, spot⟩ := by simp [Addr.add]
  rw [e] at h
  cases spot with
  | none => exact ⟨b, off, rfl⟩
  | some s =>
    unfold World.cell? at h
    cases hh : W.heap[b]? with
    | none => simp [hh] at h
    | some o => cases o <;> simp [hh] at h

theorem add_none (b off j : Nat) : (⟨b, off, none⟩ : Addr).add j = ⟨b, off + j, none⟩ := by
  unfold Addr.add
  by_cases h0 : j = 0
  · subst h0; simp
  · simp [h0]

theorem field_trod {t : TypeId} {fs : Array Field} (ht : Try.prog.underlying t = some (.struct fs)) (hone : oneCellFields Try.prog fs = true)
    {fuel : Nat} {cs : List Value} {y : DataW H × List MemPlace} (h : DataW.trod enc Try.prog W 0 sp hd fuel t cs = some y) : ∀ j f, fs[j]? = some f → ∃ n x, DataW.trod enc Try.prog W 0 sp hd n f.type ((cs.drop j).take 1) = some x := by
  intro j f hj
  obtain ⟨xs, n, _, _, _, hxl, hf⟩ := DataW.trod_struct ht h
  obtain ⟨ho, hk⟩ := hone_of hone j f hj
  have hjl : j < fs.size := (Array.getElem?_eq_some_iff.1 hj).1
  have h1 := hf j f hj
  rw [ho, hk, List.getElem?_eq_getElem (by omega)] at h1
  exact ⟨_, _, h1⟩

set_option maxRecDepth 100000 in
theorem open_rows {ts t : TypeId} {fs : Array Field} (hs : Try.prog.underlying ts = some (.slice t)) (ht : Try.prog.underlying t = some (.struct fs)) (hone : oneCellFields Try.prog fs = true) (hC : Try.prog.cellsOf t = fs.size) (h3 : ∀ (j : Nat) (f : Field), fs[j]? = some f → f.type = 3)
    {fuel : Nat} {cs : List Value} {x : DataW H × List MemPlace} (hf : DataW.trod enc Try.prog W 0 (fun _ => true) true fuel ts cs = some x) :
    ∃ a0 len cap, cs = [.slice a0 len cap] ∧ len ≤ maxLen ∧ len ≤ cap ∧ ∀ i, i < len → ∃ a, a0 = some a ∧ ∀ j, j < fs.size → ∃ z, W.cell? (a.add (i * fs.size + j)) = some (.int .i64 z) := by
  rcases open_slice hs hf with ⟨hcs, hx⟩ | ⟨a, len', cap', m, n, D, Pl, hcs, hb, hl, hm, hmm, hx, hi⟩
  · exact ⟨none, 0, 0, hcs, Nat.zero_le _, Nat.zero_le _, fun i hi => absurd hi (Nat.not_lt_zero i)⟩
  · refine ⟨some a, len', cap', hcs, Nat.le_trans hl hm, hl, fun i hilt => ⟨a, rfl, fun j hj => ?_⟩⟩
    obtain ⟨cs', hc, ht'⟩ := hi i (by simp at hmm; omega)
    rw [hC] at hc
    obtain ⟨_, hcl, hat⟩ := World.cells?_some hc
    obtain ⟨z, hz⟩ := struct_ints ht hone h3 ht' j hj
    refine ⟨z, ?_⟩
    have := hat j hj
    rw [Go.Deep.add_add] at this
    rw [this]
    exact hz
end

section
variable {H : Type} {enc : TypeId × Value → H} {W : World}
theorem cells3 : Try.prog.cellsOf 3 = 1 := by kernel_rfl
theorem cells23 : Try.prog.cellsOf 23 = 1 := by kernel_rfl
theorem cells95 : Try.prog.cellsOf 95 = 1 := by kernel_rfl
set_option maxRecDepth 100000 in
theorem nums_trod {fuel : Nat} {cs : List Value} {x : DataW H × List MemPlace} (hf : DataW.trod enc Try.prog W 0 (fun _ => true) true fuel 23 cs = some x) :
    ∃ (l : List Int) (a : Option Addr) (cap : Nat), cs = [.slice a l.length cap] ∧ RdI W a l ∧ l.length ≤ 9223372036854775807 ∧ l.length ≤ cap := by
  rcases open_ints Try.underlying23 Try.underlying3 cells3 hf with ⟨hcs, hx⟩ | ⟨a, len', cap', zs, hcs, _, hl, hm, hz, hx, hcell, hwz⟩
  · exact ⟨[], none, 0, hcs, fun i hi => absurd hi (Nat.not_lt_zero i), Nat.zero_le _, Nat.zero_le _⟩
  · simp only [if_true] at hz
    have hlen : (zs.take len').length = len' := by rw [List.length_take]; omega
    refine ⟨zs.take len', some a, cap', by rw [hlen]; exact hcs, fun i hi => ?_, by rw [hlen]; unfold maxLen at hm; omega, by rw [hlen]; exact hl⟩
    rw [hlen] at hi
    have h0 := hcell 0 (by omega)
    obtain ⟨b, off, rfl⟩ := at_zero h0
    have hc := hcell i (by omega)
    rw [add_none] at hc
    refine ⟨b, off, rfl, cell_lt hc, ?_⟩
    rw [hc, List.getElem_take, List.getD_eq_getElem?_getD, List.getElem?_eq_getElem (by omega)]
    rfl
set_option maxRecDepth 100000 in
theorem pairs_trod {ts T : TypeId} (hs : Try.prog.underlying ts = some (.slice T)) {fs : Array Field} (ht : Try.prog.underlying T = some (.struct fs)) (hone : oneCellFields Try.prog fs = true) (hC : Try.prog.cellsOf T = fs.size) (h2 : fs.size = 2) (h3 : ∀ (j : Nat) (f : Field), fs[j]? = some f → f.type = 3)
    {fuel : Nat} {cs : List Value} {x : DataW H × List MemPlace} (hf : DataW.trod enc Try.prog W 0 (fun _ => true) true fuel ts cs = some x) :
    ∃ (l : List (Int × Int)) (a : Option Addr) (cap : Nat), cs = [.slice a l.length cap] ∧ RdP W a l ∧ l.length ≤ 9223372036854775807 ∧ l.length ≤ cap := by
  obtain ⟨a0, len, cap, hcs, hm, hlc, hc⟩ := open_rows hs ht hone hC h3 hf
  rw [h2] at hc
  obtain ⟨l, hl, hq⟩ := choose_list (Q := fun i (x : Int × Int) => ∃ b off, a0 = some ⟨b, off, none⟩ ∧ b < W.heap.size ∧ PMat W b (off + i * 2) x) len (by
    intro i hi
    obtain ⟨a', e', hz'⟩ := hc 0 (by omega)
    obtain ⟨y, hy⟩ := hz' 0 (by decide)
    obtain ⟨b, off, rfl⟩ := at_zero (by simpa using hy)
    obtain ⟨a, e, hz⟩ := hc i hi
    have e2 : a = ⟨b, off, none⟩ := by
      rw [e'] at e
      injection e with e
      exact e.symm
    subst e2
    have key : ∀ j, j < 2 → ∃ z, W.cell? ⟨b, off + i * 2 + j, none⟩ = some (.int .i64 z) := by
      intro j hj
      obtain ⟨z, h⟩ := hz j hj
      rw [add_none, ← Nat.add_assoc] at h
      exact ⟨z, h⟩
    obtain ⟨z0, h0⟩ := key 0 (by decide)
    obtain ⟨z1, h1⟩ := key 1 (by decide)
    exact ⟨(z0, z1), b, off, e', cell_lt h0, h0, h1⟩)
  refine ⟨l, a0, cap, by rw [hl]; exact hcs, fun i hi => hq i hi, ?_, by rw [hl]; exact hlc⟩
  rw [hl]
  unfold maxLen at hm
  omega
set_option maxRecDepth 100000 in
theorem open_nums {v : Value} {r : Reach} {base : Nat} {d : DataW H} {p : List MemPlace} (hv : Value.okWide Try.prog W r base 23 v) (h : DataW.Trod enc Try.prog W 0 (fun _ => true) true 23 v d p) :
    ∃ (l : List Int) (a : Option Addr) (cap : Nat), v = .slice a l.length cap ∧ RdI W a l ∧ l.length ≤ 9223372036854775807 ∧ l.length ≤ cap := by
  obtain ⟨a0, len, cap, rfl⟩ := okWide_slice Try.underlying23 hv
  obtain ⟨fuel, hf⟩ := h
  obtain ⟨l, a, c, hcs, h1, h2, h3⟩ := nums_trod hf
  simp [Value.cells] at hcs
  obtain ⟨rfl, rfl, rfl⟩ := hcs
  exact ⟨l, _, _, rfl, h1, h2, h3⟩
set_option maxRecDepth 100000 in
theorem open_matrix {v : Value} {r : Reach} {base : Nat} {d : DataW H} {p : List MemPlace} (hv : Value.okWide Try.prog W r base 22 v) (h : DataW.Trod enc Try.prog W 0 (fun _ => true) true 22 v d p) :
    ∃ (m : List (List Int)) (a : Option Addr) (cap : Nat), v = .slice a m.length cap ∧ RdM W a m ∧ m.length ≤ 9223372036854775807 ∧ ∀ r, r ∈ m → r.length ≤ 9223372036854775807 := by
  obtain ⟨a0, len, cap, rfl⟩ := okWide_slice Try.underlying22 hv
  obtain ⟨fuel, hf⟩ := h
  rcases open_int_rows Try.underlying22 Try.underlying23 Try.underlying3 cells23 cells3 hf with ⟨hcs, _⟩ | ⟨a, len', cap', A, L, C, Z, hcs, _, hlc, hcm, _, hrow⟩
  · simp [Value.cells] at hcs
    obtain ⟨rfl, rfl, rfl⟩ := hcs
    exact ⟨[], none, 0, rfl, fun i hi => absurd hi (Nat.not_lt_zero i), Nat.zero_le _, fun r hr => by cases hr⟩
  · simp [Value.cells] at hcs
    obtain ⟨rfl, rfl, rfl⟩ := hcs
    have hlen : ((List.range len).map fun r => (Z r).take (L r)).length = len := by simp
    have hrl : ∀ i, i < len → ((Z i).take (L i)).length = L i := fun i hi => by
      obtain ⟨_, h1, _, h2, _⟩ := hrow i (by omega)
      rw [List.length_take]
      omega
    refine ⟨(List.range len).map fun r => (Z r).take (L r), some a, cap, by rw [hlen], fun i hi => ?_, by rw [hlen]; unfold maxLen at hcm; omega, fun r hr => ?_⟩
    · have hi' : i < len := by rw [hlen] at hi; exact hi
      have h0 := (hrow 0 (by omega)).1
      obtain ⟨b, off, rfl⟩ := at_zero h0
      obtain ⟨hc, h1, h2, h3, _, h5, h6⟩ := hrow i (by omega)
      rw [add_none] at hc
      rw [List.getElem_map, List.getElem_range]
      refine ⟨b, off, rfl, cell_lt hc, A i, C i, by rw [hrl i hi']; exact hc, fun k hk => ?_⟩
      rw [hrl i hi'] at hk
      cases hA : A i with
      | none =>
        have := h5 hA
        omega
      | some a' =>
        obtain ⟨_, hcell⟩ := h6 a' hA
        obtain ⟨b', off', rfl⟩ := at_zero (hcell 0 (by omega))
        have hck := hcell k (by omega)
        rw [add_none] at hck
        refine ⟨b', off', rfl, cell_lt hck, ?_⟩
        rw [hck, List.getElem_take, List.getD_eq_getElem?_getD, List.getElem?_eq_getElem (by omega)]
        rfl
    · obtain ⟨i, hi, rfl⟩ := List.mem_map.1 hr
      have hi' := List.mem_range.1 hi
      rw [hrl i hi']
      obtain ⟨_, h1, h2, _⟩ := hrow i (by omega)
      unfold maxLen at h2
      omega

theorem fields99 : ∃ fs : Array Field, Try.prog.underlying 99 = some (.struct fs) ∧ fs.size = 2 ∧ oneCellFields Try.prog fs = true ∧ Try.prog.cellsOf 99 = fs.size ∧ ∀ (j : Nat) (f : Field), fs[j]? = some f → f.type = 3 := by
  refine ⟨_, Try.underlying99, rfl, by kernel_rfl, by kernel_rfl, fun j f hj => ?_⟩
  match j, hj with
  | 0, hj => simp at hj; subst hj; rfl
  | 1, hj => simp at hj; subst hj; rfl
  | j + 2, hj => simp at hj

theorem fields97 : ∃ fs : Array Field, Try.prog.underlying 97 = some (.struct fs) ∧ fs.size = 2 ∧ oneCellFields Try.prog fs = true ∧ Try.prog.cellsOf 97 = fs.size ∧ ∀ (j : Nat) (f : Field), fs[j]? = some f → f.type = 3 := by
  refine ⟨_, Try.underlying97, rfl, by kernel_rfl, by kernel_rfl, fun j f hj => ?_⟩
  match j, hj with
  | 0, hj => simp at hj; subst hj; rfl
  | 1, hj => simp at hj; subst hj; rfl
  | j + 2, hj => simp at hj

set_option maxRecDepth 100000 in
theorem open_laid {v : Value} {r : Reach} {base : Nat} {d : DataW H} {p : List MemPlace} (hv : Value.okWide Try.prog W r base 44 v) (h : DataW.Trod enc Try.prog W 0 (fun _ => true) true 44 v d p) :
    ∃ (L : Ld) (sa : Option Addr) (sc : Nat) (ca : Option Addr) (cc : Nat), v = vL L sa sc ca cc ∧ LdM W L sa sc ca cc ∧ L.starts.length ≤ 9223372036854775807 ∧ L.cells.length ≤ 9223372036854775807 := by
  obtain ⟨cs, rfl, hsz⟩ := okWide_struct Try.underlying44 hv
  have h5 : Try.prog.cellsOf 44 = 3 := by kernel_rfl
  rw [h5] at hsz
  obtain ⟨fuel, hf⟩ := h
  have hz := field_trod Try.underlying44 (by kernel_rfl) hf
  obtain ⟨l⟩ := cs
  obtain ⟨n0, x0, h0⟩ := hz 0 _ rfl
  obtain ⟨n1, x1, h1⟩ := hz 1 _ rfl
  obtain ⟨n2, x2, h2⟩ := hz 2 _ rfl
  match l, hsz with
  | [c0, c1, c2], _ =>
    simp only [Value.cells] at h0 h1 h2
    obtain ⟨z, e0, _⟩ := DataW.trod_int Try.underlying3 h0
    obtain ⟨S, sa, sc, e1, q1, q2, q3⟩ := nums_trod h1
    obtain ⟨fs, k1, k2, k3, k4, k5⟩ := fields99
    obtain ⟨C, ca, cc, e2, q4, q5, q6⟩ := pairs_trod Try.underlying42 k1 k3 k4 k2 k5 h2
    have g0 : c0 = Value.int .i64 z := (List.cons.inj (show [c0] = [Value.int .i64 z] from e0)).1
    have g1 : c1 = Value.slice sa S.length sc := (List.cons.inj (show [c1] = [Value.slice sa S.length sc] from e1)).1
    have g2 : c2 = Value.slice ca C.length cc := (List.cons.inj (show [c2] = [Value.slice ca C.length cc] from e2)).1
    clear e0 e1 e2
    subst g0
    subst g1
    subst g2
    exact ⟨⟨z, S, C⟩, sa, sc, ca, cc, rfl, ⟨q1, q4, q3, q6⟩, q2, q5⟩
end


theorem stays {H : Type} {enc : TypeId × Value → H} {t : TypeId} (hr : Try.prog.readableRec t = true) (hrow : t < Try.prog.types.size) {W W' : World} {v : Value} {d : DataW H} {ps : List MemPlace}
    (h : DataW.Trod enc Try.prog W 0 (fun _ => true) true t v d ps) (hb : Below W.heap.size W W') (hlt : ∀ x ∈ ps, x.block < W.heap.size) : DataW.Trod enc Try.prog W' 0 (fun b => decide (b < W.heap.size)) true t v d ps :=
  Below.trod Try.laidOut hr hrow h hb hlt

theorem read3 : Try.prog.readableRec 3 = true := by kernel_rfl
theorem row3 : 3 < Try.prog.types.size := of_decide_eq_true (by kernel_rfl)

theorem read5 : Try.prog.readableRec 5 = true := by kernel_rfl
theorem row5 : 5 < Try.prog.types.size := of_decide_eq_true (by kernel_rfl)

theorem read22 : Try.prog.readableRec 22 = true := by kernel_rfl
theorem row22 : 22 < Try.prog.types.size := of_decide_eq_true (by kernel_rfl)

theorem read23 : Try.prog.readableRec 23 = true := by kernel_rfl
theorem row23 : 23 < Try.prog.types.size := of_decide_eq_true (by kernel_rfl)

theorem read24 : Try.prog.readableRec 24 = true := by kernel_rfl
theorem row24 : 24 < Try.prog.types.size := of_decide_eq_true (by kernel_rfl)

theorem read26 : Try.prog.readableRec 26 = true := by kernel_rfl
theorem row26 : 26 < Try.prog.types.size := of_decide_eq_true (by kernel_rfl)

theorem read44 : Try.prog.readableRec 44 = true := by kernel_rfl
theorem row44 : 44 < Try.prog.types.size := of_decide_eq_true (by kernel_rfl)
end Go.Proofs.Ytliajnflmddnoaa
