/- Contracts of order and Clique of package table. Pairs of numbers in memory (Owned, Berth): read off a slice, in slices of the call's own, in a block that is written, appended. Contracts of none, kind, the closures of place, and the searches that call them. Contracts of the closures of place: whether a row fits at a start. Contracts of slices.Clone on numbers and on cells. -/
import Derived.Test.YtecpkjhfbmchgaaG7
import Derived.Deep.OwnRows
import Derived.ArgAppend
import Derived.Test.YtecpkjhfbmchgaaP1
import Derived.Laws.StructEq
namespace Go.Proofs.Ytecpkjhfbmchgaa
open Go.RowKit


set_option maxRecDepth 1000000 in
set_option maxHeartbeats 4000000 in
theorem stable_any (m : List (List Int)) (a : Option Addr) (cap gm g c : Nat) (wb w : World) (hm : RightM m) (h12 : m.length ≤ 19) (hl : RdM wb a m) (hgm : wb.cell? ⟨gm, 0, none⟩ = some (.slice a m.length cap)) (hw : Below wb.heap.size wb w)
    (hg : wb.heap.size ≤ g) (hd : BI w g (asI (List.range m.length))) :
    Calls Try.prog 66 #[.slice (some ⟨g, 0, none⟩) m.length c, .int .i64 m.length, .func (.func 46) #[] #[.pointer (some ⟨gm, 0, none⟩)]] w
      (fun e w' => e = .returned (.tuple #[]) ∧ Below wb.heap.size wb w' ∧ BI w' g (asI (orderL m))) := by
  have HI := hid (insert_any m a cap gm g c wb w hm hl hgm hw hg hd)
  clear hm hl hgm hd
  have n20 : ¬ (20 : Int) ≤ (m.length : Int) := by omega
  have n20' : ¬ (20 : Int) < (m.length : Int) := by omega
  go_enter Try.func66, Try.ntmps66
  go_wp2
  go_loop [7, 8] (fun i j => i = .int .i64 0 ∧ j = .int .i64 20) (fun _ _ => 0)
  case atStart => exact ⟨rfl, rfl⟩
  case round =>
    obtain ⟨rfl, rfl⟩ := hrel
    go_wp2_with (go_at_call 77; refine HI.out.mono ?_; rintro e w' ⟨rfl, hr⟩; have HR := hid hr; clear hr)
    go_loopg [6, 7, 8, 9] 0 (fun gh s6 s7 s8 s9 wr => s6 = .int .i64 20 ∧ wr = w')
    case atStart => exact ⟨rfl, rfl⟩
    case round =>
      obtain ⟨rfl, rfl⟩ := hrel
      go_wp2
      go_end0
      exact ⟨rfl, HR.out.1, HR.out.2⟩
theorem sort_any (m : List (List Int)) (a : Option Addr) (cap gm g c : Nat) (wb w : World) (hm : RightM m) (h12 : m.length ≤ 19) (hl : RdM wb a m) (hgm : wb.cell? ⟨gm, 0, none⟩ = some (.slice a m.length cap)) (hw : Below wb.heap.size wb w)
    (hg : wb.heap.size ≤ g) (hd : BI w g (asI (List.range m.length))) :
    Calls Try.prog 45 #[.slice (some ⟨g, 0, none⟩) m.length c, .func (.func 46) #[] #[.pointer (some ⟨gm, 0, none⟩)]] w
      (fun e w' => e = .returned (.tuple #[]) ∧ Below wb.heap.size wb w' ∧ BI w' g (asI (orderL m))) := by
  have HI := hid (stable_any m a cap gm g c wb w hm h12 hl hgm hw hg hd)
  clear hm hl hgm hd
  go_enter Try.func45, Try.ntmps45
  go_wp2_with (go_at_call 66; refine HI.out.mono ?_; rintro e w' ⟨rfl, hr⟩; have HR := hid hr; clear hr)
  go_end0
  exact ⟨rfl, HR.out.1, HR.out.2⟩

theorem BI.of_row {w : World} {g n : Nat} (h : w.rowIs g 3 n (fun _ => .int .i64 0)) : BI w g (asI (List.replicate n 0)) := by
  obtain ⟨cur, hh, _, hc⟩ := h
  refine ⟨cur, hh, fun i hi => ?_⟩
  have hi' : i < n := by rw [asI_length, List.length_replicate] at hi; exact hi
  rw [hc i hi', asI_getElem _ (by rw [List.length_replicate]; exact hi'), List.getElem_replicate]
  rfl
/-- What a call returns: numbers of its own in a block of its own. -/
def BlkRet (l : List Int) (w : World) (e : Ending) (w' : World) : Prop := Below w.heap.size w w' ∧ ∃ g c, e = .returned (.slice (some ⟨g, 0, none⟩) l.length c) ∧ w.heap.size ≤ g ∧ BI w' g l
theorem range_put {k n : Nat} (h : k < n) : (asI (List.range k ++ List.replicate (n - k) 0)).set k (k : Nat) = asI (List.range (k + 1) ++ List.replicate (n - (k + 1)) 0) := by
  rw [show n - k = (n - (k + 1)) + 1 from by omega, List.replicate_succ, List.range_succ]
  unfold asI
  rw [List.map_append, List.set_append_right _ _ (by simp)]
  simp

set_option maxRecDepth 1000000 in
set_option maxHeartbeats 4000000 in
theorem order_any (m : List (List Int)) (a : Option Addr) (cap : Nat) (w : World) (hm : RightM m) (h12 : m.length ≤ 19) (hl : RdM w a m) :
    Calls Try.prog 21 #[.slice a m.length cap] w (BlkRet (asI (orderL m)) w) := by
  obtain ⟨i3, hi3, hz0, hz1, hz2⟩ := info_parts info3
  have HL := hid hl; clear hl
  have HM := hid hm; clear hm
  have HSO := hid (fun (wb w' : World) (hl : RdM wb a m) (gm : Nat) (hgm : wb.cell? ⟨gm, 0, none⟩ = some (.slice a m.length cap)) (hw : Below wb.heap.size wb w') (g : Nat) (hg : wb.heap.size ≤ g) (hd : BI w' g (asI (List.range m.length))) => sort_any m a cap gm g m.length wb w' HM.out h12 hl hgm hw hg hd)
  have HOL := hid (order_length HM.out)
  generalize hn : m.length = n at *
  have HN := hid hn
  clear hn
  go_enter Try.func21, Try.ntmps21
  go_upto_region 2 with (refine wpList_make_row _ rfl _ _ _ rfl 3 i3 _ Try.underlying33 hi3 hz0 hz1 rfl .i64 .i64 n rfl rfl (by rw [hz2]; omega) (by omega) ?_)
  have hgm : (w.alloc (.cells #[.slice a n cap] 28)).cell? ⟨w.heap.size, 0, none⟩ = some (.slice a n cap) := cell0_alloc _ _ _
  have HGM := hid hgm
  have HL1 := hid (HL.out.below (bnew w (.cells #[.slice a n cap] 28)))
  have HB1 := hid (bnew w (.cells #[.slice a n cap] 28))
  clear hgm
  generalize hw1 : w.alloc (.cells #[.slice a n cap] 28) = w1 at *
  have hs1 : w.heap.size + 1 = w1.heap.size := by rw [← hw1]; simp
  have hsw : w.heap.size < w1.heap.size := by omega
  have hrow : BI (w1.alloc (.cells (madeCells #[.int .i64 0] n) 3)) w1.heap.size (asI (List.replicate n 0)) := BI.of_row (World.rowIs_made w1 (.int .i64 0) n 3)
  have HROW := hid hrow
  have HB2 := hid (bnew w1 (.cells (madeCells #[.int .i64 0] n) 3))
  clear hrow
  generalize w1.alloc (.cells (madeCells #[.int .i64 0] n) 3) = w2 at *
  obtain ⟨g, hg⟩ : ∃ g, g = w1.heap.size := ⟨_, rfl⟩
  rw [hs1, ← hg]
  rw [← hg] at HROW
  have HGE := hid hg
  have HS1 := hid hs1
  clear hg hs1 hw1
  go_wp2
  go_loopg [10] n (fun gh s10 wr => ∃ k : Nat, k ≤ n ∧ gh = n - k ∧ s10 = .int .i64 k ∧ Hid (BI wr g (asI (List.range k ++ List.replicate (n - k) 0)) ∧ Below w1.heap.size w1 wr))
  case atStart => exact ⟨0, Nat.zero_le _, rfl, rfl, hid ⟨HROW.out, HB2.out⟩⟩
  case round =>
    obtain ⟨k, hk, rfl, rfl, HK⟩ := hrel
    by_cases hlt : k < n
    · have hlt' : (k : Int) < (n : Int) := by omega
      have hll : k < (asI (List.range k ++ List.replicate (n - k) 0)).length := by rw [asI_length]; simp; omega
      have c1 := HK.out.1.at hll
      have c2 := HK.out.1.frozen k
      generalize (asI (List.range k ++ List.replicate (n - k) 0))[k] = x0 at c1
      go_wp2
      go_roundg (n - (k + 1))
      case measure => omega
      case rel =>
        refine ⟨k + 1, by omega, rfl, by go_num, hid ⟨?_, HK.out.2.setCell (p := ⟨g, k, none⟩) (by rw [HGE.out]; exact Nat.le_refl _) _⟩⟩
        rw [← range_put hlt]
        exact HK.out.1.set hll (k : Nat)
    · have hkn : k = n := by omega
      subst hkn
      have hbi : BI wr g (asI (List.range k)) := by
        have := HK.out.1
        rwa [Nat.sub_self, List.replicate_zero, List.append_nil] at this
      have HBI := hid hbi
      clear hbi
      go_wp2_with (go_at_call 45; refine (HSO.out w1 wr HL1.out _ HGM.out HK.out.2 g (by rw [HGE.out]; exact Nat.le_refl _) HBI.out).mono ?_; rintro e w' ⟨rfl, hr1, hr2⟩; have HR := hid (And.intro hr1 hr2); clear hr1 hr2)
      go_ret
      refine ⟨HB1.out.step HR.out.1, g, k, ?_, by rw [HGE.out]; omega, HR.out.2⟩
      rw [asI_length, HOL.out]
      rfl


def c2 (p : Int × Int) : List Value := [.int .i64 p.1, .int .i64 p.2]
theorem c2_at (l : List (Int × Int)) (i : Nat) (h : i < l.length) (k : Nat) (hk : k < 2) : (l.flatMap c2)[i * 2 + k]? = (c2 l[i])[k]? := by
  induction l generalizing i with
  | nil => exact absurd h (Nat.not_lt_zero _)
  | cons x l ih =>
    rw [List.flatMap_cons, List.getElem?_append]
    have h5 : (c2 x).length = 2 := rfl
    rw [h5]
    cases i with
    | zero =>
      rw [if_pos (by omega), Nat.zero_mul, Nat.zero_add]
      rfl
    | succ i =>
      rw [if_neg (by omega), show (i + 1) * 2 + k - 2 = i * 2 + k by omega]
      exact ih i (by simpa using h)
theorem c2_length (l : List (Int × Int)) : (l.flatMap c2).length = l.length * 2 := by
  induction l with
  | nil => rfl
  | cons x l ih =>
    rw [List.flatMap_cons, List.length_append, ih, List.length_cons]
    have h5 : (c2 x).length = 2 := rfl
    omega
theorem c2_one (l : List (Int × Int)) : ∀ u ∈ l.flatMap c2, u.oneCell' = true := by
  intro u hu
  rw [List.mem_flatMap] at hu
  obtain ⟨x, _, hx⟩ := hu
  simp [c2] at hx
  rcases hx with rfl | rfl <;> rfl
/-- A pair of numbers at a place. -/
def PMat (w : World) (b o : Nat) (p : Int × Int) : Prop := w.cell? ⟨b, o, none⟩ = some (.int .i64 p.1) ∧ w.cell? ⟨b, o + 1, none⟩ = some (.int .i64 p.2)
/-- A list of pairs, read off a slice. -/
def RdP (w : World) (a : Option Addr) (l : List (Int × Int)) : Prop :=
  ∀ i (h : i < l.length), ∃ b off, a = some ⟨b, off, none⟩ ∧ b < w.heap.size ∧ PMat w b (off + i * 2) l[i]
theorem RdP.below {w w' : World} {a : Option Addr} {l : List (Int × Int)} (h : RdP w a l) (hb : Below w.heap.size w w') : RdP w' a l := by
  intro i hi
  obtain ⟨b, off, ha, hlt, h1, h2⟩ := h i hi
  exact ⟨b, off, ha, Nat.lt_of_lt_of_le hlt hb.size, cell_later hb h1, cell_later hb h2⟩
theorem RdP.nil (w : World) (a : Option Addr) : RdP w a [] := fun _ hi => absurd hi (Nat.not_lt_zero _)
theorem RdP.at {w : World} {a : Option Addr} {l : List (Int × Int)} (h : RdP w a l) {i : Nat} (hi : i < l.length) : ∃ b off, a = some ⟨b, off, none⟩ ∧ b < w.heap.size ∧ w.cell? ⟨b, off + i * 2, none⟩ = some (.int .i64 (l.getD i (-1, 0)).1) ∧ w.cell? ⟨b, off + i * 2 + 1, none⟩ = some (.int .i64 (l.getD i (-1, 0)).2) := by
  obtain ⟨b, off, h1, h2, h3⟩ := h i hi
  exact ⟨b, off, h1, h2, by rw [getD_in hi]; exact h3.1, by rw [getD_in hi]; exact h3.2⟩
theorem RdP.cells {w : World} {b off : Nat} {l : List (Int × Int)} (h : RdP w (some ⟨b, off, none⟩) l) : ∀ j u, (l.flatMap c2)[j]? = some u → w.cell? ((⟨b, off, none⟩ : Addr).add j) = some u := by
  intro j u hu
  have hj : j < l.length * 2 := by
    have := (List.getElem?_eq_some_iff.1 hu).1
    rw [c2_length] at this
    exact this
  have hi : j / 2 < l.length := by omega
  obtain ⟨b', off', e, hlt, h0, h1⟩ := h (j / 2) hi
  simp only [Option.some.injEq, Addr.mk.injEq, and_true] at e
  obtain ⟨rfl, rfl⟩ := e
  have hk : j % 2 < 2 := Nat.mod_lt _ (by decide)
  have ej : j = j / 2 * 2 + j % 2 := by omega
  have hc := c2_at l (j / 2) hi (j % 2) hk
  rw [← ej, hu] at hc
  have ea : ((⟨b, off, none⟩ : Addr).add j) = ⟨b, off + j / 2 * 2 + j % 2, none⟩ := by
    unfold Addr.add
    by_cases h0 : j = 0
    · subst h0; simp
    · simp [h0]; omega
  rw [ea]
  generalize j % 2 = k at *
  match k, hk with
  | 0, _ => simp [c2] at hc; rw [hc]; exact h0
  | 1, _ => simp [c2] at hc; rw [hc]; exact h1

/-- ts is a slice of T, and T is a struct of two numbers. -/
def PT (ts T : TypeId) : Prop := Try.prog.underlying ts = some (.slice T) ∧ (Try.prog.info? T).map (fun i => (i.zero, i.size, i.bytes)) = some (some (.agg #[.int .i64 0, .int .i64 0]), 2, 16)
theorem pt42 : PT 36 65 := ⟨Try.underlying36, by kernel_rfl⟩
theorem pt95 : PT 61 63 := ⟨Try.underlying61, by kernel_rfl⟩

/-- A slice of pairs of the call's own. -/
def OwnP (T : TypeId) (w : World) (base : Nat) (v : Value) (l : List (Int × Int)) : Prop := w.ownsRow base T 2 v l.length (l.flatMap c2)
theorem OwnP.nil (T : TypeId) (w : World) (base : Nat) : OwnP T w base (.slice none 0 0) [] := World.ownsRow_nil _ _ _ _
theorem OwnP.rd {T : TypeId} {w : World} {base : Nat} {v : Value} {l : List (Int × Int)} (h : OwnP T w base v l) : ∃ a cap, v = .slice a l.length cap ∧ RdP w a l := by
  obtain ⟨_, h⟩ := h
  rcases h with ⟨rfl, h0⟩ | ⟨g, cap, cur, rfl, hg, hh, h1, h2, h3, h4⟩
  · exact ⟨none, 0, by rw [h0], fun i hi => by omega⟩
  · refine ⟨_, cap, rfl, fun i hi => ⟨g, 0, rfl, lt_of_heap hh, ?_⟩⟩
    have key : ∀ k, k < 2 → w.cell? ⟨g, 0 + i * 2 + k, none⟩ = (c2 l[i])[k]? := by
      intro k hk
      rw [cell_of_row _ _ _ _ _ _ hh, Nat.zero_add]
      have e : (cur.toList.take (l.length * 2))[i * 2 + k]? = (l.flatMap c2)[i * 2 + k]? := by rw [h4]
      rw [List.getElem?_take, if_pos (by omega), c2_at l i hi k hk] at e
      rw [← e]
      simp
    exact ⟨key 0 (by decide), key 1 (by decide)⟩
theorem OwnP.later {T : TypeId} {w w' : World} {base : Nat} {v : Value} {l : List (Int × Int)} (h : OwnP T w base v l) (hb : Below w.heap.size w w') : OwnP T w' base v l := own_below h hb

theorem run_append_pairs {ts T : TypeId} (pt : PT ts T) (w : World) (base : Nat) (ty : TypeId) (v : Value) (l0 l : List (Int × Int)) (hown : OwnP T w base v l0) (a : Option Addr) (c : Nat) (hl : RdP w a l) (hs : l0.length + l.length ≤ 1000000) (hb : base ≤ w.heap.size) :
    ∃ v' w', (Builtin.append_ #[ts, ts] ty #[v, .slice a l.length c]).run Try.prog w = .ok v' w' ∧ OwnP T w' base v' (l0 ++ l) ∧ w.grownBy w' v.ownBlock ∧ (v'.ownBlock = v.ownBlock ∨ v'.ownBlock = some w.heap.size) := by
  obtain ⟨i4, hj4, hy0, hy1, hy2⟩ := info_parts pt.2
  cases a with
  | none =>
    have hl0 : l = [] := by
      cases l with
      | nil => rfl
      | cons x l =>
        obtain ⟨b, off, e, _⟩ := hl 0 (Nat.succ_pos _)
        cases e
    subst hl0
    refine ⟨v, w, ?_, by rw [List.append_nil]; exact hown, ⟨rfl, rfl, rfl, Nat.le_refl _, fun _ _ _ => rfl⟩, .inl rfl⟩
    rcases hown.2 with ⟨rfl, h0⟩ | ⟨g, cap, cur, rfl, _, _, hnc, _⟩
    · simp [Builtin.append_, run_underlying pt.1, sizeOf, typeInfo, hj4, Builtin.lenOf, Builtin.firstCells]
    · simp [Builtin.append_, run_underlying pt.1, sizeOf, typeInfo, hj4, Builtin.lenOf, Builtin.firstCells, hnc, storeCells]
  | some ad =>
    have hcells : ∀ j u, (l.flatMap c2)[j]? = some u → w.cell? (ad.add j) = some u := by
      cases l with
      | nil => intro j u hu; simp at hu
      | cons x l =>
        obtain ⟨b, off, e, _⟩ := hl 0 (Nat.succ_pos _)
        injection e with e
        subst e
        exact hl.cells
    obtain ⟨v', w', h1, h2, h3, _, h5⟩ := run_append_own_at (P := Try.prog) w base ts ty T i4 _ 2 16 pt.1 hj4 hy0 hy1 hy2 rfl (by decide) v l0.length (l0.flatMap c2) hown ad l.length c (l.flatMap c2) (c2_length l) hcells (c2_one l) (by unfold maxLen; omega) (by omega) hb
    refine ⟨v', w', h1, ?_, h3, h5⟩
    unfold OwnP
    rw [List.length_append, List.flatMap_append]
    exact h2
theorem wpList_append_pairs {ts T : TypeId} (pt : PT ts T) {ops : Array Oper} {rest : List Oper} {o : Oper} {a : Act} {Q : Exit → Act → World → Prop} (w : World) (hgd : o.guard = none) (s x : Operand)
    (ho : o.op = .call { callee := .builtin .append, args := #[s, x], argTypes := #[ts, ts] }) (base : Nat) (v : Value) (l0 l : List (Int × Int)) (hsv : a.eval s = v) (hown : OwnP T w base v l0) (A : Option Addr) (c : Nat) (hx : a.eval x = .slice A l.length c) (hl : RdP w A l) (hs : l0.length + l.length ≤ 1000000) (hb : base ≤ w.heap.size)
    (h : ∀ v' w', OwnP T w' base v' (l0 ++ l) → w.grownBy w' v.ownBlock → (v'.ownBlock = v.ownBlock ∨ v'.ownBlock = some w.heap.size) → wpList Try.prog ops Q rest (a.put o.dst v') w') : wpList Try.prog ops Q (o :: rest) a w := by
  refine wpList_plain hgd fun K hK => ?_
  obtain ⟨v', w', hrun, h2, h3, h4⟩ := run_append_pairs pt w base o.type v l0 l hown A c hl hs hb
  unfold Oper.wp execOp
  simp only [ho, resolve, invoke, builtin, Sem.run_bind, Sem.run_pure, Result.andThen_ok, List.map_toArray, List.map_cons, List.map_nil, hsv, hx, hrun]
  exact hK _ _ (h v' w' h2 h3 h4)
theorem OwnP.none {T : TypeId} {w : World} {base g : Nat} (hb : base ≤ g) (h : w.heap[g]? = some (.cells #[] T (0, 0))) : OwnP T w base (.slice (some ⟨g, 0, none⟩) 0 0) [] := ⟨rfl, .inr ⟨g, 0, #[], rfl, hb, h, Nat.le_refl _, Nat.zero_le _, rfl, rfl⟩⟩
theorem rdp_one (w : World) (x y : Int) (T : TypeId) : RdP (w.alloc (.cells #[.int .i64 x, .int .i64 y] T)) (some ⟨w.heap.size, 0, none⟩) [(x, y)] := by
  intro i hi
  obtain rfl : i = 0 := by simp at hi; exact hi
  obtain ⟨h1, h2, _⟩ := box2 (heapn w (.cells #[.int .i64 x, .int .i64 y] T) _ rfl)
  exact ⟨_, _, rfl, lt_alloc _ _, h1, h2⟩

/-- A slice of pairs: one that came in, full, or one of the call's own. -/
def PadP (T : TypeId) (w : World) (base : Nat) (v : Value) (l : List (Int × Int)) : Prop := (∃ a, v = .slice a l.length l.length ∧ RdP w a l) ∨ OwnP T w base v l
theorem PadP.rd {T : TypeId} {w : World} {base : Nat} {v : Value} {l : List (Int × Int)} (h : PadP T w base v l) : ∃ a cap, v = .slice a l.length cap ∧ RdP w a l := by
  rcases h with ⟨a, rfl, h⟩ | h
  · exact ⟨a, _, rfl, h⟩
  · exact h.rd
theorem PadP.later {T : TypeId} {w w' : World} {base : Nat} {v : Value} {l : List (Int × Int)} (h : PadP T w base v l) (hb : Below w.heap.size w w') : PadP T w' base v l := by
  rcases h with ⟨a, rfl, h⟩ | h
  · exact .inl ⟨a, rfl, h.below hb⟩
  · exact .inr (h.later hb)
theorem wpList_append_pad {ts T : TypeId} (pt : PT ts T) {ops : Array Oper} {rest : List Oper} {o : Oper} {a : Act} {Q : Exit → Act → World → Prop} (w : World) (hgd : o.guard = none) (s x : Operand)
    (ho : o.op = .call { callee := .builtin .append, args := #[s, x], argTypes := #[ts, ts] }) (base : Nat) (v : Value) (l0 : List (Int × Int)) (p : Int × Int) (hsv : a.eval s = v) (hown : PadP T w base v l0) (A : Addr) (c : Nat) (hx : a.eval x = .slice (some A) 1 c) (hl : RdP w (some A) [p]) (hs : l0.length ≤ 999999) (hb : base ≤ w.heap.size)
    (h : ∀ v' w', OwnP T w' base v' (l0 ++ [p]) → Below base w w' → wpList Try.prog ops Q rest (a.put o.dst v') w') : wpList Try.prog ops Q (o :: rest) a w := by
  rcases hown with ⟨ao, rfl, hr⟩ | hown
  · obtain ⟨i4, hj4, hy0, hy1, hy2⟩ := info_parts pt.2
    obtain ⟨b, off, e, _⟩ := hl 0 (Nat.succ_pos _)
    cases e
    refine wpList_append_grows w hgd s x ts ho T i4 _ 2 16 pt.1 hj4 hy0 hy1 hy2 rfl (by decide) ao l0.length l0.length (l0.flatMap c2) hsv ?_ (c2_length _) ?_ _ 1 c ([p].flatMap c2) hx rfl hl.cells (c2_one _) (by omega) (by unfold maxLen; omega) (by omega) ?_
    · intro e
      subst e
      cases l0 with
      | nil => exact ⟨rfl, rfl⟩
      | cons x l =>
        obtain ⟨b, off, e, _⟩ := hr 0 (Nat.succ_pos _)
        cases e
    · intro bb e
      subst e
      cases l0 with
      | nil => intro j u hu; simp at hu
      | cons x l =>
        obtain ⟨b', off', e, _⟩ := hr 0 (Nat.succ_pos _)
        cases e
        exact hr.cells
    · intro v' w' h1 h2
      refine h v' w' ?_ (Below.grown (Below.refl _ _) h2 hb (fun k hk => by cases hk))
      unfold OwnP
      rw [List.length_append, List.flatMap_append]
      exact own_base h1 hb
  · refine wpList_append_pairs pt w hgd s x ho base v l0 [p] hsv hown (some A) c hx hl (by simp; omega) hb ?_
    intro v' w' h1 h2 _
    exact h v' w' h1 (Below.grown (Below.refl _ _) h2 hb (own_ge hown))

/-- Block g holds the pairs L from its head on. -/
def BP (T : TypeId) (w : World) (g : Nat) (L : List (Int × Int)) : Prop := ∃ cur, w.heap[g]? = some (.cells cur T (0, 0)) ∧ ∀ i (h : i < L.length), ∀ j, j < 2 → cur[i * 2 + j]? = (c2 L[i])[j]?
theorem BP.of_own {T : TypeId} {w : World} {base : Nat} {v : Value} {L : List (Int × Int)} (h : OwnP T w base v L) (hne : L ≠ []) : ∃ g cap, v = .slice (some ⟨g, 0, none⟩) L.length cap ∧ base ≤ g ∧ BP T w g L := by
  rcases h.2 with ⟨_, h0⟩ | ⟨g, cap, cur, rfl, hg, hh, h1, h2, h3, h4⟩
  · exact absurd (List.length_eq_zero_iff.1 h0) hne
  · refine ⟨g, cap, rfl, hg, cur, hh, fun i hi j hj => ?_⟩
    have hlt : i * 2 + j < L.length * 2 := by omega
    rw [← c2_at L i hi j hj, ← h4, List.getElem?_take, if_pos hlt, Array.getElem?_toList]
theorem BP.at {T : TypeId} {w : World} {g : Nat} {L : List (Int × Int)} (h : BP T w g L) {i : Nat} (hi : i < L.length) : PMat w g (i * 2) L[i] := by
  obtain ⟨cur, hh, hc⟩ := h
  have key : ∀ j, j < 2 → w.cell? ⟨g, i * 2 + j, none⟩ = (c2 L[i])[j]? := fun j hj => by
    rw [cell_of_row _ _ _ _ _ _ hh]
    exact hc i hi j hj
  exact ⟨key 0 (by decide), key 1 (by decide)⟩
theorem BP.frozen {T : TypeId} {w : World} {g : Nat} {L : List (Int × Int)} (h : BP T w g L) (o : Nat) : w.frozen? ⟨g, o, none⟩ = false := by
  obtain ⟨cur, hh, _⟩ := h
  simp [World.frozen?, hh]
theorem BP.lt {T : TypeId} {w : World} {g : Nat} {L : List (Int × Int)} (h : BP T w g L) : g < w.heap.size := by
  obtain ⟨cur, hh, _⟩ := h
  exact lt_of_heap hh
theorem BP.rd {T : TypeId} {w : World} {g : Nat} {L : List (Int × Int)} (h : BP T w g L) : RdP w (some ⟨g, 0, none⟩) L := fun i hi => ⟨g, 0, rfl, h.lt, by rw [Nat.zero_add]; exact h.at hi⟩
theorem BP.below {T : TypeId} {w w' : World} {g : Nat} {L : List (Int × Int)} (h : BP T w g L) (hb : Below w.heap.size w w') : BP T w' g L := by
  obtain ⟨cur, hh, hc⟩ := h
  exact ⟨cur, keepBox hb hh, hc⟩
/-- A pair is written. -/
theorem BP.set {T : TypeId} {w : World} {g : Nat} {L : List (Int × Int)} (h : BP T w g L) {i : Nat} (hi : i < L.length) (x y : Int) :
    BP T ((w.setCell ⟨g, i * 2, none⟩ (.int .i64 x)).setCell ⟨g, i * 2 + 1, none⟩ (.int .i64 y)) g (L.set i (x, y)) := by
  obtain ⟨cur, hh, hc⟩ := h
  have hsz : ∀ j, j < 2 → i * 2 + j < cur.size := fun j hj => by
    have := hc i hi j hj
    rcases Nat.lt_or_ge (i * 2 + j) cur.size with h | h
    · exact h
    · rw [Array.getElem?_eq_none h] at this
      match j, hj with
      | 0, _ => cases this
      | 1, _ => cases this
  refine ⟨_, heap_setCell_same _ _ _ _ _ _ (heap_setCell_same _ _ _ _ _ _ hh), fun k hk j hj => ?_⟩
  have hk' : k < L.length := by simpa using hk
  have h4 := hsz 1 (by decide)
  by_cases e : k = i
  · subst e
    rw [List.getElem_set, if_pos rfl]
    match j, hj with
    | 0, _ => simp [Array.getElem?_setIfInBounds, c2]; omega
    | 1, _ => simp [Array.getElem?_setIfInBounds, c2]; omega
  · rw [List.getElem_set, if_neg (fun h => e h.symm), ← hc k hk' j hj]
    rw [Array.getElem?_setIfInBounds, if_neg (by omega), Array.getElem?_setIfInBounds, if_neg (by omega)]


theorem eq99 (a b c d : Int) (w : World) : (Op.equalIn 10000 65 (.agg #[.int .i64 a, .int .i64 b]) (.agg #[.int .i64 c, .int .i64 d])).run Try.prog w = .ok (decide ((a, b) = (c, d))) w := by
  have u3 := Try.underlying3
  have a3 := Try.isAgg3
  have z3 := Try.sizeOf3
  have hS : Try.prog.underlying 65 = some (.struct (Try.prog.fieldsOf 65)) := by kernel_rfl
  have hp : Try.prog.stoodInHeld 65 = false := by kernel_rfl
  rw [show (10000 : Nat) = 9999 + 1 from rfl, run_equalIn_agg w 9999 65 _ _ hS hp]
  simp only [Program.fieldsOf, Try.underlying65]
  go_simp
  by_cases h1 : a = c <;> by_cases h2 : b = d <;> simp [h1, h2]
theorem eql99 (a b c d : Int) (w : World) : (binOp .eql 65 (.agg #[.int .i64 a, .int .i64 b]) (.agg #[.int .i64 c, .int .i64 d])).run Try.prog w = .ok (.bool (decide ((a, b) = (c, d)))) w := by
  rw [run_eql_struct, eq99 a b c d]
  rfl
theorem g99 : Try.prog.eqGuardType Try.prog.depth 65 = false := by kernel_rfl

set_option maxRecDepth 100000 in
set_option maxHeartbeats 1000000 in
theorem none_any (w : World) : Calls Try.prog 34 #[] w (RetB (.agg #[.int .i64 (-1), .int .i64 0]) w) := by
  go_enter Try.func34, Try.ntmps34
  go_wp2
  exact bodyPost_ret (v := .agg #[.int .i64 (-1), .int .i64 0]) (by simp [results, Try.results34, go_sem]) rfl ⟨rfl, bnew _ _⟩

/-- What a cell is for a row: 0 free, 1 its own, 2 another's. -/
def kindV (C : List (Int × Int)) (p : Nat) (row : Int) : Int := if C.getD p (-1, 0) = (-1, 0) then 0 else if (C.getD p (-1, 0)).1 = row then 1 else 2

set_option maxRecDepth 100000 in
set_option maxHeartbeats 1000000 in
theorem kind_any (C : List (Int × Int)) (a : Option Addr) (cap p : Nat) (row : Int) (w : World) (hc : RdP w a C) (_hlen : C.length ≤ 1000000) (_hp : p ≤ 1000000) :
    Calls Try.prog 33 #[.slice a C.length cap, .int .i64 p, .int .i64 row] w (RetB (.int .i64 (kindV C p row)) w) := by
  have HC := hid hc; clear hc
  by_cases hlt : p < C.length
  · obtain ⟨b, off, rfl, hlt2, h1, h2⟩ := HC.out.at hlt
    have hge : decide (C.length ≤ p) = false := by simp; omega
    have hlt' : (p : Int) < (C.length : Int) := by omega
    obtain ⟨x, hx⟩ : ∃ x, x = C.getD p (-1, 0) := ⟨_, rfl⟩
    have hk : kindV C p row = if x = (-1, 0) then 0 else if x.1 = row then 1 else 2 := by unfold kindV; rw [← hx]
    rw [hk]
    rw [← hx] at h1 h2
    clear hk hx
    obtain ⟨x, y⟩ := x
    simp only at h1 h2 ⊢
    have HX := hid h1
    have HY := hid h2
    have q99 := fun w => eql99 x y (-1) 0 w
    have G99 := g99
    have HB := hid (Below.refl w.heap.size w)
    have hb := bdrew w
    by_cases hn : (x, y) = (-1, 0)
    · rw [if_pos hn]
      have hd : decide ((x, y) = ((-1 : Int), (0 : Int))) = true := decide_eq_true hn
      rw [hd] at q99
      clear hn hd h1 h2
      go_enter Try.func33, Try.ntmps33
      go_upto_region 1 with fail
      go_region_held3 (fun w' => w'.cell? ⟨b, off + p * 2, none⟩ = some (.int .i64 x) ∧ w'.cell? ⟨b, off + p * 2 + 1, none⟩ = some (.int .i64 y)) (first | exact ⟨HX.out, HY.out⟩ | exact ⟨cell_later hb HX.out, cell_later hb HY.out⟩)
        ((go_at_call 34; refine (none_any _).mono ?_; rintro e w9 ⟨rfl, hbb⟩; have hb := hb.step hbb; clear hbb))
      go_wp2
      go_ret
      exact ⟨rfl, hb⟩
    · rw [if_neg hn]
      have hd : decide ((x, y) = ((-1 : Int), (0 : Int))) = false := decide_eq_false hn
      rw [hd] at q99
      clear hn hd h1 h2
      go_enter Try.func33, Try.ntmps33
      go_upto_region 1 with fail
      go_region_held3 (fun w' => w'.cell? ⟨b, off + p * 2, none⟩ = some (.int .i64 x) ∧ w'.cell? ⟨b, off + p * 2 + 1, none⟩ = some (.int .i64 y)) (first | exact ⟨HX.out, HY.out⟩ | exact ⟨cell_later hb HX.out, cell_later hb HY.out⟩)
        ((go_at_call 34; refine (none_any _).mono ?_; rintro e w9 ⟨rfl, hbb⟩; have hb := hb.step hbb; clear hbb))
      have k1 := cell_later hb HX.out
      have k2 := cell_later hb HY.out
      have HBB := hid hb
      clear hb HX HY
      generalize hv : (if x = row then (1 : Int) else 2) = v at *
      have HV := hid hv
      clear hv
      go_wp2
      all_goals
        rename_i hxr
        go_ret
        refine ⟨ret_int ?_, HBB.out⟩
        rw [← HV.out]
        simp at hxr
        simp [hxr]
  · have hge : decide (C.length ≤ p) = true := by simp; omega
    have hk : kindV C p row = 0 := by unfold kindV; rw [List.getD_eq_getElem?_getD, List.getElem?_eq_none (by omega)]; rfl
    rw [hk]
    go_enter Try.func33, Try.ntmps33
    go_upto_region 1 with fail
    go_quiet (fail)
    go_wp2
    go_ret
    exact ⟨rfl, bdrewN (Below.refl _ _) _⟩


/-- A cell that belongs to no row is empty. -/
def Good (C : List (Int × Int)) : Prop := ∀ p, occ C p = false → C.getD p (-1, 0) = (-1, 0)
theorem kind_occ {C : List (Int × Int)} (h : Good C) (p : Nat) (row : Int) : ((kindV C p row != 0) : Bool) = occ C p := by
  unfold kindV
  cases ho : occ C p with
  | false => rw [h p ho]; rfl
  | true =>
    have : C.getD p (-1, 0) ≠ (-1, 0) := by
      intro e
      unfold occ at ho
      rw [e] at ho
      cases ho
    rw [if_neg this]
    split <;> rfl

set_option maxHeartbeats 1000000 in
theorem k82 (C : List (Int × Int)) (hg : Good C) (a : Option Addr) (cap s k : Nat) (idx : Int) (g1 g2 g3 : Nat) (w : World) (hc : RdP w a C) (hlen : C.length ≤ 100000) (hs : s ≤ 100000) (hk : k ≤ 100000)
    (c1 : w.cell? ⟨g1, 0, none⟩ = some (.slice a C.length cap)) (c2 : w.cell? ⟨g2, 0, none⟩ = some (.int .i64 s)) (c3 : w.cell? ⟨g3, 0, none⟩ = some (.int .i64 idx)) :
    Calls Try.prog 48 #[.int .i64 k, .pointer (some ⟨g1, 0, none⟩), .pointer (some ⟨g2, 0, none⟩), .pointer (some ⟨g3, 0, none⟩)] w (RetB (.bool (occ C (s + k))) w) := by
  have HO := hid (kind_occ hg (s + k) idx)
  have HK := hid (kind_any C a cap (s + k) idx w hc (by omega) (by omega))
  clear hc
  go_enter Try.func48, Try.ntmps48
  go_wp2_with (go_at_call 33; refine HK.out.mono ?_; rintro e w1 ⟨rfl, hb⟩; have HB := hid hb; clear hb)
  go_ret
  exact ⟨ret_bool HO.out, HB.out⟩

set_option maxHeartbeats 1000000 in
theorem index82 (C : List (Int × Int)) (hg : Good C) (a : Option Addr) (cap s : Nat) (idx : Int) (g1 g2 g3 : Nat) (l : List Nat) (al : Option Addr) (cl' : Nat) (w : World) (hc : RdP w a C) (hlen : C.length ≤ 100000) (hs : s ≤ 100000)
    (hl : RdI w al (asI l)) (hll : l.length ≤ 1000) (hk : ∀ k, k ∈ l → k ≤ 1000)
    (c1 : w.cell? ⟨g1, 0, none⟩ = some (.slice a C.length cap)) (c2 : w.cell? ⟨g2, 0, none⟩ = some (.int .i64 s)) (c3 : w.cell? ⟨g3, 0, none⟩ = some (.int .i64 idx)) :
    Calls Try.prog 53 #[.slice al l.length cl', .func (.func 48) #[] #[.pointer (some ⟨g1, 0, none⟩), .pointer (some ⟨g2, 0, none⟩), .pointer (some ⟨g3, 0, none⟩)]] w (RetB (.int .i64 (idxP (fun k => occ C (s + k)) l)) w) := by
  have HL := hid hl; clear hl
  have HC := hid hc; clear hc
  have HKK := hid hk; clear hk
  have HG := hid hg; clear hg
  have H1 := hid c1
  have H2 := hid c2
  have H3 := hid c3
  clear c1 c2 c3
  go_enter Try.func53, Try.ntmps53
  go_wp2
  go_loopw [8] (fun i wr => ∃ j : Nat, j ≤ l.length ∧ i = .int .i64 j ∧ Hid (∀ x, x ∈ l.take j → occ C (s + x) = false) ∧ Hid (Below w.heap.size w wr)) (fun i _ => l.length - (intOf i).toNat)
  case atStart => exact ⟨0, Nat.zero_le _, rfl, hid (by simp), hid (Below.refl _ _)⟩
  case round =>
    obtain ⟨j, hj, rfl, HQ, HB⟩ := hrel
    by_cases hlt : j < l.length
    · obtain ⟨b2, off, ha, hlt2, h1⟩ := HL.out.below HB.out j (by rw [asI_length]; exact hlt)
      rw [asI_getElem _ hlt] at h1
      subst ha
      have hkm := HKK.out l[j] (List.getElem_mem hlt)
      obtain ⟨k, hk⟩ : ∃ k, k = l[j] := ⟨_, rfl⟩
      rw [← hk] at h1 hkm
      have HK := hid hk
      clear hk
      have HCC := hid (k82 C HG.out a cap s k idx g1 g2 g3 wr (HC.out.below HB.out) hlen hs (by omega) (cell_later HB.out H1.out) (cell_later HB.out H2.out) (cell_later HB.out H3.out))
      generalize hoc : occ C (s + k) = oc at HCC
      have HOC := hid hoc
      clear hoc
      go_wp2_with (go_at_call 48; refine HCC.out.mono ?_; rintro e w2 ⟨rfl, hb⟩; have HB2 := hid (HB.out.step hb); clear hb)
      · have ht : oc = true := by assumption
        go_ret
        exact ⟨ret_int (idxP_some (p := fun k => occ C (s + k)) hlt (by show occ C (s + l[j]) = true; rw [← HK.out, HOC.out]; exact ht) HQ.out).symm, HB2.out⟩
      · have ht : oc = false := by assumption
        have HT := hid ht; clear ht
        go_roundw
        case rel =>
          refine ⟨j + 1, by omega, by go_num, hid ?_, HB2⟩
          intro x hx
          rw [take_last hlt, List.mem_append] at hx
          rcases hx with hx | hx
          · exact HQ.out x hx
          · rw [List.mem_singleton.1 hx, ← HK.out, HOC.out]; exact HT.out
        case measure => simp [intOf]; omega
    · go_wp2
      go_ret
      exact ⟨ret_int (idxP_none (p := fun k => occ C (s + k)) (fun x hx => HQ.out x (by rw [List.take_of_length_le (by omega)]; exact hx))).symm, HB.out⟩

set_option maxHeartbeats 1000000 in
theorem some82 (C : List (Int × Int)) (hg : Good C) (a : Option Addr) (cap s : Nat) (idx : Int) (g1 g2 g3 : Nat) (l : List Nat) (al : Option Addr) (cl' : Nat) (w : World) (hc : RdP w a C) (hlen : C.length ≤ 100000) (hs : s ≤ 100000)
    (hl : RdI w al (asI l)) (hll : l.length ≤ 1000) (hk : ∀ k, k ∈ l → k ≤ 1000)
    (c1 : w.cell? ⟨g1, 0, none⟩ = some (.slice a C.length cap)) (c2 : w.cell? ⟨g2, 0, none⟩ = some (.int .i64 s)) (c3 : w.cell? ⟨g3, 0, none⟩ = some (.int .i64 idx)) :
    Calls Try.prog 29 #[.slice al l.length cl', .func (.func 48) #[] #[.pointer (some ⟨g1, 0, none⟩), .pointer (some ⟨g2, 0, none⟩), .pointer (some ⟨g3, 0, none⟩)]] w (RetB (.bool (l.any fun k => occ C (s + k))) w) := by
  have HI := hid (index82 C hg a cap s idx g1 g2 g3 l al cl' w hc hlen hs hl hll hk c1 c2 c3)
  have HX := hid (idxP_any (fun k => occ C (s + k)) l)
  clear hg hc hl hk c1 c2 c3
  go_enter Try.func29, Try.ntmps29
  go_wp2_with (go_at_call 53; refine HI.out.mono ?_; rintro e w1 ⟨rfl, hb⟩; have HB := hid hb; clear hb)
  go_ret
  exact ⟨ret_bool HX.out, HB.out⟩

theorem fits_any' (C : List (Int × Int)) (row : List Int) (s : Nat) : (!(fullL row).any fun k => occ C (s + k)) = fitsB C row s := by
  rw [fits_occ, List.all_eq_not_any_not]
  simp

set_option maxHeartbeats 1000000 in
theorem fits_any (C : List (Int × Int)) (hg : Good C) (a : Option Addr) (cap s : Nat) (idx : Int) (gl g1 g3 : Nat) (row : List Int) (hrow : row.length ≤ 1000) (al : Option Addr) (cl' : Nat) (w : World) (hc : RdP w a C) (hlen : C.length ≤ 100000) (hs : s ≤ 100000)
    (hl : RdI w al (asI (fullL row)))
    (c0 : w.cell? ⟨gl, 0, none⟩ = some (.slice al (fullL row).length cl')) (c1 : w.cell? ⟨g1, 0, none⟩ = some (.slice a C.length cap)) (c3 : w.cell? ⟨g3, 0, none⟩ = some (.int .i64 idx)) :
    Calls Try.prog 47 #[.int .i64 s, .pointer (some ⟨gl, 0, none⟩), .pointer (some ⟨g1, 0, none⟩), .pointer (some ⟨g3, 0, none⟩)] w (RetB (.bool (fitsB C row s)) w) := by
  have HF := hid (fits_any' C row s)
  have hb1 := bnew w (.cells #[.int .i64 s] 3)
  have HI := hid (some82 C hg a cap s idx g1 w.heap.size g3 (fullL row) al cl' (w.alloc (.cells #[.int .i64 s] 3)) (hc.below hb1) hlen hs (hl.below hb1) (Nat.le_trans (manyN_le row) hrow) (fun k hk => by have := (mem_fullL.1 hk).1; omega) (cell_later hb1 c1) (cell0_alloc _ _ _) (cell_later hb1 c3))
  have HB1 := hid hb1
  have c0' := cell_later hb1 c0
  clear hg hc hl c0 c1 c3 hb1
  go_enter Try.func47, Try.ntmps47
  go_wp2_with (go_at_call 29; refine HI.out.mono ?_; rintro e w1 ⟨rfl, hb⟩; have HB := hid (HB1.out.step hb); clear hb)
  go_ret
  exact ⟨ret_bool HF.out, HB.out⟩


def OwnRetP (T : TypeId) (l : List (Int × Int)) (w : World) (e : Ending) (w' : World) : Prop := Below w.heap.size w w' ∧ ∃ v, e = .returned v ∧ OwnP T w' w.heap.size v l

set_option maxRecDepth 100000 in
set_option maxHeartbeats 1000000 in
theorem clone63 (L : List (Int × Int)) (a : Option Addr) (cap : Nat) (w : World) (hl : RdP w a L) (hlen : L.length ≤ 100000) :
    Calls Try.prog 32 #[.slice a L.length cap] w (OwnRetP 65 L w) := by
  have HL := hid hl; clear hl
  cases a with
  | none =>
    have hn : L = [] := by
      cases L with
      | nil => rfl
      | cons x l =>
        obtain ⟨b, off, e, _⟩ := HL.out 0 (Nat.succ_pos _)
        cases e
    subst hn
    have hq := fun (w : World) (a : Option Addr) (n c : Nat) => Lib.run_eql_slice_nil (P := Try.prog) w 36 65 a n c 0 0 Try.underlying36
    go_enter Try.func32, Try.ntmps32
    go_wp2
    go_ret
    exact ⟨Below.refl _ _, _, rfl, OwnP.nil _ _ _⟩
  | some a =>
    have hq := fun (w : World) (a : Option Addr) (n c : Nat) => Lib.run_eql_slice_nil (P := Try.prog) w 36 65 a n c 0 0 Try.underlying36
    go_enter Try.func32, Try.ntmps32
    go_wp2_with (at_builtin; refine wpList_append_pairs pt42 _ rfl _ _ rfl w.heap.size _ [] L rfl (OwnP.none (Nat.le_refl _) (heapn _ _ _ rfl)) (some a) cap rfl (HL.out.below (bnew _ _)) (by simp; omega) (by simp) ?_; intro v' w3 hown' hgrow hnil; have HG := hid hgrow; have HO := hid hown'; clear hgrow hown' hnil)
    go_ret
    exact ⟨(bnew _ _).grown HG.out (by simp) (own_ge (OwnP.none (T := 65) (base := w.heap.size) (w := w.alloc (.cells #[] 65)) (Nat.le_refl _) (heapn _ _ _ rfl))), _, rfl, by simpa using HO.out⟩
set_option maxRecDepth 100000 in
set_option maxHeartbeats 1000000 in
theorem clone62 (L : List Int) (a : Option Addr) (cap : Nat) (w : World) (hl : RdI w a L) (hlen : L.length ≤ 100000) :
    Calls Try.prog 19 #[.slice a L.length cap] w (OwnRet L w) := by
  have HL := hid hl; clear hl
  cases a with
  | none =>
    have hn : L = [] := by
      cases L with
      | nil => rfl
      | cons x l =>
        obtain ⟨b, off, e, _⟩ := HL.out 0 (Nat.succ_pos _)
        cases e
    subst hn
    have hq := fun (w : World) (a : Option Addr) (n c : Nat) => Lib.run_eql_slice_nil (P := Try.prog) w 33 3 a n c 0 0 Try.underlying33
    go_enter Try.func19, Try.ntmps19
    go_wp2
    go_ret
    exact ⟨Below.refl _ _, _, rfl, World.ownsRow_nil _ _ _ _⟩
  | some a =>
    have hq := fun (w : World) (a : Option Addr) (n c : Nat) => Lib.run_eql_slice_nil (P := Try.prog) w 33 3 a n c 0 0 Try.underlying33
    go_enter Try.func19, Try.ntmps19
    go_wp2_with (at_builtin; refine wpList_append_ints _ rfl _ _ rfl w.heap.size _ [] L rfl (OwnI.none (Nat.le_refl _) (heapn _ _ _ rfl)) (some a) cap rfl (HL.out.below (bnew _ _)) (by simp; omega) (by simp) ?_; intro v' w3 hown' hgrow hnil; have HG := hid hgrow; have HO := hid hown'; clear hgrow hown' hnil)
    go_ret
    exact ⟨(bnew _ _).grown HG.out (by simp) (own_ge (OwnI.none (base := w.heap.size) (w := w.alloc (.cells #[] 3)) (Nat.le_refl _) (heapn _ _ _ rfl))), _, rfl, by simpa using HO.out⟩
end Go.Proofs.Ytecpkjhfbmchgaa
