/- Reads and Writes of package core. Slices whose elements have any number of cells: read off, of the call's own, appended, cloned. IndexFunc and ContainsFunc over any function value: numbers and guards. -/
import Derived.Test.YtgalekifgnecjaaGreatV1
import Derived.Lib.QuietBelow
import Derived.OwnWalkIn
namespace Go.Proofs.YtgalekifgnecjaaGreat
open Go.RowKit


theorem form_shape : ∀ f, f ∈ formT → (f.r0 = 0 ∨ f.r0 = 1 ∨ f.r0 = 2) ∧ (f.r1 = 0 ∨ f.r1 = 3) ∧ (f.wr = 0 ∨ f.wr = 1) := by decide
theorem formL_shape (op : Int) : ((formL op).r0 = 0 ∨ (formL op).r0 = 1 ∨ (formL op).r0 = 2) ∧ ((formL op).r1 = 0 ∨ (formL op).r1 = 3) ∧ ((formL op).wr = 0 ∨ (formL op).wr = 1) := by
  unfold formL
  split
  · rw [List.getD_eq_getElem?_getD]
    cases h : formT[op.toNat]? with
    | none => exact form_shape form0 (by simp [formT])
    | some f => exact form_shape f (List.mem_of_getElem? h)
  · exact form_shape form0 (by simp [formT])
def rdU (f : FormN) (i : InsN) (k : Nat) : List Int := match k with | 0 => [] | 1 => readPart i f.r0 | _ => readPart i f.r0 ++ readPart i f.r1
theorem readPart_len (i : InsN) (k : Int) : (readPart i k).length ≤ 1 := by unfold readPart; split <;> simp
theorem rdU_len (f : FormN) (i : InsN) (k : Nat) : (rdU f i k).length ≤ 2 := by
  have h0 := readPart_len i f.r0
  have h1 := readPart_len i f.r1
  unfold rdU
  split <;> simp <;> omega
theorem readPart_no {i : InsN} {k : Int} (h : k ≤ 0 ∨ partN i (k - 1).toNat = -1) : readPart i k = [] := by
  unfold readPart
  rw [if_neg]
  intro ⟨h1, h2⟩
  rcases h with h | h
  · omega
  · exact h2 h
theorem readPart_yes {i : InsN} {k : Int} (h : 0 < k) (h2 : partN i (k - 1).toNat ≠ -1) : readPart i k = [partN i (k - 1).toNat] := if_pos ⟨h, h2⟩
theorem idx167_0 (x y z : Int) (w : World) : (Instr.index 167 (.agg #[.int .i64 x, .int .i64 y, .int .i64 z]) (.int .i64 0)).run Tryz.prog w = .ok (.int .i64 x) w := by kernel_rfl
theorem idx167_1 (x y z : Int) (w : World) : (Instr.index 167 (.agg #[.int .i64 x, .int .i64 y, .int .i64 z]) (.int .i64 1)).run Tryz.prog w = .ok (.int .i64 y) w := by kernel_rfl
theorem idx167_2 (x y z : Int) (w : World) : (Instr.index 167 (.agg #[.int .i64 x, .int .i64 y, .int .i64 z]) (.int .i64 2)).run Tryz.prog w = .ok (.int .i64 z) w := by kernel_rfl
theorem idx48_0 (x y : Int) (w : World) : (Instr.index 48 (.agg #[.int .i64 x, .int .i64 y]) (.int .i64 0)).run Tryz.prog w = .ok (.int .i64 x) w := by kernel_rfl
theorem idx48_1 (x y : Int) (w : World) : (Instr.index 48 (.agg #[.int .i64 x, .int .i64 y]) (.int .i64 1)).run Tryz.prog w = .ok (.int .i64 y) w := by kernel_rfl
set_option maxRecDepth 100000 in
set_option maxHeartbeats 4000000 in
theorem reads_any (i : InsN) (w : World) : Calls Tryz.prog 70 #[vI i] w (OwnRet (readsL i) w) := by
  have HF := hid (formOf_any i.op)
  have HPL : Hid (readsL i = rdU (formL i.op) i 2) := hid rfl
  have HPA := hid (fun w => parts_any i w)
  obtain ⟨hs0, hs1, -⟩ := formL_shape i.op
  have H0 := hid hs0; have H1 := hid hs1; clear hs0 hs1
  have HOK : Hid (opOk i.op = false → (formL i.op).r0 = 0 ∧ (formL i.op).r1 = 0) := hid (fun h => by unfold formL; rw [h]; exact ⟨rfl, rfl⟩)
  generalize formL i.op = f at *
  generalize opOk i.op = ok at *
  have HX0 := hid (idx48_0 f.r0 f.r1)
  have HX2 := hid (idx48_1 f.r0 f.r1)
  have hy0 := idx167_0 i.a i.b i.c
  have hy1 := idx167_1 i.a i.b i.c
  have hy2 := idx167_2 i.a i.b i.c
  have HX1 := hid (heapn w (.cells #[.int .i64 i.op, .int .i64 i.a, .int .i64 i.b, .int .i64 i.c] 85) _ rfl)
  have HB := hid (bnew w (.cells #[.int .i64 i.op, .int .i64 i.a, .int .i64 i.b, .int .i64 i.c] 85))
  go_enter Tryz.func70, Tryz.ntmps70
  go_upto_region 4 with (go_at_call 139; (with_reducible refine (HF.out _).mono ?_); rintro e w1 ⟨rfl, hb⟩; replace HX1 := hid (keepBox (hb.step (bnew w1 (.cells (cF f) 186))) HX1.out); replace HB := hid (HB.out.step (hb.step (bnew w1 (.cells (cF f) 186)))); clear hb)
  obtain ⟨w2, hw2⟩ : ∃ w2, w2 = w1.alloc (.cells (cF f) 186) := ⟨_, rfl⟩
  have e2 : w1.alloc (.cells #[.string ⟨f.name⟩, .int .i64 f.h0, .int .i64 f.h1, .int .i64 f.h2, .int .i64 f.wr, .int .i64 f.r0, .int .i64 f.r1, .bool f.rs, .bool f.en] 186) = w2 := hw2.symm
  rw [e2] at HX1 HB
  rw [e2]
  clear e2 hw2
  go_loopg [5, 16] 2 (fun gh s5 s16 wr => ∃ k : Nat, k ≤ 2 ∧ gh = 2 - k ∧ s16 = .int .i64 k ∧ Hid (OwnI wr w2.heap.size s5 (rdU f i k) ∧ Below w2.heap.size w2 wr))
  case atStart => exact ⟨0, Nat.zero_le _, rfl, rfl, hid ⟨World.ownsRow_nil _ _ _ _, Below.refl _ _⟩⟩
  case round =>
    obtain ⟨k, hk, rfl, rfl, HK⟩ := hrel
    have hlen := rdU_len f i k
    have hsz := HK.out.2.size
    obtain ⟨k0, k1, k2, k3⟩ := box4 (keepBox HK.out.2 HX1.out)
    by_cases hlt : k < 2
    · cases ok with
      | false =>
        obtain ⟨z0, z1⟩ := HOK.out rfl
        have HE : Hid (rdU f i (k + 1) = rdU f i k) := hid (by rcases (show k = 0 ∨ k = 1 by omega) with rfl | rfl <;> simp [rdU, readPart_no (k := f.r0) (i := i) (.inl (by omega)), readPart_no (k := f.r1) (i := i) (.inl (by omega))])
        have hx0 : ∀ w, (Instr.index 48 (.agg #[.int .i64 f.r0, .int .i64 f.r1]) (.int .i64 0)).run Tryz.prog w = .ok (.int .i64 0) w := fun w => by rw [HX0.out, z0]
        have hx1 : ∀ w, (Instr.index 48 (.agg #[.int .i64 f.r0, .int .i64 f.r1]) (.int .i64 1)).run Tryz.prog w = .ok (.int .i64 0) w := fun w => by rw [HX2.out, z1]
        clear z0 z1
        rcases (show k = 0 ∨ k = 1 by omega) with rfl | rfl
        · rw [show ((0 : Nat) : Int) = 0 from rfl]
          go_wp2_with fail
          go_roundg (2 - (0 + 1))
          case measure => omega
          case rel => exact ⟨0 + 1, by omega, rfl, rfl, hid ⟨by rw [HE.out]; exact HK.out.1, HK.out.2⟩⟩
        · rw [show ((1 : Nat) : Int) = 1 from rfl]
          go_wp2_with fail
          go_roundg (2 - (1 + 1))
          case measure => omega
          case rel => exact ⟨1 + 1, by omega, rfl, rfl, hid ⟨by rw [HE.out]; exact HK.out.1, HK.out.2⟩⟩
      | true =>
        clear HOK
        rcases (show k = 0 ∨ k = 1 by omega) with rfl | rfl
        · rw [show ((0 : Nat) : Int) = 0 from rfl]
          have HR := H0.out
          have HS : Hid (∀ q, f.r0 = q → rdU f i (0 + 1) = readPart i q) := hid (fun q e => by rw [← e]; rfl)
          have HXX : Hid (∀ q, f.r0 = q → ∀ w, (Instr.index 48 (.agg #[.int .i64 f.r0, .int .i64 f.r1]) (.int .i64 0)).run Tryz.prog w = .ok (.int .i64 q) w) := hid (fun q e w => by rw [HX0.out, e])
          rcases HR with e | e | e
          all_goals have hx0 := HXX.out _ e
          all_goals replace HS := hid (HS.out _ e)
          all_goals clear e HXX
          · have HE := hid (HS.out.trans (readPart_no (.inl (by omega))))
            clear HS
            go_wp2_with fail
            go_roundg (2 - (0 + 1))
            case measure => omega
            case rel => exact ⟨0 + 1, by omega, rfl, rfl, hid ⟨by rw [HE.out]; exact HK.out.1, HK.out.2⟩⟩
          · by_cases hn : i.a = -1
            · have d : (i.a != -1) = false := by rw [hn]; rfl
              have HE := hid (HS.out.trans (readPart_no (.inr hn)))
              clear HS hn
              go_wp2_with (go_at_call 140; (with_reducible refine (HPA.out _).mono ?_); rintro e w4 ⟨rfl, hb4⟩; have HB4 := hid hb4; clear hb4)
              go_roundg (2 - (0 + 1))
              case measure => omega
              case rel => exact ⟨0 + 1, by omega, rfl, rfl, hid ⟨by rw [HE.out]; exact HK.out.1.later HB4.out, HK.out.2.step HB4.out⟩⟩
            · have d : (i.a != -1) = true := by simpa using hn
              have HE := hid (HS.out.trans (readPart_yes (by omega) hn))
              clear HS hn
              go_wp2_with (first
                | (go_at_call 140; (with_reducible refine (HPA.out _).mono ?_); rintro e w4 ⟨rfl, hb4⟩; have HB4 := hid hb4; have hsz4 := hb4.size; replace HK := hid (And.intro (HK.out.1.later hb4) (HK.out.2.step hb4)); obtain ⟨k0, k1, k2, k3⟩ := box4 (keepBox HK.out.2 HX1.out); have hsz := HK.out.2.size; clear hb4)
                | (at_builtin; refine wpList_append_ints _ rfl _ _ rfl w2.heap.size _ _ [i.a] rfl (OwnI.later HK.out.1 (bnew _ _)) (some ⟨_, 0, none⟩) 1 rfl (rd_one _ _ _) (by simp [rdU]) (by simp; omega) ?_; intro v' w5 hown' hgrow hnil))
              go_roundg (2 - (0 + 1))
              case measure => omega
              case rel => exact ⟨0 + 1, by omega, rfl, rfl, hid ⟨by rw [HE.out]; exact hown', ((HK.out.2).alloc (by omega) _).grown hgrow (by simp; omega) (own_ge HK.out.1)⟩⟩
          · by_cases hn : i.b = -1
            · have d : (i.b != -1) = false := by rw [hn]; rfl
              have HE := hid (HS.out.trans (readPart_no (.inr hn)))
              clear HS hn
              go_wp2_with (go_at_call 140; (with_reducible refine (HPA.out _).mono ?_); rintro e w4 ⟨rfl, hb4⟩; have HB4 := hid hb4; clear hb4)
              go_roundg (2 - (0 + 1))
              case measure => omega
              case rel => exact ⟨0 + 1, by omega, rfl, rfl, hid ⟨by rw [HE.out]; exact HK.out.1.later HB4.out, HK.out.2.step HB4.out⟩⟩
            · have d : (i.b != -1) = true := by simpa using hn
              have HE := hid (HS.out.trans (readPart_yes (by omega) hn))
              clear HS hn
              go_wp2_with (first
                | (go_at_call 140; (with_reducible refine (HPA.out _).mono ?_); rintro e w4 ⟨rfl, hb4⟩; have HB4 := hid hb4; have hsz4 := hb4.size; replace HK := hid (And.intro (HK.out.1.later hb4) (HK.out.2.step hb4)); obtain ⟨k0, k1, k2, k3⟩ := box4 (keepBox HK.out.2 HX1.out); have hsz := HK.out.2.size; clear hb4)
                | (at_builtin; refine wpList_append_ints _ rfl _ _ rfl w2.heap.size _ _ [i.b] rfl (OwnI.later HK.out.1 (bnew _ _)) (some ⟨_, 0, none⟩) 1 rfl (rd_one _ _ _) (by simp [rdU]) (by simp; omega) ?_; intro v' w5 hown' hgrow hnil))
              go_roundg (2 - (0 + 1))
              case measure => omega
              case rel => exact ⟨0 + 1, by omega, rfl, rfl, hid ⟨by rw [HE.out]; exact hown', ((HK.out.2).alloc (by omega) _).grown hgrow (by simp; omega) (own_ge HK.out.1)⟩⟩
        · rw [show ((1 : Nat) : Int) = 1 from rfl]
          have HR := H1.out
          have HS : Hid (∀ q, f.r1 = q → rdU f i (1 + 1) = rdU f i 1 ++ readPart i q) := hid (fun q e => by rw [← e]; rfl)
          have HXX : Hid (∀ q, f.r1 = q → ∀ w, (Instr.index 48 (.agg #[.int .i64 f.r0, .int .i64 f.r1]) (.int .i64 1)).run Tryz.prog w = .ok (.int .i64 q) w) := hid (fun q e w => by rw [HX2.out, e])
          have hl1 : (rdU f i 1).length ≤ 1 := readPart_len i f.r0
          rcases HR with e | e
          all_goals have hx1 := HXX.out _ e
          all_goals replace HS := hid (HS.out _ e)
          all_goals clear e HXX
          · have HE : Hid (rdU f i (1 + 1) = rdU f i 1) := hid (by rw [HS.out, readPart_no (i := i) (k := 0) (.inl (by omega)), List.append_nil])
            clear HS
            go_wp2_with fail
            go_roundg (2 - (1 + 1))
            case measure => omega
            case rel => exact ⟨1 + 1, by omega, rfl, rfl, hid ⟨by rw [HE.out]; exact HK.out.1, HK.out.2⟩⟩
          · by_cases hn : i.c = -1
            · have d : (i.c != -1) = false := by rw [hn]; rfl
              have HE : Hid (rdU f i (1 + 1) = rdU f i 1) := hid (by rw [HS.out, readPart_no (i := i) (k := 3) (.inr hn), List.append_nil])
              clear HS hn
              go_wp2_with (go_at_call 140; (with_reducible refine (HPA.out _).mono ?_); rintro e w4 ⟨rfl, hb4⟩; have HB4 := hid hb4; clear hb4)
              go_roundg (2 - (1 + 1))
              case measure => omega
              case rel => exact ⟨1 + 1, by omega, rfl, rfl, hid ⟨by rw [HE.out]; exact HK.out.1.later HB4.out, HK.out.2.step HB4.out⟩⟩
            · have d : (i.c != -1) = true := by simpa using hn
              have HE : Hid (rdU f i (1 + 1) = rdU f i 1 ++ [i.c]) := hid (by rw [HS.out, readPart_yes (i := i) (k := 3) (by omega) hn]; rfl)
              clear HS hn
              go_wp2_with (first
                | (go_at_call 140; (with_reducible refine (HPA.out _).mono ?_); rintro e w4 ⟨rfl, hb4⟩; have HB4 := hid hb4; have hsz4 := hb4.size; replace HK := hid (And.intro (HK.out.1.later hb4) (HK.out.2.step hb4)); obtain ⟨k0, k1, k2, k3⟩ := box4 (keepBox HK.out.2 HX1.out); have hsz := HK.out.2.size; clear hb4)
                | (at_builtin; refine wpList_append_ints _ rfl _ _ rfl w2.heap.size _ _ [i.c] rfl (OwnI.later HK.out.1 (bnew _ _)) (some ⟨_, 0, none⟩) 1 rfl (rd_one _ _ _) (by simp; omega) (by simp; omega) ?_; intro v' w5 hown' hgrow hnil))
              go_roundg (2 - (1 + 1))
              case measure => omega
              case rel => exact ⟨1 + 1, by omega, rfl, rfl, hid ⟨by rw [HE.out]; exact hown', ((HK.out.2).alloc (by omega) _).grown hgrow (by simp; omega) (own_ge HK.out.1)⟩⟩
    · obtain rfl : k = 2 := by omega
      go_wp2_with fail
      go_ret
      exact ⟨HB.out.step HK.out.2, _, rfl, by rw [HPL.out]; exact HK.out.1.mono HB.out.size⟩

set_option maxRecDepth 100000 in
set_option maxHeartbeats 2000000 in
theorem writes_any (i : InsN) (w : World) : Calls Tryz.prog 71 #[vI i] w (RetB (.int .i64 (writesI i)) w) := by
  have HF := hid (formOf_any i.op)
  have HPL : Hid (writesI i = if (formL i.op).wr = 0 then -1 else partN i ((formL i.op).wr - 1).toNat) := hid rfl
  have HPA := hid (fun w => parts_any i w)
  obtain ⟨-, -, hs⟩ := formL_shape i.op
  have HS := hid hs; clear hs
  generalize writesI i = r at *
  generalize formL i.op = f at *
  generalize opOk i.op = ok at *
  have hy0 := idx167_0 i.a i.b i.c
  have HX1 := hid (heapn w (.cells #[.int .i64 i.op, .int .i64 i.a, .int .i64 i.b, .int .i64 i.c] 85) _ rfl)
  have HB := hid (bnew w (.cells #[.int .i64 i.op, .int .i64 i.a, .int .i64 i.b, .int .i64 i.c] 85))
  rcases HS.out with e | e
  · have d : (f.wr == 0) = true := by rw [e]; rfl
    have HE := hid (HPL.out.trans (if_pos e))
    clear e
    go_enter Tryz.func71, Tryz.ntmps71
    go_wp2_with (go_at_call 139; (with_reducible refine (HF.out _).mono ?_); rintro e w1 ⟨rfl, hb⟩; replace HB := hid (HB.out.step (hb.step (bnew w1 (.cells (cF f) 186)))); clear hb)
    go_ret
    exact ⟨ret_int HE.out.symm, HB.out⟩
  · have d : (f.wr == 0) = false := by rw [e]; rfl
    have HE : Hid (r = i.a) := hid (by rw [HPL.out, e]; rfl)
    have HW := hid e
    clear e
    go_enter Tryz.func71, Tryz.ntmps71
    go_wp2_with (go_at_call 139; (with_reducible refine (HF.out _).mono ?_); rintro e w1 ⟨rfl, hb⟩; replace HX1 := hid (keepBox (hb.step (bnew w1 (.cells (cF f) 186))) HX1.out); replace HB := hid (HB.out.step (hb.step (bnew w1 (.cells (cF f) 186)))); have HX2 := hid (heapn w1 (.cells (cF f) 186) _ rfl); clear hb)
    obtain ⟨w2, hw2⟩ : ∃ w2, w2 = w1.alloc (.cells (cF f) 186) := ⟨_, rfl⟩
    have e2 : w1.alloc (.cells #[.string ⟨f.name⟩, .int .i64 f.h0, .int .i64 f.h1, .int .i64 f.h2, .int .i64 f.wr, .int .i64 f.r0, .int .i64 f.r1, .bool f.rs, .bool f.en] 186) = w2 := hw2.symm
    have e3 : w1.alloc (.cells (cF f) 186) = w2 := hw2.symm
    rw [e3] at HX1 HB HX2
    rw [e2]
    clear e2 e3 hw2
    obtain ⟨k0, k1, k2, k3⟩ := box4 HX1.out
    have kw : w2.cell? ⟨w1.heap.size, 4, none⟩ = some (.int .i64 1) := by rw [(cell_of_row _ _ 4 _ _ _ HX2.out)]; show some (Value.int .i64 f.wr) = _; rw [HW.out]
    have q0 := fun d os => cell_regrown k0 d os
    have q1 := fun d os => cell_regrown k1 d os
    have q2 := fun d os => cell_regrown k2 d os
    have q3 := fun d os => cell_regrown k3 d os
    have qw := fun d os => cell_regrown kw d os
    refine wp_region_quiet_below (by kernel_rfl) (by kernel_rfl) ?_
    repeat (go_big_quiet_step ((go_at_call 140; exact Calls.regrown_of (HPA.out _))))
    refine wpQuiet_nil ?_
    rintro _ ⟨p9, rfl⟩
    have hb := below_regrown w2 p9.d p9.os
    generalize Go.Sort.grow (redrawn w2 p9.d) p9.os = wq at *
    go_wp2
    go_ret
    exact ⟨ret_int HE.out.symm, HB.out.step hb⟩


/-- How an element lies in memory: k cells. -/
structure Enc (α : Type) where
  k : Nat
  c : α → List Value
  len : ∀ x, (c x).length = k
  one : ∀ x, ∀ u ∈ c x, u.oneCell' = true
  pos : 0 < k
section
variable {α : Type} {E : Enc α}
theorem Enc.at (E : Enc α) (l : List α) (i : Nat) (h : i < l.length) (j : Nat) (hj : j < E.k) : (l.flatMap E.c)[i * E.k + j]? = (E.c l[i])[j]? := by
  induction l generalizing i with
  | nil => exact absurd h (Nat.not_lt_zero _)
  | cons x l ih =>
    rw [List.flatMap_cons, List.getElem?_append, E.len x]
    cases i with
    | zero =>
      rw [if_pos (by omega), Nat.zero_mul, Nat.zero_add]
      rfl
    | succ i =>
      rw [if_neg (by rw [Nat.succ_mul]; omega), show (i + 1) * E.k + j - E.k = i * E.k + j by rw [Nat.succ_mul]; omega]
      exact ih i (by simpa using h)
theorem Enc.length (E : Enc α) (l : List α) : (l.flatMap E.c).length = l.length * E.k := by
  induction l with
  | nil => simp
  | cons x l ih =>
    rw [List.flatMap_cons, List.length_append, ih, List.length_cons, E.len x, Nat.succ_mul]
    omega
theorem Enc.ones (E : Enc α) (l : List α) : ∀ u ∈ l.flatMap E.c, u.oneCell' = true := by
  intro u hu
  rw [List.mem_flatMap] at hu
  obtain ⟨x, _, hx⟩ := hu
  exact E.one x u hx
/-- A list, read off a slice. -/
def RdX (E : Enc α) (w : World) (a : Option Addr) (l : List α) : Prop :=
  ∀ i (h : i < l.length), ∃ b off, a = some ⟨b, off, none⟩ ∧ b < w.heap.size ∧ ∀ j u, (E.c l[i])[j]? = some u → w.cell? ⟨b, off + i * E.k + j, none⟩ = some u
theorem RdX.below {w w' : World} {a : Option Addr} {l : List α} (h : RdX E w a l) (hb : Below w.heap.size w w') : RdX E w' a l := by
  intro i hi
  obtain ⟨b, off, ha, hlt, h1⟩ := h i hi
  exact ⟨b, off, ha, Nat.lt_of_lt_of_le hlt hb.size, fun j u hu => cell_later hb (h1 j u hu)⟩
theorem RdX.nil (w : World) (a : Option Addr) : RdX E w a [] := fun _ hi => absurd hi (Nat.not_lt_zero _)
theorem RdX.cells {w : World} {b off : Nat} {l : List α} (h : RdX E w (some ⟨b, off, none⟩) l) : ∀ j u, (l.flatMap E.c)[j]? = some u → w.cell? ((⟨b, off, none⟩ : Addr).add j) = some u := by
  intro j u hu
  have hj : j < l.length * E.k := by
    have := (List.getElem?_eq_some_iff.1 hu).1
    rwa [E.length] at this
  have hp := E.pos
  have hi : j / E.k < l.length := (Nat.div_lt_iff_lt_mul hp).2 hj
  obtain ⟨b', off', e, hlt, h0⟩ := h (j / E.k) hi
  simp only [Option.some.injEq, Addr.mk.injEq, and_true] at e
  obtain ⟨rfl, rfl⟩ := e
  have hk : j % E.k < E.k := Nat.mod_lt _ hp
  have ej : j / E.k * E.k + j % E.k = j := by rw [Nat.mul_comm]; exact Nat.div_add_mod j E.k
  have hc := E.at l (j / E.k) hi (j % E.k) hk
  rw [ej, hu] at hc
  have ea : ((⟨b, off, none⟩ : Addr).add j) = ⟨b, off + j / E.k * E.k + j % E.k, none⟩ := by
    rw [Nat.add_assoc, ej]
    unfold Addr.add
    by_cases h0 : j = 0
    · subst h0; simp
    · simp [h0]
  rw [ea]
  exact h0 _ _ hc.symm
theorem RdX.take {w : World} {a : Option Addr} {l : List α} (h : RdX E w a l) (n : Nat) : RdX E w a (l.take n) := by
  intro i hi
  have hi' : i < l.length := by rw [List.length_take] at hi; omega
  obtain ⟨b, off, ha, hlt, h1⟩ := h i hi'
  refine ⟨b, off, ha, hlt, ?_⟩
  rw [List.getElem_take]
  exact h1
/-- ts is a slice of T, and T has the cells of E. -/
structure SlT (E : Enc α) (ts T : TypeId) : Prop where
  u : Tryz.prog.underlying ts = some (.slice T)
  i : ∃ z bytes, (Tryz.prog.info? T).map (fun i => (i.zero, i.size, i.bytes)) = some (some z, E.k, bytes) ∧ z.cells.size = E.k ∧ bytes ≤ 64
/-- A slice of the call's own. -/
def OwnX (E : Enc α) (T : TypeId) (w : World) (base : Nat) (v : Value) (l : List α) : Prop := w.ownsRow base T E.k v l.length (l.flatMap E.c)
theorem OwnX.nil (T : TypeId) (w : World) (base : Nat) : OwnX E T w base (.slice none 0 0) [] := World.ownsRow_nil _ _ _ _
theorem OwnX.rdB {T : TypeId} {w : World} {base : Nat} {v : Value} {l : List α} (h : OwnX E T w base v l) : ∃ a cap, v = .slice a l.length cap ∧ RdX E w a l ∧ l.length ≤ cap ∧ (∀ b off, a = some ⟨b, off, none⟩ → base ≤ b ∧ v.ownBlock = some b) := by
  obtain ⟨_, h⟩ := h
  rcases h with ⟨rfl, h0⟩ | ⟨g, cap, cur, rfl, hg, hh, h1, h2, h3, h4⟩
  · exact ⟨none, 0, by rw [h0], fun i hi => by omega, by omega, fun b off e => by cases e⟩
  · refine ⟨_, cap, rfl, fun i hi => ⟨g, 0, rfl, lt_of_heap hh, fun j u hu => ?_⟩, h1, fun b off e => by cases e; exact ⟨hg, rfl⟩⟩
    have hj : j < E.k := by
      have := (List.getElem?_eq_some_iff.1 hu).1
      rwa [E.len] at this
    rw [cell_of_row _ _ _ _ _ _ hh, Nat.zero_add]
    have e : (cur.toList.take (l.length * E.k))[i * E.k + j]? = (l.flatMap E.c)[i * E.k + j]? := by rw [h4]
    have hlt : i * E.k + j < l.length * E.k := by
      have : (i + 1) * E.k ≤ l.length * E.k := Nat.mul_le_mul_right _ hi
      rw [Nat.succ_mul] at this
      omega
    rw [List.getElem?_take, if_pos hlt, E.at l i hi j hj, hu] at e
    simpa using e
theorem OwnX.rd {T : TypeId} {w : World} {base : Nat} {v : Value} {l : List α} (h : OwnX E T w base v l) : ∃ a cap, v = .slice a l.length cap ∧ RdX E w a l := by
  obtain ⟨a, cap, h1, h2, _⟩ := h.rdB
  exact ⟨a, cap, h1, h2⟩
theorem OwnX.later {T : TypeId} {w w' : World} {base : Nat} {v : Value} {l : List α} (h : OwnX E T w base v l) (hb : Below w.heap.size w w') : OwnX E T w' base v l := own_below h hb
theorem OwnX.mono {T : TypeId} {w : World} {base base' : Nat} {v : Value} {l : List α} (h : OwnX E T w base v l) (hb : base' ≤ base) : OwnX E T w base' v l := own_base h hb
theorem OwnX.none {T : TypeId} {w : World} {base g : Nat} (hb : base ≤ g) (h : w.heap[g]? = some (.cells #[] T (0, 0))) : OwnX E T w base (.slice (some ⟨g, 0, none⟩) 0 0) [] := ⟨by simp, .inr ⟨g, 0, #[], rfl, hb, h, Nat.le_refl _, Nat.zero_le _, by simp, by simp⟩⟩
theorem run_append_x {ts T : TypeId} (st : SlT E ts T) (w : World) (base : Nat) (ty : TypeId) (v : Value) (l0 l : List α) (hown : OwnX E T w base v l0) (a : Option Addr) (c : Nat) (hl : RdX E w a l) (hs : l0.length + l.length ≤ 1000000) (hb : base ≤ w.heap.size) :
    ∃ v' w', (Builtin.append_ #[ts, ts] ty #[v, .slice a l.length c]).run Tryz.prog w = .ok v' w' ∧ OwnX E T w' base v' (l0 ++ l) ∧ w.grownBy w' v.ownBlock ∧ (v'.ownBlock = v.ownBlock ∨ v'.ownBlock = some w.heap.size) := by
  obtain ⟨z, bytes, hi, hz, h64⟩ := st.i
  obtain ⟨i4, hj4, hy0, hy1, hy2⟩ := info_parts hi
  cases a with
  | none =>
    have hl0 : l = [] := by
      cases l with
      | nil => rfl
      | cons x l =>
        obtain ⟨b, off, e, _⟩ := hl 0 (Nat.succ_pos _)
        cases e
    subst hl0
    refine ⟨v, w, ?_, by rw [List.append_nil]; exact hown, ⟨rfl, rfl, rfl, Nat.le_refl _, fun _ _ _ => rfl⟩, .inl rfl⟩
    rcases hown.2 with ⟨rfl, h0⟩ | ⟨g, cap, cur, rfl, _, _, hnc, _⟩
    · simp [Builtin.append_, run_underlying st.u, sizeOf, typeInfo, hj4, Builtin.lenOf, Builtin.firstCells]
    · simp [Builtin.append_, run_underlying st.u, sizeOf, typeInfo, hj4, Builtin.lenOf, Builtin.firstCells, hnc, storeCells]
  | some ad =>
    have hcells : ∀ j u, (l.flatMap E.c)[j]? = some u → w.cell? (ad.add j) = some u := by
      cases l with
      | nil => intro j u hu; simp at hu
      | cons x l =>
        obtain ⟨b, off, e, _⟩ := hl 0 (Nat.succ_pos _)
        injection e with e
        subst e
        exact hl.cells
    have hbd : (l0.length + l.length) * bytes ≤ 140737488355328 := Nat.le_trans (Nat.mul_le_mul hs h64) (by omega)
    obtain ⟨v', w', h1, h2, h3, _, h5⟩ := run_append_own_at (P := Tryz.prog) w base ts ty T i4 _ E.k bytes st.u hj4 hy0 hy1 hy2 hz E.pos v l0.length (l0.flatMap E.c) hown ad l.length c (l.flatMap E.c) (E.length l) hcells (E.ones l) (by unfold maxLen; omega) hbd hb
    refine ⟨v', w', h1, ?_, h3, h5⟩
    unfold OwnX
    rw [List.length_append, List.flatMap_append]
    exact h2
theorem wpList_append_x {ts T : TypeId} (st : SlT E ts T) {ops : Array Oper} {rest : List Oper} {o : Oper} {a : Act} {Q : Exit → Act → World → Prop} (w : World) (hgd : o.guard = none) (s x : Operand)
    (ho : o.op = .call { callee := .builtin .append, args := #[s, x], argTypes := #[ts, ts] }) (base : Nat) (v : Value) (l0 l : List α) (hsv : a.eval s = v) (hown : OwnX E T w base v l0) (A : Option Addr) (c : Nat) (hx : a.eval x = .slice A l.length c) (hl : RdX E w A l) (hs : l0.length + l.length ≤ 1000000) (hb : base ≤ w.heap.size)
    (h : ∀ v' w', OwnX E T w' base v' (l0 ++ l) → w.grownBy w' v.ownBlock → (v'.ownBlock = v.ownBlock ∨ v'.ownBlock = some w.heap.size) → wpList Tryz.prog ops Q rest (a.put o.dst v') w') : wpList Tryz.prog ops Q (o :: rest) a w := by
  refine wpList_plain hgd fun K hK => ?_
  obtain ⟨v', w', hrun, h2, h3, h4⟩ := run_append_x st w base o.type v l0 l hown A c hl hs hb
  unfold Oper.wp execOp
  simp only [ho, resolve, invoke, builtin, Sem.run_bind, Sem.run_pure, Result.andThen_ok, List.map_toArray, List.map_cons, List.map_nil, hsv, hx, hrun]
  exact hK _ _ (h v' w' h2 h3 h4)
def OwnRetX (E : Enc α) (T : TypeId) (l : List α) (w : World) (e : Ending) (w' : World) : Prop := Below w.heap.size w w' ∧ ∃ v, e = .returned v ∧ OwnX E T w' w.heap.size v l
theorem rdx_one (w : World) (x : α) (T : TypeId) : RdX E (w.alloc (.cells (E.c x).toArray T)) (some ⟨w.heap.size, 0, none⟩) [x] := by
  intro i hi
  have : i = 0 := by simpa using hi
  subst this
  refine ⟨_, _, rfl, lt_alloc _ _, fun j u hu => ?_⟩
  have hh := heapn w (.cells (E.c x).toArray T) _ rfl
  rw [cell_of_row _ _ _ _ _ _ hh]
  simpa using hu
end
/-- The cells of an instruction, a guard, a pair, a number. -/
def encC : Enc InsN := ⟨4, fun i => [.int .i64 i.op, .int .i64 i.a, .int .i64 i.b, .int .i64 i.c], fun _ => rfl, fun x u hu => by simp at hu; rcases hu with rfl | rfl | rfl | rfl <;> rfl, by decide⟩
def encG : Enc GrdN := ⟨3, fun g => [.int .i64 g.frm, .int .i64 g.til, .int .i64 g.at'], fun _ => rfl, fun x u hu => by simp at hu; rcases hu with rfl | rfl | rfl <;> rfl, by decide⟩
def encP : Enc (Int × Int) := ⟨2, fun p => [.int .i64 p.1, .int .i64 p.2], fun _ => rfl, fun x u hu => by simp at hu; rcases hu with rfl | rfl <;> rfl, by decide⟩
theorem st22 : SlT encC 22 85 := ⟨Tryz.underlying22, .agg #[.int .i64 0, .int .i64 0, .int .i64 0, .int .i64 0], 32, by kernel_rfl, rfl, by decide⟩
theorem st23 : SlT encG 23 90 := ⟨Tryz.underlying23, .agg #[.int .i64 0, .int .i64 0, .int .i64 0], 24, by kernel_rfl, rfl, by decide⟩
theorem st43 : SlT encP 43 48 := ⟨Tryz.underlying43, .agg #[.int .i64 0, .int .i64 0], 16, by kernel_rfl, rfl, by decide⟩
theorem rdC_iff {w : World} {a : Option Addr} {l : List InsN} : RdX encC w a l ↔ RdC w a l := by
  constructor
  · intro h i hi
    obtain ⟨b, off, ha, hlt, h1⟩ := h i hi
    exact ⟨b, off, ha, hlt, h1 0 _ rfl, h1 1 _ rfl, h1 2 _ rfl, h1 3 _ rfl⟩
  · intro h i hi
    obtain ⟨b, off, ha, hlt, h0, h1, h2, h3⟩ := h i hi
    refine ⟨b, off, ha, hlt, fun j u hu => ?_⟩
    match j with
    | 0 => cases hu; exact h0
    | 1 => cases hu; exact h1
    | 2 => cases hu; exact h2
    | 3 => cases hu; exact h3
    | j + 4 => simp [encC] at hu
theorem rdD_iff {w : World} {a : Option Addr} {l : List GrdN} : RdX encG w a l ↔ RdD w a l := by
  constructor
  · intro h i hi
    obtain ⟨b, off, ha, hlt, h1⟩ := h i hi
    exact ⟨b, off, ha, hlt, h1 0 _ rfl, h1 1 _ rfl, h1 2 _ rfl⟩
  · intro h i hi
    obtain ⟨b, off, ha, hlt, h0, h1, h2⟩ := h i hi
    refine ⟨b, off, ha, hlt, fun j u hu => ?_⟩
    match j with
    | 0 => cases hu; exact h0
    | 1 => cases hu; exact h1
    | 2 => cases hu; exact h2
    | j + 3 => simp [encG] at hu


/-- What is asked of a predicate that is handed to the library: at each element it returns what p says, and changes nothing. -/
def PredI (F : Nat) (lb : Array Value) (p : Int → Bool) (l : List Int) (w : World) : Prop := ∀ x, x ∈ l → ∀ w', Below w.heap.size w w' → Calls Tryz.prog F (#[.int .i64 x] ++ lb) w' (RetB (.bool (p x)) w')
def Enters (F : Nat) : Prop := ∀ args w, (callFunc F args).run Tryz.prog w = .ok (.enter F args) w
set_option maxHeartbeats 1000000 in
theorem indexI (F : Nat) (eg : Enters F) (lb : Array Value) (p : Int → Bool) (l : List Int) (a : Option Addr) (cap : Nat) (w : World) (hk : PredI F lb p l w) (hl : RdI w a l) (hll : l.length ≤ 9223372036854775807) :
    Calls Tryz.prog 171 #[.slice a l.length cap, .func (.func F) #[] lb] w (RetB (.int .i64 (idxP p l)) w) := by
  have HL := hid hl; clear hl
  have HK := hid hk; clear hk
  have heg : ∀ args w, (callFunc F args).run Tryz.prog w = .ok (.enter F args) w := eg
  clear eg
  go_enter Tryz.func171, Tryz.ntmps171
  go_wp2
  go_loopg [8] l.length (fun gh s8 wr => ∃ j : Nat, j ≤ l.length ∧ gh = l.length - j ∧ s8 = .int .i64 j ∧ Hid (∀ x, x ∈ l.take j → p x = false) ∧ Hid (Below w.heap.size w wr))
  case atStart => exact ⟨0, Nat.zero_le _, rfl, rfl, hid (by simp), hid (Below.refl _ _)⟩
  case round =>
    obtain ⟨j, hj, rfl, rfl, HQ, HB⟩ := hrel
    by_cases hlj : j < l.length
    · obtain ⟨b2, off, ha, hlt2, h0⟩ := (HL.out.below HB.out) j hlj
      subst ha
      have nj : (j : Int) < (l.length : Int) := by omega
      have HG := hid (idxP_some (p := p) (l := l) (i := j) hlj)
      have HT : Hid (l.take (j + 1) = l.take j ++ [l[j]]) := hid (take_last hlj)
      have HKG := hid (HK.out l[j] (List.getElem_mem hlj) wr HB.out)
      generalize l[j] = g at *
      cases hg : p g with
      | true =>
        rw [hg] at HKG
        have HE := hid (HG.out hg HQ.out)
        clear hg
        go_wp2
        refine HKG.out.mono ?_
        rintro e w' ⟨rfl, hb⟩
        have HB2 := hid (HB.out.step hb)
        clear hb
        go_wp2
        go_ret
        exact ⟨ret_int HE.out.symm, HB2.out⟩
      | false =>
        rw [hg] at HKG
        have HGF := hid hg
        clear hg
        go_wp2
        refine HKG.out.mono ?_
        rintro e w' ⟨rfl, hb⟩
        have HB2 := hid (HB.out.step hb)
        clear hb
        go_wp2
        go_roundg (l.length - (j + 1))
        case measure => omega
        case rel =>
          refine ⟨j + 1, by omega, rfl, by go_num, hid fun x hx => ?_, HB2⟩
          rw [HT.out, List.mem_append] at hx
          rcases hx with hx | hx
          · exact HQ.out x hx
          · rw [List.mem_singleton.1 hx]; exact HGF.out
    · obtain rfl : j = l.length := by omega
      have HE := hid (idxP_none (p := p) (fun x hx => HQ.out x (by rw [List.take_length]; exact hx)))
      go_wp2
      go_ret
      exact ⟨ret_int HE.out.symm, HB.out⟩
def PredG (F : Nat) (lb : Array Value) (p : GrdN → Bool) (l : List GrdN) (w : World) : Prop := ∀ x, x ∈ l → ∀ w', Below w.heap.size w w' → Calls Tryz.prog F (#[vG x] ++ lb) w' (RetB (.bool (p x)) w')
def PredC (F : Nat) (lb : Array Value) (p : InsN → Bool) (l : List InsN) (w : World) : Prop := ∀ x, x ∈ l → ∀ w', Below w.heap.size w w' → Calls Tryz.prog F (#[vI x] ++ lb) w' (RetB (.bool (p x)) w')
set_option maxHeartbeats 1000000 in
theorem indexG (F : Nat) (eg : Enters F) (lb : Array Value) (p : GrdN → Bool) (l : List GrdN) (a : Option Addr) (cap : Nat) (w : World) (hk : PredG F lb p l w) (hl : RdD w a l) (hll : l.length ≤ 9223372036854775807) :
    Calls Tryz.prog 172 #[.slice a l.length cap, .func (.func F) #[] lb] w (RetB (.int .i64 (idxP p l)) w) := by
  have HL := hid hl; clear hl
  have HK := hid hk; clear hk
  have heg : ∀ args w, (callFunc F args).run Tryz.prog w = .ok (.enter F args) w := eg
  clear eg
  go_enter Tryz.func172, Tryz.ntmps172
  go_wp2
  go_loopg [8] l.length (fun gh s8 wr => ∃ j : Nat, j ≤ l.length ∧ gh = l.length - j ∧ s8 = .int .i64 j ∧ Hid (∀ x, x ∈ l.take j → p x = false) ∧ Hid (Below w.heap.size w wr))
  case atStart => exact ⟨0, Nat.zero_le _, rfl, rfl, hid (by simp), hid (Below.refl _ _)⟩
  case round =>
    obtain ⟨j, hj, rfl, rfl, HQ, HB⟩ := hrel
    by_cases hlj : j < l.length
    · obtain ⟨b2, off, ha, hlt2, h0, h1, h2⟩ := (HL.out.below HB.out) j hlj
      subst ha
      have nj : (j : Int) < (l.length : Int) := by omega
      have HG := hid (idxP_some (p := p) (l := l) (i := j) hlj)
      have HT : Hid (l.take (j + 1) = l.take j ++ [l[j]]) := hid (take_last hlj)
      have HKG := hid (HK.out l[j] (List.getElem_mem hlj) wr HB.out)
      generalize l[j] = g at *
      cases hg : p g with
      | true =>
        rw [hg] at HKG
        have HE := hid (HG.out hg HQ.out)
        clear hg
        go_wp2
        refine HKG.out.mono ?_
        rintro e w' ⟨rfl, hb⟩
        have HB2 := hid (HB.out.step hb)
        clear hb
        go_wp2
        go_ret
        exact ⟨ret_int HE.out.symm, HB2.out⟩
      | false =>
        rw [hg] at HKG
        have HGF := hid hg
        clear hg
        go_wp2
        refine HKG.out.mono ?_
        rintro e w' ⟨rfl, hb⟩
        have HB2 := hid (HB.out.step hb)
        clear hb
        go_wp2
        go_roundg (l.length - (j + 1))
        case measure => omega
        case rel =>
          refine ⟨j + 1, by omega, rfl, by go_num, hid fun x hx => ?_, HB2⟩
          rw [HT.out, List.mem_append] at hx
          rcases hx with hx | hx
          · exact HQ.out x hx
          · rw [List.mem_singleton.1 hx]; exact HGF.out
    · obtain rfl : j = l.length := by omega
      have HE := hid (idxP_none (p := p) (fun x hx => HQ.out x (by rw [List.take_length]; exact hx)))
      go_wp2
      go_ret
      exact ⟨ret_int HE.out.symm, HB.out⟩
theorem someI (F : Nat) (eg : Enters F) (lb : Array Value) (p : Int → Bool) (l : List Int) (a : Option Addr) (cap : Nat) (w : World) (hk : PredI F lb p l w) (hl : RdI w a l) (hll : l.length ≤ 9223372036854775807) :
    Calls Tryz.prog 99 #[.slice a l.length cap, .func (.func F) #[] lb] w (RetB (.bool (l.any p)) w) := by
  have HI := hid (indexI F eg lb p l a cap w hk hl hll)
  have HA := hid (idxP_any p l)
  clear hk hl eg
  generalize l.any p = r at *
  generalize idxP p l = i at *
  go_enter Tryz.func99, Tryz.ntmps99
  go_wp2_with (go_at_call 171; refine HI.out.mono ?_; rintro e w' ⟨rfl, hb⟩; have HB := hid hb; clear hb)
  go_ret
  exact ⟨ret_bool HA.out, HB.out⟩
theorem someG (F : Nat) (eg : Enters F) (lb : Array Value) (p : GrdN → Bool) (l : List GrdN) (a : Option Addr) (cap : Nat) (w : World) (hk : PredG F lb p l w) (hl : RdD w a l) (hll : l.length ≤ 9223372036854775807) :
    Calls Tryz.prog 214 #[.slice a l.length cap, .func (.func F) #[] lb] w (RetB (.bool (l.any p)) w) := by
  have HI := hid (indexG F eg lb p l a cap w hk hl hll)
  have HA := hid (idxP_any p l)
  clear hk hl eg
  generalize l.any p = r at *
  generalize idxP p l = i at *
  go_enter Tryz.func214, Tryz.ntmps214
  go_wp2_with (go_at_call 172; refine HI.out.mono ?_; rintro e w' ⟨rfl, hb⟩; have HB := hid hb; clear hb)
  go_ret
  exact ⟨ret_bool HA.out, HB.out⟩

set_option maxHeartbeats 1000000 in
theorem index_any (l : List Int) (x : Int) (a : Option Addr) (cap : Nat) (w : World) (hl : RdI w a l) (hll : l.length ≤ 9223372036854775807) :
    Calls Tryz.prog 198 #[.slice a l.length cap, .int .i64 x] w (RetS (.int .i64 (idxP (fun y => x == y) l)) w) := by
  have HL := hid hl; clear hl
  go_enter Tryz.func198, Tryz.ntmps198
  go_wp2
  go_loopg [8] l.length (fun gh s8 wr => ∃ j : Nat, j ≤ l.length ∧ gh = l.length - j ∧ s8 = .int .i64 j ∧ Hid (∀ y, y ∈ l.take j → (x == y) = false) ∧ Hid (w = wr))
  case atStart => exact ⟨0, Nat.zero_le _, rfl, rfl, hid (by simp), hid rfl⟩
  case round =>
    obtain ⟨j, hj, rfl, rfl, HQ, HB⟩ := hrel
    by_cases hlj : j < l.length
    · have hrd := HL.out j hlj
      rw [HB.out] at hrd
      obtain ⟨b2, off, ha, hlt2, h0⟩ := hrd
      subst ha
      have nj : (j : Int) < (l.length : Int) := by omega
      have HG := hid (idxP_some (p := fun y => x == y) (l := l) (i := j) hlj)
      have HT : Hid (l.take (j + 1) = l.take j ++ [l[j]]) := hid (take_last hlj)
      generalize l[j] = g at *
      cases hg : (x == g) with
      | true =>
        have HE := hid (HG.out hg HQ.out)
        go_wp2
        go_ret
        exact ⟨ret_int HE.out.symm, HB.out⟩
      | false =>
        have HGF := hid hg
        go_wp2
        go_roundg (l.length - (j + 1))
        case measure => omega
        case rel =>
          refine ⟨j + 1, by omega, rfl, by go_num, hid fun x hx => ?_, HB⟩
          rw [HT.out, List.mem_append] at hx
          rcases hx with hx | hx
          · exact HQ.out x hx
          · rw [List.mem_singleton.1 hx]; exact HGF.out
    · obtain rfl : j = l.length := by omega
      have HE := hid (idxP_none (p := fun y => x == y) (fun x hx => HQ.out x (by rw [List.take_length]; exact hx)))
      go_wp2
      go_ret
      exact ⟨ret_int HE.out.symm, HB.out⟩
theorem contains_any (l : List Int) (x : Int) (a : Option Addr) (cap : Nat) (w : World) (hl : RdI w a l) (hll : l.length ≤ 9223372036854775807) :
    Calls Tryz.prog 141 #[.slice a l.length cap, .int .i64 x] w (RetS (.bool (l.contains x)) w) := by
  have HI := hid (index_any l x a cap w hl hll)
  have HA := hid (idxP_any (fun y => x == y) l)
  rw [← List.contains_eq_any_beq] at HA
  clear hl
  generalize l.contains x = r at *
  generalize idxP (fun y => x == y) l = i at *
  go_enter Tryz.func141, Tryz.ntmps141
  go_wp2_with (go_at_call 198; refine HI.out.mono ?_; rintro e w' ⟨rfl, rfl⟩)
  go_ret
  exact ⟨ret_bool HA.out, rfl⟩
/-- What add leaves: a slice of the call's own (or what came in), nothing else has turned but the row that it grew in. -/
def AddRet (v : Value) (base : Nat) (l : List Int) (w : World) (e : Ending) (w' : World) : Prop := ∃ v', e = .returned v' ∧ OwnI w' base v' l ∧ w.grownBy w' v.ownBlock ∧ (v'.ownBlock = v.ownBlock ∨ ∃ b, v'.ownBlock = some b ∧ w.heap.size ≤ b)
theorem addL_snoc (l more : List Int) (x : Int) : addL l (more ++ [x]) = if (addL l more).contains x = true then addL l more else addL l more ++ [x] := by
  unfold addL
  rw [List.foldl_append]
  rfl
theorem addL_len (l more : List Int) : (addL l more).length ≤ l.length + more.length := by
  unfold addL
  induction more generalizing l with
  | nil => exact Nat.le_refl _
  | cons x m ih =>
    rw [List.foldl_cons]
    refine Nat.le_trans (ih _) ?_
    rw [List.length_cons]
    split
    · omega
    · rw [List.length_append, List.length_singleton]; omega
theorem grown_trans {a b c : World} {r r' : Option Nat} (h : a.grownBy b r) (k : b.grownBy c r') (hr : r' = r ∨ ∃ x, r' = some x ∧ a.heap.size ≤ x) : a.grownBy c r :=
  ⟨k.os.trans h.os, k.tape.trans h.tape, k.output.trans h.output, Nat.le_trans h.size k.size, fun i hi hn => (k.block i (Nat.lt_of_lt_of_le hi h.size) (by
    rcases hr with rfl | ⟨x, rfl, hx⟩
    · exact hn
    · intro e; cases e; omega)).trans (h.block i hi hn)⟩
theorem RdI.grown {w w' : World} {a : Option Addr} {l : List Int} {r : Option Nat} (h : RdI w a l) (hg : w.grownBy w' r) (hn : ∀ b off, a = some ⟨b, off, none⟩ → some b ≠ r) : RdI w' a l := by
  intro i hi
  obtain ⟨b, off, ha, hlt, h0⟩ := h i hi
  exact ⟨b, off, ha, Nat.lt_of_lt_of_le hlt hg.size, by rw [World.cell?_of_block (w := w) (hg.block b hlt (hn b off ha))]; exact h0⟩
set_option maxHeartbeats 1000000 in
theorem add_any (base : Nat) (v : Value) (l more : List Int) (a : Option Addr) (cap : Nat) (w : World) (ho : OwnI w base v l) (hm : RdI w a more) (hlen : l.length + more.length ≤ 1000000) (hn : ∀ b off, a = some ⟨b, off, none⟩ → some b ≠ v.ownBlock) (hb : base ≤ w.heap.size) :
    Calls Tryz.prog 74 #[v, .slice a more.length cap] w (AddRet v base (addL l more) w) := by
  have HO := hid ho; clear ho
  have HM := hid hm; clear hm
  have HN := hid hn; clear hn
  go_enter Tryz.func74, Tryz.ntmps74
  go_wp2
  go_loopg [0, 9] more.length (fun gh s0 s9 wr => ∃ j : Nat, j ≤ more.length ∧ gh = more.length - j ∧ s9 = .int .i64 j ∧ Hid (OwnI wr base s0 (addL l (more.take j)) ∧ w.grownBy wr v.ownBlock ∧ (s0.ownBlock = v.ownBlock ∨ ∃ b, s0.ownBlock = some b ∧ w.heap.size ≤ b)))
  case atStart => exact ⟨0, Nat.zero_le _, rfl, rfl, hid ⟨HO.out, ⟨rfl, rfl, rfl, Nat.le_refl _, fun _ _ _ => rfl⟩, .inl rfl⟩⟩
  case round =>
    obtain ⟨j, hj, rfl, rfl, HK⟩ := hrel
    by_cases hlj : j < more.length
    · have hm2 := HM.out.grown HK.out.2.1 HN.out
      obtain ⟨b2, off, ha, hlt2, h0⟩ := hm2 j hlj
      have HL2 : (addL l (more.take j)).length ≤ 1000000 - 1 := by have := addL_len l (more.take j); rw [List.length_take] at this; omega
      subst ha
      have nj : (j : Int) < (more.length : Int) := by omega
      have HS : Hid (addL l (more.take (j + 1)) = if (addL l (more.take j)).contains more[j] = true then addL l (more.take j) else addL l (more.take j) ++ [more[j]]) := hid (by rw [take_last hlj, addL_snoc])
      obtain ⟨v0, hv0⟩ : ∃ v0, v0 = u0 := ⟨_, rfl⟩
      obtain ⟨a1, c1, rfl, hr1⟩ := HK.out.1.rd
      have HC := hid (contains_any (addL l (more.take j)) more[j] a1 c1 wr hr1 (by omega))
      generalize more[j] = x at *
      cases hg : (addL l (more.take j)).contains x with
      | true =>
        rw [hg] at HC
        rw [if_pos hg] at HS
        clear hg hr1
        go_wp2_with (go_at_call 141; (with_reducible refine HC.out.mono ?_); rintro e w' ⟨rfl, rfl⟩)
        go_roundg (more.length - (j + 1))
        case measure => omega
        case rel => exact ⟨j + 1, by omega, rfl, by go_num, hid ⟨by rw [HS.out]; exact HK.out.1, HK.out.2⟩⟩
      | false =>
        rw [hg] at HC
        rw [if_neg (by rw [hg]; simp)] at HS
        clear hg hr1
        have hsz := HK.out.2.1.size
        go_wp2_with (first
          | (go_at_call 141; (with_reducible refine HC.out.mono ?_); rintro e w' ⟨rfl, rfl⟩)
          | (at_builtin; refine wpList_append_ints _ rfl _ _ rfl base _ _ [x] rfl (OwnI.later HK.out.1 (bnew _ _)) (some ⟨_, 0, none⟩) 1 rfl (rd_one _ _ _) (by simp; omega) (by simp; omega) ?_; intro v' w5 hown' hgrow hat))
        go_roundg (more.length - (j + 1))
        case measure => omega
        case rel =>
          refine ⟨j + 1, by omega, rfl, by go_num, hid ⟨by rw [HS.out]; exact hown', ?_, ?_⟩⟩
          · exact grown_trans (grown_trans HK.out.2.1 (World.grownBy_alloc _ _ _) (.inl rfl)) hgrow HK.out.2.2
          · rcases hat with h | h
            · rw [h]; exact HK.out.2.2
            · exact .inr ⟨_, h, by simp; omega⟩
    · obtain rfl : j = more.length := by omega
      go_wp2
      go_ret
      exact ⟨_, rfl, by have := HK.out.1; rwa [List.take_length] at this, HK.out.2⟩

set_option maxHeartbeats 1000000 in
theorem filterI_any (F : Nat) (eg : Enters F) (lb : Array Value) (p : Int → Bool) (l : List Int) (a : Option Addr) (cap : Nat) (w : World) (hk : PredI F lb p l w) (hl : RdI w a l) (hll : l.length ≤ 1000000) :
    Calls Tryz.prog 109 #[.slice a l.length cap, .func (.func F) #[] lb] w (OwnRet (l.filter p) w) := by
  have HL := hid hl; clear hl
  have HK := hid hk; clear hk
  have heg : ∀ args w, (callFunc F args).run Tryz.prog w = .ok (.enter F args) w := eg
  clear eg
  go_enter Tryz.func109, Tryz.ntmps109
  go_wp2
  go_loopg [5, 10] l.length (fun gh s5 s10 wr => ∃ j : Nat, j ≤ l.length ∧ gh = l.length - j ∧ s10 = .int .i64 j ∧ Hid (OwnI wr w.heap.size s5 ((l.take j).filter p) ∧ Below w.heap.size w wr))
  case atStart => exact ⟨0, Nat.zero_le _, rfl, rfl, hid ⟨World.ownsRow_nil _ _ _ _, Below.refl _ _⟩⟩
  case round =>
    obtain ⟨j, hj, rfl, rfl, HQ⟩ := hrel
    by_cases hlj : j < l.length
    · obtain ⟨b2, off, ha, hlt2, h0⟩ := (HL.out.below HQ.out.2) j hlj
      subst ha
      have nj : (j : Int) < (l.length : Int) := by omega
      have hlen : ((l.take j).filter p).length ≤ j := by have := List.length_filter_le p (l.take j); rw [List.length_take] at this; omega
      have HT : Hid ((l.take (j + 1)).filter p = (l.take j).filter p ++ (if p l[j] = true then [l[j]] else [])) := hid (by rw [take_last hlj, List.filter_append]; cases h : p l[j] <;> simp [h])
      have HKG := hid (HK.out l[j] (List.getElem_mem hlj) wr HQ.out.2)
      generalize l[j] = g at *
      cases hg : p g with
      | true =>
        rw [hg] at HKG
        rw [if_pos hg] at HT
        clear hg
        go_wp2
        refine HKG.out.mono ?_
        rintro e w' ⟨rfl, hb⟩
        have HQ2 := hid (And.intro (HQ.out.1.later hb) (HQ.out.2.step hb))
        have hsz := HQ2.out.2.size
        clear hb
        go_wp2_with (at_builtin; refine wpList_append_ints _ rfl _ _ rfl w.heap.size _ _ [g] rfl (OwnI.later HQ2.out.1 (bnew _ _)) (some ⟨_, 0, none⟩) 1 rfl (rd_one _ _ _) (by simp; omega) (by simp; omega) ?_; intro v' w5 hown' hgrow hnil)
        go_roundg (l.length - (j + 1))
        case measure => omega
        case rel => exact ⟨j + 1, by omega, rfl, by go_num, hid ⟨by rw [HT.out]; exact hown', ((HQ2.out.2).alloc (by omega) _).grown hgrow (by simp; omega) (own_ge HQ2.out.1)⟩⟩
      | false =>
        rw [hg] at HKG
        rw [if_neg (by rw [hg]; simp), List.append_nil] at HT
        clear hg
        go_wp2
        refine HKG.out.mono ?_
        rintro e w' ⟨rfl, hb⟩
        have HQ2 := hid (And.intro (HQ.out.1.later hb) (HQ.out.2.step hb))
        clear hb
        go_wp2
        go_roundg (l.length - (j + 1))
        case measure => omega
        case rel => exact ⟨j + 1, by omega, rfl, by go_num, hid ⟨by rw [HT.out]; exact HQ2.out.1, HQ2.out.2⟩⟩
    · obtain rfl : j = l.length := by omega
      go_wp2
      go_ret
      exact ⟨HQ.out.2, _, rfl, by have := HQ.out.1; rwa [List.take_length] at this⟩
set_option maxHeartbeats 1000000 in
theorem filterC_any (F : Nat) (eg : Enters F) (lb : Array Value) (p : InsN → Bool) (l : List InsN) (a : Option Addr) (cap : Nat) (w : World) (hk : PredC F lb p l w) (hl : RdC w a l) (hll : l.length ≤ 1000000) :
    Calls Tryz.prog 78 #[.slice a l.length cap, .func (.func F) #[] lb] w (OwnRetX encC 85 (l.filter p) w) := by
  have HL := hid hl; clear hl
  have HK := hid hk; clear hk
  have heg : ∀ args w, (callFunc F args).run Tryz.prog w = .ok (.enter F args) w := eg
  clear eg
  go_enter Tryz.func78, Tryz.ntmps78
  go_wp2
  go_loopg [5, 10] l.length (fun gh s5 s10 wr => ∃ j : Nat, j ≤ l.length ∧ gh = l.length - j ∧ s10 = .int .i64 j ∧ Hid (OwnX encC 85 wr w.heap.size s5 ((l.take j).filter p) ∧ Below w.heap.size w wr))
  case atStart => exact ⟨0, Nat.zero_le _, rfl, rfl, hid ⟨OwnX.nil _ _ _, Below.refl _ _⟩⟩
  case round =>
    obtain ⟨j, hj, rfl, rfl, HQ⟩ := hrel
    by_cases hlj : j < l.length
    · obtain ⟨b2, off, ha, hlt2, h0, h1, h2, h3⟩ := (HL.out.below HQ.out.2) j hlj
      subst ha
      have nj : (j : Int) < (l.length : Int) := by omega
      have hlen : ((l.take j).filter p).length ≤ j := by have := List.length_filter_le p (l.take j); rw [List.length_take] at this; omega
      have HT : Hid ((l.take (j + 1)).filter p = (l.take j).filter p ++ (if p l[j] = true then [l[j]] else [])) := hid (by rw [take_last hlj, List.filter_append]; cases h : p l[j] <;> simp [h])
      have HB0 := hid (bnew wr (.cells #[.int .i64 l[j].op, .int .i64 l[j].a, .int .i64 l[j].b, .int .i64 l[j].c] 85))
      have HX0 := hid (heapn wr (.cells #[.int .i64 l[j].op, .int .i64 l[j].a, .int .i64 l[j].b, .int .i64 l[j].c] 85) _ rfl)
      have HKG := hid (HK.out l[j] (List.getElem_mem hlj) _ (HQ.out.2.step HB0.out))
      generalize l[j] = g at *
      cases hg : p g with
      | true =>
        rw [hg] at HKG
        rw [if_pos hg] at HT
        clear hg
        go_wp2
        refine HKG.out.mono ?_
        rintro e w' ⟨rfl, hb⟩
        have HQ2 := hid (And.intro (HQ.out.1.later (HB0.out.step hb)) (HQ.out.2.step (HB0.out.step hb)))
        obtain ⟨k0, k1, k2, k3⟩ := box4 (keepBox hb HX0.out)
        have hsz := HQ2.out.2.size
        clear hb
        go_wp2_with (at_builtin; refine wpList_append_x st22 _ rfl _ _ rfl w.heap.size _ _ [g] rfl (OwnX.later HQ2.out.1 (bnew _ _)) (some ⟨_, 0, none⟩) 1 rfl (rdx_one _ g _) (by simp; omega) (by simp; omega) ?_; intro v' w5 hown' hgrow hnil)
        go_roundg (l.length - (j + 1))
        case measure => omega
        case rel => exact ⟨j + 1, by omega, rfl, by go_num, hid ⟨by rw [HT.out]; exact hown', ((HQ2.out.2).alloc (by omega) _).grown hgrow (by simp; omega) (own_ge HQ2.out.1)⟩⟩
      | false =>
        rw [hg] at HKG
        rw [if_neg (by rw [hg]; simp), List.append_nil] at HT
        clear hg
        go_wp2
        refine HKG.out.mono ?_
        rintro e w' ⟨rfl, hb⟩
        have HQ2 := hid (And.intro (HQ.out.1.later (HB0.out.step hb)) (HQ.out.2.step (HB0.out.step hb)))
        clear hb
        go_wp2
        go_roundg (l.length - (j + 1))
        case measure => omega
        case rel => exact ⟨j + 1, by omega, rfl, by go_num, hid ⟨by rw [HT.out]; exact HQ2.out.1, HQ2.out.2⟩⟩
    · obtain rfl : j = l.length := by omega
      go_wp2
      go_ret
      exact ⟨HQ.out.2, _, rfl, by have := HQ.out.1; rwa [List.take_length] at this⟩
set_option maxRecDepth 100000 in
set_option maxHeartbeats 1000000 in
theorem cloneI_any (L : List Int) (a : Option Addr) (cap : Nat) (w : World) (hl : RdI w a L) (hlen : L.length ≤ 100000) :
    Calls Tryz.prog 108 #[.slice a L.length cap] w (OwnRet L w) := by
  have HL := hid hl; clear hl
  have hq := fun (w : World) (a : Option Addr) (n c : Nat) => Lib.run_eql_slice_nil (P := Tryz.prog) w 28 3 a n c 0 0 Tryz.underlying28
  cases a with
  | none =>
    have hn : L = [] := by
      cases L with
      | nil => rfl
      | cons x l =>
        obtain ⟨b, off, e, _⟩ := HL.out 0 (Nat.succ_pos _)
        cases e
    subst hn
    go_enter Tryz.func108, Tryz.ntmps108
    go_wp2
    go_ret
    exact ⟨Below.refl _ _, _, rfl, World.ownsRow_nil _ _ _ _⟩
  | some a =>
    go_enter Tryz.func108, Tryz.ntmps108
    go_wp2_with (at_builtin; refine wpList_append_ints _ rfl _ _ rfl w.heap.size _ [] L rfl (OwnI.none (Nat.le_refl _) (heapn _ _ _ rfl)) (some a) cap rfl (HL.out.below (bnew _ _)) (by simp; omega) (by simp) ?_; intro v' w3 hown' hgrow hnil; have HG := hid hgrow; have HO := hid hown'; clear hgrow hown' hnil)
    go_ret
    exact ⟨(bnew _ _).grown HG.out (by simp) (own_ge (OwnI.none (base := w.heap.size) (w := w.alloc (.cells #[] 3)) (Nat.le_refl _) (heapn _ _ _ rfl))), _, rfl, by simpa using HO.out⟩
set_option maxRecDepth 100000 in
set_option maxHeartbeats 1000000 in
theorem cloneC_any (L : List InsN) (a : Option Addr) (cap : Nat) (w : World) (hl : RdX encC w a L) (hlen : L.length ≤ 100000) :
    Calls Tryz.prog 44 #[.slice a L.length cap] w (OwnRetX encC 85 L w) := by
  have HL := hid hl; clear hl
  have hq := fun (w : World) (a : Option Addr) (n c : Nat) => Lib.run_eql_slice_nil (P := Tryz.prog) w 22 85 a n c 0 0 Tryz.underlying22
  cases a with
  | none =>
    have hn : L = [] := by
      cases L with
      | nil => rfl
      | cons x l =>
        obtain ⟨b, off, e, _⟩ := HL.out 0 (Nat.succ_pos _)
        cases e
    subst hn
    go_enter Tryz.func44, Tryz.ntmps44
    go_wp2
    go_ret
    exact ⟨Below.refl _ _, _, rfl, OwnX.nil _ _ _⟩
  | some a =>
    go_enter Tryz.func44, Tryz.ntmps44
    go_wp2_with (at_builtin; refine wpList_append_x st22 _ rfl _ _ rfl w.heap.size _ [] L rfl (OwnX.none (Nat.le_refl _) (heapn _ _ _ rfl)) (some a) cap rfl (HL.out.below (bnew _ _)) (by simp; omega) (by simp) ?_; intro v' w3 hown' hgrow hnil; have HG := hid hgrow; have HO := hid hown'; clear hgrow hown' hnil)
    go_ret
    exact ⟨(bnew _ _).grown HG.out (by simp) (own_ge (OwnX.none (E := encC) (T := 85) (base := w.heap.size) (w := w.alloc (.cells #[] 85)) (Nat.le_refl _) (heapn _ _ _ rfl))), _, rfl, by simpa using HO.out⟩
set_option maxRecDepth 100000 in
set_option maxHeartbeats 1000000 in
theorem cloneG_any (L : List GrdN) (a : Option Addr) (cap : Nat) (w : World) (hl : RdX encG w a L) (hlen : L.length ≤ 100000) :
    Calls Tryz.prog 45 #[.slice a L.length cap] w (OwnRetX encG 90 L w) := by
  have HL := hid hl; clear hl
  have hq := fun (w : World) (a : Option Addr) (n c : Nat) => Lib.run_eql_slice_nil (P := Tryz.prog) w 23 90 a n c 0 0 Tryz.underlying23
  cases a with
  | none =>
    have hn : L = [] := by
      cases L with
      | nil => rfl
      | cons x l =>
        obtain ⟨b, off, e, _⟩ := HL.out 0 (Nat.succ_pos _)
        cases e
    subst hn
    go_enter Tryz.func45, Tryz.ntmps45
    go_wp2
    go_ret
    exact ⟨Below.refl _ _, _, rfl, OwnX.nil _ _ _⟩
  | some a =>
    go_enter Tryz.func45, Tryz.ntmps45
    go_wp2_with (at_builtin; refine wpList_append_x st23 _ rfl _ _ rfl w.heap.size _ [] L rfl (OwnX.none (Nat.le_refl _) (heapn _ _ _ rfl)) (some a) cap rfl (HL.out.below (bnew _ _)) (by simp; omega) (by simp) ?_; intro v' w3 hown' hgrow hnil; have HG := hid hgrow; have HO := hid hown'; clear hgrow hown' hnil)
    go_ret
    exact ⟨(bnew _ _).grown HG.out (by simp) (own_ge (OwnX.none (E := encG) (T := 90) (base := w.heap.size) (w := w.alloc (.cells #[] 90)) (Nat.le_refl _) (heapn _ _ _ rfl))), _, rfl, by simpa using HO.out⟩
end Go.Proofs.YtgalekifgnecjaaGreat
