/- Contracts of clash and Clash of package table. -/
import Derived.Test.YtliajnflmddnoaaG2
namespace Go.Proofs.Ytliajnflmddnoaa
open Go.RowKit

theorem RdI.at {w : World} {a : Option Addr} {l : List Int} (h : RdI w a l) {i : Nat} (hi : i < l.length) : ∃ b off, a = some ⟨b, off, none⟩ ∧ b < w.heap.size ∧ w.cell? ⟨b, off + i, none⟩ = some (.int .i64 (l.getD i (-1))) := by
  obtain ⟨b, off, h1, h2, h3⟩ := h i hi
  exact ⟨b, off, h1, h2, by rw [getD_in hi]; exact h3⟩
theorem right_at {r : List Int} (h : ∀ e, e ∈ r → rightB e = true) {i : Nat} (hi : i < r.length) : thereB (r.getD i (-1)) = nz (r.getD i (-1)) := there_nz (by rw [getD_in hi]; exact h _ (List.getElem_mem hi))

set_option maxHeartbeats 400000 in
theorem k86 (r : List Int) (ar : Option Addr) (c : Nat) (i j bi bj : Nat) (w : World) (hr : RdI w ar r) (hi : i < r.length) (hj : j < r.length) (hok : ∀ e, e ∈ r → rightB e = true)
    (ci : w.cell? ⟨bi, 0, none⟩ = some (.int .i64 i)) (cj : w.cell? ⟨bj, 0, none⟩ = some (.int .i64 j)) :
    Calls Try.prog 86 #[.slice ar r.length c, .pointer (some ⟨bi, 0, none⟩), .pointer (some ⟨bj, 0, none⟩)] w (RetS (.bool (cl i j r)) w) := by
  obtain ⟨b, off, rfl, hb, hx⟩ := hr.at hi
  obtain ⟨b', off', e, _, hy⟩ := hr.at hj
  cases e
  have e1 := right_at hok hi
  have e2 := right_at hok hj
  have E : Hid (cl i j r = (nz (r.getD i (-1)) && nz (r.getD j (-1)))) := rfl
  have n1 : (i : Int) < (r.length : Int) := by omega
  have n2 : (j : Int) < (r.length : Int) := by omega
  generalize r.getD i (-1) = x at *
  generalize r.getD j (-1) = y at *
  have E1 := hid e1
  have E2 := hid e2
  clear hok hr e1 e2
  cases h1 : nz x with
  | true =>
    have H1 := hid h1
    clear h1
    go_enter Try.func86, Try.ntmps86
    go_wp2_with (go_at_call 72; (first | ((with_reducible refine (k72 x _).mono ?_); rw [E1.out, H1.out]; rintro e w' ⟨rfl, rfl⟩) | ((with_reducible refine (k72 y _).mono ?_); rw [E2.out]; rintro e w' ⟨rfl, rfl⟩)))
    go_ret
    exact ⟨ret_bool (by rw [E.out, H1.out]; rfl), rfl⟩
  | false =>
    have H1 := hid h1
    clear h1
    go_enter Try.func86, Try.ntmps86
    go_wp2_with (go_at_call 72; ((with_reducible refine (k72 x _).mono ?_); rw [E1.out, H1.out]; rintro e w' ⟨rfl, rfl⟩))
    go_ret
    exact ⟨ret_bool (by rw [E.out, H1.out]; rfl), rfl⟩

set_option maxHeartbeats 1000000 in
theorem index86 (m : List (List Int)) (a : Option Addr) (cap i j bi bj : Nat) (w : World) (hm : RightM m) (hl : RdM w a m) (hi : i < colsN m) (hj : j < colsN m)
    (ci : w.cell? ⟨bi, 0, none⟩ = some (.int .i64 i)) (cj : w.cell? ⟨bj, 0, none⟩ = some (.int .i64 j)) :
    Calls Try.prog 85 #[.slice a m.length cap, .func (.func 86) #[] #[.pointer (some ⟨bi, 0, none⟩), .pointer (some ⟨bj, 0, none⟩)]] w (RetS (.int .i64 (clashM m i j)) w) := by
  have HL := hid hl; clear hl
  have HM := hid hm; clear hm
  have hlen := HM.out.rows
  go_enter Try.func85, Try.ntmps85
  go_wp2
  go_loop [8] (fun s => ∃ k : Nat, k ≤ m.length ∧ s = .int .i64 k ∧ ∀ x, x ∈ m.take k → cl i j x = false) (fun s => m.length - (intOf s).toNat)
  case atStart => exact ⟨0, Nat.zero_le _, rfl, by simp⟩
  case round =>
    obtain ⟨k, hk, rfl, hq⟩ := hrel
    have HQ := hid hq; clear hq
    by_cases hlt : k < m.length
    · obtain ⟨b2, off, ha, hlt2, ak, ck, h1, h2⟩ := HL.out k hlt
      subst ha
      have hk1 := HM.out.len k hlt
      have HK := hid (k86 m[k] ak ck i j bi bj w h2 (by omega) (by omega) (HM.out.ent k hlt) ci cj)
      clear h2 ci cj hk1
      go_wp2_with (go_at_call 86; refine HK.out.mono ?_; rintro e w' ⟨rfl, rfl⟩)
      · have ht : cl i j m[k] = true := by assumption
        go_ret
        exact ⟨ret_int (idxP_some hlt ht HQ.out).symm, rfl⟩
      · have ht : cl i j m[k] = false := by assumption
        have HT := hid ht; clear ht
        go_round
        case rel =>
          refine ⟨k + 1, by omega, by go_num, ?_⟩
          intro x hx
          rw [take_last hlt, List.mem_append] at hx
          rcases hx with hx | hx
          · exact HQ.out x hx
          · rw [List.mem_singleton.1 hx]; exact HT.out
        case measure => simp [intOf]; omega
    · go_wp2
      go_ret
      exact ⟨ret_int (idxP_none (fun x hx => HQ.out x (by rw [List.take_of_length_le (by omega)]; exact hx))).symm, rfl⟩

set_option maxHeartbeats 1000000 in
theorem clash_any (m : List (List Int)) (a : Option Addr) (cap i j : Nat) (w : World) (hm : RightM m) (hl : RdM w a m) (hi : i < colsN m) (hj : j < colsN m) :
    Calls Try.prog 77 #[.slice a m.length cap, .int .i64 i, .int .i64 j] w (RetB (.int .i64 (clashM m i j)) w) := by
  have HL := hid hl; clear hl
  have HM := hid hm; clear hm
  go_enter Try.func77, Try.ntmps77
  go_wp2_with (go_at_call 85; refine (index86 m a cap i j _ _ _ HM.out (HL.out.below ((bnew _ _).step (bnew _ _))) hi hj (cell_later (bnew _ _) (cell0_alloc _ _ _)) (by first | exact cell0_alloc _ _ _ | simp)).mono ?_; rintro e w' ⟨rfl, rfl⟩)
  go_ret
  exact ⟨rfl, (bnew _ _).step (bnew _ _)⟩
end Go.Proofs.Ytliajnflmddnoaa
