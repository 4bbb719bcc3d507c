/- Contracts of the closures of place: whether a row fits at a start. -/
import Derived.Test.YtliajnflmddnoaaG10
namespace Go.Proofs.Ytliajnflmddnoaa
open Go.RowKit

/-- A cell that belongs to no row is empty. -/
def Good (C : List (Int × Int)) : Prop := ∀ p, occ C p = false → C.getD p (-1, 0) = (-1, 0)
theorem kind_occ {C : List (Int × Int)} (h : Good C) (p : Nat) (row : Int) : ((kindV C p row != 0) : Bool) = occ C p := by
  unfold kindV
  cases ho : occ C p with
  | false => rw [h p ho]; rfl
  | true =>
    have : C.getD p (-1, 0) ≠ (-1, 0) := by
      intro e
      unfold occ at ho
      rw [e] at ho
      cases ho
    rw [if_neg this]
    split <;> rfl

set_option maxHeartbeats 1000000 in
theorem k82 (C : List (Int × Int)) (hg : Good C) (a : Option Addr) (cap s k : Nat) (idx : Int) (g1 g2 g3 : Nat) (w : World) (hc : RdP w a C) (hlen : C.length ≤ 100000) (hs : s ≤ 100000) (hk : k ≤ 100000)
    (c1 : w.cell? ⟨g1, 0, none⟩ = some (.slice a C.length cap)) (c2 : w.cell? ⟨g2, 0, none⟩ = some (.int .i64 s)) (c3 : w.cell? ⟨g3, 0, none⟩ = some (.int .i64 idx)) :
    Calls Try.prog 82 #[.int .i64 k, .pointer (some ⟨g1, 0, none⟩), .pointer (some ⟨g2, 0, none⟩), .pointer (some ⟨g3, 0, none⟩)] w (RetB (.bool (occ C (s + k))) w) := by
  have HO := hid (kind_occ hg (s + k) idx)
  have HK := hid (kind_any C a cap (s + k) idx w hc (by omega) (by omega))
  clear hc
  go_enter Try.func82, Try.ntmps82
  go_wp2_with (go_at_call 64; refine HK.out.mono ?_; rintro e w1 ⟨rfl, hb⟩; have HB := hid hb; clear hb)
  go_ret
  exact ⟨ret_bool HO.out, HB.out⟩

set_option maxHeartbeats 1000000 in
theorem index82 (C : List (Int × Int)) (hg : Good C) (a : Option Addr) (cap s : Nat) (idx : Int) (g1 g2 g3 : Nat) (l : List Nat) (al : Option Addr) (cl' : Nat) (w : World) (hc : RdP w a C) (hlen : C.length ≤ 100000) (hs : s ≤ 100000)
    (hl : RdI w al (asI l)) (hll : l.length ≤ 1000) (hk : ∀ k, k ∈ l → k ≤ 1000)
    (c1 : w.cell? ⟨g1, 0, none⟩ = some (.slice a C.length cap)) (c2 : w.cell? ⟨g2, 0, none⟩ = some (.int .i64 s)) (c3 : w.cell? ⟨g3, 0, none⟩ = some (.int .i64 idx)) :
    Calls Try.prog 84 #[.slice al l.length cl', .func (.func 82) #[] #[.pointer (some ⟨g1, 0, none⟩), .pointer (some ⟨g2, 0, none⟩), .pointer (some ⟨g3, 0, none⟩)]] w (RetB (.int .i64 (idxP (fun k => occ C (s + k)) l)) w) := by
  have HL := hid hl; clear hl
  have HC := hid hc; clear hc
  have HKK := hid hk; clear hk
  have HG := hid hg; clear hg
  have H1 := hid c1
  have H2 := hid c2
  have H3 := hid c3
  clear c1 c2 c3
  go_enter Try.func84, Try.ntmps84
  go_wp2
  go_loopw [8] (fun i wr => ∃ j : Nat, j ≤ l.length ∧ i = .int .i64 j ∧ Hid (∀ x, x ∈ l.take j → occ C (s + x) = false) ∧ Hid (Below w.heap.size w wr)) (fun i _ => l.length - (intOf i).toNat)
  case atStart => exact ⟨0, Nat.zero_le _, rfl, hid (by simp), hid (Below.refl _ _)⟩
  case round =>
    obtain ⟨j, hj, rfl, HQ, HB⟩ := hrel
    by_cases hlt : j < l.length
    · obtain ⟨b2, off, ha, hlt2, h1⟩ := HL.out.below HB.out j (by rw [asI_length]; exact hlt)
      rw [asI_getElem _ hlt] at h1
      subst ha
      have hkm := HKK.out l[j] (List.getElem_mem hlt)
      obtain ⟨k, hk⟩ : ∃ k, k = l[j] := ⟨_, rfl⟩
      rw [← hk] at h1 hkm
      have HK := hid hk
      clear hk
      have HCC := hid (k82 C HG.out a cap s k idx g1 g2 g3 wr (HC.out.below HB.out) hlen hs (by omega) (cell_later HB.out H1.out) (cell_later HB.out H2.out) (cell_later HB.out H3.out))
      generalize hoc : occ C (s + k) = oc at HCC
      have HOC := hid hoc
      clear hoc
      go_wp2_with (go_at_call 82; refine HCC.out.mono ?_; rintro e w2 ⟨rfl, hb⟩; have HB2 := hid (HB.out.step hb); clear hb)
      · have ht : oc = true := by assumption
        go_ret
        exact ⟨ret_int (idxP_some (p := fun k => occ C (s + k)) hlt (by show occ C (s + l[j]) = true; rw [← HK.out, HOC.out]; exact ht) HQ.out).symm, HB2.out⟩
      · have ht : oc = false := by assumption
        have HT := hid ht; clear ht
        go_roundw
        case rel =>
          refine ⟨j + 1, by omega, by go_num, hid ?_, HB2⟩
          intro x hx
          rw [take_last hlt, List.mem_append] at hx
          rcases hx with hx | hx
          · exact HQ.out x hx
          · rw [List.mem_singleton.1 hx, ← HK.out, HOC.out]; exact HT.out
        case measure => simp [intOf]; omega
    · go_wp2
      go_ret
      exact ⟨ret_int (idxP_none (p := fun k => occ C (s + k)) (fun x hx => HQ.out x (by rw [List.take_of_length_le (by omega)]; exact hx))).symm, HB.out⟩

set_option maxHeartbeats 1000000 in
theorem some82 (C : List (Int × Int)) (hg : Good C) (a : Option Addr) (cap s : Nat) (idx : Int) (g1 g2 g3 : Nat) (l : List Nat) (al : Option Addr) (cl' : Nat) (w : World) (hc : RdP w a C) (hlen : C.length ≤ 100000) (hs : s ≤ 100000)
    (hl : RdI w al (asI l)) (hll : l.length ≤ 1000) (hk : ∀ k, k ∈ l → k ≤ 1000)
    (c1 : w.cell? ⟨g1, 0, none⟩ = some (.slice a C.length cap)) (c2 : w.cell? ⟨g2, 0, none⟩ = some (.int .i64 s)) (c3 : w.cell? ⟨g3, 0, none⟩ = some (.int .i64 idx)) :
    Calls Try.prog 57 #[.slice al l.length cl', .func (.func 82) #[] #[.pointer (some ⟨g1, 0, none⟩), .pointer (some ⟨g2, 0, none⟩), .pointer (some ⟨g3, 0, none⟩)]] w (RetB (.bool (l.any fun k => occ C (s + k))) w) := by
  have HI := hid (index82 C hg a cap s idx g1 g2 g3 l al cl' w hc hlen hs hl hll hk c1 c2 c3)
  have HX := hid (idxP_any (fun k => occ C (s + k)) l)
  clear hg hc hl hk c1 c2 c3
  go_enter Try.func57, Try.ntmps57
  go_wp2_with (go_at_call 84; refine HI.out.mono ?_; rintro e w1 ⟨rfl, hb⟩; have HB := hid hb; clear hb)
  go_ret
  exact ⟨ret_bool HX.out, HB.out⟩

theorem fits_any' (C : List (Int × Int)) (row : List Int) (s : Nat) : (!(fullL row).any fun k => occ C (s + k)) = fitsB C row s := by
  rw [fits_occ, List.all_eq_not_any_not]
  simp

set_option maxHeartbeats 1000000 in
theorem fits_any (C : List (Int × Int)) (hg : Good C) (a : Option Addr) (cap s : Nat) (idx : Int) (gl g1 g3 : Nat) (row : List Int) (hrow : row.length ≤ 1000) (al : Option Addr) (cl' : Nat) (w : World) (hc : RdP w a C) (hlen : C.length ≤ 100000) (hs : s ≤ 100000)
    (hl : RdI w al (asI (fullL row)))
    (c0 : w.cell? ⟨gl, 0, none⟩ = some (.slice al (fullL row).length cl')) (c1 : w.cell? ⟨g1, 0, none⟩ = some (.slice a C.length cap)) (c3 : w.cell? ⟨g3, 0, none⟩ = some (.int .i64 idx)) :
    Calls Try.prog 81 #[.int .i64 s, .pointer (some ⟨gl, 0, none⟩), .pointer (some ⟨g1, 0, none⟩), .pointer (some ⟨g3, 0, none⟩)] w (RetB (.bool (fitsB C row s)) w) := by
  have HF := hid (fits_any' C row s)
  have hb1 := bnew w (.cells #[.int .i64 s] 3)
  have HI := hid (some82 C hg a cap s idx g1 w.heap.size g3 (fullL row) al cl' (w.alloc (.cells #[.int .i64 s] 3)) (hc.below hb1) hlen hs (hl.below hb1) (Nat.le_trans (manyN_le row) hrow) (fun k hk => by have := (mem_fullL.1 hk).1; omega) (cell_later hb1 c1) (cell0_alloc _ _ _) (cell_later hb1 c3))
  have HB1 := hid hb1
  have c0' := cell_later hb1 c0
  clear hg hc hl c0 c1 c3 hb1
  go_enter Try.func81, Try.ntmps81
  go_wp2_with (go_at_call 57; refine HI.out.mono ?_; rintro e w1 ⟨rfl, hb⟩; have HB := hid (HB1.out.step hb); clear hb)
  go_ret
  exact ⟨ret_bool HF.out, HB.out⟩
end Go.Proofs.Ytliajnflmddnoaa
