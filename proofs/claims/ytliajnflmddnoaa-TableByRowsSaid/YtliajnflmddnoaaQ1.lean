/- Contracts of the reference's Check, clash and Clash. -/
import Derived.Test.YtliajnflmddnoaaG23
namespace Go.Proofs.Ytliajnflmddnoaa
open Go.RowKit

set_option maxRecDepth 100000 in
set_option maxHeartbeats 2000000 in
theorem rcheck_any (m : List (List Int)) (a : Option Addr) (cap : Nat) (w : World) (hl : RdM w a m) (hlen : m.length ≤ 1000000) (hrl : ∀ r, r ∈ m → r.length ≤ 1000000) :
    Calls Try.prog 45 #[.slice a m.length cap] w (RetB (.int .i64 (chkM m)) w) := by
  have HL := hid hl; clear hl
  have HR := hid hrl; clear hrl
  by_cases h1 : 60 < m.length
  · have h1' : (60 : Int) < (m.length : Int) := by omega
    go_enter Try.func45, Try.ntmps45
    go_wp2
    go_ret
    exact ⟨ret_int (by unfold chkM; rw [if_pos (.inl h1)]), Below.refl _ _⟩
  have h1' : ¬ (60 : Int) < (m.length : Int) := by omega
  go_enter Try.func45, Try.ntmps45
  go_wp2
  go_loopg [3] m.length (fun gh s3 wr => ∃ k : Nat, k ≤ m.length ∧ gh = m.length - k ∧ s3 = .int .i64 k ∧ Hid (∀ x, x ∈ m.take k → longB x = false) ∧ Hid (Below w.heap.size w wr))
  case atStart => exact ⟨0, Nat.zero_le _, rfl, rfl, hid (by simp), hid (Below.refl _ _)⟩
  case round =>
    obtain ⟨k, hk, rfl, rfl, HQ, HB⟩ := hrel
    by_cases hlt : k < m.length
    · have hlt' : (k : Int) < (m.length : Int) := by omega
      obtain ⟨b2, off, ha, hlt2, ak, ck, h4, h5⟩ := HL.out.below HB.out k hlt
      subst ha
      have hjl := HR.out _ (List.getElem_mem hlt)
      have HT := hid (take_last hlt)
      obtain ⟨row, hrow⟩ : ∃ row, row = m[k] := ⟨_, rfl⟩
      have HROW := hid hrow
      rw [← hrow] at h4 h5 hjl HT
      clear hrow
      by_cases h6 : 400 < row.length
      · have h6' : (400 : Int) < (row.length : Int) := by omega
        go_wp2
        go_ret
        refine ⟨ret_int ?_, HB.out⟩
        unfold chkM
        rw [if_pos (.inr (List.any_eq_true.2 ⟨_, List.getElem_mem hlt, by rw [← HROW.out]; unfold longB; exact decide_eq_true h6⟩))]
      · have h6' : ¬ (400 : Int) < (row.length : Int) := by omega
        go_wp2
        go_roundg (m.length - (k + 1))
        case measure => omega
        case rel =>
          refine ⟨k + 1, by omega, rfl, by go_num, hid ?_, HB⟩
          intro x hx
          rw [HT.out, List.mem_append] at hx
          rcases hx with hx | hx
          · exact HQ.out x hx
          · rw [List.mem_singleton.1 hx]; unfold longB; exact decide_eq_false h6
    · have hkm : k = m.length := by omega
      subst hkm
      have H12 : Hid (¬ (60 < m.length ∨ m.any longB = true)) := hid (by
        rw [not_or]
        refine ⟨h1, ?_⟩
        rw [List.any_eq_true]
        rintro ⟨x, hx, hx2⟩
        rw [HQ.out x (by rw [List.take_of_length_le (Nat.le_refl _)]; exact hx)] at hx2
        cases hx2)
      clear hlt hk
      by_cases h3 : m.length = 0
      · have h3' : ((m.length : Int) == 0) = true := by rw [beq_iff_eq]; omega
        have H3 := hid h3
        clear h3
        go_wp2
        go_ret
        exact ⟨ret_int (by unfold chkM; rw [if_neg H12.out, if_pos H3.out]), HB.out⟩
      have h3' : ((m.length : Int) == 0) = false := by rw [beq_eq_false_iff_ne]; omega
      have n0 : (0 : Int) < (m.length : Int) := by omega
      have H3 := hid h3
      obtain ⟨b0, o0, ha, hlt0, ai0, ci0, hc0⟩ := HL.out.head (by omega)
      subst ha
      have HC0 := hid hc0
      clear hc0
      obtain ⟨wb, rfl⟩ : ∃ wb : World, wb = wr := ⟨_, rfl⟩
      go_wp2
      go_loopg [4] m.length (fun gh s4 wr => ∃ j : Nat, j ≤ m.length ∧ gh = m.length - j ∧ s4 = .int .i64 j ∧ Hid (∀ x, x ∈ m.take j → evenB m x = true) ∧ Hid (Below w.heap.size w wr))
      case atStart => exact ⟨0, Nat.zero_le _, rfl, rfl, hid (by simp), HB⟩
      case round =>
        obtain ⟨j, hj, rfl, rfl, HQ2, HB2⟩ := hrel
        by_cases hlt : j < m.length
        · have hlt' : (j : Int) < (m.length : Int) := by omega
          obtain ⟨b2, off, ha, hlt2, aj, cj, h4, h5⟩ := HL.out.below HB2.out j hlt
          cases ha
          have hc0 := cell_later HB2.out HC0.out
          have hjl := HR.out _ (List.getElem_mem hlt)
          have HT := hid (take_last hlt)
          have fail1 : evenB m m[j] = false → Hid (chkM m = 1) := fun hf => hid (by
            unfold chkM
            rw [if_neg H12.out, if_neg H3.out, if_neg]
            intro ht
            have := List.all_eq_true.1 ht _ (List.getElem_mem hlt)
            rw [hf] at this
            cases this)
          have FAIL := hid fail1
          clear fail1
          obtain ⟨row, hrow⟩ : ∃ row, row = m[j] := ⟨_, rfl⟩
          rw [← hrow] at h4 h5 hjl HT FAIL
          clear hrow
          have H5 := hid h5
          have H4 := hid h4
          clear h5
          by_cases h6 : row.length = colsN m
          · have h6' : ((row.length : Int) != (colsN m : Int)) = false := by simp; omega
            have H6 := hid h6
            clear h6
            go_upto_region 13 with fail
            go_quiet (fail)
            go_wp2
            clear h6' hc0 h4
            obtain ⟨wc, rfl⟩ : ∃ wc : World, wc = wr := ⟨_, rfl⟩
            go_loopg [5] row.length (fun gh s5 wr => ∃ k : Nat, k ≤ row.length ∧ gh = row.length - k ∧ s5 = .int .i64 k ∧ Hid (∀ x, x ∈ row.take k → rightB x = true) ∧ Hid (Below wc.heap.size wc wr))
            case atStart => exact ⟨0, Nat.zero_le _, rfl, rfl, hid (by simp), hid (bdrewN (Below.refl _ _) _)⟩
            case round =>
              obtain ⟨k, hk, rfl, rfl, HQ3, HB3⟩ := hrel
              have h4 := cell_later HB3.out H4.out
              by_cases hlk : k < row.length
              · have hlk' : (k : Int) < (row.length : Int) := by omega
                obtain ⟨b3, o3, haj, hlt3, h7⟩ := H5.out.below HB3.out k hlk
                subst haj
                have HT3 := hid (take_last hlk)
                have HMEM := hid (List.getElem_mem hlk)
                obtain ⟨x, hx⟩ : ∃ x, x = row[k] := ⟨_, rfl⟩
                rw [← hx] at h7 HT3 HMEM
                clear hx
                cases h8 : rightB x with
                | true =>
                  have H8 := hid h8
                  clear h8
                  go_wp2_with (go_at_call 60; refine (rright_any x _).mono ?_; rw [H8.out]; rintro e w' ⟨rfl, rfl⟩)
                  go_roundg (row.length - (k + 1))
                  case measure => omega
                  case rel =>
                    refine ⟨k + 1, by omega, rfl, by go_num, hid ?_, HB3⟩
                    intro y hy
                    rw [HT3.out, List.mem_append] at hy
                    rcases hy with hy | hy
                    · exact HQ3.out y hy
                    · rw [List.mem_singleton.1 hy]; exact H8.out
                | false =>
                  have H8 := hid h8
                  clear h8
                  go_wp2_with (go_at_call 60; refine (rright_any x _).mono ?_; rw [H8.out]; rintro e w' ⟨rfl, rfl⟩)
                  go_ret
                  refine ⟨ret_int (FAIL.out ?_).out.symm, HB2.out.step HB3.out⟩
                  unfold evenB
                  rw [Bool.and_eq_false_iff]
                  right
                  rw [Bool.eq_false_iff]
                  intro h
                  have := List.all_eq_true.1 h x HMEM.out
                  rw [H8.out] at this
                  cases this
              · have hkr : k = row.length := by omega
                subst hkr
                go_wp2
                go_roundg (m.length - (j + 1))
                case measure => omega
                case rel =>
                  refine ⟨j + 1, by omega, rfl, by go_num, hid ?_, hid (HB2.out.step HB3.out)⟩
                  intro y hy
                  rw [HT.out, List.mem_append] at hy
                  rcases hy with hy | hy
                  · exact HQ2.out y hy
                  · rw [List.mem_singleton.1 hy]
                    unfold evenB
                    rw [H6.out, beq_self_eq_true, Bool.true_and, List.all_eq_true]
                    intro z hz
                    exact HQ3.out z (by rw [List.take_of_length_le (Nat.le_refl _)]; exact hz)
          · have h6' : ((row.length : Int) != (colsN m : Int)) = true := by simp; omega
            have H6 := hid h6
            clear h6
            go_upto_region 13 with fail
            go_quiet (fail)
            go_wp2
            go_ret
            exact ⟨ret_int (FAIL.out (by unfold evenB; rw [show (row.length == colsN m) = false from by simpa using H6.out, Bool.false_and])).out.symm, bdrewN HB2.out _⟩
        · have hjm : j = m.length := by omega
          subst hjm
          go_wp2
          go_ret
          refine ⟨ret_int ?_, HB2.out⟩
          unfold chkM
          rw [if_neg H12.out, if_neg H3.out, if_pos]
          exact List.all_eq_true.2 fun x hx => HQ2.out x (by rw [List.take_of_length_le (Nat.le_refl _)]; exact hx)
end Go.Proofs.Ytliajnflmddnoaa
