/- Contracts of the reference's fits and put. -/
import Derived.Test.YtliajnflmddnoaaQ1
namespace Go.Proofs.Ytliajnflmddnoaa
open Go.RowKit

theorem fits_no {C : List (Int × Int)} {row : List Int} {s k : Nat} (h : nz (row.getD k (-1)) = true) (h2 : occ C (s + k) = true) : fitsB C row s = false := by
  rw [Bool.eq_false_iff]
  intro hf
  rw [fits_iff.1 hf k h] at h2
  cases h2

set_option maxRecDepth 100000 in
set_option maxHeartbeats 2000000 in
theorem rfits_any (C : List (Int × Int)) (a : Option Addr) (cap : Nat) (row : List Int) (ar : Option Addr) (cr s : Nat) (w : World) (hc : RdP w a C) (hr : RdI w ar row) (_hlen : C.length ≤ 50000) (hrow : row.length ≤ 1000) (hs : s ≤ 50000) :
    Calls Try.prog 83 #[.slice a C.length cap, .slice ar row.length cr, .int .i64 s] w (RetS (.bool (fitsB C row s)) w) := by
  have HC := hid hc; clear hc
  have HR := hid hr; clear hr
  go_enter Try.func83, Try.ntmps83
  go_wp2
  go_loop [7] (fun s7 => ∃ k : Nat, k ≤ row.length ∧ s7 = .int .i64 k ∧ Hid (∀ j, j < k → nz (row.getD j (-1)) = true → occ C (s + j) = false)) (fun s7 => row.length - (intOf s7).toNat)
  case atStart => exact ⟨0, Nat.zero_le _, rfl, hid (fun j hj => absurd hj (Nat.not_lt_zero _))⟩
  case round =>
    obtain ⟨k, hk, rfl, HQ⟩ := hrel
    by_cases hlt : k < row.length
    · have hlt' : (k : Int) < (row.length : Int) := by omega
      obtain ⟨b, off, rfl, hb, hx⟩ := HR.out.at hlt
      have next : (nz (row.getD k (-1)) = true → occ C (s + k) = false) → Hid (∀ j, j < k + 1 → nz (row.getD j (-1)) = true → occ C (s + j) = false) := fun h => hid fun j hj hn => by
        by_cases e : j = k
        · rw [e] at hn ⊢; exact h hn
        · exact HQ.out j (by omega) hn
      have HNX := hid next
      clear next
      have HNO := hid (fun h h2 => fits_no (C := C) (row := row) (s := s) (k := k) h h2)
      generalize row.getD k (-1) = x at *
      by_cases h1 : x = -1
      · have d1 : (x != -1) = false := by simp [h1]
        have HN := hid (HNX.out (fun h => by unfold nz at h; rw [d1] at h; cases h))
        clear h1
        go_wp2
        go_round
        case rel => exact ⟨k + 1, by omega, by go_num, HN.out⟩
        case measure => simp [intOf]; omega
      · have d1 : (x != -1) = true := by simp [h1]
        have HNZ : Hid (nz x = true) := hid d1
        clear h1
        have hw1 : IntKind.i64.wrap ((s : Int) + (k : Int)) = ((s + k : Nat) : Int) := by rw [wrapk (by omega)]; omega
        by_cases h2 : s + k < C.length
        · have n2 : ((s + k : Nat) : Int) < (C.length : Int) := by omega
          have d2 : decide (s + k < C.length) = true := decide_eq_true h2
          have d2' : decide (((s + k : Nat) : Int) < (C.length : Int)) = true := decide_eq_true n2
          obtain ⟨b2, off2, rfl, hlt2, q1, q2⟩ := HC.out.at h2
          have HO : Hid (occ C (s + k) = decide (0 ≤ (C.getD (s + k) (-1, 0)).1)) := hid rfl
          generalize (C.getD (s + k) (-1, 0)).1 = y at *
          generalize (C.getD (s + k) (-1, 0)).2 = z at *
          by_cases h3 : 0 ≤ y
          · have d3 : decide (0 ≤ y) = true := decide_eq_true h3
            have HF := hid (HNO.out HNZ.out (by rw [HO.out]; exact d3))
            go_wp2
            go_ret
            exact ⟨ret_bool HF.out.symm, rfl⟩
          · have d3 : decide (0 ≤ y) = false := decide_eq_false h3
            have HN := hid (HNX.out (fun _ => by rw [HO.out]; exact d3))
            go_wp2
            go_round
            case rel => exact ⟨k + 1, by omega, by go_num, HN.out⟩
            case measure => simp [intOf]; omega
        · have d2 : decide (s + k < C.length) = false := decide_eq_false h2
          have n2 : ¬ ((s + k : Nat) : Int) < (C.length : Int) := by omega
          have HN := hid (HNX.out (fun _ => occ_out (by omega)))
          go_wp2
          go_round
          case rel => exact ⟨k + 1, by omega, by go_num, HN.out⟩
          case measure => simp [intOf]; omega
    · go_wp2
      go_ret
      refine ⟨ret_bool ?_, rfl⟩
      rw [eq_comm, fits_iff]
      intro j hj
      exact HQ.out j (by have := nz_lt hj; omega) hj

/-- What put returns: cells of its own, and where the row begins. -/
def PutRet (L : List (Int × Int)) (s : Int) (w : World) (e : Ending) (w' : World) : Prop := Below w.heap.size w w' ∧ ∃ a c, e = .returned (.tuple #[.slice a L.length c, .int .i64 s]) ∧ L.length ≤ c ∧ RdP w' a L ∧ NewA w.heap.size a

set_option maxRecDepth 100000 in
set_option maxHeartbeats 4000000 in
theorem rput_any (C : List (Int × Int)) (a : Option Addr) (cap : Nat) (row : List Int) (ar : Option Addr) (cr : Nat) (idx : Int) (w : World) (hc : RdP w a C) (hlen : C.length ≤ 40000) (hr : RdI w ar row) (hrow : row.length ≤ 1000) :
    Calls Try.prog 56 #[.slice a C.length cap, .slice ar row.length cr, .int .i64 idx] w (PutRet (putL C row idx) (startN C row) w) := by
  have HC := hid hc; clear hc
  have HR := hid hr; clear hr
  have HSP := hid (start_spec C row)
  have hsl := HSP.out.1
  have H83 : Hid (Calls Try.prog 83 #[.slice a C.length cap, .slice ar row.length cr, .int .i64 0] w (RetS (.bool (fitsB C row 0)) w)) := hid (rfits_any C a cap row ar cr 0 w HC.out HR.out (by omega) hrow (by omega))
  go_enter Try.func56, Try.ntmps56
  go_wp2_with (go_at_call 83; (with_reducible refine H83.out.mono ?_); rintro e w1 ⟨rfl, rfl⟩)
  go_loop [8, 9] (fun s8 s9 => ∃ s : Nat, s ≤ startN C row ∧ s8 = .int .i64 s ∧ s9 = .bool (fitsB C row s) ∧ Hid (∀ j, j < s → fitsB C row j = false)) (fun s8 _ => startN C row - (intOf s8).toNat)
  case atStart => exact ⟨0, Nat.zero_le _, rfl, rfl, hid (fun j hj => absurd hj (Nat.not_lt_zero _))⟩
  case round =>
    obtain ⟨s, hs, rfl, rfl, HQ⟩ := hrel
    cases hf : fitsB C row s with
    | false =>
      have hne : s ≠ startN C row := by
        intro e
        rw [e, HSP.out.2.1] at hf
        cases hf
      have HFF := hid hf
      clear hf
      have H83 : Hid (Calls Try.prog 83 #[.slice a C.length cap, .slice ar row.length cr, .int .i64 ((s : Int) + 1)] w (RetS (.bool (fitsB C row (s + 1))) w)) := hid (rfits_any C a cap row ar cr (s + 1) w HC.out HR.out (by omega) hrow (by omega))
      go_wp2_with (go_at_call 83; (with_reducible refine H83.out.mono ?_); rintro e w1 ⟨rfl, rfl⟩)
      go_round
      case rel =>
        refine ⟨s + 1, by omega, by go_num, rfl, hid (fun j hj => ?_)⟩
        by_cases e : j = s
        · rw [e]; exact HFF.out
        · exact HQ.out j (by omega)
      case measure => simp [intOf]; omega
    | true =>
      have HSN := hid (start_is hf HQ.out)
      clear hf hs
      have hs : s ≤ 40000 := by have := HSN.out; omega
      have HB0 := hid (bnew w (.cells #[] 99))
      go_wp2_with (at_builtin; refine wpList_append_pairs pt42 _ rfl _ _ rfl w.heap.size _ [] C rfl (OwnP.none (Nat.le_refl _) (heapn _ _ _ rfl)) a cap rfl (HC.out.below (bnew _ _)) (by simp; omega) (by simp) ?_; intro v' w3 hown' hgrow hnil; have HG := hid hgrow; have HO := hid hown'; clear hgrow hown' hnil)
      have HB3 : Hid (Below w.heap.size w w3) := hid ((bnew _ _).grown HG.out (by simp) (own_ge (OwnP.none (T := 99) (base := w.heap.size) (w := w.alloc (.cells #[] 99)) (Nat.le_refl _) (heapn _ _ _ rfl))))
      have HO3 : Hid (OwnP 99 w3 w.heap.size v' (padJ C 0)) := hid (by have h := HO.out; unfold padJ; rw [List.replicate_zero, List.append_nil]; rwa [List.nil_append] at h)
      clear HO HG
      go_loopg [10] (s + row.length - C.length) (fun gh s10 wr => ∃ j : Nat, j ≤ s + row.length - C.length ∧ gh = s + row.length - C.length - j ∧ Hid (OwnP 99 wr w.heap.size s10 (padJ C j) ∧ Below w.heap.size w wr))
      case atStart => exact ⟨0, Nat.zero_le _, rfl, hid ⟨HO3.out, HB3.out⟩⟩
      case round =>
        obtain ⟨j, hj, rfl, HX⟩ := hrel
        obtain ⟨a2, c2, g2, rfl, hc2, hg2, hrd2, hbp2, hnew2⟩ := ownP_wr HX.out.1
        have H2 := hid (And.intro hc2 (And.intro hrd2 (And.intro hbp2 hnew2)))
        have HG2 := hid hg2
        have hpl := padJ_length C j
        have HPL := hid hpl
        generalize hLn : (padJ C j).length = ln at *
        have HLN := hid hLn
        clear hrd2 hbp2 hnew2 hc2 hg2 hpl hLn
        by_cases hlt : ln < s + row.length
        · have hlt1 : (ln : Int) < (s : Int) + row.length := by omega
          have hln2 : ln ≤ 60000 := by have := HPL.out; omega
          have hsz := HX.out.2.size
          have e : OwnP 99 wr w.heap.size (.slice a2 ln c2) (padJ C j) := HX.out.1
          have HE := hid e
          clear e
          go_wp2_with (at_builtin; refine wpList_append_pairs pt42 _ rfl _ _ rfl w.heap.size _ (padJ C j) [(-1, 0)] rfl (HE.out.later (bnew _ _)) (some ⟨wr.heap.size, 0, none⟩) 1 rfl (rdp_one _ _ _ _) (by rw [HLN.out]; simp; omega) (by simp; omega) ?_; intro v' w6 hown hgrow hnil; have HO := hid hown; have HG := hid hgrow; clear hown hgrow hnil)
          all_goals
            go_roundg (s + row.length - C.length - (j + 1))
            case measure => have := HPL.out; omega
            case rel =>
              refine ⟨j + 1, by have := HPL.out; omega, rfl, hid ⟨by rw [← padJ_succ]; exact HO.out, ?_⟩⟩
              exact (HX.out.2.alloc hsz _).grown HG.out (by simp; omega) (own_ge HE.out)
        · have hjn : j = s + row.length - C.length := by have := HPL.out; omega
          have hnlt : ¬ (ln : Int) < (s : Int) + row.length := by omega
          have hln2 : ln ≤ 60000 := by have := HPL.out; omega
          have HJN := hid hjn
          have hcnt : ln = max C.length (s + row.length) := by have := HPL.out; omega
          have HLEN2 := hid hcnt
          clear hjn hcnt
          have HL : Hid (padJ C j = padL C (s + row.length)) := hid (by rw [HJN.out, padJ_end])
          rw [HL.out] at HLN H2
          obtain ⟨wo, rfl⟩ : ∃ wo : World, wo = wr := ⟨_, rfl⟩
          have HBO := hid HX.out.2
          clear HX HO3 HB3
          go_wp2
          go_loopg [11] row.length (fun gh s11 wr => ∃ k : Nat, k ≤ row.length ∧ gh = row.length - k ∧ s11 = .int .i64 k ∧ Hid ((padL C (s + row.length) ≠ [] → BP 99 wr g2 (putU (padL C (s + row.length)) row idx s (fullU row k))) ∧ Below w.heap.size w wr))
          case atStart => exact ⟨0, Nat.zero_le _, rfl, rfl, hid ⟨fun h => (H2.out.2.2.1 h).2, HBO.out⟩⟩
          case round =>
            obtain ⟨k, hk, rfl, rfl, HK⟩ := hrel
            by_cases hlt : k < row.length
            · have nk : (k : Int) < (row.length : Int) := by omega
              have HS := hid (fullU_succ row k)
              obtain ⟨br, orr, har, hlr, h2⟩ := (HR.out.below HK.out.2).at hlt
              subst har
              have hne : padL C (s + row.length) ≠ [] := by
                intro e
                have h1 := HLN.out
                rw [e] at h1
                have h2 := HLEN2.out
                simp at h1
                omega
              have hbp := HK.out.1 hne
              have hav := (H2.out.2.2.1 hne).1
              have HPU : Hid (∀ e, e = row.getD k (-1) → putU (padL C (s + row.length)) row idx s (fullU row k ++ [k]) = (putU (padL C (s + row.length)) row idx s (fullU row k)).set (s + k) (idx, e)) := hid fun e he => by rw [putU_append, he]
              obtain ⟨x, hx⟩ : ∃ x, x = row.getD k (-1) := ⟨_, rfl⟩
              rw [← hx] at h2 HS
              have HPUT := hid (HPU.out x hx)
              clear hx HPU
              have HNE := hid hne
              clear hne
              by_cases h1 : x = -1
              · have d1 : (x != -1) = false := by simp [h1]
                have HN : Hid (fullU row (k + 1) = fullU row k) := hid (by rw [HS.out, if_neg (by unfold nz; rw [d1]; simp)])
                clear h1 hbp hav
                go_wp2
                go_roundg (row.length - (k + 1))
                case measure => omega
                case rel => exact ⟨k + 1, by omega, rfl, by go_num, hid ⟨fun h => by rw [HN.out]; exact HK.out.1 h, HK.out.2⟩⟩
              · have d1 : (x != -1) = true := by simp [h1]
                have HN : Hid (fullU row (k + 1) = fullU row k ++ [k]) := hid (by rw [HS.out, if_pos (by unfold nz; exact d1)])
                clear h1
                have hpl2 := putU_length (padL C (s + row.length)) row idx s (fullU row k)
                have hsc : s + k < (putU (padL C (s + row.length)) row idx s (fullU row k)).length := by rw [hpl2, HLN.out, HLEN2.out]; omega
                have hat := hbp.at hsc
                have hf0 := hbp.frozen ((s + k) * 2)
                have hf1 := hbp.frozen ((s + k) * 2 + 1)
                have HSC := hid hsc
                have HBP := hid hbp
                generalize (putU (padL C (s + row.length)) row idx s (fullU row k))[s + k] = old at hat
                obtain ⟨o1, o2⟩ := old
                obtain ⟨t1, t2⟩ := hat
                simp only at t1 t2
                have n3 : s + k < ln := by have := HLEN2.out; omega
                have n4 : ((s + k : Nat) : Int) < (ln : Int) := by omega
                have hws0 : IntKind.i64.wrap ((s : Int) + (k : Int)) = ((s + k : Nat) : Int) := by rw [wrapk (by omega)]; omega
                subst hav
                clear hsc hbp hpl2 hlr
                go_wp2
                go_roundg (row.length - (k + 1))
                case measure => omega
                case rel =>
                  refine ⟨k + 1, by omega, rfl, by go_num, hid ⟨fun _ => ?_, ?_⟩⟩
                  · rw [HN.out, HPUT.out]
                    exact HBP.out.set HSC.out idx x
                  · exact ((HK.out.2).setCell (p := ⟨g2, _, none⟩) HG2.out _).setCell (p := ⟨g2, _, none⟩) HG2.out _
            · have hkn : k = row.length := by omega
              subst hkn
              go_wp2
              go_ret2
              have hput : putL C row idx = putU (padL C (s + row.length)) row idx s (fullL row) := by unfold putL; rw [HSN.out]
              have hln : (putL C row idx).length = ln := by rw [hput, putU_length, HLN.out]
              refine ⟨HK.out.2, a2, c2, ?_, by rw [hln]; exact H2.out.1, ?_, H2.out.2.2.2⟩
              · rw [hln, HSN.out]
                rfl
              · by_cases hne : padL C (s + row.length) = []
                · have h0 : putL C row idx = [] := List.length_eq_zero_iff.1 (by rw [hput, putU_length, hne]; rfl)
                  rw [h0]
                  exact RdP.nil _ _
                · rw [(H2.out.2.2.1 hne).1, hput]
                  exact (HK.out.1 hne).rd
end Go.Proofs.Ytliajnflmddnoaa
