/- The contract of place: a row is laid at the least start at which it fits. -/
import Derived.Test.YtecpkjhfbmchgaaG8
import Derived.Deep.CutBlock
namespace Go.Proofs.Ytecpkjhfbmchgaa
open Go.RowKit

/-- An address of a block from a number on. -/
def NewA (base : Nat) (a : Option Addr) : Prop := ∀ b off, a = some ⟨b, off, none⟩ → base ≤ b
/-- What place returns: a start, and cells that can be read. -/
def PlaceRet (s : Int) (L : List (Int × Int)) (w : World) (e : Ending) (w' : World) : Prop := Below w.heap.size w w' ∧ ∃ a c, e = .returned (.tuple #[.int .i64 s, .slice a L.length c]) ∧ L.length ≤ c ∧ RdP w' a L ∧ NewA w.heap.size a

theorem ownP_wr {T : TypeId} {w : World} {base : Nat} {v : Value} {L : List (Int × Int)} (h : OwnP T w base v L) : ∃ a c g, v = .slice a L.length c ∧ L.length ≤ c ∧ base ≤ g ∧ RdP w a L ∧ (L ≠ [] → a = some ⟨g, 0, none⟩ ∧ BP T w g L) ∧ NewA base a := by
  obtain ⟨a, c, hv, hrd⟩ := h.rd
  rcases h.2 with ⟨rfl, h0⟩ | ⟨g, cap, cur, e, hg, hh, h1, h2, h3, h4⟩
  · injection hv with e1 e2 e3
    subst e1
    exact ⟨none, 0, base, by rw [h0], by omega, Nat.le_refl _, hrd, fun hne => absurd (List.length_eq_zero_iff.1 h0) hne, fun b off e => by cases e⟩
  · subst e
    injection hv with e1 e2 e3
    subst e1
    refine ⟨_, cap, g, rfl, h1, hg, hrd, fun hne => ?_, fun b off e => by cases e; exact hg⟩
    obtain ⟨g', c', e1, _, h6⟩ := BP.of_own h hne
    cases e1
    exact ⟨rfl, h6⟩
def padJ (C : List (Int × Int)) (j : Nat) : List (Int × Int) := C ++ List.replicate j (-1, 0)
theorem padJ_length (C : List (Int × Int)) (j : Nat) : (padJ C j).length = C.length + j := by unfold padJ; simp
theorem padJ_succ (C : List (Int × Int)) (j : Nat) : padJ C j ++ [(-1, 0)] = padJ C (j + 1) := by
  unfold padJ
  rw [List.append_assoc, List.replicate_succ']
theorem padJ_end (C : List (Int × Int)) (n : Nat) : padJ C (n - C.length) = padL C n := rfl

theorem fullL_at {row : List Int} {k : Nat} (h : k < (fullL row).length) : (fullL row)[k] < row.length := (mem_fullL.1 (List.getElem_mem h)).1
theorem putU_take {C : List (Int × Int)} {row : List Int} {idx : Int} {s k : Nat} (h : k < (fullL row).length) :
    putU C row idx s ((fullL row).take (k + 1)) = (putU C row idx s ((fullL row).take k)).set (s + (fullL row)[k]) (idx, row.getD (fullL row)[k] (-1)) := by
  rw [take_last h, putU_append]

set_option maxRecDepth 100000 in
set_option maxHeartbeats 4000000 in
theorem place_any (C : List (Int × Int)) (hg : Good C) (a : Option Addr) (cap : Nat) (row : List Int) (ar : Option Addr) (cr : Nat) (idx : Int) (w : World) (hc : RdP w a C) (hlen : C.length ≤ 50000) (hcap : C.length ≤ cap)
    (hr : RdI w ar row) (hok : ∀ e, e ∈ row → rightB e = true) (hrow : row.length ≤ 1000) :
    Calls Try.prog 22 #[.slice a C.length cap, .slice ar row.length cr, .int .i64 idx] w (PlaceRet (startN C row) (putL C row idx) w) := by
  have HC := hid hc; clear hc
  have HR := hid hr; clear hr
  have HG := hid hg; clear hg
  have HOK := hid hok; clear hok
  have HSP := hid (start_spec C row)
  go_enter Try.func22, Try.ntmps22
  go_wp2
  have hb1 : Below w.heap.size w ((w.alloc (.cells #[.slice a C.length cap] 36)).alloc (.cells #[.int .i64 idx] 3)) := (bnew _ _).step (bnew _ _)
  have c3 : ((w.alloc (.cells #[.slice a C.length cap] 36)).alloc (.cells #[.int .i64 idx] 3)).cell? ⟨w.heap.size, 0, none⟩ = some (.slice a C.length cap) := cell_later (bnew _ _) (cell0_alloc _ _ _)
  have c5 : ((w.alloc (.cells #[.slice a C.length cap] 36)).alloc (.cells #[.int .i64 idx] 3)).cell? ⟨w.heap.size + 1, 0, none⟩ = some (.int .i64 idx) := by simp
  have hz : w.heap.size + 2 ≤ ((w.alloc (.cells #[.slice a C.length cap] 36)).alloc (.cells #[.int .i64 idx] 3)).heap.size := by simp
  generalize (w.alloc (.cells #[.slice a C.length cap] 36)).alloc (.cells #[.int .i64 idx] 3) = w1 at *
  obtain ⟨g3, hg3⟩ : ∃ g, g = w.heap.size := ⟨_, rfl⟩
  obtain ⟨g5, hg5⟩ : ∃ g, g = w.heap.size + 1 := ⟨_, rfl⟩
  rw [← hg3] at c3
  rw [← hg5] at c5
  rw [← hg3]
  rw [hg3, ← hg5, ← hg3]
  have HZ := hid (show g3 < w1.heap.size ∧ g5 < w1.heap.size ∧ w.heap.size ≤ g3 ∧ w.heap.size ≤ g5 by omega)
  have HB1 := hid hb1
  have C3 := hid c3
  have C5 := hid c5
  clear hb1 c3 c5 hz hg3 hg5
  go_step3
  go_wp2_with (go_at_call 27; refine (full_any row ar cr _ (HR.out.below HB1.out) HOK.out hrow).mono ?_; rintro e w2 ⟨hb, v, rfl, hown⟩; obtain ⟨al, cl', rfl, hrd⟩ := hown.rd; rw [asI_length]; have HB2 := hid (HB1.out.step hb); have HRD := hid hrd; have C3 := hid (cell_later hb C3.out); have C5 := hid (cell_later hb C5.out); have hsz := hb.size; clear hb hown hrd)
  go_step3
  have hb3 := bnew w2 (.cells #[.slice al (fullL row).length cl'] 33)
  have c8 := cell0_alloc w2 (.slice al (fullL row).length cl') 33
  have hz8 : w2.heap.size < (w2.alloc (.cells #[.slice al (fullL row).length cl'] 33)).heap.size := lt_alloc _ _
  generalize w2.alloc (.cells #[.slice al (fullL row).length cl'] 33) = w3 at *
  have C3 := hid (cell_later hb3 C3.out)
  have C5 := hid (cell_later hb3 C5.out)
  have HRD := hid (HRD.out.below hb3)
  have HB3 := hid (HB2.out.step hb3)
  have C8 := hid c8
  have HZ := hid (show g3 < w3.heap.size ∧ g5 < w3.heap.size ∧ w2.heap.size < w3.heap.size by have := HZ.out; omega)
  obtain ⟨g8, hg8⟩ : ∃ g, g = w2.heap.size := ⟨_, rfl⟩
  rw [← hg8]
  rw [← hg8] at C8 HZ
  clear hb3 c8 hz8 hg8 HB2 HB1 hsz
  go_wp2
  go_loopg [10] (startN C row) (fun gh s10 wr => ∃ s : Nat, s ≤ startN C row ∧ gh = startN C row - s ∧ s10 = .int .i64 s ∧ Hid ((∀ j, j < s → fitsB C row j = false) ∧ Below w3.heap.size w3 wr))
  case atStart => exact ⟨0, Nat.zero_le _, rfl, rfl, hid ⟨fun j hj => absurd hj (Nat.not_lt_zero _), Below.refl _ _⟩⟩
  case round =>
    obtain ⟨s, hs, rfl, rfl, HX⟩ := hrel
    have hs2 : s ≤ 50000 := by have := HSP.out.1; omega
    have HF := hid (fits_any C HG.out a cap s idx g8 g3 g5 row hrow al cl' wr (HC.out.below (HB3.out.step HX.out.2)) (by omega) (by omega) (HRD.out.below HX.out.2) (cell_later HX.out.2 C8.out) (cell_later HX.out.2 C3.out) (cell_later HX.out.2 C5.out))
    cases hf : fitsB C row s with
    | false =>
      rw [hf] at HF
      have hne : s ≠ startN C row := by
        intro e
        rw [e, HSP.out.2.1] at hf
        cases hf
      have HFF := hid hf
      clear hf
      go_wp2_with (go_at_call 47; refine HF.out.mono ?_; rintro e w4 ⟨rfl, hb⟩; have HB4 := hid hb; clear hb)
      go_roundg (startN C row - (s + 1))
      case measure => omega
      case rel =>
        refine ⟨s + 1, by omega, rfl, by go_num, hid ⟨fun j hj => ?_, HX.out.2.step HB4.out⟩⟩
        by_cases e : j = s
        · rw [e]; exact HFF.out
        · exact HX.out.1 j (by omega)
    | true =>
      rw [hf] at HF
      have HSN := hid (start_is hf HX.out.1)
      clear hf hs
      have HCP := hid hcap
      have n1 : (C.length : Int) ≤ (cap : Int) := by omega
      go_upto_block 2 with (go_at_call 47; refine HF.out.mono ?_; rintro e w4 ⟨rfl, hb⟩; have HB4 := hid (HX.out.2.step hb); have c3 := cell_later HB4.out C3.out; clear hb)
      have HB4 := hid HB4.out
      have HPAD : Hid (PadP 65 w4 w4.heap.size (.slice a C.length C.length) (padJ C 0)) := hid (.inl ⟨a, by rw [padJ_length]; rfl, by unfold padJ; rw [List.replicate_zero, List.append_nil]; exact HC.out.below (HB3.out.step HB4.out)⟩)
      clear c3 HX HF
      go_wp2
      go_loopg [11] (s + row.length - C.length) (fun gh s11 wr => ∃ j : Nat, j ≤ s + row.length - C.length ∧ gh = s + row.length - C.length - j ∧ Hid (PadP 65 wr w4.heap.size s11 (padJ C j) ∧ Below w4.heap.size w4 wr))
      case atStart => exact ⟨0, Nat.zero_le _, rfl, hid ⟨HPAD.out, Below.refl _ _⟩⟩
      case round =>
        obtain ⟨j, hj, rfl, HX⟩ := hrel
        obtain ⟨a2, c2, rfl, hrd2⟩ := HX.out.1.rd
        have HRD2 := hid hrd2
        have hpl := padJ_length C j
        have HPL := hid hpl
        generalize hLn : (padJ C j).length = ln at *
        have HLN := hid hLn
        clear hrd2 hpl hLn
        by_cases hlt : ln < s + row.length
        · have hlt1 : (ln : Int) < (s : Int) + row.length := by omega
          have hln := HPL.out
          have hln2 : ln ≤ 60000 := by omega
          clear hln
          go_wp2_with (first
            | (go_at_call 34; refine (none_any _).mono ?_; rintro e w5 ⟨rfl, hb⟩; have HB5 := hid hb; have hsz := (HX.out.2.step hb).size; clear hb)
            | (at_builtin; refine wpList_append_pad pt42 _ rfl _ _ rfl w4.heap.size _ (padJ C j) (-1, 0) rfl (PadP.later HX.out.1 (HB5.out.step (bnew _ _))) ⟨w5.heap.size, 0, none⟩ 1 rfl (rdp_one _ _ _ _) (by rw [HLN.out]; omega) (by simp; omega) ?_; intro v' w6 hown hbel; have HO := hid hown; have HBB := hid hbel; clear hown hbel))
          all_goals
            go_roundg (s + row.length - C.length - (j + 1))
            case measure => have := HPL.out; omega
            case rel =>
              refine ⟨j + 1, by have := HPL.out; omega, rfl, hid ⟨.inr (by rw [← padJ_succ]; exact HO.out), ?_⟩⟩
              exact (HX.out.2.step (HB5.out.step (bnew _ _))).trans HBB.out
        · have hjn : j = s + row.length - C.length := by have := HPL.out; omega
          have hnlt : ¬ (ln : Int) < (s : Int) + row.length := by omega
          have hln2 : ln ≤ 60000 := by have := HPL.out; omega
          have HJN := hid hjn
          clear hjn
          have HL : Hid (padJ C j = padL C (s + row.length)) := hid (by rw [HJN.out, padJ_end])
          rw [HL.out] at HLN
          rw [HL.out] at HRD2
          have hcl := fun (w : World) (h : RdP w a2 (padL C (s + row.length))) => clone63 (padL C (s + row.length)) a2 c2 w h (by rw [HLN.out]; omega)
          simp only [HLN.out] at hcl
          have HCL := hid hcl
          clear hcl
          go_wp2_with (go_at_call 32; (with_reducible refine (HCL.out _ HRD2.out).mono ?_); rintro e w7 ⟨hb, v, rfl, hown⟩; obtain ⟨a7, c7, g7, hv7, hc7, hg7, hr7, hw7, hn7⟩ := ownP_wr hown; have HN7 := hid hn7; clear hn7; rw [HLN.out] at hv7 hc7; subst hv7; have H7 := hid (And.intro hg7 (And.intro hr7 hw7)); have HC7 := hid hc7; have HB7 := hid (HX.out.2.step hb); have c8 := cell_later (HB4.out.step (HX.out.2.step hb)) C8.out; have c5 := cell_later (HB4.out.step (HX.out.2.step hb)) C5.out; clear hb hown hg7 hr7 hw7 hc7)
          have HG7 := hid (show w4.heap.size ≤ g7 by have := H7.out.1; have := HX.out.2.size; omega)
          have HLEN2 := hid (show ln = max C.length (s + row.length) by have := HPL.out; have := HJN.out; omega)
          clear c8 c5 hnlt
          have HH := hid H7.out.2.1
          go_loopg [43] (fullL row).length (fun gh s43 wr => ∃ k : Nat, k ≤ (fullL row).length ∧ gh = (fullL row).length - k ∧ s43 = .int .i64 k ∧ Hid ((padL C (s + row.length) ≠ [] → BP 65 wr g7 (putU (padL C (s + row.length)) row idx s ((fullL row).take k))) ∧ Below w4.heap.size w4 wr))
          case atStart => exact ⟨0, Nat.zero_le _, rfl, rfl, hid ⟨fun h => (H7.out.2.2 h).2, HB7.out⟩⟩
          case round =>
            obtain ⟨k, hk, rfl, rfl, HK⟩ := hrel
            by_cases hlt : k < (fullL row).length
            · have hcr := fullL_at hlt
              have hfl : k < 1000 := by have := manyN_le row; have h9 : manyN row = (fullL row).length := rfl; omega
              have hne : padL C (s + row.length) ≠ [] := by
                intro e
                have h1 := HLN.out
                rw [e] at h1
                have h2 := HLEN2.out
                simp at h1
                omega
              obtain ⟨bl, ol, hal, hll, h1⟩ := (HRD.out.below (HB4.out.step HK.out.2)) k (by rw [asI_length]; exact hlt)
              rw [asI_getElem _ hlt] at h1
              obtain ⟨br, orr, har, hlr, h2⟩ := (HR.out.below (HB3.out.step (HB4.out.step HK.out.2))).at hcr
              have hbp := HK.out.1 hne
              have hpl2 := putU_length (padL C (s + row.length)) row idx s ((fullL row).take k)
              have hput := putU_take (C := padL C (s + row.length)) (idx := idx) (s := s) hlt
              have HNE := hid hne
              have hav := (H7.out.2.2 hne).1
              obtain ⟨c, hc⟩ : ∃ c, c = (fullL row)[k] := ⟨_, rfl⟩
              rw [← hc] at h1 h2 hcr hput
              have hsc : s + c < (putU (padL C (s + row.length)) row idx s ((fullL row).take k)).length := by rw [hpl2, HLN.out, HLEN2.out]; omega
              have hat := hbp.at hsc
              have hf0 := hbp.frozen ((s + c) * 2)
              have hf1 := hbp.frozen ((s + c) * 2 + 1)
              generalize (putU (padL C (s + row.length)) row idx s ((fullL row).take k))[s + c] = old at hat
              obtain ⟨o1, o2⟩ := old
              obtain ⟨t1, t2⟩ := hat
              simp only at t1 t2
              have c5 := cell_later (HB4.out.step HK.out.2) C5.out
              have n1 : (k : Int) < ((fullL row).length : Int) := by omega
              have n2 : (c : Int) < (row.length : Int) := by omega
              have n3 : s + c < ln := by have := HLEN2.out; omega
              have n4 : ((s + c : Nat) : Int) < (ln : Int) := by omega
              have hws0 : IntKind.i64.wrap ((s : Int) + (c : Int)) = (s : Int) + (c : Int) := wrapk (by omega)
              have hws1 : (0 : Int) ≤ (s : Int) + (c : Int) := by omega
              have hws2 : (s : Int) + (c : Int) < (ln : Int) := by omega
              have hws3 : ((s : Int) + (c : Int)).toNat = s + c := by omega
              have HSC := hid hsc
              have HPUT := hid hput
              have HBP := hid hbp
              subst hal
              subst har
              subst hav
              generalize row.getD c (-1) = e at h2 HPUT
              clear hsc hput hbp hpl2 hc hne hlr hll
              go_upto_region 13 with fail
              go_still_tail 11, (by kernel_rfl)
              clear hws0 hws1 hws2 hws3
              change wpList _ _ _ _ _ wr.drew
              have t1d : wr.drew.cell? ⟨g7, (s + c) * 2, none⟩ = some (.int .i64 o1) := t1
              have t2d : wr.drew.cell? ⟨g7, (s + c) * 2 + 1, none⟩ = some (.int .i64 o2) := t2
              have f1d : wr.drew.frozen? ⟨g7, (s + c) * 2, none⟩ = false := hf0
              have f2d : wr.drew.frozen? ⟨g7, (s + c) * 2 + 1, none⟩ = false := hf1
              clear h1 h2 c5
              go_wp2_with fail
              go_roundg ((fullL row).length - (k + 1))
              case measure => omega
              case rel =>
                refine ⟨k + 1, by omega, rfl, by go_num, hid ⟨fun _ => ?_, ?_⟩⟩
                · rw [HPUT.out]
                  exact (HBP.out.below (bdrew _)).set HSC.out idx e
                · exact ((HK.out.2.drew).setCell (p := ⟨g7, _, none⟩) HG7.out _).setCell (p := ⟨g7, _, none⟩) HG7.out _
            · have hkn : k = (fullL row).length := by omega
              subst hkn
              go_wp2
              go_ret2
              have hput : putL C row idx = putU (padL C (s + row.length)) row idx s (fullL row) := by unfold putL; rw [HSN.out]
              have hln : (putL C row idx).length = ln := by rw [hput, putU_length, HLN.out]
              refine ⟨HB3.out.step (HB4.out.step HK.out.2), a7, c7, ?_, by rw [hln]; exact HC7.out, ?_, fun b off e => ?_⟩
              · rw [hln, HSN.out]
                rfl
              · by_cases hne : padL C (s + row.length) = []
                · have h0 : putL C row idx = [] := List.length_eq_zero_iff.1 (by rw [hput, putU_length, hne]; rfl)
                  rw [h0]
                  exact RdP.nil _ _
                · rw [(H7.out.2.2 hne).1, hput]
                  have := (HK.out.1 hne).rd
                  rwa [List.take_of_length_le (Nat.le_refl _)] at this
              · have h1 := HN7.out b off e
                have h2 := HX.out.2.size
                have h3 := (HB3.out.step HB4.out).size
                show w.heap.size ≤ b
                omega
end Go.Proofs.Ytecpkjhfbmchgaa
