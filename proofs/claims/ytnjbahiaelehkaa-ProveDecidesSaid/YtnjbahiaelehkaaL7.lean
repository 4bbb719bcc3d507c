/- ProveDecides: the walk. -/
import Derived.Test.YtnjbahiaelehkaaD14
import Derived.Test.YtnjbahiaelehkaaD6
import Derived.Test.YtnjbahiaelehkaaB4
import Derived.Test.YtnjbahiaelehkaaA23
namespace Go.Proofs.Ytnjbahiaelehkaa
open Go.RowKit

set_option maxRecDepth 100000 in
set_option maxHeartbeats 4000000 in
theorem model_err (n : Int) (l : List AM) (a : Option Addr) (cap : Nat) (w : World) (hc : checkN n l ≠ 0) (hl : Rd w a l) (hlen : l.length ≤ 1000000) :
    Calls Try.prog 37 #[.int .i64 n, .slice a l.length cap] w (Ret2 (.slice none 0 0) (.int .i64 (checkN n l)) w) := by
  have hne : (checkN n l != 0) = true := by simpa using hc
  go_enter Try.func37, Try.ntmps37
  go_wp2_with (go_at_call 31; (with_reducible refine (check_any n l a cap _ hl (by omega)).mono ?_); rintro e w1 ⟨rfl, hb⟩)
  go_ret2
  exact ⟨rfl, hb⟩
set_option maxRecDepth 100000 in
set_option maxHeartbeats 4000000 in
theorem model_none (N : Nat) (hN : N ≤ 12) (l : List AM) (a : Option Addr) (cap : Nat) (w : World) (hc : checkN N l = 0) (hp : possB l = false) (hl : Rd w a l) (hlen : l.length ≤ 40) :
    Calls Try.prog 37 #[.int .i64 N, .slice a l.length cap] w (Ret2 (.slice none 0 0) (.int .i64 5) w) := by
  have HL := hid hl; clear hl
  have HC := hid hc
  obtain ⟨_, _, hrs⟩ := checkN_in hc
  have HOK := hid (rights_ok hrs)
  have HP := hid hp
  clear hc hrs hp
  go_enter Try.func37, Try.ntmps37
  go_upto_region 4 with (go_at_call 31; (with_reducible refine (check_any _ l a cap _ HL.out (by omega)).mono ?_); rw [HC.out]; rintro e w1 ⟨rfl, hb⟩; have HB := hid hb; clear hb)
  go_wp2_with (go_at_call 57; (with_reducible refine (shut_any N hN _ l a cap 1000000 HOK.out hM6 hF6 (HL.out.below HB.out) (by omega)).mono ?_); rintro e w2 ⟨hb, C, M, no, tp, ty, D, T, rfl, cv, hm, hbd, hor⟩; obtain ⟨d, rfl⟩ := no_some HP.out hor; have hfd := field105 C (.pointer (some ⟨d, 0, none⟩)) cv.no; have HB := hid (HB.out.step hb); clear hb cv hm hbd hor)
  go_ret2
  exact ⟨rfl, HB.out⟩
theorem modelL_at (l : List AM) (N k : Nat) (h : k < N) : fn (modelL l N) k = modelX l k := by
  unfold fn modelL
  rw [List.getD_eq_getElem?_getD]
  simp [h]
theorem model_fits {N : Nat} (hN : N ≤ 12) {l : List AM} (hc : checkN N l = 0) (m : MdI l N N) : fitIs N l (modelL l N) = true := by
  obtain ⟨_, _, hrs⟩ := checkN_in hc
  have ok := rights_ok hrs
  have hs := m.fit ok
  have hall : (modelL l N).all inF = true := by
    rw [List.all_eq_true]
    intro y hy
    unfold modelL at hy
    obtain ⟨j, hj, rfl⟩ := List.mem_map.1 hy
    have := m.bd j (List.mem_range.1 hj)
    have := List.mem_range.1 hj
    simp [inF, inB]
    omega
  have hE : fitE N l (modelL l N) = 0 := by unfold fitE; rw [if_pos hc, if_pos ⟨by rw [modelL_len], hall⟩]
  have hfi : l.findIdx? (badB (modelL l N)) = none := find_none fun y hy => by
    have o := ok y hy
    have h1 := hs y hy
    unfold badB
    rw [decide_eq_false_iff_not]
    have o1 := o.a0
    have o2 := o.an
    have e1 := modelL_at l N y.A.toNat (by omega)
    unfold lhs at h1 ⊢
    rw [e1]
    by_cases hq : y.Q = 0
    · rw [hq] at h1 ⊢
      omega
    · obtain ⟨b0, b1, _⟩ := o.b1 hq
      rw [modelL_at l N y.B.toNat (by omega)]
      omega
  unfold fitIs
  rw [if_pos hE, hfi]
  rfl
theorem field56 (a : Int) (b : Bool) (c : Int) (w : World) : (Instr.field 56 (.agg #[.int .i64 a, .bool b, .int .i64 c]) 1).run Try.prog w = .ok (.bool b) w := by kernel_rfl
theorem ref_short {N : Nat} {l : List AM} {p : List Stp} (h : refB N l p = true) : p.length ≤ 400 := by
  unfold refB sayS at h
  by_cases hl : 1 ≤ p.length ∧ p.length ≤ 400
  · exact hl.2
  · rw [if_neg hl] at h
    cases h

set_option maxRecDepth 100000 in
set_option maxHeartbeats 8000000 in
theorem decides_any (n : Int) (l : List AM) (a : Option Addr) (cap : Nat) (w : World) (hl : Rd w a l) (hlen : l.length ≤ 9223372036854775807) :
    Calls Try.prog 9 #[.int .i64 n, .slice a l.length cap] w (RetB (.bool true) w) := by
  have HL := hid hl; clear hl
  have HB := hid (Below.refl w.heap.size w)
  by_cases hs : l.length ≤ 60
  · have ds : decide (l.length ≤ 60) = true := by simpa using hs
    by_cases hc : checkN n l = 0
    · obtain ⟨⟨hn1, hn2⟩, hl40, hrs⟩ := checkN_in hc
      obtain ⟨N, rfl⟩ : ∃ N : Nat, n = (N : Int) := ⟨n.toNat, by omega⟩
      have hN : N ≤ 12 := by omega
      have hN1 : 1 ≤ N := by omega
      have HC := hid hc
      cases hp : possB l with
      | true =>
        have HPB := hid hp
        have HPV : Hid (possV N l = true) := hid (by unfold possV; rw [if_pos hc, hp])
        have HRV : Hid (refuV N l = false) := hid (by unfold refuV; rw [if_pos hc, hp]; rfl)
        have hf56 := field56
        have HF56 := hid hf56
        clear hc hrs hp hf56
        go_enter Try.func9, Try.ntmps9
        go_upto_region 4 with (first
          | (go_at_call 16; (with_reducible refine (short_any l a cap _ hlen).mono ?_); rintro e w1 ⟨rfl, rfl⟩)
          | (go_at_call 24; (with_reducible refine (possible_any _ l a cap _ (HL.out.below HB.out) (by omega)).mono ?_); rw [HPV.out, HC.out]; rintro e w1 ⟨rfl, hb⟩; have HB := hid (HB.out.step hb); clear hb))
        go_upto_region 5 with (go_at_call 36; (with_reducible refine (rPoss_any _ l a cap _ (HL.out.below HB.out) (by omega)).mono ?_); rw [HPV.out, HC.out]; rintro e w1 ⟨rfl, hb⟩; have HB := hid (HB.out.step hb); clear hb)
        have HB := hid (bmore HB.out (.cells #[.bool true, .int .i64 0] 61))
        have HQ : Hid ((w1.alloc (.cells #[.bool true, .int .i64 0] 61)).heap[w1.heap.size]? = some (.cells #[.bool true, .int .i64 0] 61 (0, 0))) := hid (by simp only [heap_alloc_if] <;> simp)
        generalize w1.alloc (.cells #[.bool true, .int .i64 0] 61) = W1 at *
        generalize w1.heap.size = q1 at *
        go_upto_region 6 with (go_at_call 37; (with_reducible refine (model_yes N hN1 hN l a cap _ HC.out HPB.out (HL.out.below HB.out) hl40).mono ?_); rintro e w1 ⟨hb, v, rfl, hown, hmd⟩; have HB := hid (HB.out.step hb); have HQ := hid (keepBox hb HQ.out); have HOW := hid hown; have HMD := hid hmd; clear hown hmd; clear hb)
        obtain ⟨a8, c8, hv8, hr8⟩ := HOW.out.rd
        subst hv8
        have HM8 := hid hr8
        have HFI := hid (model_fits hN HC.out HMD.out)
        clear hr8 HOW
        go_upto_region 7 with (go_at_call 38; (with_reducible refine (refute_any _ l a cap _ (HL.out.below HB.out) (by omega)).mono ?_); rw [HRV.out, HC.out]; rintro e w1 ⟨hb, S, v, rfl, hown, hg1, hg2⟩; have HB := hid (HB.out.step hb); have HQ := hid (keepBox hb HQ.out); have HOW := hid hown; have HG := hid (And.intro hg1 hg2); clear hown hg1 hg2; have HM8 := hid (HM8.out.below hb); clear hb)
        have hS := HG.out.2 (by first | rfl | trivial)
        subst hS
        obtain ⟨a10, c10, hv10, hr10⟩ := HOW.out.rd
        subst hv10
        clear hr10 HOW
        obtain ⟨s0, s1, _, _⟩ := box2 HQ.out
        go_wp2_with (first
          | (go_at_call 17; (refine (sanity_any _).mono ?_); rintro e w1 ⟨rfl, hb⟩; have HB := hid (HB.out.step hb); have HQ := hid (keepBox hb HQ.out); have HM8 := hid (HM8.out.below hb); obtain ⟨s0, s1, _, _⟩ := box2 HQ.out; clear hb)
          | (go_at_call 30; (with_reducible refine (rfits_any N l (modelL l N) a cap a8 c8 _ (HL.out.below HB.out) hlen HM8.out (by rw [modelL_len]; omega)).mono ?_); unfold FitP; rw [HFI.out]; rintro e w1 ⟨rfl, hb⟩; have HB := hid (HB.out.step hb); have hf56 := HF56.out; clear hb))
        go_ret
        exact ⟨rfl, HB.out⟩
      | false =>
        have HPB := hid hp
        have HPV : Hid (possV N l = false) := hid (by unfold possV; rw [if_pos hc, hp])
        have HRV : Hid (refuV N l = true) := hid (by unfold refuV; rw [if_pos hc, hp]; rfl)
        clear hc hrs hp
        go_enter Try.func9, Try.ntmps9
        go_upto_region 4 with (first
          | (go_at_call 16; (with_reducible refine (short_any l a cap _ hlen).mono ?_); rintro e w1 ⟨rfl, rfl⟩)
          | (go_at_call 24; (with_reducible refine (possible_any _ l a cap _ (HL.out.below HB.out) (by omega)).mono ?_); rw [HPV.out, HC.out]; rintro e w1 ⟨rfl, hb⟩; have HB := hid (HB.out.step hb); clear hb))
        go_upto_region 5 with (go_at_call 36; (with_reducible refine (rPoss_any _ l a cap _ (HL.out.below HB.out) (by omega)).mono ?_); rw [HPV.out, HC.out]; rintro e w1 ⟨rfl, hb⟩; have HB := hid (HB.out.step hb); clear hb)
        have HB := hid (bmore HB.out (.cells #[.bool false, .int .i64 0] 61))
        have HQ : Hid ((w1.alloc (.cells #[.bool false, .int .i64 0] 61)).heap[w1.heap.size]? = some (.cells #[.bool false, .int .i64 0] 61 (0, 0))) := hid (by simp only [heap_alloc_if] <;> simp)
        generalize w1.alloc (.cells #[.bool false, .int .i64 0] 61) = W1 at *
        generalize w1.heap.size = q1 at *
        go_upto_region 6 with (go_at_call 37; (with_reducible refine (model_none N hN l a cap _ HC.out HPB.out (HL.out.below HB.out) hl40).mono ?_); rintro e w1 ⟨rfl, hb⟩; have HB := hid (HB.out.step hb); have HQ := hid (keepBox hb HQ.out); clear hb)
        go_upto_region 7 with (go_at_call 38; (with_reducible refine (refute_any _ l a cap _ (HL.out.below HB.out) (by omega)).mono ?_); rw [HRV.out, HC.out]; rintro e w1 ⟨hb, S, v, rfl, hown, hg1, hg2⟩; have HB := hid (HB.out.step hb); have HQ := hid (keepBox hb HQ.out); have HOW := hid hown; have HG := hid (And.intro hg1 hg2); clear hown hg1 hg2; clear hb)
        have hg := HG.out.1 (by first | rfl | trivial) N
        have hrf : refN N l S = 0 := by unfold refN; rw [if_pos HC.out, Int.toNat_natCast, if_pos hg]
        have hsl := ref_short hg
        have HRF := hid hrf
        obtain ⟨a10, c10, hv10, hr10⟩ := HOW.out.rd
        subst hv10
        have HS := hid hr10
        clear hr10 HOW hg hrf
        obtain ⟨s0, s1, _, _⟩ := box2 HQ.out
        go_wp2_with (first
          | (go_at_call 17; (refine (sanity_any _).mono ?_); rintro e w1 ⟨rfl, hb⟩; have HB := hid (HB.out.step hb); have HQ := hid (keepBox hb HQ.out); have HS := hid (HS.out.below hb); obtain ⟨s0, s1, _, _⟩ := box2 HQ.out; clear hb)
          | (go_at_call 39; (with_reducible refine (rcheckref_any N l S a a10 cap c10 _ (HL.out.below HB.out) HS.out (by omega) (by omega)).mono ?_); rw [HRF.out]; rintro e w1 ⟨rfl, hb⟩; have HB := hid (HB.out.step hb); clear hb))
        go_ret
        exact ⟨rfl, HB.out⟩
    · obtain ⟨E, hE⟩ : ∃ E, E = checkN n l := ⟨_, rfl⟩
      have hne : (E != 0) = true := by rw [hE]; simpa using hc
      have HE := hid hE
      have HC := hid hc
      have HPV : Hid (possV n l = false) := hid (by unfold possV; rw [if_neg hc])
      have HRV : Hid (refuV n l = false) := hid (by unfold refuV; rw [if_neg hc])
      clear hE hc
      go_enter Try.func9, Try.ntmps9
      go_upto_region 4 with (first
        | (go_at_call 16; (with_reducible refine (short_any l a cap _ hlen).mono ?_); rintro e w1 ⟨rfl, rfl⟩)
        | (go_at_call 24; (with_reducible refine (possible_any n l a cap _ (HL.out.below HB.out) (by omega)).mono ?_); rw [HPV.out, ← HE.out]; rintro e w1 ⟨rfl, hb⟩; have HB := hid (HB.out.step hb); clear hb))
      go_upto_region 5 with (go_at_call 36; (with_reducible refine (rPoss_any n l a cap _ (HL.out.below HB.out) (by omega)).mono ?_); rw [HPV.out, ← HE.out]; rintro e w1 ⟨rfl, hb⟩; have HB := hid (HB.out.step hb); clear hb)
      have HB := hid (bmore HB.out (.cells #[.bool false, .int .i64 E] 61))
      have HQ : Hid ((w1.alloc (.cells #[.bool false, .int .i64 E] 61)).heap[w1.heap.size]? = some (.cells #[.bool false, .int .i64 E] 61 (0, 0))) := hid (by simp only [heap_alloc_if] <;> simp)
      generalize w1.alloc (.cells #[.bool false, .int .i64 E] 61) = W1 at *
      generalize w1.heap.size = q1 at *
      go_upto_region 6 with (go_at_call 37; (with_reducible refine (model_err n l a cap _ HC.out (HL.out.below HB.out) (by omega)).mono ?_); rw [← HE.out]; rintro e w1 ⟨rfl, hb⟩; have HB := hid (HB.out.step hb); have HQ := hid (keepBox hb HQ.out); clear hb)
      go_upto_region 7 with (go_at_call 38; (with_reducible refine (refute_any n l a cap _ (HL.out.below HB.out) (by omega)).mono ?_); rw [HRV.out, ← HE.out]; rintro e w1 ⟨hb, S, v, rfl, hown, hg1, hg2⟩; have HB := hid (HB.out.step hb); have HQ := hid (keepBox hb HQ.out); have HOW := hid hown; have HG := hid (And.intro hg1 hg2); clear hown hg1 hg2; clear hb)
      have hS := HG.out.2 (by first | rfl | trivial)
      subst hS
      obtain ⟨a10, c10, hv10, hr10⟩ := HOW.out.rd
      subst hv10
      clear hr10 HOW
      obtain ⟨s0, s1, _, _⟩ := box2 HQ.out
      go_wp2_with (go_at_call 17; (refine (sanity_any _).mono ?_); rintro e w1 ⟨rfl, hb⟩; have HB := hid (HB.out.step hb); clear hb)
      go_ret
      exact ⟨rfl, HB.out⟩
  · have ds : decide (l.length ≤ 60) = false := by simpa using hs
    go_enter Try.func9, Try.ntmps9
    go_wp2_with (first
      | (go_at_call 16; (with_reducible refine (short_any l a cap _ hlen).mono ?_); rintro e w1 ⟨rfl, rfl⟩)
      | (go_at_call 17; (refine (sanity_any _).mono ?_); rintro e w1 ⟨rfl, hb⟩; have HB := hid (HB.out.step hb); clear hb))
    go_ret
    exact ⟨rfl, HB.out⟩
end Go.Proofs.Ytnjbahiaelehkaa
