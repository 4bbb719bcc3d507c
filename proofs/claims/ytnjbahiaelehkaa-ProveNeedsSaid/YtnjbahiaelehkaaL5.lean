/- ProveNeeds: the walk. -/
import Derived.Test.YtnjbahiaelehkaaD9
import Derived.Test.YtnjbahiaelehkaaL1
namespace Go.Proofs.Ytnjbahiaelehkaa
open Go.RowKit

theorem check_pick {n : Int} {l r : List AM} (h : checkN n l = 0) (hs : ∀ y, y ∈ r → y ∈ l) (hl : r.length ≤ l.length) : checkN n r = 0 := by
  obtain ⟨hn, h40, hr⟩ := checkN_in h
  unfold checkN
  rw [if_pos (by simp [inB]; omega), if_neg (by omega), if_pos]
  unfold rightsB at *
  rw [List.all_eq_true] at *
  exact fun x hx => hr x (hs x hx)
theorem right_mem {n : Int} {l : List AM} (h : checkN n l = 0) {a : AM} (ha : a ∈ l) : rightB n a = true := by
  obtain ⟨_, _, hr⟩ := checkN_in h
  unfold rightsB at hr
  exact List.all_eq_true.1 hr a ha
theorem pick_len (l : List AM) (ks : List Int) : (pick l ks).length = ks.length := by unfold pick; exact List.length_map _
theorem lAt_in {l : List AM} {k : Int} (h : 0 ≤ k ∧ k < l.length) : lAt l k = l[k.toNat]'(by omega) := by
  unfold lAt
  rw [List.getD_eq_getElem?_getD, List.getElem?_eq_getElem (by omega)]
  rfl
section
variable {n : Int} {l : List AM} {can : AM → List AM → Bool}
theorem keep_len : (keep can l).length ≤ l.length := keepFrom_length can l l.length
theorem keep_sub : ∀ y, y ∈ pick l (keep can l) → y ∈ l := pick_sub fun _ h => keep_range h
theorem keep_skip_sub (i : Int) : ∀ y, y ∈ pick l (skip (keep can l) i) → y ∈ l := pick_sub fun _ h => keep_range (skip_mem h)
theorem check_keep (h : checkN n l = 0) : checkN n (pick l (keep can l)) = 0 := check_pick h keep_sub (by rw [pick_len]; exact keep_len)
theorem check_skip (h : checkN n l = 0) (i : Int) : checkN n (pick l (skip (keep can l) i)) = 0 :=
  check_pick h (keep_skip_sub i) (by rw [pick_len]; exact Nat.le_trans (skip_length _ _) keep_len)
theorem skip_drop (i : Nat) (hi : i < (keep can l).length) : skip (keep can l) i = drop (keep can l) (keep can l)[i] := by
  unfold skip
  rw [if_neg (by omega), Int.toNat_natCast]
  exact eraseIdx_drop (keep_sorted can l l.length) hi
theorem keep_spare (mono : ∀ a r r', (∀ y, y ∈ r' → y ∈ r) → can a r = false → can a r' = false) (i : Nat) (hi : i < (keep can l).length) : can (lAt l (keep can l)[i]) (pick l (skip (keep can l) i)) = false := by
  have hr := keep_range (List.getElem_mem hi)
  rw [skip_drop i hi]
  have := keep_tight mono l l.length (keep can l)[i].toNat (by omega) (by
    have e : (((keep can l)[i].toNat : Nat) : Int) = (keep can l)[i] := by omega
    rw [e]
    exact List.getElem_mem hi)
  have e : (((keep can l)[i].toNat : Nat) : Int) = (keep can l)[i] := by omega
  rw [e] at this
  exact this
end
/-- What the law asks of the lines that are needed. -/
theorem needs_one {n : Int} {l : List AM} (h : checkN n l = 0) {x : AM} (hx : x ∈ l) : entV n (pick l (keep canE l)) x = true ∧ lineN n (pick l (keep canE l)) x = 0 := by
  have h1 := lineN_of (check_keep (can := canE) h) (right_mem h hx)
  refine ⟨?_, h1⟩
  unfold entV
  rw [if_pos h1]
  exact entB_iff.2 fun y hy => ((needed_all l l.length (Nat.le_refl _) y).1 hy) x hx
theorem needs_two {n : Int} {l : List AM} {ks : List Int} (hks : ks = keep canE l) (h : checkN n l = 0) (i : Nat) (hi : i < ks.length) : entV n (pick l (skip ks i)) (lAt l ks[i]) = false ∧ lineN n (pick l (skip ks i)) (lAt l ks[i]) = 0 := by
  subst hks
  have hr := keep_range (List.getElem_mem hi)
  have hm : lAt l ((keep canE l)[i]'hi) ∈ l := by rw [lAt_in hr]; exact List.getElem_mem _
  have h1 := lineN_of (check_skip (can := canE) h i) (right_mem h hm)
  refine ⟨?_, h1⟩
  unfold entV
  rw [if_pos h1]
  exact keep_spare (can := canE) (fun a r r' hs hc => canE_mono hs hc) i hi
theorem needs_three {n : Int} {l : List AM} (h : checkN n l = 0) (hp : possB l = false) : possV n (pick l (keep canS l)) = false ∧ checkN n (pick l (keep canS l)) = 0 := by
  have h1 := check_keep (can := canS) h
  refine ⟨?_, h1⟩
  unfold possV
  rw [if_pos h1]
  exact core_none l hp l.length
theorem needs_four {n : Int} {l : List AM} {ks : List Int} (hks : ks = keep canS l) (h : checkN n l = 0) (i : Nat) (hi : i < ks.length) : possV n (pick l (skip ks i)) = true ∧ checkN n (pick l (skip ks i)) = 0 := by
  subst hks
  have h1 := check_skip (can := canS) h i
  refine ⟨?_, h1⟩
  unfold possV
  rw [if_pos h1]
  have h2 : (!possB (pick l (skip (keep canS l) i))) = false := keep_spare (can := canS) (fun a r r' hs hc => canS_mono hs hc) i hi
  simpa using h2

set_option maxRecDepth 100000 in
set_option maxHeartbeats 8000000 in
theorem needs_any (n : Int) (l : List AM) (a : Option Addr) (cap : Nat) (w : World) (hl : Rd w a l) (hlen : l.length ≤ 9223372036854775807) :
    Calls Try.prog 6 #[.int .i64 n, .slice a l.length cap] w (RetB (.bool true) w) := by
  have HL := hid hl; clear hl
  have HB := hid (Below.refl w.heap.size w)
  by_cases h1 : lawRight n l = true
  · obtain ⟨h40, hc⟩ := lawRight_one h1
    have H1 := hid h1
    have HC := hid hc
    have hke : neededL n l = keep canE l := by unfold neededL; rw [if_pos hc]
    obtain ⟨ks, hks⟩ : ∃ ks, ks = keep canE l := ⟨_, rfl⟩
    have hkl : ks.length ≤ l.length := by rw [hks]; exact keep_len
    have HKS := hid hks
    have HKE : Hid (neededL n l = ks) := hid (by rw [hke, hks])
    have HSO : Hid (ks.Pairwise (· < ·)) := hid (by rw [hks]; exact keep_sorted canE l l.length)
    have HIN : Hid (∀ k, k ∈ ks → 0 ≤ k ∧ k < l.length) := hid (by rw [hks]; exact fun _ h => keep_range h)
    have HS0 : Hid (skip ks (-1) = ks) := hid (if_pos (by decide))
    clear h1 hc hke hks
    go_enter Try.func6, Try.ntmps6
    go_upto_region 4 with (first
      | (go_at_call 22; (with_reducible refine (lawright_any n l _ cap _ (HL.out.below HB.out) hlen).mono ?_); rw [H1.out]; rintro e w1 ⟨rfl, hb⟩; have HB := hid (HB.out.step hb); clear hb)
      | (go_at_call 26; (with_reducible refine (needed_any n l _ cap _ (HL.out.below HB.out) (by omega)).mono ?_); rw [HKE.out, HC.out]; rintro e w1 ⟨hb, v, rfl, hown⟩; have HB := hid (HB.out.step hb); have HOW := hid hown; clear hown; clear hb))
    obtain ⟨a5, c5', hv5, hr5⟩ := HOW.out.rd
    subst hv5
    have HK := hid hr5
    clear hr5
    go_upto_region 5 with (go_at_call 27; (with_reducible refine (picked_any l ks (-1) _ cap a5 c5' _ (HL.out.below HB.out) HK.out (by omega) HSO.out HIN.out).mono ?_); rw [HS0.out]; rintro e w1 ⟨hb, v, rfl, hown⟩; have HB := hid (HB.out.step hb); have HK := hid (HK.out.below hb); have HOW2 := hid hown; clear hown; clear hb)
    obtain ⟨a7, c7, hv7, hr7⟩ := HOW2.out.rd
    subst hv7
    have HP := hid hr7
    clear hr7 HOW HOW2
    obtain ⟨r7, hr7⟩ : ∃ r, r = pick l ks := ⟨_, rfl⟩
    have hl7 : r7.length ≤ 40 := by rw [hr7, pick_len]; omega
    have HP : Hid (Rd w1 a7 r7) := hid (by rw [hr7]; exact HP.out)
    rw [← hr7]
    have HR7 := hid hr7
    clear hr7
    go_wp2
    go_loopw [9] (fun s wr => ∃ i : Nat, i ≤ l.length ∧ s = .int .i64 i ∧ Hid (Below w.heap.size w wr ∧ RdI wr a5 ks ∧ Rd wr a7 r7)) (fun s _ => l.length - (intOf s).toNat)
    case atStart => exact ⟨0, Nat.zero_le _, rfl, hid ⟨HB.out, HK.out, HP.out⟩⟩
    case round =>
      clear HB HK HP
      obtain ⟨i, hi, rfl, HW⟩ := hrel
      have HB := hid HW.out.1
      have HK := hid HW.out.2.1
      have HP := hid HW.out.2.2
      clear HW
      by_cases hlt : i < l.length
      · obtain ⟨b2, off, ha, hlt2, g1, g2, g3, g4, g5⟩ := HL.out.below HB.out i hlt
        subst ha
        obtain ⟨x, hx⟩ : ∃ x, x = l[i] := ⟨_, rfl⟩
        rw [← hx] at g1 g2 g3 g4 g5
        have hxm : x ∈ l := by rw [hx]; exact List.getElem_mem hlt
        obtain ⟨e1, e2⟩ := needs_one HC.out hxm
        have E1 : Hid (entV n r7 ⟨x.A, x.P, x.B, x.Q, x.M⟩ = true) := hid (by rw [HR7.out, HKS.out]; exact e1)
        have E2 : Hid (lineN n r7 ⟨x.A, x.P, x.B, x.Q, x.M⟩ = 0) := hid (by rw [HR7.out, HKS.out]; exact e2)
        clear hx hxm e1 e2
        go_wp2_with (go_at_call 25; (with_reducible refine (entails_any n r7 x.A x.P x.B x.Q x.M a7 c7 _ HP.out (by omega)).mono ?_); rw [E1.out, E2.out]; rintro e w1 ⟨rfl, hb⟩; have HB := hid (HB.out.step hb); have HK := hid (HK.out.below hb); have HP := hid (HP.out.below hb); clear hb)
        go_roundw
        case rel => exact ⟨i + 1, by omega, by go_num, hid ⟨HB.out, HK.out, HP.out⟩⟩
        case measure => simp [intOf]; omega
      · go_wp2
        go_loopw [12] (fun s wr => ∃ i : Nat, i ≤ ks.length ∧ s = .int .i64 i ∧ Hid (Below w.heap.size w wr ∧ RdI wr a5 ks)) (fun s _ => ks.length - (intOf s).toNat)
        case atStart => exact ⟨0, Nat.zero_le _, rfl, hid ⟨HB.out, HK.out⟩⟩
        case round =>
          clear HB HK HP
          obtain ⟨i2, hi2, rfl, HW⟩ := hrel
          have HB := hid HW.out.1
          have HK := hid HW.out.2
          clear HW
          by_cases hlt2 : i2 < ks.length
          · have hkr := HIN.out ks[i2] (List.getElem_mem hlt2)
            obtain ⟨kk, hkk⟩ : ∃ k : Nat, ks[i2] = (k : Int) := ⟨ks[i2].toNat, by omega⟩
            have hkn : kk < l.length := by omega
            have hes : entV n (pick l (skip ks i2)) (lAt l ks[i2]) = false ∧ lineN n (pick l (skip ks i2)) (lAt l ks[i2]) = 0 := needs_two HKS.out HC.out i2 hlt2
            have hla : lAt l ks[i2] = l[kk] := by
              rw [lAt_in hkr]
              congr 1
              omega
            obtain ⟨x, hx⟩ : ∃ x, x = l[kk] := ⟨_, rfl⟩
            rw [hla, ← hx] at hes
            obtain ⟨r, hr⟩ : ∃ r, r = pick l (skip ks i2) := ⟨_, rfl⟩
            rw [← hr] at hes
            have hrl : r.length ≤ 1000000 := by rw [hr, pick_len]; have := skip_length ks i2; omega
            have E1 : Hid (entV n r ⟨x.A, x.P, x.B, x.Q, x.M⟩ = false) := hid hes.1
            have E2 : Hid (lineN n r ⟨x.A, x.P, x.B, x.Q, x.M⟩ = 0) := hid hes.2
            have HRR := hid hr
            have HXE := hid hx
            have HKK := hid hkk
            clear hes hla hkr hr hx hkk
            go_upto_region 17 with (go_at_call 27; (with_reducible refine (picked_any l ks i2 _ cap a5 c5' _ (HL.out.below HB.out) HK.out (by omega) HSO.out HIN.out).mono ?_); rintro e w1 ⟨hb, v, rfl, hown⟩; have HB := hid (HB.out.step hb); have HK := hid (HK.out.below hb); have HOW := hid hown; clear hown; clear hb)
            obtain ⟨a13, c13, hv13, hr13⟩ := HOW.out.rd
            subst hv13
            have HP : Hid (Rd w1 a13 r) := hid (by rw [HRR.out]; exact hr13)
            rw [← HRR.out]
            clear hr13 HOW
            obtain ⟨bx, ox, hbx, hltx, c0⟩ := HK.out i2 hlt2
            rw [HKK.out] at c0
            obtain ⟨b2, off, ha, hlt3, g1, g2, g3, g4, g5⟩ := HL.out.below HB.out kk hkn
            rw [← HXE.out] at g1 g2 g3 g4 g5
            have hkn' : (kk : Int) < (l.length : Int) := by omega
            subst ha
            subst hbx
            go_wp2_with (go_at_call 25; (with_reducible refine (entails_any n r x.A x.P x.B x.Q x.M a13 c13 _ HP.out hrl).mono ?_); rw [E1.out, E2.out]; rintro e w1 ⟨rfl, hb⟩; have HB := hid (HB.out.step hb); have HK := hid (HK.out.below hb); clear hb)
            go_roundw
            case rel => exact ⟨i2 + 1, by omega, by go_num, hid ⟨HB.out, HK.out⟩⟩
            case measure => simp [intOf]; omega
          · clear HK
            cases hp : possB l with
            | true =>
              have hb1 : coreB n l = false := by unfold coreB; rw [if_pos HC.out, hp]; rfl
              have hb2 : coreL n l = [] := by unfold coreL; rw [if_pos HC.out, if_pos hp]
              have hb3 : possV n l = true := by unfold possV; rw [if_pos HC.out, hp]
              have HB1 := hid hb1
              have HB2 := hid hb2
              have HB3 := hid hb3
              clear hp hb1 hb2 hb3
              go_upto_region 21 with (go_at_call 28; (with_reducible refine (core_any n l _ cap _ (HL.out.below HB.out) (by omega)).mono ?_); rw [HB1.out, HB2.out, HC.out]; rintro e w1 ⟨hb, v, rfl, hown⟩; have HB := hid (HB.out.step hb); have HOW := hid hown; clear hown; clear hb)
              obtain ⟨a17, c17, hv17, hr17⟩ := HOW.out.rd
              subst hv17
              have HK := hid hr17
              clear hr17 HOW
              have HS1 : Hid (skip ([] : List Int) (-1) = []) := hid (skip_nil _)
              go_wp2_with (first
                | (go_at_call 24; (with_reducible refine (possible_any n l _ cap _ (HL.out.below HB.out) (by omega)).mono ?_); rw [HB3.out, HC.out]; rintro e w1 ⟨rfl, hb⟩; have HB := hid (HB.out.step hb); have HK := hid (HK.out.below hb); clear hb)
                | (go_at_call 27; (refine (picked_any l [] (-1) _ cap a17 c17 _ (HL.out.below HB.out) HK.out (by simp) List.Pairwise.nil (by intro k hk; cases hk)).mono ?_); rw [HS1.out]; rintro e w1 ⟨hb, v, rfl, hown⟩; have HB := hid (HB.out.step hb); have HK := hid (HK.out.below hb); clear hown; clear hb)
                | (go_at_call 17; (refine (sanity_any _).mono ?_); rintro e w1 ⟨rfl, hb⟩; have HB := hid (HB.out.step hb); clear hb))
              go_ret
              exact ⟨rfl, HB.out⟩
            | false =>
              have hb1 : coreB n l = true := by unfold coreB; rw [if_pos HC.out, hp]; rfl
              have hb2 : coreL n l = keep canS l := by unfold coreL; rw [if_pos HC.out, if_neg (by rw [hp]; decide)]
              have hb3 : possV n l = false := by unfold possV; rw [if_pos HC.out, hp]
              obtain ⟨cs, hcs⟩ : ∃ ks, ks = keep canS l := ⟨_, rfl⟩
              have hcl : cs.length ≤ l.length := by rw [hcs]; exact keep_len
              have HCS := hid hcs
              have HSO2 : Hid (cs.Pairwise (· < ·)) := hid (by rw [hcs]; exact keep_sorted canS l l.length)
              have HIN2 : Hid (∀ k, k ∈ cs → 0 ≤ k ∧ k < l.length) := hid (by rw [hcs]; exact fun _ h => keep_range h)
              have HS2 : Hid (skip cs (-1) = cs) := hid (if_pos (by decide))
              have HB1 := hid hb1
              have HB2 : Hid (coreL n l = cs) := hid (by rw [hb2, hcs])
              have HB3 := hid hb3
              have hth := needs_three HC.out hp
              rw [← hcs] at hth
              have HTH := hid hth
              clear hp hb1 hb2 hb3 hcs hth
              go_upto_region 21 with (go_at_call 28; (with_reducible refine (core_any n l _ cap _ (HL.out.below HB.out) (by omega)).mono ?_); rw [HB1.out, HB2.out, HC.out]; rintro e w1 ⟨hb, v, rfl, hown⟩; have HB := hid (HB.out.step hb); have HOW := hid hown; clear hown; clear hb)
              obtain ⟨a17, c17, hv17, hr17⟩ := HOW.out.rd
              subst hv17
              have HK := hid hr17
              clear hr17 HOW
              go_upto_region 23 with (first
                | (go_at_call 24; (with_reducible refine (possible_any n l _ cap _ (HL.out.below HB.out) (by omega)).mono ?_); rw [HB3.out, HC.out]; rintro e w1 ⟨rfl, hb⟩; have HB := hid (HB.out.step hb); have HK := hid (HK.out.below hb); clear hb)
                | (go_at_call 27; (with_reducible refine (picked_any l cs (-1) _ cap a17 c17 _ (HL.out.below HB.out) HK.out (by omega) HSO2.out HIN2.out).mono ?_); rw [HS2.out]; rintro e w1 ⟨hb, v, rfl, hown⟩; have HB := hid (HB.out.step hb); have HK := hid (HK.out.below hb); have HOW2 := hid hown; clear hown; clear hb))
              obtain ⟨a22, c22, hv22, hr22⟩ := HOW2.out.rd
              subst hv22
              have HP := hid hr22
              clear hr22 HOW2
              obtain ⟨r8, hr8⟩ : ∃ r, r = pick l cs := ⟨_, rfl⟩
              have hl8 : r8.length ≤ 1000000 := by rw [hr8, pick_len]; omega
              have HP : Hid (Rd w1 a22 r8) := hid (by rw [hr8]; exact HP.out)
              have hth := HTH.out
              rw [← hr8] at hth ⊢
              have HTH := hid hth
              clear hr8 hth
              go_wp2_with (go_at_call 24; (with_reducible refine (possible_any n r8 a22 c22 _ HP.out hl8).mono ?_); rw [HTH.out.1, HTH.out.2]; rintro e w1 ⟨rfl, hb⟩; have HB := hid (HB.out.step hb); have HK := hid (HK.out.below hb); clear hb)
              go_loopw [26] (fun s wr => ∃ i : Nat, i ≤ cs.length ∧ s = .int .i64 i ∧ Hid (Below w.heap.size w wr ∧ RdI wr a17 cs)) (fun s _ => cs.length - (intOf s).toNat)
              case atStart => exact ⟨0, Nat.zero_le _, rfl, hid ⟨HB.out, HK.out⟩⟩
              case round =>
                clear HB HK HP
                obtain ⟨i3, hi3, rfl, HW⟩ := hrel
                have HB := hid HW.out.1
                have HK := hid HW.out.2
                clear HW
                by_cases hlt3 : i3 < cs.length
                · have hes := needs_four HCS.out HC.out i3 hlt3
                  obtain ⟨r, hr⟩ : ∃ r, r = pick l (skip cs i3) := ⟨_, rfl⟩
                  rw [← hr] at hes
                  have hrl : r.length ≤ 1000000 := by rw [hr, pick_len]; have := skip_length cs i3; omega
                  have E1 := hid hes.1
                  have E2 := hid hes.2
                  have HRR := hid hr
                  clear hes hr
                  go_upto_region 32 with (go_at_call 27; (with_reducible refine (picked_any l cs i3 _ cap a17 c17 _ (HL.out.below HB.out) HK.out (by omega) HSO2.out HIN2.out).mono ?_); rintro e w1 ⟨hb, v, rfl, hown⟩; have HB := hid (HB.out.step hb); have HK := hid (HK.out.below hb); have HOW := hid hown; clear hown; clear hb)
                  obtain ⟨a13, c13, hv13, hr13⟩ := HOW.out.rd
                  subst hv13
                  have HP : Hid (Rd w1 a13 r) := hid (by rw [HRR.out]; exact hr13)
                  rw [← HRR.out]
                  clear hr13 HOW
                  go_wp2_with (go_at_call 24; (with_reducible refine (possible_any n r a13 c13 _ HP.out hrl).mono ?_); rw [E1.out, E2.out]; rintro e w1 ⟨rfl, hb⟩; have HB := hid (HB.out.step hb); have HK := hid (HK.out.below hb); clear hb)
                  go_roundw
                  case rel => exact ⟨i3 + 1, by omega, by go_num, hid ⟨HB.out, HK.out⟩⟩
                  case measure => simp [intOf]; omega
                · clear HK
                  go_wp2_with (go_at_call 17; (refine (sanity_any _).mono ?_); rintro e w1 ⟨rfl, hb⟩; have HB := hid (HB.out.step hb); clear hb)
                  go_ret
                  exact ⟨rfl, HB.out⟩
  · have h1' : lawRight n l = false := by simpa using h1
    have H1 := hid h1'
    clear h1 h1'
    go_enter Try.func6, Try.ntmps6
    go_wp2_with (first
      | (go_at_call 22; (with_reducible refine (lawright_any n l _ cap _ (HL.out.below HB.out) hlen).mono ?_); rw [H1.out]; rintro e w1 ⟨rfl, hb⟩; have HB := hid (HB.out.step hb); clear hb)
      | (go_at_call 17; (refine (sanity_any _).mono ?_); rintro e w1 ⟨rfl, hb⟩; have HB := hid (HB.out.step hb); clear hb))
    go_ret
    exact ⟨rfl, HB.out⟩
end Go.Proofs.Ytnjbahiaelehkaa
