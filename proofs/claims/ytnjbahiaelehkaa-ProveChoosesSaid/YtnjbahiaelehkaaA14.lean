/- The contracts of entails, Entails, Possible and Span of package prove. -/
import Derived.Test.YtnjbahiaelehkaaA13
namespace Go.Proofs.Ytnjbahiaelehkaa
open Go.RowKit

theorem field102 (m : Int) (p : Option Addr) (w : World) : (Instr.field 102 (.agg #[.int .i64 m, .pointer p]) 0).run Try.prog w = .ok (.int .i64 m) w := by kernel_rfl

set_option maxRecDepth 100000 in
set_option maxHeartbeats 4000000 in
theorem ent_any (N : Nat) (hN : N ≤ 12) (l : List AM) (A P B Q L : Int) (a : Option Addr) (cap : Nat) (Mx : Int) (w : World) (ok : ∀ a, a ∈ l → Ok N Mx a) (hM : 0 ≤ Mx) (hF : 100 * Mx < FF) (My : Int) (o : Ok N My ⟨A, P, B, Q, L⟩) (hMy : My ≤ 1000000000) (hl : Rd w a l) (hlen : l.length ≤ 1000000) :
    Calls Try.prog 65 #[.int .i64 N, .slice a l.length cap, .agg #[.int .i64 A, .int .i64 P, .int .i64 B, .int .i64 Q, .int .i64 L]] w (RetB (.bool (entB l ⟨A, P, B, Q, L⟩)) w) := by
  have HL := hid hl; clear hl
  have HOK := hid ok; clear ok
  have HMX := hid hM; clear hM
  have HF := hid hF; clear hF
  have HO := hid o; clear o
  go_enter Try.func65, Try.ntmps65
  go_upto_region 1 with fail
  go_cut [7] (fun s7 wx => ∃ c : Nat, s7 = .pointer (some ⟨c, 0, none⟩) ∧ ShutAt l N Mx c wx ∧ Below (w.alloc (.cells #[.int .i64 A, .int .i64 P, .int .i64 B, .int .i64 Q, .int .i64 L] 24)).heap.size (w.alloc (.cells #[.int .i64 A, .int .i64 P, .int .i64 B, .int .i64 Q, .int .i64 L] 24)) wx)
  case first =>
    go_wp2_with (first | (go_at_call 57; refine (shut_any N hN _ l a cap Mx HOK.out HMX.out HF.out (HL.out.below (bnew _ _)) hlen).mono ?_; rintro e w2 ⟨hb2, C, M, no, tp, ty, D, T, rfl, cv, hm, hbd, hor⟩; have HX := hid (And.intro hb2 (And.intro cv (And.intro hm (And.intro hbd hor)))); clear hb2 cv hm hbd hor) | (refine wpList_store_row rfl 105 (.tmp 7) (.tmp 10) rfl _ C rfl rfl 105 _ (heapn _ _ _ rfl) (by rw [HX.out.2.1.size]; exact size105) (by rw [HX.out.2.1.size]; rfl) HX.out.2.1.one ?_))
    go_meet
    obtain ⟨hb2, cv, hm, hbd, hor⟩ := HX.out
    exact ⟨_, rfl, ShutAt.new cv hm hbd hor, hb2.step newRow_below⟩
  case rest =>
    obtain ⟨c, rfl, ⟨C, M, no, tp, ty, D, T, hrow, cv, hm, hbd, hor⟩, hb3⟩ := hcut
    have hcs : CS wc c N M no tp ty := ⟨C, hrow, cv⟩
    have hno := hcs.getNo
    have hcl := hcs.lt
    have hs3 := hb3.size
    have ham := (am_alloc w ⟨A, P, B, Q, L⟩).below hb3
    obtain ⟨k0, k1, k2, k3, k4⟩ := ham
    simp only [Nat.zero_add] at k0 k1 k2 k3 k4
    have HROW := hid hrow; clear hrow
    have HCV := hid cv; clear cv
    have HM := hid hm; clear hm
    have HBD := hid hbd; clear hbd
    have HB3 := hid hb3; clear hb3
    clear hcs
    rcases hor with ⟨d, X, rfl, hd, hno'⟩ | ⟨rfl, hfin, htight, htops⟩
    · have hp := hno'.noposs HOK.out
      have HP := hid hp; clear hp
      have HD := hid hd; clear hd
      have HNO := hid hno'; clear hno'
      have he : entB l ⟨A, P, B, Q, L⟩ = true := by
        rw [entB_iff]; intro x hx
        exact absurd (possB_iff.2 ⟨x, hx⟩) (by rw [HP.out]; simp)
      have HE := hid he; clear he
      go_upto_region 2 with fail
      go_region
      all_goals go_wp2
      all_goals go_ret
      all_goals exact ⟨ret_bool (by rw [HE.out]), ((bnew _ _).step HB3.out).step (bdrew _)⟩
    · have HFINE := hid (And.intro hfin (And.intro htight htops)); clear hfin htight htops
      have hr : wc.rangeAt c 0 C.toList := by
        intro j v hv
        rw [Nat.zero_add, cell_of_row _ _ _ _ _ _ HROW.out.1]
        simpa using hv
      go_upto_region 2 with fail
      refine wp_region_held_drew (S := fun w' => w'.rangeAt c 0 C.toList ∧ w'.cell? ⟨c, 50, none⟩ = some (.pointer none) ∧ w'.cell? ⟨w.heap.size, 0, none⟩ = some (.int .i64 A) ∧ w'.cell? ⟨w.heap.size, 1, none⟩ = some (.int .i64 P) ∧ w'.cell? ⟨w.heap.size, 2, none⟩ = some (.int .i64 B) ∧ w'.cell? ⟨w.heap.size, 3, none⟩ = some (.int .i64 Q) ∧ w'.cell? ⟨w.heap.size, 4, none⟩ = some (.int .i64 L)) (by kernel_rfl) ⟨hr, hno, k0, k1, k2, k3, k4⟩ (fun hHeld => ?_)
      refine wpAnyH_take (i := 0) (oi := ⟨some 11, _, _, _, _, _⟩) (v := .pointer (some ⟨c, 50, none⟩)) rfl (by kernel_rfl) (by kernel_rfl) (by kernel_rfl) (fun _ _ _ h => h) (Or.inl ⟨by rfl, fun w' hs => ?_⟩) hHeld ?_
      · obtain ⟨hs0, hs1, k0, k1, k2, k3, k4⟩ := hs
        go_simp
      try simp only [Act.put, List.setIfInBounds_toArray, List.set_cons_zero, List.set_cons_succ]
      refine wpAnyH_take (i := 1) (oi := ⟨some 12, _, _, _, _, _⟩) (v := .pointer none) rfl (by kernel_rfl) (by kernel_rfl) (by kernel_rfl) (fun _ _ _ h => h) (Or.inl ⟨by rfl, fun w' hs => ?_⟩) hHeld ?_
      · obtain ⟨hs0, hs1, k0, k1, k2, k3, k4⟩ := hs
        go_simp
      try simp only [Act.put, List.setIfInBounds_toArray, List.set_cons_zero, List.set_cons_succ]
      refine wpAnyH_take (i := 2) (oi := ⟨some 13, _, _, _, _, _⟩) (v := .bool false) rfl (by kernel_rfl) (by kernel_rfl) (by kernel_rfl) (fun _ _ _ h => h) (Or.inl ⟨by rfl, fun w' hs => ?_⟩) hHeld ?_
      · obtain ⟨hs0, hs1, k0, k1, k2, k3, k4⟩ := hs
        go_simp
      try simp only [Act.put, List.setIfInBounds_toArray, List.set_cons_zero, List.set_cons_succ]
      refine wpAnyH_take (i := 3) (oi := ⟨some 14, _, _, _, _, _⟩) (v := .bool false) rfl (by kernel_rfl) (by kernel_rfl) (by kernel_rfl) (fun _ _ _ h => h) (Or.inl ⟨by rfl, fun w' hs => ?_⟩) hHeld ?_
      · obtain ⟨hs0, hs1, k0, k1, k2, k3, k4⟩ := hs
        go_simp
      try simp only [Act.put, List.setIfInBounds_toArray, List.set_cons_zero, List.set_cons_succ]
      refine wpAnyH_take (i := 4) (oi := ⟨some 15, _, _, _, _, _⟩) (v := .agg C.toList.toArray) rfl (by kernel_rfl) (by kernel_rfl) (by kernel_rfl) (fun _ _ _ h => h) (yieldsIf_load_mid (by rfl) 105 (.tmp 7) rfl c 0 rfl C.toList _ (fun _ h => h.1) Try.underlying105 rfl (by rw [Array.length_toList, HROW.out.2]; exact size105)) hHeld ?_
      try simp only [Act.put, List.setIfInBounds_toArray, List.set_cons_zero, List.set_cons_succ]
      refine wpAnyH_take (i := 5) (oi := ⟨some 16, _, _, _, _, _⟩) (v := .agg #[.int .i64 A, .int .i64 P, .int .i64 B, .int .i64 Q, .int .i64 L]) rfl (by kernel_rfl) (by kernel_rfl) (by kernel_rfl) (fun _ _ _ h => h) (Or.inl ⟨by rfl, fun w' hs => ?_⟩) hHeld ?_
      · obtain ⟨hs0, hs1, k0, k1, k2, k3, k4⟩ := hs
        go_simp
      try simp only [Act.put, List.setIfInBounds_toArray, List.set_cons_zero, List.set_cons_succ]
      refine wpAnyH_take (i := 8) (oi := ⟨some 19, _, _, _, _, _⟩) (v := .pointer (some ⟨w.heap.size, 4, none⟩)) rfl (by kernel_rfl) (by kernel_rfl) (by kernel_rfl) (fun _ _ _ h => h) (Or.inl ⟨by rfl, fun w' hs => ?_⟩) hHeld ?_
      · obtain ⟨hs0, hs1, k0, k1, k2, k3, k4⟩ := hs
        go_simp
      try simp only [Act.put, List.setIfInBounds_toArray, List.set_cons_zero, List.set_cons_succ]
      refine wpAnyH_take (i := 9) (oi := ⟨some 20, _, _, _, _, _⟩) (v := .int .i64 L) rfl (by kernel_rfl) (by kernel_rfl) (by kernel_rfl) (fun _ _ _ h => h) (Or.inl ⟨by rfl, fun w' hs => ?_⟩) hHeld ?_
      · obtain ⟨hs0, hs1, k0, k1, k2, k3, k4⟩ := hs
        go_simp
      try simp only [Act.put, List.setIfInBounds_toArray, List.set_cons_zero, List.set_cons_succ]
      refine wpAnyH_ready (rs := [6]) (by kernel_rfl) (by simp) ?_
      refine AllReadyH.cons rfl (fun K hK => ?_) AllReadyH.nil
      go_simp
      have hcv9 := HCV.out
      rw [← Array.toArray_toList (xs := C)] at hcv9
      refine (of_any N hN _ C.toList.toArray N M none tp ty D T hcv9 (HM.out.below (bdrew _)) HBD.out A P B Q L _ HO.out).mono ?_
      rintro e w3 ⟨hb, p, rfl, hofp⟩
      refine hK.out _ _ ?_ (fun hHeld2 => ?_)
      · obtain ⟨hs0, hs1, k0, k1, k2, k3, k4⟩ := hHeld
        exact ⟨fun j v hv => cell_later hb (hs0 j v hv), cell_later hb hs1, cell_later hb k0, cell_later hb k1, cell_later hb k2, cell_later hb k3, cell_later hb k4⟩
      clear hK K
      try simp only [Act.put, List.setIfInBounds_toArray, List.set_cons_zero, List.set_cons_succ]
      have HB4 := hid hb; clear hb
      clear hofp
      generalize hm' : ofM tp D ⟨A, P, B, Q, L⟩ = m
      have HM' := hid hm'; clear hm'
      refine wpAnyH_take (i := 7) (oi := ⟨some 18, _, _, _, _, _⟩) (v := .int .i64 m) rfl (by kernel_rfl) (by kernel_rfl) (by kernel_rfl) (fun _ _ _ h => h) (Or.inl ⟨by rfl, fun w' hs => ?_⟩) hHeld2 ?_
      · clear hs
        go_simp
        rw [field102]; rfl
      try simp only [Act.put, List.setIfInBounds_toArray, List.set_cons_zero, List.set_cons_succ]
      refine wpAnyH_take (i := 10) (oi := ⟨some 21, _, _, _, _, _⟩) (v := .bool (decide (m ≤ L))) rfl (by kernel_rfl) (by kernel_rfl) (by kernel_rfl) (fun _ _ _ h => h) (Or.inl ⟨by rfl, fun w' hs => ?_⟩) hHeld2 ?_
      · clear hs
        go_simp
      try simp only [Act.put, List.setIfInBounds_toArray, List.set_cons_zero, List.set_cons_succ]
      refine wpAnyH_take (i := 11) (oi := ⟨some 22, _, _, _, _, _⟩) (v := .bool (decide (m ≤ L))) rfl (by kernel_rfl) (by kernel_rfl) (by kernel_rfl) (fun _ _ _ h => h) (Or.inl ⟨by rfl, fun w' hs => ?_⟩) hHeld2 ?_
      · clear hs
        go_simp
      try simp only [Act.put, List.setIfInBounds_toArray, List.set_cons_zero, List.set_cons_succ]
      refine wpAnyH_take (i := 12) (oi := ⟨some 6, _, _, _, _, _⟩) (v := .bool (decide (m ≤ L))) rfl (by kernel_rfl) (by kernel_rfl) (by kernel_rfl) (fun _ _ _ h => h) (Or.inl ⟨by rfl, fun w' hs => ?_⟩) hHeld2 ?_
      · clear hs
        go_simp
      try simp only [Act.put, List.setIfInBounds_toArray, List.set_cons_zero, List.set_cons_succ]
      refine wpAnyH_done (by kernel_rfl) ?_ _
      go_wp2
      go_ret
      refine ⟨ret_bool ?_, ((bnew _ _).step HB3.out).step ((bdrew _).step HB4.out)⟩
      have he := HFINE.out.1.ent HFINE.out.2.1 HO.out
      have hmx := HFINE.out.1.far_max HFINE.out.2.1 HO.out
      rw [he]
      rcases of_res HMX.out hN HF.out HFINE.out HO.out with ⟨h1, h2⟩ | ⟨h1, h2⟩
      · rw [hmx] at h2
        rw [h2]
        rw [HM'.out] at h1
        have h3 := HO.out.hi
        simp only at h3
        simp only [decide_eq_false_iff_not]
        unfold FF at h1
        omega
      · rw [hmx] at h2
        rw [h2, HM'.out]
end Go.Proofs.Ytnjbahiaelehkaa
