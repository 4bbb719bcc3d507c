/- Refute (38) and Prove (34). -/
import Derived.Test.YtnjbahiaelehkaaA22
namespace Go.Proofs.Ytnjbahiaelehkaa
open Go.RowKit

theorem own_base {w : World} {base base' : Nat} {e : TypeId} {sz : Nat} {v : Value} {n : Nat} {xs : List Value} (h : w.ownsRow base e sz v n xs) (hb : base' ≤ base) : w.ownsRow base' e sz v n xs := by
  refine ⟨h.1, ?_⟩
  rcases h.2 with h | ⟨g, cap, cur, h1, hg, h2⟩
  · exact .inl h
  · exact .inr ⟨g, cap, cur, h1, by omega, h2⟩
noncomputable def refuV (n : Int) (l : List AM) : Bool := if checkN n l = 0 then !possB l else false
/-- A proof, or none. -/
def PfPost (ok : Bool) (e0 : Int) (good : List Stp → Prop) (w : World) (e : Ending) (w' : World) : Prop :=
  Below w.heap.size w w' ∧ ∃ S v, e = .returned (.tuple #[v, .bool ok, .int .i64 e0]) ∧ OwnS w' w.heap.size v S ∧ (ok = true → good S) ∧ (ok = false → S = [])
theorem PfPost.no {e0 : Int} {good : List Stp → Prop} {w w' : World} (hb : Below w.heap.size w w') : PfPost false e0 good w (.returned (.tuple #[.slice none 0 0, .bool false, .int .i64 e0])) w' :=
  ⟨hb, [], _, rfl, ⟨rfl, .inl ⟨rfl, rfl⟩⟩, fun h => (by cases h), fun _ => rfl⟩
theorem PfPost.yes {e0 : Int} {good : List Stp → Prop} {w w1 w' : World} {v : Value} {S : List Stp} (hb : Below w.heap.size w w1) (hb' : Below w1.heap.size w1 w') (ho : OwnS w' w1.heap.size v S) (hg : good S) : PfPost true e0 good w (.returned (.tuple #[v, .bool true, .int .i64 e0])) w' :=
  ⟨hb.step hb', S, v, rfl, own_base ho hb.size, fun _ => hg, fun h => (by cases h)⟩

set_option maxRecDepth 100000 in
set_option maxHeartbeats 4000000 in
theorem refute_any (n : Int) (l : List AM) (a : Option Addr) (cap : Nat) (w : World) (hl : Rd w a l) (hlen : l.length ≤ 1000000) :
    Calls Try.prog 38 #[.int .i64 n, .slice a l.length cap] w (PfPost (refuV n l) (checkN n l) (fun S => ∀ N, refB N l S = true) w) := by
  have HL := hid hl; clear hl
  by_cases h0 : checkN n l = 0
  · obtain ⟨⟨hn1, hn2⟩, _, hrs⟩ := checkN_in h0
    obtain ⟨N, rfl⟩ : ∃ N : Nat, n = (N : Int) := ⟨n.toNat, by omega⟩
    have hN : N ≤ 12 := by omega
    have HOK := hid (rights_ok hrs)
    have H0 := hid h0
    clear h0 hrs
    go_enter Try.func38, Try.ntmps38
    go_upto_region 4 with (go_at_call 31; refine (check_any _ l a cap _ HL.out (by omega)).mono ?_; rw [H0.out]; rintro e w1 ⟨rfl, hb1⟩)
    have HB1 := hid hb1; clear hb1
    go_cut [8] (fun s8 wx => ∃ c : Nat, s8 = .pointer (some ⟨c, 0, none⟩) ∧ ShutAt l N 1000000 c wx ∧ Below w1.heap.size w1 wx)
    case first =>
      go_wp2_with (first | (go_at_call 57; refine (shut_any N hN _ l a cap 1000000 HOK.out hM6 hF6 (HL.out.below HB1.out) hlen).mono ?_; rintro e w2 ⟨hb2, C, M, no, tp, ty, D, T, rfl, cv, hm, hbd, hor⟩; have HX := hid (And.intro hb2 (And.intro cv (And.intro hm (And.intro hbd hor)))); clear hb2 cv hm hbd hor) | (refine wpList_store_row rfl 105 (.tmp 8) (.tmp 17) rfl _ C rfl rfl 105 _ (heapn _ _ _ rfl) (by rw [HX.out.2.1.size]; exact size105) (by rw [HX.out.2.1.size]; rfl) HX.out.2.1.one ?_))
      go_meet
      obtain ⟨hb2, cv, hm, hbd, hor⟩ := HX.out
      exact ⟨_, rfl, ShutAt.new cv hm hbd hor, hb2.step newRow_below⟩
    case rest =>
      obtain ⟨c, rfl, ⟨C, M, no, tp, ty, D, T, hrow, cv, hm, hbd, hor⟩, hb3⟩ := hcut
      have hcs : CS wc c N M no tp ty := ⟨C, hrow, cv⟩
      have hno := hcs.getNo
      have hcl := hcs.lt
      have HB3 := hid hb3; clear hb3
      clear hcs cv hm hbd hrow
      rcases hor with ⟨d, X, rfl, hd, hno'⟩ | ⟨rfl, hfin, htight, htops⟩
      · have hp := hno'.noposs HOK.out
        have HD := hid hd; clear hd
        have HNO := hid hno'; clear hno'
        have hm := (HNO.out.gd HOK.out hN).2.1
        go_wp2_with (go_at_call 78; refine (steps_any X d _ HD.out (by omega)).mono ?_; rintro e w5 ⟨hb5, S, v, rfl, hown, hst⟩; have HS := hid (And.intro hb5 (And.intro hown hst)); clear hb5 hown hst)
        go_ret3
        obtain ⟨hb5, hown, hst⟩ := HS.out
        have hv : refuV N l = true := by simp [refuV, H0.out, hp]
        rw [hv, H0.out]
        exact .yes (HB1.out.step HB3.out) hb5 hown fun N' => (hst.ref HOK.out hN HNO.out N').1
      · have hp := hfin.poss htight
        go_wp2
        go_ret3
        have hv : refuV N l = false := by simp [refuV, H0.out, hp]
        rw [hv, H0.out]
        exact .no (HB1.out.step HB3.out)
  · have hne : (checkN n l == 0) = false := by simpa using h0
    go_enter Try.func38, Try.ntmps38
    go_wp2_with (go_at_call 31; refine (check_any _ l a cap _ HL.out (by omega)).mono ?_; rintro e w1 ⟨rfl, hb1⟩)
    go_ret3
    have hv : refuV n l = false := by simp [refuV, h0]
    rw [hv]
    exact .no hb1

set_option maxRecDepth 100000 in
set_option maxHeartbeats 4000000 in
theorem prove_any (n : Int) (l : List AM) (A P B Q L : Int) (a : Option Addr) (cap : Nat) (w : World) (hl : Rd w a l) (hlen : l.length ≤ 1000000) :
    Calls Try.prog 34 #[.int .i64 n, .slice a l.length cap, .agg #[.int .i64 A, .int .i64 P, .int .i64 B, .int .i64 Q, .int .i64 L]] w
      (PfPost (entV n l ⟨A, P, B, Q, L⟩) (lineN n l ⟨A, P, B, Q, L⟩) (fun S => ∀ N, prfB N l ⟨A, P, B, Q, L⟩ S = true) w) := by
  have HL := hid hl; clear hl
  by_cases h0 : lineN n l ⟨A, P, B, Q, L⟩ = 0
  · obtain ⟨hc0, hr0⟩ := lineN_zero h0
    obtain ⟨⟨hn1, hn2⟩, _, hrs⟩ := checkN_in hc0
    obtain ⟨N, rfl⟩ : ∃ N : Nat, n = (N : Int) := ⟨n.toNat, by omega⟩
    have hN : N ≤ 12 := by omega
    have HOK := hid (rights_ok hrs)
    have HO := hid (right_ok hr0)
    have H0 := hid h0
    clear h0 hc0 hr0 hrs
    go_enter Try.func34, Try.ntmps34
    go_upto_region 4 with (go_at_call 56; refine (line_any _ l A P B Q L a cap _ (HL.out.below (bnew _ _)) (by omega)).mono ?_; rw [H0.out]; rintro e w1 ⟨rfl, hb1⟩; obtain ⟨hc1, hf1⟩ := bcell hb1; have hs1 := hb1.size; simp only [World.size_alloc] at hs1)
    have HB1 := hid hb1; clear hb1
    go_cut [10] (fun s10 wx => ∃ c : Nat, s10 = .pointer (some ⟨c, 0, none⟩) ∧ ShutAt l N 1000000 c wx ∧ Below w1.heap.size w1 wx)
    case first =>
      go_wp2_with (first | (go_at_call 57; refine (shut_any N hN _ l a cap 1000000 HOK.out hM6 hF6 (HL.out.below ((bnew _ _).step HB1.out)) hlen).mono ?_; rintro e w2 ⟨hb2, C, M, no, tp, ty, D, T, rfl, cv, hm, hbd, hor⟩; have HX := hid (And.intro hb2 (And.intro cv (And.intro hm (And.intro hbd hor)))); clear hb2 cv hm hbd hor) | (refine wpList_store_row rfl 105 (.tmp 10) (.tmp 22) rfl _ C rfl rfl 105 _ (heapn _ _ _ rfl) (by rw [HX.out.2.1.size]; exact size105) (by rw [HX.out.2.1.size]; rfl) HX.out.2.1.one ?_))
      go_meet
      obtain ⟨hb2, cv, hm, hbd, hor⟩ := HX.out
      exact ⟨_, rfl, ShutAt.new cv hm hbd hor, hb2.step newRow_below⟩
    case rest =>
      obtain ⟨c, rfl, ⟨C, M, no, tp, ty, D, T, hrow, cv, hm, hbd, hor⟩, hb3⟩ := hcut
      have hcs : CS wc c N M no tp ty := ⟨C, hrow, cv⟩
      have hno := hcs.getNo
      have hcl := hcs.lt
      have hs3 := hb3.size
      have ham := ((am_alloc w ⟨A, P, B, Q, L⟩).below HB1.out).below hb3
      obtain ⟨k0, k1, k2, k3, k4⟩ := ham
      simp only [Nat.zero_add] at k0 k1 k2 k3 k4
      have HROW := hid hrow; clear hrow
      have HCV := hid cv; clear cv
      have HM := hid hm; clear hm
      have HBD := hid hbd; clear hbd
      have HB3 := hid hb3; clear hb3
      clear hcs
      rcases hor with ⟨d, X, rfl, hd, hno'⟩ | ⟨rfl, hfin, htight, htops⟩
      · have hp := hno'.noposs HOK.out
        have HD := hid hd; clear hd
        have HNO := hid hno'; clear hno'
        have hm := (HNO.out.gd HOK.out hN).2.1
        go_wp2_with (first | (refine wpList_load_row rfl 105 (.tmp 10) rfl c rfl 105 C (0, 0) _ HROW.out.1 Try.underlying105 rfl (by rw [HROW.out.2]; exact size105) ?_) | (go_at_call 58; refine (of_any N hN _ C N M _ tp ty D T HCV.out HM.out HBD.out A P B Q L _ HO.out).mono ?_; rintro e w3 ⟨hb, p, rfl, hofp⟩; have HB4 := hid hb; clear hb; clear hofp) | (go_at_call 78; refine (steps_any X d _ ((HD.out.below HB4.out).below (bnew _ _)) (by omega)).mono ?_; rintro e w5 ⟨hb5, S, v, rfl, hown, hst⟩; have HS := hid (And.intro hb5 (And.intro hown hst)); clear hb5 hown hst))
        go_ret3
        obtain ⟨hb5, hown, hst⟩ := HS.out
        have he : entB l ⟨A, P, B, Q, L⟩ = true := by
          rw [entB_iff]; intro x hx
          exact absurd (possB_iff.2 ⟨x, hx⟩) (by rw [hp]; simp)
        have hv : entV N l ⟨A, P, B, Q, L⟩ = true := by simp [entV, H0.out, he]
        rw [hv, H0.out]
        exact .yes ((((bnew _ _).step HB1.out).step HB3.out).step (HB4.out.step (bnew _ _))) hb5 hown fun N' => (hst.ref HOK.out hN HNO.out N').2 _
      · have HFINE := hid (And.intro hfin (And.intro htight htops)); clear hfin htight htops
        by_cases hle : ofM tp D ⟨A, P, B, Q, L⟩ ≤ L
        · have hne : ofM tp D ⟨A, P, B, Q, L⟩ ≠ FF := by
            have := HO.out.hi
            have h : L ≤ 1000000 := this
            unfold FF
            omega
          go_wp2_with (first | (refine wpList_load_row rfl 105 (.tmp 10) rfl c rfl 105 C (0, 0) _ HROW.out.1 Try.underlying105 rfl (by rw [HROW.out.2]; exact size105) ?_) | (go_at_call 58; refine (of_any N hN _ C N M none tp ty D T HCV.out HM.out HBD.out A P B Q L _ HO.out).mono ?_; rintro e w3 ⟨hb, p, rfl, hofp⟩; have k43 := cell_later hb k4; have hs43 := hb.size; have hlt43 : w.heap.size < w3.heap.size := (by omega); obtain ⟨d, X, rfl, hd, hot⟩ := ofP_ofT hN HFINE.out HO.out hb hofp hne; have HB4 := hid hb; clear hb; clear hofp; have hm := (hot.pr.gd HOK.out hN HO.out).2.1; have HOT := hid hot; clear hot; have HD := hid hd; clear hd) | (go_at_call 78; refine (steps_any X d _ (HD.out.below (bnew _ _)) (by omega)).mono ?_; rintro e w5 ⟨hb5, S, v, rfl, hown, hst⟩; have HS := hid (And.intro hb5 (And.intro hown hst)); clear hb5 hown hst))
          go_ret3
          obtain ⟨hb5, hown, hst⟩ := HS.out
          have hent := HFINE.out.1.ent HFINE.out.2.1 HO.out
          have hfar := ofM_far hM6 hN hF6 HFINE.out HO.out
          have he : entB l ⟨A, P, B, Q, L⟩ = true := by
            rw [hent]
            cases hf : far FF D ⟨A, P, B, Q, L⟩ with
            | none => rw [hf] at hfar; exact absurd hfar hne
            | some m => rw [hf] at hfar; simpa [hfar] using hle
          have hv : entV N l ⟨A, P, B, Q, L⟩ = true := by simp [entV, H0.out, he]
          rw [hv, H0.out]
          exact .yes ((((bnew _ _).step HB1.out).step HB3.out).step (HB4.out.step (bnew _ _))) hb5 hown fun N' => hst.prf HOK.out hN HO.out HOT.out hle N'
        · go_wp2_with (first | (refine wpList_load_row rfl 105 (.tmp 10) rfl c rfl 105 C (0, 0) _ HROW.out.1 Try.underlying105 rfl (by rw [HROW.out.2]; exact size105) ?_) | (go_at_call 58; refine (of_any N hN _ C N M none tp ty D T HCV.out HM.out HBD.out A P B Q L _ HO.out).mono ?_; rintro e w3 ⟨hb, p, rfl, hofp⟩; have k43 := cell_later hb k4; have hs43 := hb.size; have hlt43 : w.heap.size < w3.heap.size := (by omega); have HB4 := hid hb; clear hb; clear hofp))
          go_ret3
          have hent := HFINE.out.1.ent HFINE.out.2.1 HO.out
          have hfar := ofM_far hM6 hN hF6 HFINE.out HO.out
          have he : entB l ⟨A, P, B, Q, L⟩ = false := by
            rw [hent]
            cases hf : far FF D ⟨A, P, B, Q, L⟩ with
            | none => rfl
            | some m => rw [hf] at hfar; simp [hfar] at hle; simpa using hle
          have hv : entV N l ⟨A, P, B, Q, L⟩ = false := by simp [entV, H0.out, he]
          rw [hv, H0.out]
          exact .no ((((bnew _ _).step HB1.out).step HB3.out).step (HB4.out.step (bnew _ _)))
  · have hne : (lineN n l ⟨A, P, B, Q, L⟩ == 0) = false := by simpa using h0
    go_enter Try.func34, Try.ntmps34
    go_wp2_with (go_at_call 56; refine (line_any _ l A P B Q L a cap _ (HL.out.below (bnew _ _)) (by omega)).mono ?_; rintro e w1 ⟨rfl, hb1⟩)
    go_ret3
    have hv : entV n l ⟨A, P, B, Q, L⟩ = false := by simp [entV, h0]
    rw [hv]
    exact .no ((bnew _ _).step hb1)
end Go.Proofs.Ytnjbahiaelehkaa
