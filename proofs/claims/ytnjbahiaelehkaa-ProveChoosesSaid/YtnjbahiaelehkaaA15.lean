/- The contracts of Entails, Possible and Span of package prove. -/
import Derived.Test.YtnjbahiaelehkaaA14
namespace Go.Proofs.Ytnjbahiaelehkaa
open Go.RowKit

noncomputable def entV (n : Int) (l : List AM) (x : AM) : Bool := if lineN n l x = 0 then entB l x else false
noncomputable def possV (n : Int) (l : List AM) : Bool := if checkN n l = 0 then possB l else false

theorem lineN_zero {n : Int} {l : List AM} {x : AM} (h0 : lineN n l x = 0) : checkN n l = 0 ∧ rightB n x = true := by
  unfold lineN at h0
  split at h0
  · rename_i hc
    refine ⟨hc, ?_⟩
    split at h0
    · assumption
    · cases h0
  · rename_i hc; exact absurd h0 hc

set_option maxRecDepth 100000 in
set_option maxHeartbeats 1000000 in
theorem entails_any (n : Int) (l : List AM) (A P B Q L : Int) (a : Option Addr) (cap : Nat) (w : World) (hl : Rd w a l) (hlen : l.length ≤ 1000000) :
    Calls Try.prog 25 #[.int .i64 n, .slice a l.length cap, .agg #[.int .i64 A, .int .i64 P, .int .i64 B, .int .i64 Q, .int .i64 L]] w
      (Ret2 (.bool (entV n l ⟨A, P, B, Q, L⟩)) (.int .i64 (lineN n l ⟨A, P, B, Q, L⟩)) w) := by
  have HL := hid hl; clear hl
  by_cases h0 : lineN n l ⟨A, P, B, Q, L⟩ = 0
  · obtain ⟨hc0, hr0⟩ := lineN_zero h0
    obtain ⟨⟨hn1, hn2⟩, _, hrs⟩ := checkN_in hc0
    obtain ⟨N, rfl⟩ : ∃ N : Nat, n = (N : Int) := ⟨n.toNat, by omega⟩
    have hN : N ≤ 12 := by omega
    have HOK := hid (rights_ok hrs)
    have HO := hid (right_ok hr0)
    have H0 := hid h0
    clear h0 hc0 hr0 hrs
    go_enter Try.func25, Try.ntmps25
    go_wp2_with (first
      | (go_at_call 56; refine (line_any _ l A P B Q L a cap _ (HL.out.below (bnew _ _)) (by omega)).mono ?_; rw [H0.out]; rintro e w1 ⟨rfl, hb1⟩; obtain ⟨hc1, hf1⟩ := bcell hb1; have HB1 := hid hb1; clear hb1)
      | (go_at_call 65; refine (ent_any N hN l A P B Q L a cap 1000000 _ HOK.out hM6 hF6 1000000 HO.out (by decide) (HL.out.below ((bnew _ _).step HB1.out)) hlen).mono ?_; rintro e w2 ⟨rfl, hb2⟩))
    go_ret2
    exact ⟨by simp [entV, H0.out], ((bnew _ _).step HB1.out).step hb2⟩
  · have hne : (lineN n l ⟨A, P, B, Q, L⟩ == 0) = false := by simpa using h0
    go_enter Try.func25, Try.ntmps25
    go_wp2_with (go_at_call 56; refine (line_any _ l A P B Q L a cap _ (HL.out.below (bnew _ _)) (by omega)).mono ?_; rintro e w1 ⟨rfl, hb1⟩)
    go_ret2
    exact ⟨by simp [entV, h0], (bnew _ _).step hb1⟩

theorem field105 (C : Array Value) (x : Value) (h : C[50]? = some x) (w : World) : (Instr.field 105 (.agg C) 3).run Try.prog w = .ok x w := by
  simp [Instr.field, part, asAgg, go_sem, h]

set_option maxRecDepth 100000 in
set_option maxHeartbeats 1000000 in
theorem possible_any (n : Int) (l : List AM) (a : Option Addr) (cap : Nat) (w : World) (hl : Rd w a l) (hlen : l.length ≤ 1000000) :
    Calls Try.prog 24 #[.int .i64 n, .slice a l.length cap] w (Ret2 (.bool (possV n l)) (.int .i64 (checkN n l)) w) := by
  have HL := hid hl; clear hl
  by_cases h0 : checkN n l = 0
  · obtain ⟨⟨hn1, hn2⟩, _, hrs⟩ := checkN_in h0
    obtain ⟨N, rfl⟩ : ∃ N : Nat, n = (N : Int) := ⟨n.toNat, by omega⟩
    have hN : N ≤ 12 := by omega
    have HOK := hid (rights_ok hrs)
    have H0 := hid h0
    clear h0 hrs
    go_enter Try.func24, Try.ntmps24
    go_wp2_with (first
      | (go_at_call 31; refine (check_any _ l a cap _ HL.out (by omega)).mono ?_; rw [H0.out]; rintro e w1 ⟨rfl, hb1⟩; have HB1 := hid hb1; clear hb1)
      | (go_at_call 57; refine (shut_any N hN _ l a cap 1000000 HOK.out hM6 hF6 (HL.out.below HB1.out) hlen).mono ?_; rintro e w2 ⟨hb2, C, M, no, tp, ty, D, T, rfl, cv, hm, hbd, hor⟩; have hfd := field105 C (.pointer no) cv.no; have HX := hid (And.intro hb2 (And.intro cv (And.intro hm (And.intro hbd hor)))); clear hb2 cv hm hbd hor))
    go_ret2
    obtain ⟨hb2, cv, hm, hbd, hor⟩ := HX.out
    refine ⟨?_, HB1.out.step hb2⟩
    rcases hor with ⟨d, X, rfl, hd, hno'⟩ | ⟨rfl, hfin, htight, htops⟩
    · have hp := hno'.noposs HOK.out
      simp [possV, H0.out, hp]
    · have hp := hfin.poss htight
      simp [possV, H0.out, hp]
  · have hne : (checkN n l == 0) = false := by simpa using h0
    go_enter Try.func24, Try.ntmps24
    go_wp2_with (go_at_call 31; refine (check_any _ l a cap _ HL.out (by omega)).mono ?_; rintro e w1 ⟨rfl, hb1⟩)
    go_ret2
    exact ⟨by simp [possV, h0], hb1⟩

/-- What Span returns. -/
noncomputable def spanM (l : List AM) (k s : Int) : Option Int := maxO l ⟨k, s, 0, 0, 0⟩
noncomputable def spanLo (n : Int) (l : List AM) (k : Int) : Int := if indexN n l k = 0 ∧ possB l = true then (match spanM l k (-1), spanM l k 1 with | some x, some _ => -x | _, _ => 0) else 0
noncomputable def spanHi (n : Int) (l : List AM) (k : Int) : Int := if indexN n l k = 0 ∧ possB l = true then (match spanM l k (-1), spanM l k 1 with | some _, some y => y | _, _ => 0) else 0
noncomputable def spanE (n : Int) (l : List AM) (k : Int) : Int := if indexN n l k = 0 then (if possB l = true then (match spanM l k (-1), spanM l k 1 with | some _, some _ => 0 | _, _ => 5) else 10) else indexN n l k

def Ret3 (v u x : Value) (w : World) (e : Ending) (w' : World) : Prop := e = .returned (.tuple #[v, u, x]) ∧ Below w.heap.size w w'

theorem span_ok {n : Nat} {k : Int} (h0 : 0 ≤ k) (hk : k < n) {s : Int} (hs : s = 1 ∨ s = -1) : Ok n 1000000 ⟨k, s, 0, 0, 0⟩ := ⟨h0, hk, hs, .inl rfl, by show -1000000 ≤ (0 : Int); omega, by show (0 : Int) ≤ 1000000; omega, fun _ => rfl, fun h => absurd rfl h⟩

set_option maxRecDepth 100000 in
set_option maxHeartbeats 1000000 in
theorem span_any (n : Int) (l : List AM) (k : Int) (a : Option Addr) (cap : Nat) (w : World) (hl : Rd w a l) (hlen : l.length ≤ 1000000) :
    Calls Try.prog 20 #[.int .i64 n, .slice a l.length cap, .int .i64 k] w (Ret3 (.int .i64 (spanLo n l k)) (.int .i64 (spanHi n l k)) (.int .i64 (spanE n l k)) w) := by
  have HL := hid hl; clear hl
  by_cases h0 : indexN n l k = 0
  · have hc0 : checkN n l = 0 := by
      unfold indexN at h0; split at h0
      · assumption
      · exact h0
    have hk0 : inB k 0 (n - 1) = true := by
      unfold indexN at h0; rw [if_pos hc0] at h0; split at h0
      · assumption
      · cases h0
    obtain ⟨⟨hn1, hn2⟩, _, hrs⟩ := checkN_in hc0
    obtain ⟨N, rfl⟩ : ∃ N : Nat, n = (N : Int) := ⟨n.toNat, by omega⟩
    have hN : N ≤ 12 := by omega
    have hkr : 0 ≤ k ∧ k ≤ N - 1 := by simpa [inB] using hk0
    obtain ⟨hk1, hk2⟩ := hkr
    have HOK := hid (rights_ok hrs)
    have H0 := hid h0
    clear h0 hc0 hk0 hrs
    go_enter Try.func20, Try.ntmps20
    go_upto_region 4 with (go_at_call 62; refine (index_any _ l k a cap _ HL.out (by omega)).mono ?_; rw [H0.out]; rintro e w1 ⟨rfl, hb1⟩)
    have HB1 := hid hb1; clear hb1
    go_cut [10] (fun s9 wx => ∃ c : Nat, s9 = .pointer (some ⟨c, 0, none⟩) ∧ ShutAt l N 1000000 c wx ∧ Below w1.heap.size w1 wx)
    case first =>
      go_wp2_with (first | (go_at_call 57; refine (shut_any N hN _ l a cap 1000000 HOK.out hM6 hF6 (HL.out.below HB1.out) hlen).mono ?_; rintro e w2 ⟨hb2, C, M, no, tp, ty, D, T, rfl, cv, hm, hbd, hor⟩; have HX := hid (And.intro hb2 (And.intro cv (And.intro hm (And.intro hbd hor)))); clear hb2 cv hm hbd hor) | (refine wpList_store_row rfl 105 (.tmp 10) (.tmp 22) rfl _ C rfl rfl 105 _ (heapn _ _ _ rfl) (by rw [HX.out.2.1.size]; exact size105) (by rw [HX.out.2.1.size]; rfl) HX.out.2.1.one ?_))
      go_meet
      obtain ⟨hb2, cv, hm, hbd, hor⟩ := HX.out
      exact ⟨_, rfl, ShutAt.new cv hm hbd hor, hb2.step newRow_below⟩
    case rest =>
      obtain ⟨c, rfl, ⟨C, M, no, tp, ty, D, T, hrow, cv, hm, hbd, hor⟩, hb3⟩ := hcut
      have hcs : CS wc c N M no tp ty := ⟨C, hrow, cv⟩
      have hno := hcs.getNo
      have HB3 := hid hb3; clear hb3
      rcases hor with ⟨d, X, rfl, hd, hno'⟩ | ⟨rfl, hfin, htight, htops⟩
      · have hp := hno'.noposs HOK.out
        have HP := hid hp; clear hp
        clear hcs hrow cv hm hbd hd hno'
        go_wp2
        go_ret3
        exact ⟨by simp [spanLo, spanHi, spanE, H0.out, HP.out], HB1.out.step HB3.out⟩
      · have HFINE := hid (And.intro hfin (And.intro htight htops)); clear hfin htight htops
        have hi1 : nd k (-1) < 24 := nd_lt24 hN hk1 (by omega)
        have hi2 : nd k 1 < 24 := nd_lt24 hN hk1 (by omega)
        have hi1' : ((nd k (-1) : Nat) : Int) < 24 := by omega
        have hi2' : ((nd k 1 : Nat) : Int) < 24 := by omega
        have q1 := hcs.most hi1
        have q2 := hcs.most hi2
        have r1 := of_res hM6 hN hF6 HFINE.out (span_ok hk1 (by omega) (.inr rfl) : Ok N 1000000 ⟨k, -1, 0, 0, 0⟩)
        have r2 := of_res hM6 hN hF6 HFINE.out (span_ok hk1 (by omega) (.inl rfl) : Ok N 1000000 ⟨k, 1, 0, 0, 0⟩)
        simp only [ofM, if_true] at r1 r2
        obtain ⟨bx1, bx2⟩ := hbd _ hi1
        obtain ⟨by1, by2⟩ := hbd _ hi2
        have hp := HFINE.out.1.poss HFINE.out.2.1
        have HP := hid hp; clear hp
        generalize tp (nd k (-1)) = x at *
        generalize tp (nd k 1) = y at *
        have R1 := hid r1; clear r1
        have R2 := hid r2; clear r2
        clear hcs hrow cv hm hbd
        unfold FF at bx1 bx2 by1 by2
        go_upto_region 7 with fail
        go_region_held3 (fun w' => w'.cell? ⟨c, 2 + nd k (-1) * 2, none⟩ = some (.int .i64 x) ∧ w'.cell? ⟨c, 2 + nd k 1 * 2, none⟩ = some (.int .i64 y)) (go_keep)
          ((go_at_call 63; refine (end_any k _ hk1 (by omega) _).mono ?_; rintro e w' ⟨rfl, rfl⟩))
        all_goals
          have hbl := HB1.out.step (HB3.out.step (bdrew _))
          by_cases hx : x = FF
          · have tx : (x == 1152921504606846976) = true := by simpa using hx
            have HX := hid hx; clear hx
            go_wp2
            go_ret3
            rcases R1.out with ⟨_, e1⟩ | ⟨e1, _⟩
            · exact ⟨by simp [spanLo, spanHi, spanE, spanM, H0.out, HP.out, e1], hbl⟩
            · exact absurd HX.out e1
          have tx : (x == 1152921504606846976) = false := by simpa using hx
          have HX := hid hx; clear hx
          by_cases hy : y = FF
          · have ty' : (y == 1152921504606846976) = true := by simpa using hy
            have HY := hid hy; clear hy
            go_wp2
            go_ret3
            rcases R2.out with ⟨_, e2⟩ | ⟨e2, _⟩
            · rcases R1.out with ⟨_, e1⟩ | ⟨_, e1⟩
              · exact ⟨by simp [spanLo, spanHi, spanE, spanM, H0.out, HP.out, e1], hbl⟩
              · exact ⟨by simp [spanLo, spanHi, spanE, spanM, H0.out, HP.out, e1, e2], hbl⟩
            · exact absurd HY.out e2
          have ty' : (y == 1152921504606846976) = false := by simpa using hy
          have HY := hid hy; clear hy
          go_wp2
          go_ret3
          rcases R1.out with ⟨e1, _⟩ | ⟨_, e1⟩
          · exact absurd e1 HX.out
          rcases R2.out with ⟨e2, _⟩ | ⟨_, e2⟩
          · exact absurd e2 HY.out
          exact ⟨by simp [spanLo, spanHi, spanE, spanM, H0.out, HP.out, e1, e2], hbl⟩
  · have hne : (indexN n l k == 0) = false := by simpa using h0
    go_enter Try.func20, Try.ntmps20
    go_wp2_with (go_at_call 62; refine (index_any _ l k a cap _ HL.out (by omega)).mono ?_; rintro e w1 ⟨rfl, hb1⟩)
    go_ret3
    exact ⟨by simp [spanLo, spanHi, spanE, h0], hb1⟩
end Go.Proofs.Ytnjbahiaelehkaa
