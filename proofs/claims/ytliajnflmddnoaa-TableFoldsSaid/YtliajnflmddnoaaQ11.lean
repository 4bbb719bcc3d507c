/- The contract of the reference's Insert. -/
import Derived.Test.YtliajnflmddnoaaQ10
import Derived.Deep.RegionHeldLaw
namespace Go.Proofs.Ytliajnflmddnoaa
open Go.RowKit

theorem box5 {W : World} {b : Nat} {x y z u v : Value} {T : TypeId} (h : W.heap[b]? = some (.cells #[x, y, z, u, v] T (0, 0))) : W.cell? ⟨b, 0, none⟩ = some x ∧ W.cell? ⟨b, 1, none⟩ = some y ∧ W.cell? ⟨b, 2, none⟩ = some z ∧ W.cell? ⟨b, 3, none⟩ = some u ∧ W.cell? ⟨b, 4, none⟩ = some v ∧ W.frozen? ⟨b, 0, none⟩ = false ∧ W.frozen? ⟨b, 1, none⟩ = false ∧ W.frozen? ⟨b, 2, none⟩ = false ∧ W.frozen? ⟨b, 3, none⟩ = false ∧ W.frozen? ⟨b, 4, none⟩ = false := by
  simp [World.cell?, World.frozen?, h]
theorem rd_box {w : World} {g : Nat} {x : Int} (h : w.heap[g]? = some (.cells #[.int .i64 x] 3 (0, 0))) : RdI w (some ⟨g, 0, none⟩) [x] := by
  intro i hi
  obtain rfl : i = 0 := by simp at hi; exact hi
  exact ⟨g, 0, rfl, lt_of_heap h, by simp [World.cell?, h]⟩
/-- What the reference returns: rows laid over each other, and two numbers, in a struct. -/
def LaysRet (L : Ld) (x y : Int) (w : World) (e : Ending) (w' : World) : Prop := Below w.heap.size w w' ∧ ∃ sa sc ca cc, e = .returned (.agg #[.int .i64 L.cols, .slice sa L.starts.length sc, .slice ca L.cells.length cc, .int .i64 x, .int .i64 y]) ∧ LdM w' L sa sc ca cc
theorem LaysRet.empty {w w' : World} (y : Int) (h : Below w.heap.size w w') : LaysRet emptyL 0 y w (.returned (.agg #[.int .i64 0, .slice none 0 0, .slice none 0 0, .int .i64 0, .int .i64 y])) w' := ⟨h, none, 0, none, 0, rfl, LdM.empty _⟩
abbrev laysZero : Array Value := #[.int .i64 0, .slice none 0 0, .slice none 0 0, .int .i64 0, .int .i64 0]

set_option maxRecDepth 100000 in
set_option maxHeartbeats 8000000 in
theorem rins_bad (L : Ld) (hf : Fit L) (row : List Int) (ar : Option Addr) (cr : Nat) (sa : Option Addr) (sc : Nat) (ca : Option Addr) (cc : Nat) (w : World) (hm : LdM w L sa sc ca cc) (hE : chkL L ≠ 0) :
    Calls Try.prog 25 #[vL L sa sc ca cc, .slice ar row.length cr] w (LaysRet (insV L row) (insAt L row) (insE L row) w) := by
  have HM := hid hm; clear hm
  obtain ⟨hb0, hx0, hr0⟩ := two_new w #[.int .i64 L.cols, .slice sa L.starts.length sc, .slice ca L.cells.length cc] laysZero 44 48
  have e1 : insE L row = chkL L := by unfold insE; rw [if_neg hE]
  obtain ⟨e2, e3⟩ := insV_no e1 hE
  rw [e1, e2, e3]
  have hne : (chkL L != 0) = true := by rw [bne_iff_ne]; exact hE
  have HC := hid (rcheckL_any L hf sa sc ca cc)
  have HB0 := hid hb0
  have HX0 := hid hx0
  have HR0 := hid hr0
  obtain ⟨k0, k1, k2, _, _, _⟩ := box3 hx0
  clear hb0 hx0 hr0 hE e1 e2 e3
  go_enter Try.func25, Try.ntmps25
  go_wp2_with (go_at_call 37; (with_reducible refine (HC.out _ (HM.out.below HB0.out)).mono ?_); rintro e w1 ⟨rfl, hb⟩; have HB := hid (HB0.out.step hb); obtain ⟨r0, r1, r2, r3, r4, z0, z1, z2, z3, z4⟩ := box5 (keepBox hb HR0.out); clear hb)
  exact bodyPost_ret (v := .agg #[.int .i64 0, .slice none 0 0, .slice none 0 0, .int .i64 0, .int .i64 (chkL L)]) (by simp [results, Try.results25, go_sem, r0, r1, r2, r3, r4]) rfl (LaysRet.empty _ (((((HB.out.setCell (by simp) _).setCell (by simp) _).setCell (by simp) _).setCell (by simp) _).setCell (by simp) _))

set_option maxRecDepth 100000 in
set_option maxHeartbeats 8000000 in
theorem rins_len (L : Ld) (hf : Fit L) (row : List Int) (ar : Option Addr) (cr : Nat) (sa : Option Addr) (sc : Nat) (ca : Option Addr) (cc : Nat) (w : World) (hm : LdM w L sa sc ca cc) (_hrl : row.length ≤ 1000) (hE : chkL L = 0) (hq : (row.length : Int) ≠ L.cols) :
    Calls Try.prog 25 #[vL L sa sc ca cc, .slice ar row.length cr] w (LaysRet (insV L row) (insAt L row) (insE L row) w) := by
  have HM := hid hm; clear hm
  obtain ⟨hb0, hx0, hr0⟩ := two_new w #[.int .i64 L.cols, .slice sa L.starts.length sc, .slice ca L.cells.length cc] laysZero 44 48
  have e1 : insE L row = 1 := by unfold insE; rw [if_pos hE, if_neg (fun h => hq h.1)]
  obtain ⟨e2, e3⟩ := insV_no e1 (by decide)
  rw [e1, e2, e3]
  have hne : ((row.length : Int) != L.cols) = true := by rw [bne_iff_ne]; exact hq
  have HC : Hid (∀ w, LdM w L sa sc ca cc → Calls Try.prog 37 #[vL L sa sc ca cc] w (RetB (.int .i64 0) w)) := hid fun w h => by
    have := rcheckL_any L hf sa sc ca cc w h
    rwa [hE] at this
  have HB0 := hid hb0
  have HX0 := hid hx0
  have HR0 := hid hr0
  obtain ⟨k0, k1, k2, _, _, _⟩ := box3 hx0
  clear hb0 hx0 hr0 hE e1 e2 e3 hq
  go_enter Try.func25, Try.ntmps25
  go_wp2_with (go_at_call 37; (with_reducible refine (HC.out _ (HM.out.below HB0.out)).mono ?_); rintro e w1 ⟨rfl, hb⟩; have HB := hid (HB0.out.step hb); obtain ⟨k0, k1, k2, _, _, _⟩ := box3 (keepBox hb HX0.out); obtain ⟨r0, r1, r2, r3, r4, z0, z1, z2, z3, z4⟩ := box5 (keepBox hb HR0.out); clear hb)
  exact bodyPost_ret (v := .agg #[.int .i64 0, .slice none 0 0, .slice none 0 0, .int .i64 0, .int .i64 1]) (by simp [results, Try.results25, go_sem, r0, r1, r2, r3, r4]) rfl (LaysRet.empty _ (((((HB.out.setCell (by simp) _).setCell (by simp) _).setCell (by simp) _).setCell (by simp) _).setCell (by simp) _))

set_option maxRecDepth 100000 in
set_option maxHeartbeats 8000000 in
theorem rins_arg (L : Ld) (hf : Fit L) (row : List Int) (ar : Option Addr) (cr : Nat) (sa : Option Addr) (sc : Nat) (ca : Option Addr) (cc : Nat) (w : World) (hm : LdM w L sa sc ca cc) (hr : RdI w ar row) (hrl : row.length ≤ 1000) (hE : chkL L = 0) (hq : (row.length : Int) = L.cols) (ha : row.all rightB = false) :
    Calls Try.prog 25 #[vL L sa sc ca cc, .slice ar row.length cr] w (LaysRet (insV L row) (insAt L row) (insE L row) w) := by
  have HM := hid hm; clear hm
  have HR := hid hr; clear hr
  obtain ⟨hb0, hx0, hr0⟩ := two_new w #[.int .i64 L.cols, .slice sa L.starts.length sc, .slice ca L.cells.length cc] laysZero 44 48
  have e1 : insE L row = 1 := by unfold insE; rw [if_pos hE, if_neg (fun h => by rw [ha] at h; cases h.2)]
  obtain ⟨e2, e3⟩ := insV_no e1 (by decide)
  rw [e1, e2, e3]
  have hne : ((row.length : Int) != L.cols) = false := by rw [hq]; simp
  have HC : Hid (∀ w, LdM w L sa sc ca cc → Calls Try.prog 37 #[vL L sa sc ca cc] w (RetB (.int .i64 0) w)) := hid fun w h => by
    have := rcheckL_any L hf sa sc ca cc w h
    rwa [hE] at this
  have HB0 := hid hb0
  have HX0 := hid hx0
  have HR0 := hid hr0
  have HA := hid ha
  obtain ⟨k0, k1, k2, _, _, _⟩ := box3 hx0
  clear hb0 hx0 hr0 hE e1 e2 e3 hq ha
  go_enter Try.func25, Try.ntmps25
  go_wp2_with (go_at_call 37; (with_reducible refine (HC.out _ (HM.out.below HB0.out)).mono ?_); rintro e w1 ⟨rfl, hb⟩; have HB := hid (HB0.out.step hb); have HX1 := hid (keepBox hb HX0.out); have HR1 := hid (keepBox hb HR0.out); obtain ⟨k0, k1, k2, _, _, _⟩ := box3 HX1.out; clear hb)
  clear k0 k1 k2 hne
  go_loop [6] (fun s6 => ∃ k : Nat, k ≤ row.length ∧ s6 = .int .i64 k ∧ Hid (∀ x, x ∈ row.take k → rightB x = true)) (fun s6 => row.length - (intOf s6).toNat)
  case atStart => exact ⟨0, Nat.zero_le _, rfl, hid (by simp)⟩
  case round =>
    obtain ⟨k, hk, rfl, HQ⟩ := hrel
    have hkl : k < row.length := by
      rcases Nat.lt_or_ge k row.length with h | h
      · exact h
      · exfalso
        have h1 := HQ.out
        rw [List.take_of_length_le h] at h1
        have h2 : row.all rightB = true := List.all_eq_true.2 h1
        rw [HA.out] at h2
        cases h2
    have nk : (k : Int) < (row.length : Int) := by omega
    obtain ⟨b, off, har, hlt, h1⟩ := HR.out.below HB.out k hkl
    subst har
    have HT := hid (take_last hkl)
    obtain ⟨x, hx⟩ : ∃ x, x = row[k] := ⟨_, rfl⟩
    rw [← hx] at h1 HT
    clear hx
    cases h8 : rightB x with
    | true =>
      have H8 := hid h8
      clear h8
      go_wp2_with (go_at_call 60; (with_reducible refine (rright_any x _).mono ?_); rw [H8.out]; rintro e w' ⟨rfl, rfl⟩)
      go_round
      case rel =>
        refine ⟨k + 1, by omega, by go_num, hid ?_⟩
        intro y hy
        rw [HT.out, List.mem_append] at hy
        rcases hy with hy | hy
        · exact HQ.out y hy
        · rw [List.mem_singleton.1 hy]; exact H8.out
      case measure => simp [intOf]; omega
    | false =>
      have H8 := hid h8
      clear h8
      obtain ⟨r0, r1, r2, r3, r4, z0, z1, z2, z3, z4⟩ := box5 HR1.out
      go_wp2_with (go_at_call 60; (with_reducible refine (rright_any x _).mono ?_); rw [H8.out]; rintro e w' ⟨rfl, rfl⟩)
      exact bodyPost_ret (v := .agg #[.int .i64 0, .slice none 0 0, .slice none 0 0, .int .i64 0, .int .i64 1]) (by simp [results, Try.results25, go_sem, r0, r1, r2, r3, r4]) rfl (LaysRet.empty _ (((((HB.out.setCell (by simp) _).setCell (by simp) _).setCell (by simp) _).setCell (by simp) _).setCell (by simp) _))

/-- The walk up to where the row has been looked through. -/
theorem rins_step {row : List Int} (ha : row.all rightB = true) {k : Nat} (hk : k < row.length) : rightB (row.getD k (-1)) = true := by
  rw [getD_in hk]
  exact List.all_eq_true.1 ha _ (List.getElem_mem hk)

set_option maxRecDepth 100000 in
set_option maxHeartbeats 8000000 in
theorem rins_lim (L : Ld) (hf : Fit L) (row : List Int) (ar : Option Addr) (cr : Nat) (sa : Option Addr) (sc : Nat) (ca : Option Addr) (cc : Nat) (w : World) (hm : LdM w L sa sc ca cc) (hr : RdI w ar row) (hrl : row.length ≤ 1000) (hE : chkL L = 0) (hq : (row.length : Int) = L.cols) (ha : row.all rightB = true) (h60 : L.starts.length = 60) :
    Calls Try.prog 25 #[vL L sa sc ca cc, .slice ar row.length cr] w (LaysRet (insV L row) (insAt L row) (insE L row) w) := by
  have HM := hid hm; clear hm
  have HR := hid hr; clear hr
  obtain ⟨hb0, hx0, hr0⟩ := two_new w #[.int .i64 L.cols, .slice sa L.starts.length sc, .slice ca L.cells.length cc] laysZero 44 48
  have e1 : insE L row = 3 := by unfold insE; rw [if_pos hE, if_pos ⟨hq, ha⟩, if_pos (by omega)]
  obtain ⟨e2, e3⟩ := insV_no e1 (by decide)
  rw [e1, e2, e3]
  have hne : ((row.length : Int) != L.cols) = false := by rw [hq]; simp
  have hn6 : ((L.starts.length : Int) == 60) = true := by rw [h60]; rfl
  have HC : Hid (∀ w, LdM w L sa sc ca cc → Calls Try.prog 37 #[vL L sa sc ca cc] w (RetB (.int .i64 0) w)) := hid fun w h => by
    have := rcheckL_any L hf sa sc ca cc w h
    rwa [hE] at this
  have HB0 := hid hb0
  have HX0 := hid hx0
  have HR0 := hid hr0
  have HA := hid ha
  obtain ⟨k0, k1, k2, _, _, _⟩ := box3 hx0
  clear hb0 hx0 hr0 hE e1 e2 e3 hq ha h60
  go_enter Try.func25, Try.ntmps25
  go_wp2_with (go_at_call 37; (with_reducible refine (HC.out _ (HM.out.below HB0.out)).mono ?_); rintro e w1 ⟨rfl, hb⟩; have HB := hid (HB0.out.step hb); have HX1 := hid (keepBox hb HX0.out); have HR1 := hid (keepBox hb HR0.out); obtain ⟨k0, k1, k2, _, _, _⟩ := box3 HX1.out; clear hb)
  clear k0 k1 k2 hne
  go_loop [6] (fun s6 => ∃ k : Nat, k ≤ row.length ∧ s6 = .int .i64 k) (fun s6 => row.length - (intOf s6).toNat)
  case atStart => exact ⟨0, Nat.zero_le _, rfl⟩
  case round =>
    obtain ⟨k, hk, rfl⟩ := hrel
    by_cases hkl : k < row.length
    · have nk : (k : Int) < (row.length : Int) := by omega
      obtain ⟨b, off, har, hlt, h1⟩ := (HR.out.below HB.out).at hkl
      subst har
      have H8 := hid (rins_step HA.out hkl)
      generalize row.getD k (-1) = x at *
      go_wp2_with (go_at_call 60; (with_reducible refine (rright_any x _).mono ?_); rw [H8.out]; rintro e w' ⟨rfl, rfl⟩)
      go_round
      case rel => exact ⟨k + 1, by omega, by go_num⟩
      case measure => simp [intOf]; omega
    · obtain ⟨k0, k1, k2, _, _, _⟩ := box3 HX1.out
      obtain ⟨r0, r1, r2, r3, r4, z0, z1, z2, z3, z4⟩ := box5 HR1.out
      go_wp2
      exact bodyPost_ret (v := .agg #[.int .i64 0, .slice none 0 0, .slice none 0 0, .int .i64 0, .int .i64 3]) (by simp [results, Try.results25, go_sem, r0, r1, r2, r3, r4]) rfl (LaysRet.empty _ (((((HB.out.setCell (by simp) _).setCell (by simp) _).setCell (by simp) _).setCell (by simp) _).setCell (by simp) _))

set_option maxRecDepth 100000 in
set_option maxHeartbeats 8000000 in
theorem rins_full (L : Ld) (hf : Fit L) (row : List Int) (ar : Option Addr) (cr : Nat) (sa : Option Addr) (sc : Nat) (ca : Option Addr) (cc : Nat) (w : World) (hm : LdM w L sa sc ca cc) (hr : RdI w ar row) (hrl : row.length ≤ 1000) (hE : chkL L = 0) (hq : (row.length : Int) = L.cols) (ha : row.all rightB = true) (h60 : L.starts.length < 60) (h30 : 30000 < (putL L.cells row (L.starts.length : Nat)).length) :
    Calls Try.prog 25 #[vL L sa sc ca cc, .slice ar row.length cr] w (LaysRet (insV L row) (insAt L row) (insE L row) w) := by
  have HM := hid hm; clear hm
  have HR := hid hr; clear hr
  obtain ⟨hb0, hx0, hr0⟩ := two_new w #[.int .i64 L.cols, .slice sa L.starts.length sc, .slice ca L.cells.length cc] laysZero 44 48
  have e1 : insE L row = 14 := by unfold insE; rw [if_pos hE, if_pos ⟨hq, ha⟩, if_neg (by omega), if_pos h30]
  obtain ⟨e2, e3⟩ := insV_no e1 (by decide)
  rw [e1, e2, e3]
  have hne : ((row.length : Int) != L.cols) = false := by rw [hq]; simp
  have hn6 : ((L.starts.length : Int) == 60) = false := by rw [beq_eq_false_iff_ne]; omega
  have HC : Hid (∀ w, LdM w L sa sc ca cc → Calls Try.prog 37 #[vL L sa sc ca cc] w (RetB (.int .i64 0) w)) := hid fun w h => by
    have := rcheckL_any L hf sa sc ca cc w h
    rwa [hE] at this
  have hroom := (chkL_ok hE).room
  have HPU := hid (fun (w : World) (h1 : RdP w ca L.cells) (h2 : RdI w ar row) => rput_any L.cells ca cc row ar cr (L.starts.length : Nat) w h1 (by omega) h2 hrl)
  obtain ⟨pl, hpl⟩ : ∃ n, n = (putL L.cells row (L.starts.length : Nat)).length := ⟨_, rfl⟩
  have HPN := hid hpl.symm
  rw [← hpl] at h30
  have n30 : (30000 : Int) < (pl : Int) := by omega
  have HB0 := hid hb0
  have HX0 := hid hx0
  have HR0 := hid hr0
  have HA := hid ha
  obtain ⟨k0, k1, k2, _, _, _⟩ := box3 hx0
  clear hb0 hx0 hr0 hE e1 e2 e3 hq ha h60 hpl hroom
  go_enter Try.func25, Try.ntmps25
  go_wp2_with (go_at_call 37; (with_reducible refine (HC.out _ (HM.out.below HB0.out)).mono ?_); rintro e w1 ⟨rfl, hb⟩; have HB := hid (HB0.out.step hb); have HX1 := hid (keepBox hb HX0.out); have HR1 := hid (keepBox hb HR0.out); obtain ⟨k0, k1, k2, _, _, _⟩ := box3 HX1.out; clear hb)
  clear k0 k1 k2 hne
  go_loop [6] (fun s6 => ∃ k : Nat, k ≤ row.length ∧ s6 = .int .i64 k) (fun s6 => row.length - (intOf s6).toNat)
  case atStart => exact ⟨0, Nat.zero_le _, rfl⟩
  case round =>
    obtain ⟨k, hk, rfl⟩ := hrel
    by_cases hkl : k < row.length
    · have nk : (k : Int) < (row.length : Int) := by omega
      obtain ⟨b, off, har, hlt, h1⟩ := (HR.out.below HB.out).at hkl
      subst har
      have H8 := hid (rins_step HA.out hkl)
      generalize row.getD k (-1) = x at *
      go_wp2_with (go_at_call 60; (with_reducible refine (rright_any x _).mono ?_); rw [H8.out]; rintro e w' ⟨rfl, rfl⟩)
      go_round
      case rel => exact ⟨k + 1, by omega, by go_num⟩
      case measure => simp [intOf]; omega
    · obtain ⟨k0, k1, k2, _, _, _⟩ := box3 HX1.out
      go_wp2_with (go_at_call 56; (with_reducible refine (HPU.out _ (HM.out.rc.below HB.out) (HR.out.below HB.out)).mono ?_); rintro e w9 ⟨hb, a10, c10, rfl, _, _, _⟩; rw [HPN.out]; have HB9 := hid (HB.out.step hb); obtain ⟨r0, r1, r2, r3, r4, z0, z1, z2, z3, z4⟩ := box5 (keepBox hb HR1.out); clear hb)
      exact bodyPost_ret (v := .agg #[.int .i64 0, .slice none 0 0, .slice none 0 0, .int .i64 0, .int .i64 14]) (by simp [results, Try.results25, go_sem, r0, r1, r2, r3, r4]) rfl (LaysRet.empty _ (((((HB9.out.setCell (by simp) _).setCell (by simp) _).setCell (by simp) _).setCell (by simp) _).setCell (by simp) _))
end Go.Proofs.Ytliajnflmddnoaa
