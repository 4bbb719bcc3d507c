/- Contracts of CheckLaid's closure and of the search that calls it. -/
import Derived.Test.YtecpkjhfbmchgaaG8
namespace Go.Proofs.Ytecpkjhfbmchgaa
open Go.RowKit

set_option maxHeartbeats 1000000 in
theorem k71 (n s : Int) (k g : Nat) (sv : Value) (ca : Option Addr) (cc : Nat) (w : World) (hn : 0 ≤ n ∧ n ≤ 400) (hk : k ≤ 1000000)
    (c0 : w.cell? ⟨g, 0, none⟩ = some (.int .i64 n)) (_c1 : w.cell? ⟨g, 1, none⟩ = some sv) (c2 : w.cell? ⟨g, 2, none⟩ = some (.slice ca k cc)) :
    Calls Try.prog 52 #[.int .i64 s, .pointer (some ⟨g, 0, none⟩)] w (RetS (.bool (badS n k s)) w) := by
  obtain ⟨hn1, hn2⟩ := hn
  obtain ⟨b, hb⟩ : ∃ b, b = badS n k s := ⟨_, rfl⟩
  rw [← hb]
  unfold badS at hb
  by_cases h1 : s < -1
  · have hv : b = true := by rw [hb]; simp [h1]
    have HV := hid hv
    clear hb hv
    go_enter Try.func52, Try.ntmps52
    go_wp2
    go_ret
    exact ⟨ret_bool HV.out.symm, rfl⟩
  · by_cases h2 : 0 ≤ s
    · by_cases h3 : (k : Int) - n < s
      · have hv : b = true := by rw [hb]; simp; omega
        have HV := hid hv
        clear hb hv
        go_enter Try.func52, Try.ntmps52
        go_wp2
        go_ret
        exact ⟨ret_bool HV.out.symm, rfl⟩
      · have hv : b = false := by rw [hb]; simp; omega
        have HV := hid hv
        clear hb hv
        go_enter Try.func52, Try.ntmps52
        go_wp2
        go_ret
        exact ⟨ret_bool HV.out.symm, rfl⟩
    · have hv : b = false := by rw [hb]; simp; omega
      have HV := hid hv
      clear hb hv
      go_enter Try.func52, Try.ntmps52
      go_wp2
      go_ret
      exact ⟨ret_bool HV.out.symm, rfl⟩

set_option maxHeartbeats 1000000 in
theorem index71 (n : Int) (k g : Nat) (sv : Value) (ca : Option Addr) (cc : Nat) (l : List Int) (al : Option Addr) (cl' : Nat) (w : World) (hn : 0 ≤ n ∧ n ≤ 400) (hk : k ≤ 1000000) (hl : RdI w al l) (hll : l.length ≤ 1000000)
    (c0 : w.cell? ⟨g, 0, none⟩ = some (.int .i64 n)) (c1 : w.cell? ⟨g, 1, none⟩ = some sv) (c2 : w.cell? ⟨g, 2, none⟩ = some (.slice ca k cc)) :
    Calls Try.prog 53 #[.slice al l.length cl', .func (.func 52) #[] #[.pointer (some ⟨g, 0, none⟩)]] w (RetS (.int .i64 (idxP (badS n k) l)) w) := by
  have HL := hid hl; clear hl
  have HK := hid fun s => k71 n s k g sv ca cc w hn hk c0 c1 c2
  clear c0 c1 c2
  go_enter Try.func53, Try.ntmps53
  go_wp2
  go_loop [8] (fun i => ∃ j : Nat, j ≤ l.length ∧ i = .int .i64 j ∧ ∀ x, x ∈ l.take j → badS n k x = false) (fun i => l.length - (intOf i).toNat)
  case atStart => exact ⟨0, Nat.zero_le _, rfl, by simp⟩
  case round =>
    obtain ⟨j, hj, rfl, hq⟩ := hrel
    have HQ := hid hq; clear hq
    by_cases hlt : j < l.length
    · obtain ⟨b2, off, ha, hlt2, h1⟩ := HL.out j hlt
      subst ha
      go_wp2_with (go_at_call 52; refine (HK.out _).mono ?_; rintro e w' ⟨rfl, rfl⟩)
      · have ht : badS n k l[j] = true := by assumption
        go_ret
        exact ⟨ret_int (idxP_some (p := badS n k) hlt ht HQ.out).symm, rfl⟩
      · have ht : badS n k l[j] = false := by assumption
        have HT := hid ht; clear ht
        go_round
        case rel =>
          refine ⟨j + 1, by omega, by go_num, ?_⟩
          intro x hx
          rw [take_last hlt, List.mem_append] at hx
          rcases hx with hx | hx
          · exact HQ.out x hx
          · rw [List.mem_singleton.1 hx]; exact HT.out
        case measure => simp [intOf]; omega
    · go_wp2
      go_ret
      exact ⟨ret_int (idxP_none (p := badS n k) (fun x hx => HQ.out x (by rw [List.take_of_length_le (by omega)]; exact hx))).symm, rfl⟩
theorem some71 (n : Int) (k g : Nat) (sv : Value) (ca : Option Addr) (cc : Nat) (l : List Int) (al : Option Addr) (cl' : Nat) (w : World) (hn : 0 ≤ n ∧ n ≤ 400) (hk : k ≤ 1000000) (hl : RdI w al l) (hll : l.length ≤ 1000000)
    (c0 : w.cell? ⟨g, 0, none⟩ = some (.int .i64 n)) (c1 : w.cell? ⟨g, 1, none⟩ = some sv) (c2 : w.cell? ⟨g, 2, none⟩ = some (.slice ca k cc)) :
    Calls Try.prog 29 #[.slice al l.length cl', .func (.func 52) #[] #[.pointer (some ⟨g, 0, none⟩)]] w (RetS (.bool (l.any (badS n k))) w) := by
  have HX := hid (idxP_any (badS n k) l)
  have HI := hid (index71 n k g sv ca cc l al cl' w hn hk hl hll c0 c1 c2)
  clear hn hl c0 c1 c2
  go_enter Try.func29, Try.ntmps29
  go_wp2_with (go_at_call 53; refine HI.out.mono ?_; rintro e w' ⟨rfl, rfl⟩)
  go_ret
  exact ⟨ret_bool HX.out, rfl⟩

/-- Rows laid over each other, as a value, and what it points to. -/
abbrev vL (L : Ld) (sa : Option Addr) (sc : Nat) (ca : Option Addr) (cc : Nat) : Value := .agg #[.int .i64 L.cols, .slice sa L.starts.length sc, .slice ca L.cells.length cc]
structure LdM (w : World) (L : Ld) (sa : Option Addr) (sc : Nat) (ca : Option Addr) (cc : Nat) : Prop where
  rs : RdI w sa L.starts
  rc : RdP w ca L.cells
  ls : L.starts.length ≤ sc
  lc : L.cells.length ≤ cc
theorem LdM.below {w w' : World} {L : Ld} {sa : Option Addr} {sc : Nat} {ca : Option Addr} {cc : Nat} (h : LdM w L sa sc ca cc) (hb : Below w.heap.size w w') : LdM w' L sa sc ca cc :=
  ⟨h.rs.below hb, h.rc.below hb, h.ls, h.lc⟩
/-- Small enough to be walked. -/
structure Fit (L : Ld) : Prop where
  s : L.starts.length ≤ 1000
  c : L.cells.length ≤ 50000
theorem cellsOk_no {L : Ld} {i : Nat} (hi : i < L.cells.length) (h : cellOk L i (L.cell i) = false) : cellsOk L L.cells.length = false := all_false hi h
theorem cellsOk_yes {L : Ld} (h : ∀ i, i < L.cells.length → cellOk L i (L.cell i) = true) : cellsOk L L.cells.length = true := by
  unfold cellsOk
  rw [List.all_eq_true]
  exact fun i hi => h i (List.mem_range.1 hi)
end Go.Proofs.Ytecpkjhfbmchgaa
