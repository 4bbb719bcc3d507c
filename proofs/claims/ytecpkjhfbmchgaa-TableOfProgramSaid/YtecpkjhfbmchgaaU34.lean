/- The closures of shaped of package core, and the searches with them. -/
import Derived.Test.YtecpkjhfbmchgaaU33
namespace Go.Proofs.Ytecpkjhfbmchgaa
open Go.RowKit

theorem k56 (n : Int) (w : World) : Calls Try.prog 56 #[.int .i64 n] w (RetS (.bool (fieldBad n)) w) := by
  have HW := hid (fun w => within_any n 1 3 w)
  have HV := hid (show fieldBad n = !inN n 1 3 from rfl)
  generalize fieldBad n = v at *
  generalize inN n 1 3 = x at *
  go_enter Try.func56, Try.ntmps56
  go_wp2_with (go_at_call 38; (with_reducible refine (HW.out _).mono ?_); rintro e w1 ⟨rfl, rfl⟩)
  go_ret
  exact ⟨ret_bool HV.out.symm, rfl⟩
set_option maxHeartbeats 2000000 in
theorem index56 (l : List Int) (a : Option Addr) (cap : Nat) (w : World) (hl : RdI w a l) (hll : l.length ≤ 9223372036854775807) :
    Calls Try.prog 53 #[.slice a l.length cap, .func (.func 56) #[] #[]] w (RetS (.int .i64 (idxP fieldBad l)) w) := by
  have HL := hid hl; clear hl
  go_enter Try.func53, Try.ntmps53
  go_wp2
  go_loopg [8] l.length (fun gh s8 wr => ∃ j : Nat, j ≤ l.length ∧ gh = l.length - j ∧ s8 = .int .i64 j ∧ Hid (∀ x, x ∈ l.take j → fieldBad x = false) ∧ wr = w)
  case atStart => exact ⟨0, Nat.zero_le _, rfl, rfl, hid (by simp), rfl⟩
  case round =>
    obtain ⟨j, hj, rfl, rfl, HQ, rfl⟩ := hrel
    by_cases hlj : j < l.length
    · obtain ⟨b2, off, ha, hlt2, h0⟩ := HL.out j hlj
      subst ha
      have nj : (j : Int) < (l.length : Int) := by omega
      have HG := hid (idxP_some (p := fieldBad) (l := l) (i := j) hlj)
      have HT : Hid (l.take (j + 1) = l.take j ++ [l[j]]) := hid (take_last hlj)
      generalize l[j] = i at *
      have HK := hid (fun w => k56 i w)
      cases hg : fieldBad i with
      | true =>
        rw [hg] at HK
        have HE := hid (HG.out hg HQ.out)
        clear hg
        go_wp2_with (go_at_call 56; (with_reducible refine (HK.out _).mono ?_); rintro e w' ⟨rfl, rfl⟩)
        go_ret
        exact ⟨ret_int HE.out.symm, rfl⟩
      | false =>
        rw [hg] at HK
        have HGF := hid hg
        clear hg
        go_wp2_with (go_at_call 56; (with_reducible refine (HK.out _).mono ?_); rintro e w' ⟨rfl, rfl⟩)
        go_roundg (l.length - (j + 1))
        case measure => omega
        case rel =>
          refine ⟨j + 1, by omega, rfl, by go_num, hid fun x hx => ?_, rfl⟩
          rw [HT.out, List.mem_append] at hx
          rcases hx with hx | hx
          · exact HQ.out x hx
          · rw [List.mem_singleton.1 hx]; exact HGF.out
    · obtain rfl : j = l.length := by omega
      have HE := hid (idxP_none (p := fieldBad) (fun x hx => HQ.out x (by rw [List.take_length]; exact hx)))
      go_wp2
      go_ret
      exact ⟨ret_int HE.out.symm, rfl⟩
theorem contains56 (l : List Int) (a : Option Addr) (cap : Nat) (w : World) (hl : RdI w a l) (hll : l.length ≤ 9223372036854775807) :
    Calls Try.prog 29 #[.slice a l.length cap, .func (.func 56) #[] #[]] w (RetS (.bool (l.any fieldBad)) w) := by
  have HI := hid (index56 l a cap w hl hll)
  have HA := hid (idxP_any fieldBad l)
  generalize idxP fieldBad l = i at *
  generalize l.any fieldBad = v at *
  go_enter Try.func29, Try.ntmps29
  go_wp2_with (go_at_call 53; (with_reducible refine HI.out.mono ?_); rintro e w1 ⟨rfl, rfl⟩)
  go_ret
  exact ⟨ret_bool HA.out, rfl⟩
/-- Another shape has the name. -/
def twinB (s o : ShpN) : Bool := o.name.toList == s.name.toList
theorem strBeq (a b : ByteArray) : (a == b) = (a.toList == b.toList) := by
  rw [Go.ByteArray.toList_eq, Go.ByteArray.toList_eq]
  show (a.data == b.data) = _
  cases a with | mk a => cases b with | mk b => simp [Array.beq_eq_decide, List.beq_eq_decide]
set_option maxHeartbeats 2000000 in
theorem k55 (o s : ShpN) (fa : Option Addr) (fc : Nat) (ta : Option Addr) (tc : Nat) (fb : Option Addr) (fd : Nat) (tb : Option Addr) (td : Nat) (g : Nat) (w : World) (hg : w.heap[g]? = some (oH s fb fd tb td)) : Calls Try.prog 55 #[vH o fa fc ta tc, .pointer (some ⟨g, 0, none⟩)] w (RetB (.bool (twinB s o)) w) := by
  have HB := hid (bnew w (oH o fa fc ta tc))
  have HX := hid (heapn w (oH o fa fc ta tc) _ rfl)
  have HY := hid (keepBox (bnew w (oH o fa fc ta tc)) hg)
  clear hg
  go_enter Try.func55, Try.ntmps55
  go_upto_region 1 with fail
  generalize w.alloc (oH o fa fc ta tc) = w0 at *
  obtain ⟨l0, l1, l2, l3⟩ := box4 HX.out
  obtain ⟨m0, m1, m2, m3⟩ := box4 HY.out
  go_wp2
  go_ret
  exact ⟨rfl, HB.out⟩
theorem RdH.take {w : World} {a : Option Addr} {l : List ShpN} (h : RdH w a l) (k : Nat) : RdH w a (l.take k) := by
  intro i hi
  rw [List.length_take] at hi
  have := h i (by omega)
  rw [List.getElem_take]
  exact this
set_option maxRecDepth 10000 in
set_option maxHeartbeats 2000000 in
theorem index55 (s : ShpN) (fb : Option Addr) (fd : Nat) (tb : Option Addr) (td : Nat) (g : Nat) (l : List ShpN) (a : Option Addr) (cap : Nat) (w : World) (hg : w.heap[g]? = some (oH s fb fd tb td)) (hl : RdH w a l) (hll : l.length ≤ 1000000) :
    Calls Try.prog 67 #[.slice a l.length cap, .func (.func 55) #[] #[.pointer (some ⟨g, 0, none⟩)]] w (RetB (.int .i64 (idxP (twinB s) l)) w) := by
  have HL := hid hl; clear hl
  have HG0 := hid hg; clear hg
  go_enter Try.func67, Try.ntmps67
  go_wp2
  go_loopg [8] l.length (fun gh s8 wr => ∃ j : Nat, j ≤ l.length ∧ gh = l.length - j ∧ s8 = .int .i64 j ∧ Hid (∀ x, x ∈ l.take j → twinB s x = false) ∧ Hid (Below w.heap.size w wr))
  case atStart => exact ⟨0, Nat.zero_le _, rfl, rfl, hid (by simp), hid (Below.refl _ _)⟩
  case round =>
    obtain ⟨j, hj, rfl, rfl, HQ, HB⟩ := hrel
    by_cases hlj : j < l.length
    · obtain ⟨b2, off, fa, fc, ta, tc, ha, hlt2, h0, h1, h2, h3, _⟩ := (HL.out.below HB.out) j hlj
      subst ha
      have nj : (j : Int) < (l.length : Int) := by omega
      have HG := hid (idxP_some (p := twinB s) (l := l) (i := j) hlj)
      have HT : Hid (l.take (j + 1) = l.take j ++ [l[j]]) := hid (take_last hlj)
      generalize l[j] = i at *
      have HK := hid (k55 i s fa fc ta tc fb fd tb td g wr (keepBox HB.out HG0.out))
      cases hg : twinB s i with
      | true =>
        rw [hg] at HK
        have HE := hid (HG.out hg HQ.out)
        clear hg
        go_wp2_with (go_at_call 55; (with_reducible refine HK.out.mono ?_); rintro e w' ⟨rfl, hb⟩; have HB2 := hid (HB.out.step hb); clear hb)
        go_ret
        exact ⟨ret_int HE.out.symm, HB2.out⟩
      | false =>
        rw [hg] at HK
        have HGF := hid hg
        clear hg
        go_wp2_with (go_at_call 55; (with_reducible refine HK.out.mono ?_); rintro e w' ⟨rfl, hb⟩; have HB2 := hid (HB.out.step hb); clear hb)
        go_roundg (l.length - (j + 1))
        case measure => omega
        case rel =>
          refine ⟨j + 1, by omega, rfl, by go_num, hid fun x hx => ?_, HB2⟩
          rw [HT.out, List.mem_append] at hx
          rcases hx with hx | hx
          · exact HQ.out x hx
          · rw [List.mem_singleton.1 hx]; exact HGF.out
    · obtain rfl : j = l.length := by omega
      have HE := hid (idxP_none (p := twinB s) (fun x hx => HQ.out x (by rw [List.take_length]; exact hx)))
      go_wp2
      go_ret
      exact ⟨ret_int HE.out.symm, HB.out⟩
theorem contains55 (s : ShpN) (fb : Option Addr) (fd : Nat) (tb : Option Addr) (td : Nat) (g : Nat) (l : List ShpN) (a : Option Addr) (cap : Nat) (w : World) (hg : w.heap[g]? = some (oH s fb fd tb td)) (hl : RdH w a l) (hll : l.length ≤ 1000000) :
    Calls Try.prog 54 #[.slice a l.length cap, .func (.func 55) #[] #[.pointer (some ⟨g, 0, none⟩)]] w (RetB (.bool (l.any (twinB s))) w) := by
  have HI := hid (index55 s fb fd tb td g l a cap w hg hl hll)
  have HA := hid (idxP_any (twinB s) l)
  clear hg hl
  generalize idxP (twinB s) l = i at *
  generalize l.any (twinB s) = v at *
  go_enter Try.func54, Try.ntmps54
  go_wp2_with (go_at_call 67; (with_reducible refine HI.out.mono ?_); rintro e w1 ⟨rfl, hb⟩; have HB := hid hb; clear hb)
  go_ret
  exact ⟨ret_bool HA.out, HB.out⟩
end Go.Proofs.Ytecpkjhfbmchgaa
