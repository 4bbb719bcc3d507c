/- The search of CheckUnit for an instruction that is not right. -/
import Derived.Test.YtecpkjhfbmchgaaU13
namespace Go.Proofs.Ytecpkjhfbmchgaa
open Go.RowKit

/-- What the closures of CheckUnit read. -/
structure CapU (w : World) (p : PrgN) (q : PlN) (u : UntN) (ca : Option Addr) (cc : Nat) (ga : Option Addr) (gc : Nat) (gp gu : Nat) : Prop where
  bp : w.heap[gp]? = some (oP p q)
  bu : w.heap[gu]? = some (oU u ca cc ga gc)
  rs : RdS w q.la p.sels
theorem CapU.below {w w' : World} {p : PrgN} {q : PlN} {u : UntN} {ca : Option Addr} {cc : Nat} {ga : Option Addr} {gc : Nat} {gp gu : Nat} (h : CapU w p q u ca cc ga gc gp gu) (hb : Below w.heap.size w w') : CapU w' p q u ca cc ga gc gp gu :=
  ⟨keepBox hb h.bp, keepBox hb h.bu, h.rs.below hb⟩
/-- The sizes that the walks ask. -/
structure FitU (p : PrgN) (u : UntN) : Prop where
  h1 : p.shapes.length ≤ 1000000
  h2 : p.sels.length ≤ 1000000
  h3 : u.code.length ≤ 1000000
  h4 : 0 ≤ u.slots ∧ u.slots ≤ 1000000
  h5 : 0 ≤ u.frame ∧ u.frame ≤ 1000000
def wrongB (p : PrgN) (u : UntN) (i : InsN) : Bool := !rightN p u i
set_option maxHeartbeats 1000000 in
theorem k60 (p : PrgN) (q : PlN) (u : UntN) (ca : Option Addr) (cc : Nat) (ga : Option Addr) (gc : Nat) (gp gu : Nat) (i : InsN) (w : World) (hf : FitU p u) (hc : CapU w p q u ca cc ga gc gp gu) :
    Calls Try.prog 60 #[vI i, .pointer (some ⟨gp, 0, none⟩), .pointer (some ⟨gu, 0, none⟩)] w (RetB (.bool (wrongB p u i)) w) := by
  have HR := hid (fun (w : World) (h : RdS w q.la p.sels) => right_any p q u ca cc ga gc i w h hf.h1 hf.h2 hf.h3 hf.h4 hf.h5)
  have HB := hid (bnew w (.cells #[.int .i64 i.op, .int .i64 i.a, .int .i64 i.b, .int .i64 i.c] 113))
  have HC := hid (hc.below HB.out)
  have HV : Hid (wrongB p u i = !rightN p u i) := hid rfl
  obtain ⟨a0, a1, a2, a3, a4⟩ := box5' HC.out.bp
  obtain ⟨b0, b1, b2, b3, b4, b5, b6⟩ := box7 HC.out.bu
  generalize wrongB p u i = v at *
  generalize rightN p u i = r at *
  clear hf hc
  go_enter Try.func60, Try.ntmps60
  go_wp2_with (go_at_call 61; (with_reducible refine (HR.out _ HC.out.rs).mono ?_); rintro e w1 ⟨rfl, hb⟩; replace HB := hid (HB.out.step hb); clear hb)
  go_ret
  exact ⟨ret_bool HV.out.symm, HB.out⟩
set_option maxHeartbeats 1000000 in
theorem index60 (p : PrgN) (q : PlN) (u : UntN) (ca : Option Addr) (cc : Nat) (ga : Option Addr) (gc : Nat) (gp gu : Nat) (l : List InsN) (a : Option Addr) (cap : Nat) (w : World) (hf : FitU p u) (hc : CapU w p q u ca cc ga gc gp gu) (hl : RdC w a l) (hll : l.length ≤ 1000000) :
    Calls Try.prog 59 #[.slice a l.length cap, .func (.func 60) #[] #[.pointer (some ⟨gp, 0, none⟩), .pointer (some ⟨gu, 0, none⟩)]] w (RetB (.int .i64 (idxP (wrongB p u) l)) w) := by
  have HL := hid hl; clear hl
  have HC := hid hc; clear hc
  have HF := hid hf; clear hf
  go_enter Try.func59, Try.ntmps59
  go_wp2
  go_loopg [8] l.length (fun gh s8 wr => ∃ j : Nat, j ≤ l.length ∧ gh = l.length - j ∧ s8 = .int .i64 j ∧ Hid (∀ x, x ∈ l.take j → wrongB p u x = false) ∧ Hid (Below w.heap.size w wr))
  case atStart => exact ⟨0, Nat.zero_le _, rfl, rfl, hid (by simp), hid (Below.refl _ _)⟩
  case round =>
    obtain ⟨j, hj, rfl, rfl, HQ, HB⟩ := hrel
    by_cases hlj : j < l.length
    · obtain ⟨b2, off, ha, hlt2, h0, h1, h2, h3⟩ := (HL.out.below HB.out) j hlj
      subst ha
      have HK := hid (fun i => k60 p q u ca cc ga gc gp gu i wr HF.out (HC.out.below HB.out))
      have nj : (j : Int) < (l.length : Int) := by omega
      have HG := hid (idxP_some (p := wrongB p u) (l := l) (i := j) hlj)
      have HT : Hid (l.take (j + 1) = l.take j ++ [l[j]]) := hid (take_last hlj)
      generalize l[j] = i at *
      cases hg : wrongB p u i with
      | true =>
        have HKG := hid (HK.out i)
        rw [hg] at HKG
        have HE := hid (HG.out hg HQ.out)
        clear hg
        go_wp2_with (go_at_call 60; (with_reducible refine HKG.out.mono ?_); rintro e w' ⟨rfl, hb⟩; have HB2 := hid (HB.out.step hb); clear hb)
        go_ret
        exact ⟨ret_int HE.out.symm, HB2.out⟩
      | false =>
        have HKG := hid (HK.out i)
        rw [hg] at HKG
        have HGF := hid hg
        clear hg
        go_wp2_with (go_at_call 60; (with_reducible refine HKG.out.mono ?_); rintro e w' ⟨rfl, hb⟩; have HB2 := hid (HB.out.step hb); clear hb)
        go_roundg (l.length - (j + 1))
        case measure => omega
        case rel =>
          refine ⟨j + 1, by omega, rfl, by go_num, hid fun x hx => ?_, HB2⟩
          rw [HT.out, List.mem_append] at hx
          rcases hx with hx | hx
          · exact HQ.out x hx
          · rw [List.mem_singleton.1 hx]; exact HGF.out
    · obtain rfl : j = l.length := by omega
      have HE := hid (idxP_none (p := wrongB p u) (fun x hx => HQ.out x (by rw [List.take_length]; exact hx)))
      go_wp2
      go_ret
      exact ⟨ret_int HE.out.symm, HB.out⟩
end Go.Proofs.Ytecpkjhfbmchgaa
