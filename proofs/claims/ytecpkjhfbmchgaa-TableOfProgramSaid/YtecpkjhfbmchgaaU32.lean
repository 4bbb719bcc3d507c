/- CheckUnit of package core. -/
import Derived.Test.YtecpkjhfbmchgaaU30
namespace Go.Proofs.Ytecpkjhfbmchgaa
open Go.RowKit Go.Shelf

theorem checkU_any (p : PrgN) (q : PlN) (u : UntN) (ca : Option Addr) (cc : Nat) (ga : Option Addr) (gc : Nat) (w : World) (ho : UkOk w p q u ca cc ga gc) :
    Calls Try.prog 40 #[vP p q, vU u ca cc ga gc] w (Ret2 (.int .i64 (chkU p u).1) (.int .i64 (chkU p u).2) w) := by
  by_cases h1 : nameE u = true
  · exact chkU_a p q u ca cc ga gc w ho (.inl h1)
  by_cases h2 : sizesN u = 0
  · by_cases h3 : 0 ≤ wrongE p u
    · exact chkU_a p q u ca cc ga gc w ho (.inr (.inr (.inl h3)))
    cases h4 : (formL (lastI u).op).en with
    | false => exact chkU_a p q u ca cc ga gc w ho (.inr (.inr (.inr (.inl h4))))
    | true =>
      by_cases h5 : 0 ≤ headE p u.code
      · exact chkU_a p q u ca cc ga gc w ho (.inr (.inr (.inr (.inr h5))))
      · exact callsIn_wide.1 (chkU_b p q u ca cc ga gc w ho (by simpa using h1) h2 h3 h4 h5)
  · exact chkU_a p q u ca cc ga gc w ho (.inr (.inl h2))
end Go.Proofs.Ytecpkjhfbmchgaa
