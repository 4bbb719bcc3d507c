/- Contracts of Clash, Colour and CheckColour of package table. -/
import Derived.Test.YtliajnflmddnoaaG4
namespace Go.Proofs.Ytliajnflmddnoaa
open Go.RowKit

/-- A column that there is. -/
def inC (m : List (List Int)) (a : Int) : Bool := decide (0 ≤ a) && decide (a < colsN m)
def clashE (m : List (List Int)) (a b : Int) : Int := if chkM m = 0 then (if (inC m a && inC m b) = true then 0 else 5) else chkM m
def clashN (m : List (List Int)) (a b : Int) : Int := if clashE m a b = 0 then max (clashM m a.toNat b.toNat) 0 else 0
def clashIs (m : List (List Int)) (a b : Int) : Bool := decide (clashE m a b = 0) && decide (0 ≤ clashM m a.toNat b.toNat)

set_option maxRecDepth 100000 in
set_option maxHeartbeats 1000000 in
theorem Clash_any (m : List (List Int)) (a : Option Addr) (cap : Nat) (x y : Int) (w : World) (hl : RdM w a m) (hlen : m.length ≤ 1000000) (hrl : ∀ r, r ∈ m → r.length ≤ 1000000) :
    Calls Try.prog 39 #[.slice a m.length cap, .int .i64 x, .int .i64 y] w (Ret3 (.int .i64 (clashN m x y)) (.bool (clashIs m x y)) (.int .i64 (clashE m x y)) w) := by
  have HL := hid hl; clear hl
  have HR := hid hrl; clear hrl
  by_cases hE : chkM m = 0
  · have hm := chkM_ok hE
    have HM := hid hm
    have HE := hid hE
    obtain ⟨b0, o0, rfl, hlt0, ai0, ci0, hc0⟩ := HL.out.head hm.some'
    have n0 : (0 : Int) < (m.length : Int) := by have := hm.some'; omega
    clear hE hm
    by_cases hin : (inC m x && inC m y) = true
    · have he : clashE m x y = 0 := by unfold clashE; rw [if_pos HE.out, if_pos hin]
      have HEQ := hid he
      clear he
      unfold inC at hin
      simp only [Bool.and_eq_true, decide_eq_true_eq] at hin
      obtain ⟨⟨hx0, hx1⟩, hy0, hy1⟩ := hin
      obtain ⟨x, rfl⟩ : ∃ k : Nat, x = (k : Int) := ⟨x.toNat, by omega⟩
      obtain ⟨y, rfl⟩ : ∃ k : Nat, y = (k : Int) := ⟨y.toNat, by omega⟩
      have HN : Hid (clashN m x y = max (clashM m x y) 0) := hid (by unfold clashN; rw [if_pos HEQ.out, Int.toNat_natCast, Int.toNat_natCast])
      have HI : Hid (clashIs m x y = decide (0 ≤ clashM m x y)) := hid (by unfold clashIs; rw [HEQ.out, Int.toNat_natCast, Int.toNat_natCast]; simp)
      have hx2 : ¬ (colsN m : Int) ≤ (x : Int) := by omega
      have hy2 : ¬ (colsN m : Int) ≤ (y : Int) := by omega
      have HB77 := hid (fun w' (hw : RdM w' (some ⟨b0, o0, none⟩) m) => clash_any m _ cap x y w' HM.out hw (by omega) (by omega))
      generalize clashM m x y = z at HN HI HB77
      by_cases hz : 0 ≤ z
      · have HN2 : Hid (clashN m x y = z) := hid (by rw [HN.out]; omega)
        have HI2 : Hid (clashIs m x y = true) := hid (by rw [HI.out]; simpa using hz)
        clear HN HI
        go_enter Try.func39, Try.ntmps39
        go_wp2_with (first | (go_at_call 28; refine (check_any m _ cap _ HL.out hlen HR.out).mono ?_; rw [HE.out]; rintro e w' ⟨rfl, rfl⟩) | (go_at_call 77; refine (HB77.out _ HL.out).mono ?_; rintro e w1 ⟨rfl, hb1⟩; have HB1 := hid hb1; clear hb1))
        all_goals
          go_ret3
          unfold Ret3
          rw [HN2.out, HI2.out, HEQ.out]
          exact ⟨rfl, HB1.out⟩
      · have HN2 : Hid (clashN m x y = 0) := hid (by rw [HN.out]; omega)
        have HI2 : Hid (clashIs m x y = false) := hid (by rw [HI.out]; simpa using hz)
        clear HN HI
        go_enter Try.func39, Try.ntmps39
        go_wp2_with (first | (go_at_call 28; refine (check_any m _ cap _ HL.out hlen HR.out).mono ?_; rw [HE.out]; rintro e w' ⟨rfl, rfl⟩) | (go_at_call 77; refine (HB77.out _ HL.out).mono ?_; rintro e w1 ⟨rfl, hb1⟩; have HB1 := hid hb1; clear hb1))
        all_goals
          go_ret3
          unfold Ret3
          rw [HN2.out, HI2.out, HEQ.out]
          rw [show decide (0 ≤ z) = false from by simpa using hz]
          exact ⟨rfl, HB1.out⟩
    · have he : clashE m x y = 5 := by unfold clashE; rw [if_pos HE.out, if_neg hin]
      have hn : clashN m x y = 0 := by unfold clashN; rw [he]; rfl
      have hi : clashIs m x y = false := by unfold clashIs; rw [he]; rfl
      have HX := hid (And.intro he (And.intro hn hi))
      clear he hn hi
      unfold inC at hin
      simp only [Bool.and_eq_true, decide_eq_true_eq] at hin
      have HIN := hid hin
      clear hin
      go_enter Try.func39, Try.ntmps39
      go_wp2_with (go_at_call 28; refine (check_any m _ cap _ HL.out hlen HR.out).mono ?_; rw [HE.out]; rintro e w' ⟨rfl, rfl⟩)
      all_goals first | (exfalso; have := HIN.out; simp at *; omega) | skip
      all_goals
        go_ret3
        unfold Ret3
        rw [HX.out.1, HX.out.2.1, HX.out.2.2]
        exact ⟨rfl, Below.refl _ _⟩
  · have he : clashE m x y = chkM m := by unfold clashE; rw [if_neg hE]
    have hn : clashN m x y = 0 := by unfold clashN; rw [he, if_neg hE]
    have hi : clashIs m x y = false := by unfold clashIs; rw [he, decide_eq_false hE, Bool.false_and]
    have HX := hid (And.intro he (And.intro hn hi))
    clear he hn hi
    have hne : (chkM m == 0) = false := by rw [beq_eq_false_iff_ne]; exact hE
    have HE := hid hE
    clear hE
    go_enter Try.func39, Try.ntmps39
    go_wp2_with (go_at_call 28; refine (check_any m _ cap _ HL.out hlen HR.out).mono ?_; rintro e w' ⟨rfl, rfl⟩)
    go_ret3
    unfold Ret3
    rw [HX.out.1, HX.out.2.1, HX.out.2.2]
    exact ⟨rfl, Below.refl _ _⟩

def colV (m : List (List Int)) : List Int := if chkM m = 0 then asI (colL m (colsN m)) else []
def colN (m : List (List Int)) : Int := if chkM m = 0 then (manyC (colL m (colsN m)) : Nat) else 0
/-- What a call returns: numbers of its own, and two numbers. -/
def OwnRet2 (l : List Int) (x y : Int) (w : World) (e : Ending) (w' : World) : Prop := Below w.heap.size w w' ∧ ∃ v, e = .returned (.tuple #[v, .int .i64 x, .int .i64 y]) ∧ OwnI w' w.heap.size v l

set_option maxRecDepth 100000 in
set_option maxHeartbeats 1000000 in
theorem Colour_any (m : List (List Int)) (a : Option Addr) (cap : Nat) (w : World) (hl : RdM w a m) (hlen : m.length ≤ 1000000) (hrl : ∀ r, r ∈ m → r.length ≤ 1000000) :
    Calls Try.prog 41 #[.slice a m.length cap] w (OwnRet2 (colV m) (colN m) (chkM m) w) := by
  have HL := hid hl; clear hl
  have HR := hid hrl; clear hrl
  by_cases hE : chkM m = 0
  · have HM := hid (chkM_ok hE)
    have HE := hid hE
    clear hE
    have HV : Hid (colV m = asI (colL m (colsN m)) ∧ colN m = (manyC (colL m (colsN m)) : Nat)) := hid ⟨if_pos HE.out, if_pos HE.out⟩
    go_enter Try.func41, Try.ntmps41
    go_wp2_with (first | (go_at_call 28; refine (check_any m _ cap _ HL.out hlen HR.out).mono ?_; rw [HE.out]; rintro e w' ⟨rfl, rfl⟩) | (go_at_call 50; refine (colour_any m _ cap _ HM.out HL.out).mono ?_; rintro e w1 ⟨hb1, v, rfl, hv⟩; have HB1 := hid hb1; clear hb1; have HOV := hid hv; clear hv))
    go_ret3
    unfold OwnRet2
    rw [HV.out.1, HV.out.2, HE.out]
    exact ⟨HB1.out, _, rfl, HOV.out⟩
  · have hne : (chkM m == 0) = false := by rw [beq_eq_false_iff_ne]; exact hE
    have HV : Hid (colV m = [] ∧ colN m = 0) := hid ⟨if_neg hE, if_neg hE⟩
    clear hE
    go_enter Try.func41, Try.ntmps41
    go_wp2_with (go_at_call 28; refine (check_any m _ cap _ HL.out hlen HR.out).mono ?_; rintro e w' ⟨rfl, rfl⟩)
    go_ret3
    unfold OwnRet2
    rw [HV.out.1, HV.out.2]
    exact ⟨Below.refl _ _, _, rfl, World.ownsRow_nil _ _ _ _⟩

/-- The columns ahead of b with its colour do not clash with it. -/
def apartU (m : List (List Int)) (l : List Int) (b n : Nat) : Bool := (List.range n).all fun a => !(l.getD a (-1) == l.getD b (-1) && clB m a b)
def colOkAt (m : List (List Int)) (l : List Int) (b : Nat) : Bool := (decide (0 ≤ l.getD b (-1)) && decide (l.getD b (-1) ≤ 400)) && apartU m l b b
def colOkU (m : List (List Int)) (l : List Int) (n : Nat) : Bool := (List.range n).all (colOkAt m l)
def chkC (m : List (List Int)) (l : List Int) : Int := if chkM m = 0 then (if l.length = colsN m then (if colOkU m l l.length = true then 0 else 11) else 1) else chkM m
theorem all_succ (p : Nat → Bool) (n : Nat) : (List.range (n + 1)).all p = ((List.range n).all p && p n) := by
  rw [List.range_succ, List.all_append]
  simp
theorem all_false {p : Nat → Bool} {n k : Nat} (hk : k < n) (hp : p k = false) : (List.range n).all p = false := by
  rw [Bool.eq_false_iff]
  intro h
  have := List.all_eq_true.1 h k (List.mem_range.2 hk)
  rw [hp] at this
  cases this

set_option maxRecDepth 100000 in
set_option maxHeartbeats 1000000 in
theorem CheckColour_any (m : List (List Int)) (a : Option Addr) (cap : Nat) (l : List Int) (al : Option Addr) (cl' : Nat) (w : World) (hl : RdM w a m) (hlen : m.length ≤ 1000000) (hrl : ∀ r, r ∈ m → r.length ≤ 1000000) (hc : RdI w al l) (hcl : l.length ≤ 1000000) :
    Calls Try.prog 47 #[.slice a m.length cap, .slice al l.length cl'] w (RetB (.int .i64 (chkC m l)) w) := by
  have HL := hid hl; clear hl
  have HR := hid hrl; clear hrl
  have HC := hid hc; clear hc
  by_cases hE : chkM m = 0
  · have hm := chkM_ok hE
    have HM := hid hm
    have HE := hid hE
    obtain ⟨b0, o0, rfl, hlt0, ai0, ci0, hc0⟩ := HL.out.head hm.some'
    have n0 : (0 : Int) < (m.length : Int) := by have := hm.some'; omega
    clear hE hm
    by_cases hln : l.length = colsN m
    · have HV : Hid (chkC m l = if colOkU m l l.length = true then 0 else 11) := hid (by unfold chkC; rw [if_pos HE.out, if_pos hln])
      have hne : ((l.length : Int) != (colsN m : Int)) = false := by rw [hln]; simp
      have HLN := hid hln
      clear hln
      go_enter Try.func47, Try.ntmps47
      go_wp2_with (go_at_call 28; refine (check_any m _ cap _ HL.out hlen HR.out).mono ?_; rw [HE.out]; rintro e w' ⟨rfl, rfl⟩)
      go_loopg [23] l.length (fun gh s23 wr => ∃ b : Nat, b ≤ l.length ∧ gh = l.length - b ∧ s23 = .int .i64 b ∧ Hid (colOkU m l b = true ∧ Below w.heap.size w wr))
      case atStart => exact ⟨0, Nat.zero_le _, rfl, rfl, hid ⟨rfl, Below.refl _ _⟩⟩
      case round =>
        obtain ⟨b, hb, rfl, rfl, HB⟩ := hrel
        by_cases hlt : b < l.length
        · have hlt' : (b : Int) < (l.length : Int) := by omega
          obtain ⟨wo, rfl⟩ : ∃ wo : World, wo = wr := ⟨_, rfl⟩
          obtain ⟨bl, ol, rfl, hltl, hcb⟩ := (HC.out.below HB.out.2).at hlt
          obtain ⟨x, hx⟩ : ∃ x, x = l.getD b (-1) := ⟨_, rfl⟩
          rw [← hx] at hcb
          have HX := hid hx
          clear hx
          by_cases hr : 0 ≤ x ∧ x ≤ 400
          · obtain ⟨hr1, hr2⟩ := hr
            have hr1' : ¬ x < 0 := by omega
            have hr2' : ¬ 400 < x := by omega
            go_wp2
            go_loopg [35] b (fun gh s35 wr => ∃ d : Nat, d ≤ b ∧ gh = b - d ∧ s35 = .int .i64 d ∧ Hid (apartU m l b d = true ∧ Below wo.heap.size wo wr))
            case atStart => exact ⟨0, Nat.zero_le _, rfl, rfl, hid ⟨rfl, Below.refl _ _⟩⟩
            case round =>
              obtain ⟨d, hd, rfl, rfl, HD⟩ := hrel
              by_cases hdb : d < b
              · have hdb' : (d : Int) < (b : Int) := by omega
                have hdl : (d : Int) < (l.length : Int) := by omega
                obtain ⟨bl', ol', e, hltl', hcd⟩ := (HC.out.below (HB.out.2.step HD.out.2)).at (i := d) (by omega)
                cases e
                obtain ⟨y, hy⟩ : ∃ y, y = l.getD d (-1) := ⟨_, rfl⟩
                rw [← hy] at hcd
                have HY := hid hy
                clear hy
                by_cases hxy : y = x
                · have hyx : (y == x) = true := by rw [beq_iff_eq]; exact hxy
                  have HCL := hid (clashM_clB m d b)
                  have HCC := hid (fun w' (hw : RdM w' (some ⟨b0, o0, none⟩) m) => clash_any m _ cap b d w' HM.out hw (by rw [← HLN.out]; exact hlt) (by rw [← HLN.out]; omega))
                  have HCM := hid (clashM_comm m b d)
                  by_cases hz : 0 ≤ clashM m b d
                  · have hclb : Hid (clB m d b = true) := hid (by rw [← HCL.out, ← HCM.out]; exact decide_eq_true hz)
                    go_wp2_with (go_at_call 77; refine (HCC.out _ (HL.out.below (HB.out.2.step HD.out.2))).mono ?_; rintro e w3 ⟨rfl, hb3⟩; have HB3 := hid hb3; clear hb3)
                    go_ret
                    rw [HV.out, if_neg (by
                      unfold colOkU
                      rw [all_false hlt (by
                        unfold colOkAt apartU
                        rw [all_false hdb (by rw [← HX.out, ← HY.out, hyx, hclb.out]; rfl), Bool.and_false])]
                      simp)]
                    exact ⟨rfl, HB.out.2.step (HD.out.2.step HB3.out)⟩
                  · have hclb : Hid (clB m d b = false) := hid (by rw [← HCL.out, ← HCM.out]; exact decide_eq_false hz)
                    go_wp2_with (go_at_call 77; refine (HCC.out _ (HL.out.below (HB.out.2.step HD.out.2))).mono ?_; rintro e w3 ⟨rfl, hb3⟩; have HB3 := hid hb3; clear hb3)
                    go_roundg (b - (d + 1))
                    case rel =>
                      refine ⟨d + 1, by omega, rfl, by go_num, hid ⟨?_, HD.out.2.step HB3.out⟩⟩
                      have h1 := HD.out.1
                      unfold apartU at h1 ⊢
                      rw [all_succ, h1, hclb.out, Bool.and_false]
                      rfl
                    case measure => omega
                · have hyx : (y == x) = false := by rw [beq_eq_false_iff_ne]; exact hxy
                  go_wp2
                  go_roundg (b - (d + 1))
                  case rel =>
                    refine ⟨d + 1, by omega, rfl, by go_num, hid ⟨?_, HD.out.2⟩⟩
                    have h1 := HD.out.1
                    unfold apartU at h1 ⊢
                    rw [all_succ, h1, ← HX.out, ← HY.out, hyx]
                    rfl
                  case measure => omega
              · have hdb' : d = b := by omega
                subst hdb'
                go_wp2
                go_roundg (l.length - (d + 1))
                case rel =>
                  refine ⟨d + 1, by omega, rfl, by go_num, hid ⟨?_, HB.out.2.step HD.out.2⟩⟩
                  have h1 := HB.out.1
                  unfold colOkU at h1 ⊢
                  rw [all_succ, h1]
                  unfold colOkAt
                  rw [HD.out.1, ← HX.out, decide_eq_true hr1, decide_eq_true hr2]
                  rfl
                case measure => omega
          · have hf : Hid (colOkU m l l.length = false) := hid (by
              unfold colOkU
              refine all_false hlt ?_
              unfold colOkAt
              rw [← HX.out]
              have : (decide (0 ≤ x) && decide (x ≤ 400)) = false := by
                rw [Bool.and_eq_false_iff]
                by_cases h : 0 ≤ x
                · exact .inr (decide_eq_false (fun h2 => hr ⟨h, h2⟩))
                · exact .inl (decide_eq_false h)
              rw [this, Bool.false_and])
            have HR4 := hid hr
            clear hr
            go_wp2
            all_goals first | (exfalso; have := HR4.out; simp at *; omega) | skip
            all_goals
              go_ret
              rw [HV.out, hf.out]
              exact ⟨rfl, HB.out.2⟩
        · have hbn : b = l.length := by omega
          subst hbn
          go_wp2
          go_ret
          rw [HV.out, HB.out.1]
          exact ⟨rfl, HB.out.2⟩
    · have HV : Hid (chkC m l = 1) := hid (by unfold chkC; rw [if_pos HE.out, if_neg hln])
      have hne : ((l.length : Int) != (colsN m : Int)) = true := by rw [bne_iff_ne]; omega
      clear hln
      go_enter Try.func47, Try.ntmps47
      go_wp2_with (go_at_call 28; refine (check_any m _ cap _ HL.out hlen HR.out).mono ?_; rw [HE.out]; rintro e w' ⟨rfl, rfl⟩)
      go_ret
      rw [HV.out]
      exact ⟨rfl, Below.refl _ _⟩
  · have hne : (chkM m == 0) = false := by rw [beq_eq_false_iff_ne]; exact hE
    have HV : Hid (chkC m l = chkM m) := hid (if_neg hE)
    clear hE
    go_enter Try.func47, Try.ntmps47
    go_wp2_with (go_at_call 28; refine (check_any m _ cap _ HL.out hlen HR.out).mono ?_; rintro e w' ⟨rfl, rfl⟩)
    go_ret
    rw [HV.out]
    exact ⟨rfl, Below.refl _ _⟩
end Go.Proofs.Ytliajnflmddnoaa
