/- The reference's tight. -/
import Derived.Test.YtnjbahiaelehkaaD4
namespace Go.Proofs.Ytnjbahiaelehkaa
open Go.RowKit

/-- What tight returns. -/
def TightPost (l : List AM) (n : Nat) (w : World) (e : Ending) (w' : World) : Prop :=
  Below w.heap.size w w' ∧ ((possB l = false ∧ e = .returned (.tuple #[.slice none 0 0, .bool false])) ∨
    ∃ g cap R m, e = .returned (.tuple #[.slice (some ⟨g, 0, none⟩) (2 * n) cap, .bool true]) ∧ MX w' w.heap.size g (2 * n) R m ∧ RefT l n m)
/-- The world, the matrix, and what is known of it. -/
def MS (w : World) (g N : Nat) (R : Nat → Nat) (P : (Nat → Nat → Int) → Prop) (m : Nat → Nat → Int) (wx : World) : Prop := MX wx w.heap.size g N R m ∧ P m ∧ Below w.heap.size w wx
theorem MS.imp {w wx : World} {g N : Nat} {R : Nat → Nat} {P Q : (Nat → Nat → Int) → Prop} {m : Nat → Nat → Int} (h : MS w g N R P m wx) (hq : P m → Q m) : MS w g N R Q m wx := ⟨h.1, hq h.2.1, h.2.2⟩
theorem MS.drew {w wx : World} {g N : Nat} {R : Nat → Nat} {P : (Nat → Nat → Int) → Prop} {m : Nat → Nat → Int} (h : MS w g N R P m wx) : MS w g N R P m wx.drew := ⟨h.1.drew, h.2.1, h.2.2.drew⟩
theorem MS.drewN {w wx : World} {g N : Nat} {R : Nat → Nat} {P : (Nat → Nat → Int) → Prop} {m : Nat → Nat → Int} (h : MS w g N R P m wx) (q : Nat) : MS w g N R P m (wx.drewN q) := ⟨h.1.below (below_drewN (Below.refl _ _) q), h.2.1, below_drewN h.2.2 q⟩
theorem MS.put {w wx : World} {g N : Nat} {R : Nat → Nat} {P Q : (Nat → Nat → Int) → Prop} {m : Nat → Nat → Int} (h : MS w g N R P m wx) {i j : Nat} (hi : i < N) (hj : j < N) (v : Int) (hq : Q (setM m i j v)) : MS w g N R Q (setM m i j v) (wx.setCell ⟨R i, j, none⟩ (.int .i64 v)) := ⟨h.1.set hi hj v, hq, h.2.2.setCell (h.1.ge i hi).1 _⟩

set_option maxRecDepth 100000 in
set_option maxHeartbeats 8000000 in
theorem tight_any (n : Nat) (hn1 : 1 ≤ n) (hn : n ≤ 12) (l : List AM) (ok : ∀ a, a ∈ l → Ok n 1000000 a) (a : Option Addr) (cap : Nat) (w : World) (hl : Rd w a l) (hlen : l.length ≤ 1000000) :
    Calls Try.prog 60 #[.int .i64 n, .slice a l.length cap] w (TightPost l n w) := by
  have HL := hid hl; clear hl
  have HOK := hid ok; clear ok
  go_enter Try.func60, Try.ntmps60
  go_wp2_with (go_at_call 102; refine (begin_any n hn1 hn l HOK.out a cap _ HL.out hlen).mono ?_; rintro e w1 ⟨hb, g, cg, R, m0, rfl, hmx, hbeg⟩; have HM0 : Hid (MS w g (2 * n) R (fun m => InR l n 0 0 0 m) m0 w1) := hid ⟨hmx, InR.start hbeg.good, hb⟩; clear hb hmx hbeg)
  go_loopg [7] (2 * n) (fun gh s7 wx => ∃ (k : Nat) (m : Nat → Nat → Int), k ≤ 2 * n ∧ gh = 2 * n - k ∧ s7 = .int .i64 k ∧ Hid (MS w g (2 * n) R (fun m => InR l n k 0 0 m) m wx))
  case atStart => exact ⟨0, m0, Nat.zero_le _, rfl, rfl, HM0⟩
  case round =>
    obtain ⟨k, m, hk, rfl, rfl, HK⟩ := hrel
    by_cases hltk : k < 2 * n
    · have hdk : decide ((k : Int) < 2 * (n : Int)) = true := by simp; omega
      go_wp2
      go_loopg [8] (2 * n) (fun gh s8 wx => ∃ (i : Nat) (m : Nat → Nat → Int), i ≤ 2 * n ∧ gh = 2 * n - i ∧ s8 = .int .i64 i ∧ Hid (MS w g (2 * n) R (fun m => InR l n k i 0 m) m wx))
      case atStart => exact ⟨0, m, Nat.zero_le _, rfl, rfl, HK⟩
      case round =>
        obtain ⟨i, m, hi, rfl, rfl, HI⟩ := hrel
        by_cases hlti : i < 2 * n
        · have hdi : decide ((i : Int) < 2 * (n : Int)) = true := by simp; omega
          go_wp2
          go_loopg [9] (2 * n) (fun gh s9 wx => ∃ (j : Nat) (m : Nat → Nat → Int), j ≤ 2 * n ∧ gh = 2 * n - j ∧ s9 = .int .i64 j ∧ Hid (MS w g (2 * n) R (fun m => InR l n k i j m) m wx))
          case atStart => exact ⟨0, m, Nat.zero_le _, rfl, rfl, HI⟩
          case round =>
            obtain ⟨j, m, hj, rfl, rfl, HJ⟩ := hrel
            by_cases hltj : j < 2 * n
            · have hdj : decide ((j : Int) < 2 * (n : Int)) = true := by simp; omega
              obtain ⟨c1, e1⟩ := HJ.out.1.hd i hlti
              obtain ⟨c2, e2⟩ := HJ.out.1.hd k hltk
              have q1 := HJ.out.1.cell hlti hltk
              have q2 := HJ.out.1.cell hltk hltj
              have q3 := HJ.out.1.cell hlti hltj
              have f3 := (HJ.out.1.row i hlti).frozen j
              obtain ⟨x, hx⟩ : ∃ x, x = m i k := ⟨_, rfl⟩
              obtain ⟨y, hy⟩ : ∃ x, x = m k j := ⟨_, rfl⟩
              obtain ⟨z, hz⟩ : ∃ x, x = m i j := ⟨_, rfl⟩
              rw [← hx] at q1
              rw [← hy] at q2
              rw [← hz] at q3
              have HXYZ := hid (And.intro hx (And.intro hy hz))
              clear hx hy hz
              have i1 : (i : Int) < 2 * (n : Int) := by omega
              have i2 : (k : Int) < 2 * (n : Int) := by omega
              have i3 : (j : Int) < 2 * (n : Int) := by omega
              by_cases hb : x < RF ∧ y < RF
              · obtain ⟨b1, b2⟩ := hb
                have d1 : decide (x < 1125899906842624) = true := by simpa using b1
                have d2 : decide (y < 1125899906842624) = true := by simpa using b2
                go_upto_region 12 with fail
                go_still_tail 29, (by kernel_rfl)
                change wpList _ _ _ _ _ wr.drew
                have q3d : wr.drew.cell? ⟨R i, j, none⟩ = some (.int .i64 z) := q3
                have f3d : wr.drew.frozen? ⟨R i, j, none⟩ = false := f3
                go_wp2
                go_roundg (2 * n - (j + 1))
                case rel =>
                  refine ⟨j + 1, setM m i j (min z (wrap64 (x + y))), by omega, by omega, by go_num, hid ?_⟩
                  obtain ⟨hx, hy, hz⟩ := HXYZ.out
                  exact (HJ.out.drew.put hlti hltj _ (InR.put HJ.out.2.1 hltk hlti hltj ⟨by omega, fun _ _ hr => (by rw [← hx, ← hy] at hr ⊢; rw [← hz, show wrap64 (x + y) = x + y by unfold wrap64; omega]), fun hn => absurd ⟨by omega, by omega⟩ hn⟩))
                case measure => omega
              · have hn : ¬(m i k < RF ∧ m k j < RF) := by
                  obtain ⟨hx, hy, hz⟩ := HXYZ.out
                  rw [← hx, ← hy]
                  exact hb
                have HN := hid hn
                clear hn
                by_cases b1 : x < RF
                case' pos =>
                  have b2 : ¬y < RF := fun h => hb ⟨b1, h⟩
                  have d1 : decide (x < 1125899906842624) = true := by simpa using b1
                  have d2 : decide (y < 1125899906842624) = false := by simpa using b2
                  clear hb
                  go_wp2
                case' neg =>
                  have d1 : decide (x < 1125899906842624) = false := by simpa using b1
                  clear hb
                  go_wp2
                all_goals
                  go_roundg (2 * n - (j + 1))
                  case rel =>
                    exact ⟨j + 1, m, by omega, by omega, by go_num, hid (HJ.out.imp fun h => InR.skip h hltk hlti hltj HN.out)⟩
                  case measure => omega
            · go_wp2
              go_roundg (2 * n - (i + 1))
              case rel =>
                have hje : j = 2 * n := by omega
                exact ⟨i + 1, m, by omega, by omega, by go_num, hid (HJ.out.imp fun h => InR.next (by rw [hje] at h; exact h))⟩
              case measure => omega
        · go_wp2
          go_roundg (2 * n - (k + 1))
          case rel =>
            have hie : i = 2 * n := by omega
            exact ⟨k + 1, m, by omega, by omega, by go_num, hid (HI.out.imp fun h => InR.over HOK.out hn hltk (by rw [hie] at h; exact h))⟩
          case measure => omega
    · have hke : k = 2 * n := by omega
      have HM1 : Hid (MS w g (2 * n) R (fun m => HalfR l n 0 m) m wr) := hid (HK.out.imp fun h => InR.half (by rw [hke] at h; exact h))
      clear HK hke
      go_wp2
      go_loopg [10] (2 * n) (fun gh s10 wx => ∃ (i : Nat) (m : Nat → Nat → Int), i ≤ 2 * n ∧ gh = 2 * n - i ∧ s10 = .int .i64 i ∧ Hid (MS w g (2 * n) R (fun m => HalfR l n i m) m wx))
      case atStart => exact ⟨0, m, Nat.zero_le _, rfl, rfl, HM1⟩
      case round =>
        obtain ⟨i, m, hi, rfl, rfl, HI⟩ := hrel
        by_cases hlti : i < 2 * n
        · have hdi : decide ((i : Int) < 2 * (n : Int)) = true := by simp; omega
          have i1 : (i : Int) < 2 * (n : Int) := by omega
          have hol := ot_lt hlti
          have i2 : ((ot i : Nat) : Int) < 2 * (n : Int) := by omega
          obtain ⟨c1, e1⟩ := HI.out.1.hd i hlti
          have q1 := HI.out.1.cell hlti hlti
          have q2 := HI.out.1.cell hlti hol
          have f2 := (HI.out.1.row i hlti).frozen (ot i)
          obtain ⟨x, hx⟩ : ∃ x, x = m i i := ⟨_, rfl⟩
          obtain ⟨y, hy⟩ : ∃ x, x = m i (ot i) := ⟨_, rfl⟩
          rw [← hx] at q1
          rw [← hy] at q2
          have HXY := hid (And.intro hx hy)
          clear hx hy
          by_cases hneg : x < 0
          · have d1 : decide (x < 0) = true := by simpa using hneg
            have HP : Hid (possB l = false) := hid (HI.out.2.1.stop hlti (by rw [← HXY.out.1]; exact hneg))
            go_wp2
            go_ret2
            exact ⟨HI.out.2.2, .inl ⟨HP.out, rfl⟩⟩
          · have d1 : decide (x < 0) = false := by simpa using hneg
            go_upto_region 18 with fail
            refine wp_region_still_tail 8 (by kernel_rfl) (by kernel_rfl) ?_
            simp only [List.take_succ_cons, List.take_zero, List.drop_succ_cons, List.drop_zero]
            repeat still_step
            still_call (retS (rother_any i (by omega) _))
            repeat still_step
            refine wpStill_nil ?_
            change wpList _ _ _ _ _ wr.drew
            by_cases hf : y < RF
            · have d2 : decide (y < 1125899906842624) = true := by simpa using hf
              go_upto_region 19 with fail
              have q2d : wr.drew.cell? ⟨R i, ot i, none⟩ = some (.int .i64 y) := q2
              have e1d : wr.drew.cell? ⟨g, i, none⟩ = some (.slice (some ⟨R i, 0, none⟩) (2 * n) c1) := e1
              have f2d : wr.drew.frozen? ⟨R i, ot i, none⟩ = false := f2
              have HID := hid HI.out.drew
              clear q1 q2 e1 f2
              generalize wr.drew = W1 at *
              refine wp_region_still_tail 17 (by kernel_rfl) (by kernel_rfl) ?_
              simp only [List.take_succ_cons, List.take_zero, List.drop_succ_cons, List.drop_zero]
              repeat still_step
              still_call (retS (rother_any i (by omega) _))
              repeat still_step
              still_call (retS (rother_any i (by omega) _))
              repeat still_step
              still_call (retS (rhalf_w y _))
              repeat still_step
              refine wpStill_nil ?_
              change wpList _ _ _ _ _ W1.drew
              have q2e : W1.drew.cell? ⟨R i, ot i, none⟩ = some (.int .i64 y) := q2d
              have f2e : W1.drew.frozen? ⟨R i, ot i, none⟩ = false := f2d
              go_wp2
              go_roundg (2 * n - (i + 1))
              case rel =>
                refine ⟨i + 1, setM m i (ot i) (wrap64 (2 * halfW y)), by omega, by omega, by go_num, hid ?_⟩
                obtain ⟨hx, hy⟩ := HXY.out
                have hv : -1000000000 ≤ m i (ot i) → m i (ot i) ≤ 1000000000 → wrap64 (2 * halfW y) = 2 * (m i (ot i) / 2) := fun h1 h2 => by
                  rw [← hy] at h1 h2 ⊢
                  rw [halfW_in (by omega) (by omega)]
                  unfold wrap64
                  omega
                exact (HID.out.put (Q := fun m => HalfR l n (i + 1) m) hlti hol _ (HID.out.2.1.put hlti (by rw [← hx]; omega) (by rw [← hy]; exact hf) hv)).drew
              case measure => omega
            · have d2 : decide (y < 1125899906842624) = false := by simpa using hf
              go_wp2
              go_roundg (2 * n - (i + 1))
              case rel =>
                refine ⟨i + 1, m, by omega, by omega, by go_num, hid (HI.out.drew.imp fun h => h.skip hlti (by rw [← HXY.out.1]; omega) (by rw [← HXY.out.2]; omega))⟩
              case measure => omega
        · have hie : i = 2 * n := by omega
          have hall := HI.out.2.1
          rw [hie] at hall
          obtain ⟨D, T, hh⟩ := hall.all
          have HM2 : Hid (MS w g (2 * n) R (fun m => Halved l n D T m ∧ ∀ j, j < 0 → m j (ot j) < RF → m (ot j) j < RF → 0 ≤ m j (ot j) + m (ot j) j) m wr) := hid (HI.out.imp fun _ => ⟨hh, fun j hj => absurd hj (Nat.not_lt_zero j)⟩)
          clear HI hh hall hie
          go_wp2
          go_loopg [11] (2 * n) (fun gh s11 wx => ∃ (i : Nat), i ≤ 2 * n ∧ gh = 2 * n - i ∧ s11 = .int .i64 i ∧ Hid (MS w g (2 * n) R (fun m => Halved l n D T m ∧ ∀ j, j < i → m j (ot j) < RF → m (ot j) j < RF → 0 ≤ m j (ot j) + m (ot j) j) m wx))
          case atStart => exact ⟨0, Nat.zero_le _, rfl, rfl, HM2⟩
          case round =>
            obtain ⟨i, hi2, rfl, rfl, HI⟩ := hrel
            by_cases hlti2 : i < 2 * n
            · have hdi : decide ((i : Int) < 2 * (n : Int)) = true := by simp; omega
              have i1 : (i : Int) < 2 * (n : Int) := by omega
              have hol := ot_lt hlti2
              have i2 : ((ot i : Nat) : Int) < 2 * (n : Int) := by omega
              obtain ⟨c1, e1⟩ := HI.out.1.hd i hlti2
              obtain ⟨c2, e2⟩ := HI.out.1.hd (ot i) hol
              have q1 := HI.out.1.cell hlti2 hol
              have q2 := HI.out.1.cell hol hlti2
              obtain ⟨x, hx⟩ : ∃ x, x = m i (ot i) := ⟨_, rfl⟩
              obtain ⟨y, hy⟩ : ∃ x, x = m (ot i) i := ⟨_, rfl⟩
              have hsm := HI.out.2.1.1.twoLt hlti2
              have hsm2 := HI.out.2.1.1.twoLt hol
              rw [ot_ot] at hsm2
              rw [← hx] at q1 hsm
              rw [← hy] at q2 hsm2
              have HXY := hid (And.intro hx hy)
              have hbx : x < RF → -1000000001 ≤ x ∧ x ≤ 1000000000 := fun h => (hsm.2 (hsm.1.1 h)).2
              have hby : y < RF → -1000000001 ≤ y ∧ y ≤ 1000000000 := fun h => (hsm2.2 (hsm2.1.1 h)).2
              have HBX := hid hbx
              have HBY := hid hby
              clear hx hy hsm hsm2 hbx hby
              by_cases b1 : x < RF
              · have d1 : decide (x < 1125899906842624) = true := by simpa using b1
                by_cases b2 : y < RF
                · have d2 : decide (y < 1125899906842624) = true := by simpa using b2
                  obtain ⟨bx1, bx2⟩ := HBX.out b1
                  obtain ⟨by1, by2⟩ := HBY.out b2
                  by_cases hs : x + y < 0
                  · have d3 : decide (x + y < 0) = true := by simpa using hs
                    have HP : Hid (possB l = false) := hid (HI.out.2.1.1.clash HOK.out hlti2 (by rw [← HXY.out.1]; exact b1) (by rw [← HXY.out.2]; exact b2) (by rw [← HXY.out.1, ← HXY.out.2]; exact hs))
                    have w3 : IntKind.i64.wrap (x + y) = x + y := IntWalk.i64_in _ (by omega)
                    go_upto_region 23 with fail
                    go_quiet ((go_at_call 103; exact Calls.quiet_of_same (retS (rother_any i (by omega) _))))
                    clear w3
                    go_wp2
                    go_ret2
                    exact ⟨below_drewN HI.out.2.2 _, .inl ⟨HP.out, rfl⟩⟩
                  · have d3 : decide (x + y < 0) = false := by simpa using hs
                    have HNX : Hid (∀ j, j < i + 1 → m j (ot j) < RF → m (ot j) j < RF → 0 ≤ m j (ot j) + m (ot j) j) := hid fun j hj h1 h2 => by
                      by_cases e : j = i
                      · subst e
                        rw [← HXY.out.1, ← HXY.out.2]
                        omega
                      · exact HI.out.2.1.2 j (by omega) h1 h2
                    have w3 : IntKind.i64.wrap (x + y) = x + y := IntWalk.i64_in _ (by omega)
                    go_upto_region 23 with fail
                    go_quiet ((go_at_call 103; exact Calls.quiet_of_same (retS (rother_any i (by omega) _))))
                    clear w3
                    go_wp2
                    go_roundg (2 * n - (i + 1))
                    case rel => exact ⟨i + 1, by omega, by omega, by go_num, hid ((HI.out.drewN _).imp fun h => ⟨h.1, HNX.out⟩)⟩
                    case measure => omega
                · have d2 : decide (y < 1125899906842624) = false := by simpa using b2
                  have HNX : Hid (∀ j, j < i + 1 → m j (ot j) < RF → m (ot j) j < RF → 0 ≤ m j (ot j) + m (ot j) j) := hid fun j hj h1 h2 => by
                    by_cases e : j = i
                    · subst e
                      rw [← HXY.out.2] at h2
                      exact absurd h2 b2
                    · exact HI.out.2.1.2 j (by omega) h1 h2
                  go_upto_region 23 with fail
                  go_quiet ((go_at_call 103; exact Calls.quiet_of_same (retS (rother_any i (by omega) _))))
                  go_wp2
                  go_roundg (2 * n - (i + 1))
                  case rel => exact ⟨i + 1, by omega, by omega, by go_num, hid ((HI.out.drewN _).imp fun h => ⟨h.1, HNX.out⟩)⟩
                  case measure => omega
              · have d1 : decide (x < 1125899906842624) = false := by simpa using b1
                have HNX : Hid (∀ j, j < i + 1 → m j (ot j) < RF → m (ot j) j < RF → 0 ≤ m j (ot j) + m (ot j) j) := hid fun j hj h1 h2 => by
                  by_cases e : j = i
                  · subst e
                    rw [← HXY.out.1] at h1
                    exact absurd h1 b1
                  · exact HI.out.2.1.2 j (by omega) h1 h2
                go_upto_region 23 with fail
                go_quiet ((go_at_call 103; exact Calls.quiet_of_same (retS (rother_any i (by omega) _))))
                go_wp2
                go_roundg (2 * n - (i + 1))
                case rel => exact ⟨i + 1, by omega, by omega, by go_num, hid ((HI.out.drewN _).imp fun h => ⟨h.1, HNX.out⟩)⟩
                case measure => omega
            · have hie : i = 2 * n := by omega
              have hall := HI.out.2.1
              rw [hie] at hall
              have hti := hall.1.tight (fun j hj => hall.2 j hj)
              have HM3 : Hid (MS w g (2 * n) R (fun m' => LastR (2 * n) 0 0 m m') m wr) := hid (HI.out.imp fun _ => LastR.start)
              have HH := hid hall.1
              have HT := hid hti
              clear HI hall hie hti
              go_wp2
              go_loopg [12] (2 * n) (fun gh s12 wx => ∃ (i : Nat) (m' : Nat → Nat → Int), i ≤ 2 * n ∧ gh = 2 * n - i ∧ s12 = .int .i64 i ∧ Hid (MS w g (2 * n) R (fun m' => LastR (2 * n) i 0 m m') m' wx))
              case atStart => exact ⟨0, m, Nat.zero_le _, rfl, rfl, HM3⟩
              case round =>
                obtain ⟨i, m', hi3, rfl, rfl, HI⟩ := hrel
                by_cases hlti3 : i < 2 * n
                · have hdi : decide ((i : Int) < 2 * (n : Int)) = true := by simp; omega
                  have i1 : (i : Int) < 2 * (n : Int) := by omega
                  have hol := ot_lt hlti3
                  have i2 : ((ot i : Nat) : Int) < 2 * (n : Int) := by omega
                  go_wp2
                  go_loopg [13] (2 * n) (fun gh s13 wx => ∃ (j : Nat) (m' : Nat → Nat → Int), j ≤ 2 * n ∧ gh = 2 * n - j ∧ s13 = .int .i64 j ∧ Hid (MS w g (2 * n) R (fun m' => LastR (2 * n) i j m m') m' wx))
                  case atStart => exact ⟨0, m', Nat.zero_le _, rfl, rfl, HI⟩
                  case round =>
                    obtain ⟨j, m', hj3, rfl, rfl, HJ⟩ := hrel
                    by_cases hltj3 : j < 2 * n
                    · have hdj : decide ((j : Int) < 2 * (n : Int)) = true := by simp; omega
                      have i3 : (j : Int) < 2 * (n : Int) := by omega
                      have hoj := ot_lt hltj3
                      have i4 : ((ot j : Nat) : Int) < 2 * (n : Int) := by omega
                      obtain ⟨c1, e1⟩ := HJ.out.1.hd i hlti3
                      obtain ⟨c2, e2⟩ := HJ.out.1.hd (ot j) hoj
                      have q1 := HJ.out.1.cell hlti3 hol
                      have q2 := HJ.out.1.cell hoj hltj3
                      have q3 := HJ.out.1.cell hlti3 hltj3
                      have f3 := (HJ.out.1.row i hlti3).frozen j
                      have hsm := HH.out.twoLt hlti3
                      have hsm2 := HH.out.twoLt hoj
                      rw [ot_ot] at hsm2
                      rw [← LastR.two HH.out HJ.out.2.1 hlti3] at hsm
                      rw [← LastR.two' HH.out HJ.out.2.1 hltj3] at hsm2
                      obtain ⟨x, hx⟩ : ∃ x, x = m' i (ot i) := ⟨_, rfl⟩
                      obtain ⟨y, hy⟩ : ∃ x, x = m' (ot j) j := ⟨_, rfl⟩
                      obtain ⟨z, hz⟩ : ∃ x, x = m' i j := ⟨_, rfl⟩
                      rw [← hx] at q1 hsm
                      rw [← hy] at q2 hsm2
                      rw [← hz] at q3
                      have HXYZ := hid (And.intro hx (And.intro hy hz))
                      have hbx : x < RF → -1000000001 ≤ x ∧ x ≤ 1000000000 := fun h => (hsm.2 (hsm.1.1 h)).2
                      have hby : y < RF → -1000000001 ≤ y ∧ y ≤ 1000000000 := fun h => (hsm2.2 (hsm2.1.1 h)).2
                      have HBX := hid hbx
                      have HBY := hid hby
                      clear hx hy hz hsm hsm2 hbx hby
                      by_cases hb : x < RF ∧ y < RF
                      · obtain ⟨b1, b2⟩ := hb
                        have d1 : decide (x < 1125899906842624) = true := by simpa using b1
                        have d2 : decide (y < 1125899906842624) = true := by simpa using b2
                        obtain ⟨bx1, bx2⟩ := HBX.out b1
                        obtain ⟨by1, by2⟩ := HBY.out b2
                        go_upto_region 31 with fail
                        go_quiet ((go_at_call 103; first | (with_reducible exact Calls.quiet_of_same (retS (rother_any i (by omega) _))) | (with_reducible exact Calls.quiet_of_same (retS (rother_any j (by omega) _)))))
                        go_upto_region 32 with fail
                        have HID := hid (HJ.out.drewN nq)
                        replace q1 : (wr.drewN nq).cell? ⟨R i, ot i, none⟩ = some (.int .i64 x) := q1
                        replace q2 : (wr.drewN nq).cell? ⟨R (ot j), j, none⟩ = some (.int .i64 y) := q2
                        replace q3 : (wr.drewN nq).cell? ⟨R i, j, none⟩ = some (.int .i64 z) := q3
                        replace e1 : (wr.drewN nq).cell? ⟨g, i, none⟩ = some (.slice (some ⟨R i, 0, none⟩) (2 * n) c1) := e1
                        replace e2 : (wr.drewN nq).cell? ⟨g, ot j, none⟩ = some (.slice (some ⟨R (ot j), 0, none⟩) (2 * n) c2) := e2
                        replace f3 : (wr.drewN nq).frozen? ⟨R i, j, none⟩ = false := f3
                        generalize wr.drewN nq = W1 at *
                        obtain ⟨s, hs⟩ : ∃ s, s = (x + y).tdiv 2 := ⟨_, rfl⟩
                        have hsb : -2000000002 ≤ s ∧ s ≤ 2000000002 := by
                          rw [hs]
                          rcases Int.le_total 0 (x + y) with h | h
                          · rw [Int.tdiv_eq_ediv_of_nonneg h]; omega
                          · have e : (x + y).tdiv 2 = -((-(x + y)).tdiv 2) := by rw [Int.neg_tdiv, Int.neg_neg]
                            rw [e, Int.tdiv_eq_ediv_of_nonneg (by omega)]; omega
                        have w3 : IntKind.i64.wrap (x + y) = x + y := IntWalk.i64_in _ (by omega)
                        have w4 : IntKind.i64.wrap ((x + y).tdiv 2) = s := by rw [← hs]; exact IntWalk.i64_in _ (by omega)
                        have HS := hid hs
                        clear hs
                        refine wp_region_still_tail 32 (by kernel_rfl) (by kernel_rfl) ?_
                        simp only [List.take_succ_cons, List.take_zero, List.drop_succ_cons, List.drop_zero]
                        repeat still_step
                        still_call (retS (rother_any i (by omega) _))
                        repeat still_step
                        still_call (retS (rother_any j (by omega) _))
                        repeat still_step
                        refine wpStill_nil ?_
                        change wpList _ _ _ _ _ W1.drew
                        clear w3 w4
                        have q3d : W1.drew.cell? ⟨R i, j, none⟩ = some (.int .i64 z) := q3
                        have f3d : W1.drew.frozen? ⟨R i, j, none⟩ = false := f3
                        go_wp2
                        go_roundg (2 * n - (j + 1))
                        case rel =>
                          refine ⟨j + 1, setM m' i j (min z s), by omega, by omega, by go_num, hid ?_⟩
                          obtain ⟨hx, hy, hz⟩ := HXYZ.out
                          exact (HID.out.put (Q := fun m' => LastR (2 * n) i (j + 1) m m') hlti3 hltj3 _ (LastR.put HH.out HID.out.2.1 hlti3 hltj3 (by rw [← hx]; exact b1) (by rw [← hy]; exact b2) (by rw [← hx, ← hy, ← hz, HS.out]))).drew
                        case measure => omega
                      · have hn : ¬(m' i (ot i) < RF ∧ m' (ot j) j < RF) := by
                          obtain ⟨hx, hy, hz⟩ := HXYZ.out
                          rw [← hx, ← hy]
                          exact hb
                        have HN := hid hn
                        clear hn
                        by_cases b1 : x < RF
                        case' pos =>
                          have b2 : ¬y < RF := fun h => hb ⟨b1, h⟩
                          have d1 : decide (x < 1125899906842624) = true := by simpa using b1
                          have d2 : decide (y < 1125899906842624) = false := by simpa using b2
                          clear hb
                        case' neg =>
                          have d1 : decide (x < 1125899906842624) = false := by simpa using b1
                          clear hb
                        all_goals
                          go_upto_region 31 with fail
                          go_quiet ((go_at_call 103; first | (with_reducible exact Calls.quiet_of_same (retS (rother_any i (by omega) _))) | (with_reducible exact Calls.quiet_of_same (retS (rother_any j (by omega) _)))))
                          go_wp2
                          go_roundg (2 * n - (j + 1))
                          case rel =>
                            exact ⟨j + 1, m', by omega, by omega, by go_num, hid ((HJ.out.drewN _).imp fun h => LastR.skip HH.out h hlti3 hltj3 HN.out)⟩
                          case measure => omega
                    · go_wp2
                      go_roundg (2 * n - (i + 1))
                      case rel =>
                        have hje : j = 2 * n := by omega
                        exact ⟨i + 1, m', by omega, by omega, by go_num, hid (HJ.out.imp fun h => LastR.next (by rw [hje] at h; exact h))⟩
                      case measure => omega
                · have hie : i = 2 * n := by omega
                  have hend : MS w g (2 * n) R (fun m' => RefT l n m') m' wr := HI.out.imp fun h => LastR.tells HH.out HOK.out HT.out (by rw [hie] at h; exact h)
                  have HEND := hid hend
                  clear hend hie
                  go_wp2
                  go_ret2
                  exact ⟨HEND.out.2.2, .inr ⟨g, cg, R, m', rfl, HEND.out.1, HEND.out.2.1⟩⟩
end Go.Proofs.Ytnjbahiaelehkaa
