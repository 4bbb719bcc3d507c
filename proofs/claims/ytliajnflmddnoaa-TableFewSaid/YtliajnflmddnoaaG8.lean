/- Contracts of order and Clique of package table. -/
import Derived.Test.YtliajnflmddnoaaG7
import Derived.Deep.OwnRows
namespace Go.Proofs.Ytliajnflmddnoaa
open Go.RowKit

set_option maxRecDepth 1000000 in
set_option maxHeartbeats 4000000 in
theorem stable_any (m : List (List Int)) (a : Option Addr) (cap gm g c : Nat) (wb w : World) (hm : RightM m) (h12 : m.length ≤ 19) (hl : RdM wb a m) (hgm : wb.cell? ⟨gm, 0, none⟩ = some (.slice a m.length cap)) (hw : Below wb.heap.size wb w)
    (hg : wb.heap.size ≤ g) (hd : BI w g (asI (List.range m.length))) :
    Calls Try.prog 87 #[.slice (some ⟨g, 0, none⟩) m.length c, .int .i64 m.length, .func (.func 80) #[] #[.pointer (some ⟨gm, 0, none⟩)]] w
      (fun e w' => e = .returned (.tuple #[]) ∧ Below wb.heap.size wb w' ∧ BI w' g (asI (orderL m))) := by
  have HI := hid (insert_any m a cap gm g c wb w hm hl hgm hw hg hd)
  clear hm hl hgm hd
  have n20 : ¬ (20 : Int) ≤ (m.length : Int) := by omega
  have n20' : ¬ (20 : Int) < (m.length : Int) := by omega
  go_enter Try.func87, Try.ntmps87
  go_wp2
  go_loop [7, 8] (fun i j => i = .int .i64 0 ∧ j = .int .i64 20) (fun _ _ => 0)
  case atStart => exact ⟨rfl, rfl⟩
  case round =>
    obtain ⟨rfl, rfl⟩ := hrel
    go_wp2_with (go_at_call 88; refine HI.out.mono ?_; rintro e w' ⟨rfl, hr⟩; have HR := hid hr; clear hr)
    go_loopg [6, 7, 8, 9] 0 (fun gh s6 s7 s8 s9 wr => s6 = .int .i64 20 ∧ wr = w')
    case atStart => exact ⟨rfl, rfl⟩
    case round =>
      obtain ⟨rfl, rfl⟩ := hrel
      go_wp2
      go_end0
      exact ⟨rfl, HR.out.1, HR.out.2⟩
theorem sort_any (m : List (List Int)) (a : Option Addr) (cap gm g c : Nat) (wb w : World) (hm : RightM m) (h12 : m.length ≤ 19) (hl : RdM wb a m) (hgm : wb.cell? ⟨gm, 0, none⟩ = some (.slice a m.length cap)) (hw : Below wb.heap.size wb w)
    (hg : wb.heap.size ≤ g) (hd : BI w g (asI (List.range m.length))) :
    Calls Try.prog 79 #[.slice (some ⟨g, 0, none⟩) m.length c, .func (.func 80) #[] #[.pointer (some ⟨gm, 0, none⟩)]] w
      (fun e w' => e = .returned (.tuple #[]) ∧ Below wb.heap.size wb w' ∧ BI w' g (asI (orderL m))) := by
  have HI := hid (stable_any m a cap gm g c wb w hm h12 hl hgm hw hg hd)
  clear hm hl hgm hd
  go_enter Try.func79, Try.ntmps79
  go_wp2_with (go_at_call 87; refine HI.out.mono ?_; rintro e w' ⟨rfl, hr⟩; have HR := hid hr; clear hr)
  go_end0
  exact ⟨rfl, HR.out.1, HR.out.2⟩

theorem BI.of_row {w : World} {g n : Nat} (h : w.rowIs g 3 n (fun _ => .int .i64 0)) : BI w g (asI (List.replicate n 0)) := by
  obtain ⟨cur, hh, _, hc⟩ := h
  refine ⟨cur, hh, fun i hi => ?_⟩
  have hi' : i < n := by rw [asI_length, List.length_replicate] at hi; exact hi
  rw [hc i hi', asI_getElem _ (by rw [List.length_replicate]; exact hi'), List.getElem_replicate]
  rfl
/-- What a call returns: numbers of its own in a block of its own. -/
def BlkRet (l : List Int) (w : World) (e : Ending) (w' : World) : Prop := Below w.heap.size w w' ∧ ∃ g c, e = .returned (.slice (some ⟨g, 0, none⟩) l.length c) ∧ w.heap.size ≤ g ∧ BI w' g l
theorem range_put {k n : Nat} (h : k < n) : (asI (List.range k ++ List.replicate (n - k) 0)).set k (k : Nat) = asI (List.range (k + 1) ++ List.replicate (n - (k + 1)) 0) := by
  rw [show n - k = (n - (k + 1)) + 1 from by omega, List.replicate_succ, List.range_succ]
  unfold asI
  rw [List.map_append, List.set_append_right _ _ (by simp)]
  simp

set_option maxRecDepth 1000000 in
set_option maxHeartbeats 4000000 in
theorem order_any (m : List (List Int)) (a : Option Addr) (cap : Nat) (w : World) (hm : RightM m) (h12 : m.length ≤ 19) (hl : RdM w a m) :
    Calls Try.prog 54 #[.slice a m.length cap] w (BlkRet (asI (orderL m)) w) := by
  obtain ⟨i3, hi3, hz0, hz1, hz2⟩ := info_parts info3
  have HL := hid hl; clear hl
  have HM := hid hm; clear hm
  have HSO := hid (fun (wb w' : World) (hl : RdM wb a m) (gm : Nat) (hgm : wb.cell? ⟨gm, 0, none⟩ = some (.slice a m.length cap)) (hw : Below wb.heap.size wb w') (g : Nat) (hg : wb.heap.size ≤ g) (hd : BI w' g (asI (List.range m.length))) => sort_any m a cap gm g m.length wb w' HM.out h12 hl hgm hw hg hd)
  have HOL := hid (order_length HM.out)
  generalize hn : m.length = n at *
  have HN := hid hn
  clear hn
  go_enter Try.func54, Try.ntmps54
  go_upto_region 2 with (refine wpList_make_row _ rfl _ _ _ rfl 3 i3 _ Try.underlying23 hi3 hz0 hz1 rfl .i64 .i64 n rfl rfl (by rw [hz2]; omega) (by omega) ?_)
  have hgm : (w.alloc (.cells #[.slice a n cap] 22)).cell? ⟨w.heap.size, 0, none⟩ = some (.slice a n cap) := cell0_alloc _ _ _
  have HGM := hid hgm
  have HL1 := hid (HL.out.below (bnew w (.cells #[.slice a n cap] 22)))
  have HB1 := hid (bnew w (.cells #[.slice a n cap] 22))
  clear hgm
  generalize hw1 : w.alloc (.cells #[.slice a n cap] 22) = w1 at *
  have hs1 : w.heap.size + 1 = w1.heap.size := by rw [← hw1]; simp
  have hsw : w.heap.size < w1.heap.size := by omega
  have hrow : BI (w1.alloc (.cells (madeCells #[.int .i64 0] n) 3)) w1.heap.size (asI (List.replicate n 0)) := BI.of_row (World.rowIs_made w1 (.int .i64 0) n 3)
  have HROW := hid hrow
  have HB2 := hid (bnew w1 (.cells (madeCells #[.int .i64 0] n) 3))
  clear hrow
  generalize w1.alloc (.cells (madeCells #[.int .i64 0] n) 3) = w2 at *
  obtain ⟨g, hg⟩ : ∃ g, g = w1.heap.size := ⟨_, rfl⟩
  rw [hs1, ← hg]
  rw [← hg] at HROW
  have HGE := hid hg
  have HS1 := hid hs1
  clear hg hs1 hw1
  go_wp2
  go_loopg [10] n (fun gh s10 wr => ∃ k : Nat, k ≤ n ∧ gh = n - k ∧ s10 = .int .i64 k ∧ Hid (BI wr g (asI (List.range k ++ List.replicate (n - k) 0)) ∧ Below w1.heap.size w1 wr))
  case atStart => exact ⟨0, Nat.zero_le _, rfl, rfl, hid ⟨HROW.out, HB2.out⟩⟩
  case round =>
    obtain ⟨k, hk, rfl, rfl, HK⟩ := hrel
    by_cases hlt : k < n
    · have hlt' : (k : Int) < (n : Int) := by omega
      have hll : k < (asI (List.range k ++ List.replicate (n - k) 0)).length := by rw [asI_length]; simp; omega
      have c1 := HK.out.1.at hll
      have c2 := HK.out.1.frozen k
      generalize (asI (List.range k ++ List.replicate (n - k) 0))[k] = x0 at c1
      go_wp2
      go_roundg (n - (k + 1))
      case measure => omega
      case rel =>
        refine ⟨k + 1, by omega, rfl, by go_num, hid ⟨?_, HK.out.2.setCell (p := ⟨g, k, none⟩) (by rw [HGE.out]; exact Nat.le_refl _) _⟩⟩
        rw [← range_put hlt]
        exact HK.out.1.set hll (k : Nat)
    · have hkn : k = n := by omega
      subst hkn
      have hbi : BI wr g (asI (List.range k)) := by
        have := HK.out.1
        rwa [Nat.sub_self, List.replicate_zero, List.append_nil] at this
      have HBI := hid hbi
      clear hbi
      go_wp2_with (go_at_call 79; refine (HSO.out w1 wr HL1.out _ HGM.out HK.out.2 g (by rw [HGE.out]; exact Nat.le_refl _) HBI.out).mono ?_; rintro e w' ⟨rfl, hr1, hr2⟩; have HR := hid (And.intro hr1 hr2); clear hr1 hr2)
      go_ret
      refine ⟨HB1.out.step HR.out.1, g, k, ?_, by rw [HGE.out]; omega, HR.out.2⟩
      rw [asI_length, HOL.out]
      rfl
end Go.Proofs.Ytliajnflmddnoaa
