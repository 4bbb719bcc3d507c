/- Contracts of the reference's colours, Colour and CheckColour. -/
import Derived.Test.YtliajnflmddnoaaQ2
namespace Go.Proofs.Ytliajnflmddnoaa
open Go.RowKit

/-- Colour c is free for b, as far as the columns ahead of d tell. -/
def fU (m : List (List Int)) (b c d : Nat) : Bool := (List.range d).all fun a => !((colL m b).getD a 0 == c && clB m a b)
theorem fU_succ (m : List (List Int)) (b c d : Nat) : fU m b c (d + 1) = (fU m b c d && !((colL m b).getD d 0 == c && clB m d b)) := all_succ _ _
theorem fU_end (m : List (List Int)) (b c : Nat) : fU m b c b = freeC m (colL m b) b c := rfl

set_option maxRecDepth 100000 in
set_option maxHeartbeats 4000000 in
theorem rcolours_any (m : List (List Int)) (a : Option Addr) (cap : Nat) (w : World) (hm : RightM m) (hl : RdM w a m) :
    Calls Try.prog 52 #[.slice a m.length cap] w (fun e w' => Below w.heap.size w w' ∧ ∃ v, e = .returned (.tuple #[v, .int .i64 (manyC (colL m (colsN m)))]) ∧ OwnI w' w.heap.size v (asI (colL m (colsN m)))) := by
  obtain ⟨i0, hi, hz0, hz1, hz2⟩ := info_parts info3
  have HL := hid hl; clear hl
  have HM := hid hm; clear hm
  have hn := HM.out.cols
  have h0 := HM.out.some'
  obtain ⟨b0, o0, ha, hlt0, ai0, ci0, hc0⟩ := HL.out.head h0
  subst ha
  have HC0 := hid hc0
  have n0 : (0 : Int) < (m.length : Int) := by omega
  generalize hnn : colsN m = n at *
  have HNN := hid hnn
  clear hnn hc0
  go_enter Try.func52, Try.ntmps52
  go_wp2
  go_loopg [4, 5, 6] n (fun gh s4 s5 s6 wr => ∃ b : Nat, b ≤ n ∧ gh = n - b ∧ s6 = .int .i64 b ∧ s5 = .int .i64 (manyC (colL m b)) ∧ Hid (OwnI wr w.heap.size s4 (asI (colL m b)) ∧ Below w.heap.size w wr))
  case atStart => exact ⟨0, Nat.zero_le _, rfl, rfl, rfl, hid ⟨World.ownsRow_nil _ _ _ _, Below.refl _ _⟩⟩
  case round =>
    obtain ⟨b, hb, rfl, rfl, rfl, HB⟩ := hrel
    have hc0 := cell_later HB.out.2 HC0.out
    by_cases hlt : b < n
    · have hlt' : (b : Int) < (n : Int) := by omega
      obtain ⟨ao, co, rfl, hrd⟩ := HB.out.1.rd
      have HRD := hid hrd
      clear hrd
      obtain ⟨wo, rfl⟩ : ∃ wo : World, wo = wr := ⟨_, rfl⟩
      go_wp2
      go_loopg [7, 8] (b + 1) (fun gh s7 s8 wr => ∃ c : Nat, ∃ f : Bool, c ≤ b ∧ gh = (if f then 0 else b + 1 - c) ∧ s7 = .int .i64 c ∧ s8 = .bool f ∧ wr = wo ∧ Hid (∀ j, j < c → freeC m (colL m b) b j = false) ∧ Hid (f = true → freeC m (colL m b) b c = true))
      case atStart => exact ⟨0, false, Nat.zero_le _, rfl, rfl, rfl, rfl, hid (fun j hj => absurd hj (Nat.not_lt_zero _)), hid (fun h => by cases h)⟩
      case round =>
        obtain ⟨c, f, hc, rfl, rfl, rfl, rfl, HK, HF⟩ := hrel
        cases f with
        | false =>
          obtain ⟨wm, rfl⟩ : ∃ wm : World, wm = wr := ⟨_, rfl⟩
          go_wp2
          go_loopg [8, 9] b (fun gh s8 s9 wr => ∃ d : Nat, d ≤ b ∧ gh = b - d ∧ s9 = .int .i64 d ∧ s8 = .bool (fU m b c d) ∧ wr = wm)
          case atStart => exact ⟨0, Nat.zero_le _, rfl, rfl, rfl, rfl⟩
          case round =>
            obtain ⟨d, hd, rfl, rfl, rfl, rfl⟩ := hrel
            by_cases hdb : d < b
            · have hdb' : (d : Int) < (b : Int) := by omega
              have dl2 : (d : Int) < ((asI (colL m b)).length : Int) := by rw [asI_length, colL_length]; exact hdb'
              obtain ⟨bo, oo, hao, hlto, hco⟩ := HRD.out d (by rw [asI_length, colL_length]; omega)
              rw [asI_at] at hco
              subst hao
              have HS := hid (fU_succ m b c d)
              obtain ⟨y, hyy⟩ : ∃ y, y = (colL m b).getD d 0 := ⟨_, rfl⟩
              rw [← hyy] at hco HS
              clear hyy
              by_cases hyc : y = c
              · have e1 : ((y : Int) == (c : Int)) = true := by rw [beq_iff_eq, hyc]
                have HYC := hid hyc
                clear hyc
                have HCL := hid (clashM_clB m d b)
                have HCC := hid (fun w' (hw : RdM w' (some ⟨b0, o0, none⟩) m) => rclash_any m _ cap d b w' HM.out hw (by rw [HNN.out]; omega) (by rw [HNN.out]; omega))
                generalize clashM m d b = z at HCL HCC
                by_cases hz : 0 ≤ z
                · have HCB := hid (HCL.out.symm.trans (decide_eq_true hz))
                  have HN : Hid (fU m b c (d + 1) = false) := hid (by rw [HS.out, HYC.out, HCB.out]; simp)
                  go_wp2_with (go_at_call 78; (with_reducible refine (HCC.out _ (HL.out.below HB.out.2)).mono ?_); rintro e w3 ⟨rfl, rfl⟩)
                  go_roundg (b - (d + 1))
                  case measure => omega
                  case rel => exact ⟨d + 1, by omega, rfl, by go_num, by rw [HN.out], rfl⟩
                · have HCB := hid (HCL.out.symm.trans (decide_eq_false hz))
                  have HN : Hid (fU m b c (d + 1) = fU m b c d) := hid (by rw [HS.out, HCB.out]; simp)
                  go_wp2_with (go_at_call 78; (with_reducible refine (HCC.out _ (HL.out.below HB.out.2)).mono ?_); rintro e w3 ⟨rfl, rfl⟩)
                  go_roundg (b - (d + 1))
                  case measure => omega
                  case rel => exact ⟨d + 1, by omega, rfl, by go_num, by rw [HN.out], rfl⟩
              · have e1 : ((y : Int) == (c : Int)) = false := by rw [beq_eq_false_iff_ne]; omega
                have HN : Hid (fU m b c (d + 1) = fU m b c d) := hid (by rw [HS.out, show (y == c) = false from beq_eq_false_iff_ne.2 hyc]; simp)
                clear hyc
                go_wp2
                go_roundg (b - (d + 1))
                case measure => omega
                case rel => exact ⟨d + 1, by omega, rfl, by go_num, by rw [HN.out], rfl⟩
            · have hdb' : d = b := by omega
              subst hdb'
              clear hd hdb
              have HFE := hid (fU_end m d c)
              cases hf : fU m d c d with
              | true =>
                have HFF := hid hf
                clear hf
                go_wp2
                go_roundg 0
                case measure => first | omega | (simp; omega)
                case rel => exact ⟨c, true, hc, rfl, rfl, rfl, rfl, HK, hid (fun _ => HFE.out.symm.trans HFF.out)⟩
              | false =>
                have HFF := hid hf
                clear hf
                have hcd : c ≠ d := by
                  intro e
                  have h1 := HFE.out.symm.trans HFF.out
                  rw [e, freeC_self] at h1
                  cases h1
                go_wp2
                go_roundg (d + 1 - (c + 1))
                case measure => first | omega | (simp; omega)
                case rel =>
                  refine ⟨c + 1, false, by omega, by simp, by go_num, rfl, rfl, hid (fun j hj => ?_), hid (fun h => by cases h)⟩
                  by_cases e : j = c
                  · rw [e]; exact HFE.out.symm.trans HFF.out
                  · exact HK.out j (by omega)
        | true =>
          have HCOL := hid (colAt_is (HF.out rfl) HK.out)
          have hown : Hid (OwnI wr w.heap.size (.slice ao (asI (colL m b)).length co) (asI (colL m b))) := hid HB.out.1
          have hsz := HB.out.2.size
          have hwk : IntKind.i64.wrap ((c : Int) + 1) = ((c + 1 : Nat) : Int) := by rw [wrapk (by omega)]; omega
          go_wp2_with (at_builtin; refine wpList_append_ints _ rfl _ _ rfl w.heap.size _ _ [(c : Int)] rfl (OwnI.later hown.out (bnew _ _)) (some ⟨wr.heap.size, 0, none⟩) 1 rfl (rd_one _ _ _) (by rw [asI_length, colL_length]; simp; omega) (by simp; omega) ?_; intro v' w3 hown' hgrow hnil)
          all_goals
            have hmc : manyC (colL m (b + 1)) = max (manyC (colL m b)) (c + 1) := by
              show manyC (colL m b ++ [colAt m (colL m b) b]) = _
              rw [manyC_append, HCOL.out]
            go_roundg (n - (b + 1))
            case rel =>
              refine ⟨b + 1, by omega, rfl, by go_num, ?_, hid ⟨?_, ?_⟩⟩
              · rw [hmc]
                go_num
              · show OwnI _ _ _ (asI (colL m b ++ [colAt m (colL m b) b]))
                rw [HCOL.out]
                unfold asI
                rw [List.map_append]
                exact hown'
              · exact ((HB.out.2.alloc hsz _).grown hgrow (by simp; omega) (own_ge hown.out))
            case measure => omega
    · have hbn : b = n := by omega
      subst hbn
      go_wp2
      go_ret2
      exact ⟨HB.out.2, _, rfl, HB.out.1⟩

/-- What the reference's Colour returns: numbers, and two numbers, in a struct. -/
def ColRet (l : List Int) (x y : Int) (w : World) (e : Ending) (w' : World) : Prop := Below w.heap.size w w' ∧ ∃ a c, e = .returned (.agg #[.slice a l.length c, .int .i64 x, .int .i64 y]) ∧ RdI w' a l

set_option maxRecDepth 100000 in
set_option maxHeartbeats 2000000 in
theorem rColour_any (m : List (List Int)) (a : Option Addr) (cap : Nat) (w : World) (hl : RdM w a m) (hlen : m.length ≤ 1000000) (hrl : ∀ r, r ∈ m → r.length ≤ 1000000) :
    Calls Try.prog 42 #[.slice a m.length cap] w (ColRet (colV m) (colN m) (chkM m) w) := by
  have HL := hid hl; clear hl
  have HR := hid hrl; clear hrl
  have HB0 := hid (bnew w (.cells #[.slice none 0 0, .int .i64 0, .int .i64 0] 82))
  have HX0 := hid (heapn w (.cells #[.slice none 0 0, .int .i64 0, .int .i64 0] 82) _ rfl)
  by_cases hE : chkM m = 0
  · have HM := hid (chkM_ok hE)
    have HE := hid hE
    have HV : Hid (colV m = asI (colL m (colsN m)) ∧ colN m = (manyC (colL m (colsN m)) : Nat)) := hid ⟨if_pos hE, if_pos hE⟩
    clear hE
    rw [HV.out.1, HV.out.2, HE.out]
    go_enter Try.func42, Try.ntmps42
    go_wp2_with (first
      | (go_at_call 45; (with_reducible refine (rcheck_any m _ cap _ (HL.out.below HB0.out) hlen HR.out).mono ?_); rw [HE.out]; rintro e w1 ⟨rfl, hb⟩; have HB := hid (HB0.out.step hb); have HX1 := hid (keepBox hb HX0.out); clear hb)
      | (go_at_call 52; (with_reducible refine (rcolours_any m _ cap _ HM.out (HL.out.below HB.out)).mono ?_); rintro e w2 ⟨hb, v, rfl, hown⟩; obtain ⟨ac, cc, gc, rfl, _, _, hrd, _, hnew⟩ := ownI_wr hown; have HRD := hid hrd; have HNEW := hid hnew; have HB2 := hid (HB.out.step hb); have HX2 := hid (keepBox hb HX1.out); obtain ⟨r0, r1, r2, z0, z1, z2⟩ := box3 HX2.out; clear hb hown hrd hnew))
    refine bodyPost_ret (v := .agg #[.slice ac (asI (colL m (colsN m))).length cc, .int .i64 (manyC (colL m (colsN m)) : Nat), .int .i64 0]) (by simp [results, Try.results42, go_sem, r0, r1, r2]) rfl ⟨((HB2.out.setCell (Nat.le_refl _) _).setCell (Nat.le_refl _) _).setCell (Nat.le_refl _) _, ac, cc, rfl, ?_⟩
    have hbW : But w.heap.size w2 (((w2.setCell ⟨w.heap.size, 0, none⟩ (.slice ac (asI (colL m (colsN m))).length cc)).setCell ⟨w.heap.size, 1, none⟩ (.int .i64 (manyC (colL m (colsN m)) : Nat))).setCell ⟨w.heap.size, 2, none⟩ (.int .i64 0)) := (((But.refl _ _).set _ _).set _ _).set _ _
    refine HRD.out.but hbW fun b off e => ?_
    have h1 := HNEW.out b off e
    have h2 := lt_of_heap HX1.out
    omega
  · have hne : (chkM m != 0) = true := by rw [bne_iff_ne]; exact hE
    have HV : Hid (colV m = [] ∧ colN m = 0) := hid ⟨if_neg hE, if_neg hE⟩
    clear hE
    rw [HV.out.1, HV.out.2]
    go_enter Try.func42, Try.ntmps42
    go_wp2_with (go_at_call 45; (with_reducible refine (rcheck_any m _ cap _ (HL.out.below HB0.out) hlen HR.out).mono ?_); rintro e w1 ⟨rfl, hb⟩; have HB := hid (HB0.out.step hb); have HX1 := hid (keepBox hb HX0.out); obtain ⟨r0, r1, r2, z0, z1, z2⟩ := box3 HX1.out; clear hb)
    exact bodyPost_ret (v := .agg #[.slice none 0 0, .int .i64 0, .int .i64 (chkM m)]) (by simp [results, Try.results42, go_sem, r0, r1, r2]) rfl ⟨((HB.out.setCell (Nat.le_refl _) _).setCell (Nat.le_refl _) _).setCell (Nat.le_refl _) _, none, 0, rfl, fun i hi => absurd hi (Nat.not_lt_zero _)⟩
end Go.Proofs.Ytliajnflmddnoaa
