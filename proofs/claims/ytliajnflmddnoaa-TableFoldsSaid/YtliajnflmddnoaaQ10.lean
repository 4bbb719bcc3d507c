/- The contract of the reference's Back. -/
import Derived.Test.YtliajnflmddnoaaQ9
namespace Go.Proofs.Ytliajnflmddnoaa
open Go.RowKit

theorem BI.ne_type {w : World} {g g' : Nat} {L : List Int} {c : Array Value} {X : TypeId} (h' : BI w g' L) (h : w.heap[g]? = some (.cells c X (0, 0))) (hx : X ≠ 3) : g ≠ g' := by
  obtain ⟨c', h', _⟩ := h'
  intro e
  subst e
  rw [h] at h'
  injection h' with h'
  injection h' with e1 e2
  exact hx e2
theorem OwnM.but {M : Nat} {w w' : World} {base : Nat} {v : Value} {m : List (List Int)} (h : OwnM w base v m) (hb : But M w w') (hM : ∃ c X, w.heap[M]? = some (.cells c X (0, 0)) ∧ X ≠ 3 ∧ X ≠ 23) : OwnM w' base v m := by
  obtain ⟨c, X, hh, hx, hy⟩ := hM
  obtain ⟨vs, h1, h2, h3⟩ := h
  have ht := own_type h2
  refine ⟨vs, h1, own_later h2 fun b hbk hlt => hb.block b hlt fun e => ?_, fun i hi => ?_⟩
  · obtain ⟨cur, hc⟩ := ht b hbk
    subst e
    rw [hh] at hc
    injection hc with hc
    injection hc with e1 e2
    exact hy e2
  · obtain ⟨ai, ci, k1, k2⟩ := h3 i hi
    refine ⟨ai, ci, k1, ?_⟩
    rcases k2 with e | ⟨g, e, hg⟩
    · exact .inl e
    · refine .inr ⟨g, e, ?_⟩
      have hne := (hg.ne_type hh hx).symm
      exact hg.but hb hne
def bkU (L : Ld) (i k : Nat) : List Int := (List.range k).map (backE L i)
theorem bkU_length (L : Ld) (i k : Nat) : (bkU L i k).length = k := by unfold bkU; simp
theorem bkU_succ (L : Ld) (i k : Nat) : bkU L i (k + 1) = bkU L i k ++ [backE L i k] := by unfold bkU; rw [List.range_succ, List.map_append]; rfl
/-- What the reference returns: a matrix, and a number, in a struct. -/
def MatS (m : List (List Int)) (y : Int) (w : World) (e : Ending) (w' : World) : Prop := Below w.heap.size w w' ∧ ∃ a c, e = .returned (.agg #[.slice a m.length c, .int .i64 y]) ∧ RdM w' a m

set_option maxRecDepth 100000 in
set_option maxHeartbeats 8000000 in
theorem rBack_any (L : Ld) (hf : Fit L) (sa : Option Addr) (sc : Nat) (ca : Option Addr) (cc : Nat) (w : World) (hm : LdM w L sa sc ca cc) :
    Calls Try.prog 35 #[vL L sa sc ca cc] w (MatS (backV L) (chkL L) w) := by
  obtain ⟨i0, hi, hz0, hz1, hz2⟩ := info_parts info3
  have HM := hid hm; clear hm
  obtain ⟨hb0, hx0, hr0⟩ := two_new w #[.int .i64 L.cols, .slice sa L.starts.length sc, .slice ca L.cells.length cc] #[.slice none 0 0, .int .i64 0] 44 68
  have HC := hid (rcheckL_any L hf sa sc ca cc)
  have hfs := hf.s
  clear hf
  have HB0 := hid hb0
  have HX0 := hid hx0
  have HR0 := hid hr0
  obtain ⟨k0, k1, k2, _, _, _⟩ := box3 hx0
  clear hb0 hx0 hr0
  by_cases hE : chkL L = 0
  · have HV : Hid (backV L = backM L) := hid (by unfold backV; rw [if_pos hE])
    have HR := hid (chkL_ok hE)
    rw [hE] at HC ⊢
    rw [HV.out]
    clear hE
    have hn0 := HR.out.col0
    have hn1 := HR.out.col1
    obtain ⟨n, hn⟩ : ∃ n : Nat, n = L.cols.toNat := ⟨_, rfl⟩
    have hnc : L.cols = (n : Int) := by omega
    have HN := hid (And.intro hn hnc)
    have hn4 : n ≤ 400 := by omega
    clear hn hn0 hn1 hnc
    go_enter Try.func35, Try.ntmps35
    go_wp2_with (go_at_call 37; (with_reducible refine (HC.out _ (HM.out.below HB0.out)).mono ?_); rintro e w1 ⟨rfl, hb⟩; have HX1 := hid (keepBox hb HX0.out); have HR1 := hid (keepBox hb HR0.out); have HB1 := hid (HB0.out.step hb); clear hb; obtain ⟨k0, k1, k2, _, _, _⟩ := box3 HX1.out)
    clear k0 k1 k2
    obtain ⟨g1, hg1⟩ : ∃ g, g = w.heap.size := ⟨_, rfl⟩
    obtain ⟨g2, hg2⟩ : ∃ g, g = w.heap.size + 1 := ⟨_, rfl⟩
    rw [← hg1] at HX1
    rw [← hg2] at HR1
    rw [← hg1]
    try rw [hg1, ← hg2, ← hg1]
    have HG := hid (And.intro hg1 hg2)
    clear hg1 hg2
    go_loopg [4, 5] L.starts.length (fun gh s4 s5 wr => ∃ i : Nat, i ≤ L.starts.length ∧ gh = L.starts.length - i ∧ s5 = .int .i64 i ∧ Hid (OwnM wr w1.heap.size s4 (backP L i) ∧ Below w1.heap.size w1 wr))
    case atStart => exact ⟨0, Nat.zero_le _, rfl, rfl, hid ⟨OwnM.nil _ _, Below.refl _ _⟩⟩
    case round =>
      obtain ⟨i, hi, rfl, rfl, HK⟩ := hrel
      obtain ⟨k0, k1, k2, _, _, _⟩ := box3 (keepBox HK.out.2 HX1.out)
      by_cases hlt : i < L.starts.length
      · obtain ⟨wo, rfl⟩ : ∃ wo : World, wo = wr := ⟨_, rfl⟩
        have ni : (i : Int) < (L.starts.length : Int) := by omega
        rw [HN.out.2] at k0
        have HLK := hid (fun (k : Nat) (hk : k < n) (w : World) (h : LdM w L sa sc ca cc) => (by
          have := rlook_any L HR.out i k hlt (by rw [HN.out.2]; omega) sa sc ca cc w h
          unfold vL at this
          rw [HN.out.2] at this
          exact this : Calls Try.prog 75 #[.agg #[.int .i64 (n : Int), .slice sa L.starts.length sc, .slice ca L.cells.length cc], .int .i64 i, .int .i64 k] w (RetB (.int .i64 (backE L i k)) w)))
        go_wp2
        clear k0 k1 k2
        go_loopg [6, 7] n (fun gh s6 s7 wr => ∃ k : Nat, k ≤ n ∧ gh = n - k ∧ s7 = .int .i64 k ∧ Hid (OwnI wr wo.heap.size s6 (bkU L i k) ∧ Below wo.heap.size wo wr))
        case atStart => exact ⟨0, Nat.zero_le _, rfl, rfl, hid ⟨World.ownsRow_nil _ _ _ _, Below.refl _ _⟩⟩
        case round =>
          obtain ⟨k, hk, rfl, rfl, HX⟩ := hrel
          have hX1 := keepBox (HK.out.2.step HX.out.2) HX1.out
          rw [HN.out.2] at hX1
          obtain ⟨k0, k1, k2, _, _, _⟩ := box3 hX1
          clear hX1
          by_cases hlk : k < n
          · have nk : (k : Int) < (n : Int) := by omega
            have HLK2 := hid (HLK.out k hlk)
            have HSU := hid (bkU_succ L i k)
            have hbl := bkU_length L i k
            have HBL := hid hbl
            generalize backE L i k = x at *
            clear hbl
            go_wp2_with (first
              | (go_at_call 75; (with_reducible refine (HLK2.out _ (HM.out.below (HB1.out.step (HK.out.2.step HX.out.2)))).mono ?_); rintro e w5 ⟨rfl, hb⟩; have HB5 := hid hb; have hsz5 := (HX.out.2.step hb).size; clear hb)
              | (at_builtin; refine wpList_append_ints _ rfl _ _ rfl wo.heap.size _ _ [x] rfl ((OwnI.later HX.out.1 HB5.out).later (bnew _ _)) (some ⟨w5.heap.size, 0, none⟩) 1 rfl (rd_one _ _ _) (by rw [HBL.out]; simp; omega) (by simp; omega) ?_; intro v' w3 hown' hgrow hnil; have HO := hid hown'; have HG3 := hid hgrow; clear hown' hgrow hnil))
            go_roundg (n - (k + 1))
            case measure => omega
            case rel =>
              refine ⟨k + 1, by omega, rfl, by go_num, hid ⟨by rw [HSU.out]; exact HO.out, ?_⟩⟩
              exact (((HX.out.2.step HB5.out).alloc hsz5 _).grown HG3.out (by simp; omega) (own_ge HX.out.1))
          · have hkn : k = n := by omega
            subst hkn
            obtain ⟨vs, hvl, hown, hvr⟩ := HK.out.1.later HX.out.2
            have HOWN := hid hown
            have HVL := hid hvl
            have HVR := hid hvr
            have hvs : vs.length ≤ 1000 := by
              have : (backP L i).length = i := by unfold backP; simp
              omega
            obtain ⟨ar, cr, gR, rfl, _, _, _, hbi, _⟩ := ownI_wr HX.out.1
            have hrow : bkU L i k = backRow L i := by unfold bkU backRow; rw [HN.out.1]
            rw [hrow] at hbi
            have hrl : (bkU L i k).length = (backRow L i).length := by rw [hrow]
            have HRLL := hid hrl
            have HRW : Hid (RowI (wr.alloc (.cells #[.slice ar (bkU L i k).length cr] 23)) ar (backRow L i)) := by
              by_cases e : backRow L i = []
              · exact hid (.inl e)
              · exact hid (.inr ⟨gR, (hbi e).1, (hbi e).2.below (bnew _ _)⟩)
            have hsz := HX.out.2.size
            have hsw := HK.out.2.size
            have HVR2 := hid (fun j hj => by
              obtain ⟨a1, c1, q1, q2⟩ := HVR.out j hj
              exact (⟨a1, c1, q1, q2.below (bnew wr (.cells #[.slice ar (bkU L i k).length cr] 23))⟩ : ∃ ai ci, vs[j]? = some (.slice ai (backP L i)[j].length ci) ∧ RowI (wr.alloc (.cells #[.slice ar (bkU L i k).length cr] 23)) ai (backP L i)[j]))
            clear hown hvl hvr hrow hrl hbi
            go_wp2_with (at_builtin; refine wpList_append_val Try.underlying22 info23 _ rfl _ _ rfl w1.heap.size _ vs rfl (own_below HOWN.out (bnew _ _)) ⟨wr.heap.size, 0, none⟩ 1 (.slice ar (bkU L i k).length cr) rfl rfl (cell0_alloc _ _ _) (by omega) (by simp; omega) ?_; intro v' w6 hown hgr; have HO := hid hown; have HBB := hid hgr; clear hown hgr)
            go_roundg (L.starts.length - (i + 1))
            case measure => omega
            case rel =>
              have hb6 : Below w1.heap.size w1 w6 := by
                have h1 := (HK.out.2.step HX.out.2).step (bnew wr (.cells #[.slice ar (bkU L i k).length cr] 23))
                exact h1.grown HBB.out h1.size (own_ge HOWN.out)
              refine ⟨i + 1, by omega, rfl, by go_num, hid ⟨?_, hb6⟩⟩
              rw [backP_succ]
              have hq := HO.out
              rw [HRLL.out] at hq
              exact OwnM.push (v := _) HVL.out (own_below HOWN.out (bnew _ _)) HVR2.out HRW.out hq HBB.out
      · have hil : i = L.starts.length := by omega
        subst hil
        obtain ⟨aM, cM, rfl, hrd, _⟩ := HK.out.1.rd
        have HR2 := hid (keepBox HK.out.2 HR1.out)
        obtain ⟨r0, r1, z0, z1⟩ := box2 HR2.out
        have hbl : (backP L L.starts.length).length = L.starts.length := by unfold backP; simp
        clear hrd
        have HBL := hid hbl
        clear hbl
        go_wp2
        refine bodyPost_ret (v := .agg #[.slice aM (backP L L.starts.length).length cM, .int .i64 0]) (by simp [results, Try.results35, go_sem, r0, r1]) rfl ?_
        have hbW : But g2 wr ((wr.setCell ⟨g2, 0, none⟩ (.slice aM (backP L L.starts.length).length cM)).setCell ⟨g2, 1, none⟩ (.int .i64 0)) := ((But.refl _ _).set _ _).set _ _
        have hg := HG.out.2
        refine ⟨((HB1.out.step HK.out.2).setCell (p := ⟨g2, _, none⟩) (by show w.heap.size ≤ g2; omega) _).setCell (p := ⟨g2, _, none⟩) (by show w.heap.size ≤ g2; omega) _, aM, cM, by rw [backP_end], ?_⟩
        obtain ⟨a9, c9, e9, hrd9, _⟩ := (HK.out.1.but hbW ⟨_, _, HR2.out, by decide, by decide⟩).rd
        rw [backP_end] at e9 hrd9
        injection e9 with e1 e2 e3
        subst e1
        exact hrd9
  · have HV : Hid (backV L = []) := hid (by unfold backV; rw [if_neg hE])
    have hne : (chkL L != 0) = true := by rw [bne_iff_ne]; exact hE
    clear hE
    rw [HV.out]
    go_enter Try.func35, Try.ntmps35
    go_wp2_with (go_at_call 37; (with_reducible refine (HC.out _ (HM.out.below HB0.out)).mono ?_); rintro e w1 ⟨rfl, hb⟩; have HB := hid (HB0.out.step hb); obtain ⟨r0, r1, z0, z1⟩ := box2 (keepBox hb HR0.out); clear hb)
    exact bodyPost_ret (v := .agg #[.slice none 0 0, .int .i64 (chkL L)]) (by simp [results, Try.results35, go_sem, r0, r1]) rfl ⟨(HB.out.setCell (by simp) _).setCell (by simp) _, none, 0, rfl, fun i hi => absurd hi (Nat.not_lt_zero _)⟩
end Go.Proofs.Ytliajnflmddnoaa
