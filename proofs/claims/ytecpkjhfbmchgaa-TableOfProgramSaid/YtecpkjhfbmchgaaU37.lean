/- MatrixOf of package table. -/
import Derived.Test.YtecpkjhfbmchgaaU36
import Derived.Test.YtecpkjhfbmchgaaG22
namespace Go.Proofs.Ytecpkjhfbmchgaa
open Go.RowKit


def tablesOf (p : PrgN) : List (List Int) := p.shapes.map (·.table)
theorem tables_take {p : PrgN} {k : Nat} (hk : k < p.shapes.length) : (tablesOf p).take (k + 1) = (tablesOf p).take k ++ [p.shapes[k].table] := by
  unfold tablesOf
  rw [← List.map_take, take_last hk, List.map_append, ← List.map_take]
  rfl
theorem tables_length (p : PrgN) : (tablesOf p).length = p.shapes.length := by unfold tablesOf; simp
theorem OwnRet.row {l : List Int} {w w' : World} {v : Value} (h : OwnI w' w.heap.size v l) : ∃ a c, v = .slice a l.length c ∧ RowI w' a l := by
  by_cases hl : l = []
  · subst hl
    obtain ⟨a, c, rfl, _⟩ := h.rd
    exact ⟨a, c, rfl, .inl rfl⟩
  · obtain ⟨g, cap, rfl, _, hb⟩ := BI.of_own h hl
    exact ⟨_, cap, rfl, .inr ⟨g, rfl, hb⟩⟩
/-- What MatrixOf returns. -/
def MxV (p : PrgN) : List (List Int) := if (chkP p).1 = 0 then tablesOf p else []
set_option maxRecDepth 100000 in
set_option maxHeartbeats 4000000 in
theorem matrixOf_any (p : PrgN) (q : PlN) (w : World) (ho : PgOk w p q) (hlim : (chkP p).1 = 0 → ∀ s, s ∈ p.shapes → s.table.length ≤ 100000) : Calls Try.prog 5 #[vP p q] w (MatRet (MxV p) (chkP p).1 w) := by
  have HO := hid ho; clear ho
  have HLM0 := hid hlim; clear hlim
  obtain ⟨sa, sc, la, lc, ua, uc⟩ := q
  have hhl := HO.out.h1
  have HX1 := hid (heapn w (.cells #[.slice sa p.shapes.length sc, .slice la p.sels.length lc, .slice ua p.units.length uc, .int .i64 p.main, .int .i64 p.mk'] 26) _ rfl)
  have HB := hid (bnew w (.cells #[.slice sa p.shapes.length sc, .slice la p.sels.length lc, .slice ua p.units.length uc, .int .i64 p.main, .int .i64 p.mk'] 26))
  have HCK := hid (fun w1 (hb : Below w.heap.size w w1) => ckProg_any p ⟨sa, sc, la, lc, ua, uc⟩ w1 (HO.out.below hb))
  unfold CkRet at HCK
  obtain ⟨M, hM⟩ : ∃ M, M = MxV p := ⟨_, rfl⟩
  obtain ⟨E, hEE⟩ : ∃ E, E = (chkP p).1 := ⟨_, rfl⟩
  rw [← hM, ← hEE]
  unfold MxV at hM
  have HM := hid hM
  have HEE := hid hEE
  clear hM hEE
  go_enter Try.func5, Try.ntmps5
  go_upto_region 1 with fail
  generalize w.alloc (.cells #[.slice sa p.shapes.length sc, .slice la p.sels.length lc, .slice ua p.units.length uc, .int .i64 p.main, .int .i64 p.mk'] 26) = w0 at *
  obtain ⟨j0, j1, j2, j3, j4⟩ := box5' HX1.out
  by_cases hE : (chkP p).1 = 0
  · have HLM := hid (HLM0.out hE)
    have hM := HM.out
    rw [if_pos hE] at hM
    have hEE := HEE.out
    rw [hE] at HCK hEE
    subst hEE hM
    clear HM HEE
    generalize (chkP p).2.1 = x1 at *
    generalize (chkP p).2.2 = x2 at *
    go_upto_region 6 with (go_at_call 18; (with_reducible refine (HCK.out _ HB.out).mono ?_); rintro e w1 ⟨rfl, hb⟩; have hb2 := hb.step (bnew w1 (.cells #[.int .i64 x1, .int .i64 x2] 67)); replace HB := hid (HB.out.step hb2); replace HX1 := hid (keepBox hb2 HX1.out); clear j0 j1 j2 j3 j4; obtain ⟨j0, j1, j2, j3, j4⟩ := box5' HX1.out; clear hb hb2)
    have HBS := hid HB.out.size
    go_loopg [6, 20] p.shapes.length (fun gh s6 s20 wr => ∃ k : Nat, k ≤ p.shapes.length ∧ gh = p.shapes.length - k ∧ s20 = .int .i64 k ∧ Hid (∃ vs : List Value, vs.length = k ∧ wr.ownsRow w.heap.size 33 1 s6 vs.length vs ∧ (∀ i (h : i < ((tablesOf p).take k).length), ∃ ai ci, vs[i]? = some (.slice ai ((tablesOf p).take k)[i].length ci) ∧ RowI wr ai ((tablesOf p).take k)[i]) ∧ Below w.heap.size w wr))
    case atStart => exact ⟨0, Nat.zero_le _, rfl, rfl, hid ⟨[], rfl, World.ownsRow_nil _ _ _ _, fun i h => absurd h (by simp), HB.out⟩⟩
    case round =>
      obtain ⟨k, hk, rfl, rfl, HR⟩ := hrel
      obtain ⟨vs, hvl, hown, hvr, hb3⟩ := HR.out
      by_cases hlk : k < p.shapes.length
      · have nk : (k : Int) < (p.shapes.length : Int) := by omega
        obtain ⟨b, off, fa, fc, ta, tc, hsa, _, g0, g1, g2, g3, hrf, hrt, htc⟩ := (HO.out.pm.rh.below hb3) k hlk
        have hlm := HLM.out _ (List.getElem_mem hlk)
        have HTT := hid (tables_take hlk)
        have HRT := hid hrt
        have HVL := hid hvl
        have HVR := hid hvr
        have HOWN := hid hown
        have HB3 := hid hb3
        have HLM2 := hid hlm
        generalize p.shapes[k] = s at *
        dsimp only at hsa
        subst hsa
        have HX8 := hid (heapn wr (oH s fa fc ta tc) _ rfl)
        have HBO := hid (bnew wr (oH s fa fc ta tc))
        clear hrf hrt htc hvl hvr hown hb3 hlm
        go_upto_region 8 with fail
        obtain ⟨b8, hb8⟩ : ∃ b, b = wr.heap.size := ⟨_, rfl⟩
        rw [← hb8] at HX8 ⊢
        generalize wr.alloc (oH s fa fc ta tc) = wg at *
        obtain ⟨l0, l1, l2, l3⟩ := box4 HX8.out
        clear hb8 g0 g1 g2 g3
        have HCL := hid (clone62 s.table ta tc wg (HRT.out.below HBO.out) HLM2.out)
        have hvk := HVL.out
        go_wp2_with (first
          | (go_at_call 19; refine HCL.out.mono ?_; rintro e w5 ⟨hb5, v5, rfl, ho5⟩; obtain ⟨a5, c5, rfl, hr5⟩ := OwnRet.row ho5; have HB5 := hid (HBO.out.step hb5); have HR5 := hid hr5; clear hb5 ho5 hr5)
          | (at_builtin; refine wpList_append_val Try.underlying28 info23 _ rfl _ _ rfl w.heap.size _ vs rfl (own_below HOWN.out (HB5.out.step (bnew _ _))) ⟨w5.heap.size, 0, none⟩ 1 (.slice a5 s.table.length c5) rfl rfl (cell0_alloc _ _ _) (by omega) (Nat.le_trans HB3.out.size (Nat.le_trans HB5.out.size (bnew _ _).size)) ?_; intro v' wz hown2 hgr; have HO2 := hid hown2; have HG2 := hid hgr; clear hown2 hgr))
        go_roundg (p.shapes.length - (k + 1))
        case measure => omega
        case rel =>
          have hbz : Below w.heap.size w wz := Below.grown (HB3.out.step (HB5.out.step (bnew _ _))) HG2.out (Nat.le_trans HB3.out.size (Nat.le_trans HB5.out.size (bnew _ _).size)) (own_ge HOWN.out)
          have hlen : vs.length = ((tablesOf p).take k).length := by rw [List.length_take, tables_length, HVL.out]; omega
          have hp := OwnM.push (m := (tablesOf p).take k) (r := s.table) hlen (own_below HOWN.out (HB5.out.step (bnew w5 (.cells #[.slice a5 s.table.length c5] 33)))) (fun i hi => by
            obtain ⟨x1, x2, q1, q2⟩ := HVR.out i hi
            exact ⟨x1, x2, q1, q2.below (HB5.out.step (bnew _ _))⟩) (HR5.out.below (bnew _ _)) HO2.out HG2.out
          rw [← HTT.out] at hp
          obtain ⟨vs2, y1, y2, y3⟩ := hp
          refine ⟨k + 1, by omega, rfl, by go_num, hid ⟨vs2, ?_, y2, y3, hbz⟩⟩
          rw [y1, List.length_take, tables_length]
          omega
      · obtain rfl : k = p.shapes.length := by omega
        have hE9 : (tablesOf p).take p.shapes.length = tablesOf p := List.take_of_length_le (by rw [tables_length]; omega)
        have HOM : Hid (OwnM wr w.heap.size u6 (tablesOf p)) := hid ⟨vs, by rw [hvl, tables_length], hown, by rw [hE9] at hvr; exact hvr⟩
        have HB3 := hid hb3
        clear hown hvr hb3 hvl hE9
        go_wp2
        go_ret2
        obtain ⟨a9, c9, e9, hr9, _⟩ := HOM.out.rd
        exact ⟨HB3.out, a9, c9, by rw [← e9]; rfl, hr9⟩
  · have hM := HM.out
    rw [if_neg hE] at hM
    have hEE := HEE.out
    subst hEE hM
    clear HM HEE
    have en : ((chkP p).1 != 0) = true := by simpa using hE
    have ee : ((chkP p).1 == 0) = false := by simpa using hE
    generalize chkP p = r at *
    obtain ⟨e1, x1, x2⟩ := r
    simp only at hE en ee HCK ⊢
    clear hE
    go_wp2_with (go_at_call 18; (with_reducible refine (HCK.out _ HB.out).mono ?_); rintro e w1 ⟨rfl, hb⟩; replace HB := hid ((HB.out.step hb).step (bnew w1 (.cells #[.int .i64 x1, .int .i64 x2] 67))); clear hb)
    go_ret2
    refine ⟨HB.out, none, 0, rfl, ?_⟩
    intro i hi
    exact absurd hi (Nat.not_lt_zero _)
end Go.Proofs.Ytecpkjhfbmchgaa
