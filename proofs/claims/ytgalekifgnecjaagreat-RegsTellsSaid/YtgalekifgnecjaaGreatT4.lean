/- colour of package regs. Colours of package regs. -/
import Derived.Test.YtgalekifgnecjaaGreatS3
import Derived.Test.YtgalekifgnecjaaGreatS6
namespace Go.Proofs.YtgalekifgnecjaaGreat
open Go.RowKit

attribute [local go_sem] Oper.semAt_some
set_option maxRecDepth 100000 in
set_option maxHeartbeats 4000000 in
theorem colour_any (cl L : List (Int × Int)) (s : Int) (bc bh : Nat) (w : World) (hc : PairAt w bc cl) (hh : MapAt mkInts w bh L) (hs : 0 ≤ s ∧ s ≤ 1000000) (hL : ∀ x ∈ L, 0 ≤ x.1 ∧ x.1 ≤ 1000000) (hl : L.length ≤ 1000000) :
    Calls Tryz.prog 66 #[.map (some bc), .map (some bh), .int .i64 s] w (RetB (.int .i64 (colN cl L s)) w) := by
  have HC := hid hc
  have HH := hid hh
  have HL := hid hL
  have hbc := hc.lt
  clear hc hh hL
  go_enter Tryz.func66, Tryz.ntmps66
  go_wp2
  go_step3
  go_wp2
  go_step3
  go_wp2
  go_loopg [7] (L.length + 1) (fun gh s7 wr => ∃ n : Nat, gh = L.length + 1 - n ∧ s7 = .int .i64 n ∧ Hid (∀ m, m < n → colBad cl L s m = true) ∧ Hid (Below w.heap.size w wr))
  case atStart => exact ⟨0, rfl, rfl, hid (fun m h => absurd h (Nat.not_lt_zero _)), hid (Below.refl _ _)⟩
  case round =>
    obtain ⟨n, rfl, rfl, HN, HB⟩ := hrel
    have hnl := bad_len HN.out
    have HH1 := hid (HH.out.below HB.out)
    go_upto_region 3 with (first
      | (at_range; refine wpList_map_range mkInts _ Tryz.underlying120 rfl _ rfl bh L rfl HH1.out ?_; intro w1 hr1 hg1 hsz1; have HR1 := hid hr1; have HG1 := hid hg1; clear hr1 hg1))
    have HB1 : Hid (Below w.heap.size w w1) := hid (HB.out.grown HG1.out HB.out.size (fun r e => by cases e))
    obtain ⟨br, hbr⟩ : ∃ b, b = wr.heap.size := ⟨_, rfl⟩
    rw [← hbr] at HR1
    rw [← hbr]
    have HBR : Hid (w.heap.size ≤ br) := hid (by rw [hbr]; exact HB.out.size)
    clear hbr hsz1 HG1
    go_frame
    go_loopg [7] L.length (fun gh s7 wr => ∃ R : List (Int × Int), R.length ≤ gh ∧ s7 = .int .i64 n ∧ Hid (RngAt mkInts wr br bh L R) ∧ Hid (∀ x ∈ L, x ∉ R → ¬ (x.2 = (n : Int) ∧ clB cl s x.1 = true)) ∧ Hid (Below w.heap.size w wr))
    case atStart => exact ⟨L, Nat.le_refl _, rfl, HR1, hid (fun x h1 h2 => absurd h1 h2), HB1⟩
    case round =>
      obtain ⟨R, hR, rfl, HRG, HQ, HB2⟩ := hrel
      go_upto_region 4 with (first
        | (at_next; refine wpList_map_next mkInts _ rfl _ rfl br bh L R rfl HRG.out ?_ ?_))
      · intro hR0
        have HE : Hid ((n : Nat) = colN cl L s) := hid (colN_eq HN.out (by
          cases hcb : colBad cl L s n with
          | false => rfl
          | true =>
            obtain ⟨x, hx, h1, h2⟩ := colBad_iff.1 hcb
            exact absurd ⟨h1, h2⟩ (HQ.out x hx (by rw [hR0]; simp))))
        clear hR0
        go_wp2
        try rw [Exit.noGoto_ret]
        go_ret
        exact ⟨by rw [← HE.out]; rfl, HB2.out⟩
      · intro x v w2 hxR hrg2 hg2 hsz2 hen
        have hxL := HRG.out.sub _ hxR
        have hx0 := HL.out _ hxL
        have HXR := hid hxR
        have hrb : br ≠ bh := fun e => by obtain ⟨_, _, _, hr, _⟩ := HRG.out; exact hr.ne e
        have HB3 : Hid (Below w.heap.size w w2) := hid (HB2.out.grown hg2 HB2.out.size (fun r e => by cases e; exact HBR.out))
        have HC3 : Hid (PairAt w2 bc cl) := hid (HC.out.below HB3.out)
        have HR3 := hid hrg2
        have hflt : (R.filter fun p => !decide (p.1 = x)).length < R.length := by
          have h1 := List.length_filter_lt_length_iff_exists (p := fun p : Int × Int => !decide (p.1 = x)) (l := R)
          exact h1.2 ⟨(x, v), hxR, by simp⟩
        have HAP := hid (HRG.out.apart)
        have hen2 : (Instr.entry (.pointer (some ⟨br, 0, none⟩))).run Tryz.prog w2 = .ok (.tuple #[.int .i64 x, .int .i64 v]) w2 := hen
        clear hen hg2 hsz2 hrg2 hxR hxL
        have HCL := hid (clash_any s x bc cl w2 HC3.out hs (by exact hx0))
        have HST : Hid (¬ (v = (n : Int) ∧ clB cl s x = true) → ∀ y ∈ L, y ∉ (R.filter fun p => !decide (p.1 = x)) → ¬ (y.2 = (n : Int) ∧ clB cl s y.1 = true)) := hid (fun hno y hy hyn => by
          by_cases hyR : y ∈ R
          · by_cases e : y.1 = x
            · have : y = (x, v) := by
                have h1 := getM_of_mem HAP.out (show (y.1, y.2) ∈ R from hyR)
                have h2 := getM_of_mem HAP.out HXR.out
                rw [e] at h1
                rw [h1] at h2
                injection h2 with h2
                exact Prod.ext e h2
              rw [this]
              exact hno
            · exact absurd (List.mem_filter.2 ⟨hyR, by simp [e]⟩) hyn
          · exact HQ.out y hy hyR)
        clear HAP
        by_cases hv : v = (n : Int)
        · have d : (v == (n : Int)) = true := by simpa using hv
          cases hcb : clB cl s x with
          | true =>
            have HBD : Hid (colBad cl L s n = true) := hid (colBad_iff.2 ⟨(x, v), HRG.out.sub _ HXR.out, hv, hcb⟩)
            rw [hcb] at HCL
            clear hcb hv HST
            have hnl2 := bad_len (cl := cl) (had := L) (s := s) (n := n + 1) (fun m hm => by
              by_cases e : m = n
              · rw [e]; exact HBD.out
              · exact HN.out m (by omega))
            have hnw : (n : Int) + 1 ≤ 1000001 := by omega
            go_wp2_with (first
              | (go_at_call 137; (with_reducible refine HCL.out.mono ?_); rintro e w4 ⟨rfl, rfl⟩))
            go_roundg (L.length + 1 - (n + 1))
            case measure => omega
            case rel => exact ⟨n + 1, rfl, by go_num, hid (fun m hm => by
              by_cases e : m = n
              · rw [e]; exact HBD.out
              · exact HN.out m (by omega)), HB3⟩
          | false =>
            rw [hcb] at HCL
            have HS2 := hid (HST.out (fun h => by rw [hcb] at h; cases h.2))
            clear hcb hv HST
            go_wp2_with (first
              | (go_at_call 137; (with_reducible refine HCL.out.mono ?_); rintro e w4 ⟨rfl, rfl⟩))
            go_roundg ((R.filter fun p => !decide (p.1 = x)).length)
            case measure => omega
            case rel => exact ⟨_, Nat.le_refl _, rfl, HR3, HS2, HB3⟩
        · have d : (v == (n : Int)) = false := by simpa using hv
          have HS2 := hid (HST.out (fun h => hv h.1))
          clear hv HST
          go_wp2_with (first
            | (go_at_call 137; (with_reducible refine HCL.out.mono ?_); rintro e w4 ⟨rfl, rfl⟩))
          go_roundg ((R.filter fun p => !decide (p.1 = x)).length)
          case measure => omega
          case rel => exact ⟨_, Nat.le_refl _, rfl, HR3, HS2, HB3⟩

open Go.RowKit Go.Shelf
def colsI (cl : List (Int × Int)) (n : Nat) : List Int := (colsTo cl n).map (·.2)
theorem colsI_succ (cl : List (Int × Int)) (n : Nat) : colsI cl (n + 1) = colsI cl n ++ [(colN cl (colsTo cl n) n : Int)] := by
  unfold colsI
  rw [show colsTo cl (n + 1) = colsTo cl n ++ [((n : Int), (colN cl (colsTo cl n) n : Int))] from rfl, List.map_append]
  rfl
theorem colsI_length (cl : List (Int × Int)) (n : Nat) : (colsI cl n).length = n := by unfold colsI; rw [List.length_map, colsTo_length]
theorem cols_perm (cl : List (Int × Int)) (n : Nat) : (putM (n : Int) (colN cl (colsTo cl n) n : Int) (colsTo cl n)).Perm (colsTo cl (n + 1)) := by
  unfold putM
  have e : ((colsTo cl n).filter fun p => !decide (p.1 = (n : Int))) = colsTo cl n := List.filter_eq_self.2 fun x hx => by
    obtain ⟨i, hi, rfl⟩ := colsTo_mem.1 hx
    simp only [Bool.not_eq_true', decide_eq_false_iff_not]
    omega
  rw [e, show colsTo cl (n + 1) = colsTo cl n ++ [((n : Int), (colN cl (colsTo cl n) n : Int))] from rfl]
  exact (List.perm_append_comm (l₁ := [((n : Int), (colN cl (colsTo cl n) n : Int))]) (l₂ := colsTo cl n))
theorem wf_small {x : Int} (h : 0 ≤ x ∧ x ≤ 1000000) : mkInts.ok x ∧ mkInts.okE x := ⟨wf64 h, wf64 h⟩
theorem manyL_nn (l : List (Int × Int)) : 0 ≤ manyL l := (manyL_ge (l := l) (m := 0)).1
theorem manyL_cols (cl : List (Int × Int)) : ∀ n : Nat, manyL (colsTo cl n) ≤ n
  | 0 => by simp [manyL, colsTo]
  | n + 1 => by
    rw [show colsTo cl (n + 1) = colsTo cl n ++ [((n : Int), (colN cl (colsTo cl n) n : Int))] from rfl, manyL_snoc]
    have h1 := manyL_cols cl n
    have h2 := colAt_le cl n
    unfold colAt at h2
    simp only
    omega
set_option maxRecDepth 100000 in
set_option maxHeartbeats 8000000 in
theorem colours_yes (u : UntN) (ca : Option Addr) (cc : Nat) (ga : Option Addr) (gc : Nat) (w : World) (hm : UnM w u ca cc ga gc) (hlc : u.code.length ≤ 1000000) (hlg : u.guards.length ≤ 1000000) (hw : writB u = true) :
    Calls Tryz.prog 20 #[vU u ca cc ga gc] w fun e w' => Below w.heap.size w w' ∧ ∃ v, e = .returned (.tuple #[v, .int .i64 (manyL (colsTo (clashL u) u.slots.toNat)), .int .i64 0]) ∧ OwnI w' w.heap.size v (colsI (clashL u) u.slots.toNat) := by
  have hargs := writ_args hw
  have HM := hid hm; clear hm
  have HW := hid (fun w' (hb : Below w.heap.size w w') => writable_any u ca cc ga gc w' (HM.out.below hb) hlc hlg)
  rw [hw] at HW
  have HCL := hid (fun w' (hb : Below w.heap.size w w') => clashes_any u ca cc ga gc w' (HM.out.below hb) hw)
  obtain ⟨cl, hcl⟩ : ∃ cl, cl = clashL u := ⟨_, rfl⟩
  rw [← hcl] at HCL
  rw [← hcl]
  clear hcl
  obtain ⟨n, hn⟩ : ∃ n : Nat, u.slots = (n : Int) := ⟨u.slots.toNat, by omega⟩
  have HN := hid hn
  have hn2 : n ≤ 200 := by omega
  rw [show u.slots.toNat = n by omega]
  clear hn
  have hmm := @run_makeMap Tryz.prog
  have HX1 := hid (heapn w (oU u ca cc ga gc) _ rfl)
  have HB := hid (bnew w (oU u ca cc ga gc))
  obtain ⟨w1, hw1⟩ : ∃ w1, w1 = w.alloc (oU u ca cc ga gc) := ⟨_, rfl⟩
  rw [← hw1] at HX1 HB
  obtain ⟨k0, k1, k2, k3, k4, k5, k6⟩ := box7 HX1.out
  go_enter Tryz.func20, Tryz.ntmps20
  go_upto_region 1 with fail
  rw [← hw1]
  clear hw1
  go_upto_region 4 with (first
    | (go_at_call 42; (with_reducible refine (HW.out _ HB.out).mono ?_); rintro e w2 ⟨rfl, hb⟩; obtain ⟨j0, j1, j2, j3, j4, j5, j6⟩ := box7 (keepBox hb HX1.out); have HX2 := hid (keepBox hb HX1.out); have HB2 := hid (HB.out.step hb); clear hb)
    | (go_at_call 63; (with_reducible refine (HCL.out _ HB2.out).mono ?_); rintro e w3 ⟨hb, bc, rfl, hpa, hbc⟩; have HX3 := hid (keepBox hb HX2.out); have HB3 := hid (HB2.out.step hb); have HC3 := hid hpa; clear hb hpa hbc))
  clear k0 k1 k2 k3 k4 k5 k6 j0 j1 j2 j3 j4 j5 j6
  obtain ⟨bh, hbh⟩ : ∃ b, b = w3.heap.size := ⟨_, rfl⟩
  obtain ⟨wa, hwa⟩ : ∃ wa, wa = w3.alloc (.map #[] 0) := ⟨_, rfl⟩
  have HXA : Hid (wa.heap[w.heap.size]? = some (oU u ca cc ga gc)) := hid (by rw [hwa]; exact keepBox (bnew _ _) HX3.out)
  have HBA : Hid (Below w.heap.size w wa) := hid (by rw [hwa]; exact HB3.out.step (bnew _ _))
  have HCA : Hid (PairAt wa bc cl) := hid (by rw [hwa]; exact HC3.out.below (bnew _ _))
  have HHA : Hid (MapAt mkInts wa bh []) := hid (by rw [hwa, hbh]; exact mapAt_made mkInts w3)
  have HSA : Hid (wa.heap.size = bh + 1 ∧ bc < bh ∧ w.heap.size ≤ bh) := hid (by rw [hwa, hbh]; exact ⟨by simp, HC3.out.lt, HB3.out.size⟩)
  go_upto_region 5 with fail
  rw [← hbh, ← hwa]
  clear hwa hbh HX3 HB3 HC3 HX2 HB2 HX1 HB HW HCL hmm
  obtain ⟨k0, k1, k2, k3, k4, k5, k6⟩ := box7 HXA.out
  rw [HN.out] at k3
  go_upto_region 8 with fail
  clear k0 k1 k2 k3 k4 k5 k6
  go_loopg [7, 8, 19] n (fun gh s7 s8 s19 wr => ∃ k : Nat, k ≤ n ∧ gh = n - k ∧ s19 = .int .i64 k ∧ s8 = .int .i64 (manyL (colsTo cl k)) ∧ Hid (OwnI wr wa.heap.size s7 (colsI cl k)) ∧ Hid (Below w.heap.size w wr ∧ wa.heap.size ≤ wr.heap.size) ∧ Hid (PairAt wr bc cl) ∧ Hid (MapAt mkInts wr bh (colsTo cl k)))
  case atStart => exact ⟨0, Nat.zero_le _, rfl, rfl, rfl, hid (World.ownsRow_nil _ _ _ _), hid ⟨HBA.out, Nat.le_refl _⟩, HCA, HHA⟩
  case round =>
    obtain ⟨k, hk, rfl, rfl, rfl, HO, HB, HC, HH⟩ := hrel
    by_cases hkn : k < n
    · have nk : (k : Int) < (n : Int) := by omega
      have HCO := hid (colour_any cl (colsTo cl k) k bc bh wr HC.out HH.out (by omega) (fun x hx => by obtain ⟨i, hi, rfl⟩ := colsTo_mem.1 hx; simp only; omega) (by rw [colsTo_length]; omega))
      have HPE := hid (cols_perm cl k)
      have HMS := hid (manyL_snoc (colsTo cl k) ((k : Int), (colN cl (colsTo cl k) k : Int)))
      have HCS := hid (colsI_succ cl k)
      have hck := colAt_le cl k
      unfold colAt at hck
      have HML : Hid (colsTo cl (k + 1) = colsTo cl k ++ [((k : Int), (colN cl (colsTo cl k) k : Int))]) := hid rfl
      rw [← HML.out] at HMS
      have HCLn := hid (colsI_length cl k)
      have hmn := manyL_cols cl k
      have hmn0 := manyL_nn (colsTo cl k)
      generalize colN cl (colsTo cl k) k = c at *
      generalize hmm : manyL (colsTo cl k) = m at *
      clear hmm
      have hlk : (colsTo cl k).length ≤ 1000000000 := by rw [colsTo_length]; omega
      have hok := wf_small (x := (k : Int)) (by omega)
      have hoc := wf_small (x := (c : Int)) (by omega)
      go_upto_region 12 with (first
        | (go_at_call 66; (with_reducible refine HCO.out.mono ?_); rintro e w4 ⟨rfl, hb⟩; have HB4 := hid hb; have HH4 := hid (HH.out.below hb); clear hb)
        | (at_mapUpdate; refine wpList_map_put mkInts _ Tryz.underlying120 rfl _ _ _ rfl bh _ (k : Int) (c : Int) rfl HH4.out hlk rfl rfl hok.1 hoc.2 ?_; intro w5 hm5 hg5; have HM5 := hid hm5; have HG5 := hid hg5; clear hm5 hg5))
      have HO5 : Hid (OwnI w5 wa.heap.size u7 (colsI cl k)) := hid ((OwnI.later HO.out HB4.out).kept HG5.out (fun b hb e => by cases e; have h1 := own_ge HO.out _ hb; have h2 := HSA.out.1; omega))
      have HB5 : Hid (Below w.heap.size w w5 ∧ wa.heap.size ≤ w5.heap.size) := hid ⟨(HB.out.1.step HB4.out).grown HG5.out (HB.out.1.step HB4.out).size (fun r e => by cases e; have := HSA.out; omega), Nat.le_trans HB.out.2 (Nat.le_trans HB4.out.size HG5.out.size)⟩
      have HC5 : Hid (PairAt w5 bc cl) := hid ((HC.out.below HB4.out).kept HG5.out (fun e => by cases e; have := HSA.out; omega))
      have HM6 : Hid (MapAt mkInts w5 bh (colsTo cl (k + 1))) := hid (HM5.out.perm HPE.out)
      clear HM5 HG5 HH4 HB4 HCO HO HB HC HH
      have HOB := hid (own_ge HO5.out)
      by_cases hlt : m < (c : Int) + 1
      · have HMS2 : Hid (manyL (colsTo cl (k + 1)) = (c : Int) + 1) := hid (by rw [HMS.out]; first | omega | (simp only; omega))
        have n5 : (c : Int) + 1 ≤ 1000000 := by omega
        clear HMS
        go_wp2_with (first
          | (at_builtin; refine wpList_append_ints _ rfl _ _ rfl wa.heap.size _ _ [(c : Int)] rfl (OwnI.later HO5.out (bnew _ _)) (some ⟨_, 0, none⟩) 1 rfl (rd_one _ _ _) (by have := HCLn.out; simp; omega) (by have := HB5.out.2; simp; omega) ?_; intro v' w6 hown' hgrow hnil; have HOW := hid hown'; have HGR := hid hgrow; clear hown' hgrow hnil))
        go_roundg (n - (k + 1))
        case measure => omega
        case rel =>
          refine ⟨k + 1, by omega, rfl, by go_num, by rw [HMS2.out]; go_num, hid (by rw [HCS.out]; exact HOW.out), hid ⟨(HB5.out.1.step (bnew _ _)).grown HGR.out (by have := HB5.out.1.size; simp; omega) (fun r e => by have := HOB.out r e; have := HSA.out; omega), Nat.le_trans HB5.out.2 (Nat.le_trans (by simp) HGR.out.size)⟩, hid ((HC5.out.below (bnew _ _)).kept HGR.out (fun e => by have := HOB.out _ e.symm; have := HSA.out; omega)), hid ((HM6.out.below (bnew _ _)).kept HGR.out (fun e => by have := HOB.out _ e.symm; have := HSA.out; omega))⟩
      · have HMS2 : Hid (manyL (colsTo cl (k + 1)) = m) := hid (by rw [HMS.out]; first | omega | (simp only; omega))
        have n5 : (c : Int) + 1 ≤ 1000000 := by omega
        clear HMS
        go_wp2_with (first
          | (at_builtin; refine wpList_append_ints _ rfl _ _ rfl wa.heap.size _ _ [(c : Int)] rfl (OwnI.later HO5.out (bnew _ _)) (some ⟨_, 0, none⟩) 1 rfl (rd_one _ _ _) (by have := HCLn.out; simp; omega) (by have := HB5.out.2; simp; omega) ?_; intro v' w6 hown' hgrow hnil; have HOW := hid hown'; have HGR := hid hgrow; clear hown' hgrow hnil))
        go_roundg (n - (k + 1))
        case measure => omega
        case rel =>
          refine ⟨k + 1, by omega, rfl, by go_num, by rw [HMS2.out, show max m ((c : Int) + 1) = m by omega], hid (by rw [HCS.out]; exact HOW.out), hid ⟨(HB5.out.1.step (bnew _ _)).grown HGR.out (by have := HB5.out.1.size; simp; omega) (fun r e => by have := HOB.out r e; have := HSA.out; omega), Nat.le_trans HB5.out.2 (Nat.le_trans (by simp) HGR.out.size)⟩, hid ((HC5.out.below (bnew _ _)).kept HGR.out (fun e => by have := HOB.out _ e.symm; have := HSA.out; omega)), hid ((HM6.out.below (bnew _ _)).kept HGR.out (fun e => by have := HOB.out _ e.symm; have := HSA.out; omega))⟩
    · obtain rfl : k = n := by omega
      have nk : ¬ (k : Int) < (k : Int) := by omega
      go_wp2
      all_goals exact bodyPost_ret (v := .tuple #[u7, .int .i64 (manyL (colsTo cl k)), .int .i64 0]) (by simp [results, Tryz.results20, go_sem]) rfl ⟨HB.out.1, u7, rfl, OwnI.mono HO.out (show w.heap.size ≤ wa.heap.size by have := HSA.out; omega)⟩
set_option maxRecDepth 100000 in
set_option maxHeartbeats 4000000 in
theorem colours_no (u : UntN) (ca : Option Addr) (cc : Nat) (ga : Option Addr) (gc : Nat) (w : World) (hm : UnM w u ca cc ga gc) (hlc : u.code.length ≤ 1000000) (hlg : u.guards.length ≤ 1000000) (hw : writB u = false) :
    Calls Tryz.prog 20 #[vU u ca cc ga gc] w (RetB (.tuple #[.slice none 0 0, .int .i64 0, .int .i64 1]) w) := by
  have HW := hid (fun w' hb => writable_any u ca cc ga gc w' (hm.below hb) hlc hlg)
  rw [hw] at HW
  have HX1 := hid (heapn w (oU u ca cc ga gc) _ rfl)
  have HB := hid (bnew w (oU u ca cc ga gc))
  obtain ⟨w1, hw1⟩ : ∃ w1, w1 = w.alloc (oU u ca cc ga gc) := ⟨_, rfl⟩
  rw [← hw1] at HX1 HB
  obtain ⟨k0, k1, k2, k3, k4, k5, k6⟩ := box7 HX1.out
  go_enter Tryz.func20, Tryz.ntmps20
  go_upto_region 1 with fail
  rw [← hw1]
  clear hw1
  go_wp2_with (first
    | (go_at_call 42; (with_reducible refine (HW.out _ HB.out).mono ?_); rintro e w2 ⟨rfl, hb⟩; have HB2 := hid (HB.out.step hb); clear hb))
  all_goals exact bodyPost_ret (v := .tuple #[.slice none 0 0, .int .i64 0, .int .i64 1]) (by simp [results, Tryz.results20, go_sem]) rfl ⟨rfl, HB2.out⟩
end Go.Proofs.YtgalekifgnecjaaGreat
