/- housed of package regs. The writer in memory; emit of package regs. free of package regs, and the questions that the writer's group asks. What the writer's group reads and writes by. What the writer's group keeps in memory; what it writes, step by step. -/
import Derived.Test.YtgalekifgnecjaaGreatW1
import Derived.Test.YtgalekifgnecjaaGreatT7
import Derived.BigQuiet
import Derived.Test.YtgalekifgnecjaaGreatQ3
import Derived.StillTailTactics
import Derived.Deep.RegionHeldLaw
import Derived.Test.YtgalekifgnecjaaGreatC2
import Derived.Test.YtgalekifgnecjaaGreatT18
namespace Go.Proofs.YtgalekifgnecjaaGreat
open Go.RowKit

open Go.RowKit Go.Shelf
attribute [local go_sem] Oper.semAt_some
attribute [local irreducible] wpStill
def houTo (u : UntN) (k : Int) (j : Nat) : HouN := (List.range j).foldl (houOne (clashL u) (usedL u) (k - leastN u) u.args) ⟨[], [], u.args⟩
theorem houTo_succ (u : UntN) (k : Int) (j : Nat) : houTo u k (j + 1) = houOne (clashL u) (usedL u) (k - leastN u) u.args (houTo u k j) j := by
  unfold houTo
  rw [List.range_succ, List.foldl_append]
  rfl
theorem hou_to {u : UntN} (hw : writB u = true) (k : Int) : ∀ n : Nat, HouI u (k - leastN u) n (houTo u k n)
  | 0 => ⟨rfl, fun x => ⟨fun h => (by cases h), fun ⟨t, h, _⟩ => absurd h (Nat.not_lt_zero t)⟩, Int.le_refl _, by show u.args ≤ max u.args 0; omega, fun t h => absurd h (Nat.not_lt_zero t), fun t t' _ h => absurd h (Nat.not_lt_zero t'), fun t t' _ h => absurd h (Nat.not_lt_zero t')⟩
  | n + 1 => by
    rw [houTo_succ]
    exact (hou_to hw k n).step (writ_args hw).1
theorem had_perm {L : List (Int × Int)} {s c : Int} (h : ∀ x ∈ L, x.1 ≠ s) : (putM s c L).Perm (L ++ [(s, c)]) := by
  unfold putM
  have e : (L.filter fun p => !decide (p.1 = s)) = L := List.filter_eq_self.2 fun x hx => by
    simp only [Bool.not_eq_true', decide_eq_false_iff_not]
    exact h x hx
  rw [e]
  exact List.perm_append_comm (l₁ := [(s, c)]) (l₂ := L)
/-- Who has a colour: few, and small. -/
theorem had_small {u : UntN} {keep : Int} {n : Nat} {h : HouN} (hi : HouI u keep n h) : ∀ x ∈ h.had, 0 ≤ x.1 ∧ x.1 < (n : Int) := fun x hx => by
  obtain ⟨t, ht, rfl, _⟩ := (hi.had x).1 hx
  exact ⟨by show (0 : Int) ≤ (t : Int); omega, by show (t : Int) < n; omega⟩
theorem had_step (cl : List (Int × Int)) (us : List Int) (keep args : Int) (h : HouN) (s : Nat) : (houOne cl us keep args h s).had.length ≤ h.had.length + 1 := by
  unfold houOne
  split
  · split
    · show (h.had ++ [_]).length ≤ _
      rw [List.length_append, List.length_singleton]
      exact Nat.le_refl _
    · split <;> exact Nat.le_succ _
  · exact Nat.le_succ _
theorem had_len (u : UntN) (k : Int) : ∀ (n : Nat), (houTo u k n).had.length ≤ n
  | 0 => Nat.le_refl _
  | n + 1 => by
    rw [houTo_succ]
    have h1 := had_len u k n
    have h2 := had_step (clashL u) (usedL u) (k - leastN u) u.args (houTo u k n) n
    omega
/-- What housed keeps in its loop. -/
structure HsI (w : World) (u : UntN) (ca : Option Addr) (cc : Nat) (ga : Option Addr) (gc bc bh bu : Nat) (wr : World) : Prop where
  hb : Below w.heap.size w wr
  hx : wr.heap[w.heap.size]? = some (oU u ca cc ga gc)
  hc : PairAt wr bc (clashL u)
  hu : SetAt wr bu (usedL u)
  lt : w.heap.size < bc ∧ bc < bh ∧ bh < bu
theorem HsI.below {w : World} {u : UntN} {ca : Option Addr} {cc : Nat} {ga : Option Addr} {gc bc bh bu : Nat} {wr w' : World} (h : HsI w u ca cc ga gc bc bh bu wr) (hb : Below wr.heap.size wr w') : HsI w u ca cc ga gc bc bh bu w' :=
  ⟨h.hb.step hb, keepBox hb h.hx, h.hc.below hb, h.hu.below hb, h.lt⟩
theorem HsI.put {w : World} {u : UntN} {ca : Option Addr} {cc : Nat} {ga : Option Addr} {gc bc bh bu : Nat} {wr w' : World} (h : HsI w u ca cc ga gc bc bh bu wr) (hg : wr.grownBy w' (some bh)) : HsI w u ca cc ga gc bc bh bu w' := by
  have hl := h.lt
  exact ⟨h.hb.grown hg h.hb.size (fun r e => by cases e; omega), (hg.block _ (lt_of_heap h.hx) (fun e => by cases e; omega)).trans h.hx, h.hc.kept hg (fun e => by cases e; omega), h.hu.kept hg (fun e => by cases e; omega), hl⟩
theorem HsI.grown {w : World} {u : UntN} {ca : Option Addr} {cc : Nat} {ga : Option Addr} {gc bc bh bu : Nat} {wr w' : World} {row : Option Nat} (h : HsI w u ca cc ga gc bc bh bu wr) (hg : wr.grownBy w' row) (hr : ∀ r, row = some r → bu < r) : HsI w u ca cc ga gc bc bh bu w' := by
  have hl := h.lt
  exact ⟨h.hb.grown hg h.hb.size (fun r e => by have := hr r e; omega), (hg.block _ (lt_of_heap h.hx) (fun e => by have := hr _ e.symm; omega)).trans h.hx, h.hc.kept hg (fun e => by have := hr _ e.symm; omega), h.hu.kept hg (fun e => by have := hr _ e.symm; omega), hl⟩
set_option maxRecDepth 100000 in
set_option maxHeartbeats 16000000 in
theorem housed_any (u : UntN) (k : Nat) (hw : writB u = true) (hk : leastN u ≤ k) (hk2 : k ≤ 200) (ca : Option Addr) (cc : Nat) (ga : Option Addr) (gc : Nat) (w : World) (hm : UnM w u ca cc ga gc) :
    Calls Tryz.prog 47 #[vU u ca cc ga gc, .int .i64 k] w fun e w' => Below w.heap.size w w' ∧ ∃ v, e = .returned (.tuple #[v, .int .i64 (houL u k).cells]) ∧ OwnI w' w.heap.size v (houL u k).out := by
  have hargs := writ_args hw
  have hlen := writ_len hw
  have HM := hid hm; clear hm
  have HCL := hid (fun w' (hb : Below w.heap.size w w') => clashes_any u ca cc ga gc w' (HM.out.below hb) hw)
  have HUS := hid (fun w' (hb : Below w.heap.size w w') => used_any u ca cc ga gc w' (HM.out.below hb).rc hlen ⟨hargs.1, by omega⟩ (fun t ht => writ_reads hw t ht) (fun t ht => by have := (writ_writeIn hw ht).2; omega))
  have HLE := hid (fun w' (hb : Below w.heap.size w w') => least_any u ca cc ga gc w' (HM.out.below hb) hlen)
  have HTO := hid (fun j => hou_to hw (k : Int) j)
  have HTS := hid (fun j => houTo_succ u (k : Int) j)
  have HTL := hid (fun j => had_len u (k : Int) j)
  have HT0 : Hid (houTo u (k : Int) 0 = ⟨[], [], u.args⟩) := hid rfl
  have HTE : Hid (houL u (k : Int) = houTo u (k : Int) u.slots.toNat) := hid rfl
  obtain ⟨n, hn⟩ : ∃ n : Nat, u.slots = (n : Int) := ⟨u.slots.toNat, by omega⟩
  have HN := hid hn
  have hn2 : n ≤ 200 := by omega
  rw [show u.slots.toNat = n by omega] at HTE
  rw [HTE.out]
  obtain ⟨ag, hag⟩ : ∃ n : Nat, u.args = (n : Int) := ⟨u.args.toNat, by omega⟩
  have HAG := hid hag
  have hag2 : ag ≤ n := by omega
  obtain ⟨kp, hkp⟩ : ∃ p : Nat, (k : Int) - leastN u = (p : Int) := ⟨k - leastN u, by omega⟩
  have HKP := hid hkp
  have hkp2 : kp ≤ 200 := by omega
  have hmm := @run_makeMap Tryz.prog
  have hw9 : IntKind.i64.wrap ((k : Int) - leastN u) = (kp : Int) := by rw [hkp]; exact wrapk (by omega)
  clear hn hag hkp hargs HTE
  have HX1 := hid (heapn w (oU u ca cc ga gc) _ rfl)
  have HB := hid (bnew w (oU u ca cc ga gc))
  obtain ⟨w1, hw1⟩ : ∃ w1, w1 = w.alloc (oU u ca cc ga gc) := ⟨_, rfl⟩
  have HS1 : Hid (w1.heap.size = w.heap.size + 1) := hid (by rw [hw1]; simp)
  rw [← hw1] at HX1 HB
  obtain ⟨k0, k1, k2, k3, k4, k5, k6⟩ := box7 HX1.out
  go_enter Tryz.func47, Tryz.ntmps47
  go_upto_region 1 with fail
  rw [← hw1]
  clear hw1
  go_upto_region 2 with (first
    | (go_at_call 63; (with_reducible refine (HCL.out _ HB.out).mono ?_); rintro e w3 ⟨hb, bc, rfl, hpa, hbc⟩; have HX3 := hid (keepBox hb HX1.out); have HB3 := hid (HB.out.step hb); have HC3 := hid hpa; have HBC := hid hbc; clear hb hpa hbc))
  clear k0 k1 k2 k3 k4 k5 k6
  obtain ⟨bh, hbh⟩ : ∃ b, b = w3.heap.size := ⟨_, rfl⟩
  obtain ⟨wa, hwa⟩ : ∃ wa, wa = w3.alloc (.map #[] 0) := ⟨_, rfl⟩
  have HXA : Hid (wa.heap[w.heap.size]? = some (oU u ca cc ga gc)) := hid (by rw [hwa]; exact keepBox (bnew _ _) HX3.out)
  have HBA : Hid (Below w.heap.size w wa) := hid (by rw [hwa]; exact HB3.out.step (bnew _ _))
  have HCA : Hid (PairAt wa bc (clashL u)) := hid (by rw [hwa]; exact HC3.out.below (bnew _ _))
  have HHA : Hid (MapAt mkInts wa bh []) := hid (by rw [hwa, hbh]; exact mapAt_made mkInts w3)
  have HSA : Hid (wa.heap.size = bh + 1 ∧ bc < bh ∧ w.heap.size < bc) := hid (by rw [hwa, hbh]; exact ⟨by simp, HC3.out.lt, by have := HBC.out; have := HS1.out; omega⟩)
  go_upto_region 3 with fail
  rw [← hbh, ← hwa]
  clear hwa hbh HX3 HB3 HC3 HX1 HB HCL hmm HBC HS1
  obtain ⟨k0, k1, k2, k3, k4, k5, k6⟩ := box7 HXA.out
  go_upto_region 4 with (first
    | (go_at_call 104; (with_reducible refine (HUS.out _ HBA.out).mono ?_); rintro e w4 ⟨hb, bu, rfl, hs, hbu⟩; have HJ4 : Hid (HsI w u ca cc ga gc bc bh bu w4) := hid ⟨HBA.out.step hb, keepBox hb HXA.out, HCA.out.below hb, hs, by have := HSA.out; omega⟩; have HH4 := hid (HHA.out.below hb); clear hb hs hbu))
  clear k0 k1 k2 k3 k4 k5 k6 HXA HBA HCA HHA HUS
  obtain ⟨k0, k1, k2, k3, k4, k5, k6⟩ := box7 HJ4.out.hx
  go_upto_region 5 with (first
    | (go_at_call 46; (with_reducible refine (HLE.out _ HJ4.out.hb).mono ?_); rintro e w5 ⟨rfl, hb⟩; have HJ5 := hid (HJ4.out.below hb); have HH5 := hid (HH4.out.below hb); clear hb))
  clear k0 k1 k2 k3 k4 k5 k6 HJ4 HH4 HLE
  obtain ⟨k0, k1, k2, k3, k4, k5, k6⟩ := box7 HJ5.out.hx
  rw [HN.out] at k3
  rw [HAG.out] at k2
  go_upto_region 8 with fail
  clear k0 k1 k2 k3 k4 k5 k6 hw9
  go_loopg [10, 11, 28] n (fun gh s10 s11 s28 wr => ∃ j : Nat, j ≤ n ∧ gh = n - j ∧ s28 = .int .i64 j ∧ s10 = .int .i64 (houTo u k j).cells ∧ Hid (HsI w u ca cc ga gc bc bh bu wr) ∧ Hid (MapAt mkInts wr bh (houTo u k j).had) ∧ Hid (OwnI wr (bu + 1) s11 (houTo u k j).out) ∧ Hid (bu < wr.heap.size))
  case atStart => exact ⟨0, Nat.zero_le _, rfl, rfl, by rw [HT0.out, HAG.out], HJ5, hid (by rw [HT0.out]; exact HH5.out), hid (by rw [HT0.out]; exact World.ownsRow_nil _ _ _ _), hid HJ5.out.hu.lt⟩
  case round =>
    obtain ⟨j, hj, rfl, rfl, rfl, HJ, HH, HO, HS⟩ := hrel
    by_cases hjn : j < n
    · have nj : (j : Int) < (n : Int) := by omega
      have HHI := hid (HTO.out j)
      have HHL := hid (HTL.out j)
      have HTSj := hid (HTS.out j)
      rw [HKP.out] at HHI HTSj
      generalize houTo u (k : Int) j = H at *
      have HOL : Hid (H.out.length = j) := hid HHI.out.len
      have HSM := hid (had_small HHI.out)
      have hcl1 := HHI.out.cel
      have hcl2 := HHI.out.fin
      rw [HAG.out] at hcl1 hcl2
      have hcl3 : 0 ≤ H.cells ∧ H.cells ≤ 200 := by omega
      clear hcl1 hcl2
      have hlk := HJ.out.hu.hasT Tryz.underlying156 (k := (j : Int)) (by omega)
      obtain ⟨ub, hub⟩ : ∃ b, b = (usedL u).contains (j : Int) := ⟨_, rfl⟩
      rw [← hub] at hlk
      unfold houOne at HTSj
      rw [← hub] at HTSj
      clear hub
      cases ub with
      | false =>
        rw [if_neg Bool.false_ne_true] at HTSj
        have HOB := hid (own_ge HO.out)
        go_wp2_with (first
          | (at_builtin; refine wpList_append_ints _ rfl _ _ rfl (bu + 1) _ _ [-1] rfl (OwnI.later HO.out (bnew _ _)) (some ⟨_, 0, none⟩) 1 rfl (rd_one _ _ _) (by have := HOL.out; simp; omega) (by have := HS.out; simp; omega) ?_; intro v' w6 hown' hgrow hnil; have HOW := hid hown'; have HGR := hid hgrow; clear hown' hgrow hnil))
        go_roundg (n - (j + 1))
        case measure => omega
        case rel =>
          refine ⟨j + 1, by omega, rfl, by go_num, by rw [HTSj.out], hid ((HJ.out.below (bnew _ _)).grown HGR.out (fun r e => by have := HOB.out r e; omega)), hid (by rw [HTSj.out]; exact (HH.out.below (bnew _ _)).kept HGR.out (fun e => by have := HOB.out _ e.symm; have := HJ.out.lt; omega)), hid (by rw [HTSj.out]; exact HOW.out), hid ?_⟩
          have h1 := HGR.out.size
          have h2 := HS.out
          simp at h1
          omega
      | true =>
        rw [if_pos rfl] at HTSj
        have HCO := hid (colour_any (clashL u) H.had j bc bh wr HJ.out.hc HH.out (by omega) (fun x hx => by have := HSM.out x hx; omega) (by have := HHL.out; omega))
        have hck := colN_le (clashL u) H.had (j : Int)
        have hck2 : colN (clashL u) H.had (j : Int) ≤ 200 := Nat.le_trans hck (Nat.le_trans HHL.out (by omega))
        generalize colN (clashL u) H.had (j : Int) = c at *
        clear hck
        by_cases hck : (c : Int) < (kp : Int)
        · rw [if_pos hck] at HTSj
          have HPE := hid (had_perm (L := H.had) (s := (j : Int)) (c := (c : Int)) (fun x hx => by have := HSM.out x hx; omega))
          have hok := wf_small (x := (j : Int)) (by omega)
          have hoc := wf_small (x := (c : Int)) (by omega)
          go_upto_region 19 with (first
            | (go_at_call 66; (with_reducible refine HCO.out.mono ?_); rintro e w4 ⟨rfl, hb⟩; have HJ4 := hid (HJ.out.below hb); have HH4 := hid (HH.out.below hb); have HO4 := hid (OwnI.later HO.out hb); have HS4 := hid (Nat.lt_of_lt_of_le HS.out hb.size); clear hb)
            | (at_mapUpdate; refine wpList_map_put mkInts _ Tryz.underlying120 rfl _ _ _ rfl bh _ (j : Int) (c : Int) rfl HH4.out (by have := HHL.out; omega) rfl rfl hok.1 hoc.2 ?_; intro w5 hm5 hg5; have HM5 := hid (hm5.perm HPE.out); have HJ5 := hid (HJ4.out.put hg5); have HO5 : Hid (OwnI w5 (bu + 1) u11 _) := hid (HO4.out.kept hg5 (fun b hb e => by cases e; have h1 := own_ge HO4.out _ hb; have h2 := HJ4.out.lt; omega)); have HS5 := hid (Nat.lt_of_lt_of_le HS4.out hg5.size); clear hm5 hg5))
          clear hok hoc
          have HOB := hid (own_ge HO5.out)
          go_wp2_with (first
            | (at_builtin; refine wpList_append_ints _ rfl _ _ rfl (bu + 1) _ _ [(c : Int)] rfl (OwnI.later HO5.out (bnew _ _)) (some ⟨_, 0, none⟩) 1 rfl (rd_one _ _ _) (by have := HOL.out; simp; omega) (by have := HS5.out; simp; omega) ?_; intro v' w6 hown' hgrow hnil; have HOW := hid hown'; have HGR := hid hgrow; clear hown' hgrow hnil))
          go_roundg (n - (j + 1))
          case measure => omega
          case rel =>
            refine ⟨j + 1, by omega, rfl, by go_num, by rw [HTSj.out], hid ((HJ5.out.below (bnew _ _)).grown HGR.out (fun r e => by have := HOB.out r e; omega)), hid (by rw [HTSj.out]; exact (HM5.out.below (bnew _ _)).kept HGR.out (fun e => by have := HOB.out _ e.symm; have := HJ.out.lt; omega)), hid (by rw [HTSj.out]; exact HOW.out), hid ?_⟩
            have h1 := HGR.out.size
            have h2 := HS5.out
            simp at h1
            omega
        · rw [if_neg hck] at HTSj
          by_cases hja : (j : Int) < u.args
          · rw [if_pos hja] at HTSj
            have hja2 : (j : Int) < (ag : Int) := by rw [← HAG.out]; exact hja
            clear hja
            go_upto_region 15 with (first
              | (go_at_call 66; (with_reducible refine HCO.out.mono ?_); rintro e w4 ⟨rfl, hb⟩; have HJ4 := hid (HJ.out.below hb); have HH4 := hid (HH.out.below hb); have HO4 := hid (OwnI.later HO.out hb); have HS4 := hid (Nat.lt_of_lt_of_le HS.out hb.size); clear hb))
            obtain ⟨k0, k1, k2, k3, k4, k5, k6⟩ := box7 HJ4.out.hx
            rw [HAG.out] at k2
            go_upto_region 19 with fail
            clear k0 k1 k2 k3 k4 k5 k6
            have HOB := hid (own_ge HO4.out)
            go_wp2_with (first
              | (at_builtin; refine wpList_append_ints _ rfl _ _ rfl (bu + 1) _ _ [-2 - (j : Int)] rfl (OwnI.later HO4.out (bnew _ _)) (some ⟨_, 0, none⟩) 1 rfl (rd_one _ _ _) (by have := HOL.out; simp; omega) (by have := HS4.out; simp; omega) ?_; intro v' w6 hown' hgrow hnil; have HOW := hid hown'; have HGR := hid hgrow; clear hown' hgrow hnil))
            go_roundg (n - (j + 1))
            case measure => omega
            case rel =>
              refine ⟨j + 1, by omega, rfl, by go_num, by rw [HTSj.out], hid ((HJ4.out.below (bnew _ _)).grown HGR.out (fun r e => by have := HOB.out r e; omega)), hid (by rw [HTSj.out]; exact (HH4.out.below (bnew _ _)).kept HGR.out (fun e => by have := HOB.out _ e.symm; have := HJ.out.lt; omega)), hid (by rw [HTSj.out]; exact HOW.out), hid ?_⟩
              have h1 := HGR.out.size
              have h2 := HS4.out
              simp at h1
              omega
          · rw [if_neg hja] at HTSj
            have hja2 : ¬ (j : Int) < (ag : Int) := by rw [← HAG.out]; exact hja
            clear hja
            go_upto_region 15 with (first
              | (go_at_call 66; (with_reducible refine HCO.out.mono ?_); rintro e w4 ⟨rfl, hb⟩; have HJ4 := hid (HJ.out.below hb); have HH4 := hid (HH.out.below hb); have HO4 := hid (OwnI.later HO.out hb); have HS4 := hid (Nat.lt_of_lt_of_le HS.out hb.size); clear hb))
            obtain ⟨k0, k1, k2, k3, k4, k5, k6⟩ := box7 HJ4.out.hx
            rw [HAG.out] at k2
            go_upto_region 19 with fail
            clear k0 k1 k2 k3 k4 k5 k6
            have HOB := hid (own_ge HO4.out)
            go_wp2_with (first
              | (at_builtin; refine wpList_append_ints _ rfl _ _ rfl (bu + 1) _ _ [-2 - H.cells] rfl (OwnI.later HO4.out (bnew _ _)) (some ⟨_, 0, none⟩) 1 rfl (rd_one _ _ _) (by have := HOL.out; simp; omega) (by have := HS4.out; simp; omega) ?_; intro v' w6 hown' hgrow hnil; have HOW := hid hown'; have HGR := hid hgrow; clear hown' hgrow hnil))
            go_roundg (n - (j + 1))
            case measure => omega
            case rel =>
              refine ⟨j + 1, by omega, rfl, by go_num, by rw [HTSj.out], hid ((HJ4.out.below (bnew _ _)).grown HGR.out (fun r e => by have := HOB.out r e; omega)), hid (by rw [HTSj.out]; exact (HH4.out.below (bnew _ _)).kept HGR.out (fun e => by have := HOB.out _ e.symm; have := HJ.out.lt; omega)), hid (by rw [HTSj.out]; exact HOW.out), hid ?_⟩
              have h1 := HGR.out.size
              have h2 := HS4.out
              simp at h1
              omega
    · obtain rfl : j = n := by omega
      have nj : ¬ (j : Int) < (j : Int) := by omega
      go_wp2
      all_goals exact bodyPost_ret (v := .tuple #[u11, .int .i64 (houTo u k j).cells]) (by simp [results, Tryz.results47, go_sem]) rfl ⟨HJ.out.hb, u11, rfl, OwnI.mono HO.out (by have := HJ.out.lt; omega)⟩

open Go.RowKit Go.Shelf
attribute [local go_sem] Oper.semAt_some
/-- A writer. -/
structure WtrN where
  u : UntN
  ca : Option Addr
  cc : Nat
  ga : Option Addr
  gc : Nat
  va : Option Addr
  vc : Nat
  h : List Int
  ha : Option Addr
  hc : Nat
  k : Nat
  cells : Int
  ba : Nat
  bw : Nat
/-- The writer's box. -/
abbrev oWr (r : WtrN) (vc og : Value) : Obj := .cells #[.string r.u.cls, .string r.u.name, .int .i64 r.u.args, .int .i64 r.u.slots, .int .i64 r.u.frame, .slice r.ca r.u.code.length r.cc, .slice r.ga r.u.guards.length r.gc, .slice r.va (liveL r.u).length r.vc,
  .slice r.ha r.h.length r.hc, .int .i64 r.k, .string r.u.cls, .string r.u.name, .int .i64 r.u.args, .int .i64 r.k, .int .i64 r.cells, vc, og, .slice (some ⟨r.ba, 0, none⟩) r.u.code.length r.u.code.length] 100
/-- What the writer does to memory: its box, the places, the code's block, new blocks. -/
structure WStep (r : WtrN) (o : Option Nat) (W W' : World) : Prop where
  os : W'.os = W.os
  tape : W'.tape = W.tape
  output : W'.output = W.output
  size : W.heap.size ≤ W'.heap.size
  block : ∀ b, b < W.heap.size → b ≠ r.bw → b ≠ r.ba → some b ≠ o → W'.heap[b]? = W.heap[b]?
/-- The code's block is the old one, or new. -/
def NewB (o o' : Option Nat) (W : World) : Prop := o' = o ∨ ∃ b, o' = some b ∧ W.heap.size ≤ b
theorem WStep.of_below {r : WtrN} {o : Option Nat} {W W' : World} (h : Below W.heap.size W W') : WStep r o W W' := ⟨h.os, h.tape, h.output, h.size, fun b hb _ _ _ => h.block b hb⟩
theorem WStep.trans {r : WtrN} {o o' : Option Nat} {W A C : World} (h : WStep r o W A) (h2 : WStep r o' A C) (hn : NewB o o' W) : WStep r o W C :=
  ⟨h2.os.trans h.os, h2.tape.trans h.tape, h2.output.trans h.output, Nat.le_trans h.size h2.size, fun b hb h1 h3 h4 => (h2.block b (Nat.lt_of_lt_of_le hb h.size) h1 h3 (fun e => by
    rcases hn with rfl | ⟨c, rfl, hc⟩
    · exact h4 e
    · cases e; omega)).trans (h.block b hb h1 h3 h4)⟩
theorem NewB.refl (o : Option Nat) (W : World) : NewB o o W := .inl rfl
theorem NewB.trans {o o' o'' : Option Nat} {W A : World} (h : NewB o o' W) (h2 : NewB o' o'' A) (hs : W.heap.size ≤ A.heap.size) : NewB o o'' W := by
  rcases h2 with rfl | ⟨c, rfl, hc⟩
  · exact h
  · exact .inr ⟨c, rfl, by omega⟩
/-- All blocks that there were are as they were, but one. -/
structure KpA (w1 : World) (ba : Nat) (W : World) : Prop where
  os : W.os = w1.os
  tape : W.tape = w1.tape
  output : W.output = w1.output
  size : w1.heap.size ≤ W.heap.size
  block : ∀ b, b < w1.heap.size → b ≠ ba → W.heap[b]? = w1.heap[b]?
theorem KpA.refl (w1 : World) (ba : Nat) : KpA w1 ba w1 := ⟨rfl, rfl, rfl, Nat.le_refl _, fun _ _ _ => rfl⟩
theorem KpA.step {w1 : World} {ba : Nat} {W W' : World} (h : KpA w1 ba W) (hb : Below W.heap.size W W') : KpA w1 ba W' :=
  ⟨hb.os.trans h.os, hb.tape.trans h.tape, hb.output.trans h.output, Nat.le_trans h.size hb.size, fun b h1 h2 => (hb.block b (Nat.lt_of_lt_of_le h1 h.size)).trans (h.block b h1 h2)⟩
theorem KpA.grown {w1 : World} {ba : Nat} {W W' : World} {row : Option Nat} (h : KpA w1 ba W) (hg : W.grownBy W' row) (_hs : w1.heap.size ≤ W.heap.size) (hr : ∀ k, row = some k → w1.heap.size ≤ k ∨ k = ba) : KpA w1 ba W' :=
  ⟨hg.os.trans h.os, hg.tape.trans h.tape, hg.output.trans h.output, Nat.le_trans h.size hg.size, fun b h1 h2 => (hg.block b (Nat.lt_of_lt_of_le h1 h.size) (fun e => by have := hr b e.symm; omega)).trans (h.block b h1 h2)⟩
theorem KpA.setCell {w1 : World} {ba : Nat} {W : World} (h : KpA w1 ba W) {p : Addr} (hp : w1.heap.size ≤ p.block ∨ p.block = ba) (v : Value) : KpA w1 ba (W.setCell p v) :=
  ⟨h.os, h.tape, h.output, by have := h.size; simpa using this, fun b h1 h2 => (heap_setCell_other _ _ _ _ (by omega)).trans (h.block b h1 h2)⟩
theorem KpA.drew {w1 : World} {ba : Nat} {W : World} (h : KpA w1 ba W) : KpA w1 ba W.drew := ⟨h.os, h.tape, h.output, h.size, h.block⟩
/-- Ahead of the block all is as it was. -/
theorem KpA.below {w1 : World} {ba : Nat} {W : World} (h : KpA w1 ba W) {B : Nat} (h1 : B ≤ w1.heap.size) (h2 : B ≤ ba) : Below B w1 W :=
  ⟨h.os, h.tape, h.output, h.size, fun b hb => h.block b (by omega) (by omega)⟩
/-- The writer has written so far. -/
structure WrI (w1 : World) (r : WtrN) (x : WriN) (vc og : Value) (W : World) : Prop where
  hb : KpA w1 r.ba W
  hx : W.heap[r.bw]? = some (oWr r vc og)
  hc : OwnX encC 85 W (r.bw + 1) vc x.code
  ha : BI W r.ba x.ats
  lt : r.ba < r.bw
  sz : w1.heap.size = r.bw
theorem WrI.below {w1 : World} {r : WtrN} {x : WriN} {vc og : Value} {W W' : World} (h : WrI w1 r x vc og W) (hb : Below W.heap.size W W') : WrI w1 r x vc og W' :=
  ⟨h.hb.step hb, keepBox hb h.hx, h.hc.later hb, h.ha.below hb, h.lt, h.sz⟩
/-- A store in the writer's box. -/
theorem box18 {W : World} {b : Nat} {c : Array Value} {T : TypeId} (h : W.heap[b]? = some (.cells c T (0, 0))) {k : Nat} {v : Value} (hv : c[k]? = some v) : W.cell? ⟨b, k, none⟩ = some v := (cell_of_row _ _ k _ _ _ h).trans hv
theorem ownX_at {T : TypeId} {W W' : World} {base : Nat} {v : Value} {l : List InsN} (h : OwnX encC T W base v l) (e : ∀ b, v.ownBlock = some b → W'.heap[b]? = W.heap[b]?) : OwnX encC T W' base v l := own_later h (fun b hb _ => e b hb)
theorem step_append_x {α : Type} {E : Enc α} {ts T : TypeId} (st : SlT E ts T) {ops : Array Oper} {o : Oper} {a : Act} {K : Act → World → Prop} {Q : Exit → Act → World → Prop} {X : Prop} (w : World) (hgd : o.guard = none) (s x : Operand)
    (ho : o.op = .call { callee := .builtin .append, args := #[s, x], argTypes := #[ts, ts] }) (base : Nat) (v : Value) (l0 l : List α) (hsv : a.eval s = v) (hown : OwnX E T w base v l0) (A : Option Addr) (c : Nat) (ln : Nat) (hln : l.length = ln) (hx : a.eval x = .slice A ln c) (hl : RdX E w A l) (hs : l0.length + l.length ≤ 1000000) (hb : base ≤ w.heap.size)
    (h : ∀ v' w', OwnX E T w' base v' (l0 ++ l) → w.grownBy w' v.ownBlock → (v'.ownBlock = v.ownBlock ∨ v'.ownBlock = some w.heap.size) → K (a.put o.dst v') w') :
    if Region.wanted o (yielded ops a.tmps) = true then Oper.wp Tryz.prog o a w K Q else X := by
  subst hln
  have hw : Region.wanted o (yielded ops a.tmps) = true := by simp [Region.wanted, hgd]
  rw [if_pos hw]
  obtain ⟨v', w', hrun, h2, h3, h4⟩ := run_append_x st w base o.type v l0 l hown A c hl hs hb
  unfold Oper.wp execOp
  simp only [ho, resolve, invoke, builtin, Sem.run_bind, Sem.run_pure, Result.andThen_ok, List.map_toArray, List.map_cons, List.map_nil, hsv, hx, hrun]
  exact h v' w' h2 h3 h4
theorem bmoreW {w W : World} (h : Below w.heap.size w W) (o : Obj) : Below w.heap.size w (W.alloc o) := h.alloc h.size o
theorem emit_end {w1 : World} {r : WtrN} {x : WriN} {vc og v2 : Value} {l2 : List InsN} {W wa w9 w2 : World} (ha : WrI w1 r x vc og wa) (hb0 : Below W.heap.size W wa) (hbw : r.bw < W.heap.size) (h9 : Below wa.heap.size wa w9)
    (hown : OwnX encC 85 w2 (r.bw + 1) v2 l2) (hg : w9.grownBy w2 vc.ownBlock) (hat : v2.ownBlock = vc.ownBlock ∨ v2.ownBlock = some w9.heap.size) (hx2 : w2.heap[r.bw]? = some (oWr r vc og)) :
    ∃ vc', WrI w1 r ⟨l2, x.ats⟩ vc' og (w2.setCell ⟨r.bw, 15, none⟩ v2) ∧ WStep r vc.ownBlock W (w2.setCell ⟨r.bw, 15, none⟩ v2) ∧ NewB vc.ownBlock vc'.ownBlock W := by
  have hlt := ha.lt
  have hba := ha.ha.lt
  have hge := own_ge ha.hc
  have hge2 := own_ge hown
  have hs1 := hb0.size
  have hs9 := h9.size
  have hs2 := hg.size
  have hso : ∀ k, k ≠ r.bw → (w2.setCell ⟨r.bw, 15, none⟩ v2).heap[k]? = w2.heap[k]? := fun k hk => heap_setCell_other _ _ _ _ hk
  have hsz : (w2.setCell ⟨r.bw, 15, none⟩ v2).heap.size = w2.heap.size := by simp
  have hne : ∀ k, k < r.bw → some k ≠ vc.ownBlock := fun k hk e => by have := hge k e.symm; omega
  refine ⟨v2, ⟨?_, heap_setCell_same _ _ 15 _ _ _ hx2, ownX_at hown (fun b hb => hso b (by have := hge2 b hb; omega)), ?_, hlt, ha.sz⟩, ⟨?_, ?_, ?_, by omega, fun b hb h1 h3 h4 => ?_⟩, ?_⟩
  · exact (((ha.hb.step h9).grown hg (by have := (ha.hb.step h9).size; omega) (fun k e => .inl (by have := hge k e; have := ha.sz; omega))).setCell (p := ⟨r.bw, 15, none⟩) (.inl (by have := ha.sz; show _ ≤ r.bw; omega)) _)
  · exact ((ha.ha.below h9).keep (hg.block _ (by omega) (hne _ hlt))).keep (hso _ (by omega))
  · exact hg.os.trans (h9.os.trans hb0.os)
  · exact hg.tape.trans (h9.tape.trans hb0.tape)
  · exact hg.output.trans (h9.output.trans hb0.output)
  · rw [hso b h1, hg.block b (by omega) h4, h9.block b (by omega), hb0.block b hb]
  · rcases hat with e | e
    · exact .inl e
    · exact .inr ⟨_, e, by omega⟩
set_option maxRecDepth 100000 in
set_option maxHeartbeats 8000000 in
theorem emit_any (w1 : World) (r : WtrN) (x : WriN) (vc og : Value) (i : InsN) (W : World) (h : WrI w1 r x vc og W) (hl : x.code.length ≤ 100000) :
    Calls Tryz.prog 49 #[.pointer (some ⟨r.bw, 0, none⟩), vI i] W (fun e W' => e = .returned (.tuple #[]) ∧ ∃ vc', WrI w1 r ⟨x.code ++ [i], x.ats⟩ vc' og W' ∧ WStep r vc.ownBlock W W' ∧ NewB vc.ownBlock vc'.ownBlock W) := by
  have HI := hid h; clear h
  obtain ⟨va, cap, hva, hrd, hcap, hown⟩ := HI.out.hc.rdB
  subst hva
  have HX0 := hid (heapn W (.cells #[.int .i64 i.op, .int .i64 i.a, .int .i64 i.b, .int .i64 i.c] 85) _ rfl)
  have HB0 := hid (bnew W (.cells #[.int .i64 i.op, .int .i64 i.a, .int .i64 i.b, .int .i64 i.c] 85))
  obtain ⟨wa, hwa⟩ : ∃ wa, wa = W.alloc (.cells #[.int .i64 i.op, .int .i64 i.a, .int .i64 i.b, .int .i64 i.c] 85) := ⟨_, rfl⟩
  have HS0 : Hid (wa.heap.size = W.heap.size + 1) := hid (by rw [hwa]; simp)
  rw [← hwa] at HX0 HB0
  have HIA := hid (HI.out.below HB0.out)
  have k15 := box18 HIA.out.hx (k := 15) rfl
  obtain ⟨x0, x1, x2, x3⟩ := box4 HX0.out
  go_enter Tryz.func49, Tryz.ntmps49
  go_upto_region 1 with fail
  rw [← hwa]
  clear hwa
  obtain ⟨bx, hbx⟩ : ∃ b, b = W.heap.size := ⟨_, rfl⟩
  rw [← hbx] at HX0 x0 x1 x2 x3
  rw [← hbx]
  have HBX := hid hbx
  clear hbx
  have k15b := cell_later (bnew wa (.cells #[.int .i64 i.op, .int .i64 i.a, .int .i64 i.b, .int .i64 i.c] 85)) k15
  have HOK := hid (fun (w9 : World) (hb : Below wa.heap.size wa w9) => (HIA.out.below hb).hc)
  go_region_law (refine step_append_x st22 _ rfl (.tmp 9) (.tmp 11) rfl (r.bw + 1) (.slice va x.code.length cap) x.code [i] (by rfl) (HOK.out _ (by repeat (first | exact Below.refl _ _ | refine Below.drew ?_ | refine bmoreW ?_ _))) (some ⟨_, 0, none⟩) 1 1 rfl (by rfl) (rdx_one (E := encC) _ i 85) (by simp; omega) (by have := lt_of_heap HIA.out.hx; simp; omega) ?_
                 intro v2 w2 hown2 hg2 hat2
                 obtain ⟨a2, cap2, rfl, _, _, hown3⟩ := hown2.rdB
                 rw [List.length_append, List.length_singleton] at hown2
                 rw [show (x.code ++ [i]).length = x.code.length + 1 by rw [List.length_append, List.length_singleton]] at hat2
                 have HX2 : Hid (w2.heap[r.bw]? = some (oWr r (.slice va x.code.length cap) og)) := hid ((hg2.block r.bw (by have := lt_of_heap HIA.out.hx; simp; omega) (fun e => by have := own_ge HIA.out.hc _ e.symm; omega)).trans (keepBox (by repeat (first | exact Below.refl _ _ | refine Below.drew ?_ | refine bmoreW ?_ _)) HIA.out.hx))
                 have hf := boxF 15 HX2.out
                 have hq := box18 HX2.out (k := 15) rfl
                 have HOW := hid hown2; have HGR := hid hg2; have HAT := hid hat2
                 clear hown2 hg2 hat2 hown3)
  all_goals go_wp2
  all_goals go_end0
  all_goals exact ⟨rfl, emit_end (x := x) HIA.out HB0.out (lt_of_heap HI.out.hx) (by repeat (first | exact Below.refl _ _ | refine Below.drew ?_ | refine bmoreW ?_ _)) HOW.out HGR.out HAT.out HX2.out⟩

open Go.RowKit Go.Shelf
attribute [local go_sem] Oper.semAt_some
/-- What the writer reads lies in memory. -/
structure WtrM (w1 : World) (r : WtrN) : Prop where
  mu : ∀ W, KpA w1 r.ba W → UnM W r.u r.ca r.cc r.ga r.gc
  ml : ∀ W, KpA w1 r.ba W → RdLL W r.va (liveL r.u)
  mh : ∀ W, KpA w1 r.ba W → RdI W r.ha r.h
theorem homeN_at {h : List Int} {s : Nat} (hs : s < h.length) : homeN h (s : Int) = h[s] := getD_in hs
set_option maxRecDepth 100000 in
set_option maxHeartbeats 4000000 in
theorem k178 (w1 : World) (r : WtrN) (x : WriN) (vc og : Value) (s reg : Int) (b1 b2 : Nat) (w : World) (hm : WtrM w1 r) (h : WrI w1 r x vc og w) (h1 : w.heap[b1]? = some (.cells #[.pointer (some ⟨r.bw, 0, none⟩)] 94)) (h2 : w.heap[b2]? = some (.cells #[.int .i64 reg] 3)) (hs : 0 ≤ s ∧ s < r.h.length) (_hl : r.h.length ≤ 1000000) :
    Calls Tryz.prog 178 #[.int .i64 s, .pointer (some ⟨b1, 0, none⟩), .pointer (some ⟨b2, 0, none⟩)] w (RetB (.bool (homeN r.h s == reg)) w) := by
  obtain ⟨k, rfl⟩ : ∃ k : Nat, s = (k : Int) := ⟨s.toNat, by omega⟩
  have hk : k < r.h.length := by omega
  obtain ⟨bh, oh, hha, _, h0⟩ := (hm.mh _ h.hb) k hk
  have c1 : w.cell? ⟨b1, 0, none⟩ = some (.pointer (some ⟨r.bw, 0, none⟩)) := (cell_of_row _ _ 0 _ _ _ h1).trans rfl
  have c2 : w.cell? ⟨b2, 0, none⟩ = some (.int .i64 reg) := (cell_of_row _ _ 0 _ _ _ h2).trans rfl
  have k8 : w.cell? ⟨r.bw, 8, none⟩ = some (.slice (some ⟨bh, oh, none⟩) r.h.length r.hc) := (cell_of_row _ _ 8 _ _ _ h.hx).trans (by rw [← hha]; rfl)
  have nk : (k : Int) < (r.h.length : Int) := by omega
  have HE : Hid ((homeN r.h (k : Int) == reg) = (r.h[k] == reg)) := hid (by rw [homeN_at hk])
  obtain ⟨e, he⟩ : ∃ e, e = (homeN r.h (k : Int) == reg) := ⟨_, rfl⟩
  rw [← he] at HE
  rw [← he]
  clear he hm h h1 h2 hs hha
  generalize r.h[k] = x at *
  have HBW := hid (bdrew w)
  go_enter Tryz.func178, Tryz.ntmps178
  go_upto_region 1 with fail
  go_still_tail 9, (by kernel_rfl)
  change wpList _ _ _ _ _ w.drew
  go_wp2
  go_ret
  exact ⟨ret_bool HE.out.symm, HBW.out⟩
theorem enters178 : Enters 178 := enters_of Tryz.func178 (by kernel_rfl) rfl
set_option maxRecDepth 100000 in
set_option maxHeartbeats 4000000 in
theorem k110 (w1 : World) (r : WtrN) (x : WriN) (vc og : Value) (s : Int) (b1 : Nat) (w : World) (hm : WtrM w1 r) (h : WrI w1 r x vc og w) (h1 : w.heap[b1]? = some (.cells #[.pointer (some ⟨r.bw, 0, none⟩)] 94)) (hs : 0 ≤ s ∧ s < r.h.length) (_hl : r.h.length ≤ 1000000) :
    Calls Tryz.prog 110 #[.int .i64 s, .pointer (some ⟨b1, 0, none⟩)] w (RetB (.bool (decide (homeN r.h s ≤ -2))) w) := by
  obtain ⟨k, rfl⟩ : ∃ k : Nat, s = (k : Int) := ⟨s.toNat, by omega⟩
  have hk : k < r.h.length := by omega
  obtain ⟨bh, oh, hha, _, h0⟩ := (hm.mh _ h.hb) k hk
  have c1 : w.cell? ⟨b1, 0, none⟩ = some (.pointer (some ⟨r.bw, 0, none⟩)) := (cell_of_row _ _ 0 _ _ _ h1).trans rfl
  have k8 : w.cell? ⟨r.bw, 8, none⟩ = some (.slice (some ⟨bh, oh, none⟩) r.h.length r.hc) := (cell_of_row _ _ 8 _ _ _ h.hx).trans (by rw [← hha]; rfl)
  have nk : (k : Int) < (r.h.length : Int) := by omega
  have HE : Hid (decide (homeN r.h (k : Int) ≤ -2) = decide (r.h[k] ≤ -2)) := hid (by rw [homeN_at hk])
  obtain ⟨e, he⟩ : ∃ e, e = decide (homeN r.h (k : Int) ≤ -2) := ⟨_, rfl⟩
  rw [← he] at HE
  rw [← he]
  clear he hm h h1 hs hha
  generalize r.h[k] = x at *
  go_enter Tryz.func110, Tryz.ntmps110
  go_wp2
  go_ret
  exact ⟨ret_bool HE.out.symm, Below.refl _ _⟩
theorem enters110 : Enters 110 := enters_of Tryz.func110 (by kernel_rfl) rfl
theorem freeL_succ (h : List Int) (j : Nat) (l : List Int) : freeL h (j + 1) l = freeL h j l ++ if takenB h j l = true then [] else [(j : Int)] := by
  unfold freeL
  rw [List.range_succ, List.filter_append, List.map_append]
  congr 1
  cases ht : takenB h (j : Int) l with
  | true => simp [ht]
  | false => simp [ht]
theorem freeL_len (h : List Int) (j : Nat) (l : List Int) : (freeL h j l).length ≤ j := by
  unfold freeL
  rw [List.length_map]
  exact Nat.le_trans (List.length_filter_le _ _) (by rw [List.length_range]; exact Nat.le_refl _)
set_option maxRecDepth 100000 in
set_option maxHeartbeats 8000000 in
theorem free_any (w1 : World) (r : WtrN) (x : WriN) (vc og : Value) (l : List Int) (la : Option Addr) (lc : Nat) (W : World) (hm : WtrM w1 r) (h : WrI w1 r x vc og W) (hr : RdI W la l) (hs : ∀ s ∈ l, 0 ≤ s ∧ s < r.h.length) (hl : r.h.length ≤ 1000000) (hll : l.length ≤ 1000000) (hk : r.k ≤ 200) :
    Calls Tryz.prog 107 #[.pointer (some ⟨r.bw, 0, none⟩), .slice la l.length lc] W (OwnRet (freeL r.h r.k l) W) := by
  have HX0 := hid (heapn W (.cells #[.pointer (some ⟨r.bw, 0, none⟩)] 94) _ rfl)
  have HB0 := hid (bnew W (.cells #[.pointer (some ⟨r.bw, 0, none⟩)] 94))
  have HMM := hid hm
  have HH := hid h
  have HRR := hid hr
  have HSS := hid hs
  clear hm h hr hs
  obtain ⟨wa, hwa⟩ : ∃ wa, wa = W.alloc (.cells #[.pointer (some ⟨r.bw, 0, none⟩)] 94) := ⟨_, rfl⟩
  have HSZ : Hid (wa.heap.size = W.heap.size + 1) := hid (by rw [hwa]; simp)
  rw [← hwa] at HX0 HB0
  have c1 : wa.cell? ⟨W.heap.size, 0, none⟩ = some (.pointer (some ⟨r.bw, 0, none⟩)) := (cell_of_row _ _ 0 _ _ _ HX0.out).trans rfl
  have k9 := box18 (HH.out.below HB0.out).hx (k := 9) rfl
  have HK9 : Hid (wa.cell? ⟨r.bw, 9, none⟩ = some (.int .i64 r.k)) := hid k9
  clear k9
  have k9 := HK9.out
  go_enter Tryz.func107, Tryz.ntmps107
  go_upto_region 1 with fail
  rw [← hwa]
  clear hwa
  go_upto_region 3 with fail
  clear c1 k9
  go_loopg [5, 11] r.k (fun gh s5 s11 wr => ∃ j : Nat, j ≤ r.k ∧ gh = r.k - j ∧ s11 = .int .i64 j ∧ Hid (Below wa.heap.size wa wr) ∧ Hid (OwnI wr (W.heap.size + 1) s5 (freeL r.h j l)))
  case atStart => exact ⟨0, Nat.zero_le _, rfl, rfl, hid (Below.refl _ _), hid (World.ownsRow_nil _ _ _ _)⟩
  case round =>
    obtain ⟨j, hj, rfl, rfl, HB, HO⟩ := hrel
    by_cases hjk : j < r.k
    · have nj : (j : Int) < (r.k : Int) := by omega
      have HFS := hid (freeL_succ r.h j l)
      have HFL := hid (freeL_len r.h j l)
      have HTK : Hid (takenB r.h (j : Int) l = l.any fun s => homeN r.h s == (j : Int)) := hid rfl
      go_upto_region 5 with fail
      obtain ⟨bj, hbj⟩ : ∃ b, b = wr.heap.size := ⟨_, rfl⟩
      obtain ⟨wj, hwj⟩ : ∃ w', w' = wr.alloc (.cells #[.int .i64 (j : Int)] 3) := ⟨_, rfl⟩
      have HXJ : Hid (wj.heap[bj]? = some (.cells #[.int .i64 (j : Int)] 3)) := hid (by rw [hwj]; exact heapn _ _ _ hbj)
      have HBJ : Hid (Below wa.heap.size wa wj) := hid (by rw [hwj]; exact HB.out.step (bnew _ _))
      have HOJ : Hid (OwnI wj (W.heap.size + 1) u5 (freeL r.h j l)) := hid (by rw [hwj]; exact OwnI.later HO.out (bnew _ _))
      rw [← hbj, ← hwj]
      clear hbj hwj HB HO
      have c0 : wj.cell? ⟨bj, 0, none⟩ = some (.int .i64 (j : Int)) := (cell_of_row _ _ 0 _ _ _ HXJ.out).trans rfl
      have HI := hid (someI 178 enters178 #[.pointer (some ⟨W.heap.size, 0, none⟩), .pointer (some ⟨bj, 0, none⟩)] (fun s => homeN r.h s == (j : Int)) l la lc wj (fun y hy w' hb => k178 w1 r x vc og y j _ _ w' HMM.out ((HH.out.below (HB0.out.step HBJ.out)).below hb) (keepBox (HBJ.out.step hb) HX0.out) (keepBox hb HXJ.out) (HSS.out y hy) hl) (HRR.out.below (HB0.out.step HBJ.out)) (by omega))
      rw [← HTK.out] at HI
      cases ht : takenB r.h (j : Int) l with
      | true =>
        rw [ht] at HI HFS
        rw [if_pos rfl, List.append_nil] at HFS
        clear ht HTK
        go_wp2_with (first
          | (go_at_call 99; (with_reducible refine HI.out.mono ?_); rintro e w4 ⟨rfl, hb⟩; have HB4 := hid hb; clear hb))
        go_roundg (r.k - (j + 1))
        case measure => omega
        case rel => exact ⟨j + 1, by omega, rfl, by go_num, hid (HBJ.out.step HB4.out), hid (by rw [HFS.out]; exact OwnI.later HOJ.out HB4.out)⟩
      | false =>
        rw [ht] at HI HFS
        rw [if_neg Bool.false_ne_true] at HFS
        clear ht HTK
        go_upto_region 6 with (first
          | (go_at_call 99; (with_reducible refine HI.out.mono ?_); rintro e w4 ⟨rfl, hb⟩; have HB4 := hid hb; have HX4 := hid (keepBox hb HXJ.out); have HO4 := hid (OwnI.later HOJ.out hb); clear hb))
        clear c0
        have c0 : w4.cell? ⟨bj, 0, none⟩ = some (.int .i64 (j : Int)) := (cell_of_row _ _ 0 _ _ _ HX4.out).trans rfl
        have HOB := hid (own_ge HO4.out)
        have HZ4 : Hid (W.heap.size + 1 ≤ w4.heap.size) := hid (by have h1 := HBJ.out.size; have h2 := HB4.out.size; have h3 := HSZ.out; omega)
        go_wp2_with (first
          | (at_builtin; refine wpList_append_ints _ rfl _ _ rfl (W.heap.size + 1) _ _ [(j : Int)] rfl (OwnI.later HO4.out (bnew _ _)) (some ⟨_, 0, none⟩) 1 rfl (rd_one _ _ _) (by have := HFL.out; simp; omega) (by have := HZ4.out; simp; omega) ?_; intro v' w6 hown' hgrow hnil; have HOW := hid hown'; have HGR := hid hgrow; clear hown' hgrow hnil))
        go_roundg (r.k - (j + 1))
        case measure => omega
        case rel => exact ⟨j + 1, by omega, rfl, by go_num, hid (((HBJ.out.step HB4.out).step (bnew _ _)).grown HGR.out (by have h1 := HBJ.out.size; have h2 := HB4.out.size; simp; omega) (fun b e => by have := HOB.out b e; have := HSZ.out; omega)), hid (by rw [HFS.out]; exact HOW.out)⟩
    · obtain rfl : j = r.k := by omega
      have nj : ¬ (r.k : Int) < (r.k : Int) := by omega
      go_wp2
      go_ret
      exact ⟨HB0.out.step HB.out, _, rfl, OwnI.mono HO.out (Nat.le_succ _)⟩

open Go.RowKit Go.Shelf
attribute [local go_sem] Oper.semAt_some
set_option maxRecDepth 100000 in
set_option maxHeartbeats 4000000 in
theorem k111 (w1 : World) (r : WtrN) (x : WriN) (vc og : Value) (s v : Int) (L : List (Int × Int)) (b1 b2 bm : Nat) (w : World) (hm : WtrM w1 r) (h : WrI w1 r x vc og w) (h1 : w.heap[b1]? = some (.cells #[.pointer (some ⟨r.bw, 0, none⟩)] 94)) (h2 : w.heap[b2]? = some (.cells #[.map (some bm)] 120)) (hM : MapAt mkInts w bm L)
    (hs : 0 ≤ s ∧ s < r.h.length) (hl : r.h.length ≤ 1000000) (hv : homeN r.h s < 0 → getM L s = some v) :
    Calls Tryz.prog 111 #[.int .i64 s, .pointer (some ⟨b1, 0, none⟩), .pointer (some ⟨b2, 0, none⟩)] w (RetB (.int .i64 (if 0 ≤ homeN r.h s then homeN r.h s else v)) w) := by
  have hlk : (Instr.lookup 120 (.map (some bm)) (.int .i64 s) false).run Tryz.prog w = .ok (.int .i64 ((getM L s).getD 0)) w := MapAt.look (M := mkInts) Tryz.underlying120 hM (x := s) (wf64 (by omega))
  obtain ⟨k, rfl⟩ : ∃ k : Nat, s = (k : Int) := ⟨s.toNat, by omega⟩
  have hk : k < r.h.length := by omega
  obtain ⟨bh, oh, hha, _, h0⟩ := (hm.mh _ h.hb) k hk
  have c1 : w.cell? ⟨b1, 0, none⟩ = some (.pointer (some ⟨r.bw, 0, none⟩)) := (cell_of_row _ _ 0 _ _ _ h1).trans rfl
  have c2 : w.cell? ⟨b2, 0, none⟩ = some (.map (some bm)) := (cell_of_row _ _ 0 _ _ _ h2).trans rfl
  have k8 : w.cell? ⟨r.bw, 8, none⟩ = some (.slice (some ⟨bh, oh, none⟩) r.h.length r.hc) := (cell_of_row _ _ 8 _ _ _ h.hx).trans (by rw [← hha]; rfl)
  have nk : (k : Int) < (r.h.length : Int) := by omega
  have HE : Hid (homeN r.h (k : Int) = r.h[k]) := hid (homeN_at hk)
  rw [HE.out] at hv
  rw [HE.out]
  have HV := hid hv
  clear hv hm h h1 h2 hs hha HE hM
  generalize r.h[k] = x at *
  by_cases hx : 0 ≤ x
  · rw [if_pos hx]
    clear hlk HV
    go_enter Tryz.func111, Tryz.ntmps111
    go_wp2
    go_ret
    exact ⟨rfl, Below.refl _ _⟩
  · rw [if_neg hx]
    have hlk2 : (Instr.lookup 120 (.map (some bm)) (.int .i64 (k : Int)) false).run Tryz.prog w = .ok (.int .i64 v) w := by rw [HV.out (by omega)] at hlk; exact hlk
    clear HV hlk
    go_enter Tryz.func111, Tryz.ntmps111
    go_wp2
    go_ret
    exact ⟨rfl, Below.refl _ _⟩
theorem enters111 : Enters 111 := enters_of Tryz.func111 (by kernel_rfl) rfl
set_option maxRecDepth 100000 in
set_option maxHeartbeats 4000000 in
theorem k112 (w1 : World) (r : WtrN) (x : WriN) (vc og : Value) (s : Int) (l : List Int) (la : Option Addr) (lc : Nat) (b1 b2 : Nat) (w : World) (hm : WtrM w1 r) (h : WrI w1 r x vc og w) (h1 : w.heap[b1]? = some (.cells #[.pointer (some ⟨r.bw, 0, none⟩)] 94)) (h2 : w.heap[b2]? = some (.cells #[.slice la l.length lc] 28)) (hr : RdI w la l)
    (hs : 0 ≤ s ∧ s < r.h.length) (hl : r.h.length ≤ 1000000) (hls : ∀ s ∈ l, 0 ≤ s ∧ s < r.h.length) (hll : l.length ≤ 1000000) (hk : r.k ≤ 200) (hf : 1 ≤ (freeL r.h r.k l).length) :
    Calls Tryz.prog 112 #[.int .i64 s, .pointer (some ⟨b1, 0, none⟩), .pointer (some ⟨b2, 0, none⟩)] w (RetB (.int .i64 (wrTo r.h (freeL r.h r.k l) s)) w) := by
  have HF := hid (free_any w1 r x vc og l la lc w hm h hr hls hl hll hk)
  obtain ⟨k, rfl⟩ : ∃ k : Nat, s = (k : Int) := ⟨s.toNat, by omega⟩
  have hk : k < r.h.length := by omega
  obtain ⟨bh, oh, hha, _, h0⟩ := (hm.mh _ h.hb) k hk
  have c1 : w.cell? ⟨b1, 0, none⟩ = some (.pointer (some ⟨r.bw, 0, none⟩)) := (cell_of_row _ _ 0 _ _ _ h1).trans rfl
  have c2 : w.cell? ⟨b2, 0, none⟩ = some (.slice la l.length lc) := (cell_of_row _ _ 0 _ _ _ h2).trans rfl
  have k8 : w.cell? ⟨r.bw, 8, none⟩ = some (.slice (some ⟨bh, oh, none⟩) r.h.length r.hc) := (cell_of_row _ _ 8 _ _ _ h.hx).trans (by rw [← hha]; rfl)
  have nk : (k : Int) < (r.h.length : Int) := by omega
  have HE : Hid (wrTo r.h (freeL r.h r.k l) (k : Int) = if 0 ≤ r.h[k] then r.h[k] else (freeL r.h r.k l).getD 0 0) := hid (by unfold wrTo; rw [homeN_at hk])
  rw [HE.out]
  clear hm h h1 h2 hs hha HE hr hls
  generalize r.h[k] = x at *
  by_cases hx : 0 ≤ x
  · rw [if_pos hx]
    clear HF
    go_enter Tryz.func112, Tryz.ntmps112
    go_wp2
    go_ret
    exact ⟨rfl, Below.refl _ _⟩
  · rw [if_neg hx]
    obtain ⟨fr, hfr⟩ : ∃ fr, fr = freeL r.h r.k l := ⟨_, rfl⟩
    rw [← hfr] at HF hf
    rw [← hfr]
    clear hfr
    rw [getD_in (show 0 < fr.length by omega)]
    have nf : (0 : Int) < (fr.length : Int) := by omega
    go_enter Tryz.func112, Tryz.ntmps112
    go_wp2_with (first
      | (go_at_call 107; (with_reducible refine HF.out.mono ?_); rintro e w2 ⟨hb, v2, rfl, ho⟩; obtain ⟨fa, fc, rfl, hr2⟩ := ho.rd; obtain ⟨bf, of', hfa, _, f0⟩ := hr2 0 (by omega); subst hfa; rw [Nat.add_zero] at f0; have HB := hid hb; clear hb ho hr2))
    go_ret
    exact ⟨rfl, HB.out⟩
theorem enters112 : Enters 112 := enters_of Tryz.func112 (by kernel_rfl) rfl

open Go.RowKit Go.Shelf
/-- What is fixed in a run of the writer's group. -/
structure GwP where
  w1 : World
  r : WtrN
  x : GrX
  W : World
  o : Option Nat
  og : Value
  b2 : Nat
  b5 : Nat
  bm : Nat
  b7 : Nat
  Z : Nat
  na : Option Addr
  nc : Nat
  N : List Int
  ta : Option Addr
  tc : Nat
  T : List Int
structure GwZ (p : GwP) : Prop where
  bw : p.r.bw < p.b2
  ba : p.r.ba < p.r.bw
  s2 : p.W.heap.size = p.b2
  o2 : ∀ b, p.o = some b → b < p.b2
  b5 : p.b2 + 1 < p.b5 ∧ p.b5 < p.Z
  bm : p.b2 + 1 < p.bm ∧ p.bm < p.Z
  b7 : p.b2 + 1 < p.b7 ∧ p.b7 < p.Z
  nb : ∀ b, (Value.slice p.na p.N.length p.nc).ownBlock = some b → p.b2 ≤ b ∧ b < p.Z
  tb : ∀ b, (Value.slice p.ta p.T.length p.tc).ownBlock = some b → p.b2 ≤ b ∧ b < p.Z
  d57 : p.b5 ≠ p.bm ∧ p.b7 ≠ p.bm
  dnt : (Value.slice p.na p.N.length p.nc).ownBlock ≠ some p.bm ∧ (Value.slice p.ta p.T.length p.tc).ownBlock ≠ some p.bm
/-- What the group keeps. -/
structure GwL (p : GwP) (xw : WriN) (vc : Value) (L : List (Int × Int)) (W' : World) : Prop where
  wi : WrI p.w1 p.r xw vc p.og W'
  h2 : W'.heap[p.b2]? = some (.cells #[.pointer (some ⟨p.r.bw, 0, none⟩)] 94)
  h3 : W'.heap[p.b2 + 1]? = some (.cells #[.int .i64 p.x.g.frm, .int .i64 p.x.g.til, .slice p.x.a p.x.g.reads.length p.x.c, .int .i64 p.x.g.wr] 107)
  h5 : W'.heap[p.b5]? = some (.cells #[.slice p.na p.N.length p.nc] 28)
  h7 : W'.heap[p.b7]? = some (.cells #[.map (some p.bm)] 120)
  hM : MapAt mkInts W' p.bm L
  hN : OwnI W' p.b2 (.slice p.na p.N.length p.nc) p.N
  hT : OwnI W' p.b2 (.slice p.ta p.T.length p.tc) p.T
  hs : WStep p.r p.o p.W W'
  ho : vc.ownBlock = p.o ∨ ∃ b, vc.ownBlock = some b ∧ p.Z ≤ b
  hz : p.Z ≤ W'.heap.size
theorem WrI.kept {w1 : World} {r : WtrN} {xw : WriN} {vc og : Value} {W W' : World} {row : Option Nat} (h : WrI w1 r xw vc og W) (hg : W.grownBy W' row) (hr : ∀ k, row = some k → r.bw < k ∧ vc.ownBlock ≠ some k) : WrI w1 r xw vc og W' := by
  have hlt := h.lt
  exact ⟨h.hb.grown hg h.hb.size (fun k e => .inl (by have := (hr k e).1; have := h.sz; omega)), (hg.block _ (lt_of_heap h.hx) (fun e => by have := (hr _ e.symm).1; omega)).trans h.hx,
    own_later h.hc (fun b hb hl => hg.block b hl (fun e => (hr b e.symm).2 hb)), h.ha.keep (hg.block _ h.ha.lt (fun e => by have := (hr _ e.symm).1; omega)), hlt, h.sz⟩
theorem WStep.kept {r : WtrN} {o : Option Nat} {W A C : World} {row : Option Nat} (h : WStep r o W A) (hg : A.grownBy C row) (hr : ∀ k, row = some k → W.heap.size ≤ k) : WStep r o W C :=
  ⟨hg.os.trans h.os, hg.tape.trans h.tape, hg.output.trans h.output, Nat.le_trans h.size hg.size, fun b hb h1 h2 h3 => (hg.block b (Nat.lt_of_lt_of_le hb h.size) (fun e => by have := hr b e.symm; omega)).trans (h.block b hb h1 h2 h3)⟩
section
variable {p : GwP} {xw xw' : WriN} {vc vc' : Value} {L : List (Int × Int)} {W' W'' : World}
theorem GwL.below (h : GwL p xw vc L W') (hb : Below W'.heap.size W' W'') : GwL p xw vc L W'' :=
  ⟨h.wi.below hb, keepBox hb h.h2, keepBox hb h.h3, keepBox hb h.h5, keepBox hb h.h7, h.hM.below hb, OwnI.later h.hN hb, OwnI.later h.hT hb,
    h.hs.trans (WStep.of_below (o := p.o) hb) (.inl rfl), h.ho, Nat.le_trans h.hz hb.size⟩
/-- The writer goes on. -/
theorem GwL.step (hZ : GwZ p) (h : GwL p xw vc L W') (hi : WrI p.w1 p.r xw' vc' p.og W'') (hs : WStep p.r vc.ownBlock W' W'') (hn : NewB vc.ownBlock vc'.ownBlock W') : GwL p xw' vc' L W'' := by
  have hbw := hZ.bw
  have hba := hZ.ba
  have hz := h.hz
  have hsz := hs.size
  have key : ∀ k, p.b2 ≤ k → k < p.Z → W''.heap[k]? = W'.heap[k]? := fun k h1 h2 => hs.block k (by omega) (by omega) (by omega) (fun e => by
    rcases h.ho with e2 | ⟨b, e2, hb⟩
    · rw [e2] at e; have := hZ.o2 k e.symm; omega
    · rw [e2] at e; cases e; omega)
  refine ⟨hi, (key _ (Nat.le_refl _) (by have := hZ.b5; omega)).trans h.h2, (key _ (by omega) (by have := hZ.b5; omega)).trans h.h3, (key _ (by have := hZ.b5; omega) hZ.b5.2).trans h.h5, (key _ (by have := hZ.b7; omega) hZ.b7.2).trans h.h7,
    h.hM.keep (key _ (by have := hZ.bm; omega) hZ.bm.2), own_later h.hN (fun b hb _ => key b (hZ.nb b hb).1 (hZ.nb b hb).2), own_later h.hT (fun b hb _ => key b (hZ.tb b hb).1 (hZ.tb b hb).2), ?_, ?_, by omega⟩
  · have hs0 := h.hs
    refine hs0.trans hs ?_
    rcases h.ho with e2 | ⟨b, e2, hb⟩
    · exact .inl e2
    · exact .inr ⟨b, e2, by have := hZ.s2; have := hZ.b5; omega⟩
  · rcases hn with e | ⟨b, e, hb⟩
    · rw [e]; exact h.ho
    · exact .inr ⟨b, e, by omega⟩
/-- The map grows. -/
theorem GwL.put (hZ : GwZ p) (h : GwL p xw vc L W') {L' : List (Int × Int)} (hg : W'.grownBy W'' (some p.bm)) (hm : MapAt mkInts W'' p.bm L') : GwL p xw vc L' W'' := by
  have hbw := hZ.bw
  have hba := hZ.ba
  have hbm := hZ.bm
  have hs2 := hZ.s2
  have hd := hZ.d57
  have hne : ∀ k, k ≠ p.bm → some k ≠ some p.bm := fun k hk e => hk (Option.some.inj e)
  refine ⟨h.wi.kept hg (fun k e => by cases e; refine ⟨by omega, fun e2 => ?_⟩; rcases h.ho with e3 | ⟨b, e3, hb⟩; rw [e3] at e2; have := hZ.o2 _ e2; omega; rw [e3] at e2; cases e2; omega),
    (hg.block _ (lt_of_heap h.h2) (hne _ (by omega))).trans h.h2, (hg.block _ (lt_of_heap h.h3) (hne _ (by omega))).trans h.h3, (hg.block _ (lt_of_heap h.h5) (hne _ hd.1)).trans h.h5, (hg.block _ (lt_of_heap h.h7) (hne _ hd.2)).trans h.h7, hm,
    OwnI.kept h.hN hg (fun b hb e => hZ.dnt.1 (hb.trans e)), OwnI.kept h.hT hg (fun b hb e => hZ.dnt.2 (hb.trans e)), h.hs.kept hg (fun k e => by cases e; omega), h.ho, Nat.le_trans h.hz hg.size⟩
/-- A place is noted. -/
theorem GwL.at (hZ : GwZ p) (h : GwL p xw vc L W') {i : Nat} (hi : i < xw.ats.length) (v : Int) : GwL p ⟨xw.code, xw.ats.set i v⟩ vc L (W'.setCell ⟨p.r.ba, i, none⟩ (.int .i64 v)) := by
  have hba := hZ.ba
  have hso : ∀ k, k ≠ p.r.ba → (W'.setCell ⟨p.r.ba, i, none⟩ (.int .i64 v)).heap[k]? = W'.heap[k]? := fun k hk => heap_setCell_other _ _ _ _ hk
  have hge := own_ge h.wi.hc
  refine h.step hZ ⟨?_, (hso _ (by omega)).trans h.wi.hx, ownX_at h.wi.hc (fun b hb => hso b (by have := hge b hb; omega)), h.wi.ha.set hi v, h.wi.lt, h.wi.sz⟩ ⟨?_, ?_, ?_, by simp, fun b hb h1 h2 _ => hso b h2⟩ (.inl rfl)
  · exact h.wi.hb.setCell (p := ⟨p.r.ba, i, none⟩) (.inr rfl) _
  · simp [World.setCell]
  · simp [World.setCell]
  · simp [World.setCell]
end
section
variable {p : GwP} {xw : WriN} {vc : Value} {L : List (Int × Int)} {W' W'' : World}
theorem GwL.raise (h : GwL p xw vc L W') (e : vc.ownBlock = p.o) {Z : Nat} (hz : Z ≤ W'.heap.size) : GwL { p with Z := Z } xw vc L W' :=
  ⟨h.wi, h.h2, h.h3, h.h5, h.h7, h.hM, h.hN, h.hT, h.hs, .inl e, hz⟩
theorem GwZ.raise (h : GwZ p) {Z : Nat} (hz : p.Z ≤ Z) : GwZ { p with Z := Z } :=
  ⟨h.bw, h.ba, h.s2, h.o2, ⟨h.b5.1, Nat.lt_of_lt_of_le h.b5.2 hz⟩, ⟨h.bm.1, Nat.lt_of_lt_of_le h.bm.2 hz⟩, ⟨h.b7.1, Nat.lt_of_lt_of_le h.b7.2 hz⟩, fun b e => ⟨(h.nb b e).1, Nat.lt_of_lt_of_le (h.nb b e).2 hz⟩, fun b e => ⟨(h.tb b e).1, Nat.lt_of_lt_of_le (h.tb b e).2 hz⟩, h.d57, h.dnt⟩
/-- Another list of the group's own. -/
theorem GwL.own (hZ : GwZ p) (h : GwL p xw vc L W') (hs : WStep p.r vc.ownBlock W' W'') {base : Nat} {v : Value} {l : List Int} (ho : OwnI W' base v l) (hb : ∀ b, v.ownBlock = some b → p.b2 ≤ b ∧ b < p.Z) : OwnI W'' base v l := by
  have hbw := hZ.bw
  have hba := hZ.ba
  have hz := h.hz
  refine own_later ho (fun k hk _ => ?_)
  obtain ⟨h1, h2⟩ := hb k hk
  exact hs.block k (by omega) (by omega) (by omega) (fun e => by
    rcases h.ho with e2 | ⟨b, e2, hb⟩
    · rw [e2] at e; have := hZ.o2 k e.symm; omega
    · rw [e2] at e; cases e; omega)
theorem GwL.cells (h : GwL p xw vc L W') : W'.cell? ⟨p.b2, 0, none⟩ = some (.pointer (some ⟨p.r.bw, 0, none⟩)) ∧ W'.cell? ⟨p.b2 + 1, 0, none⟩ = some (.int .i64 p.x.g.frm) ∧ W'.cell? ⟨p.b2 + 1, 1, none⟩ = some (.int .i64 p.x.g.til) ∧ W'.cell? ⟨p.b2 + 1, 3, none⟩ = some (.int .i64 p.x.g.wr) ∧
    W'.cell? ⟨p.r.bw, 8, none⟩ = some (.slice p.r.ha p.r.h.length p.r.hc) ∧ W'.cell? ⟨p.r.bw, 15, none⟩ = some vc ∧ W'.cell? ⟨p.r.bw, 17, none⟩ = some (.slice (some ⟨p.r.ba, 0, none⟩) p.r.u.code.length p.r.u.code.length) ∧ W'.cell? ⟨p.b7, 0, none⟩ = some (.map (some p.bm)) := by
  obtain ⟨g0, g1, _, g3⟩ := box4 h.h3
  exact ⟨(cell_of_row _ _ 0 _ _ _ h.h2).trans rfl, g0, g1, g3, (cell_of_row _ _ 8 _ _ _ h.wi.hx).trans rfl, (cell_of_row _ _ 15 _ _ _ h.wi.hx).trans rfl, (cell_of_row _ _ 17 _ _ _ h.wi.hx).trans rfl, (cell_of_row _ _ 0 _ _ _ h.h7).trans rfl⟩
end
theorem RdI.off {W W' : World} {a : Option Addr} {l : List Int} (h : RdI W a l) (hs : W.heap.size ≤ W'.heap.size) (hk : ∀ b off, a = some ⟨b, off, none⟩ → W'.heap[b]? = W.heap[b]?) : RdI W' a l := by
  intro i hi
  obtain ⟨b, off, ha, hlt, hc⟩ := h i hi
  refine ⟨b, off, ha, by omega, ?_⟩
  unfold World.cell? at hc ⊢
  rw [hk b off ha]
  exact hc
/-- The loads ahead of the group, so many of them. -/
def xwLd (r : WtrN) (g : GrpN) (T : List Int) (xw : WriN) (j : Nat) : WriN :=
  ⟨xw.code ++ ((grpLoads r.h g).take j).map (fun s => loadI (inTmp (grpLoads r.h g) T s) (-2 - homeN r.h s)), xw.ats.set g.frm xw.code.length⟩
theorem xwLd_zero (r : WtrN) (g : GrpN) (T : List Int) (xw : WriN) : xwLd r g T xw 0 = ⟨xw.code, xw.ats.set g.frm xw.code.length⟩ := by unfold xwLd; rw [List.take_zero, List.map_nil, List.append_nil]
def inMap (r : WtrN) (g : GrpN) (T : List Int) (j : Nat) : List (Int × Int) := ((grpLoads r.h g).take j).map fun s => (s, inTmp (grpLoads r.h g) T s)
/-- The instructions of the group, so many of them. -/
def xwIn (r : WtrN) (g : GrpN) (T fr : List Int) (y : WriN) : Nat → WriN
  | 0 => y
  | 1 => ⟨y.code ++ [replI (r.u.code.getD g.frm ins0) (rdTo r.h (grpLoads r.h g) T) (wrTo r.h fr)], y.ats⟩
  | m + 2 => grpIns r.u r.h (grpLoads r.h g) T fr (xwIn r g T fr y (m + 1)) (g.frm + (m + 1))
theorem xwIn_fold (r : WtrN) (g : GrpN) (T fr : List Int) (y : WriN) : ∀ m, xwIn r g T fr y (m + 1) = ((List.range m).map (g.frm + 1 + ·)).foldl (grpIns r.u r.h (grpLoads r.h g) T fr) (xwIn r g T fr y 1)
  | 0 => rfl
  | m + 1 => by
    rw [List.range_succ, List.map_append, List.foldl_append, ← xwIn_fold r g T fr y m]
    show grpIns _ _ _ _ _ (xwIn r g T fr y (m + 1)) (g.frm + (m + 1)) = grpIns _ _ _ _ _ _ (g.frm + 1 + m)
    rw [show g.frm + (m + 1) = g.frm + 1 + m by omega]
/-- The group is written. -/
theorem grpWri_xw (r : WtrN) (g : GrpN) (hle : g.frm ≤ g.til) (xw : WriN) : grpWri r.u (liveL r.u) r.h r.k xw g =
    (if 0 ≤ g.wr ∧ homeN r.h g.wr ≤ -2 then ⟨(xwIn r g (freeL r.h r.k (grpBusy r.u (liveL r.u) g)) (freeL r.h r.k (grpBehind r.u (liveL r.u) g)) (xwLd r g (freeL r.h r.k (grpBusy r.u (liveL r.u) g)) xw (grpLoads r.h g).length) (g.til + 1 - g.frm)).code ++ [storeI (-2 - homeN r.h g.wr) (wrTo r.h (freeL r.h r.k (grpBehind r.u (liveL r.u) g)) g.wr)],
        (xwIn r g (freeL r.h r.k (grpBusy r.u (liveL r.u) g)) (freeL r.h r.k (grpBehind r.u (liveL r.u) g)) (xwLd r g (freeL r.h r.k (grpBusy r.u (liveL r.u) g)) xw (grpLoads r.h g).length) (g.til + 1 - g.frm)).ats⟩
      else xwIn r g (freeL r.h r.k (grpBusy r.u (liveL r.u) g)) (freeL r.h r.k (grpBehind r.u (liveL r.u) g)) (xwLd r g (freeL r.h r.k (grpBusy r.u (liveL r.u) g)) xw (grpLoads r.h g).length) (g.til + 1 - g.frm)) := by
  obtain ⟨m, hm⟩ : ∃ m, g.til + 1 - g.frm = m + 1 := ⟨g.til - g.frm, by omega⟩
  have hm2 : g.til - g.frm = m := by omega
  rw [hm, xwIn_fold]
  unfold grpWri
  simp only [hm2]
  unfold xwIn xwLd
  rw [List.take_length]
/-- How long it is. -/
theorem xwIn_len (r : WtrN) (g : GrpN) (T fr : List Int) (y : WriN) : ∀ m, (xwIn r g T fr y m).code.length = y.code.length + m ∧ (xwIn r g T fr y m).ats.length = y.ats.length
  | 0 => ⟨rfl, rfl⟩
  | 1 => ⟨by unfold xwIn; simp only [List.length_append, List.length_singleton], rfl⟩
  | m + 2 => by
    obtain ⟨h1, h2⟩ := xwIn_len r g T fr y (m + 1)
    unfold xwIn grpIns
    simp only [List.length_append, List.length_singleton, List.length_set]
    omega
theorem xwLd_len (r : WtrN) (g : GrpN) (T : List Int) (xw : WriN) {j : Nat} (hj : j ≤ (grpLoads r.h g).length) : (xwLd r g T xw j).code.length = xw.code.length + j ∧ (xwLd r g T xw j).ats.length = xw.ats.length := by
  unfold xwLd
  refine ⟨?_, List.length_set⟩
  show (xw.code ++ _).length = _
  rw [List.length_append, List.length_map, List.length_take]
  omega
theorem xwLd_succ (r : WtrN) (g : GrpN) (T : List Int) (xw : WriN) {j : Nat} (hj : j < (grpLoads r.h g).length) : xwLd r g T xw (j + 1) =
    ⟨(xwLd r g T xw j).code ++ [loadI (inTmp (grpLoads r.h g) T (grpLoads r.h g)[j]) (-2 - homeN r.h (grpLoads r.h g)[j])], (xwLd r g T xw j).ats⟩ := by
  unfold xwLd
  rw [List.take_succ_eq_append_getElem hj, List.map_append, List.append_assoc]
  rfl
theorem idx_of_get : ∀ {l : List Int} {j : Nat} (h : j < l.length), l.Nodup → l.idxOf l[j] = j
  | x :: l, 0, _, _ => by simp
  | x :: l, j + 1, h, hn => by
    obtain ⟨n1, n2⟩ := List.nodup_cons.1 hn
    have hj : j < l.length := by simpa using h
    have ih := idx_of_get hj n2
    rw [List.getElem_cons_succ, List.idxOf_cons]
    have hne : (x == l[j]) = false := by
      rw [beq_eq_false_iff_ne]
      intro e
      exact n1 (e ▸ List.getElem_mem hj)
    rw [hne]
    simp [ih]
theorem inMap_succ (r : WtrN) (g : GrpN) (T : List Int) {j : Nat} (hj : j < (grpLoads r.h g).length) (hn : (grpLoads r.h g).Nodup) (hl : (grpLoads r.h g).length ≤ T.length) :
    inTmp (grpLoads r.h g) T (grpLoads r.h g)[j] = T[j]'(by omega) ∧ (putM (grpLoads r.h g)[j] (T[j]'(by omega)) (inMap r g T j)).Perm (inMap r g T (j + 1)) ∧ (inMap r g T j).length = j := by
  have e1 : inTmp (grpLoads r.h g) T (grpLoads r.h g)[j] = T[j]'(by omega) := by
    unfold inTmp
    rw [idx_of_get hj hn, getD_in]
  refine ⟨e1, ?_, by unfold inMap; rw [List.length_map, List.length_take]; omega⟩
  have hp := had_perm (L := inMap r g T j) (s := (grpLoads r.h g)[j]) (c := T[j]'(by omega)) (fun x hx => by
    unfold inMap at hx
    obtain ⟨s, hs, rfl⟩ := List.mem_map.1 hx
    obtain ⟨i, hi, rfl⟩ := List.getElem_of_mem hs
    rw [List.length_take] at hi
    rw [List.getElem_take]
    exact List.pairwise_iff_getElem.1 hn i j (by omega) hj (by omega))
  refine hp.trans ?_
  unfold inMap
  rw [List.take_succ_eq_append_getElem hj, List.map_append, List.map_singleton, e1]
theorem inMap_apart (r : WtrN) (g : GrpN) (T : List Int) (j : Nat) (hn : (grpLoads r.h g).Nodup) : ApartM (inMap r g T j) := by
  unfold ApartM inMap
  rw [List.pairwise_map]
  exact (hn.sublist (List.take_sublist _ _)).imp fun h => h
theorem inMap_get (r : WtrN) (g : GrpN) (T : List Int) {s : Int} (hs : s ∈ grpLoads r.h g) (hn : (grpLoads r.h g).Nodup) : getM (inMap r g T (grpLoads r.h g).length) s = some (inTmp (grpLoads r.h g) T s) :=
  getM_of_mem (inMap_apart r g T _ hn) (by
    unfold inMap
    rw [List.take_length]
    exact List.mem_map.2 ⟨s, hs, rfl⟩)
theorem inMap_succK {r : WtrN} {g : GrpN} {T K : List Int} (hK : K = grpLoads r.h g) {j : Nat} (hj : j < K.length) (hn : K.Nodup) (hl : K.length ≤ T.length) :
    (putM K[j] (T[j]'(by omega)) (inMap r g T j)).Perm (inMap r g T (j + 1)) ∧ (inMap r g T j).length = j ∧ getM (inMap r g T (j + 1)) K[j] = some (T[j]'(by omega)) := by
  subst hK
  obtain ⟨_, h2, h3⟩ := inMap_succ r g T hj hn hl
  exact ⟨h2, h3, getM_of_mem (inMap_apart r g T _ hn) (h2.subset (by unfold putM; exact List.mem_cons_self))⟩
theorem xwLd_succK {r : WtrN} {g : GrpN} {T K : List Int} (hK : K = grpLoads r.h g) (xw : WriN) {j : Nat} (hj : j < K.length) (hn : K.Nodup) (hl : K.length ≤ T.length) :
    xwLd r g T xw (j + 1) = ⟨(xwLd r g T xw j).code ++ [⟨33, T[j]'(by omega), -2 - homeN r.h K[j], 0⟩], (xwLd r g T xw j).ats⟩ ∧ (xwLd r g T xw j).code.length = xw.code.length + j := by
  subst hK
  obtain ⟨h1, _, _⟩ := inMap_succ r g T hj hn hl
  refine ⟨?_, (xwLd_len r g T xw (by omega)).1⟩
  rw [xwLd_succ r g T xw hj, h1]
  rfl
end Go.Proofs.YtgalekifgnecjaaGreat
