/- The reference of layer 8: Sorted, plainly. The reference of layer 8: Sorted. The rows of the reference's Live, in memory; what a loop over numbers keeps. -/
import Derived.Test.YtgalekifgnecjaaGreatZ8
import Derived.BigRegion
namespace Go.Proofs.YtgalekifgnecjaaGreat
open Go.RowKit

open Go.RowKit Go.Shelf
/-- The state of the inner loop: the number at place A.length is being brought to its place. -/
structure InsAt (l c : List Int) (i : Nat) (A : List Int) (x : Int) (B R : List Int) : Prop where
  eq : c = A ++ x :: B ++ R
  perm : c.Perm l
  len : A.length + B.length = i
  srt : (A ++ B).Pairwise (· < ·)
  lt : ∀ b ∈ B, x < b
theorem InsAt.step {l c : List Int} {i : Nat} {A : List Int} {x y : Int} {B R : List Int} (h : InsAt l c i (A ++ [y]) x B R) (hxy : x < y) :
    InsAt l ((c.set (A.length + 1) y).set A.length x) i A x (y :: B) R := by
  have e : (c.set (A.length + 1) y).set A.length x = A ++ x :: (y :: B) ++ R := by
    rw [h.eq]
    simp
  refine ⟨e, ?_, ?_, ?_, ?_⟩
  · rw [e]
    refine List.Perm.trans ?_ h.perm
    rw [h.eq]
    simp only [List.append_assoc, List.cons_append, List.nil_append]
    exact List.Perm.append_left A (List.Perm.swap y x (B ++ R))
  · have := h.len
    simp only [List.length_append, List.length_cons, List.length_nil] at this ⊢
    omega
  · have := h.srt
    simpa using this
  · intro b hb
    rcases List.mem_cons.1 hb with rfl | hb
    · exact hxy
    · exact h.lt b hb
/-- The state of the outer loop: the first i numbers are in order. -/
structure InsTo (l c : List Int) (i : Nat) : Prop where
  perm : c.Perm l
  srt : (c.take i).Pairwise (· < ·)
theorem InsTo.start {l c : List Int} {i : Nat} (h : InsTo l c i) (hi : i < c.length) : InsAt l c i (c.take i) c[i] [] (c.drop (i + 1)) := by
  refine ⟨?_, h.perm, ?_, by simpa using h.srt, by simp⟩
  · simp only [List.append_assoc, List.cons_append, List.nil_append]
    rw [List.getElem_cons_drop, List.take_append_drop]
  · rw [List.length_take]
    simp
    omega
theorem InsAt.stop {l c : List Int} {i : Nat} {A : List Int} {x : Int} {B R : List Int} (h : InsAt l c i A x B R) (hnd : l.Nodup) (hA : ∀ a, A.getLast? = some a → ¬ x < a) : InsTo l c (i + 1) := by
  have hnc : c.Nodup := h.perm.nodup_iff.2 hnd
  have hle : ∀ a ∈ A, a < x := by
    intro a ha
    rcases List.eq_nil_or_concat A with rfl | ⟨A', y, rfl⟩
    · cases ha
    · rw [List.concat_eq_append] at ha h
      have hy := hA y (by simp)
      have hne : y ≠ x := by
        rintro rfl
        rw [h.eq] at hnc
        simp [List.nodup_append, List.nodup_cons] at hnc
      have hyx : y < x := by omega
      rcases List.mem_append.1 ha with ha | ha
      · have hs := h.srt
        simp only [List.pairwise_append] at hs
        have := hs.1.2.2 a ha y (by simp)
        omega
      · have : a = y := by simpa using ha
        omega
  refine ⟨h.perm, ?_⟩
  have e : c.take (i + 1) = A ++ x :: B := by
    rw [h.eq, List.take_append_of_le_length (by have := h.len; simp only [List.length_append, List.length_cons]; omega), List.take_of_length_le (by have := h.len; simp only [List.length_append, List.length_cons]; omega)]
  rw [e]
  have hs := h.srt
  simp only [List.pairwise_append, List.pairwise_cons] at hs ⊢
  exact ⟨hs.1, ⟨h.lt, hs.2.1⟩, fun a ha b hb => by
    rcases List.mem_cons.1 hb with rfl | hb
    · exact hle a ha
    · exact hs.2.2 a ha b hb⟩

attribute [local go_sem] Oper.semAt_some
attribute [local irreducible] wpStill
/-- What Sorted returns. -/
def SrtRet (l : List Int) (w : World) (e : Ending) (w' : World) : Prop := Below w.heap.size w w' ∧ ∃ v s, e = .returned v ∧ RdV w' v s ∧ s.Perm l ∧ s.Pairwise (· < ·)
set_option maxRecDepth 100000 in
set_option maxHeartbeats 8000000 in
theorem sorted123 (l : List Int) (hnd : l.Nodup) (a : Option Addr) (c : Nat) (w : World) (hr : RdI w a l) (hlen : l.length ≤ 100000) : Calls Tryz.prog 123 #[.slice a l.length c] w (SrtRet l w) := by
  by_cases hne : l = []
  · subst hne
    clear hr hnd hlen
    cases a with
    | none =>
      go_enter Tryz.func123, Tryz.ntmps123
      go_wp2
      go_loopg [4] 0 (fun gh s4 wr => gh = 0 ∧ s4 = .int .i64 1 ∧ Hid (Below w.heap.size w wr))
      case atStart => exact ⟨rfl, rfl, hid (by first | exact Below.refl _ _ | exact bnew _ _)⟩
      case round =>
        obtain ⟨rfl, rfl, HK⟩ := hrel
        go_wp2
        go_ret
        exact ⟨HK.out, _, [], rfl, by first | exact RdV.nilP _ | exact ⟨_, _, rfl, fun _ h => absurd h (Nat.not_lt_zero _), Nat.zero_le _, .inr ⟨_, _, rfl⟩⟩, List.Perm.refl _, List.Pairwise.nil⟩
    | some a =>
      have HR : Hid (RdI w (some a) []) := hid (fun _ h => absurd h (Nat.not_lt_zero _))
      go_enter Tryz.func123, Tryz.ntmps123
      go_wp2_with (at_builtin; refine wpList_append_ints _ rfl _ _ rfl w.heap.size _ [] [] rfl (OwnI.none (Nat.le_refl _) (heapn _ _ _ rfl)) (some a) c rfl (HR.out.below (bnew _ _)) (by simp; try omega) (by simp) ?_; intro v1 w1 hown1 hg1 hat1; have HOW : Hid (OwnI w1 w.heap.size v1 []) := hid (by simpa using hown1); have HB1 : Hid (Below w.heap.size w w1) := hid (Below.grown (bnew _ _) hg1 (by simp) (own_ge (OwnI.none (base := w.heap.size) (w := w.alloc (.cells #[] 3)) (Nat.le_refl _) (heapn _ _ _ rfl)))); clear hown1 hg1 hat1)
      obtain ⟨a1, c1, rfl, hr1⟩ := HOW.out.rd
      have HV := hid (ownI_rdV HOW.out)
      clear hr1
      go_loopg [4] 0 (fun gh s4 wr => gh = 0 ∧ s4 = .int .i64 1 ∧ Hid (wr = w1))
      case atStart => exact ⟨rfl, rfl, hid rfl⟩
      case round =>
        obtain ⟨rfl, rfl, HK⟩ := hrel
        obtain rfl := HK.out
        go_wp2
        go_ret
        exact ⟨HB1.out, _, [], rfl, HV.out, List.Perm.refl _, List.Pairwise.nil⟩
  · obtain ⟨a, rfl⟩ : ∃ b, a = some b := by
      cases l with
      | nil => exact absurd rfl hne
      | cons x l =>
        obtain ⟨b, off, e, _⟩ := hr 0 (Nat.succ_pos _)
        exact ⟨_, e⟩
    have HR := hid hr
    have HND := hid hnd
    clear hr hnd
    go_enter Tryz.func123, Tryz.ntmps123
    go_wp2_with (at_builtin; refine wpList_append_ints _ rfl _ _ rfl w.heap.size _ [] l rfl (OwnI.none (Nat.le_refl _) (heapn _ _ _ rfl)) (some a) c rfl (HR.out.below (bnew _ _)) (by simp; try omega) (by simp) ?_; intro v1 w1 hown1 hg1 hat1; have HOW : Hid (OwnI w1 w.heap.size v1 l) := hid (by simpa using hown1); have HB1 : Hid (Below w.heap.size w w1) := hid (Below.grown (bnew _ _) hg1 (by simp) (own_ge (OwnI.none (base := w.heap.size) (w := w.alloc (.cells #[] 3)) (Nat.le_refl _) (heapn _ _ _ rfl)))); clear hown1 hg1 hat1)
    obtain ⟨g, cap, rfl, hg, hbi⟩ := BI.of_own HOW.out hne
    have hcap : l.length ≤ cap := by
      obtain ⟨a9, c9, e9, -, h9, -⟩ := (ownI_rdV HOW.out).ex
      cases e9
      exact h9
    have HCAP := hid hcap
    have HBI := hid hbi
    have hn0 : 0 < l.length := List.length_pos_iff.2 hne
    clear hbi hcap hne HR HOW
    have HGW := hid hg
    clear hg
    go_loopg [4] (l.length - 1) (fun gh s4 wr => ∃ i s, 1 ≤ i ∧ i ≤ l.length ∧ gh = l.length - i ∧ s4 = .int .i64 (i : Nat) ∧ Hid (InsTo l s i ∧ BI wr g s ∧ Below w.heap.size w wr))
    case atStart => exact ⟨1, l, Nat.le_refl _, hn0, rfl, rfl, hid ⟨⟨List.Perm.refl _, by
      cases l with
      | nil => exact absurd hn0 (by simp)
      | cons x l => simp⟩, HBI.out, HB1.out⟩⟩
    case round =>
      clear HBI HB1
      obtain ⟨i, s, hi1, hin, rfl, rfl, HK⟩ := hrel
      have hsl : s.length = l.length := HK.out.1.perm.length_eq
      by_cases hlt : i < l.length
      · have ni : (i : Int) < (l.length : Int) := by omega
        have HIN := hid (HK.out.1.start (by omega : i < s.length))
        go_wp2
        go_loopg [5] (i + 1) (fun gh s5 w5 => ∃ j A x B R s', gh = j + 1 ∧ j ≤ i ∧ List.length A = j ∧ s5 = .int .i64 (j : Nat) ∧ Hid (InsAt l s' i A x B R ∧ BI w5 g s' ∧ Below w.heap.size w w5))
        case atStart => exact ⟨i, _, _, _, _, s, rfl, Nat.le_refl _, by rw [List.length_take]; omega, rfl, hid ⟨HIN.out, HK.out.2.1, HK.out.2.2⟩⟩
        case round =>
          clear HIN HK hsl
          obtain ⟨j, A, x, B, R, s', rfl, hji, hAl, rfl, HJ⟩ := hrel
          have hsl : s'.length = l.length := HJ.out.1.perm.length_eq
          rcases List.eq_nil_or_concat A with rfl | ⟨A', y, hA⟩
          · obtain rfl : j = 0 := by simpa using hAl.symm
            have HST := hid (HJ.out.1.stop HND.out (fun a e => by cases e))
            clear hAl hji
            go_upto_region 6 with fail
            go_quiet (fail)
            go_wp2
            go_roundg (l.length - (i + 1))
            case measure => omega
            case rel => exact ⟨i + 1, s', by omega, by omega, rfl, by go_num, hid ⟨HST.out, HJ.out.2.1.below (bdrewN (Below.refl _ _) _), bdrewN HJ.out.2.2 _⟩⟩
          · rw [List.concat_eq_append] at hA
            subst hA
            obtain rfl : j = A'.length + 1 := by simpa using hAl.symm
            have hl1 : A'.length + 1 < s'.length := by omega
            have e1 : s'[A'.length + 1] = x := by
              have h := HJ.out.1.eq
              simp [h]
            have e0 : s'[A'.length] = y := by
              have h := HJ.out.1.eq
              simp [h]
            have q1 := HJ.out.2.1.at hl1
            have q0 := HJ.out.2.1.at (by omega : A'.length < s'.length)
            rw [e1] at q1
            rw [e0] at q0
            have n1 : ((A'.length + 1 : Nat) : Int) < (l.length : Int) := by omega
            have n2 : (0 : Int) < ((A'.length + 1 : Nat) : Int) := by omega
            have n3 : IntKind.i64.wrap (((A'.length + 1 : Nat) : Int) - 1) = (A'.length : Int) := by rw [wrapk ⟨by omega, by omega⟩]; omega
            have n4 : (A'.length : Int) < (l.length : Int) := by omega
            clear e1 e0 hAl
            by_cases hxy : x < y
            · have HST := hid (HJ.out.1.step hxy)
              go_upto_region 6 with fail
              go_quiet (fail)
              have HBd := hid (bdrewN (Below.refl wr.heap.size wr) nq)
              have p1 := cell_later HBd.out q1
              have p0 := cell_later HBd.out q0
              have HBI := hid (HJ.out.2.1.below HBd.out)
              have HBW := hid (HJ.out.2.2.step HBd.out)
              clear q1 q0
              generalize wr.drewN nq = wd at *
              have z1 := HBI.out.frozen (A'.length + 1)
              have z0 := HBI.out.frozen A'.length
              go_upto_region 8 with fail
              go_region
              go_wp2
              go_roundg (A'.length + 1)
              case measure => omega
              case rel =>
                refine ⟨A'.length, A', x, y :: B, R, _, rfl, by omega, rfl, by go_num, hid ⟨HST.out, ((HBI.out.set hl1 y).set (by simp; omega) x).below (bdrew _), ?_⟩⟩
                refine Below.drew ?_
                repeat (refine Below.setCell ?_ (by have := HGW.out; show w.heap.size ≤ g; omega) _)
                exact HBW.out
            · have d : decide (x < y) = false := decide_eq_false hxy
              have HST := hid (HJ.out.1.stop HND.out (fun a e => by
                have : y = a := by simpa using e
                rw [← this]
                exact hxy))
              clear hxy
              go_upto_region 6 with fail
              go_quiet (fail)
              go_wp2
              go_roundg (l.length - (i + 1))
              case measure => omega
              case rel => exact ⟨i + 1, s', by omega, by omega, rfl, by go_num, hid ⟨HST.out, HJ.out.2.1.below (bdrewN (Below.refl _ _) _), bdrewN HJ.out.2.2 _⟩⟩
      · obtain rfl : i = l.length := by omega
        have ni : ¬ (l.length : Int) < (l.length : Int) := by omega
        go_wp2
        go_ret
        refine ⟨HK.out.2.2, _, s, rfl, ⟨some ⟨g, 0, none⟩, cap, by rw [hsl]; rfl, HK.out.2.1.rd, by rw [hsl]; exact HCAP.out, .inr ⟨_, _, rfl⟩⟩, HK.out.1.perm, ?_⟩
        have h := HK.out.1.srt
        rwa [List.take_of_length_le (by omega)] at h

def NdB (w : World) (b : Nat) (s : List (List Int)) : Prop := ∃ cur, w.heap[b]? = some (.cells cur 28 (0, 0)) ∧ cur.size = s.length ∧ ∀ i (h : i < s.length), ∃ v, cur[i]? = some v ∧ RdV w v s[i]
theorem NdB.below {w w' : World} {b : Nat} {s : List (List Int)} (h : NdB w b s) (hb : Below w.heap.size w w') : NdB w' b s := by
  obtain ⟨cur, h1, h2, h3⟩ := h
  refine ⟨cur, keepBox hb h1, h2, fun i hi => ?_⟩
  obtain ⟨v, h4, h5⟩ := h3 i hi
  exact ⟨v, h4, h5.below hb⟩
theorem NdB.rdm {w : World} {b : Nat} {s : List (List Int)} (h : NdB w b s) : RdM w (some ⟨b, 0, none⟩) s := by
  obtain ⟨cur, h1, h2, h3⟩ := h
  intro i hi
  obtain ⟨v, h4, h5⟩ := h3 i hi
  obtain ⟨a, c, rfl, hr, -, -⟩ := h5.ex
  exact ⟨b, 0, rfl, lt_of_heap h1, a, c, (cell_of_row _ _ _ _ _ _ h1).trans (by rw [Nat.zero_add]; exact h4), hr⟩
theorem cell_set_other {w : World} {p : Addr} {v : Value} {b o : Nat} (h : b ≠ p.block) : (w.setCell p v).cell? ⟨b, o, none⟩ = w.cell? ⟨b, o, none⟩ :=
  World.cell?_of_block (w := w) (heap_setCell_other _ _ _ _ h)
theorem NdB.keepV {w : World} {b : Nat} {s : List (List Int)} (h : NdB w b s) {k : Nat} {v u : Value} {T : List Int} (hu : RdV w u T) : RdV (w.setCell ⟨b, k, none⟩ v) u T := by
  obtain ⟨a, c, e, hr, hl, hn⟩ := hu.ex
  refine ⟨a, c, e, fun i hi => ?_, hl, hn⟩
  obtain ⟨b2, off, ha, hlt, hc⟩ := hr i hi
  have hne : b2 ≠ b := by
    rintro rfl
    obtain ⟨cur, h1, h2, h3⟩ := h
    rw [cell_of_row _ _ _ _ _ _ h1] at hc
    have hlt2 : off + i < s.length := by rw [← h2]; exact (Array.getElem?_eq_some_iff.1 hc).1
    obtain ⟨v, h4, h5⟩ := h3 _ hlt2
    obtain ⟨a5, c5, e5, _⟩ := h5.ex
    rw [hc] at h4
    cases h4
    cases e5
  refine ⟨b2, off, ha, ?_, (cell_set_other (p := ⟨b, k, none⟩) hne).trans hc⟩
  rw [World.size_setCell]
  exact hlt
theorem NdB.set {w : World} {b : Nat} {s : List (List Int)} (h : NdB w b s) {k : Nat} (hk : k < s.length) {v : Value} {S : List Int} (hv : RdV w v S) : NdB (w.setCell ⟨b, k, none⟩ v) b (s.set k S) := by
  have hkeep := fun {u : Value} {T : List Int} (hu : RdV w u T) => NdB.keepV h (k := k) (v := v) hu
  obtain ⟨cur, h1, h2, h3⟩ := h
  refine ⟨_, heap_setCell_same _ _ k _ _ _ h1, by simp [h2], fun i hi => ?_⟩
  by_cases e : i = k
  · subst e
    exact ⟨v, by simp [h2, hk], by rw [List.getElem_set_self]; exact hkeep hv⟩
  · obtain ⟨v1, h4, h5⟩ := h3 i (by simpa using hi)
    refine ⟨v1, by rw [Array.getElem?_setIfInBounds_ne (fun e2 => e e2.symm)]; exact h4, ?_⟩
    rw [List.getElem_set_ne (fun e2 => e e2.symm)]
    exact hkeep h5
theorem nd_made (w : World) (n : Nat) : NdB (w.alloc (.cells (madeCells #[.slice none 0 0] n) 28)) w.heap.size (List.replicate n []) := by
  refine ⟨_, heapn _ _ _ rfl, by simp [madeCells], fun i hi => ?_⟩
  rw [List.length_replicate] at hi
  refine ⟨.slice none 0 0, ?_, ?_⟩
  · simp [madeCells, hi, Nat.mod_one]
  · have e : (List.replicate n ([] : List Int))[i]'(by simpa using hi) = [] := by simp
    rw [e]
    exact RdV.nilP _
/-- A list of the call's own grows while another one is gone through. -/
structure GrI (base : Nat) (ra : Option Addr) (R : List Int) (w : World) (v : Value) (l : List Int) : Prop where
  own : OwnI w base v l
  rd : RdI w ra R
  ne : ∀ b off, ra = some ⟨b, off, none⟩ → b < w.heap.size ∧ some b ≠ v.ownBlock
theorem GrI.add {base : Nat} {ra : Option Addr} {R : List Int} {w w' : World} {v : Value} {l m : List Int} {e : Ending} (h : GrI base ra R w v l) (hA : AddRet v base m w e w') : ∃ v', e = .returned v' ∧ GrI base ra R w' v' m ∧ w.grownBy w' v.ownBlock := by
  obtain ⟨v', e', ho, hg, hb⟩ := hA
  refine ⟨v', e', ⟨ho, RdI.grown h.rd hg (fun b off e => (h.ne b off e).2), fun b off e => ?_⟩, hg⟩
  obtain ⟨h1, h2⟩ := h.ne b off e
  refine ⟨Nat.lt_of_lt_of_le h1 hg.size, fun h3 => ?_⟩
  rcases hb with h4 | ⟨b', h4, h5⟩
  · exact h2 (h3.trans h4)
  · rw [h4] at h3
    cases h3
    omega
theorem GrI.below {base : Nat} {ra : Option Addr} {R : List Int} {w w' : World} {v : Value} {l : List Int} (h : GrI base ra R w v l) (hb : Below w.heap.size w w') : GrI base ra R w' v l :=
  ⟨h.own.later hb, h.rd.below hb, fun b off e => ⟨Nat.lt_of_lt_of_le (h.ne b off e).1 hb.size, (h.ne b off e).2⟩⟩
theorem GrI.of {base base2 : Nat} {w w' : World} {v u : Value} {l R : List Int} (h : OwnI w base v l) (hb : Below w.heap.size w w') (ho : OwnI w' base2 u R) (hb2 : w.heap.size ≤ base2) : ∃ ra rc, u = .slice ra R.length rc ∧ GrI base ra R w' v l := by
  obtain ⟨ra, rc, rfl, hr⟩ := ho.rd
  refine ⟨ra, rc, rfl, h.later hb, hr, fun b off e => ?_⟩
  subst e
  have h1 := own_ge ho b rfl
  have h2 := own_ltR ho b rfl
  refine ⟨h2, fun e => ?_⟩
  have h3 := own_ltR h b e.symm
  omega
theorem GrI.grown {base : Nat} {ra : Option Addr} {R : List Int} {w0 w w' : World} {v : Value} {l : List Int} (h : GrI base ra R w v l) (hb : Below w0.heap.size w0 w) (hbase : w0.heap.size ≤ base) (hg : w.grownBy w' v.ownBlock) : Below w0.heap.size w0 w' :=
  Below.grown hb hg hb.size (fun k e => by have := own_ge h.own k e; omega)
end Go.Proofs.YtgalekifgnecjaaGreat
