/- The contract of Insert of package table. -/
import Derived.Test.YtecpkjhfbmchgaaG13
import Derived.Test.YtecpkjhfbmchgaaG16
import Derived.Deep.RegionLawGrows
namespace Go.Proofs.Ytecpkjhfbmchgaa
open Go.RowKit

/-- The world is as it was, but for block M and what is new. -/
structure But (M : Nat) (w w' : World) : Prop where
  os : w'.os = w.os
  tape : w'.tape = w.tape
  output : w'.output = w.output
  size : w.heap.size ≤ w'.heap.size
  block : ∀ k, k < w.heap.size → k ≠ M → w'.heap[k]? = w.heap[k]?
theorem But.refl (M : Nat) (w : World) : But M w w := ⟨rfl, rfl, rfl, Nat.le_refl _, fun _ _ _ => rfl⟩
theorem But.trans {M : Nat} {a b c : World} (h : But M a b) (k : But M b c) : But M a c :=
  ⟨k.os.trans h.os, k.tape.trans h.tape, k.output.trans h.output, Nat.le_trans h.size k.size, fun i hi hm => (k.block i (Nat.lt_of_lt_of_le hi h.size) hm).trans (h.block i hi hm)⟩
theorem But.of_below {M : Nat} {a b : World} (h : Below a.heap.size a b) : But M a b := ⟨h.os, h.tape, h.output, h.size, fun k hk _ => h.block k hk⟩
theorem But.drew {M : Nat} {a w : World} (h : But M a w) : But M a w.drew := ⟨h.os, h.tape, h.output, h.size, h.block⟩
theorem But.set {M : Nat} {a w : World} (h : But M a w) (o : Nat) (v : Value) : But M a (w.setCell ⟨M, o, none⟩ v) :=
  h.trans ⟨rfl, rfl, rfl, by simp [World.setCell], fun k _ hm => Below.heap_setCell _ _ _ _ hm⟩
theorem But.below {M B : Nat} {a b : World} (h : But M a b) (hB : B ≤ M) (hs : B ≤ a.heap.size) : Below B a b := ⟨h.os, h.tape, h.output, h.size, fun k hk => h.block k (by omega) (by omega)⟩
theorem But.cell {M : Nat} {w w' : World} (h : But M w w') {p : Addr} (hp : p.block < w.heap.size) (hm : p.block ≠ M) : w'.cell? p = w.cell? p := World.cell?_of_block (w := w) (h.block p.block hp hm)
theorem RdI.but {M : Nat} {w w' : World} {a : Option Addr} {l : List Int} (h : RdI w a l) (hb : But M w w') (hn : ∀ b off, a = some ⟨b, off, none⟩ → b ≠ M) : RdI w' a l := by
  intro i hi
  obtain ⟨b, off, ha, hlt, h1⟩ := h i hi
  exact ⟨b, off, ha, Nat.lt_of_lt_of_le hlt hb.size, by rw [hb.cell hlt (hn b off ha)]; exact h1⟩
theorem RdP.but {M : Nat} {w w' : World} {a : Option Addr} {l : List (Int × Int)} (h : RdP w a l) (hb : But M w w') (hn : ∀ b off, a = some ⟨b, off, none⟩ → b ≠ M) : RdP w' a l := by
  intro i hi
  obtain ⟨b, off, ha, hlt, h1, h2⟩ := h i hi
  exact ⟨b, off, ha, Nat.lt_of_lt_of_le hlt hb.size, by rw [hb.cell hlt (hn b off ha)]; exact h1, by rw [hb.cell hlt (hn b off ha)]; exact h2⟩

/-- A number is put behind a slice that is full. -/
theorem step_append_full {ops : Array Oper} {o : Oper} {a : Act} {K : Act → World → Prop} {Q : Exit → Act → World → Prop} {E : Prop} (w : World) (hgd : o.guard = none) (s x : Operand)
    (ho : o.op = .call { callee := .builtin .append, args := #[s, x], argTypes := #[33, 33] }) (l : List Int) (ao : Option Addr) (hs : a.eval s = .slice ao l.length l.length) (hl : RdI w ao l) (ad : Addr) (c : Nat) (xv : Int) (hx : a.eval x = .slice (some ad) 1 c) (hc : w.cell? ad = some (.int .i64 xv)) (hn : l.length ≤ 1000000)
    (h : ∀ a' c' w', l.length + 1 ≤ c' → RdI w' a' (l ++ [xv]) → NewA w.heap.size a' → Below w.heap.size w w' → K (a.put o.dst (.slice a' (l.length + 1) c')) w') :
    if Region.wanted o (yielded ops a.tmps) = true then Oper.wp Try.prog o a w K Q else E := by
  obtain ⟨i4, hj4, hy0, hy1, hy2⟩ := info_parts info3
  refine step_append_grows hgd s x 33 ho 3 i4 _ 1 8 Try.underlying33 hj4 hy0 hy1 hy2 rfl (by decide) ao l.length l.length (l.map (Value.int .i64)) hs ?_ (by simp) ?_ ad 1 c [.int .i64 xv] hx rfl ?_ (by simp [Value.oneCell']) (by omega) (by unfold maxLen; omega) (by omega) ?_
  · intro e
    subst e
    cases l with
    | nil => exact ⟨rfl, rfl⟩
    | cons y l =>
      obtain ⟨b, off, e, _⟩ := hl 0 (Nat.succ_pos _)
      cases e
  · intro b e
    subst e
    cases l with
    | nil => intro j u hu; simp at hu
    | cons y l =>
      obtain ⟨b', off, e, _⟩ := hl 0 (Nat.succ_pos _)
      cases e
      exact hl.cells
  · intro j u hu
    match j, hu with
    | 0, hu => cases hu; exact hc
    | j + 1, hu => simp at hu
  · intro v' w' h1 h2
    have hown : OwnI w' w.heap.size v' (l ++ [xv]) := by
      unfold OwnI
      rw [List.length_append, List.map_append]
      exact h1
    obtain ⟨a', c', e, hr⟩ := hown.rd
    rw [List.length_append] at e
    subst e
    have hcap : l.length + 1 ≤ c' := by
      rcases h1.2 with ⟨e, h0⟩ | ⟨g, cap, cur, e, _, _, h3, _⟩
      · omega
      · injection e with e1 e2 e3
        omega
    have hnew : NewA w.heap.size a' := by
      rcases h1.2 with ⟨e, h0⟩ | ⟨g, cap, cur, e, hg, _⟩
      · omega
      · injection e with e1 e2 e3
        subst e1
        intro b off e
        cases e
        exact hg
    exact h a' c' w' hcap hr hnew (Below.grown (Below.refl _ _) h2 (Nat.le_refl _) (fun k hk => by cases hk))

set_option maxHeartbeats 1000000 in
theorem index58 (l : List Int) (a : Option Addr) (cap : Nat) (w : World) (hl : RdI w a l) (hlen : l.length ≤ 1000000) :
    Calls Try.prog 53 #[.slice a l.length cap, .func (.func 30) #[] #[]] w (RetS (.int .i64 (idxP (fun x => !rightB x) l)) w) := by
  have HL := hid hl; clear hl
  go_enter Try.func53, Try.ntmps53
  go_wp2
  go_loop [8] (fun i => ∃ j : Nat, j ≤ l.length ∧ i = .int .i64 j ∧ ∀ x, x ∈ l.take j → (!rightB x) = false) (fun i => l.length - (intOf i).toNat)
  case atStart => exact ⟨0, Nat.zero_le _, rfl, by simp⟩
  case round =>
    obtain ⟨j, hj, rfl, hq⟩ := hrel
    have HQ := hid hq; clear hq
    by_cases hlt : j < l.length
    · obtain ⟨b2, off, ha, hlt2, h1⟩ := HL.out j hlt
      subst ha
      go_wp2_with (go_at_call 30; refine (k58 _ _).mono ?_; rintro e w' ⟨rfl, rfl⟩)
      · have ht : (!rightB l[j]) = true := by assumption
        go_ret
        exact ⟨ret_int (idxP_some (p := fun x => !rightB x) hlt ht HQ.out).symm, rfl⟩
      · have ht : (!rightB l[j]) = false := by assumption
        have HT := hid ht; clear ht
        go_round
        case rel =>
          refine ⟨j + 1, by omega, by go_num, ?_⟩
          intro x hx
          rw [take_last hlt, List.mem_append] at hx
          rcases hx with hx | hx
          · exact HQ.out x hx
          · rw [List.mem_singleton.1 hx]; exact HT.out
        case measure => simp [intOf]; omega
    · go_wp2
      go_ret
      exact ⟨ret_int (idxP_none (p := fun x => !rightB x) (fun x hx => HQ.out x (by rw [List.take_of_length_le (by omega)]; exact hx))).symm, rfl⟩
theorem some58 (l : List Int) (a : Option Addr) (cap : Nat) (w : World) (hl : RdI w a l) (hlen : l.length ≤ 1000000) :
    Calls Try.prog 29 #[.slice a l.length cap, .func (.func 30) #[] #[]] w (RetS (.bool (!l.all rightB)) w) := by
  have hx : decide (0 ≤ idxP (fun x => !rightB x) l) = !l.all rightB := by rw [idxP_any, List.all_eq_not_any_not, Bool.not_not]
  have HX := hid hx; clear hx
  go_enter Try.func29, Try.ntmps29
  go_wp2_with (go_at_call 53; refine (index58 l a cap _ hl hlen).mono ?_; rintro e w' ⟨rfl, rfl⟩)
  go_ret
  exact ⟨ret_bool HX.out, rfl⟩

/-- What a call returns: rows laid over each other, and numbers. -/
def LdRet3 (L : Ld) (x y : Int) (w : World) (e : Ending) (w' : World) : Prop := Below w.heap.size w w' ∧ ∃ sa sc ca cc, e = .returned (.tuple #[vL L sa sc ca cc, .int .i64 x, .int .i64 y]) ∧ LdM w' L sa sc ca cc
def LdRet2 (L : Ld) (y : Int) (w : World) (e : Ending) (w' : World) : Prop := Below w.heap.size w w' ∧ ∃ sa sc ca cc, e = .returned (.tuple #[vL L sa sc ca cc, .int .i64 y]) ∧ LdM w' L sa sc ca cc
theorem LdM.empty (w : World) : LdM w emptyL none 0 none 0 := ⟨fun _i hi => absurd hi (Nat.not_lt_zero _), RdP.nil _ _, Nat.le_refl _, Nat.le_refl _⟩
theorem LdRet3.empty {w w' : World} (y : Int) (h : Below w.heap.size w w') : LdRet3 emptyL 0 y w (.returned (.tuple #[.agg #[.int .i64 0, .slice none 0 0, .slice none 0 0], .int .i64 0, .int .i64 y])) w' := ⟨h, none, 0, none, 0, rfl, LdM.empty _⟩
theorem LdRet2.empty {w w' : World} (y : Int) (h : Below w.heap.size w w') : LdRet2 emptyL y w (.returned (.tuple #[.agg #[.int .i64 0, .slice none 0 0, .slice none 0 0], .int .i64 y])) w' := ⟨h, none, 0, none, 0, rfl, LdM.empty _⟩
theorem RightL.good {L : Ld} (h : RightL L) : Good L.cells := fun _ ho => h.occ_none ho

theorem insV_no {L : Ld} {row : List Int} {e : Int} (h : insE L row = e) (he : e ≠ 0) : insV L row = emptyL ∧ insAt L row = 0 := by
  unfold insV insAt
  rw [h, if_neg he, if_neg he]
  exact ⟨rfl, rfl⟩

set_option maxRecDepth 100000 in
set_option maxHeartbeats 4000000 in
theorem insert_bad (L : Ld) (hf : Fit L) (row : List Int) (ar : Option Addr) (cr : Nat) (sa : Option Addr) (sc : Nat) (ca : Option Addr) (cc : Nat) (w : World) (hm : LdM w L sa sc ca cc) (hr : RdI w ar row) (_hrl : row.length ≤ 1000) (hb : insE L row = chkL L ∧ chkL L ≠ 0) :
    Calls Try.prog 15 #[vL L sa sc ca cc, .slice ar row.length cr] w (LdRet3 (insV L row) (insAt L row) (insE L row) w) := by
  have HM := hid hm; clear hm
  have HR := hid hr; clear hr
  have HB0 := hid (bnew w (.cells #[.int .i64 L.cols, .slice sa L.starts.length sc, .slice ca L.cells.length cc] 38))
  have HX2 := hid (keepBox (bnew (w.alloc (.cells #[.int .i64 L.cols, .slice sa L.starts.length sc, .slice ca L.cells.length cc] 38)) (.cells #[.int .i64 0, .slice none 0 0, .slice none 0 0] 38)) (heapn w (.cells #[.int .i64 L.cols, .slice sa L.starts.length sc, .slice ca L.cells.length cc] 38) _ rfl))
  have HX4 := hid (heapn (w.alloc (.cells #[.int .i64 L.cols, .slice sa L.starts.length sc, .slice ca L.cells.length cc] 38)) (.cells #[.int .i64 0, .slice none 0 0, .slice none 0 0] 38) _ rfl)
  have HB0 := hid (HB0.out.step (bnew (w.alloc (.cells #[.int .i64 L.cols, .slice sa L.starts.length sc, .slice ca L.cells.length cc] 38)) (.cells #[.int .i64 0, .slice none 0 0, .slice none 0 0] 38)))
  have HC := hid fun w h => checkL_any L hf sa sc ca cc w h
  have hsl := hf.s
  have hcl := hf.c
  have hz1 : (w.alloc (.cells #[.int .i64 L.cols, .slice sa L.starts.length sc, .slice ca L.cells.length cc] 38)).heap.size = w.heap.size + 1 := by simp
  have HSZ : Hid (w.heap.size + 2 ≤ ((w.alloc (.cells #[.int .i64 L.cols, .slice sa L.starts.length sc, .slice ca L.cells.length cc] 38)).alloc (.cells #[.int .i64 0, .slice none 0 0, .slice none 0 0] 38)).heap.size) := hid (by simp)
  rw [hz1] at HX4
  clear hf
  obtain ⟨h1, h2⟩ := hb
  obtain ⟨h3, h4⟩ := insV_no h1 h2
  rw [h3, h4, h1]
  have hne : (chkL L == 0) = false := by rw [beq_eq_false_iff_ne]; exact h2
  clear h1 h2 h3 h4
  go_enter Try.func15, Try.ntmps15
  go_wp2_with fail
  generalize (w.alloc (.cells #[.int .i64 L.cols, .slice sa L.starts.length sc, .slice ca L.cells.length cc] 38)).alloc (.cells #[.int .i64 0, .slice none 0 0, .slice none 0 0] 38) = w1 at *
  obtain ⟨g2, hg2⟩ : ∃ g, g = w.heap.size := ⟨_, rfl⟩
  obtain ⟨g4, hg4⟩ : ∃ g, g = w.heap.size + 1 := ⟨_, rfl⟩
  rw [← hg2] at HX2
  rw [← hg4] at HX4
  rw [← hg2]
  rw [hg2, ← hg4, ← hg2]
  have HG := hid (And.intro hg2 hg4)
  clear hg2 hg4 hz1
  have HB1 := hid (Below.refl w1.heap.size w1)
  obtain ⟨k0, k1, k2, _, _, _⟩ := box3 HX2.out
  go_wp2_with (go_at_call 28; refine (HC.out _ (HM.out.below HB0.out)).mono ?_; rintro e w2 ⟨rfl, hb⟩; skip; have HX2 := hid (keepBox hb HX2.out); have HX4 := hid (keepBox hb HX4.out); have HB0 := hid (HB0.out.step hb); have HB1 := hid (HB1.out.step hb); clear hb; obtain ⟨k0, k1, k2, _, _, _⟩ := box3 HX2.out; obtain ⟨r0, r1, r2, _, _, _⟩ := box3 HX4.out)
  exact bodyPost_ret (v := .tuple #[.agg #[.int .i64 0, .slice none 0 0, .slice none 0 0], .int .i64 0, .int .i64 (chkL L)]) (by simp [results, Try.results15, go_sem, r0, r1, r2]) rfl (LdRet3.empty _ (((HB0.out.setCell (p := ⟨g4, _, none⟩) (by have := HG.out; show _ ≤ g4; omega) _).setCell (p := ⟨g4, _, none⟩) (by have := HG.out; show _ ≤ g4; omega) _).setCell (p := ⟨g4, _, none⟩) (by have := HG.out; show _ ≤ g4; omega) _))

set_option maxRecDepth 100000 in
set_option maxHeartbeats 4000000 in
theorem insert_arg (L : Ld) (hf : Fit L) (row : List Int) (ar : Option Addr) (cr : Nat) (sa : Option Addr) (sc : Nat) (ca : Option Addr) (cc : Nat) (w : World) (hm : LdM w L sa sc ca cc) (hr : RdI w ar row) (hrl : row.length ≤ 1000) (hE : chkL L = 0) (hb : ¬ ((row.length : Int) = L.cols ∧ row.all rightB = true)) :
    Calls Try.prog 15 #[vL L sa sc ca cc, .slice ar row.length cr] w (LdRet3 (insV L row) (insAt L row) (insE L row) w) := by
  have HM := hid hm; clear hm
  have HR := hid hr; clear hr
  have HB0 := hid (bnew w (.cells #[.int .i64 L.cols, .slice sa L.starts.length sc, .slice ca L.cells.length cc] 38))
  have HX2 := hid (keepBox (bnew (w.alloc (.cells #[.int .i64 L.cols, .slice sa L.starts.length sc, .slice ca L.cells.length cc] 38)) (.cells #[.int .i64 0, .slice none 0 0, .slice none 0 0] 38)) (heapn w (.cells #[.int .i64 L.cols, .slice sa L.starts.length sc, .slice ca L.cells.length cc] 38) _ rfl))
  have HX4 := hid (heapn (w.alloc (.cells #[.int .i64 L.cols, .slice sa L.starts.length sc, .slice ca L.cells.length cc] 38)) (.cells #[.int .i64 0, .slice none 0 0, .slice none 0 0] 38) _ rfl)
  have HB0 := hid (HB0.out.step (bnew (w.alloc (.cells #[.int .i64 L.cols, .slice sa L.starts.length sc, .slice ca L.cells.length cc] 38)) (.cells #[.int .i64 0, .slice none 0 0, .slice none 0 0] 38)))
  have HC := hid (fun (w : World) (h : LdM w L sa sc ca cc) => (by have := checkL_any L hf sa sc ca cc w h; rw [hE] at this; exact this : Calls Try.prog 28 #[vL L sa sc ca cc] w (RetB (.int .i64 0) w)))
  have hsl := hf.s
  have hcl := hf.c
  have hz1 : (w.alloc (.cells #[.int .i64 L.cols, .slice sa L.starts.length sc, .slice ca L.cells.length cc] 38)).heap.size = w.heap.size + 1 := by simp
  have HSZ : Hid (w.heap.size + 2 ≤ ((w.alloc (.cells #[.int .i64 L.cols, .slice sa L.starts.length sc, .slice ca L.cells.length cc] 38)).alloc (.cells #[.int .i64 0, .slice none 0 0, .slice none 0 0] 38)).heap.size) := hid (by simp)
  rw [hz1] at HX4
  clear hf
  have h1 : insE L row = 1 := by unfold insE; rw [if_pos hE, if_neg hb]
  obtain ⟨h3, h4⟩ := insV_no h1 (by decide)
  rw [h3, h4, h1]
  clear h1 h3 h4 hE
  by_cases hq : (row.length : Int) = L.cols
  · have hd : ((row.length : Int) != L.cols) = false := by simp [hq]
    have HALL : Hid ((!row.all rightB) = true) := hid (by
      cases h : row.all rightB with
      | true => exact absurd ⟨hq, h⟩ hb
      | false => rfl)
    clear hb hq
    go_enter Try.func15, Try.ntmps15
    go_wp2_with fail
    generalize (w.alloc (.cells #[.int .i64 L.cols, .slice sa L.starts.length sc, .slice ca L.cells.length cc] 38)).alloc (.cells #[.int .i64 0, .slice none 0 0, .slice none 0 0] 38) = w1 at *
    obtain ⟨g2, hg2⟩ : ∃ g, g = w.heap.size := ⟨_, rfl⟩
    obtain ⟨g4, hg4⟩ : ∃ g, g = w.heap.size + 1 := ⟨_, rfl⟩
    rw [← hg2] at HX2
    rw [← hg4] at HX4
    rw [← hg2]
    rw [hg2, ← hg4, ← hg2]
    have HG := hid (And.intro hg2 hg4)
    clear hg2 hg4 hz1
    have HB1 := hid (Below.refl w1.heap.size w1)
    obtain ⟨k0, k1, k2, _, _, _⟩ := box3 HX2.out
    go_wp2_with (first
      | (go_at_call 28; refine (HC.out _ (HM.out.below HB0.out)).mono ?_; rintro e w2 ⟨rfl, hb⟩; skip; have HX2 := hid (keepBox hb HX2.out); have HX4 := hid (keepBox hb HX4.out); have HB0 := hid (HB0.out.step hb); have HB1 := hid (HB1.out.step hb); clear hb; obtain ⟨k0, k1, k2, _, _, _⟩ := box3 HX2.out; obtain ⟨r0, r1, r2, _, _, _⟩ := box3 HX4.out)
      | (go_at_call 29; refine (some58 row ar cr _ (HR.out.below HB0.out) (by omega)).mono ?_; rw [HALL.out]; rintro e w3 ⟨rfl, rfl⟩))
    exact bodyPost_ret (v := .tuple #[.agg #[.int .i64 0, .slice none 0 0, .slice none 0 0], .int .i64 0, .int .i64 1]) (by simp [results, Try.results15, go_sem, r0, r1, r2]) rfl (LdRet3.empty _ (((HB0.out.setCell (p := ⟨g4, _, none⟩) (by have := HG.out; show _ ≤ g4; omega) _).setCell (p := ⟨g4, _, none⟩) (by have := HG.out; show _ ≤ g4; omega) _).setCell (p := ⟨g4, _, none⟩) (by have := HG.out; show _ ≤ g4; omega) _))
  · have hd : ((row.length : Int) != L.cols) = true := by simp [hq]
    clear hb hq
    go_enter Try.func15, Try.ntmps15
    go_wp2_with fail
    generalize (w.alloc (.cells #[.int .i64 L.cols, .slice sa L.starts.length sc, .slice ca L.cells.length cc] 38)).alloc (.cells #[.int .i64 0, .slice none 0 0, .slice none 0 0] 38) = w1 at *
    obtain ⟨g2, hg2⟩ : ∃ g, g = w.heap.size := ⟨_, rfl⟩
    obtain ⟨g4, hg4⟩ : ∃ g, g = w.heap.size + 1 := ⟨_, rfl⟩
    rw [← hg2] at HX2
    rw [← hg4] at HX4
    rw [← hg2]
    rw [hg2, ← hg4, ← hg2]
    have HG := hid (And.intro hg2 hg4)
    clear hg2 hg4 hz1
    have HB1 := hid (Below.refl w1.heap.size w1)
    obtain ⟨k0, k1, k2, _, _, _⟩ := box3 HX2.out
    go_wp2_with (go_at_call 28; refine (HC.out _ (HM.out.below HB0.out)).mono ?_; rintro e w2 ⟨rfl, hb⟩; skip; have HX2 := hid (keepBox hb HX2.out); have HX4 := hid (keepBox hb HX4.out); have HB0 := hid (HB0.out.step hb); have HB1 := hid (HB1.out.step hb); clear hb; obtain ⟨k0, k1, k2, _, _, _⟩ := box3 HX2.out; obtain ⟨r0, r1, r2, _, _, _⟩ := box3 HX4.out)
    exact bodyPost_ret (v := .tuple #[.agg #[.int .i64 0, .slice none 0 0, .slice none 0 0], .int .i64 0, .int .i64 1]) (by simp [results, Try.results15, go_sem, r0, r1, r2]) rfl (LdRet3.empty _ (((HB0.out.setCell (p := ⟨g4, _, none⟩) (by have := HG.out; show _ ≤ g4; omega) _).setCell (p := ⟨g4, _, none⟩) (by have := HG.out; show _ ≤ g4; omega) _).setCell (p := ⟨g4, _, none⟩) (by have := HG.out; show _ ≤ g4; omega) _))

set_option maxRecDepth 100000 in
set_option maxHeartbeats 4000000 in
theorem insert_lim (L : Ld) (hf : Fit L) (row : List Int) (ar : Option Addr) (cr : Nat) (sa : Option Addr) (sc : Nat) (ca : Option Addr) (cc : Nat) (w : World) (hm : LdM w L sa sc ca cc) (hr : RdI w ar row) (hrl : row.length ≤ 1000) (hE : chkL L = 0) (hq : (row.length : Int) = L.cols) (ha : row.all rightB = true) (h60 : 60 ≤ L.starts.length) :
    Calls Try.prog 15 #[vL L sa sc ca cc, .slice ar row.length cr] w (LdRet3 (insV L row) (insAt L row) (insE L row) w) := by
  have HM := hid hm; clear hm
  have HR := hid hr; clear hr
  have HB0 := hid (bnew w (.cells #[.int .i64 L.cols, .slice sa L.starts.length sc, .slice ca L.cells.length cc] 38))
  have HX2 := hid (keepBox (bnew (w.alloc (.cells #[.int .i64 L.cols, .slice sa L.starts.length sc, .slice ca L.cells.length cc] 38)) (.cells #[.int .i64 0, .slice none 0 0, .slice none 0 0] 38)) (heapn w (.cells #[.int .i64 L.cols, .slice sa L.starts.length sc, .slice ca L.cells.length cc] 38) _ rfl))
  have HX4 := hid (heapn (w.alloc (.cells #[.int .i64 L.cols, .slice sa L.starts.length sc, .slice ca L.cells.length cc] 38)) (.cells #[.int .i64 0, .slice none 0 0, .slice none 0 0] 38) _ rfl)
  have HB0 := hid (HB0.out.step (bnew (w.alloc (.cells #[.int .i64 L.cols, .slice sa L.starts.length sc, .slice ca L.cells.length cc] 38)) (.cells #[.int .i64 0, .slice none 0 0, .slice none 0 0] 38)))
  have HC := hid (fun (w : World) (h : LdM w L sa sc ca cc) => (by have := checkL_any L hf sa sc ca cc w h; rw [hE] at this; exact this : Calls Try.prog 28 #[vL L sa sc ca cc] w (RetB (.int .i64 0) w)))
  have hsl := hf.s
  have hcl := hf.c
  have hz1 : (w.alloc (.cells #[.int .i64 L.cols, .slice sa L.starts.length sc, .slice ca L.cells.length cc] 38)).heap.size = w.heap.size + 1 := by simp
  have HSZ : Hid (w.heap.size + 2 ≤ ((w.alloc (.cells #[.int .i64 L.cols, .slice sa L.starts.length sc, .slice ca L.cells.length cc] 38)).alloc (.cells #[.int .i64 0, .slice none 0 0, .slice none 0 0] 38)).heap.size) := hid (by simp)
  rw [hz1] at HX4
  clear hf
  have h1 : insE L row = 3 := by unfold insE; rw [if_pos hE, if_pos ⟨hq, ha⟩, if_pos h60]
  obtain ⟨h3, h4⟩ := insV_no h1 (by decide)
  rw [h3, h4, h1]
  clear h1 h3 h4 hE
  have hd : ((row.length : Int) != L.cols) = false := by simp [hq]
  have HALL : Hid ((!row.all rightB) = false) := hid (by rw [ha]; rfl)
  have n60 : (60 : Int) ≤ (L.starts.length : Int) := by omega
  clear ha hq
  go_enter Try.func15, Try.ntmps15
  go_wp2_with fail
  generalize (w.alloc (.cells #[.int .i64 L.cols, .slice sa L.starts.length sc, .slice ca L.cells.length cc] 38)).alloc (.cells #[.int .i64 0, .slice none 0 0, .slice none 0 0] 38) = w1 at *
  obtain ⟨g2, hg2⟩ : ∃ g, g = w.heap.size := ⟨_, rfl⟩
  obtain ⟨g4, hg4⟩ : ∃ g, g = w.heap.size + 1 := ⟨_, rfl⟩
  rw [← hg2] at HX2
  rw [← hg4] at HX4
  rw [← hg2]
  rw [hg2, ← hg4, ← hg2]
  have HG := hid (And.intro hg2 hg4)
  clear hg2 hg4 hz1
  have HB1 := hid (Below.refl w1.heap.size w1)
  obtain ⟨k0, k1, k2, _, _, _⟩ := box3 HX2.out
  go_wp2_with (first
    | (go_at_call 28; refine (HC.out _ (HM.out.below HB0.out)).mono ?_; rintro e w2 ⟨rfl, hb⟩; skip; have HX2 := hid (keepBox hb HX2.out); have HX4 := hid (keepBox hb HX4.out); have HB0 := hid (HB0.out.step hb); have HB1 := hid (HB1.out.step hb); clear hb; obtain ⟨k0, k1, k2, _, _, _⟩ := box3 HX2.out; obtain ⟨r0, r1, r2, _, _, _⟩ := box3 HX4.out)
    | (go_at_call 29; refine (some58 row ar cr _ (HR.out.below HB0.out) (by omega)).mono ?_; rw [HALL.out]; rintro e w3 ⟨rfl, rfl⟩))
  exact bodyPost_ret (v := .tuple #[.agg #[.int .i64 0, .slice none 0 0, .slice none 0 0], .int .i64 0, .int .i64 3]) (by simp [results, Try.results15, go_sem, r0, r1, r2]) rfl (LdRet3.empty _ (((HB0.out.setCell (p := ⟨g4, _, none⟩) (by have := HG.out; show _ ≤ g4; omega) _).setCell (p := ⟨g4, _, none⟩) (by have := HG.out; show _ ≤ g4; omega) _).setCell (p := ⟨g4, _, none⟩) (by have := HG.out; show _ ≤ g4; omega) _))

set_option maxRecDepth 100000 in
set_option maxHeartbeats 4000000 in
theorem insert_full (L : Ld) (hf : Fit L) (row : List Int) (ar : Option Addr) (cr : Nat) (sa : Option Addr) (sc : Nat) (ca : Option Addr) (cc : Nat) (w : World) (hm : LdM w L sa sc ca cc) (hr : RdI w ar row) (hrl : row.length ≤ 1000) (hE : chkL L = 0) (hq : (row.length : Int) = L.cols) (ha : row.all rightB = true) (h60 : L.starts.length < 60) (h30 : 30000 < (putL L.cells row (L.starts.length : Nat)).length) :
    Calls Try.prog 15 #[vL L sa sc ca cc, .slice ar row.length cr] w (LdRet3 (insV L row) (insAt L row) (insE L row) w) := by
  have HM := hid hm; clear hm
  have HR := hid hr; clear hr
  have HB0 := hid (bnew w (.cells #[.int .i64 L.cols, .slice sa L.starts.length sc, .slice ca L.cells.length cc] 38))
  have HX2 := hid (keepBox (bnew (w.alloc (.cells #[.int .i64 L.cols, .slice sa L.starts.length sc, .slice ca L.cells.length cc] 38)) (.cells #[.int .i64 0, .slice none 0 0, .slice none 0 0] 38)) (heapn w (.cells #[.int .i64 L.cols, .slice sa L.starts.length sc, .slice ca L.cells.length cc] 38) _ rfl))
  have HX4 := hid (heapn (w.alloc (.cells #[.int .i64 L.cols, .slice sa L.starts.length sc, .slice ca L.cells.length cc] 38)) (.cells #[.int .i64 0, .slice none 0 0, .slice none 0 0] 38) _ rfl)
  have HB0 := hid (HB0.out.step (bnew (w.alloc (.cells #[.int .i64 L.cols, .slice sa L.starts.length sc, .slice ca L.cells.length cc] 38)) (.cells #[.int .i64 0, .slice none 0 0, .slice none 0 0] 38)))
  have HC := hid (fun (w : World) (h : LdM w L sa sc ca cc) => (by have := checkL_any L hf sa sc ca cc w h; rw [hE] at this; exact this : Calls Try.prog 28 #[vL L sa sc ca cc] w (RetB (.int .i64 0) w)))
  have hsl := hf.s
  have hcl := hf.c
  have hz1 : (w.alloc (.cells #[.int .i64 L.cols, .slice sa L.starts.length sc, .slice ca L.cells.length cc] 38)).heap.size = w.heap.size + 1 := by simp
  have HSZ : Hid (w.heap.size + 2 ≤ ((w.alloc (.cells #[.int .i64 L.cols, .slice sa L.starts.length sc, .slice ca L.cells.length cc] 38)).alloc (.cells #[.int .i64 0, .slice none 0 0, .slice none 0 0] 38)).heap.size) := hid (by simp)
  rw [hz1] at HX4
  clear hf
  have h1 : insE L row = 14 := by unfold insE; rw [if_pos hE, if_pos ⟨hq, ha⟩, if_neg (by omega), if_pos h30]
  obtain ⟨h3, h4⟩ := insV_no h1 (by decide)
  rw [h3, h4, h1]
  have hR := chkL_ok hE
  have HPL := hid (fun (w : World) (h1 : RdP w ca L.cells) (h2 : RdI w ar row) => place_any L.cells hR.good ca cc row ar cr (L.starts.length : Nat) w h1 (by omega) HM.out.lc h2 (fun e he => List.all_eq_true.1 ha e he) hrl)
  obtain ⟨pl, hpl⟩ : ∃ n, n = (putL L.cells row (L.starts.length : Nat)).length := ⟨_, rfl⟩
  obtain ⟨st, hst⟩ : ∃ n, n = startN L.cells row := ⟨_, rfl⟩
  have HPN := hid hpl.symm
  rw [← hpl] at h30
  have hd : ((row.length : Int) != L.cols) = false := by simp [hq]
  have HALL : Hid ((!row.all rightB) = false) := hid (by rw [ha]; rfl)
  have n60 : ¬ (60 : Int) ≤ (L.starts.length : Int) := by omega
  have n30 : (30000 : Int) < (pl : Int) := by omega
  clear h1 h3 h4 hE ha hq hR hpl hst
  go_enter Try.func15, Try.ntmps15
  go_wp2_with fail
  generalize (w.alloc (.cells #[.int .i64 L.cols, .slice sa L.starts.length sc, .slice ca L.cells.length cc] 38)).alloc (.cells #[.int .i64 0, .slice none 0 0, .slice none 0 0] 38) = w1 at *
  obtain ⟨g2, hg2⟩ : ∃ g, g = w.heap.size := ⟨_, rfl⟩
  obtain ⟨g4, hg4⟩ : ∃ g, g = w.heap.size + 1 := ⟨_, rfl⟩
  rw [← hg2] at HX2
  rw [← hg4] at HX4
  rw [← hg2]
  rw [hg2, ← hg4, ← hg2]
  have HG := hid (And.intro hg2 hg4)
  clear hg2 hg4 hz1
  have HB1 := hid (Below.refl w1.heap.size w1)
  obtain ⟨k0, k1, k2, _, _, _⟩ := box3 HX2.out
  go_wp2_with (first
    | (go_at_call 28; refine (HC.out _ (HM.out.below HB0.out)).mono ?_; rintro e w2 ⟨rfl, hb⟩; skip; have HX2 := hid (keepBox hb HX2.out); have HX4 := hid (keepBox hb HX4.out); have HB0 := hid (HB0.out.step hb); have HB1 := hid (HB1.out.step hb); clear hb; obtain ⟨k0, k1, k2, _, _, _⟩ := box3 HX2.out; obtain ⟨r0, r1, r2, _, _, _⟩ := box3 HX4.out)
    | (go_at_call 29; refine (some58 row ar cr _ (HR.out.below HB0.out) (by omega)).mono ?_; rw [HALL.out]; rintro e w3 ⟨rfl, rfl⟩)
    | (go_at_call 22; (with_reducible refine (HPL.out _ (HM.out.rc.below HB0.out) (HR.out.below HB0.out)).mono ?_); rintro e w2 ⟨hb, a10, c10, rfl, hc10, hrp, hn10⟩; have HN10 := hid (show NewA (w.heap.size + 2) a10 from fun b off e => Nat.le_trans HSZ.out (Nat.le_trans HB1.out.size (hn10 b off e))); clear hn10; rw [HPN.out]; have HRP := hid hrp; have HC10 := hid hc10; have HX2 := hid (keepBox hb HX2.out); have HX4 := hid (keepBox hb HX4.out); have HB0 := hid (HB0.out.step hb); have HB5 := hid hb; clear hb hrp hc10; obtain ⟨k0, k1, k2, _, _, _⟩ := box3 HX2.out; obtain ⟨r0, r1, r2, _, _, _⟩ := box3 HX4.out))
  exact bodyPost_ret (v := .tuple #[.agg #[.int .i64 0, .slice none 0 0, .slice none 0 0], .int .i64 0, .int .i64 14]) (by simp [results, Try.results15, go_sem, r0, r1, r2]) rfl (LdRet3.empty _ (((HB0.out.setCell (p := ⟨g4, _, none⟩) (by have := HG.out; show _ ≤ g4; omega) _).setCell (p := ⟨g4, _, none⟩) (by have := HG.out; show _ ≤ g4; omega) _).setCell (p := ⟨g4, _, none⟩) (by have := HG.out; show _ ≤ g4; omega) _))

theorem insert_end {L : Ld} {row : List Int} {st pl g4 c' c10 : Nat} {a' a10 : Option Addr} {w w9 w' W : World} (hg : g4 = w.heap.size + 1) (hpl : (putL L.cells row (L.starts.length : Nat)).length = pl) (hb0 : Below w.heap.size w w9) (hsz : w.heap.size + 2 ≤ w9.heap.size) (hb : Below w9.heap.size w9 w') (hrp : RdP w9 a10 (putL L.cells row (L.starts.length : Nat)))
    (hr : RdI w' a' (L.starts ++ [(st : Int)])) (hc : L.starts.length + 1 ≤ c') (hc10 : (putL L.cells row (L.starts.length : Nat)).length ≤ c10) (hn10 : NewA (w.heap.size + 2) a10) (hn : NewA w9.heap.size a') (hw : But g4 w' W) :
    LdRet3 ⟨L.cols, L.starts ++ [(st : Int)], putL L.cells row (L.starts.length : Nat)⟩ L.starts.length 0 w (.returned (.tuple #[.agg #[.int .i64 L.cols, .slice a' (L.starts.length + 1) c', .slice a10 pl c10], .int .i64 L.starts.length, .int .i64 0])) W := by
  have hw2 : Below w.heap.size w' W := hw.below (by omega) (by have := hb.size; omega)
  have e : (L.starts ++ [(st : Int)]).length = L.starts.length + 1 := by simp
  refine ⟨(hb0.step hb).trans hw2, a', c', a10, c10, ?_, hr.but hw fun b off e => ?_, (hrp.below hb).but hw fun b off e => ?_, by show (L.starts ++ [(st : Int)]).length ≤ c'; rw [e]; exact hc, hc10⟩
  · unfold vL
    rw [e, hpl]
  · have := hn b off e
    omega
  · have := hn10 b off e
    omega

set_option maxRecDepth 100000 in
set_option maxHeartbeats 8000000 in
theorem insert_ok (L : Ld) (hf : Fit L) (row : List Int) (ar : Option Addr) (cr : Nat) (sa : Option Addr) (sc : Nat) (ca : Option Addr) (cc : Nat) (w : World) (hm : LdM w L sa sc ca cc) (hr : RdI w ar row) (hrl : row.length ≤ 1000) (hE : chkL L = 0) (hq : (row.length : Int) = L.cols) (ha : row.all rightB = true) (h60 : L.starts.length < 60) (h30 : ¬ 30000 < (putL L.cells row (L.starts.length : Nat)).length) :
    Calls Try.prog 15 #[vL L sa sc ca cc, .slice ar row.length cr] w (LdRet3 (insV L row) (insAt L row) (insE L row) w) := by
  have HM := hid hm; clear hm
  have HR := hid hr; clear hr
  have HB0 := hid (bnew w (.cells #[.int .i64 L.cols, .slice sa L.starts.length sc, .slice ca L.cells.length cc] 38))
  have HX2 := hid (keepBox (bnew (w.alloc (.cells #[.int .i64 L.cols, .slice sa L.starts.length sc, .slice ca L.cells.length cc] 38)) (.cells #[.int .i64 0, .slice none 0 0, .slice none 0 0] 38)) (heapn w (.cells #[.int .i64 L.cols, .slice sa L.starts.length sc, .slice ca L.cells.length cc] 38) _ rfl))
  have HX4 := hid (heapn (w.alloc (.cells #[.int .i64 L.cols, .slice sa L.starts.length sc, .slice ca L.cells.length cc] 38)) (.cells #[.int .i64 0, .slice none 0 0, .slice none 0 0] 38) _ rfl)
  have HB0 := hid (HB0.out.step (bnew (w.alloc (.cells #[.int .i64 L.cols, .slice sa L.starts.length sc, .slice ca L.cells.length cc] 38)) (.cells #[.int .i64 0, .slice none 0 0, .slice none 0 0] 38)))
  have HC := hid (fun (w : World) (h : LdM w L sa sc ca cc) => (by have := checkL_any L hf sa sc ca cc w h; rw [hE] at this; exact this : Calls Try.prog 28 #[vL L sa sc ca cc] w (RetB (.int .i64 0) w)))
  have hsl := hf.s
  have hcl := hf.c
  have hz1 : (w.alloc (.cells #[.int .i64 L.cols, .slice sa L.starts.length sc, .slice ca L.cells.length cc] 38)).heap.size = w.heap.size + 1 := by simp
  have HSZ : Hid (w.heap.size + 2 ≤ ((w.alloc (.cells #[.int .i64 L.cols, .slice sa L.starts.length sc, .slice ca L.cells.length cc] 38)).alloc (.cells #[.int .i64 0, .slice none 0 0, .slice none 0 0] 38)).heap.size) := hid (by simp)
  rw [hz1] at HX4
  clear hf
  have h1 : insE L row = 0 := by unfold insE; rw [if_pos hE, if_pos ⟨hq, ha⟩, if_neg (by omega), if_neg h30]
  have h3 : insV L row = ⟨L.cols, L.starts ++ [(startN L.cells row : Int)], putL L.cells row (L.starts.length : Nat)⟩ := by unfold insV; rw [if_pos h1]
  have h4 : insAt L row = L.starts.length := by unfold insAt; rw [if_pos h1]
  rw [h3, h4, h1]
  have hR := chkL_ok hE
  have HPL := hid (fun (w : World) (h1 : RdP w ca L.cells) (h2 : RdI w ar row) => place_any L.cells hR.good ca cc row ar cr (L.starts.length : Nat) w h1 (by omega) HM.out.lc h2 (fun e he => List.all_eq_true.1 ha e he) hrl)
  obtain ⟨pl, hpl⟩ : ∃ n, n = (putL L.cells row (L.starts.length : Nat)).length := ⟨_, rfl⟩
  obtain ⟨st, hst⟩ : ∃ n, n = startN L.cells row := ⟨_, rfl⟩
  have HPN := hid hpl.symm
  rw [← hpl] at h30
  have HST := hid hst
  rw [← hst] at HPL
  have hd : ((row.length : Int) != L.cols) = false := by simp [hq]
  have HALL : Hid ((!row.all rightB) = false) := hid (by rw [ha]; rfl)
  have n60 : ¬ (60 : Int) ≤ (L.starts.length : Int) := by omega
  have n30 : ¬ (30000 : Int) < (pl : Int) := by omega
  have nsc : (L.starts.length : Int) ≤ (sc : Int) := by have := HM.out.ls; omega
  rw [← hst]
  clear h1 h3 h4 hE ha hq hR hpl hst
  go_enter Try.func15, Try.ntmps15
  go_wp2_with fail
  generalize (w.alloc (.cells #[.int .i64 L.cols, .slice sa L.starts.length sc, .slice ca L.cells.length cc] 38)).alloc (.cells #[.int .i64 0, .slice none 0 0, .slice none 0 0] 38) = w1 at *
  obtain ⟨g2, hg2⟩ : ∃ g, g = w.heap.size := ⟨_, rfl⟩
  obtain ⟨g4, hg4⟩ : ∃ g, g = w.heap.size + 1 := ⟨_, rfl⟩
  rw [← hg2] at HX2
  rw [← hg4] at HX4
  rw [← hg2]
  rw [hg2, ← hg4, ← hg2]
  have HG := hid (And.intro hg2 hg4)
  clear hg2 hg4 hz1
  have HB1 := hid (Below.refl w1.heap.size w1)
  obtain ⟨k0, k1, k2, _, _, _⟩ := box3 HX2.out
  go_upto_region 12 with (first
    | (go_at_call 28; refine (HC.out _ (HM.out.below HB0.out)).mono ?_; rintro e w2 ⟨rfl, hb⟩; skip; have HX2 := hid (keepBox hb HX2.out); have HX4 := hid (keepBox hb HX4.out); have HB0 := hid (HB0.out.step hb); have HB1 := hid (HB1.out.step hb); clear hb; obtain ⟨k0, k1, k2, _, _, _⟩ := box3 HX2.out; obtain ⟨r0, r1, r2, _, _, _⟩ := box3 HX4.out)
    | (go_at_call 29; refine (some58 row ar cr _ (HR.out.below HB0.out) (by omega)).mono ?_; rw [HALL.out]; rintro e w3 ⟨rfl, rfl⟩)
    | (go_at_call 22; (with_reducible refine (HPL.out _ (HM.out.rc.below HB0.out) (HR.out.below HB0.out)).mono ?_); rintro e w9 ⟨hb, a10, c10, rfl, hc10, hrp, hn10⟩; have HN10 := hid (show NewA (w.heap.size + 2) a10 from fun b off e => Nat.le_trans HSZ.out (Nat.le_trans HB1.out.size (hn10 b off e))); clear hn10; rw [HPN.out]; have HRP := hid hrp; have HC10 := hid hc10; have HX2 := hid (keepBox hb HX2.out); have HX4 := hid (keepBox hb HX4.out); have HB0 := hid (HB0.out.step hb); have HB5 := hid hb; clear hb hrp hc10; obtain ⟨k0, k1, k2, _, _, _⟩ := box3 HX2.out; obtain ⟨r0, r1, r2, z0, z1, z2⟩ := box3 HX4.out; have HS9 := hid (HM.out.rs.below HB0.out)))
  have K := hid (And.intro k0 (And.intro k1 (And.intro k2 (And.intro r0 (And.intro r1 (And.intro r2 (And.intro z0 (And.intro z1 z2))))))))
  have HSZ9 := hid (Nat.le_trans HSZ.out (HB1.out.step HB5.out).size)
  have a0 : ∀ o, (w9.alloc o).cell? ⟨g2, 0, none⟩ = some (.int .i64 L.cols) := fun o => cell_later (bnew _ _) k0
  have a1 : ∀ o, (w9.alloc o).cell? ⟨g2, 1, none⟩ = some (.slice sa L.starts.length sc) := fun o => cell_later (bnew _ _) k1
  have a2 : ∀ o, (w9.alloc o).cell? ⟨g2, 2, none⟩ = some (.slice ca L.cells.length cc) := fun o => cell_later (bnew _ _) k2
  go_region_law (refine step_append_full _ rfl (.tmp 51) (.tmp 53) rfl L.starts sa (by rfl) (HS9.out.below (by repeat (first | exact Below.refl _ _ | refine Below.drew ?_ | refine bmore ?_ _))) ⟨w9.heap.size, 0, none⟩ 1 st (by rfl) (by simp) (by omega) ?_
                 intro a' c' w' hcc hr hnw hb
                 have HNW := hid (show NewA w9.heap.size a' from fun b off e => Nat.le_trans (by first | exact Nat.le_refl _ | simp) (hnw b off e))
                 clear hnw
                 have HBB : Hid (Below w9.heap.size w9 w') := hid (Below.step (by repeat (first | exact Below.refl _ _ | refine Below.drew ?_ | refine bmore ?_ _)) hb)
                 have HCC := hid hcc
                 have HRR := hid hr
                 clear hb hcc hr
                 have k0 := cell_later HBB.out K.out.1
                 have k1 := cell_later HBB.out K.out.2.1
                 have k2 := cell_later HBB.out K.out.2.2.1
                 have HX9 := hid (keepBox HBB.out HX4.out)
                 obtain ⟨r0, r1, r2, z0, z1, z2⟩ := box3 HX9.out)
  all_goals
    go_wp2_with fail
    refine bodyPost_ret (v := .tuple #[.agg #[.int .i64 L.cols, .slice a' (L.starts.length + 1) c', .slice a10 pl c10], .int .i64 L.starts.length, .int .i64 0]) (by simp [results, Try.results15, go_sem, r0, r1, r2]) rfl ?_
    refine insert_end HG.out.2 HPN.out HB0.out HSZ9.out HBB.out HRP.out HRR.out HCC.out HC10.out HN10.out HNW.out ?_
    repeat (first | exact But.refl _ _ | refine But.drew ?_ | refine But.set ?_ _ _)

theorem Insert_any (L : Ld) (hf : Fit L) (row : List Int) (ar : Option Addr) (cr : Nat) (sa : Option Addr) (sc : Nat) (ca : Option Addr) (cc : Nat) (w : World) (hm : LdM w L sa sc ca cc) (hr : RdI w ar row) (hrl : row.length ≤ 1000) :
    Calls Try.prog 15 #[vL L sa sc ca cc, .slice ar row.length cr] w (LdRet3 (insV L row) (insAt L row) (insE L row) w) := by
  by_cases hE : chkL L = 0
  · by_cases hq : (row.length : Int) = L.cols ∧ row.all rightB = true
    · by_cases h60 : 60 ≤ L.starts.length
      · exact insert_lim L hf row ar cr sa sc ca cc w hm hr hrl hE hq.1 hq.2 h60
      · by_cases h30 : 30000 < (putL L.cells row (L.starts.length : Nat)).length
        · exact insert_full L hf row ar cr sa sc ca cc w hm hr hrl hE hq.1 hq.2 (by omega) h30
        · exact insert_ok L hf row ar cr sa sc ca cc w hm hr hrl hE hq.1 hq.2 (by omega) h30
    · exact insert_arg L hf row ar cr sa sc ca cc w hm hr hrl hE hq
  · exact insert_bad L hf row ar cr sa sc ca cc w hm hr hrl ⟨by unfold insE; rw [if_neg hE], hE⟩
end Go.Proofs.Ytecpkjhfbmchgaa
