/- The reference: last, CheckRefute. -/
import Derived.Test.YtnjbahiaelehkaaB31
import Derived.Test.YtnjbahiaelehkaaB32
import Derived.Test.YtnjbahiaelehkaaB33
import Derived.Test.YtnjbahiaelehkaaB34
namespace Go.Proofs.Ytnjbahiaelehkaa
open Go.RowKit

/-- Steps, read off a slice. -/
def RdS (w : World) (a : Option Addr) (p : List Stp) : Prop :=
  ∀ i (h : i < p.length), ∃ b off, a = some ⟨b, off, none⟩ ∧ b < w.heap.size ∧ w.cell? ⟨b, off + i * 3, none⟩ = some (.int .i64 p[i].K) ∧ w.cell? ⟨b, off + i * 3 + 1, none⟩ = some (.int .i64 p[i].A) ∧ w.cell? ⟨b, off + i * 3 + 2, none⟩ = some (.int .i64 p[i].B)
theorem RdS.below {w w' : World} {a : Option Addr} {p : List Stp} (h : RdS w a p) (hb : Below w.heap.size w w') : RdS w' a p := by
  intro i hi
  obtain ⟨b, off, ha, hlt, h1, h2, h3⟩ := h i hi
  exact ⟨b, off, ha, Nat.lt_of_lt_of_le hlt hb.size, cell_later hb h1, cell_later hb h2, cell_later hb h3⟩
theorem s3_at (l : List Stp) (i : Nat) (h : i < l.length) (k : Nat) (hk : k < 3) : (l.flatMap s3)[i * 3 + k]? = (s3 l[i])[k]? := by
  induction l generalizing i with
  | nil => exact absurd h (Nat.not_lt_zero _)
  | cons x l ih =>
    have hx : (s3 x).length = 3 := rfl
    cases i with
    | zero =>
      rw [List.flatMap_cons, List.getElem?_append_left (by omega)]
      simp
    | succ i =>
      rw [List.flatMap_cons, List.getElem?_append_right (by omega)]
      have e : (i + 1) * 3 + k - (s3 x).length = i * 3 + k := by omega
      rw [e]
      exact ih i (by simpa using h)
theorem OwnS.rd {w : World} {base : Nat} {v : Value} {S : List Stp} (h : OwnS w base v S) : ∃ a cap, v = .slice a S.length cap ∧ RdS w a S := by
  obtain ⟨_, h⟩ := h
  rcases h with ⟨rfl, h0⟩ | ⟨g, cap, cur, rfl, hg, hh, h1, h2, h3, h4⟩
  · exact ⟨none, 0, by rw [h0], fun i hi => by omega⟩
  · refine ⟨some ⟨g, 0, none⟩, cap, rfl, fun i hi => ⟨g, 0, rfl, lt_of_heap hh, ?_⟩⟩
    have key : ∀ k, k < 3 → w.cell? ⟨g, 0 + i * 3 + k, none⟩ = (s3 S[i])[k]? := by
      intro k hk
      have hlt : i * 3 + k < S.length * 3 := by omega
      rw [cell_of_row _ _ _ _ _ _ hh, ← s3_at S i hi k hk, ← h4, List.getElem?_take, Nat.zero_add, if_pos hlt, Array.getElem?_toList]
    exact ⟨key 0 (by decide), key 1 (by decide), key 2 (by decide)⟩

/-- What the steps so far say, in a slice of the call's own. -/
def OwnY (w : World) (base : Nat) (v : Value) (n : Nat) (done : List Sy) : Prop :=
  ∃ xs, w.ownsRow base 128 2 v done.length xs ∧ ∀ i (h : i < done.length), ∃ g cap, xs[i * 2]? = some (.slice (some ⟨g, 0, none⟩) n cap) ∧ xs[i * 2 + 1]? = some (.int .i64 done[i].N) ∧ base ≤ g ∧ IB w g n done[i].X
theorem OwnY.rd {w : World} {base n : Nat} {v : Value} {done : List Sy} (h : OwnY w base v n done) : ∃ a cap, v = .slice a done.length cap ∧ RdY w n a done := by
  obtain ⟨xs, ⟨hl, h⟩, hx⟩ := h
  rcases h with ⟨rfl, h0⟩ | ⟨g, cap, cur, rfl, hg, hh, h1, h2, h3, h4⟩
  · exact ⟨none, 0, by rw [h0], fun i hi => by omega⟩
  · refine ⟨some ⟨g, 0, none⟩, cap, rfl, fun i hi => ?_⟩
    obtain ⟨q, c, e1, e2, _, hI⟩ := hx i hi
    have key : ∀ k, k < 2 → w.cell? ⟨g, 0 + i * 2 + k, none⟩ = xs[i * 2 + k]? := by
      intro k hk
      have hlt : i * 2 + k < done.length * 2 := by omega
      rw [cell_of_row _ _ _ _ _ _ hh, ← h4, List.getElem?_take, Nat.zero_add, if_pos hlt, Array.getElem?_toList]
    exact ⟨g, 0, q, c, rfl, lt_of_heap hh, (key 0 (by decide)).trans e1, (key 1 (by decide)).trans e2, hI⟩
theorem OwnY.later {w w' : World} {base n : Nat} {v : Value} {done : List Sy} (h : OwnY w base v n done) (hb : Below w.heap.size w w') : OwnY w' base v n done := by
  obtain ⟨xs, h1, h2⟩ := h
  refine ⟨xs, own_later h1 fun b _ hl => hb.block b hl, fun i hi => ?_⟩
  obtain ⟨g, c, e1, e2, e3, hI⟩ := h2 i hi
  exact ⟨g, c, e1, e2, e3, hI.below hb⟩
theorem IB.not_own {w : World} {base g n m : Nat} {v : Value} {X : Nat → Int} {xs : List Value} {e : TypeId} (he : e ≠ 3) {sz : Nat} (h : IB w g n X) (ho : w.ownsRow base e sz v m xs) : v.ownBlock ≠ some g := by
  obtain ⟨C, hC, _⟩ := h
  rcases ho.2 with ⟨rfl, _⟩ | ⟨q, cap, cur, rfl, hg, hh, _⟩
  · intro h
    cases h
  · intro h
    have e2 : q = g := by injection h
    subst e2
    rw [hh] at hC
    injection hC with hC
    injection hC with _ hC _
    exact he hC
/-- One more. -/
theorem OwnY.push {w w3 : World} {base n g cap : Nat} {v v' : Value} {done : List Sy} {xs : List Value} {y : Sy} {o : Obj} (ho : w.ownsRow base 128 2 v done.length xs) (hx : ∀ i (h : i < done.length), ∃ g cap, xs[i * 2]? = some (.slice (some ⟨g, 0, none⟩) n cap) ∧ xs[i * 2 + 1]? = some (.int .i64 done[i].N) ∧ base ≤ g ∧ IB w g n done[i].X)
    (hown : w3.ownsRow base 128 2 v' (done.length + 1) (xs ++ [.slice (some ⟨g, 0, none⟩) n cap, .int .i64 y.N])) (hg : (w.alloc o).grownBy w3 v.ownBlock) (hb : base ≤ g) (hI : IB w g n y.X) : OwnY w3 base v' n (done ++ [y]) := by
  have keep : ∀ {q : Nat} {X : Nat → Int}, IB w q n X → IB w3 q n X := fun {q X} h => by
    refine h.keep ?_
    have hlt := h.lt
    rw [hg.block q (by simp; omega) (fun e => h.not_own (by decide) ho e.symm)]
    exact heapo _ _ _ hlt
  have hlx : xs.length = done.length * 2 := ho.1
  refine ⟨_, by rw [List.length_append, List.length_singleton]; exact hown, fun i hi => ?_⟩
  rw [List.length_append, List.length_singleton] at hi
  by_cases h : i < done.length
  · obtain ⟨q, c, e1, e2, e3, hq⟩ := hx i h
    rw [List.getElem?_append_left (by omega), List.getElem?_append_left (by omega), List.getElem_append_left h]
    exact ⟨q, c, e1, e2, e3, keep hq⟩
  · have e : i = done.length := by omega
    subst e
    rw [List.getElem?_append_right (by omega), List.getElem?_append_right (by omega), List.getElem_append_right (by omega)]
    have e1 : done.length * 2 - xs.length = 0 := by omega
    have e2 : done.length * 2 + 1 - xs.length = 1 := by omega
    rw [e1, e2]
    simp only [Nat.sub_self, List.getElem_cons_zero]
    exact ⟨g, cap, rfl, rfl, hb, keep hI⟩

def LastPost (n : Nat) (r : Option Sy) (w : World) (e : Ending) (w' : World) : Prop :=
  Below w.heap.size w w' ∧ ((∃ s g cap, r = some s ∧ IB w' g n s.X ∧ e = .returned (.tuple #[.agg #[.slice (some ⟨g, 0, none⟩) n cap, .int .i64 s.N], .bool true])) ∨
    (r = none ∧ e = .returned (.tuple #[.agg #[.slice none 0 0, .int .i64 0], .bool false])))
theorem info128 : (Try.prog.info? 128).map (fun i => (i.zero, i.size, i.bytes)) = some (some (.agg #[.slice none 0 0, .int .i64 0]), 2, 32) := by kernel_rfl
theorem cell_two_new (w : World) (a b : Value) (t : TypeId) : ∀ j u, [a, b][j]? = some u → (w.alloc (.cells #[a, b] t)).cell? ((⟨w.heap.size, 0, none⟩ : Addr).add j) = some u := by
  intro j u hj
  match j, hj with
  | 0, hj => simp at hj; subst hj; simp [Addr.add]
  | 1, hj => simp at hj; subst hj; simp [Addr.add]
  | j + 2, hj => simp at hj
theorem stepS_ok {n : Nat} {l : List AM} {done : List Sy} {s : Stp} {y : Sy} (h : stepS n l done s = some y) : okX n y.X = true ∧ okN y.N = true := by
  unfold stepS at h
  cases e : stepR n l done s with
  | none => rw [e] at h; cases h
  | some z =>
    rw [e] at h
    have h' : (if okX n z.X = true ∧ okN z.N = true then some z else none) = some y := h
    split at h'
    · rename_i hc
      injection h' with h'
      subst h'
      exact hc
    · cases h'
theorem runS_length {n : Nat} {l : List AM} : ∀ {p : List Stp} {done d : List Sy}, runS n l done p = some d → d.length = done.length + p.length
  | [], done, d, h => by injection h with h; subst h; rfl
  | s :: p, done, d, h => by
    unfold runS at h
    cases e : stepS n l done s with
    | none => rw [e] at h; cases h
    | some x =>
      rw [e] at h
      have := runS_length h
      rw [List.length_append] at this
      simp at this ⊢
      omega
theorem runS_cons {N : Nat} {l : List AM} {done : List Sy} {s : Stp} {p : List Stp} {y : Sy} (h : stepS N l done s = some y) : runS N l done (s :: p) = runS N l (done ++ [y]) p := by
  show (match stepS N l done s with | some x => runS N l (done ++ [x]) p | none => none) = _
  rw [h]
theorem runS_stop {N : Nat} {l : List AM} {done : List Sy} {s : Stp} {p : List Stp} (h : stepS N l done s = none) : runS N l done (s :: p) = none := by
  show (match stepS N l done s with | some x => runS N l (done ++ [x]) p | none => none) = _
  rw [h]
theorem sayS_of {N : Nat} {l : List AM} {p : List Stp} (h : 1 ≤ p.length ∧ p.length ≤ 400) : sayS N l p = (runS N l [] p).bind fun d => d.getLast? := by
  unfold sayS
  rw [if_pos h]
  cases runS N l [] p <;> rfl
/-- How far the steps have come. -/
def LastIn (n : Nat) (l : List AM) (p : List Stp) (w : World) (j : Nat) (v : Value) (wr : World) : Prop :=
  ∃ done, OwnY wr (w.heap.size + 1) v n done ∧ done.length = j ∧ runS n l [] p = runS n l done (p.drop j) ∧ (∀ s, s ∈ done → okX n s.X = true ∧ okN s.N = true) ∧ Below w.heap.size w wr ∧ wr.heap[w.heap.size]? = some (.cells #[.slice none 0 0, .int .i64 0] 128 (0, 0))
theorem LastIn.next {n : Nat} {l : List AM} {p : List Stp} {w wr w5 w3 : World} {done : List Sy} {v v' : Value} {xs : List Value} {y : Sy} {Y : Nat → Int} {g : Nat} {o1 o2 : Obj} (hj : done.length < p.length)
    (ho : wr.ownsRow (w.heap.size + 1) 128 2 v done.length xs) (hx : ∀ i (h : i < done.length), ∃ g cap, xs[i * 2]? = some (.slice (some ⟨g, 0, none⟩) n cap) ∧ xs[i * 2 + 1]? = some (.int .i64 done[i].N) ∧ w.heap.size + 1 ≤ g ∧ IB wr g n done[i].X)
    (hrun : runS n l [] p = runS n l done (p.drop done.length)) (hok : ∀ s, s ∈ done → okX n s.X = true ∧ okN s.N = true) (hbw : Below w.heap.size w wr) (h6 : wr.heap[w.heap.size]? = some (.cells #[.slice none 0 0, .int .i64 0] 128 (0, 0)))
    (hb5 : Below wr.heap.size wr w5) (hs : stepS n l done p[done.length] = some y) (hg : wr.heap.size ≤ g) (hI : IB w5 g n Y) (hY : ∀ k, k < n → Y k = y.X k)
    (hown : w3.ownsRow (w.heap.size + 1) 128 2 v' (done.length + 1) (xs ++ [.slice (some ⟨g, 0, none⟩) n n, .int .i64 y.N])) (hgr : ((w5.alloc o1).alloc o2).grownBy w3 v.ownBlock) : LastIn n l p w (done.length + 1) v' w3 := by
  have hl6 := lt_of_heap h6
  have ho5 : (w5.alloc o1).ownsRow (w.heap.size + 1) 128 2 v done.length xs := (own_later ho fun b _ hl => hb5.block b hl).alloc _
  have b5 := hb5.step (bnew w5 o1)
  have hs5 := b5.size
  have hso : (w5.alloc o1).heap.size = w5.heap.size + 1 := by simp
  refine ⟨done ++ [y], ?_, by simp, ?_, ?_, ?_, ?_⟩
  · refine OwnY.push (cap := n) ho5 (fun i hi => ?_) hown hgr (by omega) ((hI.below (bnew _ _)).congr hY)
    obtain ⟨q, c, e1, e2, e3, hq⟩ := hx i hi
    exact ⟨q, c, e1, e2, e3, hq.below b5⟩
  · rw [hrun, List.drop_eq_getElem_cons hj]
    exact runS_cons hs
  · intro s hs'
    rcases List.mem_append.1 hs' with h | h
    · exact hok s h
    · rw [List.mem_singleton.1 h]
      exact stepS_ok hs
  · exact ((hbw.trans (b5.mono hbw.size)).alloc (by have := hbw.size; omega) o2).grown hgr (by have := hbw.size; simp; omega) (fun k hk => by have := own_ge ho k hk; omega)
  · rw [hgr.block _ (by simp; omega) (fun e => by have := own_ge ho _ e.symm; omega), heapo _ _ _ (by omega), b5.block _ hl6]
    exact h6
theorem runS_none {n : Nat} {l : List AM} {p : List Stp} {done : List Sy} (hj : done.length < p.length) (hrun : runS n l [] p = runS n l done (p.drop done.length)) (hs : stepS n l done p[done.length] = none) : runS n l [] p = none := by
  rw [hrun, List.drop_eq_getElem_cons hj]
  exact runS_stop hs

theorem rstep_any (n : Nat) (hn1 : 1 ≤ n) (hn : n ≤ 12) (l : List AM) (ok : ∀ a, a ∈ l → Ok n 1000000 a) (done : List Sy) (okd : ∀ s, s ∈ done → okX n s.X = true ∧ okN s.N = true) (K A B : Int) (a b : Option Addr) (cap cap' : Nat) (w : World)
    (hl : Rd w a l) (hd : RdY w n b done) (hll : l.length ≤ 1000000) (hdl : done.length ≤ 1000000) :
    Calls Try.prog 111 #[.int .i64 n, .slice a l.length cap, .slice b done.length cap', .agg #[.int .i64 K, .int .i64 A, .int .i64 B]] w (StepPost n (stepS n l done ⟨K, A, B⟩) w) := by
  by_cases h1 : K = 1
  · subst h1
    exact rstep_1 n hn1 hn l ok done okd A B a b cap cap' w hl hd hll hdl
  · by_cases h2 : K = 2
    · subst h2
      exact rstep_2 n hn1 hn l ok done okd A B a b cap cap' w hl hd hll hdl
    · by_cases h3 : K = 3
      · subst h3
        exact rstep_3 n hn1 hn l ok done okd A B a b cap cap' w hl hd hll hdl
      · exact rstep_o n hn1 hn l ok done okd K A B a b cap cap' w hl hd hll hdl h1 h2 h3

set_option maxRecDepth 100000 in
set_option maxHeartbeats 4000000 in
theorem last_any (n : Nat) (hn1 : 1 ≤ n) (hn : n ≤ 12) (l : List AM) (ok : ∀ a, a ∈ l → Ok n 1000000 a) (p : List Stp) (a b : Option Addr) (cap cap' : Nat) (w : World) (hl : Rd w a l) (hp : RdS w b p) (hll : l.length ≤ 1000000) (hpl : p.length ≤ 1000000) :
    Calls Try.prog 79 #[.int .i64 n, .slice a l.length cap, .slice b p.length cap'] w (LastPost n (sayS n l p) w) := by
  have HL := hid hl; clear hl
  have HP := hid hp; clear hp
  have HOKL := hid ok; clear ok
  obtain ⟨i8, hi8, hz0, hz1, hz2⟩ := info_parts info128
  by_cases h0 : p.length = 0
  · have hr : sayS n l p = none := by unfold sayS; rw [if_neg (show ¬(1 ≤ p.length ∧ p.length ≤ 400) by omega)]
    have HR := hid hr; clear hr
    have e0 : ((p.length : Int) == 0) = true := by simp [h0]
    clear h0
    go_enter Try.func79, Try.ntmps79
    go_wp2
    refine bodyPost_ret (v := .tuple #[.agg #[.slice none 0 0, .int .i64 0], .bool false]) (by simp [results, Try.results79, go_sem]) rfl ?_
    exact ⟨by first | exact bnew _ _ | exact ((bnew _ _).setCell (Nat.le_refl _) _).setCell (Nat.le_refl _) _, .inr ⟨HR.out, rfl⟩⟩
  · have e0 : ((p.length : Int) == 0) = false := by simpa using h0
    by_cases h1 : 400 < p.length
    · have hr : sayS n l p = none := by unfold sayS; rw [if_neg (show ¬(1 ≤ p.length ∧ p.length ≤ 400) by omega)]
      have HR := hid hr; clear hr
      clear h0
      go_enter Try.func79, Try.ntmps79
      go_wp2
      refine bodyPost_ret (v := .tuple #[.agg #[.slice none 0 0, .int .i64 0], .bool false]) (by simp [results, Try.results79, go_sem]) rfl ?_
      exact ⟨by first | exact bnew _ _ | exact ((bnew _ _).setCell (Nat.le_refl _) _).setCell (Nat.le_refl _) _, .inr ⟨HR.out, rfl⟩⟩
    · have hr := sayS_of (N := n) (l := l) (p := p) ⟨by omega, by omega⟩
      have HR := hid hr; clear hr
      have hp1 : 1 ≤ p.length := by omega
      clear h0
      go_enter Try.func79, Try.ntmps79
      go_wp2
      clear e0
      go_loopg [8, 9] p.length (fun gh v i wr => ∃ j : Nat, j ≤ p.length ∧ gh = p.length - j ∧ i = .int .i64 j ∧ LastIn n l p w j v wr)
      case atStart => exact ⟨0, Nat.zero_le _, rfl, rfl, [], ⟨[], ⟨rfl, .inl ⟨rfl, rfl⟩⟩, fun i hi => absurd hi (Nat.not_lt_zero _)⟩, rfl, rfl, fun s hs => (by cases hs), bnew _ _, heapn _ _ _ rfl⟩
      case round =>
        obtain ⟨j, hj, rfl, rfl, done, hown, rfl, hrun, hok, hbw, h6⟩ := hrel
        have hsz := hbw.size
        have hl6 := lt_of_heap h6
        have k60 := cell_in h6 (k := 0) rfl
        have k61 := cell_in h6 (k := 1) rfl
        have f60 := froz_in h6 (k := 0)
        have f61 := froz_in h6 (k := 1)
        obtain ⟨ad, cd, rfl, hry⟩ := hown.rd
        have HRY := hid hry
        have HOWN := hid hown
        have HRUN := hid hrun
        have HOK := hid hok
        have HBW := hid hbw
        have H6 := hid h6
        by_cases hlt : done.length < p.length
        · obtain ⟨b2, off, hb, hlt2, q1, q2, q3⟩ := HP.out.below hbw done.length hlt
          subst hb
          obtain ⟨s, hs⟩ : ∃ s, s = p[done.length] := ⟨_, rfl⟩
          rw [← hs] at q1 q2 q3
          have HS := hid hs
          obtain ⟨sK, sA, sB⟩ := s
          clear hry hown hrun hok hbw hs h6
          go_upto_region 8 with (go_at_call 111; refine (rstep_any n hn1 hn l HOKL.out done HOK.out sK sA sB a ad cap cd _ (HL.out.below HBW.out) HRY.out hll (by omega)).mono ?_; rintro e w5 ⟨hb5, hstep⟩; have HB5 := hid hb5; have hs5 := hb5.size; clear hb5; rcases hstep with ⟨y, g, Y, hsome, hg, hIB, hY, rfl⟩ | ⟨hnone, x, c, d, N, rfl⟩)
          · obtain ⟨xs, ho, hx⟩ := HOWN.out
            have HX := hid hx; clear hx
            have hos := own_later ho (fun b _ hl => HB5.out.block b hl)
            have HO := hid ho; clear ho
            go_wp2_with (at_builtin; refine wpList_append_own _ rfl _ _ 167 rfl (w.heap.size + 1) 128 i8 _ 2 32 Try.underlying167 hi8 hz0 hz1 hz2 rfl (by decide) _ _ _ rfl ((hos.alloc _).alloc _) ⟨w5.heap.size + 1, 0, none⟩ 1 1 [.slice (some ⟨g, 0, none⟩) n n, .int .i64 y.N] rfl rfl (by have h := cell_two_new (w5.alloc (.cells #[.slice (some ⟨g, 0, none⟩) n n, .int .i64 y.N] 128)) (.slice (some ⟨g, 0, none⟩) n n) (.int .i64 y.N) 128; simp only [World.size_alloc] at h; exact h) (by intro u hu; simp at hu; rcases hu with rfl | rfl <;> rfl) (by unfold maxLen; omega) (by omega) (by simp; omega) ?_; intro v' w3 hown' hgrow hnil; have HN := hid (LastIn.next (y := y) hlt HO.out HX.out HRUN.out HOK.out HBW.out H6.out HB5.out (by rw [← HS.out]; exact hsome) hg hIB hY hown' hgrow); clear hown' hgrow hnil)
            go_roundg (p.length - (done.length + 1))
            case rel => exact ⟨done.length + 1, by omega, rfl, by go_num, HN.out⟩
            case measure => omega
          · have hr : sayS n l p = none := by
              rw [HR.out, runS_none hlt HRUN.out (by rw [← HS.out]; exact hnone)]
              rfl
            have HR2 := hid hr; clear hr
            have g60 := cell_later HB5.out k60
            have g61 := cell_later HB5.out k61
            have f6 : w5.frozen? ⟨w.heap.size, 0, none⟩ = false ∧ w5.frozen? ⟨w.heap.size, 1, none⟩ = false := by
              have e := (HB5.out.block _ hl6).trans H6.out
              exact ⟨froz_in e, froz_in e⟩
            obtain ⟨f60', f61'⟩ := f6
            have hlt6 : w.heap.size < w5.heap.size := by omega
            go_wp2
            refine bodyPost_ret (v := .tuple #[.agg #[.slice none 0 0, .int .i64 0], .bool false]) (by simp [results, Try.results79, go_sem, g60, g61, hlt6]) rfl ?_
            refine ⟨?_, .inr ⟨HR2.out, rfl⟩⟩
            have b5 : Below w.heap.size w w5 := HBW.out.trans (HB5.out.mono hsz)
            first
              | exact (b5.alloc (by omega) _)
              | exact ((b5.setCell (Nat.le_refl _) _).setCell (Nat.le_refl _) _).alloc (by simp; omega) _
              | exact ((b5.alloc (by omega) _).setCell (Nat.le_refl _) _).setCell (Nat.le_refl _) _
        · obtain ⟨m, hm⟩ : ∃ m, done.length = m + 1 := ⟨done.length - 1, by omega⟩
          have hml : m < done.length := by omega
          obtain ⟨b2, off, g, c, hb, hlt2, q1, q2, q3⟩ := hry m hml
          subst hb
          have hr : sayS n l p = some done[m] := by
            rw [HR.out, HRUN.out, List.drop_of_length_le (by omega)]
            show done.getLast? = _
            rw [List.getLast?_eq_getElem?, show done.length - 1 = m by omega, List.getElem?_eq_getElem hml]
          have HR2 := hid hr; clear hr
          have HQ3 := hid q3
          have e1 : ((done.length : Nat) : Int) - 1 = (m : Int) := by omega
          clear hry hown hrun hok hbw h6 q3 hm
          go_wp2
          refine bodyPost_ret (v := .tuple #[.agg #[.slice (some ⟨g, 0, none⟩) n c, .int .i64 done[m].N], .bool true]) (by simp [results, Try.results79, go_sem, k60, k61]) rfl ?_
          refine ⟨(HBW.out.setCell (Nat.le_refl _) _).setCell (Nat.le_refl _) _, .inl ⟨_, g, c, HR2.out, ?_, rfl⟩⟩
          have hne : g ≠ w.heap.size := by
            rintro rfl
            obtain ⟨C, hC, _⟩ := HQ3.out
            rw [H6.out] at hC
            injection hC with hC
            injection hC with _ hC _
            cases hC
          exact (HQ3.out.off hne).off hne

theorem refutes_nil (w : World) : Calls Try.prog 80 #[.agg #[.slice none 0 0, .int .i64 0]] w (RetB (.bool false) w) := by
  go_enter Try.func80, Try.ntmps80
  go_wp2
  go_loop [3] (fun i => i = .int .i64 0) (fun _ => 0)
  case atStart => rfl
  case round =>
    subst hrel
    go_wp2
    go_ret
    exact ⟨rfl, bnew _ _⟩
/-- The error of a refutation. -/
def refN (n : Int) (l : List AM) (p : List Stp) : Int := if checkN n l = 0 then (if refB n.toNat l p then 0 else 11) else checkN n l
set_option maxRecDepth 100000 in
set_option maxHeartbeats 4000000 in
theorem rcheckref_any (n : Int) (l : List AM) (p : List Stp) (a b : Option Addr) (cap cap' : Nat) (w : World) (hl : Rd w a l) (hp : RdS w b p) (hll : l.length ≤ 1000000) (hpl : p.length ≤ 1000000) :
    Calls Try.prog 39 #[.int .i64 n, .slice a l.length cap, .slice b p.length cap'] w (RetB (.int .i64 (refN n l p)) w) := by
  have HL := hid hl; clear hl
  have HP := hid hp; clear hp
  by_cases h0 : checkN n l = 0
  · obtain ⟨⟨hn1, hn2⟩, _, hrs⟩ := checkN_in h0
    obtain ⟨N, rfl⟩ : ∃ N : Nat, n = (N : Int) := ⟨n.toNat, by omega⟩
    have hN : N ≤ 12 := by omega
    have hN1 : 1 ≤ N := by omega
    have HOK := hid (rights_ok hrs)
    have H0 := hid h0
    clear h0 hrs
    go_enter Try.func39, Try.ntmps39
    go_upto_region 5 with (first | (go_at_call 32; refine (rcheck_any _ l a cap _ HL.out (by omega)).mono ?_; rw [H0.out]; rintro e w1 ⟨rfl, hb1⟩; have HB1 := hid hb1; clear hb1) | (go_at_call 79; refine (last_any N hN1 hN l HOK.out p a b cap cap' _ (HL.out.below HB1.out) (HP.out.below HB1.out) hll hpl).mono ?_; rintro e w2 ⟨hb2, hor⟩; have HB2 := hid hb2; clear hb2; rcases hor with ⟨s, g, c, hs, hI, rfl⟩ | ⟨hs, rfl⟩))
    · have HI := hid hI; clear hI
      have HS := hid hs; clear hs
      obtain ⟨X, sN⟩ := s
      cases hno : noneS N ⟨X, sN⟩ with
      | true =>
        go_wp2_with (go_at_call 80; refine (refutes_any N g X sN c _ (HI.out.below (bnew _ _)) (by omega)).mono ?_; rintro e w3 ⟨rfl, hb3⟩)
        go_ret
        refine ⟨ret_int ?_, HB1.out.step (HB2.out.step ((bnew _ _).step hb3))⟩
        have : refB N l p = true := by unfold refB; rw [HS.out]; exact hno
        unfold refN
        rw [if_pos H0.out, Int.toNat_natCast, if_pos this]
      | false =>
        go_wp2_with (go_at_call 80; refine (refutes_any N g X sN c _ (HI.out.below (bnew _ _)) (by omega)).mono ?_; rintro e w3 ⟨rfl, hb3⟩)
        go_ret
        refine ⟨ret_int ?_, HB1.out.step (HB2.out.step ((bnew _ _).step hb3))⟩
        have : ¬refB N l p = true := by unfold refB; rw [HS.out]; show ¬noneS N ⟨X, sN⟩ = true; rw [hno]; decide
        unfold refN
        rw [if_pos H0.out, Int.toNat_natCast, if_neg this]
    · have HS := hid hs; clear hs
      go_wp2_with (go_at_call 80; refine (refutes_nil _).mono ?_; rintro e w3 ⟨rfl, hb3⟩)
      go_ret
      refine ⟨ret_int ?_, HB1.out.step (HB2.out.step ((bnew _ _).step hb3))⟩
      have : ¬refB N l p = true := by unfold refB; rw [HS.out]; exact Bool.false_ne_true
      unfold refN
      rw [if_pos H0.out, Int.toNat_natCast, if_neg this]
  · have hne : (checkN n l == 0) = false := by simpa using h0
    go_enter Try.func39, Try.ntmps39
    go_wp2_with (go_at_call 32; refine (rcheck_any _ l a cap _ HL.out (by omega)).mono ?_; rintro e w1 ⟨rfl, hb1⟩)
    go_ret
    exact ⟨ret_int (by simp [refN, h0]), hb1⟩
end Go.Proofs.Ytnjbahiaelehkaa
