/- The small functions of the reference of layer 8. The reference of layer 8: add, guard, Reads, by, Plain. The reference of layer 16: has, put. -/
import Derived.Test.YtgalekifgnecjaaGreatZ1
import Derived.Test.YtgalekifgnecjaaGreatC2
import Derived.Test.YtgalekifgnecjaaGreatC5
import Derived.Lib.QuietBelow
import Derived.Deep.RegionHeld3
import Derived.Deep.RegionHeldLaw
import Derived.StillTailTactics
import Derived.BigQuiet
import Derived.Deep.AppendLies
namespace Go.Proofs.YtgalekifgnecjaaGreat
open Go.RowKit

open Go.RowKit Go.Shelf
attribute [local go_sem] Oper.semAt_some
attribute [local irreducible] wpStill
theorem in129 (n lo hi : Int) (w : World) : Calls Tryz.prog 129 #[.int .i64 n, .int .i64 lo, .int .i64 hi] w (RetS (.bool (inN n lo hi)) w) := by
  have H : Hid (inN n lo hi = (decide (lo ≤ n) && decide (n ≤ hi))) := hid rfl
  generalize inN n lo hi = r at *
  by_cases h1 : lo ≤ n
  · by_cases h2 : n ≤ hi
    · go_enter Tryz.func129, Tryz.ntmps129
      go_wp2
      go_ret
      exact ⟨ret_bool (by rw [H.out]; simp [h1, h2]), rfl⟩
    · have d2 : decide (n ≤ hi) = false := decide_eq_false h2
      go_enter Tryz.func129, Tryz.ntmps129
      go_wp2
      go_ret
      exact ⟨ret_bool (by rw [H.out]; simp [h1, h2]), rfl⟩
  · have d1 : decide (lo ≤ n) = false := decide_eq_false h1
    go_enter Tryz.func129, Tryz.ntmps129
    go_wp2
    go_ret
    exact ⟨ret_bool (by rw [H.out, d1]; rfl), rfl⟩
theorem in56 (n lo hi : Int) (w : World) : Calls Tryz.prog 56 #[.int .i64 n, .int .i64 lo, .int .i64 hi] w (RetS (.bool (inN n lo hi)) w) := by
  have H : Hid (inN n lo hi = (decide (lo ≤ n) && decide (n ≤ hi))) := hid rfl
  generalize inN n lo hi = r at *
  by_cases h1 : lo ≤ n
  · by_cases h2 : n ≤ hi
    · go_enter Tryz.func56, Tryz.ntmps56
      go_wp2
      go_ret
      exact ⟨ret_bool (by rw [H.out]; simp [h1, h2]), rfl⟩
    · have d2 : decide (n ≤ hi) = false := decide_eq_false h2
      go_enter Tryz.func56, Tryz.ntmps56
      go_wp2
      go_ret
      exact ⟨ret_bool (by rw [H.out]; simp [h1, h2]), rfl⟩
  · have d1 : decide (lo ≤ n) = false := decide_eq_false h1
    go_enter Tryz.func56, Tryz.ntmps56
    go_wp2
    go_ret
    exact ⟨ret_bool (by rw [H.out, d1]; rfl), rfl⟩
theorem ends117 (i : InsN) (w : World) : Calls Tryz.prog 117 #[vI i] w (RetB (.bool (endsB i)) w) := by
  have H : Hid (endsB i = (i.op == 24 || i.op == 26 || i.op == 27 || i.op == 28)) := hid rfl
  generalize endsB i = r at *
  cases h1 : (i.op == 24) with
  | true =>
    go_enter Tryz.func117, Tryz.ntmps117
    go_wp2
    go_ret
    exact ⟨ret_bool (by rw [H.out, h1]; rfl), bnew _ _⟩
  | false =>
    cases h2 : (i.op == 26) with
    | true =>
      go_enter Tryz.func117, Tryz.ntmps117
      go_wp2
      go_ret
      exact ⟨ret_bool (by rw [H.out, h1, h2]; rfl), bnew _ _⟩
    | false =>
      cases h3 : (i.op == 27) with
      | true =>
        go_enter Tryz.func117, Tryz.ntmps117
        go_wp2
        go_ret
        exact ⟨ret_bool (by rw [H.out, h1, h2, h3]; rfl), bnew _ _⟩
      | false =>
        go_enter Tryz.func117, Tryz.ntmps117
        go_wp2
        go_ret
        exact ⟨ret_bool (by rw [H.out, h1, h2, h3]; rfl), bnew _ _⟩
def jumpV (i : InsN) : Value := .tuple #[.int .i64 ((placeO i).getD 0), .bool (placeO i).isSome]
theorem jump131 (i : InsN) (w : World) : Calls Tryz.prog 131 #[vI i] w (RetB (jumpV i) w) := by
  have H : Hid (jumpV i = .tuple #[.int .i64 ((if i.op == 24 then some i.a else if i.op == 25 || i.op == 32 then some i.b else none).getD 0), .bool (if i.op == 24 then some i.a else if i.op == 25 || i.op == 32 then some i.b else none).isSome]) := hid rfl
  generalize jumpV i = r at *
  cases h1 : (i.op == 24) with
  | true =>
    rw [h1] at H
    go_enter Tryz.func131, Tryz.ntmps131
    go_wp2
    go_ret2
    exact ⟨by rw [H.out]; rfl, bnew _ _⟩
  | false =>
    rw [h1] at H
    cases h2 : (i.op == 25) with
    | true =>
      rw [h2] at H
      go_enter Tryz.func131, Tryz.ntmps131
      go_wp2
      go_ret2
      exact ⟨by rw [H.out]; rfl, bnew _ _⟩
    | false =>
      rw [h2] at H
      cases h3 : (i.op == 32) with
      | true =>
        rw [h3] at H
        go_enter Tryz.func131, Tryz.ntmps131
        go_wp2
        go_ret2
        exact ⟨by rw [H.out]; rfl, bnew _ _⟩
      | false =>
        rw [h3] at H
        go_enter Tryz.func131, Tryz.ntmps131
        go_wp2
        go_ret2
        exact ⟨by rw [H.out]; rfl, bnew _ _⟩
theorem part146 (i : InsN) (n : Int) (h : n = 1 ∨ n = 2 ∨ n = 3) (w : World) : Calls Tryz.prog 146 #[vI i, .int .i64 n] w (RetB (.int .i64 (partN i (n - 1).toNat)) w) := by
  rcases h with rfl | rfl | rfl
  · go_enter Tryz.func146, Tryz.ntmps146
    go_wp2
    go_ret
    exact ⟨rfl, bnew _ _⟩
  · go_enter Tryz.func146, Tryz.ntmps146
    go_wp2
    go_ret
    exact ⟨rfl, bnew _ _⟩
  · go_enter Tryz.func146, Tryz.ntmps146
    go_wp2
    go_ret
    exact ⟨rfl, bnew _ _⟩
theorem raise_row (i : InsN) : raisesB i = (rowL i.op).rs := by
  unfold raisesB rowL
  by_cases h : opOk i.op = true
  · rw [if_pos h]
    have h2 : 1 ≤ i.op ∧ i.op ≤ 34 := by unfold opOk at h; simpa using h
    have : ∀ k : Nat, k < 35 → raiseT.contains (k : Int) = (rowT.getD k row0).rs := by decide
    have e := this i.op.toNat (by omega)
    rwa [show ((i.op.toNat : Nat) : Int) = i.op by omega] at e
  · rw [if_neg h]
    cases hc : raiseT.contains i.op with
    | false => rfl
    | true =>
      exact absurd ((by decide : ∀ op ∈ raiseT, opOk op = true) _ (List.contains_iff_mem.1 hc)) h
theorem box7r {W : World} {b : Nat} {r : RowN} (h : W.heap[b]? = some (.cells (cR r) 169 (0, 0))) : W.cell? ⟨b, 3, none⟩ = some (.int .i64 r.wr) ∧ W.cell? ⟨b, 4, none⟩ = some (.int .i64 r.r0) ∧ W.cell? ⟨b, 5, none⟩ = some (.int .i64 r.r1) ∧ W.cell? ⟨b, 6, none⟩ = some (.bool r.rs) :=
  ⟨(cell_of_row _ _ _ _ _ _ h).trans rfl, (cell_of_row _ _ _ _ _ _ h).trans rfl, (cell_of_row _ _ _ _ _ _ h).trans rfl, (cell_of_row _ _ _ _ _ _ h).trans rfl⟩
theorem raises122 (i : InsN) (w : World) : Calls Tryz.prog 122 #[vI i] w (RetB (.bool (raisesB i)) w) := by
  have HF := hid (rowOf_any i.op)
  rw [raise_row]
  generalize rowL i.op = r at *
  have HX := hid (heapn w (.cells #[.int .i64 i.op, .int .i64 i.a, .int .i64 i.b, .int .i64 i.c] 85) _ rfl)
  have HB := hid (bnew w (.cells #[.int .i64 i.op, .int .i64 i.a, .int .i64 i.b, .int .i64 i.c] 85))
  go_enter Tryz.func122, Tryz.ntmps122
  go_wp2_with (go_at_call 130; (with_reducible refine (HF.out _).mono ?_); rintro e w1 ⟨rfl, hb⟩; replace HB := hid (HB.out.step (hb.step (bnew w1 (.cells (cR r) 169)))); clear hb)
  go_ret
  exact ⟨rfl, HB.out⟩
theorem writes82 (i : InsN) (w : World) : Calls Tryz.prog 82 #[vI i] w (RetB (.int .i64 (writesI i)) w) := by
  have HF := hid (rowOf_any i.op)
  have hwr := (row_form i.op).1
  have H : Hid (writesI i = if (rowL i.op).wr = 0 then -1 else partN i ((rowL i.op).wr - 1).toNat) := hid (by unfold writesI; rw [hwr])
  have hs : (rowL i.op).wr = 0 ∨ (rowL i.op).wr = 1 := by rw [hwr]; exact (formL_shape i.op).2.2
  have HP := hid (part146 i 1 (.inl rfl))
  clear hwr
  generalize writesI i = q at *
  generalize rowL i.op = r at *
  obtain ⟨h0, h1, h2, wr, r0, r1, rs⟩ := r
  dsimp only at hs H
  have HX := hid (heapn w (.cells #[.int .i64 i.op, .int .i64 i.a, .int .i64 i.b, .int .i64 i.c] 85) _ rfl)
  have HB := hid (bnew w (.cells #[.int .i64 i.op, .int .i64 i.a, .int .i64 i.b, .int .i64 i.c] 85))
  rcases hs with rfl | rfl
  · go_enter Tryz.func82, Tryz.ntmps82
    go_wp2_with (go_at_call 130; (with_reducible refine (HF.out _).mono ?_); rintro e w1 ⟨rfl, hb⟩; replace HB := hid (HB.out.step (hb.step (bnew w1 (.cells (cR ⟨h0, h1, h2, 0, r0, r1, rs⟩) 169)))); clear hb)
    go_ret
    exact ⟨by rw [H.out]; rfl, HB.out⟩
  · go_enter Tryz.func82, Tryz.ntmps82
    go_wp2_with (first
      | (go_at_call 130; (with_reducible refine (HF.out _).mono ?_); rintro e w1 ⟨rfl, hb⟩; have HX1 := hid (keepBox (hb.step (bnew w1 (.cells (cR ⟨h0, h1, h2, 1, r0, r1, rs⟩) 169))) HX.out); obtain ⟨k0, k1, k2, k3⟩ := box4 HX1.out; replace HB := hid (HB.out.step (hb.step (bnew w1 (.cells (cR ⟨h0, h1, h2, 1, r0, r1, rs⟩) 169)))); clear hb)
      | (go_at_call 146; (with_reducible refine (HP.out _).mono ?_); rintro e w2 ⟨rfl, hb⟩; replace HB := hid (HB.out.step hb); clear hb))
    go_ret
    exact ⟨by rw [H.out]; rfl, HB.out⟩

theorem addL_one (l : List Int) (n : Int) : addL l [n] = if l.contains n = true then l else l ++ [n] := rfl
set_option maxHeartbeats 1000000 in
theorem add119 (base : Nat) (v : Value) (l : List Int) (n : Int) (w : World) (ho : OwnI w base v l) (hlen : l.length + 1 ≤ 1000000) (hb : base ≤ w.heap.size) : Calls Tryz.prog 119 #[v, .int .i64 n] w (AddRet v base (addL l [n]) w) := by
  have HO := hid ho
  obtain ⟨a, c, rfl, hr⟩ := ho.rd
  have HR := hid hr
  have HAL := hid (addL_one l n)
  clear ho hr
  go_enter Tryz.func119, Tryz.ntmps119
  go_wp2
  go_loopg [5] l.length (fun gh s5 wr => ∃ j : Nat, j ≤ l.length ∧ gh = l.length - j ∧ s5 = .int .i64 j ∧ Hid (wr = w ∧ n ∉ l.take j))
  case atStart => exact ⟨0, Nat.zero_le _, rfl, rfl, hid ⟨rfl, by simp⟩⟩
  case round =>
    obtain ⟨j, hj, rfl, rfl, HK⟩ := hrel
    obtain ⟨rfl, hni⟩ := HK.out
    clear HK
    by_cases hlj : j < l.length
    · obtain ⟨b, off, ha, hlt, h0⟩ := HR.out j hlj
      subst ha
      have nj : (j : Int) < (l.length : Int) := by omega
      have HT : Hid (l.take (j + 1) = l.take j ++ [l[j]]) := hid (take_last hlj)
      have HMM : Hid (l[j] ∈ l) := hid (List.getElem_mem hlj)
      have HNI := hid hni
      clear hni
      generalize l[j] = x at *
      cases hxn : (x == n) with
      | true =>
        have e : x = n := by simpa using hxn
        have HC : Hid (l.contains n = true) := hid (List.contains_iff_mem.2 (by rw [← e]; exact HMM.out))
        rw [if_pos HC.out] at HAL
        clear e
        go_wp2
        go_ret
        exact ⟨_, rfl, by rw [HAL.out]; exact HO.out, ⟨rfl, rfl, rfl, Nat.le_refl _, fun _ _ _ => rfl⟩, .inl rfl⟩
      | false =>
        have HN2 : Hid (n ∉ l.take (j + 1)) := hid (by
          rw [HT.out, List.mem_append, List.mem_singleton]
          rintro (h | h)
          · exact HNI.out h
          · rw [h] at hxn; simp at hxn)
        go_wp2
        go_roundg (l.length - (j + 1))
        case measure => omega
        case rel => exact ⟨j + 1, by omega, rfl, by go_num, hid ⟨rfl, HN2.out⟩⟩
    · obtain rfl : j = l.length := by omega
      have nj : ¬ (l.length : Int) < (l.length : Int) := by omega
      rw [List.take_length] at hni
      have HC : Hid (¬ l.contains n = true) := hid (fun h => hni (List.contains_iff_mem.1 h))
      rw [if_neg HC.out] at HAL
      clear hni
      go_wp2_with (first
        | (at_builtin; refine wpList_append_ints _ rfl _ _ rfl base _ _ [n] rfl (OwnI.later HO.out (bnew _ _)) (some ⟨_, 0, none⟩) 1 rfl (rd_one _ _ _) (by simp; omega) (by simp; omega) ?_; intro v' w5 hown' hgrow hat; have HOW := hid hown'; have HGR := hid hgrow; have HAT := hid hat; clear hown' hgrow hat))
      go_ret
      refine ⟨_, rfl, by rw [HAL.out]; exact HOW.out, grown_trans (World.grownBy_alloc _ _ _) HGR.out (.inl rfl), ?_⟩
      rcases HAT.out with h | h
      · exact .inl h
      · exact .inr ⟨_, h, by simp⟩
set_option maxHeartbeats 1000000 in
theorem guard121 (u : UntN) (n : Int) (ca : Option Addr) (cc : Nat) (ga : Option Addr) (gc : Nat) (w : World) (hg : RdD w ga u.guards) (hlg : u.guards.length ≤ 1000000) :
    Calls Tryz.prog 121 #[vU u ca cc ga gc, .int .i64 n] w (RetB (.int .i64 (guardL u n)) w) := by
  have HG := hid hg; clear hg
  have HX := hid (heapn w (oU u ca cc ga gc) _ rfl)
  have HB := hid (bnew w (oU u ca cc ga gc))
  have HGL : Hid (guardL u n = idxP (guardIn n) u.guards) := hid rfl
  generalize guardL u n = q at *
  obtain ⟨k0, k1, k2, k3, k4, k5, k6⟩ := box7 HX.out
  go_enter Tryz.func121, Tryz.ntmps121
  go_wp2
  go_loopg [5] u.guards.length (fun gh s5 wr => ∃ j : Nat, j ≤ u.guards.length ∧ gh = u.guards.length - j ∧ s5 = .int .i64 j ∧ Hid (wr = w.alloc (oU u ca cc ga gc) ∧ ∀ x ∈ u.guards.take j, guardIn n x = false))
  case atStart => exact ⟨0, Nat.zero_le _, rfl, rfl, hid ⟨rfl, by simp⟩⟩
  case round =>
    obtain ⟨j, hj, rfl, rfl, HK⟩ := hrel
    obtain ⟨rfl, hni⟩ := HK.out
    have HNI := hid hni
    clear HK hni
    by_cases hlj : j < u.guards.length
    · obtain ⟨b, off, ha, hlt, h0, h1, h2⟩ := (HG.out.below HB.out) j hlj
      subst ha
      have nj : (j : Int) < (u.guards.length : Int) := by omega
      have HT : Hid (u.guards.take (j + 1) = u.guards.take j ++ [u.guards[j]]) := hid (take_last hlj)
      have HQ : Hid (guardIn n u.guards[j] = true → q = (j : Int)) := hid (fun h => by rw [HGL.out]; exact idxP_some hlj h HNI.out)
      have HGI : Hid (guardIn n u.guards[j] = (decide (u.guards[j].frm ≤ n) && decide (n < u.guards[j].til))) := hid rfl
      have HNX : Hid (guardIn n u.guards[j] = false → ∀ x ∈ u.guards.take (j + 1), guardIn n x = false) := hid (fun h x hx => by
        rw [HT.out, List.mem_append, List.mem_singleton] at hx
        rcases hx with hx | hx
        · exact HNI.out x hx
        · rw [hx]; exact h)
      generalize guardIn n u.guards[j] = bg at *
      generalize u.guards[j].frm = gf at *
      generalize u.guards[j].til = gt at *
      by_cases c1 : gf ≤ n
      · rw [decide_eq_true c1, Bool.true_and] at HGI
        by_cases c2 : n < gt
        · rw [decide_eq_true c2] at HGI
          go_wp2
          go_ret
          exact ⟨by rw [HQ.out HGI.out]; rfl, HB.out⟩
        · rw [decide_eq_false c2] at HGI
          have d2 : decide (n < gt) = false := decide_eq_false c2
          go_wp2
          go_roundg (u.guards.length - (j + 1))
          case measure => omega
          case rel => exact ⟨j + 1, by omega, rfl, by go_num, hid ⟨rfl, HNX.out HGI.out⟩⟩
      · rw [decide_eq_false c1, Bool.false_and] at HGI
        have d1 : decide (gf ≤ n) = false := decide_eq_false c1
        go_wp2
        go_roundg (u.guards.length - (j + 1))
        case measure => omega
        case rel => exact ⟨j + 1, by omega, rfl, by go_num, hid ⟨rfl, HNX.out HGI.out⟩⟩
    · obtain rfl : j = u.guards.length := by omega
      have nj : ¬ (u.guards.length : Int) < (u.guards.length : Int) := by omega
      have hq : q = -1 := by
        rw [HGL.out]
        have h := HNI.out
        rw [List.take_length] at h
        exact idxP_none h
      clear HGL
      go_wp2
      go_ret
      exact ⟨rfl, HB.out⟩

theorem step_append_i {ops : Array Oper} {o : Oper} {a : Act} {K : Act → World → Prop} {Q : Exit → Act → World → Prop} {E : Prop} (w : World) (hgd : o.guard = none) (s x : Operand)
    (ho : o.op = .call { callee := .builtin .append, args := #[s, x], argTypes := #[28, 28] }) (base : Nat) (v : Value) (l0 l : List Int) (hsv : a.eval s = v) (hown : OwnI w base v l0) (A : Option Addr) (c : Nat) (ln : Nat) (hln : l.length = ln) (hx : a.eval x = .slice A ln c) (hl : RdI w A l) (hs : l0.length + l.length ≤ 1000000) (hb : base ≤ w.heap.size)
    (h : ∀ v' w', OwnI w' base v' (l0 ++ l) → w.grownBy w' v.ownBlock → (v'.ownBlock = v.ownBlock ∨ v'.ownBlock = some w.heap.size) → K (a.put o.dst v') w') :
    if Region.wanted o (yielded ops a.tmps) = true then Oper.wp Tryz.prog o a w K Q else E := by
  subst hln
  have hw : Region.wanted o (yielded ops a.tmps) = true := by simp [Region.wanted, hgd]
  rw [if_pos hw]
  obtain ⟨v', w', hrun, h2, h3, h4⟩ := run_append_ints w base o.type v l0 l hown A c hl hs hb
  unfold Oper.wp execOp
  simp only [ho, resolve, invoke, builtin, Sem.run_bind, Sem.run_pure, Result.andThen_ok, List.map_toArray, List.map_cons, List.map_nil, hsv, hx, hrun]
  exact h v' w' h2 h3 h4
theorem RdI.headP {w : World} {a : Option Addr} {ks : List Int} (h : RdI w a ks) (i : Nat) : RdI w a (ks.take i) := by
  intro j hj
  have hj' : j < ks.length := by
    rw [List.length_take] at hj
    omega
  obtain ⟨b, off, ha, hlt, hc⟩ := h j hj'
  exact ⟨b, off, ha, hlt, by rw [List.getElem_take]; exact hc⟩
theorem RdI.tailP {w : World} {b off : Nat} {ks : List Int} (h : RdI w (some ⟨b, off, none⟩) ks) (i : Nat) : RdI w (some ⟨b, off + i, none⟩) (ks.drop i) := by
  intro j hj
  have hj' : i + j < ks.length := by
    rw [List.length_drop] at hj
    omega
  obtain ⟨b', off', ha, hlt, hc⟩ := h (i + j) hj'
  simp only [Option.some.injEq, Addr.mk.injEq, and_true] at ha
  obtain ⟨rfl, rfl⟩ := ha
  exact ⟨b, off + i, rfl, hlt, by rw [List.getElem_drop, Nat.add_assoc]; exact hc⟩
theorem RdI.emptyP (w : World) (a : Option Addr) (ks : List Int) (h : ks.length = 0) : RdI w a ks := fun i hi => by omega
/-- A list of numbers, read off a slice. -/
structure RdV (w : World) (v : Value) (l : List Int) : Prop where
  ex : ∃ a c, v = .slice a l.length c ∧ RdI w a l ∧ l.length ≤ c ∧ (a = none ∧ c = 0 ∨ ∃ b off, a = some ⟨b, off, none⟩)
theorem RdV.below {w w' : World} {v : Value} {l : List Int} (h : RdV w v l) (hb : Below w.heap.size w w') : RdV w' v l := by
  obtain ⟨a, c, e, hr, hl, hn⟩ := h.ex
  exact ⟨a, c, e, hr.below hb, hl, hn⟩
theorem RdV.nilP (w : World) : RdV w (.slice none 0 0) [] := ⟨none, 0, rfl, fun _ h => absurd h (Nat.not_lt_zero _), Nat.le_refl _, .inl ⟨rfl, rfl⟩⟩
theorem ownI_rdV {w : World} {base : Nat} {v : Value} {l : List Int} (h : OwnI w base v l) : RdV w v l := by
  obtain ⟨a, c, rfl, hr⟩ := h.rd
  refine ⟨a, c, rfl, hr, ?_, ?_⟩
  · rcases h.2 with ⟨e1, e2⟩ | ⟨g, cap, cur, e1, _, _, h1, _⟩
    · injection e1 with q1 q2 q3
      omega
    · injection e1 with q1 q2 q3
      omega
  · rcases h.2 with ⟨e1, _⟩ | ⟨g, cap', cur, e1, _⟩
    · injection e1 with q1 q2 q3
      exact .inl ⟨q1, q3⟩
    · injection e1 with q1 q2 q3
      exact .inr ⟨_, _, q1⟩
theorem insS_split (n : Int) : ∀ (l : List Int) (i : Nat), i ≤ l.length → (∀ x ∈ l.take i, x < n) → (∀ h : i < l.length, n ≤ l[i]) → insS n l = if l[i]? = some n then l else l.take i ++ n :: l.drop i
  | [], i, hi, _, _ => by
    have : i = 0 := by simpa using hi
    subst this
    simp [insS]
  | y :: l, 0, _, _, h => by
    have h0 := h (by simp)
    simp only [List.getElem_cons_zero] at h0
    unfold insS
    by_cases h1 : n < y
    · rw [if_pos h1, if_neg (by simp; omega)]
      simp
    · have e : n = y := by omega
      rw [if_neg h1, if_pos e, if_pos (by simp [e])]
  | y :: l, i + 1, hi, ht, h => by
    have hy := ht y (by simp)
    have ih := insS_split n l i (by simpa using hi) (fun x hx => ht x (by simp [hx])) (fun hh => by have := h (by simpa using hh); simpa using this)
    unfold insS
    rw [if_neg (by omega), if_neg (by omega), ih]
    simp only [List.getElem?_cons_succ, List.take_succ_cons, List.drop_succ_cons]
    split
    · rfl
    · rfl
theorem has85 (l : List Int) (n : Int) (a : Option Addr) (c : Nat) (w : World) (hr : RdI w a l) (hlen : l.length ≤ 1000000) : Calls Tryz.prog 85 #[.slice a l.length c, .int .i64 n] w (RetS (.bool (l.contains n)) w) := by
  have HR := hid hr; clear hr
  have HCT : Hid (l.contains n = true ↔ n ∈ l) := hid List.contains_iff_mem
  generalize l.contains n = cn at *
  go_enter Tryz.func85, Tryz.ntmps85
  go_wp2
  go_loopg [5] l.length (fun gh s5 wr => ∃ j : Nat, j ≤ l.length ∧ gh = l.length - j ∧ s5 = .int .i64 j ∧ Hid (wr = w ∧ n ∉ l.take j))
  case atStart => exact ⟨0, Nat.zero_le _, rfl, rfl, hid ⟨rfl, by simp⟩⟩
  case round =>
    obtain ⟨j, hj, rfl, rfl, HK⟩ := hrel
    obtain ⟨rfl, hni⟩ := HK.out
    have HNI := hid hni
    clear HK hni
    by_cases hlj : j < l.length
    · obtain ⟨b, off, ha, hlt, h0⟩ := HR.out j hlj
      subst ha
      have nj : (j : Int) < (l.length : Int) := by omega
      have HT : Hid (l.take (j + 1) = l.take j ++ [l[j]]) := hid (take_last hlj)
      have HMM : Hid (l[j] ∈ l) := hid (List.getElem_mem hlj)
      generalize l[j] = x at *
      cases hxn : (x == n) with
      | true =>
        have e : x = n := by simpa using hxn
        have HC : Hid (cn = true) := hid (HCT.out.2 (by rw [← e]; exact HMM.out))
        clear e
        go_wp2
        go_ret
        exact ⟨ret_bool HC.out.symm, rfl⟩
      | false =>
        have HN2 : Hid (n ∉ l.take (j + 1)) := hid (by
          rw [HT.out, List.mem_append, List.mem_singleton]
          rintro (h | h)
          · exact HNI.out h
          · rw [h] at hxn; simp at hxn)
        go_wp2
        go_roundg (l.length - (j + 1))
        case measure => omega
        case rel => exact ⟨j + 1, by omega, rfl, by go_num, hid ⟨rfl, HN2.out⟩⟩
    · obtain rfl : j = l.length := by omega
      have nj : ¬ (l.length : Int) < (l.length : Int) := by omega
      have HC : Hid (cn = false) := hid (by
        have h := HNI.out
        rw [List.take_length] at h
        cases cn with
        | false => rfl
        | true => exact absurd (HCT.out.1 rfl) h)
      go_wp2
      go_ret
      exact ⟨ret_bool HC.out.symm, rfl⟩
theorem balP {w w' : World} (h : Below w.heap.size w w') (o : Obj) : Below w.heap.size w (w'.alloc o) := h.alloc h.size o
theorem heapA (w : World) (o : Obj) : (w.alloc o).heap[w.heap.size]? = some o := heapn _ _ _ rfl
theorem rdHP {w : World} {k : Nat} {x : Int} {T : TypeId} (h : w.heap[k]? = some (.cells #[.int .i64 x] T (0, 0))) : RdI w (some ⟨k, 0, none⟩) [x] := by
  intro i hi
  obtain rfl : i = 0 := by simp at hi; exact hi
  exact ⟨_, _, rfl, lt_of_heap h, cell_in h rfl⟩
theorem heapB (w : World) (o o' : Obj) : ((w.alloc o').alloc o).heap[w.heap.size + 1]? = some o := heapn _ _ _ (by simp)
theorem heapC (w : World) (o o' : Obj) : ((w.alloc o').drew.alloc o).heap[w.heap.size + 1]? = some o := heapn _ _ _ (by simp)
theorem heapD (w : World) (o o' : Obj) : ((w.alloc o').alloc o).heap[w.heap.size]? = some o' := keepBox (bnew _ _) (heapA w o')
theorem heapE (w : World) (o o' : Obj) : ((w.alloc o').drew.alloc o).heap[w.heap.size]? = some o' := keepBox (balP (bdrew _) _) (heapA w o')
/-- What put returns. -/
def PutRet (l : List Int) (w : World) (e : Ending) (w' : World) : Prop := Below w.heap.size w w' ∧ ∃ v, e = .returned v ∧ RdV w' v l
set_option maxRecDepth 100000 in
set_option maxHeartbeats 8000000 in
theorem put83 (v : Value) (l : List Int) (n : Int) (w : World) (hv : RdV w v l) (hlen : l.length ≤ 100000) : Calls Tryz.prog 83 #[v, .int .i64 n] w (PutRet (insS n l) w) := by
  obtain ⟨a, c, rfl, hr, hlc, hnc⟩ := hv.ex
  have HV := hid hv; clear hv
  have HR := hid hr; clear hr
  have HSP := hid (insS_split n l)
  go_enter Tryz.func83, Tryz.ntmps83
  go_wp2
  go_loopg [5] l.length (fun gh s5 wr => ∃ j : Nat, j ≤ l.length ∧ gh = l.length - j ∧ s5 = .int .i64 j ∧ Hid (wr = w ∧ ∀ x ∈ l.take j, x < n))
  case atStart => exact ⟨0, Nat.zero_le _, rfl, rfl, hid ⟨rfl, by simp⟩⟩
  case round =>
    obtain ⟨j, hj, rfl, rfl, HK⟩ := hrel
    obtain ⟨rfl, hni⟩ := HK.out
    have HNI := hid hni
    clear HK hni
    have HSJ := hid (HSP.out j hj HNI.out)
    by_cases hlj : j < l.length
    · obtain ⟨b, off, ha, hlt, h0⟩ := HR.out j hlj
      subst ha
      have nj : (j : Int) < (l.length : Int) := by omega
      have HT : Hid (l.take (j + 1) = l.take j ++ [l[j]]) := hid (take_last hlj)
      have HS2 : Hid (n ≤ l[j] → insS n l = if l[j] = n then l else l.take j ++ n :: l.drop j) := hid (fun h => by
        rw [HSJ.out (fun _ => h), List.getElem?_eq_getElem hlj]
        simp only [Option.some.injEq])
      generalize l[j] = x at *
      by_cases hxn : x < n
      · have HN2 : Hid (∀ y ∈ l.take (j + 1), y < n) := hid (by
          intro y hy
          rw [HT.out, List.mem_append, List.mem_singleton] at hy
          rcases hy with h | h
          · exact HNI.out y h
          · rw [h]; exact hxn)
        go_wp2
        go_roundg (l.length - (j + 1))
        case measure => omega
        case rel => exact ⟨j + 1, by omega, rfl, by go_num, hid ⟨rfl, HN2.out⟩⟩
      · have HS3 := hid (HS2.out (by omega))
        have dx : decide (x < n) = false := decide_eq_false hxn
        by_cases hxe : x = n
        · rw [if_pos hxe] at HS3
          have de : (x == n) = true := by simpa using hxe
          clear hxe
          go_wp2
          go_ret
          exact ⟨Below.refl _ _, _, rfl, by rw [HS3.out]; exact HV.out⟩
        · rw [if_neg hxe] at HS3
          have de : (x == n) = false := by simpa using hxe
          clear hxe
          have i1 : (j : Int) ≤ c := by omega
          have i2 : (j : Int) ≤ l.length := by omega
          have i3 : (0 : Int) ≤ j := by omega
          have i4 : (l.length : Int) ≤ c := by omega
          have hti : (l.take j).length = j := by rw [List.length_take]; omega
          have htd : (l.drop j).length = l.length - j := List.length_drop ..
          go_upto_region 6 with fail
          have hcj : ¬ c = j := by omega
          go_region_law (first
              | (refine step_append_i _ rfl (.tmp 33) (.tmp 36) rfl wr.heap.size (.slice (some ⟨wr.heap.size, 0, none⟩) 0 0) [] (l.take j) (by rfl) (by exact OwnI.none (by omega) (by first | exact heapA _ _ | exact heapA wr _ | exact heapB wr _ _ | exact heapC wr _ _ | exact heapD wr _ _ | exact heapE wr _ _)) _ _ j hti (by rfl) (RdI.headP (HR.out.below (by repeat (first | exact Below.refl _ _ | refine Below.drew ?_ | refine balP ?_ _))) j) (by simp; omega) (by simp; try omega) ?_
                 intro v1 w1 hown1 hg1 hat1
                 have HA1 : Hid (OwnI w1 wr.heap.size v1 (l.take j) ∧ Below wr.heap.size wr w1) := hid ⟨by simpa using hown1, Below.grown (by repeat (first | exact Below.refl _ _ | refine Below.drew ?_ | refine balP ?_ _)) hg1 (by simp; try omega) (by intro q hq; simp [Value.ownBlock] at hq; omega)⟩
                 have h1s := HA1.out.2.size
                 have HN1 : Hid (w1.heap[wr.heap.size + 1]? = some (.cells #[.int .i64 n] 3 (0, 0))) := hid ((hg1.block _ (by simp; try omega) (by simp [Value.ownBlock])).trans (by first | exact heapA _ _ | exact heapA wr _ | exact heapB wr _ _ | exact heapC wr _ _ | exact heapD wr _ _ | exact heapE wr _ _))
                 clear hown1 hg1 hat1)
              | (refine step_append_i _ rfl (.tmp 33) (.tmp 36) rfl wr.heap.size (.slice (some ⟨wr.heap.size + 1, 0, none⟩) 0 0) [] (l.take j) (by rfl) (by exact OwnI.none (by omega) (by first | exact heapA _ _ | exact heapA wr _ | exact heapB wr _ _ | exact heapC wr _ _ | exact heapD wr _ _ | exact heapE wr _ _)) _ _ j hti (by rfl) (RdI.headP (HR.out.below (by repeat (first | exact Below.refl _ _ | refine Below.drew ?_ | refine balP ?_ _))) j) (by simp; omega) (by simp; try omega) ?_
                 intro v1 w1 hown1 hg1 hat1
                 have HA1 : Hid (OwnI w1 wr.heap.size v1 (l.take j) ∧ Below wr.heap.size wr w1) := hid ⟨by simpa using hown1, Below.grown (by repeat (first | exact Below.refl _ _ | refine Below.drew ?_ | refine balP ?_ _)) hg1 (by simp; try omega) (by intro q hq; simp [Value.ownBlock] at hq; omega)⟩
                 have h1s := HA1.out.2.size
                 have HN1 : Hid (w1.heap[wr.heap.size]? = some (.cells #[.int .i64 n] 3 (0, 0))) := hid ((hg1.block _ (by simp; try omega) (by simp [Value.ownBlock])).trans (by first | exact heapA _ _ | exact heapA wr _ | exact heapB wr _ _ | exact heapC wr _ _ | exact heapD wr _ _ | exact heapE wr _ _))
                 clear hown1 hg1 hat1)
              | (refine step_append_i _ rfl (.tmp 33) (.tmp 36) rfl wr.heap.size (.slice (some ⟨wr.heap.size, 0, none⟩) 0 0) [] (l.take j) (by rfl) (by exact OwnI.none (by omega) (by first | exact heapA _ _ | exact heapA wr _ | exact heapB wr _ _ | exact heapC wr _ _ | exact heapD wr _ _ | exact heapE wr _ _)) _ _ j hti (by rfl) (RdI.headP (HR.out.below (by repeat (first | exact Below.refl _ _ | refine Below.drew ?_ | refine balP ?_ _))) j) (by simp; omega) (by simp; try omega) ?_
                 intro v1 w1 hown1 hg1 hat1
                 have HA1 : Hid (OwnI w1 wr.heap.size v1 (l.take j) ∧ Below wr.heap.size wr w1) := hid ⟨by simpa using hown1, Below.grown (by repeat (first | exact Below.refl _ _ | refine Below.drew ?_ | refine balP ?_ _)) hg1 (by simp; try omega) (by intro q hq; simp [Value.ownBlock] at hq; omega)⟩
                 have h1s := HA1.out.2.size
                 clear hown1 hg1 hat1)
              | (refine step_append_i _ rfl (.tmp 37) (.tmp 39) rfl wr.heap.size v1 (l.take j) [n] (by rfl) (by exact HA1.out.1.later (by repeat (first | exact Below.refl _ _ | refine Below.drew ?_ | refine balP ?_ _))) (some ⟨w1.heap.size, 0, none⟩) 1 1 rfl (by rfl) (by first | exact rd_one _ _ _ | exact (rd_one _ _ _).below (bdrew _)) (by simp; omega) (by first | exact h1s | (simp; omega)) ?_
                 intro v2 w2 hown2 hg2 hat2
                 have HA2 : Hid (OwnI w2 wr.heap.size v2 (l.take j ++ [n]) ∧ Below wr.heap.size wr w2) := hid ⟨hown2, Below.grown (HA1.out.2.step (by repeat (first | exact Below.refl _ _ | refine Below.drew ?_ | refine balP ?_ _))) hg2 (by first | exact h1s | (simp; omega)) (own_ge HA1.out.1)⟩
                 have h2s := HA2.out.2.size
                 clear hown2 hg2 hat2)
              | (refine step_append_i _ rfl (.tmp 37) (.tmp 39) rfl wr.heap.size v1 (l.take j) [n] (by rfl) (by exact HA1.out.1.later (by repeat (first | exact Below.refl _ _ | refine Below.drew ?_ | refine balP ?_ _))) (some ⟨wr.heap.size + 1, 0, none⟩) 1 1 rfl (by rfl) (by first | exact rdHP HN1.out | exact (rdHP HN1.out).below (bdrew _)) (by simp; omega) (by first | exact h1s | (simp; omega)) ?_
                 intro v2 w2 hown2 hg2 hat2
                 have HA2 : Hid (OwnI w2 wr.heap.size v2 (l.take j ++ [n]) ∧ Below wr.heap.size wr w2) := hid ⟨hown2, Below.grown (HA1.out.2.step (by repeat (first | exact Below.refl _ _ | refine Below.drew ?_ | refine balP ?_ _))) hg2 (by first | exact h1s | (simp; omega)) (own_ge HA1.out.1)⟩
                 have h2s := HA2.out.2.size
                 clear hown2 hg2 hat2)
              | (refine step_append_i _ rfl (.tmp 37) (.tmp 39) rfl wr.heap.size v1 (l.take j) [n] (by rfl) (by exact HA1.out.1.later (by repeat (first | exact Below.refl _ _ | refine Below.drew ?_ | refine balP ?_ _))) (some ⟨wr.heap.size, 0, none⟩) 1 1 rfl (by rfl) (by first | exact rdHP HN1.out | exact (rdHP HN1.out).below (bdrew _)) (by simp; omega) (by first | exact h1s | (simp; omega)) ?_
                 intro v2 w2 hown2 hg2 hat2
                 have HA2 : Hid (OwnI w2 wr.heap.size v2 (l.take j ++ [n]) ∧ Below wr.heap.size wr w2) := hid ⟨hown2, Below.grown (HA1.out.2.step (by repeat (first | exact Below.refl _ _ | refine Below.drew ?_ | refine balP ?_ _))) hg2 (by first | exact h1s | (simp; omega)) (own_ge HA1.out.1)⟩
                 have h2s := HA2.out.2.size
                 clear hown2 hg2 hat2)
              | (refine step_append_i _ rfl (.tmp 40) (.tmp 43) rfl wr.heap.size v2 (l.take j ++ [n]) (l.drop j) (by rfl) (by first | exact HA2.out.1 | exact HA2.out.1.later (bdrew _)) _ _ (l.length - j) htd (by rfl) (RdI.tailP (HR.out.below (by first | exact HA2.out.2 | exact HA2.out.2.drew)) j) (by simp; omega) (by first | exact h2s | (simp; omega)) ?_
                 intro v3 w3 hown3 hg3 hat3
                 have HA3 : Hid (OwnI w3 wr.heap.size v3 (l.take j ++ n :: l.drop j) ∧ Below wr.heap.size wr w3) := hid ⟨by simpa using hown3, Below.grown (by first | exact HA2.out.2 | exact HA2.out.2.drew) hg3 (by first | exact h2s | (simp; omega)) (own_ge HA2.out.1)⟩
                 clear hown3 hg3 hat3))
          all_goals
            go_wp2
            go_ret
            exact ⟨HA3.out.2, _, rfl, by rw [HS3.out]; exact ownI_rdV HA3.out.1⟩
    · obtain rfl : j = l.length := by omega
      have nj : ¬ (l.length : Int) < (l.length : Int) := by omega
      have HS3 := hid (HSJ.out (fun h => absurd h hlj))
      rw [List.getElem?_eq_none (Nat.le_refl _), if_neg (by simp)] at HS3
      have i1 : (l.length : Int) ≤ c := by omega
      have i3 : (0 : Int) ≤ l.length := by omega
      have hti : (l.take l.length).length = l.length := by rw [List.length_take]; omega
      have htd : (l.drop l.length).length = l.length - l.length := List.length_drop ..
      by_cases hcj : c = l.length
      · go_upto_region 6 with fail
        go_region_law (first
            | (refine step_append_i _ rfl (.tmp 33) (.tmp 36) rfl wr.heap.size (.slice (some ⟨wr.heap.size, 0, none⟩) 0 0) [] (l.take l.length) (by rfl) (by exact OwnI.none (by omega) (by first | exact heapA _ _ | exact heapA wr _ | exact heapB wr _ _ | exact heapC wr _ _ | exact heapD wr _ _ | exact heapE wr _ _)) _ _ l.length hti (by rfl) (RdI.headP (HR.out.below (by repeat (first | exact Below.refl _ _ | refine Below.drew ?_ | refine balP ?_ _))) l.length) (by simp; omega) (by simp; try omega) ?_
               intro v1 w1 hown1 hg1 hat1
               have HA1 : Hid (OwnI w1 wr.heap.size v1 (l.take l.length) ∧ Below wr.heap.size wr w1) := hid ⟨by simpa using hown1, Below.grown (by repeat (first | exact Below.refl _ _ | refine Below.drew ?_ | refine balP ?_ _)) hg1 (by simp; try omega) (by intro q hq; simp [Value.ownBlock] at hq; omega)⟩
               have h1s := HA1.out.2.size
               have HN1 : Hid (w1.heap[wr.heap.size + 1]? = some (.cells #[.int .i64 n] 3 (0, 0))) := hid ((hg1.block _ (by simp; try omega) (by simp [Value.ownBlock])).trans (by first | exact heapA _ _ | exact heapA wr _ | exact heapB wr _ _ | exact heapC wr _ _ | exact heapD wr _ _ | exact heapE wr _ _))
               clear hown1 hg1 hat1)
            | (refine step_append_i _ rfl (.tmp 33) (.tmp 36) rfl wr.heap.size (.slice (some ⟨wr.heap.size + 1, 0, none⟩) 0 0) [] (l.take l.length) (by rfl) (by exact OwnI.none (by omega) (by first | exact heapA _ _ | exact heapA wr _ | exact heapB wr _ _ | exact heapC wr _ _ | exact heapD wr _ _ | exact heapE wr _ _)) _ _ l.length hti (by rfl) (RdI.headP (HR.out.below (by repeat (first | exact Below.refl _ _ | refine Below.drew ?_ | refine balP ?_ _))) l.length) (by simp; omega) (by simp; try omega) ?_
               intro v1 w1 hown1 hg1 hat1
               have HA1 : Hid (OwnI w1 wr.heap.size v1 (l.take l.length) ∧ Below wr.heap.size wr w1) := hid ⟨by simpa using hown1, Below.grown (by repeat (first | exact Below.refl _ _ | refine Below.drew ?_ | refine balP ?_ _)) hg1 (by simp; try omega) (by intro q hq; simp [Value.ownBlock] at hq; omega)⟩
               have h1s := HA1.out.2.size
               have HN1 : Hid (w1.heap[wr.heap.size]? = some (.cells #[.int .i64 n] 3 (0, 0))) := hid ((hg1.block _ (by simp; try omega) (by simp [Value.ownBlock])).trans (by first | exact heapA _ _ | exact heapA wr _ | exact heapB wr _ _ | exact heapC wr _ _ | exact heapD wr _ _ | exact heapE wr _ _))
               clear hown1 hg1 hat1)
            | (refine step_append_i _ rfl (.tmp 33) (.tmp 36) rfl wr.heap.size (.slice (some ⟨wr.heap.size, 0, none⟩) 0 0) [] (l.take l.length) (by rfl) (by exact OwnI.none (by omega) (by first | exact heapA _ _ | exact heapA wr _ | exact heapB wr _ _ | exact heapC wr _ _ | exact heapD wr _ _ | exact heapE wr _ _)) _ _ l.length hti (by rfl) (RdI.headP (HR.out.below (by repeat (first | exact Below.refl _ _ | refine Below.drew ?_ | refine balP ?_ _))) l.length) (by simp; omega) (by simp; try omega) ?_
               intro v1 w1 hown1 hg1 hat1
               have HA1 : Hid (OwnI w1 wr.heap.size v1 (l.take l.length) ∧ Below wr.heap.size wr w1) := hid ⟨by simpa using hown1, Below.grown (by repeat (first | exact Below.refl _ _ | refine Below.drew ?_ | refine balP ?_ _)) hg1 (by simp; try omega) (by intro q hq; simp [Value.ownBlock] at hq; omega)⟩
               have h1s := HA1.out.2.size
               clear hown1 hg1 hat1)
            | (refine step_append_i _ rfl (.tmp 37) (.tmp 39) rfl wr.heap.size v1 (l.take l.length) [n] (by rfl) (by exact HA1.out.1.later (by repeat (first | exact Below.refl _ _ | refine Below.drew ?_ | refine balP ?_ _))) (some ⟨w1.heap.size, 0, none⟩) 1 1 rfl (by rfl) (by first | exact rd_one _ _ _ | exact (rd_one _ _ _).below (bdrew _)) (by simp; omega) (by first | exact h1s | (simp; omega)) ?_
               intro v2 w2 hown2 hg2 hat2
               have HA2 : Hid (OwnI w2 wr.heap.size v2 (l.take l.length ++ [n]) ∧ Below wr.heap.size wr w2) := hid ⟨hown2, Below.grown (HA1.out.2.step (by repeat (first | exact Below.refl _ _ | refine Below.drew ?_ | refine balP ?_ _))) hg2 (by first | exact h1s | (simp; omega)) (own_ge HA1.out.1)⟩
               have h2s := HA2.out.2.size
               clear hown2 hg2 hat2)
            | (refine step_append_i _ rfl (.tmp 37) (.tmp 39) rfl wr.heap.size v1 (l.take l.length) [n] (by rfl) (by exact HA1.out.1.later (by repeat (first | exact Below.refl _ _ | refine Below.drew ?_ | refine balP ?_ _))) (some ⟨wr.heap.size + 1, 0, none⟩) 1 1 rfl (by rfl) (by first | exact rdHP HN1.out | exact (rdHP HN1.out).below (bdrew _)) (by simp; omega) (by first | exact h1s | (simp; omega)) ?_
               intro v2 w2 hown2 hg2 hat2
               have HA2 : Hid (OwnI w2 wr.heap.size v2 (l.take l.length ++ [n]) ∧ Below wr.heap.size wr w2) := hid ⟨hown2, Below.grown (HA1.out.2.step (by repeat (first | exact Below.refl _ _ | refine Below.drew ?_ | refine balP ?_ _))) hg2 (by first | exact h1s | (simp; omega)) (own_ge HA1.out.1)⟩
               have h2s := HA2.out.2.size
               clear hown2 hg2 hat2)
            | (refine step_append_i _ rfl (.tmp 37) (.tmp 39) rfl wr.heap.size v1 (l.take l.length) [n] (by rfl) (by exact HA1.out.1.later (by repeat (first | exact Below.refl _ _ | refine Below.drew ?_ | refine balP ?_ _))) (some ⟨wr.heap.size, 0, none⟩) 1 1 rfl (by rfl) (by first | exact rdHP HN1.out | exact (rdHP HN1.out).below (bdrew _)) (by simp; omega) (by first | exact h1s | (simp; omega)) ?_
               intro v2 w2 hown2 hg2 hat2
               have HA2 : Hid (OwnI w2 wr.heap.size v2 (l.take l.length ++ [n]) ∧ Below wr.heap.size wr w2) := hid ⟨hown2, Below.grown (HA1.out.2.step (by repeat (first | exact Below.refl _ _ | refine Below.drew ?_ | refine balP ?_ _))) hg2 (by first | exact h1s | (simp; omega)) (own_ge HA1.out.1)⟩
               have h2s := HA2.out.2.size
               clear hown2 hg2 hat2)
            | (refine step_append_i _ rfl (.tmp 40) (.tmp 43) rfl wr.heap.size v2 (l.take l.length ++ [n]) (l.drop l.length) (by rfl) (by first | exact HA2.out.1 | exact HA2.out.1.later (bdrew _)) _ _ 0 (by rw [htd]; omega) (by rfl) (RdI.emptyP _ _ _ (by rw [htd]; omega)) (by simp; omega) (by first | exact h2s | (simp; omega)) ?_
               intro v3 w3 hown3 hg3 hat3
               have HA3 : Hid (OwnI w3 wr.heap.size v3 (l.take l.length ++ n :: l.drop l.length) ∧ Below wr.heap.size wr w3) := hid ⟨by simpa using hown3, Below.grown (by first | exact HA2.out.2 | exact HA2.out.2.drew) hg3 (by first | exact h2s | (simp; omega)) (own_ge HA2.out.1)⟩
               clear hown3 hg3 hat3))
        all_goals
          go_wp2
          go_ret
          exact ⟨HA3.out.2, _, rfl, by rw [HS3.out]; exact ownI_rdV HA3.out.1⟩
      · obtain ⟨b, off, rfl⟩ : ∃ b off, a = some ⟨b, off, none⟩ := by
          rcases hnc with ⟨_, h0⟩ | h
          · omega
          · exact h
        go_upto_region 6 with fail
        go_region_law (first
            | (refine step_append_i _ rfl (.tmp 33) (.tmp 36) rfl wr.heap.size (.slice (some ⟨wr.heap.size, 0, none⟩) 0 0) [] (l.take l.length) (by rfl) (by exact OwnI.none (by omega) (by first | exact heapA _ _ | exact heapA wr _ | exact heapB wr _ _ | exact heapC wr _ _ | exact heapD wr _ _ | exact heapE wr _ _)) _ _ l.length hti (by rfl) (RdI.headP (HR.out.below (by repeat (first | exact Below.refl _ _ | refine Below.drew ?_ | refine balP ?_ _))) l.length) (by simp; omega) (by simp; try omega) ?_
               intro v1 w1 hown1 hg1 hat1
               have HA1 : Hid (OwnI w1 wr.heap.size v1 (l.take l.length) ∧ Below wr.heap.size wr w1) := hid ⟨by simpa using hown1, Below.grown (by repeat (first | exact Below.refl _ _ | refine Below.drew ?_ | refine balP ?_ _)) hg1 (by simp; try omega) (by intro q hq; simp [Value.ownBlock] at hq; omega)⟩
               have h1s := HA1.out.2.size
               have HN1 : Hid (w1.heap[wr.heap.size + 1]? = some (.cells #[.int .i64 n] 3 (0, 0))) := hid ((hg1.block _ (by simp; try omega) (by simp [Value.ownBlock])).trans (by first | exact heapA _ _ | exact heapA wr _ | exact heapB wr _ _ | exact heapC wr _ _ | exact heapD wr _ _ | exact heapE wr _ _))
               clear hown1 hg1 hat1)
            | (refine step_append_i _ rfl (.tmp 33) (.tmp 36) rfl wr.heap.size (.slice (some ⟨wr.heap.size + 1, 0, none⟩) 0 0) [] (l.take l.length) (by rfl) (by exact OwnI.none (by omega) (by first | exact heapA _ _ | exact heapA wr _ | exact heapB wr _ _ | exact heapC wr _ _ | exact heapD wr _ _ | exact heapE wr _ _)) _ _ l.length hti (by rfl) (RdI.headP (HR.out.below (by repeat (first | exact Below.refl _ _ | refine Below.drew ?_ | refine balP ?_ _))) l.length) (by simp; omega) (by simp; try omega) ?_
               intro v1 w1 hown1 hg1 hat1
               have HA1 : Hid (OwnI w1 wr.heap.size v1 (l.take l.length) ∧ Below wr.heap.size wr w1) := hid ⟨by simpa using hown1, Below.grown (by repeat (first | exact Below.refl _ _ | refine Below.drew ?_ | refine balP ?_ _)) hg1 (by simp; try omega) (by intro q hq; simp [Value.ownBlock] at hq; omega)⟩
               have h1s := HA1.out.2.size
               have HN1 : Hid (w1.heap[wr.heap.size]? = some (.cells #[.int .i64 n] 3 (0, 0))) := hid ((hg1.block _ (by simp; try omega) (by simp [Value.ownBlock])).trans (by first | exact heapA _ _ | exact heapA wr _ | exact heapB wr _ _ | exact heapC wr _ _ | exact heapD wr _ _ | exact heapE wr _ _))
               clear hown1 hg1 hat1)
            | (refine step_append_i _ rfl (.tmp 33) (.tmp 36) rfl wr.heap.size (.slice (some ⟨wr.heap.size, 0, none⟩) 0 0) [] (l.take l.length) (by rfl) (by exact OwnI.none (by omega) (by first | exact heapA _ _ | exact heapA wr _ | exact heapB wr _ _ | exact heapC wr _ _ | exact heapD wr _ _ | exact heapE wr _ _)) _ _ l.length hti (by rfl) (RdI.headP (HR.out.below (by repeat (first | exact Below.refl _ _ | refine Below.drew ?_ | refine balP ?_ _))) l.length) (by simp; omega) (by simp; try omega) ?_
               intro v1 w1 hown1 hg1 hat1
               have HA1 : Hid (OwnI w1 wr.heap.size v1 (l.take l.length) ∧ Below wr.heap.size wr w1) := hid ⟨by simpa using hown1, Below.grown (by repeat (first | exact Below.refl _ _ | refine Below.drew ?_ | refine balP ?_ _)) hg1 (by simp; try omega) (by intro q hq; simp [Value.ownBlock] at hq; omega)⟩
               have h1s := HA1.out.2.size
               clear hown1 hg1 hat1)
            | (refine step_append_i _ rfl (.tmp 37) (.tmp 39) rfl wr.heap.size v1 (l.take l.length) [n] (by rfl) (by exact HA1.out.1.later (by repeat (first | exact Below.refl _ _ | refine Below.drew ?_ | refine balP ?_ _))) (some ⟨w1.heap.size, 0, none⟩) 1 1 rfl (by rfl) (by first | exact rd_one _ _ _ | exact (rd_one _ _ _).below (bdrew _)) (by simp; omega) (by first | exact h1s | (simp; omega)) ?_
               intro v2 w2 hown2 hg2 hat2
               have HA2 : Hid (OwnI w2 wr.heap.size v2 (l.take l.length ++ [n]) ∧ Below wr.heap.size wr w2) := hid ⟨hown2, Below.grown (HA1.out.2.step (by repeat (first | exact Below.refl _ _ | refine Below.drew ?_ | refine balP ?_ _))) hg2 (by first | exact h1s | (simp; omega)) (own_ge HA1.out.1)⟩
               have h2s := HA2.out.2.size
               clear hown2 hg2 hat2)
            | (refine step_append_i _ rfl (.tmp 37) (.tmp 39) rfl wr.heap.size v1 (l.take l.length) [n] (by rfl) (by exact HA1.out.1.later (by repeat (first | exact Below.refl _ _ | refine Below.drew ?_ | refine balP ?_ _))) (some ⟨wr.heap.size + 1, 0, none⟩) 1 1 rfl (by rfl) (by first | exact rdHP HN1.out | exact (rdHP HN1.out).below (bdrew _)) (by simp; omega) (by first | exact h1s | (simp; omega)) ?_
               intro v2 w2 hown2 hg2 hat2
               have HA2 : Hid (OwnI w2 wr.heap.size v2 (l.take l.length ++ [n]) ∧ Below wr.heap.size wr w2) := hid ⟨hown2, Below.grown (HA1.out.2.step (by repeat (first | exact Below.refl _ _ | refine Below.drew ?_ | refine balP ?_ _))) hg2 (by first | exact h1s | (simp; omega)) (own_ge HA1.out.1)⟩
               have h2s := HA2.out.2.size
               clear hown2 hg2 hat2)
            | (refine step_append_i _ rfl (.tmp 37) (.tmp 39) rfl wr.heap.size v1 (l.take l.length) [n] (by rfl) (by exact HA1.out.1.later (by repeat (first | exact Below.refl _ _ | refine Below.drew ?_ | refine balP ?_ _))) (some ⟨wr.heap.size, 0, none⟩) 1 1 rfl (by rfl) (by first | exact rdHP HN1.out | exact (rdHP HN1.out).below (bdrew _)) (by simp; omega) (by first | exact h1s | (simp; omega)) ?_
               intro v2 w2 hown2 hg2 hat2
               have HA2 : Hid (OwnI w2 wr.heap.size v2 (l.take l.length ++ [n]) ∧ Below wr.heap.size wr w2) := hid ⟨hown2, Below.grown (HA1.out.2.step (by repeat (first | exact Below.refl _ _ | refine Below.drew ?_ | refine balP ?_ _))) hg2 (by first | exact h1s | (simp; omega)) (own_ge HA1.out.1)⟩
               have h2s := HA2.out.2.size
               clear hown2 hg2 hat2)
            | (refine step_append_i _ rfl (.tmp 40) (.tmp 43) rfl wr.heap.size v2 (l.take l.length ++ [n]) (l.drop l.length) (by rfl) (by first | exact HA2.out.1 | exact HA2.out.1.later (bdrew _)) _ _ 0 (by rw [htd]; omega) (by rfl) (RdI.emptyP _ _ _ (by rw [htd]; omega)) (by simp; omega) (by first | exact h2s | (simp; omega)) ?_
               intro v3 w3 hown3 hg3 hat3
               have HA3 : Hid (OwnI w3 wr.heap.size v3 (l.take l.length ++ n :: l.drop l.length) ∧ Below wr.heap.size wr w3) := hid ⟨by simpa using hown3, Below.grown (by first | exact HA2.out.2 | exact HA2.out.2.drew) hg3 (by first | exact h2s | (simp; omega)) (own_ge HA2.out.1)⟩
               clear hown3 hg3 hat3))
        all_goals
          go_wp2
          go_ret
          exact ⟨HA3.out.2, _, rfl, by rw [HS3.out]; exact ownI_rdV HA3.out.1⟩
end Go.Proofs.YtgalekifgnecjaaGreat
