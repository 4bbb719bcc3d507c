/- Rows of rows in memory, appended to; the contract of Back of package table. -/
import Derived.Test.YtliajnflmddnoaaG19
namespace Go.Proofs.Ytliajnflmddnoaa
open Go.RowKit

theorem run_append_val {ts e : TypeId} (h1 : Try.prog.underlying ts = some (.slice e)) (h2 : (Try.prog.info? e).map (fun i => (i.zero, i.size, i.bytes)) = some (some (.slice none 0 0), 1, 24)) (w : World) (base : Nat) (ty : TypeId) (v : Value) (vs : List Value) (hown : w.ownsRow base e 1 v vs.length vs) (ad : Addr) (c : Nat) (rv : Value) (hr : rv.oneCell' = true) (hl : w.cell? ad = some rv) (hs : vs.length ≤ 1000000) (hb : base ≤ w.heap.size) :
    ∃ v' w', (Builtin.append_ #[ts, ts] ty #[v, .slice (some ad) 1 c]).run Try.prog w = .ok v' w' ∧ w'.ownsRow base e 1 v' (vs ++ [rv]).length (vs ++ [rv]) ∧ w.grownBy w' v.ownBlock := by
  obtain ⟨i4, hj4, hy0, hy1, hy2⟩ := info_parts h2
  obtain ⟨v', w', k1, k2, k3, _, _⟩ := run_append_own_at (P := Try.prog) w base ts ty e i4 _ 1 24 h1 hj4 hy0 hy1 hy2 rfl (by decide) v vs.length vs hown ad 1 c [rv] rfl (fun j u hu => by
    match j, hu with
    | 0, hu => cases hu; exact hl
    | j + 1, hu => simp at hu) (fun u hu => by rw [List.mem_singleton.1 hu]; exact hr) (by unfold maxLen; omega) (by omega) hb
  exact ⟨v', w', k1, by rw [List.length_append]; exact k2, k3⟩
theorem wpList_append_val {ts e : TypeId} (h1 : Try.prog.underlying ts = some (.slice e)) (h2 : (Try.prog.info? e).map (fun i => (i.zero, i.size, i.bytes)) = some (some (.slice none 0 0), 1, 24)) {ops : Array Oper} {rest : List Oper} {o : Oper} {a : Act} {Q : Exit → Act → World → Prop} (w : World) (hgd : o.guard = none) (s x : Operand)
    (ho : o.op = .call { callee := .builtin .append, args := #[s, x], argTypes := #[ts, ts] }) (base : Nat) (v : Value) (vs : List Value) (hsv : a.eval s = v) (hown : w.ownsRow base e 1 v vs.length vs) (ad : Addr) (c : Nat) (rv : Value) (hr : rv.oneCell' = true) (hx : a.eval x = .slice (some ad) 1 c) (hl : w.cell? ad = some rv) (hs : vs.length ≤ 1000000) (hb : base ≤ w.heap.size)
    (h : ∀ v' w', w'.ownsRow base e 1 v' (vs ++ [rv]).length (vs ++ [rv]) → w.grownBy w' v.ownBlock → wpList Try.prog ops Q rest (a.put o.dst v') w') : wpList Try.prog ops Q (o :: rest) a w := by
  refine wpList_plain hgd fun K hK => ?_
  obtain ⟨v', w', hrun, k2, k3⟩ := run_append_val h1 h2 w base o.type v vs hown ad c rv hr hl hs hb
  unfold Oper.wp execOp
  simp only [ho, resolve, invoke, builtin, Sem.run_bind, Sem.run_pure, Result.andThen_ok, List.map_toArray, List.map_cons, List.map_nil, hsv, hx, hrun]
  exact hK _ _ (h v' w' k2 k3)
theorem info23 : (Try.prog.info? 23).map (fun i => (i.zero, i.size, i.bytes)) = some (some (.slice none 0 0), 1, 24) := by kernel_rfl
theorem info95 : (Try.prog.info? 95).map (fun i => (i.zero, i.size, i.bytes)) = some (some (.slice none 0 0), 1, 24) := by kernel_rfl

/-- Rows of pairs, read off a slice. -/
def RdG (w : World) (a : Option Addr) (m : List (List (Int × Int))) : Prop :=
  ∀ i (h : i < m.length), ∃ b off, a = some ⟨b, off, none⟩ ∧ b < w.heap.size ∧ ∃ ai ci, w.cell? ⟨b, off + i, none⟩ = some (.slice ai m[i].length ci) ∧ RdP w ai m[i]
theorem RdG.below {w w' : World} {a : Option Addr} {m : List (List (Int × Int))} (h : RdG w a m) (hb : Below w.heap.size w w') : RdG w' a m := by
  intro i hi
  obtain ⟨b, off, ha, hlt, ai, ci, h1, h2⟩ := h i hi
  exact ⟨b, off, ha, Nat.lt_of_lt_of_le hlt hb.size, ai, ci, cell_later hb h1, h2.below hb⟩

theorem own_type {w : World} {base : Nat} {e : TypeId} {sz : Nat} {v : Value} {n : Nat} {xs : List Value} (h : w.ownsRow base e sz v n xs) : ∀ g, v.ownBlock = some g → ∃ cur, w.heap[g]? = some (.cells cur e (0, 0)) := by
  rcases h.2 with ⟨rfl, _⟩ | ⟨g, cap, cur, rfl, _, hh, _⟩
  · intro g hg
    cases hg
  · intro g' hg
    cases hg
    exact ⟨cur, hh⟩

/-- A row of numbers in a block of its own. -/
def RowI (w : World) (a : Option Addr) (r : List Int) : Prop := r = [] ∨ ∃ g, a = some ⟨g, 0, none⟩ ∧ BI w g r
theorem RowI.rd {w : World} {a : Option Addr} {r : List Int} (h : RowI w a r) : RdI w a r := by
  rcases h with rfl | ⟨g, rfl, h⟩
  · exact fun i hi => absurd hi (Nat.not_lt_zero _)
  · exact h.rd
theorem RowI.below {w w' : World} {a : Option Addr} {r : List Int} (h : RowI w a r) (hb : Below w.heap.size w w') : RowI w' a r := by
  rcases h with rfl | ⟨g, rfl, h⟩
  · exact .inl rfl
  · exact .inr ⟨g, rfl, h.below hb⟩
theorem RowI.grown {w w' : World} {a : Option Addr} {r : List Int} {gb : Option Nat} (h : RowI w a r) (hg : w.grownBy w' gb) (ht : ∀ g, gb = some g → ∃ cur, w.heap[g]? = some (.cells cur 23 (0, 0))) : RowI w' a r := by
  rcases h with rfl | ⟨g, rfl, cur, hh, hc⟩
  · exact .inl rfl
  · refine .inr ⟨g, rfl, cur, ?_, hc⟩
    refine box_kept hg hh fun e => ?_
    obtain ⟨cur', h'⟩ := ht g e.symm
    rw [hh] at h'
    cases h'
/-- Rows of numbers in a slice of the call's own. -/
def OwnM (w : World) (base : Nat) (v : Value) (m : List (List Int)) : Prop := ∃ vs : List Value, vs.length = m.length ∧ w.ownsRow base 23 1 v vs.length vs ∧ ∀ i (h : i < m.length), ∃ ai ci, vs[i]? = some (.slice ai m[i].length ci) ∧ RowI w ai m[i]
theorem OwnM.nil (w : World) (base : Nat) : OwnM w base (.slice none 0 0) [] := ⟨[], rfl, World.ownsRow_nil _ _ _ _, fun _i hi => absurd hi (Nat.not_lt_zero _)⟩
theorem OwnM.later {w w' : World} {base : Nat} {v : Value} {m : List (List Int)} (h : OwnM w base v m) (hb : Below w.heap.size w w') : OwnM w' base v m := by
  obtain ⟨vs, h1, h2, h3⟩ := h
  refine ⟨vs, h1, own_below h2 hb, fun i hi => ?_⟩
  obtain ⟨ai, ci, k1, k2⟩ := h3 i hi
  exact ⟨ai, ci, k1, k2.below hb⟩
theorem OwnM.rd {w : World} {base : Nat} {v : Value} {m : List (List Int)} (h : OwnM w base v m) : ∃ a cap, v = .slice a m.length cap ∧ RdM w a m ∧ NewA base a := by
  obtain ⟨vs, h1, h2, h3⟩ := h
  rcases h2.2 with ⟨rfl, h0⟩ | ⟨g, cap, cur, rfl, hg, hh, k1, k2, k3, k4⟩
  · exact ⟨none, 0, by rw [← h1, h0], fun i hi => by omega, fun b off e => by cases e⟩
  · rw [h1]
    refine ⟨_, cap, rfl, fun i hi => ?_, fun b off e => by cases e; exact hg⟩
    obtain ⟨ai, ci, q1, q2⟩ := h3 i hi
    refine ⟨g, 0, rfl, lt_of_heap hh, ai, ci, ?_, q2.rd⟩
    rw [cell_of_row _ _ _ _ _ _ hh, Nat.zero_add]
    have e : (cur.toList.take (vs.length * 1))[i]? = vs[i]? := by rw [k4]
    rw [List.getElem?_take, if_pos (by omega), q1] at e
    rw [← e]
    simp
theorem OwnM.push {w w' : World} {base : Nat} {v v' : Value} {m : List (List Int)} {vs : List Value} {r : List Int} {ai : Option Addr} {ci : Nat} (h1 : vs.length = m.length) (hown : w.ownsRow base 23 1 v vs.length vs) (h3 : ∀ i (h : i < m.length), ∃ ai ci, vs[i]? = some (.slice ai m[i].length ci) ∧ RowI w ai m[i]) (hr : RowI w ai r)
    (h : w'.ownsRow base 23 1 v' (vs ++ [Value.slice ai r.length ci]).length (vs ++ [Value.slice ai r.length ci])) (hg : w.grownBy w' v.ownBlock) : OwnM w' base v' (m ++ [r]) := by
  have ht := own_type hown
  refine ⟨vs ++ [Value.slice ai r.length ci], by simp [h1], h, fun i hi => ?_⟩
  by_cases e : i < m.length
  · obtain ⟨a1, c1, k1, k2⟩ := h3 i e
    refine ⟨a1, c1, ?_, ?_⟩
    · rw [List.getElem?_append_left (by omega), List.getElem_append_left e]
      exact k1
    · rw [List.getElem_append_left e]
      exact k2.grown hg ht
  · have hi' : i = m.length := by rw [List.length_append] at hi; simp at hi; omega
    subst hi'
    refine ⟨ai, ci, ?_, ?_⟩
    · rw [List.getElem?_append_right (by omega)]
      simp [h1]
    · have := hr.grown hg ht
      simpa using this

/-- A row of pairs in a block of its own. -/
def RowP (w : World) (a : Option Addr) (r : List (Int × Int)) : Prop := r = [] ∨ ∃ g, a = some ⟨g, 0, none⟩ ∧ BP 97 w g r
theorem RowP.rd {w : World} {a : Option Addr} {r : List (Int × Int)} (h : RowP w a r) : RdP w a r := by
  rcases h with rfl | ⟨g, rfl, h⟩
  · exact fun i hi => absurd hi (Nat.not_lt_zero _)
  · exact h.rd
theorem RowP.below {w w' : World} {a : Option Addr} {r : List (Int × Int)} (h : RowP w a r) (hb : Below w.heap.size w w') : RowP w' a r := by
  rcases h with rfl | ⟨g, rfl, h⟩
  · exact .inl rfl
  · exact .inr ⟨g, rfl, h.below hb⟩
theorem RowP.grown {w w' : World} {a : Option Addr} {r : List (Int × Int)} {gb : Option Nat} (h : RowP w a r) (hg : w.grownBy w' gb) (ht : ∀ g, gb = some g → ∃ cur, w.heap[g]? = some (.cells cur 95 (0, 0))) : RowP w' a r := by
  rcases h with rfl | ⟨g, rfl, cur, hh, hc⟩
  · exact .inl rfl
  · refine .inr ⟨g, rfl, cur, ?_, hc⟩
    refine box_kept hg hh fun e => ?_
    obtain ⟨cur', h'⟩ := ht g e.symm
    rw [hh] at h'
    cases h'
/-- Rows of pairs in a slice of the call's own. -/
def OwnG (w : World) (base : Nat) (v : Value) (m : List (List (Int × Int))) : Prop := ∃ vs : List Value, vs.length = m.length ∧ w.ownsRow base 95 1 v vs.length vs ∧ ∀ i (h : i < m.length), ∃ ai ci, vs[i]? = some (.slice ai m[i].length ci) ∧ RowP w ai m[i]
theorem OwnG.nil (w : World) (base : Nat) : OwnG w base (.slice none 0 0) [] := ⟨[], rfl, World.ownsRow_nil _ _ _ _, fun _i hi => absurd hi (Nat.not_lt_zero _)⟩
theorem OwnG.later {w w' : World} {base : Nat} {v : Value} {m : List (List (Int × Int))} (h : OwnG w base v m) (hb : Below w.heap.size w w') : OwnG w' base v m := by
  obtain ⟨vs, h1, h2, h3⟩ := h
  refine ⟨vs, h1, own_below h2 hb, fun i hi => ?_⟩
  obtain ⟨ai, ci, k1, k2⟩ := h3 i hi
  exact ⟨ai, ci, k1, k2.below hb⟩
theorem OwnG.rd {w : World} {base : Nat} {v : Value} {m : List (List (Int × Int))} (h : OwnG w base v m) : ∃ a cap, v = .slice a m.length cap ∧ RdG w a m ∧ NewA base a := by
  obtain ⟨vs, h1, h2, h3⟩ := h
  rcases h2.2 with ⟨rfl, h0⟩ | ⟨g, cap, cur, rfl, hg, hh, k1, k2, k3, k4⟩
  · exact ⟨none, 0, by rw [← h1, h0], fun i hi => by omega, fun b off e => by cases e⟩
  · rw [h1]
    refine ⟨_, cap, rfl, fun i hi => ?_, fun b off e => by cases e; exact hg⟩
    obtain ⟨ai, ci, q1, q2⟩ := h3 i hi
    refine ⟨g, 0, rfl, lt_of_heap hh, ai, ci, ?_, q2.rd⟩
    rw [cell_of_row _ _ _ _ _ _ hh, Nat.zero_add]
    have e : (cur.toList.take (vs.length * 1))[i]? = vs[i]? := by rw [k4]
    rw [List.getElem?_take, if_pos (by omega), q1] at e
    rw [← e]
    simp
theorem OwnG.push {w w' : World} {base : Nat} {v v' : Value} {m : List (List (Int × Int))} {vs : List Value} {r : List (Int × Int)} {ai : Option Addr} {ci : Nat} (h1 : vs.length = m.length) (hown : w.ownsRow base 95 1 v vs.length vs) (h3 : ∀ i (h : i < m.length), ∃ ai ci, vs[i]? = some (.slice ai m[i].length ci) ∧ RowP w ai m[i]) (hr : RowP w ai r)
    (h : w'.ownsRow base 95 1 v' (vs ++ [Value.slice ai r.length ci]).length (vs ++ [Value.slice ai r.length ci])) (hg : w.grownBy w' v.ownBlock) : OwnG w' base v' (m ++ [r]) := by
  have ht := own_type hown
  refine ⟨vs ++ [Value.slice ai r.length ci], by simp [h1], h, fun i hi => ?_⟩
  by_cases e : i < m.length
  · obtain ⟨a1, c1, k1, k2⟩ := h3 i e
    refine ⟨a1, c1, ?_, ?_⟩
    · rw [List.getElem?_append_left (by omega), List.getElem_append_left e]
      exact k1
    · rw [List.getElem_append_left e]
      exact k2.grown hg ht
  · have hi' : i = m.length := by rw [List.length_append] at hi; simp at hi; omega
    subst hi'
    refine ⟨ai, ci, ?_, ?_⟩
    · rw [List.getElem?_append_right (by omega)]
      simp [h1]
    · have := hr.grown hg ht
      simpa using this

/-- A row under way. -/
def backU (L : Ld) (i k : Nat) : List Int := (List.range k).map (backE L i) ++ List.replicate (L.cols.toNat - k) 0
theorem backU_length (L : Ld) (i k : Nat) (h : k ≤ L.cols.toNat) : (backU L i k).length = L.cols.toNat := by
  unfold backU
  simp
  omega
theorem backU_put {L : Ld} {i k : Nat} (h : k < L.cols.toNat) (x : Int) (hx : x = backE L i k) : (backU L i k).set k x = backU L i (k + 1) := by
  unfold backU
  rw [List.set_append_right _ _ (by simp), show L.cols.toNat - k = (L.cols.toNat - (k + 1)) + 1 from by omega, List.replicate_succ, List.range_succ, List.map_append, hx]
  simp
theorem set_set {α : Type} (l : List α) (k : Nat) (x y : α) : (l.set k x).set k y = l.set k y := by simp
def backRow (L : Ld) (i : Nat) : List Int := (List.range L.cols.toNat).map (backE L i)
theorem backU_end (L : Ld) (i : Nat) : backU L i L.cols.toNat = backRow L i := by unfold backU backRow; simp
def backP (L : Ld) (i : Nat) : List (List Int) := (List.range i).map (backRow L)
theorem backP_succ (L : Ld) (i : Nat) : backP L (i + 1) = backP L i ++ [backRow L i] := by unfold backP; rw [List.range_succ, List.map_append]; rfl
theorem backP_end (L : Ld) : backP L L.starts.length = backM L := rfl
/-- What a call returns: a matrix, and a number. -/
def MatRet (m : List (List Int)) (y : Int) (w : World) (e : Ending) (w' : World) : Prop := Below w.heap.size w w' ∧ ∃ a c, e = .returned (.tuple #[.slice a m.length c, .int .i64 y]) ∧ RdM w' a m

set_option maxRecDepth 100000 in
set_option maxHeartbeats 8000000 in
theorem Back_any (L : Ld) (hf : Fit L) (sa : Option Addr) (sc : Nat) (ca : Option Addr) (cc : Nat) (w : World) (hm : LdM w L sa sc ca cc) :
    Calls Try.prog 34 #[vL L sa sc ca cc] w (MatRet (backV L) (chkL L) w) := by
  have HM := hid hm; clear hm
  have HB0 := hid (bnew w (.cells #[.int .i64 L.cols, .slice sa L.starts.length sc, .slice ca L.cells.length cc] 44))
  have HX0 := hid (heapn w (.cells #[.int .i64 L.cols, .slice sa L.starts.length sc, .slice ca L.cells.length cc] 44) _ rfl)
  have HC := hid (checkL_any L hf sa sc ca cc (w.alloc (.cells #[.int .i64 L.cols, .slice sa L.starts.length sc, .slice ca L.cells.length cc] 44)) (HM.out.below HB0.out))
  have hfs := hf.s
  have hfc := hf.c
  have HF := hid hf
  clear hf
  obtain ⟨k0, k1, k2, _, _, _⟩ := box3 HX0.out
  by_cases hE : chkL L = 0
  · have HV : Hid (backV L = backM L) := hid (by unfold backV; rw [if_pos hE])
    have HR := hid (chkL_ok hE)
    rw [hE] at HC ⊢
    rw [HV.out]
    clear hE
    have hn0 := HR.out.col0
    have hn1 := HR.out.col1
    obtain ⟨n, hn⟩ : ∃ n : Nat, n = L.cols.toNat := ⟨_, rfl⟩
    have hnc : L.cols = (n : Int) := by omega
    have HN := hid (And.intro hn hnc)
    have hmk := fun w => run_make_row' (P := Try.prog) 23 3 (.int .i64 0) 8 Try.underlying23 info3 rfl .i64 .i64 n (by omega) (by omega) w
    have hn4 : n ≤ 400 := by omega
    clear hn hn0 hn1 hnc
    go_enter Try.func34, Try.ntmps34
    go_wp2_with (go_at_call 30; refine HC.out.mono ?_; rintro e w1 ⟨rfl, hb⟩; have HX1 := hid (keepBox hb HX0.out); have HB1 := hid (HB0.out.step hb); clear hb; obtain ⟨k0, k1, k2, _, _, _⟩ := box3 HX1.out)
    obtain ⟨g1, hg1⟩ : ∃ g, g = w.heap.size := ⟨_, rfl⟩
    rw [← hg1] at HX1
    rw [← hg1]
    clear hg1 k0 k1 k2
    go_loopg [5, 18] L.starts.length (fun gh s5 s18 wr => ∃ i : Nat, i ≤ L.starts.length ∧ gh = L.starts.length - i ∧ s18 = .int .i64 i ∧ Hid (OwnM wr w1.heap.size s5 (backP L i) ∧ Below w1.heap.size w1 wr))
    case atStart => exact ⟨0, Nat.zero_le _, rfl, rfl, hid ⟨OwnM.nil _ _, Below.refl _ _⟩⟩
    case round =>
      obtain ⟨i, hi, rfl, rfl, HK⟩ := hrel
      obtain ⟨k0, k1, k2, _, _, _⟩ := box3 (keepBox HK.out.2 HX1.out)
      by_cases hlt : i < L.starts.length
      · obtain ⟨wo, rfl⟩ : ∃ wo : World, wo = wr := ⟨_, rfl⟩
        have ni : (i : Int) < (L.starts.length : Int) := by omega
        obtain ⟨bs, os, hsa, hlts, h5⟩ := (HM.out.rs.below (HB1.out.step HK.out.2)).at hlt
        have hst : L.starts.getD i (-1) = L.st i := rfl
        rw [hst] at h5
        have HST := hid (HR.out.start i hlt)
        obtain ⟨s, hs⟩ : ∃ s, s = L.st i := ⟨_, rfl⟩
        rw [← hs] at h5
        have HS := hid hs
        rw [HN.out.2] at k0
        clear hst hs
        subst hsa
        have HLK := hid (fun (k : Nat) (hk : k < n) (s' : Nat) (hs' : L.st i = s') (w : World) (h : LdM w L (some ⟨bs, os, none⟩) sc ca cc) => (by
          have := look_any L HF.out i k s' hlt hs' (by have := HR.out.room; have := HR.out.start i hlt; have := HR.out.col0; omega) (by omega) (some ⟨bs, os, none⟩) sc ca cc w h
          unfold vL at this
          rw [HN.out.2] at this
          exact this : Calls Try.prog 73 #[.agg #[.int .i64 (n : Int), .slice (some ⟨bs, os, none⟩) L.starts.length sc, .slice ca L.cells.length cc], .int .i64 i, .int .i64 k] w (RetB (.int .i64 (lookN L i k)) w)))
        go_wp2
        clear hmk k0 k1 k2 h5
        have hb2 := bnew wo (.cells (madeCells #[.int .i64 0] n) 3)
        have hbi := bi_made wo n
        generalize wo.alloc (.cells (madeCells #[.int .i64 0] n) 3) = w2 at *
        obtain ⟨gR, hgR⟩ : ∃ g, g = wo.heap.size := ⟨_, rfl⟩
        rw [← hgR] at hbi
        rw [← hgR]
        have HGR := hid hgR
        have HB2 := hid hb2
        have HBI : Hid (BI w2 gR (backU L i 0)) := hid (by unfold backU; rw [List.range_zero, List.map_nil, List.nil_append, Nat.sub_zero, ← HN.out.1]; exact hbi)
        clear hgR hb2 hbi
        go_loopg [28] n (fun gh s28 wr => ∃ k : Nat, k ≤ n ∧ gh = n - k ∧ s28 = .int .i64 k ∧ Hid (BI wr gR (backU L i k) ∧ Below wo.heap.size wo wr))
        case atStart => exact ⟨0, Nat.zero_le _, rfl, rfl, hid ⟨HBI.out, HB2.out⟩⟩
        case round =>
          obtain ⟨k, hk, rfl, rfl, HX⟩ := hrel
          have hX1 := keepBox (HK.out.2.step HX.out.2) HX1.out
          rw [HN.out.2] at hX1
          have HXX := hid hX1
          obtain ⟨k0, k1, k2, _, _, _⟩ := box3 hX1
          clear hX1
          by_cases hlk : k < n
          · have nk : (k : Int) < (n : Int) := by omega
            have hkl : k < (backU L i k).length := by rw [backU_length _ _ _ (by rw [← HN.out.1]; exact hk), ← HN.out.1]; exact hlk
            have hat := HX.out.1.at hkl
            have hfr := HX.out.1.frozen k
            generalize (backU L i k)[k] = old at hat
            have HKL := hid hkl
            have hbg : wr.heap.size = wr.heap.size := rfl
            clear hkl hbg
            by_cases hs0 : s < 0
            · have HBE : Hid (backE L i k = -1) := hid (by unfold backE; rw [← HS.out, if_pos hs0])
              have hs1 : ¬ 0 ≤ s := by omega
              go_wp2
              go_roundg (n - (k + 1))
              case measure => omega
              case rel =>
                refine ⟨k + 1, by omega, rfl, by go_num, hid ⟨?_, HX.out.2.setCell (p := ⟨gR, k, none⟩) (by rw [HGR.out]; exact Nat.le_refl _) _⟩⟩
                rw [← backU_put (by rw [← HN.out.1]; exact hlk) (-1) HBE.out.symm]
                exact HX.out.1.set HKL.out (-1)
            · have hs1 : 0 ≤ s := by omega
              have HBE : Hid (lookN L i k = backE L i k) := hid (by unfold backE; rw [← HS.out, if_neg hs0])
              obtain ⟨s', hs'⟩ : ∃ s' : Nat, s = s' := ⟨s.toNat, by omega⟩
              have HLK2 := hid (HLK.out k hlk s' (by rw [← HS.out]; exact hs'))
              have HBIs := hid (HX.out.1.set HKL.out (-1))
              have HBs : Hid (Below wo.heap.size wo (wr.setCell ⟨gR, k, none⟩ (.int .i64 (-1)))) := hid (HX.out.2.setCell (p := ⟨gR, k, none⟩) (by rw [HGR.out]; exact Nat.le_refl _) _)
              have HXs := hid (keepBox (HK.out.2.step HBs.out) HX1.out)
              have hXs := HXs.out
              rw [HN.out.2] at hXs
              have HXs := hid hXs
              obtain ⟨j0, j1, j2, _, _, _⟩ := box3 hXs
              clear hs' hXs
              generalize lookN L i k = x at *
              go_wp2_with (go_at_call 73; (with_reducible refine (HLK2.out _ (HM.out.below (HB1.out.step (HK.out.2.step HBs.out)))).mono ?_); rintro e w5 ⟨rfl, hb⟩; have hat5 := (HBIs.out.below hb).at (i := k) (by rw [List.length_set]; exact HKL.out); have hfr5 := (HBIs.out.below hb).frozen k; have HB5 := hid hb; clear hb)
              go_roundg (n - (k + 1))
              case measure => omega
              case rel =>
                refine ⟨k + 1, by omega, rfl, by go_num, hid ⟨?_, (HBs.out.step HB5.out).setCell (p := ⟨gR, k, none⟩) (by rw [HGR.out]; exact Nat.le_refl _) _⟩⟩
                rw [← backU_put (by rw [← HN.out.1]; exact hlk) x HBE.out, ← set_set _ k (-1) x]
                exact (HBIs.out.below HB5.out).set (by rw [List.length_set]; exact HKL.out) x
          · have hkn : k = n := by omega
            subst hkn
            obtain ⟨vs, hvl, hown, hvr⟩ := HK.out.1.later HX.out.2
            have HOWN := hid hown
            have HVL := hid hvl
            have HVR := hid hvr
            have hvs : vs.length ≤ 1000 := by
              have : (backP L i).length = i := by unfold backP; simp
              omega
            have hrow : backU L i k = backRow L i := by rw [HN.out.1, backU_end]
            have hrl : (backRow L i).length = k := by unfold backRow; rw [List.length_map, List.length_range, ← HN.out.1]
            have HROW := hid hrow
            have HRL := hid hrl
            have hsz := HX.out.2.size
            have hsw := HK.out.2.size
            have HRW : Hid (RowI (wr.alloc (.cells #[.slice (some ⟨gR, 0, none⟩) k k] 23)) (some ⟨gR, 0, none⟩) (backRow L i)) := hid (.inr ⟨gR, rfl, by rw [← hrow]; exact HX.out.1.below (bnew _ _)⟩)
            have HVR2 := hid (fun j hj => by
              obtain ⟨a1, c1, q1, q2⟩ := HVR.out j hj
              exact (⟨a1, c1, q1, q2.below (bnew wr (.cells #[.slice (some ⟨gR, 0, none⟩) k k] 23))⟩ : ∃ ai ci, vs[j]? = some (.slice ai (backP L i)[j].length ci) ∧ RowI (wr.alloc (.cells #[.slice (some ⟨gR, 0, none⟩) k k] 23)) ai (backP L i)[j]))
            clear hown hvl hvr hrow hrl
            go_wp2_with (at_builtin; refine wpList_append_val Try.underlying22 info23 _ rfl _ _ rfl w1.heap.size _ vs rfl (own_below HOWN.out (bnew _ _)) ⟨wr.heap.size, 0, none⟩ 1 (.slice (some ⟨gR, 0, none⟩) k k) rfl rfl (cell0_alloc _ _ _) (by omega) (by simp; omega) ?_; intro v' w6 hown hgr; have HO := hid hown; have HBB := hid hgr; clear hown hgr)
            go_roundg (L.starts.length - (i + 1))
            case measure => omega
            case rel =>
              have hb6 : Below w1.heap.size w1 w6 := by
                have h1 := (HK.out.2.step HX.out.2).step (bnew wr (.cells #[.slice (some ⟨gR, 0, none⟩) k k] 23))
                exact h1.grown HBB.out h1.size (own_ge HOWN.out)
              refine ⟨i + 1, by omega, rfl, by go_num, hid ⟨?_, hb6⟩⟩
              rw [backP_succ]
              have hq := HO.out
              rw [← HRL.out] at hq
              exact OwnM.push (v := _) HVL.out (own_below HOWN.out (bnew _ _)) HVR2.out HRW.out hq HBB.out
      · have hil : i = L.starts.length := by omega
        subst hil
        go_wp2
        go_ret2
        obtain ⟨aM, cM, rfl, hrd, _⟩ := HK.out.1.rd
        rw [backP_end] at hrd ⊢
        exact ⟨HB1.out.step HK.out.2, aM, cM, rfl, hrd⟩
  · have HV : Hid (backV L = []) := hid (by unfold backV; rw [if_neg hE])
    have hne : (chkL L == 0) = false := by rw [beq_eq_false_iff_ne]; exact hE
    clear hE
    go_enter Try.func34, Try.ntmps34
    go_wp2_with (go_at_call 30; refine HC.out.mono ?_; rintro e w1 ⟨rfl, hb⟩; have HB1 := hid (HB0.out.step hb); clear hb)
    go_ret2
    rw [HV.out]
    exact ⟨HB1.out, none, 0, rfl, fun i hi => absurd hi (Nat.not_lt_zero _)⟩
end Go.Proofs.Ytliajnflmddnoaa
