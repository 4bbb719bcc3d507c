/- The sets that are needed ahead of the instructions grow, and there is an end: plain lists. Live of package core. -/
import Derived.Test.YtgalekifgnecjaaGreatM5
namespace Go.Proofs.YtgalekifgnecjaaGreat
open Go.RowKit


def totalL (s : List (List Int)) : Nat := (s.map List.length).sum
theorem totalL_cons (x : List Int) (s : List (List Int)) : totalL (x :: s) = x.length + totalL s := by simp [totalL]
theorem totalL_set : ∀ (s : List (List Int)) (t : Nat) (m : List Int), t < s.length → totalL (s.set t m) + (s.getD t []).length = totalL s + m.length
  | [], t, m, h => absurd h (Nat.not_lt_zero _)
  | x :: s, 0, m, h => by simp only [List.set_cons_zero, totalL_cons, List.getD_cons_zero]; omega
  | x :: s, t + 1, m, h => by
    have := totalL_set s t m (by simpa using h)
    simp only [List.set_cons_succ, totalL_cons, List.getD_cons_succ]
    omega
theorem totalL_le : ∀ (s : List (List Int)) (m : Nat), (∀ x ∈ s, x.length ≤ m) → totalL s ≤ s.length * m
  | [], m, _ => by simp [totalL]
  | x :: s, m, h => by
    have h1 := h x (by simp)
    have h2 := totalL_le s m (fun y hy => h y (by simp [hy]))
    rw [totalL_cons, List.length_cons, Nat.succ_mul]
    omega
/-- The slots that are read. -/
def univL (u : UntN) : List Int := u.code.flatMap readsL
theorem univ_len (u : UntN) : (univL u).length ≤ 2 * u.code.length := by
  unfold univL
  induction u.code with
  | nil => simp
  | cons x l ih =>
    rw [List.flatMap_cons, List.length_append, List.length_cons]
    have := readsL_len x
    omega
theorem mem_foldNd (u : UntN) (L : List (List Int)) (t : Nat) (x : Int) : ∀ (l : List (Int × Int)) (s : List Int), x ∈ l.foldl (ndOne u L t) s ↔ x ∈ s ∨ ∃ e ∈ l, x ∈ L.getD e.1.toNat [] ∧ (e.2 == 2 || x != writesI (u.code.getD t ins0)) = true
  | [], s => by simp
  | e :: l, s => by
    rw [List.foldl_cons, mem_foldNd u L t x l]
    unfold ndOne
    rw [mem_foldIns, List.mem_filter]
    constructor
    · rintro ((h | h) | ⟨e', h1, h2⟩)
      · exact .inl h
      · exact .inr ⟨e, by simp, h⟩
      · exact .inr ⟨e', by simp [h1], h2⟩
    · rintro (h | ⟨e', h1, h2⟩)
      · exact .inl (.inl h)
      · rcases List.mem_cons.1 h1 with rfl | h1
        · exact .inl (.inr h2)
        · exact .inr ⟨e', h1, h2⟩
theorem sorted_foldNd (u : UntN) (L : List (List Int)) (t : Nat) : ∀ (l : List (Int × Int)) (s : List Int), SortedL s → SortedL (l.foldl (ndOne u L t) s)
  | [], _, h => h
  | _e :: l, _s, h => sorted_foldNd u L t l _ (sorted_foldIns h)
theorem mem_nowS (u : UntN) (L : List (List Int)) (t : Nat) (x : Int) : x ∈ nowS u L t ↔ (∃ e ∈ leadsL u t, x ∈ L.getD e.1.toNat [] ∧ (e.2 == 2 || x != writesI (u.code.getD t ins0)) = true) ∨ x ∈ readsL (u.code.getD t ins0) := by
  rw [nowS_eq, mem_foldIns, mem_foldNd]
  simp
theorem sorted_nowS (u : UntN) (L : List (List Int)) (t : Nat) : SortedL (nowS u L t) := by
  rw [nowS_eq]
  exact sorted_foldIns (sorted_foldNd u L t _ _ .nil)
/-- Sets that have grown so far. -/
structure GoodL (u : UntN) (s : List (List Int)) : Prop where
  len : s.length = u.code.length
  so : ∀ t, SortedL (s.getD t [])
  un : ∀ t x, x ∈ s.getD t [] → x ∈ univL u
  inc : ∀ t, t < u.code.length → ∀ x, x ∈ s.getD t [] → x ∈ nowS u s t
theorem sorted_nodup : ∀ {l : List Int}, SortedL l → l.Nodup
  | [], _ => .nil
  | x :: l, h => by
    obtain ⟨h1, h2⟩ := List.pairwise_cons.1 h
    refine List.nodup_cons.2 ⟨fun e => ?_, sorted_nodup h2⟩
    have := h1 x e
    omega
theorem getD_set (s : List (List Int)) (t : Nat) (m : List Int) (k : Nat) (h : t < s.length) : (s.set t m).getD k [] = if k = t then m else s.getD k [] := by
  simp only [List.getD_eq_getElem?_getD, List.getElem?_set]
  by_cases e : t = k
  · subst e
    simp [h]
  · simp [e, show ¬ k = t from fun h => e h.symm]
theorem GoodL.total {u : UntN} {s : List (List Int)} (h : GoodL u s) : totalL s ≤ 2 * u.code.length * u.code.length := by
  have := totalL_le s (2 * u.code.length) (fun x hx => by
    obtain ⟨t, ht, rfl⟩ := List.getElem_of_mem hx
    have e : s.getD t [] = s[t] := getD_in ht
    have h1 := nodup_sub_len (sorted_nodup (h.so t)) (h.un t)
    rw [e] at h1
    exact Nat.le_trans h1 (univ_len u))
  rw [h.len] at this
  rw [Nat.mul_comm]
  exact this
theorem GoodL.first (u : UntN) : GoodL u (List.replicate u.code.length []) := by
  have e : ∀ t, (List.replicate u.code.length ([] : List Int)).getD t [] = [] := fun t => by
    simp only [List.getD_eq_getElem?_getD, List.getElem?_replicate]
    split <;> rfl
  refine ⟨by simp, fun t => by rw [e]; exact .nil, fun t x hx => by rw [e] at hx; simp at hx, fun t _ x hx => by rw [e] at hx; simp at hx⟩
theorem nowS_un {u : UntN} {s : List (List Int)} (h : GoodL u s) {t : Nat} (ht : t < u.code.length) {x : Int} (hx : x ∈ nowS u s t) : x ∈ univL u := by
  rcases (mem_nowS u s t x).1 hx with ⟨e, _, h2, _⟩ | h1
  · exact h.un _ _ h2
  · unfold univL
    rw [List.mem_flatMap]
    exact ⟨u.code[t], List.getElem_mem ht, by rwa [getD_in ht] at h1⟩
theorem GoodL.step {u : UntN} {s : List (List Int)} (h : GoodL u s) {t : Nat} (ht : t < u.code.length) : GoodL u (s.set t (nowS u s t)) := by
  have hts : t < s.length := by rw [h.len]; exact ht
  have hsub : ∀ k x, x ∈ s.getD k [] → x ∈ (s.set t (nowS u s t)).getD k [] := fun k x hx => by
    rw [getD_set _ _ _ _ hts]
    split
    · rename_i e; subst e; exact h.inc k ht x hx
    · exact hx
  have hmono : ∀ k x, x ∈ nowS u s k → x ∈ nowS u (s.set t (nowS u s t)) k := fun k x hx => by
    rw [mem_nowS] at hx ⊢
    rcases hx with ⟨e, h1, h2, h3⟩ | hx
    · exact .inl ⟨e, h1, hsub _ _ h2, h3⟩
    · exact .inr hx
  refine ⟨by rw [List.length_set]; exact h.len, fun k => ?_, fun k x hx => ?_, fun k hk x hx => ?_⟩
  · rw [getD_set _ _ _ _ hts]
    split
    · exact sorted_nowS u s t
    · exact h.so k
  · rw [getD_set _ _ _ _ hts] at hx
    split at hx
    · exact nowS_un h ht hx
    · exact h.un k x hx
  · rw [getD_set _ _ _ _ hts] at hx
    split at hx
    · rename_i e; subst e; exact hmono _ _ hx
    · exact hmono _ _ (h.inc k hk x hx)
theorem GoodL.grows {u : UntN} {s : List (List Int)} (h : GoodL u s) {t : Nat} (ht : t < u.code.length) (hne : (nowS u s t).length ≠ (s.getD t []).length) : totalL s + 1 ≤ totalL (s.set t (nowS u s t)) := by
  have hts : t < s.length := by rw [h.len]; exact ht
  have h1 := totalL_set s t (nowS u s t) hts
  have h2 := nodup_sub_len (sorted_nodup (h.so t)) (h.inc t ht)
  omega
theorem liveOne_good {u : UntN} : ∀ {t : Nat} {s : List (List Int) × Bool}, GoodL u s.1 → t ≤ u.code.length → GoodL u (liveOne u t s).1 ∧ totalL s.1 ≤ totalL (liveOne u t s).1 ∧ (s.2 = true → (liveOne u t s).2 = true) ∧ (s.2 = false → (liveOne u t s).2 = true → totalL s.1 + 1 ≤ totalL (liveOne u t s).1)
  | 0, s, h, _ => ⟨h, Nat.le_refl _, id, fun h1 h2 => by rw [show (liveOne u 0 s).2 = s.2 from rfl, h1] at h2; cases h2⟩
  | t + 1, s, h, ht => by
    unfold liveOne
    split
    · rename_i hne
      obtain ⟨h1, h2, h3, h4⟩ := liveOne_good (t := t) (s := (s.1.set t (nowS u s.1 t), true)) (h.step (by omega)) (by omega)
      have h5 := h.grows (t := t) (by omega) hne
      dsimp only at h2
      exact ⟨h1, by omega, fun _ => h3 rfl, fun _ _ => by omega⟩
    · exact liveOne_good h (by omega)
/-- One round more. -/
theorem live_round {u : UntN} {s : List (List Int)} {f : Nat} (h : GoodL u s) (hf : liveL u = liveGo u f s) (hb : 2 * u.code.length * u.code.length + 1 ≤ f + totalL s) :
    GoodL u (liveOne u u.code.length (s, false)).1 ∧ 1 ≤ f ∧ ((liveOne u u.code.length (s, false)).2 = true → liveL u = liveGo u (f - 1) (liveOne u u.code.length (s, false)).1 ∧ 2 * u.code.length * u.code.length + 1 ≤ f - 1 + totalL (liveOne u u.code.length (s, false)).1) ∧
      ((liveOne u u.code.length (s, false)).2 = false → liveL u = (liveOne u u.code.length (s, false)).1) := by
  obtain ⟨h1, h2, _, h4⟩ := liveOne_good (s := (s, false)) h (Nat.le_refl _)
  have h5 := h.total
  obtain ⟨g, rfl⟩ : ∃ g, f = g + 1 := ⟨f - 1, by omega⟩
  rw [hf]
  refine ⟨h1, by omega, fun e => ⟨by rw [Nat.add_sub_cancel]; exact if_pos e, ?_⟩, fun e => if_neg (by rw [e]; simp)⟩
  have := h4 rfl e
  dsimp only at this
  omega
/-- The row of sets, in a block of the call's own. -/
def AhB (w : World) (b : Nat) (s : List (List Int)) : Prop := ∃ cur, w.heap[b]? = some (.cells cur 217 (0, 0)) ∧ ∀ i (h : i < s.length), ∃ v, cur[i]? = some v ∧ SetV w v s[i]
theorem AhB.below {w w' : World} {b : Nat} {s : List (List Int)} (h : AhB w b s) (hb : Below w.heap.size w w') : AhB w' b s := by
  obtain ⟨cur, h1, h2⟩ := h
  refine ⟨cur, keepBox hb h1, fun i hi => ?_⟩
  obtain ⟨v, h3, h4⟩ := h2 i hi
  exact ⟨v, h3, h4.below hb⟩
theorem AhB.rd {w : World} {b : Nat} {s : List (List Int)} (h : AhB w b s) : RdS w (some ⟨b, 0, none⟩) s := by
  obtain ⟨cur, h1, h2⟩ := h
  intro i hi
  obtain ⟨v, h3, h4⟩ := h2 i hi
  exact ⟨b, 0, v, rfl, lt_of_heap h1, (cell_of_row _ _ _ _ _ _ h1).trans (by rw [Nat.zero_add]; exact h3), h4⟩
theorem AhB.set {w : World} {b : Nat} {s : List (List Int)} (h : AhB w b s) {k : Nat} (hk : k < s.length) {v : Value} {S : List Int} (hv : SetV w v S) : AhB (w.setCell ⟨b, k, none⟩ v) b (s.set k S) := by
  obtain ⟨cur, h1, h2⟩ := h
  have hne : ∀ {u : Value} {T : List Int}, SetV w u T → SetV (w.setCell ⟨b, k, none⟩ v) u T := fun hu => by
    rcases hu with h | ⟨m, e, h⟩
    · exact .inl h
    · refine .inr ⟨m, e, h.keep (heap_setCell_other _ _ _ _ (fun e2 => ?_))⟩
      obtain ⟨es, clock, hm, _⟩ := h.own
      rw [e2] at hm
      have := hm.symm.trans h1
      cases this
  have hkc : k < cur.size := by
    obtain ⟨v0, h3, _⟩ := h2 k hk
    exact (Array.getElem?_eq_some_iff.1 h3).1
  refine ⟨_, heap_setCell_same _ _ k _ _ _ h1, fun i hi => ?_⟩
  by_cases e : i = k
  · subst e
    exact ⟨v, by simp [hkc], by rw [List.getElem_set_self]; exact hne hv⟩
  · obtain ⟨v1, h3, h4⟩ := h2 i (by simpa using hi)
    refine ⟨v1, by rw [Array.getElem?_setIfInBounds_ne (fun e2 => e e2.symm)]; exact h3, ?_⟩
    rw [List.getElem_set_ne (fun e2 => e e2.symm)]
    exact hne h4
theorem ah_made (w : World) (n : Nat) : AhB (w.alloc (.cells (madeCells #[.map none] n) 217)) w.heap.size (List.replicate n []) := by
  refine ⟨_, heapn _ _ _ rfl, fun i hi => ?_⟩
  rw [List.length_replicate] at hi
  refine ⟨.map none, ?_, .inl ⟨rfl, by simp⟩⟩
  simp [madeCells, hi, Nat.mod_one]

open Go.RowKit Go.Shelf
attribute [local go_sem] Oper.semAt_some
theorem info217 : (Tryz.prog.info? 217).map (fun i => (i.zero, i.size, i.bytes)) = some (some (.map none), 1, 8) := by kernel_rfl
/-- Between two rounds over all instructions. -/
structure LvO (u : UntN) (ca : Option Addr) (cc : Nat) (ga : Option Addr) (gc : Nat) (w : World) (b : Nat) (s : List (List Int)) (wr : World) : Prop where
  hb : Below w.heap.size w wr
  hu : wr.heap[w.heap.size]? = some (oU u ca cc ga gc)
  ah : AhB wr b s
  gd : GoodL u s
  ge : w.heap.size < b
theorem OwnLL.mono {w : World} {base base' : Nat} {v : Value} {L : List (List Int)} (h : OwnLL w base v L) (hb : base' ≤ base) : OwnLL w base' v L := by
  obtain ⟨xs, h1, h2, h3⟩ := h
  exact ⟨xs, OwnX.mono h1 hb, h2, fun i a b => OwnI.mono (h3 i a b) hb⟩
def LvF (u : UntN) (ch : Bool) (f : Nat) (s : List (List Int)) : Prop := (ch = true → liveL u = liveGo u f s ∧ 2 * u.code.length * u.code.length + 1 ≤ f + totalL s) ∧ (ch = false → liveL u = s)
set_option maxRecDepth 100000 in
set_option maxHeartbeats 8000000 in
theorem live_yes (u : UntN) (ca : Option Addr) (cc : Nat) (ga : Option Addr) (gc : Nat) (w : World) (hm : UnM w u ca cc ga gc) (hp : plainB u = true) (hr : ∀ t (ht : t < u.code.length), ∀ x ∈ readsL u.code[t], 0 ≤ x ∧ x < 1000000) :
    Calls Tryz.prog 105 #[vU u ca cc ga gc] w (OwnRetLL (liveL u) w) := by
  obtain ⟨hn0, hn6, hg4, hlds⟩ := plain_leads hp
  have HM := hid hm; clear hm
  have HRB := hid hr; clear hr
  have HPL := hid (fun w' hb => plain_any u ca cc ga gc w' (HM.out.below hb) (by omega) (by omega))
  rw [hp] at HPL
  have HND := hid (fun (t : Nat) (ht : t < u.code.length) (L : List (List Int)) (aa : Option Addr) (ac : Nat) (w' : World) (hb : Below w.heap.size w w') (hL : RdS w' aa L) (hlen : L.length = u.code.length) => (show Calls Tryz.prog 175 #[vU u ca cc ga gc, .int .i64 t, .slice aa u.code.length ac] w' fun e w2 => Below w'.heap.size w' w2 ∧ ∃ b, e = .returned (.map (some b)) ∧ SetAt w2 b (nowS u L t) ∧ w'.heap.size ≤ b from by rw [← hlen]; exact needed_any u t ht (by omega) (by omega) ca cc ga gc L aa ac w' (HM.out.below hb) hL hlen (hlds t ht) (HRB.out t ht)))
  have hmk := fun w => run_make_row' (P := Tryz.prog) 216 217 (.map none) 8 Tryz.underlying216 info217 rfl .i64 .i64 u.code.length (by omega) (by omega) w
  have HMD := hid (fun w => ah_made w u.code.length)
  obtain ⟨M, hM⟩ : ∃ M, M = madeCells #[.map none] u.code.length := ⟨_, rfl⟩
  rw [← hM] at hmk HMD
  clear hM
  have HX1 := hid (heapn w (oU u ca cc ga gc) _ rfl)
  have HB := hid (bnew w (oU u ca cc ga gc))
  go_enter Tryz.func105, Tryz.ntmps105
  go_upto_region 1 with fail
  obtain ⟨w1, hw1⟩ : ∃ w1, w1 = w.alloc (oU u ca cc ga gc) := ⟨_, rfl⟩
  rw [← hw1] at HX1 HB
  rw [← hw1]
  clear hw1
  obtain ⟨k0, k1, k2, k3, k4, k5, k6⟩ := box7 HX1.out
  go_upto_region 3 with (first
    | (go_at_call 174; (with_reducible refine (HPL.out _ HB.out).mono ?_); rintro e w2 ⟨rfl, hb⟩; obtain ⟨j0, j1, j2, j3, j4, j5, j6⟩ := box7 (keepBox hb HX1.out); have HX2 := hid (keepBox hb HX1.out); have HB2 := hid (HB.out.step hb); clear hb))
  clear k0 k1 k2 k3 k4 k5 k6
  have hlt := lt_of_heap HX2.out
  have HL0 : Hid (LvO u ca cc ga gc w w2.heap.size (List.replicate u.code.length []) (w2.alloc (.cells M 217))) := hid ⟨HB2.out.step (bnew _ _), keepBox (bnew _ _) HX2.out, HMD.out w2, GoodL.first u, hlt⟩
  go_upto_region 5 with fail
  obtain ⟨bA, hbA⟩ : ∃ b, b = w2.heap.size := ⟨_, rfl⟩
  obtain ⟨wa, hwa⟩ : ∃ wa, wa = w2.alloc (.cells M 217) := ⟨_, rfl⟩
  rw [← hbA, ← hwa] at HL0
  rw [← hbA, ← hwa]
  clear hwa hbA hlt j0 j1 j2 j3 j4 j5 j6 hmk HMD HPL
  go_loopg [4] (0 + (2 * u.code.length * u.code.length + 1 + 1)) (fun gh s4 wr => ∃ (s : List (List Int)) (ch : Bool) (f : Nat), gh = 0 + (if ch = true then f + 1 else 0) ∧ s4 = .bool ch ∧ Hid (LvO u ca cc ga gc w bA s wr) ∧ Hid (LvF u ch f s))
  case atStart => exact ⟨_, true, _, rfl, rfl, HL0, hid ⟨fun _ => ⟨rfl, by omega⟩, fun h => by cases h⟩⟩
  case round =>
    obtain ⟨s, ch, f, rfl, rfl, HL, HF⟩ := hrel
    obtain ⟨k0, k1, k2, k3, k4, k5, k6⟩ := box7 HL.out.hu
    cases ch with
    | false =>
      have HLS := hid (HF.out.2 rfl)
      have HMP := hid (fun w' (hb : Below wr.heap.size wr w') => mappedS_any s (some ⟨bA, 0, none⟩) u.code.length w' (HL.out.ah.below hb).rd (by rw [HL.out.gd.len]; omega))
      rw [HL.out.gd.len, ← HLS.out] at HMP
      clear HF
      go_wp2_with (first
        | (go_at_call 176; (with_reducible refine (HMP.out _ (Below.refl _ _)).mono ?_); rintro e w3 ⟨hb, v3, rfl, ho⟩; have HB3 := hid hb; have HO3 := hid ho; clear hb ho))
      go_ret
      exact ⟨HL.out.hb.step HB3.out, v3, rfl, HO3.out.mono HL.out.hb.size⟩
    | true =>
      obtain ⟨hf, hfb⟩ := HF.out.1 rfl
      obtain ⟨h1, h2, h3, h4⟩ := live_round HL.out.gd hf hfb
      have HR := hid (And.intro h1 (And.intro h3 h4))
      have hn1 : (1 : Int) ≤ (u.code.length : Int) := by omega
      clear HF hf hfb h1 h3 h4
      go_upto_region 8 with fail
      go_loopg [4, 5] (0 + u.code.length) (fun gh s4 s5 wr => ∃ (t : Nat) (x : Int) (s2 : List (List Int)) (c2 : Bool), gh = 0 + t ∧ t ≤ u.code.length ∧ x + 1 = (t : Int) ∧ s5 = .int .i64 x ∧ s4 = .bool c2 ∧ Hid (LvO u ca cc ga gc w bA s2 wr) ∧ Hid (liveOne u t (s2, c2) = liveOne u u.code.length (s, false)))
      case atStart => exact ⟨u.code.length, _, s, false, by omega, Nat.le_refl _, by omega, rfl, rfl, HL, hid rfl⟩
      case round =>
        obtain ⟨t, x, s2, c2, rfl, ht, hx, rfl, rfl, HL2, HE⟩ := hrel
        cases t with
        | zero =>
          have nx : ¬ (0 : Int) ≤ x := by omega
          have he : (s2, c2) = liveOne u u.code.length (s, false) := HE.out
          obtain ⟨r1, r2, r3⟩ := HR.out
          rw [← he] at r2 r3
          have HF2 : Hid (LvF u c2 (f - 1) s2) := hid ⟨r2, r3⟩
          clear r1 r2 r3 he
          go_wp2
          go_roundg (0 + (if c2 = true then f - 1 + 1 else 0))
          case measure => split <;> omega
          case rel => exact ⟨s2, c2, f - 1, rfl, rfl, HL2, HF2⟩
        | succ k =>
          obtain rfl : x = (k : Int) := by omega
          have nx : (0 : Int) ≤ (k : Int) := by omega
          have hk : k < u.code.length := by omega
          have hks : k < s2.length := by rw [HL2.out.gd.len]; exact hk
          have hkn : (k : Int) < (u.code.length : Int) := by omega
          have HCC := hid (HND.out k hk s2 (some ⟨bA, 0, none⟩) u.code.length _ HL2.out.hb HL2.out.ah.rd HL2.out.gd.len)
          obtain ⟨c0, c1, c2', c3, c4, c5, c6⟩ := box7 HL2.out.hu
          clear k0 k1 k2 k3 k4 k5 k6
          go_upto_region 11 with (first
            | (go_at_call 175; (with_reducible refine HCC.out.mono ?_); rintro e w3 ⟨hb, m, rfl, hs, hm⟩; have HB3 := hid hb; have HS3 := hid hs; have HM3 := hid hm; clear hb hs hm))
          clear c0 c1 c2' c3 c4 c5 c6
          have hLO : LvO u ca cc ga gc w bA s2 w3.drew := ⟨(HL2.out.hb.step HB3.out).step (bdrew _), keepBox ((HB3.out.trans ((bdrew _).mono HB3.out.size))) HL2.out.hu, (HL2.out.ah.below HB3.out).below (bdrew _), HL2.out.gd, HL2.out.ge⟩
          obtain ⟨cur, hcur, hcv⟩ := hLO.ah
          obtain ⟨v, hv1, hv2⟩ := hcv k hks
          have hck : w3.drew.cell? ⟨bA, k, none⟩ = some v := (cell_of_row _ _ _ _ _ _ hcur).trans hv1
          have hlv := fun ty => hv2.len ty
          have hS3 : SetV w3.drew (.map (some m)) (nowS u s2 k) := .inr ⟨m, rfl, HS3.out.below (bdrew _)⟩
          have hlm := fun ty => hS3.len ty
          have HLO := hid hLO
          have HSD := hid hS3
          have HEk : Hid (s2.getD k [] = s2[k]) := hid (getD_in hks)
          have HST : Hid (liveOne u (k + 1) (s2, c2) = liveOne u k (if (nowS u s2 k).length ≠ (s2.getD k []).length then (s2.set k (nowS u s2 k), true) else (s2, c2))) := hid rfl
          rw [HEk.out] at HST
          clear hLO hcur hcv hv1 hv2 hS3 HCC
          by_cases hne : (nowS u s2 k).length = s2[k].length
          · rw [if_neg (by simp [hne])] at HST
            have nb : (((nowS u s2 k).length : Int) == (s2[k].length : Int)) = true := by simp [hne]
            have HEN : Hid (liveOne u k (s2, c2) = liveOne u u.code.length (s, false)) := hid (HST.out.symm.trans HE.out)
            have hkl : (k : Int) ≤ 600 := by omega
            go_region_with fail
            all_goals go_wp2
            all_goals go_roundg (0 + k)
            all_goals first
              | omega
              | exact ⟨k, (k : Int) - 1, s2, c2, rfl, by omega, by omega, by go_num, rfl, HLO, HEN⟩
          · rw [if_pos hne] at HST
            have nb : (((nowS u s2 k).length : Int) == (s2[k].length : Int)) = false := by simp; omega
            have HEN : Hid (liveOne u k (s2.set k (nowS u s2 k), true) = liveOne u u.code.length (s, false)) := hid (HST.out.symm.trans HE.out)
            have HLS : Hid (LvO u ca cc ga gc w bA (s2.set k (nowS u s2 k)) (w3.drew.setCell ⟨bA, k, none⟩ (.map (some m)))) := hid (by
              obtain ⟨q1, q2, q3, q4, q5⟩ := HLO.out
              exact ⟨q1.setCell (p := ⟨bA, k, none⟩) (by show w.heap.size ≤ bA; omega) _, (heap_setCell_other _ _ _ _ (by show w.heap.size ≠ bA; omega)).trans q2, q3.set hks HSD.out, q4.step hk, q5⟩)
            obtain ⟨curA, hA1, _⟩ := HLO.out.ah
            have fA := boxF k hA1
            clear hA1
            have hkl : (k : Int) ≤ 600 := by omega
            go_region_with fail
            all_goals go_wp2
            all_goals go_roundg (0 + k)
            all_goals first
              | omega
              | exact ⟨k, (k : Int) - 1, _, true, rfl, by omega, by omega, by go_num, rfl, HLS, HEN⟩
end Go.Proofs.YtgalekifgnecjaaGreat
