/- replaced of package regs, at any instruction. The reader's group of package regs (under way). The reader's group of package regs: plain facts of what is loaded and of what is replaced. -/
import Derived.Test.YtgalekifgnecjaaGreatT15
import Derived.Test.YtgalekifgnecjaaGreatN6
import Derived.Test.YtgalekifgnecjaaGreatS6
namespace Go.Proofs.YtgalekifgnecjaaGreat
open Go.RowKit

open Go.RowKit Go.Shelf
theorem read_a {x : InsN} (h : (formL x.op).r0 = 1) (h0 : 0 ≤ x.a) : x.a ∈ readsL x := by
  unfold readsL readPart
  rw [h]
  exact List.mem_append_left _ (by rw [if_pos ⟨by omega, by show x.a ≠ -1; omega⟩]; exact List.mem_singleton.2 rfl)
theorem read_b {x : InsN} (h : (formL x.op).r0 = 2) (h0 : 0 ≤ x.b) : x.b ∈ readsL x := by
  unfold readsL readPart
  rw [h]
  exact List.mem_append_left _ (by rw [if_pos ⟨by omega, by show x.b ≠ -1; omega⟩]; exact List.mem_singleton.2 rfl)
theorem read_c {x : InsN} (h : (formL x.op).r1 = 3) (h0 : 0 ≤ x.c) : x.c ∈ readsL x := by
  unfold readsL readPart
  rw [h]
  exact List.mem_append_right _ (by rw [if_pos ⟨by omega, by show x.c ≠ -1; omega⟩]; exact List.mem_singleton.2 rfl)
theorem writes_a {x : InsN} (h : 0 ≤ writesI x) : writesI x = x.a := by
  unfold writesI at *
  rcases (formL_shape x.op).2.2 with e | e
  · rw [if_pos e] at h; omega
  · rw [if_neg (by omega), e]; rfl
theorem replaced_any (x : InsN) (F1 F2 : Nat) (e1 : Enters F1) (e2 : Enters F2) (lb1 lb2 : Array Value) (rd wr : Int → Option Int) (D1 D2 : Int → Prop) (w : World) (hr : ToC F1 lb1 rd D1 w) (hw : ToC F2 lb2 wr D2 w) (hD1 : ∀ s ∈ readsL x, D1 s) (hD2 : 0 ≤ writesI x → D2 (writesI x)) :
    Calls Tryz.prog 113 #[vI x, .func (.func F1) #[] lb1, .func (.func F2) #[] lb2] w (ReplP (replO x rd wr) w) := by
  have h2 : 0 ≤ writesI x → 0 ≤ x.a → D2 x.a := fun h _ => by rw [← writes_a h]; exact hD2 h
  obtain ⟨op, A, B, C⟩ := x
  by_cases hB : op = 4 ∨ op = 11 ∨ op = 15 ∨ op = 16 ∨ op = 17 ∨ op = 20
  · exact repl_B op hB A B C F1 F2 e1 e2 lb1 lb2 rd wr D1 D2 w hr hw h2 (fun h0 => hD1 _ (read_b (x := ⟨op, A, B, C⟩) (show (formL op).r0 = 2 from by rcases hB with rfl | rfl | rfl | rfl | rfl | rfl <;> decide) h0))
  by_cases hE : op = 18 ∨ op = 19
  · exact repl_E op hE A B C F1 F2 e1 e2 lb1 lb2 rd wr D1 D2 w hr hw h2 (fun h0 => hD1 _ (read_b (x := ⟨op, A, B, C⟩) (show (formL op).r0 = 2 from by rcases hE with rfl | rfl <;> decide) h0))
  by_cases hBC : op = 6 ∨ op = 7 ∨ op = 8 ∨ op = 9 ∨ op = 10 ∨ op = 12 ∨ op = 13 ∨ op = 14
  · exact repl_BC op hBC A B C F1 F2 e1 e2 lb1 lb2 rd wr D1 D2 w hr hw h2 (fun h0 => hD1 _ (read_b (x := ⟨op, A, B, C⟩) (show (formL op).r0 = 2 from by rcases hBC with rfl | rfl | rfl | rfl | rfl | rfl | rfl | rfl <;> decide) h0)) (fun h0 => hD1 _ (read_c (x := ⟨op, A, B, C⟩) (show (formL op).r1 = 3 from by rcases hBC with rfl | rfl | rfl | rfl | rfl | rfl | rfl | rfl <;> decide) h0))
  by_cases hA : op = 22 ∨ op = 23 ∨ op = 28 ∨ op = 29 ∨ op = 25 ∨ op = 30 ∨ op = 32
  · exact repl_A op hA A B C F1 F2 e1 e2 lb1 lb2 rd wr D1 D2 w hr hw h2 (fun h0 => hD1 _ (read_a (x := ⟨op, A, B, C⟩) (show (formL op).r0 = 1 from by rcases hA with rfl | rfl | rfl | rfl | rfl | rfl | rfl <;> decide) h0))
  exact repl_no op (fun h => hB (by rw [h]; decide)) (fun h => hB (by rw [h]; decide)) (fun h => hB (by rw [h]; decide)) (fun h => hB (by rw [h]; decide)) (fun h => hB (by rw [h]; decide)) (fun h => hE (by rw [h]; decide)) (fun h => hE (by rw [h]; decide)) (fun h => hB (by rw [h]; decide)) (fun h => hBC (by rw [h]; decide)) (fun h => hBC (by rw [h]; decide)) (fun h => hBC (by rw [h]; decide)) (fun h => hBC (by rw [h]; decide)) (fun h => hBC (by rw [h]; decide)) (fun h => hBC (by rw [h]; decide)) (fun h => hBC (by rw [h]; decide)) (fun h => hBC (by rw [h]; decide)) (fun h => hA (by rw [h]; decide)) (fun h => hA (by rw [h]; decide)) (fun h => hA (by rw [h]; decide)) (fun h => hA (by rw [h]; decide)) (fun h => hA (by rw [h]; decide)) (fun h => hA (by rw [h]; decide)) (fun h => hA (by rw [h]; decide)) A B C F1 F2 e1 e2 lb1 lb2 rd wr D1 D2 w hr hw h2

attribute [local go_sem] Oper.semAt_some
attribute [local irreducible] wpStill
/-- The boxes of group. -/
structure GpI (w0 : World) (r : RdrN) (a b1 b2 : Nat) (x : GrX) (w : World) : Prop where
  hi : RI w0 r a w
  h1 : w.heap[b1]? = some (.cells #[.pointer (some ⟨w0.heap.size, 0, none⟩)] 177)
  h2 : w.heap[b2]? = some (.cells #[.int .i64 x.g.frm, .int .i64 x.g.til, .slice x.a x.g.reads.length x.c, .int .i64 x.g.wr] 107)
theorem GpI.below {w0 : World} {r : RdrN} {a b1 b2 : Nat} {x : GrX} {w w' : World} (h : GpI w0 r a b1 b2 x w) (hb : Below w.heap.size w w') : GpI w0 r a b1 b2 x w' := ⟨h.hi.below hb, keepBox hb h.h1, keepBox hb h.h2⟩
theorem nextL_in {u : UntN} (hp : plainB u = true) {t : Nat} (ht : t < u.code.length) : ∀ p ∈ nextL u t, 0 ≤ p ∧ p < u.code.length := by
  intro p hp2
  rw [nextL_eq, addL_mem] at hp2
  rcases hp2 with h | h
  · exact bySelf_in hp ht p h
  · unfold nxOne at h
    split at h
    · rename_i hc
      simp only [Bool.and_eq_true, decide_eq_true_eq] at hc
      have hg : (guardL u t).toNat < u.guards.length := by have := guard_lt u t; omega
      rw [List.mem_singleton.1 h, getD_in hg]
      have := plain_at hp hg
      omega
    · simp at h
theorem nextL_len (u : UntN) (t : Nat) : (nextL u t).length ≤ 3 := by
  rw [nextL_eq]
  have h1 := addL_len (bySelf u t) (nxOne u t)
  have h2 := bySelf_len u t
  have h3 : (nxOne u t).length ≤ 1 := by unfold nxOne; split <;> simp
  omega
/-- A group of a unit. -/
structure GrpOk (u : UntN) (g : GrpN) : Prop where
  lt : g.til < u.code.length
  le : g.frm ≤ g.til
  rd : ∀ s ∈ g.reads, 0 ≤ s ∧ s < u.slots
  wr : g.wr = writesI (u.code.getD g.til ins0)
  ra : ∀ i, g.frm ≤ i → i ≤ g.til → ∀ s ∈ readsL (u.code.getD i ins0), s ∈ g.reads
  rq : g.reads = grpReads u.code g.frm g.til
theorem grpReads_mem {code : List InsN} {i j : Nat} {s : Int} : s ∈ grpReads code i j ↔ ∃ y ∈ (code.drop i).take (j + 1 - i), s ∈ readsL y := by
  have h : ∀ (l : List InsN) (acc : List Int), s ∈ l.foldl (fun l x => addL l (readsL x)) acc ↔ s ∈ acc ∨ ∃ y ∈ l, s ∈ readsL y := by
    intro l
    induction l with
    | nil => intro acc; simp
    | cons y l ih =>
      intro acc
      rw [List.foldl_cons, ih, addL_mem]
      simp only [List.mem_cons, exists_eq_or_imp]
      constructor
      · rintro ((h | h) | h)
        · exact .inl h
        · exact .inr (.inl h)
        · exact .inr (.inr h)
      · rintro (h | h | h)
        · exact .inl (.inl h)
        · exact .inl (.inr h)
        · exact .inr h
  unfold grpReads
  rw [h]
  simp
theorem grpsGo_ok {u : UntN} (hw : writB u = true) : ∀ (f i : Nat), ∀ g ∈ grpsGo u.code (firstsL u.code) f i, GrpOk u g
  | 0, _, g, h => by simp [grpsGo] at h
  | f + 1, i, g, h => by
    unfold grpsGo at h
    split at h
    · rename_i hi
      rcases List.mem_cons.1 h with rfl | h
      · have hfl : (firstsL u.code).length = u.code.length := fsTo_length u.code u.code.length
        have hlt : grpEnd (firstsL u.code) i < u.code.length := by rw [← hfl]; exact grpEnd_lt (by rw [hfl]; exact hi)
        refine ⟨hlt, grpEnd_ge _ _, fun s hs => ?_, rfl, fun k h1 h2 s hs => ?_, rfl⟩
        · obtain ⟨y, hy, hs2⟩ := grpReads_mem.1 hs
          obtain ⟨k, hk, rfl⟩ := List.getElem_of_mem (List.mem_of_mem_drop (List.mem_of_mem_take hy))
          exact writ_readIn hw hk s hs2
        · have h1' : i ≤ k := h1
          have h2' : k ≤ grpEnd (firstsL u.code) i := h2
          have hk : k < u.code.length := by omega
          rw [getD_in hk] at hs
          refine grpReads_mem.2 ⟨u.code[k], ?_, hs⟩
          rw [List.mem_iff_getElem]
          refine ⟨k - i, by rw [List.length_take, List.length_drop]; omega, ?_⟩
          rw [List.getElem_take, List.getElem_drop]
          congr 1
          omega
      · exact grpsGo_ok hw f _ g h
    · simp at h
theorem groups_ok {u : UntN} (hw : writB u = true) {g : GrpN} (hg : g ∈ groupsL u) : GrpOk u g := grpsGo_ok hw _ _ g hg

theorem iteT {α : Type} {p q : Prop} [Decidable p] [Decidable q] (h : p ↔ q) (x y : α) : (if p then x else y) = if q then x else y := by
  by_cases hp : p
  · rw [if_pos hp, if_pos (h.1 hp)]
  · rw [if_neg hp, if_neg (fun hq => hp (h.2 hq))]
theorem setO_eq (y : Int) (f : Int → Option Int) : setO y f = if (0 ≤ y → (f y).isSome = true) then some (setR y fun s => (f s).getD 0) else none := by
  unfold setO setR
  by_cases h : 0 ≤ y
  · rw [if_pos h, if_pos h]
    cases hf : f y with
    | none => rw [if_neg (by intro h2; have := h2 h; simp at this)]
    | some v =>
      rw [if_pos (by intro _; rfl)]
      show some v = some ((f y).getD 0)
      rw [hf]
      rfl
  · rw [if_neg h, if_neg h, if_pos (fun h2 => absurd h2 h)]
theorem replA_eq (x : InsN) (wr : Int → Option Int) : replA x wr = if (0 ≤ writesI x → (wr (writesI x)).isSome = true) then some (if 0 ≤ writesI x then setR x.a (fun s => (wr s).getD 0) else x.a) else none := by
  unfold replA
  by_cases h : 0 ≤ writesI x
  · rw [if_pos h, if_pos h, setO_eq, writes_a h]
  · rw [if_neg h, if_neg h, if_pos (fun h2 => absurd h2 h)]
theorem rdp1 (x : InsN) (P : Int → Prop) : (∀ s ∈ readPart x 1, P s) ↔ (x.a ≠ -1 → P x.a) := by
  unfold readPart
  show (∀ s ∈ (if 0 < (1 : Int) ∧ x.a ≠ -1 then [x.a] else []), P s) ↔ _
  by_cases h : x.a = -1 <;> simp [h]
theorem rdp2 (x : InsN) (P : Int → Prop) : (∀ s ∈ readPart x 2, P s) ↔ (x.b ≠ -1 → P x.b) := by
  unfold readPart
  show (∀ s ∈ (if 0 < (2 : Int) ∧ x.b ≠ -1 then [x.b] else []), P s) ↔ _
  by_cases h : x.b = -1 <;> simp [h]
theorem rdp3 (x : InsN) (P : Int → Prop) : (∀ s ∈ readPart x 3, P s) ↔ (x.c ≠ -1 → P x.c) := by
  unfold readPart
  show (∀ s ∈ (if 0 < (3 : Int) ∧ x.c ≠ -1 then [x.c] else []), P s) ↔ _
  by_cases h : x.c = -1 <;> simp [h]
theorem formA : ∀ op ∈ rdA, (formL op).r0 = 1 ∧ (formL op).r1 = 0 ∧ (formL op).wr = 0 := by decide
theorem formBC : ∀ op ∈ rdBC, (formL op).r0 = 2 ∧ (formL op).r1 = 3 := by decide
theorem formB : ∀ op ∈ rdB, (formL op).r0 = 2 ∧ (formL op).r1 = 0 := by decide
theorem formN0 : ∀ k ∈ List.range 35, (k ≠ 34 ∧ rdA.contains (Int.ofNat k) = false ∧ rdBC.contains (Int.ofNat k) = false ∧ rdB.contains (Int.ofNat k) = false) → (formT.getD k form0).r0 = 0 ∧ (formT.getD k form0).r1 = 0 := by decide
theorem formN {op : Int} (h : op ≠ 34) (h1 : rdA.contains op = false) (h2 : rdBC.contains op = false) (h3 : rdB.contains op = false) : (formL op).r0 = 0 ∧ (formL op).r1 = 0 := by
  unfold formL
  cases ho : opOk op with
  | false => exact ⟨rfl, rfl⟩
  | true =>
    rw [if_pos rfl]
    have hb : 1 ≤ op ∧ op ≤ 34 := by unfold opOk at ho; simpa using ho
    obtain ⟨k, rfl⟩ : ∃ k : Nat, op = (k : Int) := ⟨op.toNat, by omega⟩
    exact formN0 k (List.mem_range.2 (by omega)) ⟨by omega, h1, h2, h3⟩
theorem reads_all (x : InsN) (P : Int → Prop) : (∀ s ∈ readsL x, P s) ↔ (∀ s ∈ readPart x (formL x.op).r0, P s) ∧ ∀ s ∈ readPart x (formL x.op).r1, P s := by
  unfold readsL
  constructor
  · intro h
    exact ⟨fun s hs => h s (List.mem_append_left _ hs), fun s hs => h s (List.mem_append_right _ hs)⟩
  · rintro ⟨h1, h2⟩ s hs
    rcases List.mem_append.1 hs with h | h
    · exact h1 s h
    · exact h2 s h
theorem rdp0 (x : InsN) (P : Int → Prop) : (∀ s ∈ readPart x 0, P s) := by
  unfold readPart
  simp
theorem nn {y : Int} {P : Prop} (h : y ≠ -1 → 0 ≤ y) : (y ≠ -1 → P) ↔ (0 ≤ y → P) := ⟨fun h1 h2 => h1 (by omega), fun h1 h2 => h1 (h h2)⟩
/-- replaced is what the plain word says, unless something fails. -/
theorem replO_eq (x : InsN) (rd wr : Int → Option Int) (hop : x.op ≠ 34) (hrd : ∀ s ∈ readsL x, 0 ≤ s) :
    replO x rd wr = if (∀ s ∈ readsL x, (rd s).isSome = true) ∧ (0 ≤ writesI x → (wr (writesI x)).isSome = true) then some (replI x (fun s => (rd s).getD 0) (fun s => (wr s).getD 0)) else none := by
  rw [reads_all] at hrd
  have hra := reads_all x (fun s => (rd s).isSome = true)
  unfold replO
  rw [replA_eq]
  cases h1 : rdA.contains x.op with
  | true =>
    obtain ⟨e1, e2, e3⟩ := formA x.op (List.contains_iff_mem.1 h1)
    have hw : ¬ 0 ≤ writesI x := by unfold writesI; rw [if_pos e3]; omega
    rw [e1, e2] at hrd
    rw [rdp1] at hrd
    rw [e1, e2, rdp1, nn hrd.1] at hra
    have hra2 : (∀ s ∈ readsL x, (rd s).isSome = true) ↔ (0 ≤ x.a → (rd x.a).isSome = true) := hra.trans ⟨fun h => h.1, fun h => ⟨h, rdp0 x _⟩⟩
    rw [iteT (and_congr hra2 Iff.rfl)]
    have hI : replI x (fun s => (rd s).getD 0) (fun s => (wr s).getD 0) = ⟨x.op, setR x.a (fun s => (rd s).getD 0), x.b, x.c⟩ := by unfold replI; rw [if_pos h1]
    rw [hI, if_pos (fun h => absurd h hw), if_neg hw, Option.bind_some, if_pos rfl, setO_eq]
    by_cases hc : 0 ≤ x.a → (rd x.a).isSome = true
    · rw [if_pos hc, if_pos ⟨hc, fun h => absurd h hw⟩]; rfl
    · rw [if_neg hc, if_neg (fun h => hc h.1)]; rfl
  | false =>
  cases h2 : rdBC.contains x.op with
  | true =>
    obtain ⟨e1, e2⟩ := formBC x.op (List.contains_iff_mem.1 h2)
    rw [e1, e2, rdp2, rdp3] at hrd
    rw [e1, e2, rdp2, rdp3, nn hrd.1, nn hrd.2] at hra
    rw [iteT (and_congr hra Iff.rfl)]
    have hI : replI x (fun s => (rd s).getD 0) (fun s => (wr s).getD 0) = ⟨x.op, if 0 ≤ writesI x then setR x.a (fun s => (wr s).getD 0) else x.a, setR x.b (fun s => (rd s).getD 0), setR x.c (fun s => (rd s).getD 0)⟩ := by unfold replI; rw [if_neg (by rw [h1]; simp), if_pos h2]
    rw [hI]
    generalize (if 0 ≤ writesI x then setR x.a (fun s => (wr s).getD 0) else x.a) = A
    by_cases hw : 0 ≤ writesI x → (wr (writesI x)).isSome = true
    · rw [if_pos hw, Option.bind_some, if_neg (by simp), if_pos rfl, setO_eq, setO_eq]
      by_cases hb : 0 ≤ x.b → (rd x.b).isSome = true
      · rw [if_pos hb, Option.bind_some]
        by_cases hc : 0 ≤ x.c → (rd x.c).isSome = true
        · rw [if_pos hc, if_pos ⟨⟨hb, hc⟩, hw⟩]; rfl
        · rw [if_neg hc, if_neg (fun h => hc h.1.2)]; rfl
      · rw [if_neg hb, Option.bind_none, if_neg (fun h => hb h.1.1)]
    · rw [if_neg hw, if_neg (fun h => hw h.2)]; rfl
  | false =>
  cases h3 : rdB.contains x.op with
  | true =>
    obtain ⟨e1, e2⟩ := formB x.op (List.contains_iff_mem.1 h3)
    rw [e1, e2, rdp2] at hrd
    rw [e1, e2, rdp2, nn hrd.1] at hra
    have hra2 : (∀ s ∈ readsL x, (rd s).isSome = true) ↔ (0 ≤ x.b → (rd x.b).isSome = true) := hra.trans ⟨fun h => h.1, fun h => ⟨h, rdp0 x _⟩⟩
    rw [iteT (and_congr hra2 Iff.rfl)]
    have hI : replI x (fun s => (rd s).getD 0) (fun s => (wr s).getD 0) = ⟨x.op, if 0 ≤ writesI x then setR x.a (fun s => (wr s).getD 0) else x.a, setR x.b (fun s => (rd s).getD 0), x.c⟩ := by unfold replI; rw [if_neg (by rw [h1]; simp), if_neg (by rw [h2]; simp), if_pos h3]
    rw [hI]
    generalize (if 0 ≤ writesI x then setR x.a (fun s => (wr s).getD 0) else x.a) = A
    by_cases hw : 0 ≤ writesI x → (wr (writesI x)).isSome = true
    · rw [if_pos hw, Option.bind_some, if_neg (by simp), if_neg (by simp), if_pos rfl, setO_eq]
      by_cases hb : 0 ≤ x.b → (rd x.b).isSome = true
      · rw [if_pos hb, if_pos ⟨hb, hw⟩]; rfl
      · rw [if_neg hb, if_neg (fun h => hb h.1)]; rfl
    · rw [if_neg hw, if_neg (fun h => hw h.2)]; rfl
  | false =>
    obtain ⟨e1, e2⟩ := formN hop h1 h2 h3
    have hI : replI x (fun s => (rd s).getD 0) (fun s => (wr s).getD 0) = ⟨x.op, if 0 ≤ writesI x then setR x.a (fun s => (wr s).getD 0) else x.a, x.b, x.c⟩ := by unfold replI; rw [if_neg (by rw [h1]; simp), if_neg (by rw [h2]; simp), if_neg (by rw [h3]; simp)]
    rw [e1, e2] at hra
    have hra2 : (∀ s ∈ readsL x, (rd s).isSome = true) ↔ True := hra.trans ⟨fun _ => trivial, fun _ => ⟨rdp0 x _, rdp0 x _⟩⟩
    rw [hI, iteT (and_congr hra2 Iff.rfl)]
    generalize (if 0 ≤ writesI x then setR x.a (fun s => (wr s).getD 0) else x.a) = A
    by_cases hw : 0 ≤ writesI x → (wr (writesI x)).isSome = true
    · rw [if_pos hw, Option.bind_some, if_neg (by simp), if_neg (by simp), if_neg (by simp), if_pos ⟨trivial, hw⟩]
    · rw [if_neg hw, if_neg (fun h => hw h.2)]; rfl
/-- What is loaded last. -/
theorem lastP_snoc (m : List (Int × Int)) (s v t : Int) : lastP (m ++ [(s, v)]) t = if t = s then some v else lastP m t := by
  unfold lastP
  rw [List.reverse_append, List.reverse_singleton, List.singleton_append, List.find?_cons]
  by_cases h : t = s
  · subst h
    simp
  · rw [if_neg h, show (((s, v) : Int × Int).1 == t) = false by simpa using fun e : s = t => h e.symm]
theorem getM_putM (x v : Int) : ∀ (L : List (Int × Int)) (t : Int), getM (putM x v L) t = if t = x then some v else getM L t := by
  intro L t
  unfold putM getM
  rw [List.find?_cons]
  by_cases h : t = x
  · subst h
    simp
  · rw [if_neg h, show decide (((x, v) : Int × Int).1 = t) = false from decide_eq_false (fun e => h e.symm)]
    congr 1
    induction L with
    | nil => rfl
    | cons p L ih =>
      rw [List.filter_cons]
      by_cases hp : p.1 = x
      · rw [show (!decide (p.1 = x)) = false by simp [hp]]
        rw [List.find?_cons, show decide (p.1 = t) = false from decide_eq_false (fun e => h (e.symm.trans hp))]
        exact ih
      · rw [show (!decide (p.1 = x)) = true by simp [hp], if_pos rfl, List.find?_cons, List.find?_cons]
        by_cases ht : p.1 = t
        · rw [show decide (p.1 = t) = true from decide_eq_true ht]
        · rw [show decide (p.1 = t) = false from decide_eq_false ht]
          exact ih
theorem putM_len (x v : Int) (L : List (Int × Int)) : (putM x v L).length ≤ L.length + 1 := by
  unfold putM
  rw [List.length_cons]
  have := List.length_filter_le (fun p : Int × Int => !decide (p.1 = x)) L
  omega
theorem grpReads_len (code : List InsN) (i j : Nat) : (grpReads code i j).length ≤ 2 * (j + 1 - i) := by
  have h : ∀ (l : List InsN) (acc : List Int), (l.foldl (fun l x => addL l (readsL x)) acc).length ≤ acc.length + 2 * l.length := by
    intro l
    induction l with
    | nil => intro acc; simp
    | cons y l ih =>
      intro acc
      rw [List.foldl_cons]
      refine Nat.le_trans (ih _) ?_
      have h1 := addL_len acc (readsL y)
      have h2 := readsL_len y
      rw [List.length_cons]
      omega
  unfold grpReads
  refine Nat.le_trans (h _ _) ?_
  have := List.length_take_le (j + 1 - i) (code.drop i)
  simp only [List.length_nil]
  omega
/-- What the loads come to. -/
theorem ld_end {v : UntN} {h reads needed had : List Int} {f a : Nat} {m : List (Int × Int)} (hx : v.code[a]? = none) : ldGo v h reads needed (f + 1) a had m = some (a, m) := by
  rw [ldGo, hx]
theorem ld_stop {v : UntN} {h reads needed had : List Int} {f a : Nat} {m : List (Int × Int)} {x : InsN} (hx : v.code[a]? = some x) (ho : x.op ≠ 33) : ldGo v h reads needed (f + 1) a had m = some (a, m) := by
  rw [ldGo, hx]
  exact if_pos ho
theorem ld_more {v : UntN} {h reads needed had : List Int} {f a : Nat} {m : List (Int × Int)} {x : InsN} (hx : v.code[a]? = some x) (ho : x.op = 33) (hd : ldOne v h reads needed x had = true) : ldGo v h reads needed (f + 1) a had m = ldGo v h reads needed f (a + 1) (had ++ [x.a]) (ldPut h reads x m) := by
  rw [ldGo, hx]
  show (if x.op ≠ 33 then _ else _) = _
  rw [if_neg (fun h => h ho), if_pos hd]
theorem ld_none {v : UntN} {h reads needed had : List Int} {f a : Nat} {m : List (Int × Int)} {x : InsN} (hx : v.code[a]? = some x) (ho : x.op = 33) (hd : ldOne v h reads needed x had = false) : ldGo v h reads needed (f + 1) a had m = none := by
  rw [ldGo, hx]
  show (if x.op ≠ 33 then _ else _) = _
  rw [if_neg (fun h => h ho), if_neg (by rw [hd]; simp)]
/-- What the homes of a unit that is checked are. -/
structure HomOk (u v : UntN) (h t : List Int) : Prop where
  hl : (h.length : Int) = u.slots
  tl : t.length = u.code.length
  vs : 1 ≤ v.slots ∧ v.slots ≤ u.slots
  vf : 0 ≤ v.frame ∧ v.frame ≤ 200
  vc : v.code.length ≤ 600
  hb : ∀ s : Int, 0 ≤ s → s < u.slots → -202 ≤ homeN h s ∧ homeN h s ≤ 200
theorem homed_ok {u v : UntN} {h t : List Int} (hw : writB u = true) (hm : homedB u v h t = true) : HomOk u v h t := by
  unfold homedB at hm
  simp only [Bool.and_eq_true, decide_eq_true_eq, beq_iff_eq, List.all_eq_true, List.mem_range] at hm
  obtain ⟨⟨⟨⟨⟨⟨⟨⟨⟨h1, h2⟩, _⟩, _⟩, _⟩, h3⟩, h4⟩, h5⟩, h6⟩, _⟩ := hm
  have hs := writ_args hw
  have e3 : 1 ≤ v.slots ∧ v.slots ≤ u.slots := by unfold inN at h3; simpa using h3
  have e4 : 0 ≤ v.frame ∧ v.frame ≤ 200 := by unfold inN at h4; simpa using h4
  refine ⟨h1, h2, e3, e4, h5, fun s h0 hs2 => ?_⟩
  have hk := h6 s.toNat (by omega)
  unfold homOne at hk
  rw [Bool.and_eq_true] at hk
  have hk := hk.1
  have es : ((s.toNat : Nat) : Int) = s := by omega
  rw [es] at hk
  unfold inN at hk
  simp only [Bool.or_eq_true, Bool.and_eq_true, decide_eq_true_eq, beq_iff_eq] at hk
  omega
end Go.Proofs.YtgalekifgnecjaaGreat
