/- The chapter's example, walked. -/
import Derived.Test.YtgalekifgnecjaaGreatL1
import Derived.Test.YtgalekifgnecjaaGreatT4
import Derived.Test.YtgalekifgnecjaaGreatT7
import Derived.Test.YtgalekifgnecjaaGreatN6
import Derived.Test.YtgalekifgnecjaaGreatT24
namespace Go.Proofs.YtgalekifgnecjaaGreat
open Go.RowKit Go.Shelf
attribute [local go_sem] Oper.semAt_some
theorem ex_many : manyL (colsTo (clashL exU) exU.slots.toNat) = 3 := by decide +kernel
theorem ex_colsI : colsI (clashL exU) exU.slots.toNat = [0, 1, 2, 0] := by decide +kernel
/-- The code of the example with registers. -/
def exCode (u : UntN) (i : Nat) : List InsN := (u.code.set 2 ⟨8, i, 2, 0⟩).set 3 ⟨29, i, 0, 0⟩
/-- A slot of an instruction is turned. -/
theorem code_put {W : World} {g i : Nat} {l : List InsN} (h : RdC W (some ⟨g, 0, none⟩) l) (hi : i < l.length) (v : Int) : RdC (W.setCell ⟨g, i * 4 + 1, none⟩ (.int .i64 v)) (some ⟨g, 0, none⟩) (l.set i { l[i] with a := v }) := by
  intro j hj
  rw [List.length_set] at hj
  obtain ⟨b, off, e, hlt, h0, h1, h2, h3⟩ := h j hj
  cases e
  have hn : ∀ k, k ≠ i * 4 + 1 → (W.setCell ⟨g, i * 4 + 1, none⟩ (.int .i64 v)).cell? ⟨g, k, none⟩ = W.cell? ⟨g, k, none⟩ := fun k hk => World.cell?_setCell_other _ _ _ _ (fun e => hk (by cases e; rfl))
  by_cases e : i = j
  · subst e
    rw [List.getElem_set_self]
    refine ⟨g, 0, rfl, by simpa using hlt, (hn _ (by omega)).trans h0, ?_, (hn _ (by omega)).trans h2, (hn _ (by omega)).trans h3⟩
    rw [Nat.zero_add] at h1 ⊢
    exact World.cell?_setCell_same _ _ _ h1
  · rw [List.getElem_set_ne e]
    exact ⟨g, 0, rfl, by simpa using hlt, (hn _ (by omega)).trans h0, (hn _ (by omega)).trans h1, (hn _ (by omega)).trans h2, (hn _ (by omega)).trans h3⟩
theorem own_code {W : World} {base n : Nat} {v : Value} {l : List InsN} (h : OwnX encC 85 W base v l) (hl : l.length = n) (hn : 0 < n) : ∃ g c cur, v = .slice (some ⟨g, 0, none⟩) n c ∧ n ≤ c ∧ base ≤ g ∧ W.heap[g]? = some (.cells cur 85 (0, 0)) ∧ RdC W (some ⟨g, 0, none⟩) l := by
  obtain ⟨a, cap, rfl, hr, hlc, _⟩ := h.rdB
  obtain ⟨b, off, e, _⟩ := hr 0 (by omega)
  rcases h.2 with ⟨h1, _⟩ | ⟨g, cap2, cur, h1, hg, hh, _⟩
  · rw [e] at h1; cases h1
  · injection h1 with h2 h3 h4
    subst h2
    subst h4
    exact ⟨g, cap, cur, by rw [hl], by omega, hg, hh, rdC_iff.1 hr⟩
theorem ex_put0 {u : UntN} (hu : u = exU) {W : World} {g : Nat} (h : RdC W (some ⟨g, 0, none⟩) u.code) : RdC ((W.setCell ⟨g, 9, none⟩ (.int .i64 0)).setCell ⟨g, 13, none⟩ (.int .i64 0)) (some ⟨g, 0, none⟩) (exCode u 0) := by
  subst hu
  exact code_put (i := 3) (code_put (i := 2) h (by decide) 0) (by decide) 0
theorem ex_put1 {u : UntN} (hu : u = exU) {W : World} {g : Nat} (h : RdC W (some ⟨g, 0, none⟩) (exCode u 0)) : RdC ((W.setCell ⟨g, 9, none⟩ (.int .i64 1)).setCell ⟨g, 13, none⟩ (.int .i64 1)) (some ⟨g, 0, none⟩) (exCode u 1) := by
  subst hu
  exact code_put (i := 3) (code_put (i := 2) h (by decide) 1) (by decide) 1
theorem rdC_a {W : World} {g : Nat} {l : List InsN} (h : RdC W (some ⟨g, 0, none⟩) l) {i : Nat} (hi : i < l.length) : ∃ v, W.cell? ⟨g, i * 4 + 1, none⟩ = some v := by
  obtain ⟨b, off, e, _, _, h1, _⟩ := h i hi
  cases e
  rw [Nat.zero_add] at h1
  exact ⟨_, h1⟩
theorem RdC.setOther {W : World} {g b k : Nat} {v : Value} {l : List InsN} (h : RdC W (some ⟨g, 0, none⟩) l) (hn : g ≠ b) : RdC (W.setCell ⟨b, k, none⟩ v) (some ⟨g, 0, none⟩) l := by
  intro j hj
  obtain ⟨b2, off, e, hlt, h0, h1, h2, h3⟩ := h j hj
  cases e
  have hk : ∀ m, (W.setCell ⟨b, k, none⟩ v).cell? ⟨g, m, none⟩ = W.cell? ⟨g, m, none⟩ := fun m => World.cell?_setCell_other _ _ _ _ (fun e => hn (by cases e; rfl))
  exact ⟨g, 0, rfl, by simpa using hlt, (hk _).trans h0, (hk _).trans h1, (hk _).trans h2, (hk _).trans h3⟩
theorem rdI_row {W : World} {g : Nat} {c : Array Value} {T : TypeId} {l : List Int} (h : W.heap[g]? = some (.cells c T (0, 0))) (hc : ∀ i (hi : i < l.length), c[i]? = some (.int .i64 l[i])) : RdI W (some ⟨g, 0, none⟩) l :=
  fun i hi => ⟨g, 0, rfl, lt_of_heap h, by rw [Nat.zero_add]; exact cell_in h (hc i hi)⟩
theorem rdI4 {W : World} {g : Nat} {T : TypeId} {a b c d : Int} (h : W.heap[g]? = some (.cells #[.int .i64 a, .int .i64 b, .int .i64 c, .int .i64 d] T (0, 0))) : RdI W (some ⟨g, 0, none⟩) [a, b, c, d] :=
  rdI_row h (fun i hi => by
    have hi4 : i < 4 := hi
    match i, hi4 with
    | 0, _ => rfl
    | 1, _ => rfl
    | 2, _ => rfl
    | 3, _ => rfl)
theorem rdI6 {W : World} {g : Nat} {T : TypeId} {a b c d e f : Int} (h : W.heap[g]? = some (.cells #[.int .i64 a, .int .i64 b, .int .i64 c, .int .i64 d, .int .i64 e, .int .i64 f] T (0, 0))) : RdI W (some ⟨g, 0, none⟩) [a, b, c, d, e, f] :=
  rdI_row h (fun i hi => by
    have hi4 : i < 6 := hi
    match i, hi4 with
    | 0, _ => rfl
    | 1, _ => rfl
    | 2, _ => rfl
    | 3, _ => rfl
    | 4, _ => rfl
    | 5, _ => rfl)
theorem rdP4 {W : World} {g : Nat} {T : TypeId} {a b c d e f i j : Int} (h : W.heap[g]? = some (.cells #[.int .i64 a, .int .i64 b, .int .i64 c, .int .i64 d, .int .i64 e, .int .i64 f, .int .i64 i, .int .i64 j] T (0, 0))) : RdX encP W (some ⟨g, 0, none⟩) [(a, b), (c, d), (e, f), (i, j)] := by
  intro k hk
  refine ⟨g, 0, rfl, lt_of_heap h, fun m v hv => ?_⟩
  have hk4 : k < 4 := hk
  have hm : m < 2 := (List.getElem?_eq_some_iff.1 hv).1
  rw [Nat.zero_add]
  refine cell_in h ?_
  match k, hk4, m, hm with
  | 0, _, 0, _ => exact hv
  | 0, _, 1, _ => exact hv
  | 1, _, 0, _ => exact hv
  | 1, _, 1, _ => exact hv
  | 2, _, 0, _ => exact hv
  | 2, _, 1, _ => exact hv
  | 3, _, 0, _ => exact hv
  | 3, _, 1, _ => exact hv
/-- What the example keeps. -/
structure ExI (w : World) (u : UntN) (ca : Option Addr) (cc bu b1 b2 : Nat) (pa la ha ta : Option Addr) (hc tc : Nat) (da ea : Option Addr) (dc ec : Nat) (W : World) : Prop where
  hb : Below w.heap.size w W
  hx : W.heap[bu]? = some (oU u ca cc none 0)
  hm : UnM W u ca cc none 0
  hp : RdX encP W pa [(0, 1), (0, 2), (1, 2), (1, 3)]
  hl : RdI W la [0, 1, 2, 0]
  hh : RdI W ha [0, 1, 2, 3]
  ht : RdI W ta [0, 1, 2, 3, 4, 5]
  hv : W.heap[b1]? = some (.cells #[.string u.cls, .string u.name, .int .i64 u.args, .int .i64 4, .int .i64 u.frame, .slice da 6 dc, .slice ea 0 ec] 25)
  hg : W.heap[b2]? = some (.cells #[.slice ha 4 hc, .slice ta 6 tc] 30)
theorem ExI.below {w : World} {u : UntN} {ca : Option Addr} {cc bu b1 b2 : Nat} {pa la ha ta : Option Addr} {hc tc : Nat} {da ea : Option Addr} {dc ec : Nat} {W W' : World} (h : ExI w u ca cc bu b1 b2 pa la ha ta hc tc da ea dc ec W) (hb : Below W.heap.size W W') : ExI w u ca cc bu b1 b2 pa la ha ta hc tc da ea dc ec W' :=
  ⟨h.hb.step hb, keepBox hb h.hx, h.hm.below hb, h.hp.below hb, h.hl.below hb, h.hh.below hb, h.ht.below hb, keepBox hb h.hv, keepBox hb h.hg⟩
/-- What the example's unit gives. -/
structure ExC (u : UntN) (ca : Option Addr) (cc : Nat) : Prop where
  c24 : ∀ w, UnM w u ca cc none 0 → Calls Tryz.prog 24 #[vU u ca cc none 0] w (RetB (.tuple #[.int .i64 2, .int .i64 0]) w)
  c26 : ∀ w, UnM w u ca cc none 0 → Calls Tryz.prog 26 #[vU u ca cc none 0] w (RetB (.tuple #[.int .i64 3, .int .i64 0]) w)
  c19 : ∀ w, UnM w u ca cc none 0 → Calls Tryz.prog 19 #[vU u ca cc none 0] w fun e w' => Below w.heap.size w w' ∧ ∃ a c, e = .returned (.tuple #[.slice a 4 c, .int .i64 0]) ∧ RdX encP w' a [(0, 1), (0, 2), (1, 2), (1, 3)]
  c20 : ∀ w, UnM w u ca cc none 0 → Calls Tryz.prog 20 #[vU u ca cc none 0] w fun e w' => Below w.heap.size w w' ∧ ∃ a c, e = .returned (.tuple #[.slice a 4 c, .int .i64 3, .int .i64 0]) ∧ RdI w' a [0, 1, 2, 0]
  c13 : ∀ w, UnM w u ca cc none 0 → Calls Tryz.prog 13 #[vU u ca cc none 0, .int .i64 4] w fun e w' => Below w.heap.size w w' ∧ ∃ da dc ea ec ha hc ta tc, e = .returned (.tuple #[.agg #[.string u.cls, .string u.name, .int .i64 u.args, .int .i64 4, .int .i64 u.frame, .slice da 6 dc, .slice ea 0 ec], .agg #[.slice ha 4 hc, .slice ta 6 tc], .int .i64 0]) ∧ RdI w' ha [0, 1, 2, 3] ∧ RdI w' ta [0, 1, 2, 3, 4, 5]
  c13b : ∀ w, UnM w u ca cc none 0 → Calls Tryz.prog 13 #[vU u ca cc none 0, .int .i64 1] w (RetB (.tuple #[.agg #[.string ⟨#[]⟩, .string ⟨#[]⟩, .int .i64 0, .int .i64 0, .int .i64 0, .slice none 0 0, .slice none 0 0], .agg #[.slice none 0 0, .slice none 0 0], .int .i64 14]) w)
  c18 : ∀ (w : World) (i : Nat) (g c gs gt : Nat) (A : Option Addr), i < 2 → 6 ≤ c → A = some ⟨g, 0, none⟩ → UnM w u ca cc none 0 → RdC w A (exCode u i) → RdI w (some ⟨gs, 0, none⟩) [0, 1, 2, (i : Int)] → RdI w (some ⟨gt, 0, none⟩) [0, 1, 2, 3, 4, 5] →
    Calls Tryz.prog 18 #[vU u ca cc none 0, .agg #[.string u.cls, .string u.name, .int .i64 u.args, .int .i64 3, .int .i64 u.frame, .slice A 6 c, .slice none u.guards.length 0], .agg #[.slice (some ⟨gs, 0, none⟩) 4 4, .slice (some ⟨gt, 0, none⟩) 6 6]] w (RetB (.int .i64 (if i = 0 then 0 else 11)) w)
theorem ex_c (ca : Option Addr) (cc : Nat) : ExC exU ca cc := by
  refine ⟨fun w h => ?_, fun w h => ?_, fun w h => ?_, fun w h => ?_, fun w h => ?_, fun w h => ?_, fun w i g c gs gt A hi hcap hA h hc hs ht => ?_⟩
  · have := leastFn_any exU ca cc none 0 w h (by decide) (by decide)
    rwa [if_pos ex_writ, if_pos ex_writ, ex_least] at this
  · have := press_yes exU ca cc none 0 w h (by decide) (by decide) ex_writ
    rwa [ex_press] at this
  · refine (clashesFn_yes exU ca cc none 0 w h (by decide) (by decide) ex_writ).mono ?_
    rintro e w' ⟨hb, v, rfl, ho⟩
    rw [ex_clash] at ho
    obtain ⟨a, c, rfl, hr, _⟩ := ho.rdB
    exact ⟨hb, a, c, rfl, hr⟩
  · refine (colours_yes exU ca cc none 0 w h (by decide) (by decide) ex_writ).mono ?_
    rintro e w' ⟨hb, v, rfl, ho⟩
    rw [ex_colsI] at ho
    rw [ex_many]
    obtain ⟨a, c, rfl, hr⟩ := ho.rd
    exact ⟨hb, a, c, rfl, hr⟩
  · refine (regs_same exU 4 ca cc none 0 w h (by decide) (by decide) ex_writ (by decide) (by decide)).mono ?_
    rintro e w' ⟨hb, da, dc, ea, ec, hs, ats, rfl, h1, h2, h3, h4⟩
    obtain ⟨a1, c1, rfl, hr1⟩ := h3.rd
    obtain ⟨a2, c2, rfl, hr2⟩ := h4.rd
    exact ⟨hb, da, dc, ea, ec, a1, c1, a2, c2, rfl, hr1, hr2⟩
  · exact regs_full exU 1 ca cc none 0 w h (by decide) (by decide) ex_writ (by decide) (by decide) (by decide +kernel)
  · subst hA
    match i, hi with
    | 0, _ =>
      have := checkRegs_any exU exW [0, 1, 2, 0] [0, 1, 2, 3, 4, 5] ca cc none 0 (some ⟨g, 0, none⟩) c none 0 (some ⟨gs, 0, none⟩) 4 (some ⟨gt, 0, none⟩) 6 w h ⟨hc, h.rg, hcap, h.lg⟩ hs ht (by decide) (by decide) (by decide) (by decide) (by decide) (by decide) (by decide) (by decide)
      rwa [ex_one] at this
    | 1, _ =>
      have := checkRegs_any exU exY [0, 1, 2, 1] [0, 1, 2, 3, 4, 5] ca cc none 0 (some ⟨g, 0, none⟩) c none 0 (some ⟨gs, 0, none⟩) 4 (some ⟨gt, 0, none⟩) 6 w h ⟨hc, h.rg, hcap, h.lg⟩ hs ht (by decide) (by decide) (by decide) (by decide) (by decide) (by decide) (by decide) (by decide)
      rwa [ex_two] at this
set_option maxRecDepth 100000 in
set_option maxHeartbeats 8000000 in
theorem sanity_any (w : World) : Calls Tryz.prog 12 #[] w (RetB (.bool true) w) := by
  have HUN := hid (unit_any w)
  go_enter Tryz.func12, Tryz.ntmps12
  go_upto_region 2 with (first
    | (go_at_call 41; (with_reducible refine HUN.out.mono ?_); rintro e w1 ⟨hb, ca, cc, rfl, hm⟩; have HB1 := hid hb; have HM1 := hid hm; have HC := hid (ex_c ca cc); clear hb hm))
  obtain ⟨u, hu⟩ : ∃ u, u = exU := ⟨_, rfl⟩
  have HUE := hid hu
  rw [← hu] at HM1 HC
  rw [← hu]
  have HX := hid (heapn w1 (oU u ca cc none 0) _ rfl)
  have HB := hid (HB1.out.step (bnew w1 (oU u ca cc none 0)))
  have HM := hid (HM1.out.below (bnew w1 (oU u ca cc none 0)))
  have HL := hid HB1.out.size
  clear hu HUN HB1 HM1
  obtain ⟨bu, hbu⟩ : ∃ b, b = w1.heap.size := ⟨_, rfl⟩
  obtain ⟨wa, hwa⟩ : ∃ wa, wa = w1.alloc (oU u ca cc none 0) := ⟨_, rfl⟩
  rw [← hwa, ← hbu] at HX
  rw [← hwa] at HB HM
  rw [← hbu] at HL
  rw [← hbu, ← hwa]
  clear hbu hwa
  obtain ⟨k0, k1, k2, k3, k4, k5, k6⟩ := box7 HX.out
  go_upto_region 3 with (first
    | (go_at_call 24; (with_reducible refine (HC.out.c24 _ HM.out).mono ?_); rintro e w2 ⟨rfl, hb⟩; have HX2 := hid (keepBox hb HX.out); have HB2 := hid (HB.out.step hb); have HM2 := hid (HM.out.below hb); clear hb))
  clear k0 k1 k2 k3 k4 k5 k6 HX HB HM
  obtain ⟨k0, k1, k2, k3, k4, k5, k6⟩ := box7 HX2.out
  go_upto_region 4 with (first
    | (go_at_call 26; (with_reducible refine (HC.out.c26 _ HM2.out).mono ?_); rintro e w3 ⟨rfl, hb⟩; have HX3 := hid (keepBox hb HX2.out); have HB3 := hid (HB2.out.step hb); have HM3 := hid (HM2.out.below hb); clear hb))
  clear k0 k1 k2 k3 k4 k5 k6 HX2 HB2 HM2
  obtain ⟨k0, k1, k2, k3, k4, k5, k6⟩ := box7 HX3.out
  go_upto_region 5 with (first
    | (go_at_call 19; (with_reducible refine (HC.out.c19 _ HM3.out).mono ?_); rintro e w4 ⟨hb, pa, pc, rfl, hp⟩; have HX4 := hid (keepBox hb HX3.out); have HB4 := hid (HB3.out.step hb); have HM4 := hid (HM3.out.below hb); have HP := hid hp; clear hp; clear hb))
  clear k0 k1 k2 k3 k4 k5 k6 HX3 HB3 HM3
  obtain ⟨k0, k1, k2, k3, k4, k5, k6⟩ := box7 HX4.out
  go_upto_region 6 with (first
    | (go_at_call 20; (with_reducible refine (HC.out.c20 _ HM4.out).mono ?_); rintro e w5 ⟨hb, la, lc, rfl, hl⟩; have HX5 := hid (keepBox hb HX4.out); have HB5 := hid (HB4.out.step hb); have HM5 := hid (HM4.out.below hb); have HPn := hid (HP.out.below hb); have HLc := hid hl; clear hl; clear hb))
  clear k0 k1 k2 k3 k4 k5 k6 HX4 HB4 HM4 HP
  have HP := hid HPn.out
  clear HPn
  obtain ⟨k0, k1, k2, k3, k4, k5, k6⟩ := box7 HX5.out
  go_upto_region 7 with (first
    | (go_at_call 13; (with_reducible refine (HC.out.c13 _ HM5.out).mono ?_); rintro e w6 ⟨hb, da, dc, ea, ec, ha, hc, ta, tc, rfl, hh, ht⟩; have HX6 := hid (keepBox hb HX5.out); have HB6 := hid (HB5.out.step hb); have HM6 := hid (HM5.out.below hb); have HPn := hid (HP.out.below hb); have HLcn := hid (HLc.out.below hb); have HH := hid hh; have HT := hid ht; clear hh ht; clear hb))
  clear k0 k1 k2 k3 k4 k5 k6 HX5 HB5 HM5 HP HLc
  have HP := hid HPn.out
  clear HPn
  have HLc := hid HLcn.out
  clear HLcn
  obtain ⟨b1, hb1⟩ : ∃ b, b = w6.heap.size := ⟨_, rfl⟩
  rw [← hb1]
  have HE6 := hid (show ExI w u ca cc bu b1 (b1 + 1) pa la ha ta hc tc da ea dc ec ((w6.alloc (.cells #[.string u.cls, .string u.name, .int .i64 u.args, .int .i64 4, .int .i64 u.frame, .slice da 6 dc, .slice ea 0 ec] 25)).alloc (.cells #[.slice ha 4 hc, .slice ta 6 tc] 30)) from by
    rw [hb1]
    have hb := (bnew w6 (.cells #[.string u.cls, .string u.name, .int .i64 u.args, .int .i64 4, .int .i64 u.frame, .slice da 6 dc, .slice ea 0 ec] 25)).step (bnew _ (.cells #[.slice ha 4 hc, .slice ta 6 tc] 30))
    exact ⟨HB6.out.step hb, keepBox hb HX6.out, HM6.out.below hb, HP.out.below hb, HLc.out.below hb, HH.out.below hb, HT.out.below hb, keepBox (bnew _ _) (heapn _ _ _ rfl), heapn _ _ _ (by simp)⟩)
  clear HX6 HB6 HM6 HP HLc HH HT hb1
  obtain ⟨w7, hw7⟩ : ∃ W, W = (w6.alloc (.cells #[.string u.cls, .string u.name, .int .i64 u.args, .int .i64 4, .int .i64 u.frame, .slice da 6 dc, .slice ea 0 ec] 25)).alloc (.cells #[.slice ha 4 hc, .slice ta 6 tc] 30) := ⟨_, rfl⟩
  rw [← hw7] at HE6
  rw [← hw7]
  clear hw7
  obtain ⟨k0, k1, k2, k3, k4, k5, k6⟩ := box7 HE6.out.hx
  go_upto_region 8 with (first
    | (go_at_call 13; (with_reducible refine (HC.out.c13b _ HE6.out.hm).mono ?_); rintro e w8 ⟨rfl, hb⟩; have HE8 := hid ((HE6.out.below hb).below ((bnew _ (.cells #[.string ⟨#[]⟩, .string ⟨#[]⟩, .int .i64 0, .int .i64 0, .int .i64 0, .slice none 0 0, .slice none 0 0] 25)).step (bnew _ (.cells #[.slice none 0 0, .slice none 0 0] 30)))); clear hb))
  obtain ⟨w9, hw9⟩ : ∃ W, W = (w8.alloc (.cells #[.string ⟨#[]⟩, .string ⟨#[]⟩, .int .i64 0, .int .i64 0, .int .i64 0, .slice none 0 0, .slice none 0 0] 25)).alloc (.cells #[.slice none 0 0, .slice none 0 0] 30) := ⟨_, rfl⟩
  rw [← hw9] at HE8
  clear k0 k1 k2 k3 k4 k5 k6 HE6
  obtain ⟨b7, hb7⟩ : ∃ b, b = w8.heap.size := ⟨_, rfl⟩
  rw [← hw9, ← hb7]
  clear hw9 hb7
  obtain ⟨k0, k1, k2, k3, k4, k5, k6⟩ := box7 HE8.out.hx
  have HQ := hid (heapn w9 (oU u ca cc none 0) _ rfl)
  have HBW := hid (bnew w9 (oU u ca cc none 0))
  go_upto_region 9 with fail
  obtain ⟨w10, hw10⟩ : ∃ W, W = w9.alloc (oU u ca cc none 0) := ⟨_, rfl⟩
  rw [← hw10] at HQ HBW
  rw [← hw10]
  clear hw10 k0 k1 k2 k3 k4 k5 k6
  obtain ⟨q0, q1, q2, q3, q4, q5, q6⟩ := box7 HQ.out
  have f3 := box7F HQ.out 3
  have HQ2 : Hid ((w10.setCell ⟨w9.heap.size, 3, none⟩ (.int .i64 3)).heap[w9.heap.size]? = some (.cells #[.string u.cls, .string u.name, .int .i64 u.args, .int .i64 3, .int .i64 u.frame, .slice ca u.code.length cc, .slice none u.guards.length 0] 25)) := hid (heap_setCell_same _ _ 3 _ _ _ HQ.out)
  have HBW2 := hid (HBW.out.setCell (p := ⟨w9.heap.size, 3, none⟩) (Nat.le_refl _) (.int .i64 3))
  go_upto_region 10 with fail
  obtain ⟨b9, hb9⟩ : ∃ b, b = w9.heap.size := ⟨_, rfl⟩
  rw [← hb9] at HQ2 HBW2
  have HLB := hid (Nat.le_of_eq hb9.symm)
  rw [← hb9]
  obtain ⟨w11, hw11⟩ : ∃ W, W = w10.setCell ⟨b9, 3, none⟩ (.int .i64 3) := ⟨_, rfl⟩
  rw [← hw11] at HQ2 HBW2
  rw [← hw11]
  replace HBW2 := hid (show Below w9.heap.size w9 w11 by rw [← hb9]; exact HBW2.out)
  clear hw11 hb9 q0 q1 q2 q3 q4 q5 q6 f3 HQ HBW
  have HE9 := hid HE8.out
  have HE11 := hid (HE8.out.below HBW2.out)
  clear HE8
  have k5 := (cell_of_row _ _ 5 _ _ _ (keepBox (bnew w11 (.cells #[] 85)) HE11.out.hx)).trans rfl
  have H6 : Hid (u.code.length = 6) := hid (by rw [HUE.out]; rfl)
  have HB9 := hid (lt_of_heap HQ2.out)
  go_upto_region 11 with (first
    | (at_builtin; refine wpList_append_x st22 _ rfl _ _ rfl w11.heap.size _ [] u.code rfl (OwnX.none (Nat.le_refl _) (heapn _ _ _ rfl)) ca cc rfl (rdC_iff.2 (HE11.out.hm.rc.below (bnew _ _))) (by simp [H6.out]) (by simp) ?_; intro v' w12 hown' hgrow hnil; obtain ⟨g, c, cur, rfl, hc6, hgb, hgh, hgr⟩ := own_code hown' (n := 6) (by simpa using H6.out) (by omega); have HGW : Hid ((w11.alloc (.cells #[] 85)).grownBy w12 (some w11.heap.size)) := hid hgrow; have HQ12 := hid (heap_but HGW.out (keepBox (bnew _ _) HQ2.out) (fun e => by have := HB9.out; omega)); have f5 := box7F HQ12.out 5; have q5 : w12.cell? ⟨b9, 5, none⟩ = some (.slice ca u.code.length cc) := (cell_of_row _ _ 5 _ _ _ HQ12.out).trans rfl; have HGB := hid hgb; have HC6 := hid hc6; have HGH := hid hgh; have HGR := hid hgr; clear hown' hgrow hnil hgb hgh hgr hc6))
  have HNG : Hid (b9 < g) := hid (by have := HB9.out; have := HGB.out; omega)
  have HQ13 : Hid ((w12.setCell ⟨b9, 5, none⟩ (.slice (some ⟨g, 0, none⟩) 6 c)).heap[b9]? = some (.cells #[.string u.cls, .string u.name, .int .i64 u.args, .int .i64 3, .int .i64 u.frame, .slice (some ⟨g, 0, none⟩) 6 c, .slice none u.guards.length 0] 25)) := hid (heap_setCell_same _ _ 5 _ _ _ HQ12.out)
  have HB13 : Hid (Below w9.heap.size w9 (w12.setCell ⟨b9, 5, none⟩ (.slice (some ⟨g, 0, none⟩) 6 c))) := hid ((((HBW2.out.step (bnew _ _)).grown HGW.out (HBW2.out.step (bnew _ _)).size (fun r e => by cases e; exact HBW2.out.size))).setCell (p := ⟨b9, 5, none⟩) HLB.out _)
  have HR13 := hid (HGR.out.setOther (b := b9) (k := 5) (v := .slice (some ⟨g, 0, none⟩) 6 c) (by have := HNG.out; omega))
  have HH13 : Hid ((w12.setCell ⟨b9, 5, none⟩ (.slice (some ⟨g, 0, none⟩) 6 c)).heap[g]? = some (.cells cur 85 (0, 0))) := hid ((heap_setCell_other _ _ _ _ (by have := HNG.out; show g ≠ b9; omega)).trans HGH.out)
  obtain ⟨w13, hw13⟩ : ∃ W, W = w12.setCell ⟨b9, 5, none⟩ (.slice (some ⟨g, 0, none⟩) 6 c) := ⟨_, rfl⟩
  rw [← hw13] at HQ13 HB13 HR13 HH13
  rw [← hw13]
  clear hw13 f5 q5 HQ12 HGR HGH HGW HQ2 HBW2 k5
  have HE13 := hid (show ExI w u ca cc bu b1 (b1 + 1) pa la ha ta hc tc da ea dc ec w13 from HE9.out.below HB13.out)
  clear HE11
  have c5 : w13.cell? ⟨b9, 5, none⟩ = some (.slice (some ⟨g, 0, none⟩) 6 c) := (cell_of_row _ _ 5 _ _ _ HQ13.out).trans rfl
  have f9 := box7F HH13.out 9
  obtain ⟨x9, cg9⟩ : ∃ v, w13.cell? ⟨g, 9, none⟩ = some v := rdC_a (i := 2) HR13.out (by simp [H6.out])
  obtain ⟨x13, cg13⟩ : ∃ v, w13.cell? ⟨g, 13, none⟩ = some v := rdC_a (i := 3) HR13.out (by simp [H6.out])
  have HGL : Hid (w9.heap.size ≤ g) := hid (Nat.le_of_lt (Nat.lt_of_le_of_lt HLB.out HNG.out))
  go_upto_region 12 with fail
  have c5b : (w13.setCell ⟨g, 9, none⟩ (.int .i64 0)).cell? ⟨b9, 5, none⟩ = some (.slice (some ⟨g, 0, none⟩) 6 c) := (World.cell?_setCell_other _ _ _ _ (by simp)).trans c5
  have cg13b : (w13.setCell ⟨g, 9, none⟩ (.int .i64 0)).cell? ⟨g, 13, none⟩ = some x13 := (World.cell?_setCell_other _ _ _ _ (by simp)).trans cg13
  have f13 := box7F (heap_setCell_same w13 g 9 _ _ (.int .i64 0) HH13.out) 13
  go_upto_region 13 with fail
  have HR15 := hid (ex_put0 HUE.out (W := w13) (g := g) HR13.out)
  have HB15 := hid ((HB13.out.setCell (p := ⟨g, 9, none⟩) HGL.out (.int .i64 0)).setCell (p := ⟨g, 13, none⟩) HGL.out (.int .i64 0))
  have HQ15 : Hid (((w13.setCell ⟨g, 9, none⟩ (.int .i64 0)).setCell ⟨g, 13, none⟩ (.int .i64 0)).heap[b9]? = some (.cells #[.string u.cls, .string u.name, .int .i64 u.args, .int .i64 3, .int .i64 u.frame, .slice (some ⟨g, 0, none⟩) 6 c, .slice none u.guards.length 0] 25)) := hid ((heap_setCell_other _ _ _ _ (by have := HNG.out; show b9 ≠ g; omega)).trans ((heap_setCell_other _ _ _ _ (by have := HNG.out; show b9 ≠ g; omega)).trans HQ13.out))
  obtain ⟨w15, hw15⟩ : ∃ W, W = (w13.setCell ⟨g, 9, none⟩ (.int .i64 0)).setCell ⟨g, 13, none⟩ (.int .i64 0) := ⟨_, rfl⟩
  rw [← hw15] at HR15 HB15 HQ15
  rw [← hw15]
  clear hw15 f9 f13 cg9 cg13 cg13b c5 c5b HH13 HR13 HB13 HQ13 HE13
  go_upto_region 14 with fail
  have HT16 := hid (rdI6 (heapn w15 (.cells #[.int .i64 0, .int .i64 1, .int .i64 2, .int .i64 3, .int .i64 4, .int .i64 5] 3) _ rfl))
  have HBN := hid (bnew w15 (.cells #[.int .i64 0, .int .i64 1, .int .i64 2, .int .i64 3, .int .i64 4, .int .i64 5] 3))
  obtain ⟨bt, hbt⟩ : ∃ b, b = w15.heap.size := ⟨_, rfl⟩
  obtain ⟨w16, hw16⟩ : ∃ W, W = w15.alloc (.cells #[.int .i64 0, .int .i64 1, .int .i64 2, .int .i64 3, .int .i64 4, .int .i64 5] 3) := ⟨_, rfl⟩
  rw [← hw16] at HBN
  rw [← hw16, ← hbt] at HT16
  rw [← hbt, ← hw16]
  clear hw16 hbt
  have HR16 := hid (HR15.out.below HBN.out)
  have HB16 := hid (HB15.out.step HBN.out)
  have HQ16 := hid (keepBox HBN.out HQ15.out)
  have HE16 := hid (HE9.out.below HB16.out)
  clear HR15 HB15 HQ15 HBN
  obtain ⟨k0, k1, k2, k3, k4, k5, k6⟩ := box7 HE16.out.hx
  obtain ⟨q0, q1, q2, q3, q4, q5, q6⟩ := box7 HQ16.out
  have HS18 : Hid (Calls Tryz.prog 18 #[vU u ca cc none 0, .agg #[.string u.cls, .string u.name, .int .i64 u.args, .int .i64 3, .int .i64 u.frame, .slice (some ⟨g, 0, none⟩) 6 c, .slice none u.guards.length 0], .agg #[.slice (some ⟨w16.heap.size, 0, none⟩) 4 4, .slice (some ⟨bt, 0, none⟩) 6 6]] (w16.alloc (.cells #[.int .i64 0, .int .i64 1, .int .i64 2, .int .i64 0] 3)) (RetB (.int .i64 0) (w16.alloc (.cells #[.int .i64 0, .int .i64 1, .int .i64 2, .int .i64 0] 3)))) :=
    hid (HC.out.c18 _ 0 g c w16.heap.size bt (some ⟨g, 0, none⟩) (by decide) HC6.out rfl (HE16.out.hm.below (bnew _ _)) (HR16.out.below (bnew _ _)) (rdI4 (heapn _ _ _ rfl)) (HT16.out.below (bnew _ _)))
  go_upto_region 15 with (first
    | (go_at_call 18; (with_reducible refine HS18.out.mono ?_); rintro e w17 ⟨rfl, hb⟩; have HBN := hid ((bnew w16 (.cells #[.int .i64 0, .int .i64 1, .int .i64 2, .int .i64 0] 3)).step hb); clear hb))
  have HR17 := hid (HR16.out.below HBN.out)
  have HB17 := hid (HB16.out.step HBN.out)
  have HQ17 := hid (keepBox HBN.out HQ16.out)
  have HE17 := hid (HE16.out.below HBN.out)
  have HT17 := hid (HT16.out.below HBN.out)
  clear k0 k1 k2 k3 k4 k5 k6 q0 q1 q2 q3 q4 q5 q6 HS18 HR16 HB16 HQ16 HE16 HT16 HBN HE9 HB9 HLB HGL HGB HNG
  obtain ⟨q0, q1, q2, q3, q4, q5, q6⟩ := box7 HQ17.out
  go_upto_region 16 with fail
  have HY18 := hid (heapn w17 (.cells #[.string u.cls, .string u.name, .int .i64 u.args, .int .i64 3, .int .i64 u.frame, .slice (some ⟨g, 0, none⟩) 6 c, .slice none u.guards.length 0] 25) _ rfl)
  have HBN := hid (bnew w17 (.cells #[.string u.cls, .string u.name, .int .i64 u.args, .int .i64 3, .int .i64 u.frame, .slice (some ⟨g, 0, none⟩) 6 c, .slice none u.guards.length 0] 25))
  obtain ⟨by', hby⟩ : ∃ b, b = w17.heap.size := ⟨_, rfl⟩
  obtain ⟨w18, hw18⟩ : ∃ W, W = w17.alloc (.cells #[.string u.cls, .string u.name, .int .i64 u.args, .int .i64 3, .int .i64 u.frame, .slice (some ⟨g, 0, none⟩) 6 c, .slice none u.guards.length 0] 25) := ⟨_, rfl⟩
  rw [← hw18] at HBN
  rw [← hw18, ← hby] at HY18
  rw [← hby, ← hw18]
  have HLY := hid (Nat.le_of_eq hby.symm)
  clear hw18 hby q0 q1 q2 q3 q4 q5 q6
  have HR18 := hid (HR17.out.below HBN.out)
  have HQ18 := hid (keepBox HBN.out HQ17.out)
  have HBY := hid (lt_of_heap HY18.out)
  have q5 : (w18.alloc (.cells #[] 85)).cell? ⟨b9, 5, none⟩ = some (.slice (some ⟨g, 0, none⟩) 6 c) := (cell_of_row _ _ 5 _ _ _ (keepBox (bnew _ _) HQ18.out)).trans rfl
  have HXL : Hid ((exCode u 0).length = 6) := hid (by rw [HUE.out]; rfl)
  go_upto_region 17 with (first
    | (at_builtin; refine wpList_append_x st22 _ rfl _ _ rfl w18.heap.size _ [] (exCode u 0) rfl (OwnX.none (Nat.le_refl _) (heapn _ _ _ rfl)) (some ⟨g, 0, none⟩) c (Eq.trans rfl (congrArg (fun n => Value.slice (some ⟨g, 0, none⟩) n c) HXL.out.symm)) (rdC_iff.2 (HR18.out.below (bnew _ _))) (by simp [HXL.out]) (by simp) ?_; intro v' w19 hown' hgrow hnil; obtain ⟨g2, cz, cur2, rfl, hc6, hgb, hgh, hgr⟩ := own_code hown' (n := 6) (by simpa using HXL.out) (by omega); have HGW2 : Hid ((w18.alloc (.cells #[] 85)).grownBy w19 (some w18.heap.size)) := hid hgrow; have HY19 := hid (heap_but HGW2.out (keepBox (bnew _ _) HY18.out) (fun e => by have := HBY.out; omega)); have f5 := box7F HY19.out 5; have q5' : w19.cell? ⟨by', 5, none⟩ = some (.slice (some ⟨g, 0, none⟩) 6 c) := (cell_of_row _ _ 5 _ _ _ HY19.out).trans rfl; have HGB2 := hid hgb; have HC62 := hid hc6; have HGH2 := hid hgh; have HGR2 := hid hgr; clear hown' hgrow hnil hgb hgh hgr hc6))
  have HNG2 : Hid (by' < g2) := hid (by have := HBY.out; have := HGB2.out; omega)
  have HY20 : Hid ((w19.setCell ⟨by', 5, none⟩ (.slice (some ⟨g2, 0, none⟩) 6 cz)).heap[by']? = some (.cells #[.string u.cls, .string u.name, .int .i64 u.args, .int .i64 3, .int .i64 u.frame, .slice (some ⟨g2, 0, none⟩) 6 cz, .slice none u.guards.length 0] 25)) := hid (heap_setCell_same _ _ 5 _ _ _ HY19.out)
  have HB20 : Hid (Below w17.heap.size w17 (w19.setCell ⟨by', 5, none⟩ (.slice (some ⟨g2, 0, none⟩) 6 cz))) := hid ((((HBN.out.step (bnew _ _)).grown HGW2.out (HBN.out.step (bnew _ _)).size (fun r e => by cases e; exact HBN.out.size))).setCell (p := ⟨by', 5, none⟩) HLY.out _)
  have HR20 := hid (HGR2.out.setOther (b := by') (k := 5) (v := .slice (some ⟨g2, 0, none⟩) 6 cz) (by have := HNG2.out; omega))
  have HH20 : Hid ((w19.setCell ⟨by', 5, none⟩ (.slice (some ⟨g2, 0, none⟩) 6 cz)).heap[g2]? = some (.cells cur2 85 (0, 0))) := hid ((heap_setCell_other _ _ _ _ (by have := HNG2.out; show g2 ≠ by'; omega)).trans HGH2.out)
  obtain ⟨w20, hw20⟩ : ∃ W, W = w19.setCell ⟨by', 5, none⟩ (.slice (some ⟨g2, 0, none⟩) 6 cz) := ⟨_, rfl⟩
  rw [← hw20] at HY20 HB20 HR20 HH20
  rw [← hw20]
  clear hw20 f5 q5' q5 HY19 HGR2 HGH2 HGW2 HY18 HR18 HQ18 HQ17 HR17
  have c5 : w20.cell? ⟨by', 5, none⟩ = some (.slice (some ⟨g2, 0, none⟩) 6 cz) := (cell_of_row _ _ 5 _ _ _ HY20.out).trans rfl
  have f9 := box7F HH20.out 9
  obtain ⟨z9, cg9⟩ : ∃ v, w20.cell? ⟨g2, 9, none⟩ = some v := rdC_a (i := 2) HR20.out (by simp [HXL.out])
  obtain ⟨z13, cg13⟩ : ∃ v, w20.cell? ⟨g2, 13, none⟩ = some v := rdC_a (i := 3) HR20.out (by simp [HXL.out])
  have HGL2 : Hid (w17.heap.size ≤ g2) := hid (Nat.le_of_lt (Nat.lt_of_le_of_lt HLY.out HNG2.out))
  go_upto_region 18 with fail
  have c5b : (w20.setCell ⟨g2, 9, none⟩ (.int .i64 1)).cell? ⟨by', 5, none⟩ = some (.slice (some ⟨g2, 0, none⟩) 6 cz) := (World.cell?_setCell_other _ _ _ _ (by simp)).trans c5
  have cg13b : (w20.setCell ⟨g2, 9, none⟩ (.int .i64 1)).cell? ⟨g2, 13, none⟩ = some z13 := (World.cell?_setCell_other _ _ _ _ (by simp)).trans cg13
  have f13 := box7F (heap_setCell_same w20 g2 9 _ _ (.int .i64 1) HH20.out) 13
  go_upto_region 19 with fail
  have HR22 := hid (ex_put1 HUE.out (W := w20) (g := g2) HR20.out)
  have HB22 := hid ((HB20.out.setCell (p := ⟨g2, 9, none⟩) HGL2.out (.int .i64 1)).setCell (p := ⟨g2, 13, none⟩) HGL2.out (.int .i64 1))
  have HY22 : Hid (((w20.setCell ⟨g2, 9, none⟩ (.int .i64 1)).setCell ⟨g2, 13, none⟩ (.int .i64 1)).heap[by']? = some (.cells #[.string u.cls, .string u.name, .int .i64 u.args, .int .i64 3, .int .i64 u.frame, .slice (some ⟨g2, 0, none⟩) 6 cz, .slice none u.guards.length 0] 25)) := hid ((heap_setCell_other _ _ _ _ (by have := HNG2.out; show by' ≠ g2; omega)).trans ((heap_setCell_other _ _ _ _ (by have := HNG2.out; show by' ≠ g2; omega)).trans HY20.out))
  obtain ⟨w22, hw22⟩ : ∃ W, W = (w20.setCell ⟨g2, 9, none⟩ (.int .i64 1)).setCell ⟨g2, 13, none⟩ (.int .i64 1) := ⟨_, rfl⟩
  rw [← hw22] at HR22 HB22 HY22
  rw [← hw22]
  clear hw22 f9 f13 cg9 cg13 cg13b c5 c5b HH20 HR20 HB20 HY20
  have HE22 := hid (HE17.out.below HB22.out)
  have HT22 := hid (HT17.out.below HB22.out)
  clear HE17 HT17
  obtain ⟨k0, k1, k2, k3, k4, k5, k6⟩ := box7 HE22.out.hx
  obtain ⟨q0, q1, q2, q3, q4, q5, q6⟩ := box7 HY22.out
  have HS19 : Hid (Calls Tryz.prog 18 #[vU u ca cc none 0, .agg #[.string u.cls, .string u.name, .int .i64 u.args, .int .i64 3, .int .i64 u.frame, .slice (some ⟨g2, 0, none⟩) 6 cz, .slice none u.guards.length 0], .agg #[.slice (some ⟨w22.heap.size, 0, none⟩) 4 4, .slice (some ⟨bt, 0, none⟩) 6 6]] (w22.alloc (.cells #[.int .i64 0, .int .i64 1, .int .i64 2, .int .i64 1] 3)) (RetB (.int .i64 11) (w22.alloc (.cells #[.int .i64 0, .int .i64 1, .int .i64 2, .int .i64 1] 3)))) :=
    hid (HC.out.c18 _ 1 g2 cz w22.heap.size bt (some ⟨g2, 0, none⟩) (by decide) HC62.out rfl (HE22.out.hm.below (bnew _ _)) (HR22.out.below (bnew _ _)) (rdI4 (heapn _ _ _ rfl)) (HT22.out.below (bnew _ _)))
  go_upto_region 20 with (first
    | (go_at_call 18; (with_reducible refine HS19.out.mono ?_); rintro e w23 ⟨rfl, hb⟩; have HBM := hid ((bnew w22 (.cells #[.int .i64 0, .int .i64 1, .int .i64 2, .int .i64 1] 3)).step hb); clear hb))
  clear k0 k1 k2 k3 k4 k5 k6 q0 q1 q2 q3 q4 q5 q6 HS19 HR22 HY22
  have HE23 := hid (HE22.out.below HBM.out)
  have HT23 := hid (HT22.out.below HBM.out)
  clear HE22 HT22 HBM HB22 HBN HBY HXL HGB2 HC62 HNG2 HGL2 HLY HC HUE H6 HL HC6
  go_upto_region 22 with fail
  have HS35 : Hid (Calls Tryz.prog 35 #[.slice pa 4 pc, .slice (some ⟨w23.heap.size, 0, none⟩) 4 4] (w23.alloc (.cells #[.int .i64 0, .int .i64 1, .int .i64 0, .int .i64 2, .int .i64 1, .int .i64 2, .int .i64 1, .int .i64 3] 48)) (RetB (.bool true) (w23.alloc (.cells #[.int .i64 0, .int .i64 1, .int .i64 0, .int .i64 2, .int .i64 1, .int .i64 2, .int .i64 1, .int .i64 3] 48)))) :=
    hid (sameP_any [(0, 1), (0, 2), (1, 2), (1, 3)] [(0, 1), (0, 2), (1, 2), (1, 3)] pa (some ⟨w23.heap.size, 0, none⟩) pc 4 _ (HE23.out.hp.below (bnew _ _)) (rdP4 (heapn _ _ _ rfl)) (by decide) (by decide))
  have HSL : Hid (∀ W, RdI W la [0, 1, 2, 0] → Calls Tryz.prog 34 #[.slice la 4 lc, .slice (some ⟨W.heap.size, 0, none⟩) 4 4] (W.alloc (.cells #[.int .i64 0, .int .i64 1, .int .i64 2, .int .i64 0] 3)) (RetB (.bool true) (W.alloc (.cells #[.int .i64 0, .int .i64 1, .int .i64 2, .int .i64 0] 3)))) :=
    hid (fun W h => sameI_any [0, 1, 2, 0] [0, 1, 2, 0] la (some ⟨W.heap.size, 0, none⟩) lc 4 _ (h.below (bnew _ _)) (rdI4 (heapn _ _ _ rfl)) (by decide) (by decide))
  have HSH : Hid (∀ W, RdI W ha [0, 1, 2, 3] → Calls Tryz.prog 34 #[.slice ha 4 hc, .slice (some ⟨W.heap.size, 0, none⟩) 4 4] (W.alloc (.cells #[.int .i64 0, .int .i64 1, .int .i64 2, .int .i64 3] 3)) (RetB (.bool true) (W.alloc (.cells #[.int .i64 0, .int .i64 1, .int .i64 2, .int .i64 3] 3)))) :=
    hid (fun W h => sameI_any [0, 1, 2, 3] [0, 1, 2, 3] ha (some ⟨W.heap.size, 0, none⟩) hc 4 _ (h.below (bnew _ _)) (rdI4 (heapn _ _ _ rfl)) (by decide) (by decide))
  have HST : Hid (∀ W, RdI W ta [0, 1, 2, 3, 4, 5] → RdI W (some ⟨bt, 0, none⟩) [0, 1, 2, 3, 4, 5] → Calls Tryz.prog 34 #[.slice ta 6 tc, .slice (some ⟨bt, 0, none⟩) 6 6] W (RetB (.bool true) W)) :=
    hid (fun W h h2 => sameI_any [0, 1, 2, 3, 4, 5] [0, 1, 2, 3, 4, 5] ta (some ⟨bt, 0, none⟩) tc 6 _ h h2 (by decide) (by decide))
  go_upto_region 23 with (first
    | (go_at_call 35; (with_reducible refine HS35.out.mono ?_); rintro e wa ⟨rfl, hb⟩; have HEa := hid (HE23.out.below ((bnew _ _).step hb)); have HTa := hid (HT23.out.below ((bnew _ _).step hb)); clear hb)
    | (go_at_call 34; (with_reducible refine (HSL.out wa HEa.out.hl).mono ?_); rintro e wb ⟨rfl, hb⟩; have HEb := hid (HEa.out.below ((bnew _ _).step hb)); have HTb := hid (HTa.out.below ((bnew _ _).step hb)); have g0 : wb.cell? ⟨b1 + 1, 0, none⟩ = some (.slice ha 4 hc) := (cell_of_row _ _ 0 _ _ _ HEb.out.hg).trans rfl; clear hb)
    | (go_at_call 34; (with_reducible refine (HSH.out wb HEb.out.hh).mono ?_); rintro e wc ⟨rfl, hb⟩; have HEc := hid (HEb.out.below ((bnew _ _).step hb)); have HTc := hid (HTb.out.below ((bnew _ _).step hb)); have g1 : wc.cell? ⟨b1 + 1, 1, none⟩ = some (.slice ta 6 tc) := (cell_of_row _ _ 1 _ _ _ HEc.out.hg).trans rfl; clear hb)
    | (go_at_call 34; (with_reducible refine (HST.out wc HEc.out.ht HTc.out).mono ?_); rintro e wd ⟨rfl, hb⟩; have HEd := hid (HEc.out.below hb); have g3 : wd.cell? ⟨b1, 3, none⟩ = some (.int .i64 4) := (cell_of_row _ _ 3 _ _ _ HEd.out.hv).trans rfl; have g5 : wd.cell? ⟨b1, 5, none⟩ = some (.slice da 6 dc) := (cell_of_row _ _ 5 _ _ _ HEd.out.hv).trans rfl; clear hb))
  go_wp2
  go_ret
  exact ⟨rfl, HEd.out.hb⟩
end Go.Proofs.YtgalekifgnecjaaGreat
