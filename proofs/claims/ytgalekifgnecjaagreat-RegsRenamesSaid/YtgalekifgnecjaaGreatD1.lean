/- A loop over an iterator that hands facts on with each element, and whose round may panic; a walk at one function's frames. -/
import Derived.Test.YtgalekifgnecjaaGreatB4
namespace Go.Proofs.YtgalekifgnecjaaGreat
open Go.RowKit Go.Shelf

section
variable {P : Program} {f n : Nat} {Q : Exit → Act → World → Prop} {a : Act} {w : World}
/-- A piece of code, walked at the frames of function f alone. -/
def WpAt (P : Program) (f _n : Nat) (c : Code) (Q : Exit → Act → World → Prop) (a : Act) (w : World) : Prop :=
  ∀ (b : Frame) (k : List Item) (cs : List Frame), b.fn = f → b.roundOf = none →
    ∃ e a' w', Q e a' w' ∧ ArrivesIn (Machine.fenced P Fence.wide) P (lone (b.atR a (.code c :: k)) cs w) b k cs e a' w'
theorem WpAt.of {c : Code} (h : c.wpIn Fence.wide n P Q a w) : WpAt P f n c Q a w := fun b k cs _ hr => h b k cs hr trivial (room_wide _)
theorem WpAt.seq {x y : Code} (h : WpAt P f n x (Exit.then (WpAt P f n y Q) Q) a w) : WpAt P f n (.seq x y) Q a w := by
  intro b k cs hb hr
  obtain ⟨e, a1, w1, hq, harr⟩ := h b (.code y :: k) cs hb hr
  have s0 := fun m (hm : step P (lone (b.atR a (.code (.seq x y) :: k)) cs w) = .next m) => StepsIn.one (I := Machine.fenced P Fence.wide) (fenced_wide P _) hm
  cases e with
  | normal =>
    obtain ⟨e2, a2, w2, hq2, harr2⟩ := hq b k cs hb hr
    exact ⟨e2, a2, w2, hq2, .of_steps (.trans (s0 _ stepR_seq) harr) harr2⟩
  | _ => exact ⟨_, a1, w1, hq, .of_steps (s0 _ stepR_seq) (.pass (x := .code y) rfl (fun _ _ => .inl (by simp)) harr)⟩
/-- A block that is left by its end, by return or by panic. -/
def noJump (Q : Exit → Act → World → Prop) : Exit → Act → World → Prop
  | .exit _, _, _ => False
  | .goto _, _, _ => False
  | e, a, w => Q e a w
theorem WpAt.block {id : Nat} {c : Code} (h : WpAt P f n c (noJump Q) a w) : WpAt P f n (.block id c) Q a w := by
  intro b k cs hb hr
  obtain ⟨e, a1, w1, hq, harr⟩ := h b (.inBlock id :: k) cs hb hr
  have s0 : StepsIn (Machine.fenced P Fence.wide) P (lone (b.atR a (.code (.block id c) :: k)) cs w) (lone (b.atR a (.code c :: .inBlock id :: k)) cs w) := .one (fenced_wide P _) stepR_block
  cases e with
  | normal => exact ⟨.normal, a1, w1, hq, .trans s0 (.trans harr (.one (fenced_wide P _) stepR_inBlock))⟩
  | exit id' => exact hq.elim
  | goto l => exact hq.elim
  | ret => exact ⟨_, a1, w1, hq, .of_steps s0 harr⟩
  | panic ch => exact ⟨_, a1, w1, hq, .of_steps s0 harr⟩
  | outgrown => exact ⟨_, a1, w1, hq, .of_steps s0 harr⟩
theorem WpAt.mono {c : Code} {Q' : Exit → Act → World → Prop} (h : WpAt P f n c Q a w) (hq : ∀ e a w, Q e a w → Q' e a w) : WpAt P f n c Q' a w :=
  fun b k cs hb hr => let ⟨e, a', w', q, r⟩ := h b k cs hb hr; ⟨e, a', w', hq _ _ _ q, r⟩
/-- A function's contract from its body, walked at its own frames. -/
theorem callsIn_of_wpAt {fn : Func} {c : Code} {args : Array Value} {R : Ending → World → Prop} (hf : P.funcs[f]? = some fn) (hb : fn.body = some c)
    (h : WpAt P f n c (bodyPostM Fence.wide n P fn R) { tmps := args ++ Array.replicate (fn.ntmps - args.size) undef, defers := [] } w) : CallsIn Fence.wide n P f args w R := by
  refine ⟨trivial, fun cs hr => ?_⟩
  let b : Frame := { (default : Frame) with fn := f, kind := .normal, roundOf := none }
  have henter : Frame.enter P f args .normal = b.atR { tmps := args ++ Array.replicate (fn.ntmps - args.size) undef, defers := [] } [.code c] := by
    simp [Frame.enter, Frame.atR, hf, hb, b]
  obtain ⟨e, a', w', hq, harr⟩ := h b [] cs rfl rfl
  rw [← henter] at harr
  cases e with
  | normal =>
    obtain ⟨e', w'', fr', hR, hs, hfn, hl⟩ := leaves_stepsInM a'.defers .returning w' { b.atR a' [] with mode := .returning } cs rfl rfl rfl hf rfl trivial hr hq
    exact ⟨e', w'', fr', hR, ComesIn.of_steps (StepsIn.trans harr (.one (fenced_wide P _) (stepR_end rfl))) hs, hfn, hl⟩
  | ret =>
    obtain ⟨todo, hs0⟩ := harr.1 rfl
    obtain ⟨e', w'', fr', hR, hs, hfn, hl⟩ := leaves_stepsInM a'.defers .returning w' { b.atR a' todo with mode := .returning } cs rfl rfl rfl hf rfl trivial hr hq
    exact ⟨e', w'', fr', hR, ComesIn.of_steps hs0 hs, hfn, hl⟩
  | panic chain =>
    obtain ⟨todo, hs0⟩ := harr
    obtain ⟨e', w'', fr', hR, hs, hfn, hl⟩ := leaves_stepsInM a'.defers (.panicking chain) w' { b.atR a' todo with mode := .panicking chain } cs rfl rfl rfl hf rfl trivial hr hq
    exact ⟨e', w'', fr', hR, ComesIn.of_steps hs0 hs, hfn, hl⟩
  | exit id => exact hq.elim
  | goto l => exact hq.elim
  | outgrown => exact ⟨.outgrown, w', b, hq, harr.resolve_left (by simp [b]), rfl, trivial⟩
/-- How a round is left: off its end, or by a panic. -/
def roundPostP (P : Program) (l : Nat) (R : Ending → World → Prop) : Exit → Act → World → Prop
  | .normal, _, w => ∃ v w', (Instr.endRound l none).run P w = .ok v w' ∧ R (.returned v) w'
  | .panic ch, a, w => a.defers = [] ∧ R (.panicked ch) w
  | _, _, _ => False
theorem roundIn_panics {l g : Nat} {fn : Func} {tmps : Array Value} {assign body : Code} {R : Ending → World → Prop} (hf : P.funcs[g]? = some fn)
    (h : assign.wpIn (Fence.wide.inRound l) n P (Exit.then (fun a1 w1 => ∃ w2, (Instr.beginRound l).run P w1 = .ok () w2 ∧ body.wpIn (Fence.wide.inRound l) n P (roundPostP P l R) a1 w2) (fun _ _ _ => False)) { tmps := tmps, defers := [] } w) :
    RoundIn Fence.wide n P l g tmps assign body w R := by
  refine ⟨trivial, fun c cs hr => ?_⟩
  let b : Frame := { (default : Frame) with fn := g, kind := .normal, roundOf := some l }
  have hb0 : Frame.round l g tmps assign body .normal = b.atR { tmps := tmps, defers := [] } [.code assign, .beginRound, .code body] := by
    simp [Frame.round, Frame.atR, b]
  have hr' : (Fence.wide.inRound l).room ((c :: cs).length + 1 + n) := hr
  have hF' : (Fence.wide.inRound l).fn b.fn := trivial
  obtain ⟨e, a1, w1, hq, harr⟩ := h b [.beginRound, .code body] (c :: cs) rfl hF' hr'
  rw [← hb0] at harr
  cases e with
  | normal =>
    obtain ⟨w2, hbr, hbody⟩ := hq
    have s1 : StepsIn (Machine.fenced P (Fence.wide.inRound l)) P (lone (b.atR a1 [.beginRound, .code body]) (c :: cs) w1) (lone (b.atR a1 [.code body]) (c :: cs) w2) :=
      .one (fenced_calm (fr := b.atR a1 [.beginRound, .code body]) hF' hr' rfl) (stepR_beginRound rfl hbr)
    obtain ⟨e2, a2, w3, hq2, harr2⟩ := hbody b [] (c :: cs) rfl hF' hr'
    cases e2 with
    | normal =>
      obtain ⟨v, w4, hend, hR⟩ := hq2
      exact ⟨.returned v, w4, hR, (StepsIn.trans harr s1).trans (StepsIn.trans harr2 (.one (fenced_calm (fr := b.atR a2 []) hF' hr' rfl) (stepR_round_end rfl rfl hend)))⟩
    | panic ch =>
      obtain ⟨hd, hR⟩ := hq2
      obtain ⟨todo, hs⟩ := harr2
      exact ⟨.panicked ch, w3, hR, (StepsIn.trans harr s1).trans (StepsIn.trans hs (.one (fenced_wide P _) (step_leave_panicked ⟨rfl, hd, fn, hf⟩)))⟩
    | _ => exact hq2.elim
  | _ => exact hq.elim
/-- How the body of a round may be left. -/
def ownPostP {α : Type} (B : Nat) (Kp : World → World → Prop) (I : List α → World → Prop) (Ip : List PanicEntry → List α → World → Prop) (xs : List α) (W : World) : Exit → Act → World → Prop
  | .normal, _, W' => KeepsFrom B W W' ∧ Kp W W' ∧ I xs W'
  | .panic ch, a, W' => a.defers = [] ∧ KeepsFrom B W W' ∧ Ip ch xs W'
  | _, _, _ => False
/-- The contract of an iterator: each element comes with a fact of the world; a round may panic. -/
def SeqG {α : Type} (n : Nat) (P : Program) (g : Nat) (lb : Array Value) (encs : α → Array Value) (Fact : α → World → Prop) (Kp : World → World → Prop) (S Sp : List α → Prop) (w : World) : Prop :=
  ∀ (l : Nat) (J : List α → World → Prop) (Jp : List PanicEntry → List α → World → Prop) (W : World), Below w.heap.size w W → AbidesFrom W.heap.size J →
    (∀ pre x W1, J pre W1 → Sp (pre ++ [x]) → Fact x W1 → YieldAt Fence.wide (n - 1) P l (encs x) W1 fun e W' => (e = .returned (.bool true) ∧ J (pre ++ [x]) W' ∧ Kp W1 W') ∨ ∃ ch, e = .panicked ch ∧ Jp ch (pre ++ [x]) W') →
    J [] W →
    CallsIn Fence.wide n P g (#[.func (.yield l) #[] #[]] ++ lb) W fun e W' => ((∃ v, e = .returned v) ∧ ∃ xs, S xs ∧ J xs W') ∨ ∃ ch pre, e = .panicked ch ∧ Sp pre ∧ Jp ch pre W'
theorem wpAt_range {α : Type} {g : Operand} {ps : Array Tmp} {assign body : Code} {fn : Func} (hf : P.funcs[f]? = some fn)
    (_h1 : 1 ≤ n) {gf : Nat} {lb : Array Value} (hg : a.eval g = .func (.func gf) #[] lb) (eg : ∀ args w, (callFunc gf args).run P w = .ok (.enter gf args) w)
    {encs : α → Array Value} {Fact : α → World → Prop} {Kp : World → World → Prop} {S Sp : List α → Prop} {w0 : World} (hseq : SeqG (n - 1) P gf lb encs Fact Kp S Sp w0)
    (hKt : ∀ {A B C : World}, Kp A B → Kp B C → Kp A C) (hKb : ∀ (W : World) (l : Nat) (o o' : Obj), w.heap.size ≤ l → W.heap[l]? = some o → o.isCells = false → o.isWalk = false → Kp W (W.putObj l o')) (hb0 : Below w0.heap.size w0 w) (hps : ∀ x, (encs x).size = ps.size)
    (I : List α → World → Prop) (Ip : List PanicEntry → List α → World → Prop) (hI : OwnFrom w.heap.size I) (h0 : I [] w) (Ax : α → Act → World → Prop) (hAx : ∀ x a', OwnFrom w.heap.size (fun (_ : Unit) W => Ax x a' W))
    (hassign : ∀ (l : Nat) (pre : List α) (x : α) (W : World) (K : Act → World → Prop), I pre W → Fact x W → (∀ a' W', KeepsFrom w.heap.size W W' → Kp W W' → I pre W' → Ax x a' W' → K a' W') →
      assign.wpIn (Fence.wide.inRound l) (n - 1 - 1) P (Exit.then K (fun _ _ _ => False)) { tmps := (ps.zip (encs x)).foldl (fun t (p, v) => t.setIfInBounds p v) a.tmps, defers := [] } W)
    (hbody : ∀ (l : Nat) (pre : List α) (x : α) (a' : Act) (W : World), I pre W → Ax x a' W → Sp (pre ++ [x]) → body.wpIn (Fence.wide.inRound l) (n - 1 - 1) P (ownPostP w.heap.size Kp I Ip (pre ++ [x]) W) a' W)
    (hdone : ∀ (D : Nat) (xs : List α) (W : World), w.heap.size ≤ D → S xs → I xs W → W.heap[D]? = some (.deferred (some [])) → Q .normal { a with defers := markD D :: a.defers } W)
    (hpanic : ∀ (D : Nat) (ch : List PanicEntry) (pre : List α) (W : World), w.heap.size ≤ D → Sp pre → Ip ch pre W → W.heap[D]? = some (.deferred (some [])) → Q (.panic ch) { a with defers := markD D :: a.defers } W) :
    WpAt P f n (.rangeFunc g ps assign body) Q a w := by
  intro b k cs hbf hro
  obtain ⟨rec, hrec⟩ : ∃ rec : LoopState → Option Code → Loop, rec = fun st pe => { state := st, pending := pe, fn := f, tmps := a.tmps, params := ps, assign, body, defers := w.heap.size } := ⟨_, rfl⟩
  obtain ⟨W1, hW1⟩ : ∃ W1, (w.alloc (.deferred (some []))).alloc (.loop (rec .ready none)) = W1 := ⟨_, rfl⟩
  have hL1 : W1.heap[w.heap.size + 1]? = some (.loop (rec .ready none)) := by
    rw [← hW1]; have := World.alloc_heap_new (w.alloc (.deferred (some []))) (.loop (rec .ready none)); rwa [World.size_alloc] at this
  have hK1 : W1.heap[w.heap.size]? = some (.deferred (some [])) := by
    rw [← hW1]; exact (Below.heap_alloc _ _ _ (by simp)).trans (World.alloc_heap_new w _)
  have hI1 : I [] W1 := by rw [← hW1]; exact hI.alloc _ (hI.alloc _ h0)
  have hb1 : Below w0.heap.size w0 W1 := by
    rw [← hW1]; exact hb0.trans ((((Below.refl _ w).alloc (Nat.le_refl _) _).alloc (by simp) _).mono hb0.size)
  have he : (Instr.enterLoop b.fn a.tmps ps assign body b.roundOf).run P w = .ok (w.heap.size + 1, [markD w.heap.size]) W1 := by
    rw [hbf, hro, ← hW1, hrec]; exact run_enterLoop_outer _ _ _ _ _
  have hres : (resolve a.eval (rangeCall g (w.heap.size + 1)) 0).run P W1 = .ok { target := .fn (.func gf) lb, args := #[.func (.yield (w.heap.size + 1)) #[] #[]] } W1 := by
    simp only [resolve, hg]
    simp [go_sem]
  have hinv : (invoke (.fn (.func gf) lb) #[.func (.yield (w.heap.size + 1)) #[] #[]]).run P W1 = .ok (.enter gf (#[.func (.yield (w.heap.size + 1)) #[] #[]] ++ lb)) W1 := by
    simp [invoke, go_sem, eg]
  have henter := stepR_rangeFunc (P := P) (b := b) (a := a) (k := k) (cs := cs) (w := w) he hres hinv
  have hnw : ∀ {A B : World} {row : Option Nat}, (∀ r, row = some r → W1.heap.size ≤ r ∧ ∃ o : Obj, A.heap[r]? = some o ∧ o.isWalk = true) → (∀ r, row = some r → w.heap.size ≤ r ∧ ∃ o : Obj, A.heap[r]? = some o ∧ o.isCells = false) :=
    fun hr r e => by obtain ⟨hB, o, ho, hw⟩ := hr r e; exact ⟨by rw [← hW1] at hB; simp at hB; omega, o, ho, Obj.not_cells_of_walk hw⟩
  have hcall := hseq (w.heap.size + 1)
    (fun pre W => I pre W ∧ W.heap[w.heap.size + 1]? = some (.loop (rec .ready none)) ∧ W.heap[w.heap.size]? = some (.deferred (some [])))
    (fun ch pre W => Ip ch pre W ∧ W.heap[w.heap.size]? = some (.deferred (some [])))
    W1 hb1
    (fun s A B row hs hg' hr => ⟨hI s A B row hs.1 hg' (hnw (B := B) hr), (grownBy_keeps hg' (fun r e => (hr r e).2) hs.2.1 rfl).trans hs.2.1, (grownBy_keeps hg' (fun r e => (hr r e).2) hs.2.2 rfl).trans hs.2.2⟩)
    (by
      rintro pre x W ⟨hi, hl, hk⟩ hlen hfact
      have hy := run_yield (P := P) (args := encs x) hl (by rw [hrec]; exact hps x)
      rw [hrec] at hy
      refine ⟨f, _, assign, body, hy, roundIn_panics hf (hassign _ pre x W _ hi hfact ?_)⟩
      clear hy
      intro a' Wa hkfa hkpa hia hax
      have hl' := hkfa.same _ _ (by omega) hl rfl
      have hk' := hkfa.same _ _ (Nat.le_refl _) hk rfl
      have hlt : w.heap.size + 1 < Wa.heap.size := (Array.getElem?_eq_some_iff.1 hl').1
      refine ⟨_, run_beginRound hl' (by rw [hrec]), ?_⟩
      have hl2 : (Wa.putObj (w.heap.size + 1) (.loop { rec .ready none with state := .busy })).heap[w.heap.size + 1]? = some (.loop { rec .ready none with state := .busy }) := World.putObj_heap_same hlt
      have hk2 : (Wa.putObj (w.heap.size + 1) (.loop { rec .ready none with state := .busy })).heap[w.heap.size]? = some (.deferred (some [])) := (World.putObj_heap_other (by omega)).trans hk'
      have hw2 : Kp Wa (Wa.putObj (w.heap.size + 1) (.loop { rec .ready none with state := .busy })) := hKb _ _ _ _ (by omega) hl' rfl rfl
      refine wpIn_mono (hbody _ pre x a' _ (hI.putObj _ hia (by omega) hl' rfl) ((hAx x a').putObj (s := ()) _ hax (by omega) hl' rfl) hlen) ?_
      rintro e a3 W3 hp
      cases e with
      | normal =>
        obtain ⟨hk3, hkp3, hi3⟩ := hp
        have hl3 := hk3.same _ _ (by omega) hl2 rfl
        have hr3 := run_endRound (P := P) none hl3
        rw [hrec] at hr3
        refine ⟨_, _, hr3, .inl ⟨rfl, ⟨hI.putObj _ hi3 (by omega) hl3 rfl, ?_, (World.putObj_heap_other (by omega)).trans (hk3.same _ _ (Nat.le_refl _) hk2 rfl)⟩, hKt hkpa (hKt (hKt hw2 hkp3) (hKb _ _ _ _ (by omega) hl3 rfl rfl))⟩⟩
        rw [hrec]
        exact World.putObj_heap_same (Array.getElem?_eq_some_iff.1 hl3).1
      | panic ch =>
        obtain ⟨hd, hk3, hi3⟩ := hp
        exact ⟨hd, .inr ⟨ch, rfl, hi3, hk3.same _ _ (Nat.le_refl _) hk2 rfl⟩⟩
      | _ => exact hp.elim)
    ⟨hI1, hL1, hK1⟩
  obtain ⟨e, w3, fr, hR, hsteps, hfn, hleave⟩ := hcall.2 (b.atR { a with defers := [markD w.heap.size] ++ a.defers } (.inRangeFunc (w.heap.size + 1) :: k) :: cs) (room_wide _)
  rcases hR with ⟨⟨v, rfl⟩, xs, hS, hi, hl, hk⟩ | ⟨ch, pre, rfl, hSp, hi, hk⟩
  · obtain ⟨o, hend⟩ : ∃ o, (Instr.endLoop (w.heap.size + 1)).run P w3 = .ok none (w3.putObj (w.heap.size + 1) o) := by
      have := run_endLoop (P := P) hl (by rw [hrec]; simp)
      rw [hrec] at this
      exact ⟨_, this⟩
    refine ⟨.normal, _, w3.putObj (w.heap.size + 1) o, hdone _ xs _ (Nat.le_refl _) hS (hI.putObj o hi (by omega) hl rfl) ((World.putObj_heap_other (by omega)).trans hk), ?_⟩
    refine .head (fenced_wide P _) henter (StepsIn.trans hsteps (.head (fenced_wide P _) ?_ (.one (fenced_wide P _) (stepR_endRangeFunc hend))))
    rw [← finish_atR_inRangeFunc (w.heap.size + 1) v]
    exact step_leave_returned hleave
  · refine ⟨.panic ch, _, w3, hpanic _ ch pre w3 (Nat.le_refl _) hSp hi hk, .inRangeFunc (w.heap.size + 1) :: k, .head (fenced_wide P _) henter (StepsIn.trans hsteps (.one (fenced_wide P _) ?_))⟩
    rw [← Frame.raise_atR]
    exact step_leave_panicked hleave
end
end Go.Proofs.YtgalekifgnecjaaGreat
