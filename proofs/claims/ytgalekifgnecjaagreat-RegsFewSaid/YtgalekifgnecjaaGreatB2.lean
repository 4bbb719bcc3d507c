/- Instructions, forms and units: plain words; the small functions of package core. -/
import Derived.Test.YtgalekifgnecjaaGreatB1
namespace Go.Proofs.YtgalekifgnecjaaGreat
open Go.RowKit

/-- An instruction. -/
structure InsN where
  op : Int
  a : Int
  b : Int
  c : Int
/-- A guard. -/
structure GrdN where
  frm : Int
  til : Int
  at' : Int
/-- A unit. -/
structure UntN where
  cls : ByteArray
  name : ByteArray
  args : Int
  slots : Int
  frame : Int
  code : List InsN
  guards : List GrdN
/-- What an operation has and does: the name, the kinds of A, B, C; what is written, what is read; whether it raises, whether it ends. -/
structure FormN where
  name : Array UInt8
  h0 : Int
  h1 : Int
  h2 : Int
  wr : Int
  r0 : Int
  r1 : Int
  rs : Bool
  en : Bool
def form0 : FormN := ⟨#[], 0, 0, 0, 0, 0, 0, false, false⟩
def formT : List FormN := [form0,
  ⟨#[105, 110, 116], 1, 4, 0, 1, 0, 0, false, false⟩,
  ⟨#[98, 111, 111, 108], 1, 5, 0, 1, 0, 0, false, false⟩,
  ⟨#[118, 111, 105, 100], 1, 0, 0, 1, 0, 0, false, false⟩,
  ⟨#[109, 111, 118, 101], 1, 1, 0, 1, 2, 0, false, false⟩,
  ⟨#[115, 101, 108, 102], 1, 0, 0, 1, 0, 0, false, false⟩,
  ⟨#[97, 100, 100], 1, 1, 1, 1, 2, 3, true, false⟩,
  ⟨#[115, 117, 98], 1, 1, 1, 1, 2, 3, true, false⟩,
  ⟨#[109, 117, 108], 1, 1, 1, 1, 2, 3, true, false⟩,
  ⟨#[100, 105, 118], 1, 1, 1, 1, 2, 3, true, false⟩,
  ⟨#[109, 111, 100], 1, 1, 1, 1, 2, 3, true, false⟩,
  ⟨#[110, 101, 103], 1, 1, 0, 1, 2, 0, false, false⟩,
  ⟨#[101, 113], 1, 1, 1, 1, 2, 3, false, false⟩,
  ⟨#[108, 101, 115, 115], 1, 1, 1, 1, 2, 3, false, false⟩,
  ⟨#[109, 111, 115, 116], 1, 1, 1, 1, 2, 3, false, false⟩,
  ⟨#[110, 111, 116], 1, 1, 0, 1, 2, 0, false, false⟩,
  ⟨#[104, 97, 115], 1, 1, 0, 1, 2, 0, false, false⟩,
  ⟨#[103, 101, 116], 1, 2, 7, 1, 2, 0, true, false⟩,
  ⟨#[115, 101, 116], 7, 1, 0, 0, 2, 0, false, false⟩,
  ⟨#[97, 114, 103], 6, 1, 0, 0, 2, 0, false, false⟩,
  ⟨#[99, 97, 108, 108], 2, 2, 8, 1, 2, 0, true, false⟩,
  ⟨#[110, 101, 119], 1, 10, 5, 1, 0, 0, true, false⟩,
  ⟨#[109, 97, 107, 101], 1, 9, 0, 0, 1, 0, true, false⟩,
  ⟨#[105, 110, 118], 2, 0, 0, 0, 1, 0, true, false⟩,
  ⟨#[106, 117, 109, 112], 3, 0, 0, 0, 0, 0, false, true⟩,
  ⟨#[102, 97, 108, 115, 101], 1, 3, 0, 0, 1, 0, false, false⟩,
  ⟨#[114, 97, 105, 115, 101], 11, 0, 0, 0, 0, 0, true, true⟩,
  ⟨#[102, 97, 105, 108], 0, 0, 0, 0, 0, 0, true, true⟩,
  ⟨#[114, 101, 116], 2, 0, 0, 0, 1, 0, false, true⟩,
  ⟨#[112, 117, 116], 1, 0, 0, 0, 1, 0, false, false⟩,
  ⟨#[101, 110, 116, 101, 114], 1, 0, 0, 0, 1, 0, true, false⟩,
  ⟨#[108, 101, 97, 118, 101], 0, 0, 0, 0, 0, 0, false, false⟩,
  ⟨#[97, 103, 97, 105, 110], 1, 3, 0, 0, 1, 0, true, false⟩,
  ⟨#[108, 111, 97, 100], 1, 12, 0, 1, 0, 0, false, false⟩,
  ⟨#[115, 116, 111, 114, 101], 12, 1, 0, 0, 2, 0, false, false⟩]
def opOk (op : Int) : Bool := decide (1 ≤ op) && decide (op ≤ 34)
def formL (op : Int) : FormN := if opOk op = true then formT.getD op.toNat form0 else form0
abbrev vI (i : InsN) : Value := .agg #[.int .i64 i.op, .int .i64 i.a, .int .i64 i.b, .int .i64 i.c]
abbrev vG (g : GrdN) : Value := .agg #[.int .i64 g.frm, .int .i64 g.til, .int .i64 g.at']
abbrev vU (u : UntN) (ca : Option Addr) (cc : Nat) (ga : Option Addr) (gc : Nat) : Value := .agg #[.string u.cls, .string u.name, .int .i64 u.args, .int .i64 u.slots, .int .i64 u.frame, .slice ca u.code.length cc, .slice ga u.guards.length gc]
abbrev cF (f : FormN) : Array Value := #[.string ⟨f.name⟩, .int .i64 f.h0, .int .i64 f.h1, .int .i64 f.h2, .int .i64 f.wr, .int .i64 f.r0, .int .i64 f.r1, .bool f.rs, .bool f.en]
abbrev vF (f : FormN) : Value := .agg (cF f)
def partN (i : InsN) (k : Nat) : Int := match k with | 0 => i.a | 1 => i.b | _ => i.c
def hasN (f : FormN) (k : Nat) : Int := match k with | 0 => f.h0 | 1 => f.h1 | _ => f.h2
/-- The places that an instruction names. -/
def placesL (i : InsN) : List Int := ((List.range 3).filter fun k => hasN (formL i.op) k == 3).map (partN i)
/-- The first guard in which an instruction stands, or -1. -/
def guardIn (at' : Int) (g : GrdN) : Bool := decide (g.frm ≤ at') && decide (at' < g.til)
def guardL (u : UntN) (at' : Int) : Int := idxP (guardIn at') u.guards
def ins0 : InsN := ⟨0, 0, 0, 0⟩
def grd0 : GrdN := ⟨0, 0, 0⟩
/-- The places to which an instruction leads, and how. -/
def leadsL (u : UntN) (at' : Nat) : List (Int × Int) :=
  (if (!(formL (u.code.getD at' ins0).op).en && decide (at' + 1 < u.code.length)) = true then [((at' : Int) + 1, 0)] else []) ++ (placesL (u.code.getD at' ins0)).map (fun p => (p, 1)) ++
  (if ((formL (u.code.getD at' ins0).op).rs && decide (0 ≤ guardL u at')) = true then [((u.guards.getD (guardL u at').toNat grd0).at', 2)] else [])
/-- Instructions, read off a slice. -/
def RdC (w : World) (a : Option Addr) (l : List InsN) : Prop :=
  ∀ i (h : i < l.length), ∃ b off, a = some ⟨b, off, none⟩ ∧ b < w.heap.size ∧ w.cell? ⟨b, off + i * 4, none⟩ = some (.int .i64 l[i].op) ∧ w.cell? ⟨b, off + i * 4 + 1, none⟩ = some (.int .i64 l[i].a) ∧ w.cell? ⟨b, off + i * 4 + 2, none⟩ = some (.int .i64 l[i].b) ∧ w.cell? ⟨b, off + i * 4 + 3, none⟩ = some (.int .i64 l[i].c)
theorem RdC.below {w w' : World} {a : Option Addr} {l : List InsN} (h : RdC w a l) (hb : Below w.heap.size w w') : RdC w' a l := by
  intro i hi
  obtain ⟨b, off, ha, hlt, h0, h1, h2, h3⟩ := h i hi
  exact ⟨b, off, ha, Nat.lt_of_lt_of_le hlt hb.size, cell_later hb h0, cell_later hb h1, cell_later hb h2, cell_later hb h3⟩
/-- Guards, read off a slice. -/
def RdD (w : World) (a : Option Addr) (l : List GrdN) : Prop :=
  ∀ i (h : i < l.length), ∃ b off, a = some ⟨b, off, none⟩ ∧ b < w.heap.size ∧ w.cell? ⟨b, off + i * 3, none⟩ = some (.int .i64 l[i].frm) ∧ w.cell? ⟨b, off + i * 3 + 1, none⟩ = some (.int .i64 l[i].til) ∧ w.cell? ⟨b, off + i * 3 + 2, none⟩ = some (.int .i64 l[i].at')
theorem RdD.below {w w' : World} {a : Option Addr} {l : List GrdN} (h : RdD w a l) (hb : Below w.heap.size w w') : RdD w' a l := by
  intro i hi
  obtain ⟨b, off, ha, hlt, h0, h1, h2⟩ := h i hi
  exact ⟨b, off, ha, Nat.lt_of_lt_of_le hlt hb.size, cell_later hb h0, cell_later hb h1, cell_later hb h2⟩
/-- A unit in memory. -/
structure UnM (w : World) (u : UntN) (ca : Option Addr) (cc : Nat) (ga : Option Addr) (gc : Nat) : Prop where
  rc : RdC w ca u.code
  rg : RdD w ga u.guards
  lc : u.code.length ≤ cc
  lg : u.guards.length ≤ gc
theorem UnM.below {w w' : World} {u : UntN} {ca : Option Addr} {cc : Nat} {ga : Option Addr} {gc : Nat} (h : UnM w u ca cc ga gc) (hb : Below w.heap.size w w') : UnM w' u ca cc ga gc := ⟨h.rc.below hb, h.rg.below hb, h.lc, h.lg⟩
theorem box4 {W : World} {b : Nat} {x0 x1 x2 x3 : Value} {T : TypeId} (h : W.heap[b]? = some (.cells #[x0, x1, x2, x3] T (0, 0))) : W.cell? ⟨b, 0, none⟩ = some x0 ∧ W.cell? ⟨b, 1, none⟩ = some x1 ∧ W.cell? ⟨b, 2, none⟩ = some x2 ∧ W.cell? ⟨b, 3, none⟩ = some x3 :=
  ⟨(cell_of_row _ _ _ _ _ _ h).trans rfl, (cell_of_row _ _ _ _ _ _ h).trans rfl, (cell_of_row _ _ _ _ _ _ h).trans rfl, (cell_of_row _ _ _ _ _ _ h).trans rfl⟩
theorem box7 {W : World} {b : Nat} {x0 x1 x2 x3 x4 x5 x6 : Value} {T : TypeId} (h : W.heap[b]? = some (.cells #[x0, x1, x2, x3, x4, x5, x6] T (0, 0))) : W.cell? ⟨b, 0, none⟩ = some x0 ∧ W.cell? ⟨b, 1, none⟩ = some x1 ∧ W.cell? ⟨b, 2, none⟩ = some x2 ∧ W.cell? ⟨b, 3, none⟩ = some x3 ∧ W.cell? ⟨b, 4, none⟩ = some x4 ∧ W.cell? ⟨b, 5, none⟩ = some x5 ∧ W.cell? ⟨b, 6, none⟩ = some x6 :=
  ⟨(cell_of_row _ _ _ _ _ _ h).trans rfl, (cell_of_row _ _ _ _ _ _ h).trans rfl, (cell_of_row _ _ _ _ _ _ h).trans rfl, (cell_of_row _ _ _ _ _ _ h).trans rfl, (cell_of_row _ _ _ _ _ _ h).trans rfl, (cell_of_row _ _ _ _ _ _ h).trans rfl, (cell_of_row _ _ _ _ _ _ h).trans rfl⟩
def inN (n lo hi : Int) : Bool := decide (lo ≤ n) && decide (n ≤ hi)
/-- A byte of a name. -/
def nameB (c : UInt8) : Bool := (97 ≤ c && c ≤ 122) || (65 ≤ c && c ≤ 90) || (48 ≤ c && c ≤ 57) || c == 95
def namedB (s : ByteArray) : Bool := s.data.toList.all nameB && inN s.size 1 20
theorem within_any (n lo hi : Int) (w : World) : Calls Tryz.prog 91 #[.int .i64 n, .int .i64 lo, .int .i64 hi] w (RetS (.bool (inN n lo hi)) w) := by
  have H : Hid (inN n lo hi = (decide (lo ≤ n) && decide (n ≤ hi))) := hid rfl
  generalize inN n lo hi = r at *
  by_cases h1 : lo ≤ n
  · by_cases h2 : n ≤ hi
    · go_enter Tryz.func91, Tryz.ntmps91
      go_wp2
      go_ret
      exact ⟨ret_bool (by rw [H.out]; simp [h1, h2]), rfl⟩
    · have d2 : decide (n ≤ hi) = false := decide_eq_false h2
      go_enter Tryz.func91, Tryz.ntmps91
      go_wp2
      go_ret
      exact ⟨ret_bool (by rw [H.out]; simp [h1, h2]), rfl⟩
  · have d1 : decide (lo ≤ n) = false := decide_eq_false h1
    go_enter Tryz.func91, Tryz.ntmps91
    go_wp2
    go_ret
    exact ⟨ret_bool (by rw [H.out, d1]; rfl), rfl⟩
/-- Operations that build, one behind the other. -/
def buildsRun (P : Program) : List Oper → Act → Option Act
  | [], a => some a
  | o :: l, a => match o.guard, o.op with
    | none, .build t parts => match P.built t (parts.map fun (i, x) => (i, a.eval x)).toList with
      | some C => buildsRun P l (a.put o.dst (.agg C))
      | none => none
    | _, _ => none
theorem wpList_builds {P : Program} {ops : Array Oper} {w : World} {Q : Exit → Act → World → Prop} : ∀ (l1 : List Oper) (a a' : Act) (rest : List Oper), buildsRun P l1 a = some a' → wpList P ops Q rest a' w → wpList P ops Q (l1 ++ rest) a w
  | [], a, a', rest, h, hK => by
    obtain rfl : a = a' := Option.some.inj h
    exact hK
  | o :: l, a, a', rest, h, hK => by
    unfold buildsRun at h
    split at h
    · rename_i t parts hg ho
      split at h
      · rename_i C hC
        refine wpList_build hg t parts ho (by rw [hC]; rfl) ?_
        rw [hC]
        exact wpList_builds l _ a' rest h hK
      · cases h
    · cases h
theorem wpList_buildsN {P : Program} {ops : Array Oper} {w : World} {Q : Exit → Act → World → Prop} (n : Nat) (l : List Oper) (a : Act) (h : (buildsRun P (l.take n) a).isSome = true) (hK : wpList P ops Q (l.drop n) ((buildsRun P (l.take n) a).getD a) w) : wpList P ops Q l a w := by
  obtain ⟨a', ha⟩ := Option.isSome_iff_exists.1 h
  rw [ha] at hK
  have := wpList_builds (l.take n) a a' (l.drop n) ha hK
  rwa [List.take_append_drop] at this
theorem one_of {l : List Oper} {x : Op} (h : l.map (fun o => (o.guard, o.op, o.dst)) = [(none, x, none)]) : ∃ o, l = [o] ∧ o.guard = none ∧ o.op = x ∧ o.dst = none := by
  cases l with
  | nil => cases h
  | cons o l =>
    cases l with
    | nil =>
      simp only [List.map_cons, List.map_nil, List.cons.injEq, Prod.mk.injEq, and_true] at h
      exact ⟨o, rfl, h.1, h.2.1, h.2.2⟩
    | cons _ _ => simp at h
/-- All forms, as one value. -/
def formsC : Array Value := (formT.flatMap fun f => (cF f).toList).toArray
theorem size134 : (Tryz.prog.info? 235).map (·.size) = some 315 := by kernel_rfl
set_option maxRecDepth 100000 in
set_option maxHeartbeats 4000000 in
theorem forms_any (w : World) : Calls Tryz.prog 197 #[] w (RetB (.agg formsC) w) := by
  go_enter Tryz.func197, Tryz.ntmps197
  go_upto_region 1 with fail
  rename_i K hK
  refine wp_region_lit ?_
  refine wpList_buildsN 103 _ _ (by kernel_rfl) ?_
  obtain ⟨o, ho, hg, hop, hds⟩ := one_of (l := List.drop 103 _) (x := .store 235 (.tmp 0) (.tmp 103)) (by kernel_rfl)
  rw [ho]
  refine wpList_store_row hg 235 (.tmp 0) (.tmp 103) hop w.heap.size formsC (by kernel_rfl) (by kernel_rfl) 235 Tryz.zeroCells235 (heapn _ _ _ rfl) (size134.trans (by kernel_rfl)) (by kernel_rfl) (by kernel_rfl) ?_
  rw [hds]
  refine wpList_nil ?_
  refine hK _ _ ?_
  clear hK K
  go_wp2
  refine bodyPost_ret (v := .agg formsC) (results_cell_row rfl _ _ w.heap.size 235 formsC (0, 0) _ (by kernel_rfl) (setRow_heap _ _ _ _ _ _ (heapn _ _ _ rfl)) Tryz.underlying235 rfl (size134.trans (by kernel_rfl))) (by kernel_rfl) ⟨rfl, ?_⟩
  exact (bnew _ _).trans ⟨rfl, rfl, rfl, by simp, fun k hk => setRow_other _ _ _ _ (by omega)⟩
theorem results_row_tmp {P : Program} {fn : Func} {p u : Tmp} {ty : TypeId} (h : fn.results = #[.cell p ty, .tmp u]) (tmps : Array Value) (w : World) (g : Nat) (t : TypeId) (cs : Array Value) (fr : Nat × Nat) (d : TypeDesc)
    (hp : tmps.getD p undef = .pointer (some ⟨g, 0, none⟩)) (hg : w.heap[g]? = some (.cells cs t fr))
    (hu : P.underlying ty = some d) (hd : (match d with | .struct _ | .array _ _ => true | _ => false) = true) (hi : (P.info? ty).map (·.size) = some cs.size) (v : Value) (hv : tmps.getD u undef = v) :
    (results fn tmps).run P w = .ok (.tuple #[.agg cs, v]) w := by
  rw [results_cell_tmp h, hp, hv]
  show ((loadVar ty ⟨g, 0, none⟩).run P w).andThen _ = _
  rw [run_loadVar_row w g t ty cs fr d hg hu hd hi]
  rfl
theorem cF_one (f : FormN) : (cF f).all (·.oneCell') = true := by simp [cF, Value.oneCell']
theorem size119 : (Tryz.prog.info? 186).map (·.size) = some 9 := by kernel_rfl
theorem index134 (w : World) : ∀ k : Nat, k < 35 → (Instr.index 235 (.agg formsC) (.int .i64 k)).run Tryz.prog w = .ok (vF (formT.getD k form0)) w
  | 0, _ => by kernel_rfl
  | 1, _ => by kernel_rfl
  | 2, _ => by kernel_rfl
  | 3, _ => by kernel_rfl
  | 4, _ => by kernel_rfl
  | 5, _ => by kernel_rfl
  | 6, _ => by kernel_rfl
  | 7, _ => by kernel_rfl
  | 8, _ => by kernel_rfl
  | 9, _ => by kernel_rfl
  | 10, _ => by kernel_rfl
  | 11, _ => by kernel_rfl
  | 12, _ => by kernel_rfl
  | 13, _ => by kernel_rfl
  | 14, _ => by kernel_rfl
  | 15, _ => by kernel_rfl
  | 16, _ => by kernel_rfl
  | 17, _ => by kernel_rfl
  | 18, _ => by kernel_rfl
  | 19, _ => by kernel_rfl
  | 20, _ => by kernel_rfl
  | 21, _ => by kernel_rfl
  | 22, _ => by kernel_rfl
  | 23, _ => by kernel_rfl
  | 24, _ => by kernel_rfl
  | 25, _ => by kernel_rfl
  | 26, _ => by kernel_rfl
  | 27, _ => by kernel_rfl
  | 28, _ => by kernel_rfl
  | 29, _ => by kernel_rfl
  | 30, _ => by kernel_rfl
  | 31, _ => by kernel_rfl
  | 32, _ => by kernel_rfl
  | 33, _ => by kernel_rfl
  | 34, _ => by kernel_rfl
  | n + 35, h => absurd h (by omega)
set_option maxRecDepth 100000 in
set_option maxHeartbeats 1000000 in
theorem formOf_any (op : Int) (w : World) : Calls Tryz.prog 139 #[.int .i64 op] w (RetB (.tuple #[vF (formL op), .bool (opOk op)]) w) := by
  cases ho : opOk op with
  | false =>
    have hf : formL op = form0 := by unfold formL; rw [ho]; rfl
    rw [hf]
    unfold opOk at ho
    by_cases h1 : 1 ≤ op
    · have h2 : 34 < op := by simp at ho; omega
      have d1 : decide (op < 1) = false := decide_eq_false (by omega)
      have d2 : decide (34 < op) = true := decide_eq_true h2
      clear ho hf
      go_enter Tryz.func139, Tryz.ntmps139
      go_wp2
      exact bodyPost_ret (v := .tuple #[vF form0, .bool false]) (results_row_tmp rfl _ _ w.heap.size 186 (cF form0) (0, 0) _ rfl (heapn _ _ _ rfl) Tryz.underlying186 rfl size119 _ rfl) rfl ⟨rfl, bnew _ _⟩
    · have d1 : decide (op < 1) = true := decide_eq_true (by omega)
      clear ho hf
      go_enter Tryz.func139, Tryz.ntmps139
      go_wp2
      exact bodyPost_ret (v := .tuple #[vF form0, .bool false]) (results_row_tmp rfl _ _ w.heap.size 186 (cF form0) (0, 0) _ rfl (heapn _ _ _ rfl) Tryz.underlying186 rfl size119 _ rfl) rfl ⟨rfl, bnew _ _⟩
  | true =>
    have hf : formL op = formT.getD op.toNat form0 := by unfold formL; rw [ho]; rfl
    rw [hf]
    have h : 1 ≤ op ∧ op ≤ 34 := by unfold opOk at ho; simpa using ho
    obtain ⟨k, rfl⟩ : ∃ k : Nat, op = (k : Int) := ⟨op.toNat, by omega⟩
    obtain ⟨h1, h2⟩ := h
    have hix := fun w => index134 w k (by omega)
    have n1 : ¬ (k : Int) < 1 := by omega
    have n2 : ¬ 34 < (k : Int) := by omega
    have d1 : decide ((k : Int) < 1) = false := decide_eq_false n1
    have d2 : decide (34 < (k : Int)) = false := decide_eq_false n2
    rw [show (k : Int).toNat = k from rfl]
    generalize formT.getD k form0 = f at *
    clear ho hf h1 h2
    go_enter Tryz.func139, Tryz.ntmps139
    go_wp2_with (first
      | (go_at_call 197; (with_reducible refine (forms_any _).mono ?_); rintro e w1 ⟨rfl, hb⟩; have HB := hid ((bnew w _).step hb); have HX := hid (keepBox hb (heapn w (.cells (cF form0) 186) _ rfl)); clear hb)
      | (refine wpList_store_row rfl 186 (.tmp 2) (.tmp 13) rfl w.heap.size (cF f) rfl rfl 186 _ HX.out size119 rfl (cF_one f) ?_))
    exact bodyPost_ret (v := .tuple #[vF f, .bool true]) (results_row_tmp rfl _ _ w.heap.size 186 (cF f) (0, 0) _ rfl (setRow_heap _ _ _ _ _ _ HX.out) Tryz.underlying186 rfl size119 _ rfl) rfl ⟨rfl, HB.out.trans ⟨rfl, rfl, rfl, by simp, fun k hk => setRow_other _ _ _ _ (by omega)⟩⟩
set_option maxHeartbeats 1000000 in
theorem g80 (g : GrdN) (n : Int) (p : Nat) (w : World) (hp : w.cell? ⟨p, 0, none⟩ = some (.int .i64 n)) (_hlt : p < w.heap.size) :
    Calls Tryz.prog 229 #[vG g, .pointer (some ⟨p, 0, none⟩)] w (RetB (.bool (guardIn n g)) w) := by
  have H : Hid (guardIn n g = (decide (g.frm ≤ n) && decide (n < g.til))) := hid rfl
  have hp1 := cell_later (bnew w (.cells #[.int .i64 g.frm, .int .i64 g.til, .int .i64 g.at'] 90)) hp
  have HB := hid (bnew w (.cells #[.int .i64 g.frm, .int .i64 g.til, .int .i64 g.at'] 90))
  clear hp
  generalize guardIn n g = r at *
  by_cases h1 : g.frm ≤ n
  · have d1 : decide (g.frm ≤ n) = true := decide_eq_true h1
    by_cases h2 : n < g.til
    · have d2 : decide (n < g.til) = true := decide_eq_true h2
      rw [d1, d2] at H
      go_enter Tryz.func229, Tryz.ntmps229
      go_wp2
      go_ret
      exact ⟨ret_bool (by rw [H.out]; rfl), HB.out⟩
    · have d2 : decide (n < g.til) = false := decide_eq_false h2
      rw [d1, d2] at H
      go_enter Tryz.func229, Tryz.ntmps229
      go_wp2
      go_ret
      exact ⟨ret_bool (by rw [H.out]; rfl), HB.out⟩
  · have d1 : decide (g.frm ≤ n) = false := decide_eq_false h1
    rw [d1] at H
    go_enter Tryz.func229, Tryz.ntmps229
    go_wp2
    go_ret
    exact ⟨ret_bool (by rw [H.out]; rfl), HB.out⟩
set_option maxHeartbeats 1000000 in
theorem index80 (n : Int) (p : Nat) (l : List GrdN) (a : Option Addr) (cap : Nat) (w : World) (hl : RdD w a l) (hll : l.length ≤ 9223372036854775807) (hp : w.cell? ⟨p, 0, none⟩ = some (.int .i64 n)) (hlt : p < w.heap.size) :
    Calls Tryz.prog 172 #[.slice a l.length cap, .func (.func 229) #[] #[.pointer (some ⟨p, 0, none⟩)]] w (RetB (.int .i64 (idxP (guardIn n) l)) w) := by
  have HL := hid hl; clear hl
  have HP := hid hp; clear hp
  have HLT := hid hlt; clear hlt
  go_enter Tryz.func172, Tryz.ntmps172
  go_wp2
  go_loopg [8] l.length (fun gh s8 wr => ∃ j : Nat, j ≤ l.length ∧ gh = l.length - j ∧ s8 = .int .i64 j ∧ Hid (∀ x, x ∈ l.take j → guardIn n x = false) ∧ Hid (Below w.heap.size w wr))
  case atStart => exact ⟨0, Nat.zero_le _, rfl, rfl, hid (by simp), hid (Below.refl _ _)⟩
  case round =>
    obtain ⟨j, hj, rfl, rfl, HQ, HB⟩ := hrel
    by_cases hlj : j < l.length
    · obtain ⟨b2, off, ha, hlt2, h0, h1, h2⟩ := (HL.out.below HB.out) j hlj
      subst ha
      have HK := hid (fun g => g80 g n p wr (cell_later HB.out HP.out) (Nat.lt_of_lt_of_le HLT.out HB.out.size))
      have nj : (j : Int) < (l.length : Int) := by omega
      have HG := hid (idxP_some (p := guardIn n) (l := l) (i := j) hlj)
      have HT : Hid (l.take (j + 1) = l.take j ++ [l[j]]) := hid (take_last hlj)
      generalize l[j] = g at *
      cases hg : guardIn n g with
      | true =>
        have HKG := hid (HK.out g)
        rw [hg] at HKG
        have HE := hid (HG.out hg HQ.out)
        clear hg
        go_wp2_with (go_at_call 229; (with_reducible refine HKG.out.mono ?_); rintro e w' ⟨rfl, hb⟩; have HB2 := hid (HB.out.step hb); clear hb)
        go_ret
        exact ⟨ret_int HE.out.symm, HB2.out⟩
      | false =>
        have HKG := hid (HK.out g)
        rw [hg] at HKG
        have HGF := hid hg
        clear hg
        go_wp2_with (go_at_call 229; (with_reducible refine HKG.out.mono ?_); rintro e w' ⟨rfl, hb⟩; have HB2 := hid (HB.out.step hb); clear hb)
        go_roundg (l.length - (j + 1))
        case measure => omega
        case rel =>
          refine ⟨j + 1, by omega, rfl, by go_num, hid fun x hx => ?_, HB2⟩
          rw [HT.out, List.mem_append] at hx
          rcases hx with hx | hx
          · exact HQ.out x hx
          · rw [List.mem_singleton.1 hx]; exact HGF.out
    · obtain rfl : j = l.length := by omega
      have HE := hid (idxP_none (p := guardIn n) (fun x hx => HQ.out x (by rw [List.take_length]; exact hx)))
      go_wp2
      go_ret
      exact ⟨ret_int HE.out.symm, HB.out⟩
set_option maxHeartbeats 1000000 in
theorem guardOf_any (u : UntN) (n : Int) (ca : Option Addr) (cc : Nat) (ga : Option Addr) (gc : Nat) (w : World) (hg : RdD w ga u.guards) (hlg : u.guards.length ≤ 9223372036854775807) :
    Calls Tryz.prog 210 #[vU u ca cc ga gc, .int .i64 n] w (RetB (.int .i64 (guardL u n)) w) := by
  have HB := hid ((bnew w (.cells #[.string u.cls, .string u.name, .int .i64 u.args, .int .i64 u.slots, .int .i64 u.frame, .slice ca u.code.length cc, .slice ga u.guards.length gc] 25)).step (bnew _ (.cells #[.int .i64 n] 3)))
  have HI := hid (index80 n (w.heap.size + 1) u.guards ga gc _ (hg.below HB.out) hlg (by have := cell0_alloc (w.alloc (.cells #[.string u.cls, .string u.name, .int .i64 u.args, .int .i64 u.slots, .int .i64 u.frame, .slice ca u.code.length cc, .slice ga u.guards.length gc] 25)) (.int .i64 n) 3; rw [World.size_alloc] at this; exact this) (by simp))
  clear hg
  go_enter Tryz.func210, Tryz.ntmps210
  go_wp2_with (go_at_call 172; refine HI.out.mono ?_; rintro e w' ⟨rfl, hb⟩; have HB2 := hid (HB.out.step hb); clear hb)
  go_ret
  exact ⟨rfl, HB2.out⟩
theorem idx116_0 (x y z : Int) (w : World) : (Instr.index 167 (.agg #[.int .i64 x, .int .i64 y, .int .i64 z]) (.int .i64 0)).run Tryz.prog w = .ok (.int .i64 x) w := by kernel_rfl
theorem idx116_1 (x y z : Int) (w : World) : (Instr.index 167 (.agg #[.int .i64 x, .int .i64 y, .int .i64 z]) (.int .i64 1)).run Tryz.prog w = .ok (.int .i64 y) w := by kernel_rfl
theorem idx116_2 (x y z : Int) (w : World) : (Instr.index 167 (.agg #[.int .i64 x, .int .i64 y, .int .i64 z]) (.int .i64 2)).run Tryz.prog w = .ok (.int .i64 z) w := by kernel_rfl
theorem parts_any (i : InsN) (w : World) : Calls Tryz.prog 140 #[vI i] w (RetB (.agg #[.int .i64 i.a, .int .i64 i.b, .int .i64 i.c]) w) := by
  go_enter Tryz.func140, Tryz.ntmps140
  go_wp2
  refine bodyPost_ret (v := .agg #[.int .i64 i.a, .int .i64 i.b, .int .i64 i.c]) (by simp [results, Tryz.results140, go_sem]) rfl ⟨rfl, ?_⟩
  exact (bnew _ _).step (bnew _ _)
def placesU (f : FormN) (i : InsN) (k : Nat) : List Int := ((List.range k).filter fun j => hasN f j == 3).map (partN i)
theorem placesU_succ (f : FormN) (i : InsN) (k : Nat) : placesU f i (k + 1) = if hasN f k = 3 then placesU f i k ++ [partN i k] else placesU f i k := by
  unfold placesU
  rw [List.range_succ, List.filter_append, List.map_append]
  by_cases h : hasN f k = 3
  · rw [if_pos h, show [k].filter (fun j => hasN f j == 3) = [k] from List.filter_cons_of_pos (by simp [h])]
    rfl
  · rw [if_neg h, show [k].filter (fun j => hasN f j == 3) = [] from List.filter_cons_of_neg (by simp [h])]
    simp
theorem placesU_length (f : FormN) (i : InsN) (k : Nat) : (placesU f i k).length ≤ k := by
  unfold placesU
  rw [List.length_map]
  have := List.length_filter_le (fun j => hasN f j == 3) (List.range k)
  rwa [List.length_range] at this
set_option maxRecDepth 100000 in
set_option maxHeartbeats 4000000 in
theorem places_any (i : InsN) (w : World) : Calls Tryz.prog 209 #[vI i] w (OwnRet (placesL i) w) := by
  have HF := hid (formOf_any i.op)
  have HPL : Hid (placesL i = placesU (formL i.op) i 3) := hid rfl
  have HPA := hid (fun w => parts_any i w)
  generalize formL i.op = f at *
  generalize opOk i.op = ok at *
  have hx0 := idx116_0 f.h0 f.h1 f.h2
  have hx1 := idx116_1 f.h0 f.h1 f.h2
  have hx2 := idx116_2 f.h0 f.h1 f.h2
  have hy0 := idx116_0 i.a i.b i.c
  have hy1 := idx116_1 i.a i.b i.c
  have hy2 := idx116_2 i.a i.b i.c
  have HX1 := hid (heapn w (.cells #[.int .i64 i.op, .int .i64 i.a, .int .i64 i.b, .int .i64 i.c] 85) _ rfl)
  have HB := hid (bnew w (.cells #[.int .i64 i.op, .int .i64 i.a, .int .i64 i.b, .int .i64 i.c] 85))
  go_enter Tryz.func209, Tryz.ntmps209
  go_upto_region 4 with (go_at_call 139; (with_reducible refine (HF.out _).mono ?_); rintro e w1 ⟨rfl, hb⟩; replace HX1 := hid (keepBox (hb.step (bnew w1 (.cells (cF f) 186))) HX1.out); replace HB := hid (HB.out.step (hb.step (bnew w1 (.cells (cF f) 186)))); clear hb)
  obtain ⟨w2, hw2⟩ : ∃ w2, w2 = w1.alloc (.cells (cF f) 186) := ⟨_, rfl⟩
  have e2 : w1.alloc (.cells #[.string ⟨f.name⟩, .int .i64 f.h0, .int .i64 f.h1, .int .i64 f.h2, .int .i64 f.wr, .int .i64 f.r0, .int .i64 f.r1, .bool f.rs, .bool f.en] 186) = w2 := hw2.symm
  rw [e2] at HX1 HB
  rw [e2]
  clear e2 hw2
  go_loopg [5, 16] 3 (fun gh s5 s16 wr => ∃ k : Nat, k ≤ 3 ∧ gh = 3 - k ∧ s16 = .int .i64 k ∧ Hid (OwnI wr w2.heap.size s5 (placesU f i k) ∧ Below w2.heap.size w2 wr))
  case atStart => exact ⟨0, Nat.zero_le _, rfl, rfl, hid ⟨World.ownsRow_nil _ _ _ _, Below.refl _ _⟩⟩
  case round =>
    obtain ⟨k, hk, rfl, rfl, HK⟩ := hrel
    have hlen := placesU_length f i k
    have hsz := HK.out.2.size
    obtain ⟨k0, k1, k2, k3⟩ := box4 (keepBox HK.out.2 HX1.out)
    by_cases hlt : k < 3
    · rcases (show k = 0 ∨ k = 1 ∨ k = 2 by omega) with rfl | rfl | rfl
      · have hs := hid (show placesU f i (0 + 1) = if f.h0 = 3 then placesU f i 0 ++ [i.a] else placesU f i 0 from placesU_succ f i 0)
        rw [show ((0 : Nat) : Int) = 0 from rfl]
        by_cases hh : f.h0 = 3
        · have d : (f.h0 == 3) = true := by rw [hh]; rfl
          have HE := hid (hs.out.trans (if_pos hh))
          clear hh hs
          go_wp2_with (first
            | (go_at_call 140; (with_reducible refine (HPA.out _).mono ?_); rintro e w4 ⟨rfl, hb4⟩; have HB4 := hid hb4; have hsz4 := hb4.size; clear hb4)
            | (at_builtin; refine wpList_append_ints _ rfl _ _ rfl w2.heap.size _ _ [i.a] rfl (OwnI.later HK.out.1 (HB4.out.step (bnew _ _))) (some ⟨w4.heap.size, 0, none⟩) 1 rfl (rd_one _ _ _) (by simp; omega) (by simp; omega) ?_; intro v' w5 hown' hgrow hnil))
          go_roundg (3 - (0 + 1))
          case measure => omega
          case rel => exact ⟨0 + 1, by omega, rfl, rfl, hid ⟨by rw [HE.out]; exact hown', (((HK.out.2.step HB4.out)).alloc (by omega) _).grown hgrow (by simp; omega) (own_ge HK.out.1)⟩⟩
        · have d : (f.h0 == 3) = false := by rw [beq_eq_false_iff_ne]; exact hh
          have HE := hid (hs.out.trans (if_neg hh))
          clear hh hs
          go_wp2_with fail
          go_roundg (3 - (0 + 1))
          case measure => omega
          case rel => exact ⟨0 + 1, by omega, rfl, rfl, hid ⟨by rw [HE.out]; exact HK.out.1, HK.out.2⟩⟩
      · have hs := hid (show placesU f i (1 + 1) = if f.h1 = 3 then placesU f i 1 ++ [i.b] else placesU f i 1 from placesU_succ f i 1)
        rw [show ((1 : Nat) : Int) = 1 from rfl]
        by_cases hh : f.h1 = 3
        · have d : (f.h1 == 3) = true := by rw [hh]; rfl
          have HE := hid (hs.out.trans (if_pos hh))
          clear hh hs
          go_wp2_with (first
            | (go_at_call 140; (with_reducible refine (HPA.out _).mono ?_); rintro e w4 ⟨rfl, hb4⟩; have HB4 := hid hb4; have hsz4 := hb4.size; clear hb4)
            | (at_builtin; refine wpList_append_ints _ rfl _ _ rfl w2.heap.size _ _ [i.b] rfl (OwnI.later HK.out.1 (HB4.out.step (bnew _ _))) (some ⟨w4.heap.size, 0, none⟩) 1 rfl (rd_one _ _ _) (by simp; omega) (by simp; omega) ?_; intro v' w5 hown' hgrow hnil))
          go_roundg (3 - (1 + 1))
          case measure => omega
          case rel => exact ⟨1 + 1, by omega, rfl, rfl, hid ⟨by rw [HE.out]; exact hown', (((HK.out.2.step HB4.out)).alloc (by omega) _).grown hgrow (by simp; omega) (own_ge HK.out.1)⟩⟩
        · have d : (f.h1 == 3) = false := by rw [beq_eq_false_iff_ne]; exact hh
          have HE := hid (hs.out.trans (if_neg hh))
          clear hh hs
          go_wp2_with fail
          go_roundg (3 - (1 + 1))
          case measure => omega
          case rel => exact ⟨1 + 1, by omega, rfl, rfl, hid ⟨by rw [HE.out]; exact HK.out.1, HK.out.2⟩⟩
      · have hs := hid (show placesU f i (2 + 1) = if f.h2 = 3 then placesU f i 2 ++ [i.c] else placesU f i 2 from placesU_succ f i 2)
        rw [show ((2 : Nat) : Int) = 2 from rfl]
        by_cases hh : f.h2 = 3
        · have d : (f.h2 == 3) = true := by rw [hh]; rfl
          have HE := hid (hs.out.trans (if_pos hh))
          clear hh hs
          go_wp2_with (first
            | (go_at_call 140; (with_reducible refine (HPA.out _).mono ?_); rintro e w4 ⟨rfl, hb4⟩; have HB4 := hid hb4; have hsz4 := hb4.size; clear hb4)
            | (at_builtin; refine wpList_append_ints _ rfl _ _ rfl w2.heap.size _ _ [i.c] rfl (OwnI.later HK.out.1 (HB4.out.step (bnew _ _))) (some ⟨w4.heap.size, 0, none⟩) 1 rfl (rd_one _ _ _) (by simp; omega) (by simp; omega) ?_; intro v' w5 hown' hgrow hnil))
          go_roundg (3 - (2 + 1))
          case measure => omega
          case rel => exact ⟨2 + 1, by omega, rfl, rfl, hid ⟨by rw [HE.out]; exact hown', (((HK.out.2.step HB4.out)).alloc (by omega) _).grown hgrow (by simp; omega) (own_ge HK.out.1)⟩⟩
        · have d : (f.h2 == 3) = false := by rw [beq_eq_false_iff_ne]; exact hh
          have HE := hid (hs.out.trans (if_neg hh))
          clear hh hs
          go_wp2_with fail
          go_roundg (3 - (2 + 1))
          case measure => omega
          case rel => exact ⟨2 + 1, by omega, rfl, rfl, hid ⟨by rw [HE.out]; exact HK.out.1, HK.out.2⟩⟩
    · obtain rfl : k = 3 := by omega
      go_wp2_with fail
      go_ret
      exact ⟨HB.out.step HK.out.2, _, rfl, by rw [HPL.out]; exact HK.out.1.mono HB.out.size⟩
end Go.Proofs.YtgalekifgnecjaaGreat
