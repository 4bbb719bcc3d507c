/- The chapter's example, by the plain words. The law's own small functions: few, homes, the unit of the examples. The law's lists of pairs are compared. -/
import Derived.Test.YtgalekifgnecjaaGreatN1
import Derived.Test.YtgalekifgnecjaaGreatT6
import Derived.ChangeKeysEq
import Derived.Laws.StructEq
namespace Go.Proofs.YtgalekifgnecjaaGreat
open Go.RowKit

open Go.RowKit Go.Shelf
theorem iteC {α : Type} {p q : Prop} [Decidable p] [Decidable q] (h : p ↔ q) (x y : α) : (if p then x else y) = if q then x else y := by
  by_cases hp : p
  · rw [if_pos hp, if_pos (h.1 hp)]
  · rw [if_neg hp, if_neg (fun hq => hp (h.2 hq))]
def eqInsC (x y : InsN) : Bool := x.op == y.op && x.a == y.a && x.b == y.b && x.c == y.c
theorem eqInsC_iff {x y : InsN} : eqInsC x y = true ↔ x = y := by
  obtain ⟨a, b, c, d⟩ := x
  obtain ⟨a', b', c', d'⟩ := y
  simp [eqInsC, and_assoc]
/-- What CheckRegs tells, as it can be reckoned. -/
def insOneC (u v : UntN) (h at' : List Int) (m : List (Int × Int)) (behind : List Int) (frm i a : Nat) : Option Nat :=
  match v.code[a]? with
  | none => none
  | some x =>
    if ((decide (i = frm) || at'.getD i 0 == (a : Int)) && rdOk h m (u.code.getD i ins0) && (decide (writesI (u.code.getD i ins0) < 0) || (wrChk v h behind x (writesI (u.code.getD i ins0))).isSome) &&
      eqInsC x (movI at' (replI (u.code.getD i ins0) (fun s => (rdChk h m s).getD 0) (fun s => (wrChk v h behind x s).getD 0)))) = true then some (a + 1) else none
theorem insOneC_eq (u v : UntN) (h at' : List Int) (m : List (Int × Int)) (behind : List Int) (frm i a : Nat) : insOne u v h at' m behind frm i a = insOneC u v h at' m behind frm i a := by
  unfold insOne insOneC
  cases v.code[a]? with
  | none => rfl
  | some x =>
    simp only
    refine iteC ?_ _ _
    rw [Bool.and_eq_true, Bool.and_eq_true, Bool.and_eq_true, Bool.or_eq_true, Bool.or_eq_true, eqInsC_iff, decide_eq_true_eq, decide_eq_true_eq, beq_iff_eq]
    constructor
    · rintro ⟨h1, h2, h3, h4⟩
      refine ⟨⟨⟨h1, h2⟩, ?_⟩, h4⟩
      by_cases hw : 0 ≤ writesI (u.code.getD i ins0)
      · exact .inr (h3 hw)
      · exact .inl (by omega)
    · rintro ⟨⟨⟨h1, h2⟩, h3⟩, h4⟩
      exact ⟨h1, h2, fun hw => h3.resolve_left (by omega), h4⟩
def insGoC (u v : UntN) (h at' : List Int) (m : List (Int × Int)) (behind : List Int) (frm : Nat) : Nat → Nat → Option Nat
  | 0, a => some a
  | n + 1, a => (insGoC u v h at' m behind frm n a).bind fun a => insOneC u v h at' m behind frm (frm + n) a
theorem insGoC_eq (u v : UntN) (h at' : List Int) (m : List (Int × Int)) (behind : List Int) (frm : Nat) : ∀ n a, insGo u v h at' m behind frm n a = insGoC u v h at' m behind frm n a
  | 0, _ => rfl
  | n + 1, a => by
    unfold insGo insGoC
    rw [insGoC_eq u v h at' m behind frm n a]
    congr 1
    funext b
    exact insOneC_eq ..
def nxtC (v : UntN) (at' : Nat) (x : InsN) : Option Nat := match v.code[at']? with | none => none | some y => if eqInsC y x = true then some (at' + 1) else none
theorem nxtC_eq (v : UntN) (a : Nat) (x : InsN) : nxtI v a x = nxtC v a x := by
  unfold nxtI nxtC
  cases v.code[a]? with
  | none => rfl
  | some y =>
    refine iteC ?_ _ _
    rw [eqInsC_iff]
    simp
def begC (v : UntN) (h : List Int) : Nat → Option Nat
  | 0 => some 0
  | i + 1 => (begC v h i).bind fun at' => if v.frame ≠ 0 ∧ 0 ≤ homeN h i then nxtC v at' (loadI (homeN h i) i) else some at'
theorem begC_eq (v : UntN) (h : List Int) : ∀ n, begL v h n = begC v h n
  | 0 => rfl
  | n + 1 => by
    unfold begL begC
    rw [begC_eq v h n]
    congr 1
    funext b
    rw [nxtC_eq]
def grpChkC (u v : UntN) (live : List (List Int)) (h at' : List Int) (a : Nat) (g : GrpN) : Option Nat :=
  if at'.getD g.frm 0 = (a : Int) then
    (ldGo v h g.reads (grpBusy u live g) (v.code.length + 1) a [] []).bind fun lm =>
    (insGoC u v h at' lm.2 (grpBehind u live g) g.frm (g.til + 1 - g.frm) lm.1).bind fun b =>
    if 0 ≤ g.wr ∧ homeN h g.wr ≤ -2 then nxtC v b (storeI (-2 - homeN h g.wr) ((v.code.getD (b - 1) ins0).a)) else some b
  else none
theorem grpChkC_eq (u v : UntN) (live : List (List Int)) (h at' : List Int) (a : Nat) (g : GrpN) : grpChk u v live h at' a g = grpChkC u v live h at' a g := by
  unfold grpChk grpChkC
  congr 1
  congr 1
  funext lm
  rw [insGoC_eq]
  congr 1
  funext b
  rw [nxtC_eq]
def grpsChkC (u v : UntN) (live : List (List Int)) (h at' : List Int) : List GrpN → Nat → Option Nat
  | [], a => some a
  | g :: l, a => (grpChkC u v live h at' a g).bind (grpsChkC u v live h at' l)
theorem grpsChkC_eq (u v : UntN) (live : List (List Int)) (h at' : List Int) : ∀ l a, grpsChk u v live h at' l a = grpsChkC u v live h at' l a
  | [], _ => rfl
  | g :: l, a => by
    unfold grpsChk grpsChkC
    rw [grpChkC_eq]
    congr 1
    funext b
    exact grpsChkC_eq u v live h at' l b
def chkC (u v : UntN) (h at' : List Int) : Int :=
  if writB u = true then (if (homedB u v h at' && (((begC v h u.args.toNat).bind (grpsChkC u v (liveL u) h at' (groupsL u))) == some v.code.length) && grdsB u v at') = true then 0 else 11) else 1
theorem chkC_eq (u v : UntN) (h at' : List Int) : chkRegs u v h at' = chkC u v h at' := by
  unfold chkRegs chkC standB
  rw [begC_eq]
  have e : grpsChk u v (liveL u) h at' (groupsL u) = grpsChkC u v (liveL u) h at' (groupsL u) := by
    funext a
    exact grpsChkC_eq ..
  rw [e]
/-- The unit of the chapter's examples. -/
def exU : UntN := ⟨⟨#[65]⟩, ⟨#[]⟩, 1, 4, 0, [⟨1, 1, 5, 0⟩, ⟨6, 2, 0, 1⟩, ⟨8, 3, 2, 0⟩, ⟨29, 3, 0, 0⟩, ⟨29, 1, 0, 0⟩, ⟨28, -1, 0, 0⟩], []⟩
def exW : UntN := ⟨⟨#[65]⟩, ⟨#[]⟩, 1, 3, 0, [⟨1, 1, 5, 0⟩, ⟨6, 2, 0, 1⟩, ⟨8, 0, 2, 0⟩, ⟨29, 0, 0, 0⟩, ⟨29, 1, 0, 0⟩, ⟨28, -1, 0, 0⟩], []⟩
def exY : UntN := ⟨⟨#[65]⟩, ⟨#[]⟩, 1, 3, 0, [⟨1, 1, 5, 0⟩, ⟨6, 2, 0, 1⟩, ⟨8, 1, 2, 0⟩, ⟨29, 1, 0, 0⟩, ⟨29, 1, 0, 0⟩, ⟨28, -1, 0, 0⟩], []⟩
theorem ex_writ : writB exU = true := by decide +kernel
theorem ex_least : leastN exU = 2 := by decide +kernel
theorem ex_press : pressN exU = 3 := by decide +kernel
theorem ex_clash : clashL exU = [(0, 1), (0, 2), (1, 2), (1, 3)] := by decide +kernel
theorem ex_one : chkRegs exU exW [0, 1, 2, 0] [0, 1, 2, 3, 4, 5] = 0 := by
  rw [chkC_eq]
  decide +kernel
theorem ex_two : chkRegs exU exY [0, 1, 2, 1] [0, 1, 2, 3, 4, 5] = 11 := by
  rw [chkC_eq]
  decide +kernel

attribute [local go_sem] Oper.semAt_some
/-- A unit of the sizes that are asked. -/
def fewB (u : UntN) : Bool :=
  (decide (u.code.length ≤ 60) || (decide (600 < u.code.length) && decide (u.code.length ≤ 610))) && (decide (u.guards.length ≤ 10) || (decide (40 < u.guards.length) && decide (u.guards.length ≤ 50))) &&
  (decide (u.slots ≤ 20) || (decide (200 < u.slots) && decide (u.slots ≤ 210)))
set_option maxRecDepth 100000 in
set_option maxHeartbeats 4000000 in
theorem few_any (u : UntN) (ca : Option Addr) (cc : Nat) (ga : Option Addr) (gc : Nat) (w : World) : Calls Tryz.prog 11 #[vU u ca cc ga gc] w (RetB (.bool (fewB u)) w) := by
  have HB := hid (bnew w (oU u ca cc ga gc))
  obtain ⟨c1, c2, c3, c4, c5, c6, c7⟩ := box7 (heapn w (oU u ca cc ga gc) _ rfl)
  have HF : Hid (fewB u = ((decide (u.code.length ≤ 60) || (decide (600 < u.code.length) && decide (u.code.length ≤ 610))) && (decide (u.guards.length ≤ 10) || (decide (40 < u.guards.length) && decide (u.guards.length ≤ 50))) && (decide (u.slots ≤ 20) || (decide (200 < u.slots) && decide (u.slots ≤ 210))))) := hid rfl
  generalize fewB u = fb at *
  generalize u.code.length = n at *
  generalize u.guards.length = g at *
  generalize u.slots = s at *
  rcases (show (n : Int) ≤ 60 ∨ (¬ (n : Int) ≤ 60 ∧ ¬ 600 < (n : Int)) ∨ (¬ (n : Int) ≤ 60 ∧ 600 < (n : Int) ∧ (n : Int) ≤ 610) ∨ (¬ (n : Int) ≤ 60 ∧ 600 < (n : Int) ∧ ¬ (n : Int) ≤ 610) by omega) with n1 | ⟨n1, n2⟩ | ⟨n1, n2, n3⟩ | ⟨n1, n2, n3⟩
  ·
    rcases (show (g : Int) ≤ 10 ∨ (¬ (g : Int) ≤ 10 ∧ ¬ 40 < (g : Int)) ∨ (¬ (g : Int) ≤ 10 ∧ 40 < (g : Int) ∧ (g : Int) ≤ 50) ∨ (¬ (g : Int) ≤ 10 ∧ 40 < (g : Int) ∧ ¬ (g : Int) ≤ 50) by omega) with g1 | ⟨g1, g2⟩ | ⟨g1, g2, g3⟩ | ⟨g1, g2, g3⟩
    ·
      rcases (show (s : Int) ≤ 20 ∨ (¬ (s : Int) ≤ 20 ∧ ¬ 200 < (s : Int)) ∨ (¬ (s : Int) ≤ 20 ∧ 200 < (s : Int) ∧ (s : Int) ≤ 210) ∨ (¬ (s : Int) ≤ 20 ∧ 200 < (s : Int) ∧ ¬ (s : Int) ≤ 210) by omega) with s1 | ⟨s1, s2⟩ | ⟨s1, s2, s3⟩ | ⟨s1, s2, s3⟩
      ·
        have HV : Hid (fb = true) := hid (by rw [HF.out]; simp; omega)
        clear HF
        go_enter Tryz.func11, Tryz.ntmps11
        go_wp2
        go_ret
        exact ⟨ret_bool HV.out.symm, HB.out⟩
      ·
        have HV : Hid (fb = false) := hid (by rw [HF.out]; simp; omega)
        clear HF
        go_enter Tryz.func11, Tryz.ntmps11
        go_wp2
        go_ret
        exact ⟨ret_bool HV.out.symm, HB.out⟩
      ·
        have HV : Hid (fb = true) := hid (by rw [HF.out]; simp; omega)
        clear HF
        go_enter Tryz.func11, Tryz.ntmps11
        go_wp2
        go_ret
        exact ⟨ret_bool HV.out.symm, HB.out⟩
      ·
        have HV : Hid (fb = false) := hid (by rw [HF.out]; simp; omega)
        clear HF
        go_enter Tryz.func11, Tryz.ntmps11
        go_wp2
        go_ret
        exact ⟨ret_bool HV.out.symm, HB.out⟩
    ·
      have HV : Hid (fb = false) := hid (by rw [HF.out]; simp; omega)
      clear HF
      go_enter Tryz.func11, Tryz.ntmps11
      go_wp2
      go_ret
      exact ⟨ret_bool HV.out.symm, HB.out⟩
    ·
      rcases (show (s : Int) ≤ 20 ∨ (¬ (s : Int) ≤ 20 ∧ ¬ 200 < (s : Int)) ∨ (¬ (s : Int) ≤ 20 ∧ 200 < (s : Int) ∧ (s : Int) ≤ 210) ∨ (¬ (s : Int) ≤ 20 ∧ 200 < (s : Int) ∧ ¬ (s : Int) ≤ 210) by omega) with s1 | ⟨s1, s2⟩ | ⟨s1, s2, s3⟩ | ⟨s1, s2, s3⟩
      ·
        have HV : Hid (fb = true) := hid (by rw [HF.out]; simp; omega)
        clear HF
        go_enter Tryz.func11, Tryz.ntmps11
        go_wp2
        go_ret
        exact ⟨ret_bool HV.out.symm, HB.out⟩
      ·
        have HV : Hid (fb = false) := hid (by rw [HF.out]; simp; omega)
        clear HF
        go_enter Tryz.func11, Tryz.ntmps11
        go_wp2
        go_ret
        exact ⟨ret_bool HV.out.symm, HB.out⟩
      ·
        have HV : Hid (fb = true) := hid (by rw [HF.out]; simp; omega)
        clear HF
        go_enter Tryz.func11, Tryz.ntmps11
        go_wp2
        go_ret
        exact ⟨ret_bool HV.out.symm, HB.out⟩
      ·
        have HV : Hid (fb = false) := hid (by rw [HF.out]; simp; omega)
        clear HF
        go_enter Tryz.func11, Tryz.ntmps11
        go_wp2
        go_ret
        exact ⟨ret_bool HV.out.symm, HB.out⟩
    ·
      have HV : Hid (fb = false) := hid (by rw [HF.out]; simp; omega)
      clear HF
      go_enter Tryz.func11, Tryz.ntmps11
      go_wp2
      go_ret
      exact ⟨ret_bool HV.out.symm, HB.out⟩
  ·
    have HV : Hid (fb = false) := hid (by rw [HF.out]; simp; omega)
    clear HF
    go_enter Tryz.func11, Tryz.ntmps11
    go_wp2
    go_ret
    exact ⟨ret_bool HV.out.symm, HB.out⟩
  ·
    rcases (show (g : Int) ≤ 10 ∨ (¬ (g : Int) ≤ 10 ∧ ¬ 40 < (g : Int)) ∨ (¬ (g : Int) ≤ 10 ∧ 40 < (g : Int) ∧ (g : Int) ≤ 50) ∨ (¬ (g : Int) ≤ 10 ∧ 40 < (g : Int) ∧ ¬ (g : Int) ≤ 50) by omega) with g1 | ⟨g1, g2⟩ | ⟨g1, g2, g3⟩ | ⟨g1, g2, g3⟩
    ·
      rcases (show (s : Int) ≤ 20 ∨ (¬ (s : Int) ≤ 20 ∧ ¬ 200 < (s : Int)) ∨ (¬ (s : Int) ≤ 20 ∧ 200 < (s : Int) ∧ (s : Int) ≤ 210) ∨ (¬ (s : Int) ≤ 20 ∧ 200 < (s : Int) ∧ ¬ (s : Int) ≤ 210) by omega) with s1 | ⟨s1, s2⟩ | ⟨s1, s2, s3⟩ | ⟨s1, s2, s3⟩
      ·
        have HV : Hid (fb = true) := hid (by rw [HF.out]; simp; omega)
        clear HF
        go_enter Tryz.func11, Tryz.ntmps11
        go_wp2
        go_ret
        exact ⟨ret_bool HV.out.symm, HB.out⟩
      ·
        have HV : Hid (fb = false) := hid (by rw [HF.out]; simp; omega)
        clear HF
        go_enter Tryz.func11, Tryz.ntmps11
        go_wp2
        go_ret
        exact ⟨ret_bool HV.out.symm, HB.out⟩
      ·
        have HV : Hid (fb = true) := hid (by rw [HF.out]; simp; omega)
        clear HF
        go_enter Tryz.func11, Tryz.ntmps11
        go_wp2
        go_ret
        exact ⟨ret_bool HV.out.symm, HB.out⟩
      ·
        have HV : Hid (fb = false) := hid (by rw [HF.out]; simp; omega)
        clear HF
        go_enter Tryz.func11, Tryz.ntmps11
        go_wp2
        go_ret
        exact ⟨ret_bool HV.out.symm, HB.out⟩
    ·
      have HV : Hid (fb = false) := hid (by rw [HF.out]; simp; omega)
      clear HF
      go_enter Tryz.func11, Tryz.ntmps11
      go_wp2
      go_ret
      exact ⟨ret_bool HV.out.symm, HB.out⟩
    ·
      rcases (show (s : Int) ≤ 20 ∨ (¬ (s : Int) ≤ 20 ∧ ¬ 200 < (s : Int)) ∨ (¬ (s : Int) ≤ 20 ∧ 200 < (s : Int) ∧ (s : Int) ≤ 210) ∨ (¬ (s : Int) ≤ 20 ∧ 200 < (s : Int) ∧ ¬ (s : Int) ≤ 210) by omega) with s1 | ⟨s1, s2⟩ | ⟨s1, s2, s3⟩ | ⟨s1, s2, s3⟩
      ·
        have HV : Hid (fb = true) := hid (by rw [HF.out]; simp; omega)
        clear HF
        go_enter Tryz.func11, Tryz.ntmps11
        go_wp2
        go_ret
        exact ⟨ret_bool HV.out.symm, HB.out⟩
      ·
        have HV : Hid (fb = false) := hid (by rw [HF.out]; simp; omega)
        clear HF
        go_enter Tryz.func11, Tryz.ntmps11
        go_wp2
        go_ret
        exact ⟨ret_bool HV.out.symm, HB.out⟩
      ·
        have HV : Hid (fb = true) := hid (by rw [HF.out]; simp; omega)
        clear HF
        go_enter Tryz.func11, Tryz.ntmps11
        go_wp2
        go_ret
        exact ⟨ret_bool HV.out.symm, HB.out⟩
      ·
        have HV : Hid (fb = false) := hid (by rw [HF.out]; simp; omega)
        clear HF
        go_enter Tryz.func11, Tryz.ntmps11
        go_wp2
        go_ret
        exact ⟨ret_bool HV.out.symm, HB.out⟩
    ·
      have HV : Hid (fb = false) := hid (by rw [HF.out]; simp; omega)
      clear HF
      go_enter Tryz.func11, Tryz.ntmps11
      go_wp2
      go_ret
      exact ⟨ret_bool HV.out.symm, HB.out⟩
  ·
    have HV : Hid (fb = false) := hid (by rw [HF.out]; simp; omega)
    clear HF
    go_enter Tryz.func11, Tryz.ntmps11
    go_wp2
    go_ret
    exact ⟨ret_bool HV.out.symm, HB.out⟩
/-- Homes of the sizes that are asked. -/
def homesB (h t : List Int) : Bool := decide (h.length ≤ 220) && decide (t.length ≤ 620)
theorem szU25 : (Tryz.prog.info? 25).map (·.size) = some 7 := by kernel_rfl
theorem code_new {W : World} {g : Nat} {c : Array Value} {l : List InsN} (h : W.heap[g]? = some (.cells c 85 (0, 0))) (hc : ∀ i (hi : i < l.length), c[i * 4]? = some (.int .i64 l[i].op) ∧ c[i * 4 + 1]? = some (.int .i64 l[i].a) ∧ c[i * 4 + 2]? = some (.int .i64 l[i].b) ∧ c[i * 4 + 3]? = some (.int .i64 l[i].c)) : RdC W (some ⟨g, 0, none⟩) l := by
  intro i hi
  obtain ⟨h0, h1, h2, h3⟩ := hc i hi
  refine ⟨g, 0, rfl, lt_of_heap h, ?_, ?_, ?_, ?_⟩ <;> rw [Nat.zero_add]
  · exact cell_in h h0
  · exact cell_in h h1
  · exact cell_in h h2
  · exact cell_in h h3
/-- What unit returns. -/
def UnitP (w : World) (e : Ending) (w' : World) : Prop := Below w.heap.size w w' ∧ ∃ ca cc, e = .returned (vU exU ca cc none 0) ∧ UnM w' exU ca cc none 0
set_option maxRecDepth 100000 in
set_option maxHeartbeats 4000000 in
theorem unit_any (w : World) : Calls Tryz.prog 41 #[] w (UnitP w) := by
  go_enter Tryz.func41, Tryz.ntmps41
  go_wp2
  have hz : ((w.alloc (Obj.cells #[.string ⟨#[65]⟩, .string ⟨#[]⟩, .int .i64 1, .int .i64 4, .int .i64 0, .slice (some ⟨w.heap.size + 1, 0, none⟩) 6 6, .slice none 0 0] 25)).alloc (Obj.cells #[.int .i64 1, .int .i64 1, .int .i64 5, .int .i64 0, .int .i64 6, .int .i64 2, .int .i64 0, .int .i64 1, .int .i64 8, .int .i64 3, .int .i64 2, .int .i64 0, .int .i64 29, .int .i64 3, .int .i64 0, .int .i64 0, .int .i64 29, .int .i64 1, .int .i64 0, .int .i64 0, .int .i64 28, .int .i64 (-1), .int .i64 0, .int .i64 0] 85)).heap[w.heap.size + 1]? = some (Obj.cells #[.int .i64 1, .int .i64 1, .int .i64 5, .int .i64 0, .int .i64 6, .int .i64 2, .int .i64 0, .int .i64 1, .int .i64 8, .int .i64 3, .int .i64 2, .int .i64 0, .int .i64 29, .int .i64 3, .int .i64 0, .int .i64 0, .int .i64 29, .int .i64 1, .int .i64 0, .int .i64 0, .int .i64 28, .int .i64 (-1), .int .i64 0, .int .i64 0] 85) := heapn _ _ _ (by simp)
  refine bodyPost_ret (v := vU exU (some ⟨w.heap.size + 1, 0, none⟩) 6 none 0) (results_cell_row rfl _ _ w.heap.size 25 _ (0, 0) _ rfl (keepBox (bnew _ _) (heapn _ _ _ rfl)) Tryz.underlying25 rfl szU25) rfl ⟨(bnew _ _).step (bnew _ _), _, _, rfl, ⟨?_, ?_, Nat.le_refl _, Nat.le_refl _⟩⟩
  · exact code_new hz (fun i hi => by
      have hi6 : i < 6 := hi
      match i, hi6 with
      | 0, _ => exact ⟨rfl, rfl, rfl, rfl⟩
      | 1, _ => exact ⟨rfl, rfl, rfl, rfl⟩
      | 2, _ => exact ⟨rfl, rfl, rfl, rfl⟩
      | 3, _ => exact ⟨rfl, rfl, rfl, rfl⟩
      | 4, _ => exact ⟨rfl, rfl, rfl, rfl⟩
      | 5, _ => exact ⟨rfl, rfl, rfl, rfl⟩)
  · exact fun i hi => absurd hi (Nat.not_lt_zero i)
set_option maxRecDepth 100000 in
set_option maxHeartbeats 4000000 in
theorem sameI_any (l m : List (Int)) (a b : Option Addr) (c d : Nat) (w : World) (hl : RdI w a l) (hm : RdI w b m) (hll : l.length ≤ 1000000) (hml : m.length ≤ 1000000) :
    Calls Tryz.prog 34 #[.slice a l.length c, .slice b m.length d] w (RetB (.bool (decide (l = m))) w) := by
  have HL := hid hl
  have HM := hid hm
  clear hl hm
  by_cases hlen : l.length = m.length
  · have HLN := hid hlen
    have d1 : ((l.length : Int) != (m.length : Int)) = false := by rw [hlen]; simp
    clear hlen
    go_enter Tryz.func34, Tryz.ntmps34
    go_wp2
    go_loopg [5] l.length (fun gh s5 wr => ∃ k : Nat, k ≤ l.length ∧ gh = l.length - k ∧ s5 = .int .i64 k ∧ Hid (∀ i (h : i < l.length) (h2 : i < m.length), i < k → l[i] = m[i]) ∧ Hid (Below w.heap.size w wr))
    case atStart => exact ⟨0, Nat.zero_le _, rfl, rfl, hid (fun i _ _ h => absurd h (Nat.not_lt_zero i)), hid (Below.refl _ _)⟩
    case round =>
      obtain ⟨k, hk, rfl, rfl, HE, HB⟩ := hrel
      by_cases hkl : k < l.length
      · have nk : (k : Int) < (l.length : Int) := by omega
        have hkm : k < m.length := by rw [← HLN.out]; exact hkl
        have nm : (k : Int) < (m.length : Int) := by omega
        obtain ⟨b2, o2, ha, _, h0⟩ := HL.out.below HB.out k hkl
        obtain ⟨b3, o3, hb, _, h1⟩ := HM.out.below HB.out k hkm
        subst ha
        subst hb
        have HX : Hid (l[k] = m[k] → ∀ i (h : i < l.length) (h2 : i < m.length), i < k + 1 → l[i] = m[i]) := hid (fun e i h h2 hi => by
          by_cases hik : i = k
          · subst hik; exact e
          · exact HE.out i h h2 (by omega))
        have HNE : Hid (l[k] ≠ m[k] → l ≠ m) := hid (fun e h => e (by subst h; rfl))
        generalize l[k] = x at *
        generalize m[k] = y at *
        by_cases hxy : x = y
        · have HX2 := hid (HX.out hxy)
          have e1 : (x != y) = false := by rw [hxy]; simp
          clear hxy HX
          go_upto_region 6 with fail
          go_quiet (fail)
          go_wp2
          go_roundg (l.length - (k + 1))
          case measure => omega
          case rel => exact ⟨k + 1, by omega, rfl, by go_num, HX2, hid (bdrewN HB.out _)⟩
        · have HN2 := hid (HNE.out hxy)
          have e1 : (x != y) = true := by simpa using hxy
          clear hxy HX
          go_upto_region 6 with fail
          go_quiet (fail)
          go_wp2
          go_ret
          exact ⟨ret_bool (decide_eq_false HN2.out).symm, bdrewN HB.out _⟩
      · obtain rfl : k = l.length := by omega
        have nk : ¬ (l.length : Int) < (l.length : Int) := by omega
        go_wp2
        go_ret
        exact ⟨ret_bool (decide_eq_true (List.ext_getElem HLN.out fun i h h2 => HE.out i h h2 h)).symm, HB.out⟩
  · have HN : Hid (l ≠ m) := hid (fun e => hlen (by rw [e]))
    have d1 : ((l.length : Int) != (m.length : Int)) = true := by simp; omega
    clear hlen
    go_enter Tryz.func34, Tryz.ntmps34
    go_wp2
    go_ret
    exact ⟨ret_bool (decide_eq_false HN.out).symm, Below.refl _ _⟩

theorem und48 : Tryz.prog.underlying 48 = some (.array 2 3) := by kernel_rfl
theorem cells3n : Tryz.prog.cellsOf 3 = 1 := by kernel_rfl
theorem part48_0 (x y : Int) (w : World) : (part 3 #[.int .i64 x, .int .i64 y] (0 * 1)).run Tryz.prog w = .ok (.int .i64 x) w := by
  have a3 := Tryz.isAgg3
  have z3 := Tryz.sizeOf3
  simp [part, go_sem]
theorem part48_1 (x y : Int) (w : World) : (part 3 #[.int .i64 x, .int .i64 y] (1 * 1)).run Tryz.prog w = .ok (.int .i64 y) w := by
  have a3 := Tryz.isAgg3
  have z3 := Tryz.sizeOf3
  simp [part, go_sem]
theorem eq48 (p q : Int × Int) (w : World) : (Op.equalIn 10000 48 (.agg #[.int .i64 p.1, .int .i64 p.2]) (.agg #[.int .i64 q.1, .int .i64 q.2])).run Tryz.prog w = .ok (decide (p = q)) w := by
  obtain ⟨i, hi, _⟩ := info_parts info3
  rw [show (10000 : Nat) = 9998 + 2 from rfl, run_equalIn_array w (9998 + 1) _ _ und48 hi, cells3n]
  have h0 := part48_0 p.1 p.2 w
  have h1 := part48_1 p.1 p.2 w
  have g0 := part48_0 q.1 q.2 w
  have g1 := part48_1 q.1 q.2 w
  have e0 := run_equalIn_int (P := Tryz.prog) w 9998 3 .i64 .i64 p.1 q.1 Tryz.underlying3
  have e1 := run_equalIn_int (P := Tryz.prog) w 9998 3 .i64 .i64 p.2 q.2 Tryz.underlying3
  obtain ⟨a, b⟩ := p
  obtain ⟨c, d⟩ := q
  show (Op.eqItems (9998 + 1) 3 1 _ _ [0, 1]).run Tryz.prog w = _
  simp only [Op.eqItems, Sem.run_bind, h0, g0, e0, Result.andThen_ok]
  by_cases hac : a = c
  · subst hac
    simp only [beq_self_eq_true, Bool.not_true, Bool.false_eq_true, if_false, Sem.run_bind, h1, g1, e1, Result.andThen_ok]
    by_cases hbd : b = d
    · subst hbd
      simp [Sem.run_pure]
    · have : (b == d) = false := by simpa using hbd
      simp [this, Sem.run_pure, hbd]
  · have : (a == c) = false := by simpa using hac
    simp [this, Sem.run_pure, hac]
theorem neqP (p q : Int × Int) (w : World) : (binOp .neq 48 (.agg #[.int .i64 p.1, .int .i64 p.2]) (.agg #[.int .i64 q.1, .int .i64 q.2])).run Tryz.prog w = .ok (.bool (!decide (p = q))) w := by
  rw [run_neq_struct, eq48 p q w]
  rfl
set_option maxRecDepth 100000 in
set_option maxHeartbeats 4000000 in
theorem sameP_any (l m : List (Int × Int)) (a b : Option Addr) (c d : Nat) (w : World) (hl : RdX encP w a l) (hm : RdX encP w b m) (hll : l.length ≤ 1000000) (hml : m.length ≤ 1000000) :
    Calls Tryz.prog 35 #[.slice a l.length c, .slice b m.length d] w (RetB (.bool (decide (l = m))) w) := by
  have HL := hid hl
  have HM := hid hm
  clear hl hm
  by_cases hlen : l.length = m.length
  · have HLN := hid hlen
    have d1 : ((l.length : Int) != (m.length : Int)) = false := by rw [hlen]; simp
    clear hlen
    go_enter Tryz.func35, Tryz.ntmps35
    go_wp2
    go_loopg [5] l.length (fun gh s5 wr => ∃ k : Nat, k ≤ l.length ∧ gh = l.length - k ∧ s5 = .int .i64 k ∧ Hid (∀ i (h : i < l.length) (h2 : i < m.length), i < k → l[i] = m[i]) ∧ Hid (Below w.heap.size w wr))
    case atStart => exact ⟨0, Nat.zero_le _, rfl, rfl, hid (fun i _ _ h => absurd h (Nat.not_lt_zero i)), hid (Below.refl _ _)⟩
    case round =>
      obtain ⟨k, hk, rfl, rfl, HE, HB⟩ := hrel
      by_cases hkl : k < l.length
      · have nk : (k : Int) < (l.length : Int) := by omega
        have hkm : k < m.length := by rw [← HLN.out]; exact hkl
        have nm : (k : Int) < (m.length : Int) := by omega
        obtain ⟨b2, o2, ha, _, h0⟩ := HL.out.below HB.out k hkl
        obtain ⟨b3, o3, hb, _, h1⟩ := HM.out.below HB.out k hkm
        have q0 : wr.cell? ⟨b2, o2 + k * 2, none⟩ = some (.int .i64 l[k].1) := h0 0 _ rfl
        have q1 : wr.cell? ⟨b2, o2 + k * 2 + 1, none⟩ = some (.int .i64 l[k].2) := h0 1 _ rfl
        have q2 : wr.cell? ⟨b3, o3 + k * 2, none⟩ = some (.int .i64 m[k].1) := h1 0 _ rfl
        have q3 : wr.cell? ⟨b3, o3 + k * 2 + 1, none⟩ = some (.int .i64 m[k].2) := h1 1 _ rfl
        subst ha
        subst hb
        clear h0 h1
        have HX : Hid (l[k] = m[k] → ∀ i (h : i < l.length) (h2 : i < m.length), i < k + 1 → l[i] = m[i]) := hid (fun e i h h2 hi => by
          by_cases hik : i = k
          · subst hik; exact e
          · exact HE.out i h h2 (by omega))
        have HNE : Hid (l[k] ≠ m[k] → l ≠ m) := hid (fun e h => e (by subst h; rfl))
        generalize l[k] = x at *
        generalize m[k] = y at *
        have HNQ := fun w => neqP x y w
        obtain ⟨e, he⟩ : ∃ e, e = decide (x = y) := ⟨_, rfl⟩
        rw [← he] at HNQ
        have hg48 : Tryz.prog.eqGuardType Tryz.prog.depth 48 = false := by kernel_rfl
        cases e with
        | true =>
          have HX2 := hid (HX.out (of_decide_eq_true he.symm))
          clear he HX
          go_upto_region 6 with fail
          go_quiet (fail)
          go_wp2
          go_roundg (l.length - (k + 1))
          case measure => omega
          case rel => exact ⟨k + 1, by omega, rfl, by go_num, HX2, hid (bdrewN HB.out _)⟩
        | false =>
          have HN2 := hid (HNE.out (of_decide_eq_false he.symm))
          clear he HX
          go_upto_region 6 with fail
          go_quiet (fail)
          go_wp2
          go_ret
          exact ⟨ret_bool (decide_eq_false HN2.out).symm, bdrewN HB.out _⟩
      · obtain rfl : k = l.length := by omega
        have nk : ¬ (l.length : Int) < (l.length : Int) := by omega
        go_wp2
        go_ret
        exact ⟨ret_bool (decide_eq_true (List.ext_getElem HLN.out fun i h h2 => HE.out i h h2 h)).symm, HB.out⟩
  · have HN : Hid (l ≠ m) := hid (fun e => hlen (by rw [e]))
    have d1 : ((l.length : Int) != (m.length : Int)) = true := by simp; omega
    clear hlen
    go_enter Tryz.func35, Tryz.ntmps35
    go_wp2
    go_ret
    exact ⟨ret_bool (decide_eq_false HN.out).symm, Below.refl _ _⟩
end Go.Proofs.YtgalekifgnecjaaGreat
