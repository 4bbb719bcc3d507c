/- slices.Repeat of one number. depth of package core, plainly. A function that has run loops over an iterator leaves with their marks. What the checks of units and programs of package core say, plainly. -/
import Derived.Test.YtecpkjhfbmchgaaU17
import Derived.Laws.CopyOwn
namespace Go.Proofs.Ytecpkjhfbmchgaa
open Go.RowKit


/-- A row of which k places are filled. -/
def fillV (n : Nat) (v : Int) (k : Nat) : List Value := List.replicate k (.int .i64 v) ++ List.replicate (n - k) (.int .i64 0)
theorem fillV_length {n k : Nat} (v : Int) (h : k ≤ n) : (fillV n v k).length = n := by unfold fillV; simp; omega
theorem fillV_splice {n k m : Nat} (v : Int) (h : k + m ≤ n) : splice (fillV n v k) k (List.replicate m (.int .i64 v)) = fillV n v (k + m) := by
  unfold splice fillV
  rw [List.take_left' (by simp), List.drop_append, List.length_replicate, List.length_replicate]
  have e1 : (List.replicate k (Value.int .i64 v)).drop (k + m) = [] := by simp
  rw [e1, List.nil_append, List.drop_replicate, ← List.append_assoc, List.replicate_append_replicate]
  congr 2
  omega
def RepRet (n : Nat) (v : Int) (w : World) (e : Ending) (w' : World) : Prop := ∃ g, e = .returned (.slice (some ⟨g, 0, none⟩) n n) ∧ BI w' g (List.replicate n v) ∧ w.heap.size ≤ g ∧ Below w.heap.size w w'
theorem fillV_bi {w : World} {g n : Nat} {v : Int} (h : w.heap[g]? = some (.cells (fillV n v n).toArray 3 (0, 0))) : BI w g (List.replicate n v) := by
  refine ⟨_, h, fun i hi => ?_⟩
  have hi' : i < n := by simpa using hi
  unfold fillV
  simp [hi']
theorem one_cells (_n m : Nat) (v : Int) : ∀ x ∈ List.replicate m (Value.int .i64 v), x.oneCell' = true := by
  intro x hx
  rw [List.eq_of_mem_replicate hx]
  rfl
set_option maxRecDepth 100000 in
set_option maxHeartbeats 4000000 in
theorem repeat_any (v : Int) (n b off cap : Nat) (w : World) (hb : w.cell? ⟨b, off, none⟩ = some (.int .i64 v)) (hn : n ≤ 1000000) : Calls Try.prog 75 #[.slice (some ⟨b, off, none⟩) 1 cap, .int .i64 n] w (RepRet n v w) := by
  have HM : Hid (∀ w, Calls Try.prog 81 #[.int .u64 1, .int .u64 n] w (Ret2 (.int .u64 0) (.int .u64 n) w)) := hid (fun w => by
    have h := mul_any 1 n (by omega) (by omega) w
    have hz : ((1 * n / 18446744073709551616 : Nat) : Int) = 0 := by omega
    have hl : ((1 * n % 18446744073709551616 : Nat) : Int) = n := by omega
    rw [hz, hl] at h
    exact h)
  have HC := hid hb
  have hmk := fun w => run_make_row' (P := Try.prog) 33 3 (.int .i64 0) 8 Try.underlying33 info3 rfl .i64 .i64 n (by omega) (by omega) w
  clear hb
  go_enter Try.func75, Try.ntmps75
  go_upto_region 6 with (go_at_call 81; (with_reducible refine (HM.out _).mono ?_); rintro e w1 ⟨rfl, hb1⟩; have HB1 := hid hb1; clear hb1)
  have i3 : (Try.prog.info? 3).map (·.size) = some 1 := by kernel_rfl
  go_upto_region 7 with fail
  have hm : (w1.alloc (.cells (madeCells #[.int .i64 0] n) 3)).heap[w1.heap.size]? = some (.cells (fillV n v 0).toArray 3 (0, 0)) := by
    refine (heapn _ _ _ rfl).trans ?_
    unfold fillV
    have e : madeCells #[Value.int .i64 0] n = (List.replicate n (Value.int .i64 0)).toArray := by
      apply Array.ext
      · simp [madeCells]
      · intro i h1 h2
        simp [madeCells, Nat.mod_one]
    rw [e]
    simp
  have hc1 : (w1.alloc (.cells (madeCells #[.int .i64 0] n) 3)).cell? ⟨b, off, none⟩ = some (.int .i64 v) := cell_later (HB1.out.step (bnew _ _)) HC.out
  have HBA := hid (bnew w1 (.cells (madeCells #[.int .i64 0] n) 3))
  generalize w1.alloc (.cells (madeCells #[.int .i64 0] n) 3) = w2 at *
  obtain ⟨gR, hgR⟩ : ∃ g, g = w1.heap.size := ⟨_, rfl⟩
  rw [← hgR] at hm ⊢
  have HGR := hid hgR
  have HM2 := hid hm
  have HC2 := hid hc1
  clear hgR hm hc1 hmk
  obtain ⟨c, hc⟩ : ∃ c, c = Nat.min 1 n := ⟨_, rfl⟩
  have HCE := hid hc
  clear hc
  obtain ⟨X, hX⟩ : ∃ X, X = List.replicate c (Value.int .i64 v) := ⟨_, rfl⟩
  have HX := hid hX
  clear hX
  have hc1 : c ≤ 1 := by rw [HCE.out]; exact Nat.min_le_left 1 n
  have hcn : c ≤ n := by rw [HCE.out]; exact Nat.min_le_right 1 n
  have HP : Hid (∀ j x, X[j]? = some x → w2.cell? ((⟨b, off, none⟩ : Addr).add j) = some x) := hid (fun j x hj => by
    rw [HX.out, List.getElem?_replicate] at hj
    by_cases hjc : j < c
    · rw [if_pos hjc] at hj
      cases hj
      obtain rfl : j = 0 := by omega
      exact HC2.out
    · rw [if_neg hjc] at hj
      cases hj)
  have HF : Hid (X.length = Nat.min 1 n ∧ 0 + X.length ≤ (fillV n v 0).length ∧ ∀ x ∈ X, x.oneCell' = true) := hid ⟨by rw [HX.out, List.length_replicate]; exact HCE.out, by rw [HX.out, List.length_replicate, fillV_length v (Nat.zero_le _)]; omega, by rw [HX.out]; exact one_cells n c v⟩
  have hgr : w1.heap.size ≤ gR := by rw [HGR.out]; exact Nat.le_refl _
  go_upto_region 8 with (refine wpList_copy_splice rfl (.tmp 31) (.tmp 32) 33 33 rfl 3 Try.underlying33 i3 (some ⟨gR, 0, none⟩) (some ⟨b, off, none⟩) n n 1 cap rfl rfl gR 0 (fillV n v 0) 3 HM2.out X HF.out.1 (fun _ => ⟨rfl, _, rfl, HP.out⟩) HF.out.2.1 HF.out.2.2 w1.heap.size w1 HBA.out hgr ?_; intro w3 HM3 hb3; have HB3 := hid hb3; clear hb3)
  have HM4 : Hid (w3.heap[gR]? = some (.cells (fillV n v c).toArray 3 (0, 0))) := hid (by
    have h := HM3.out
    rw [HX.out, fillV_splice v (by omega), Nat.zero_add] at h
    exact h)
  have hxl : X.length = c := by rw [HX.out, List.length_replicate]
  rw [hxl]
  have HCN := hid (show 0 < n → 0 < c from fun h => by have := HCE.out; have h2 : Nat.min 1 n = 1 := Nat.min_eq_left h; omega)
  clear hxl hc1
  go_loopg [8] (n - c) (fun gh s8 wr => ∃ k : Nat, k ≤ n ∧ (0 < n → 0 < k) ∧ gh = n - k ∧ s8 = .int .i64 k ∧ Hid (wr.heap[gR]? = some (.cells (fillV n v k).toArray 3 (0, 0)) ∧ Below w1.heap.size w1 wr))
  case atStart => exact ⟨c, hcn, HCN.out, rfl, rfl, hid ⟨HM4.out, HB3.out⟩⟩
  case round =>
    obtain ⟨k, hk, hk0, rfl, rfl, HR⟩ := hrel
    by_cases hlk : k < n
    · have nk : (k : Int) < (n : Int) := by omega
      have hkp : 0 < k := hk0 (by omega)
      obtain ⟨m, hm⟩ : ∃ m, m = Nat.min k (n - k) := ⟨_, rfl⟩
      have hm1 : m ≤ n - k := by rw [hm]; exact Nat.min_le_right _ _
      have hmk : m ≤ k := by rw [hm]; exact Nat.min_le_left _ _
      have hmp : 0 < m := by rw [hm]; exact Nat.lt_min.2 ⟨hkp, by omega⟩
      obtain ⟨Y, hY⟩ : ∃ Y, Y = List.replicate m (Value.int .i64 v) := ⟨_, rfl⟩
      have HYP : Hid (∀ wx : World, wx.heap[gR]? = some (.cells (fillV n v k).toArray 3 (0, 0)) → ∀ j x, Y[j]? = some x → wx.cell? ((⟨gR, 0, none⟩ : Addr).add j) = some x) := hid (fun wx hwx j x hj => by
        rw [hY, List.getElem?_replicate] at hj
        by_cases hjc : j < m
        · rw [if_pos hjc] at hj
          cases hj
          rw [Addr.add_lit, Nat.zero_add, cell_of_row _ _ _ _ _ _ hwx]
          unfold fillV
          rw [List.getElem?_toArray, List.getElem?_append_left (by rw [List.length_replicate]; omega), List.getElem?_replicate, if_pos (by omega)]
        · rw [if_neg hjc] at hj
          cases hj)
      have HYF : Hid (Y.length = Nat.min k (n - k) ∧ k + Y.length ≤ (fillV n v k).length ∧ ∀ x ∈ Y, x.oneCell' = true) := hid ⟨by rw [hY, List.length_replicate]; exact hm, by rw [hY, List.length_replicate, fillV_length v hk]; omega, by rw [hY]; exact one_cells n m v⟩
      have HY := hid (And.intro hY (And.intro hm1 hmp))
      clear hY hm hm1 hmk hmp
      go_upto_region 9 with fail
      have hle : (k : Int) ≤ (n : Int) := by omega
      have hle0 : (0 : Int) ≤ (k : Int) := by omega
      have hne : ¬ n = k := by omega
      clear hk0 hkp hcn
      go_region_law (refine step_copy_splice rfl (.tmp 41) (.tmp 44) 33 33 rfl 3 Try.underlying33 i3 (some ⟨gR, k, none⟩) (some ⟨gR, 0, none⟩) (n - k) (n - k) k n (by simp [Act.eval, Act.put]) (by simp [Act.eval, Act.put]) gR k (fillV n v k) 3 HR.out.1 Y HYF.out.1 (fun _ => ⟨rfl, _, rfl, HYP.out _ HR.out.1⟩) HYF.out.2.1 HYF.out.2.2 w1.heap.size w1 (by repeat (first | exact HR.out.2 | refine Below.drew ?_)) hgr ?_
                     intro w4 HM5 hb4
                     have HB5 := hid hb4
                     clear hb4)
      have hyl : Y.length = m := by rw [HY.out.1, List.length_replicate]
      have HM6 : Hid (w4.heap[gR]? = some (.cells (fillV n v (k + m)).toArray 3 (0, 0))) := hid (by
        have h := HM5.out
        rw [HY.out.1, fillV_splice v (by have := HY.out.2.1; have := hle; omega)] at h
        exact h)
      rw [hyl]
      clear hyl
      have hmb := HY.out.2
      have hwr : IntKind.i64.wrap ((k : Int) + (m : Int)) = ((k + m : Nat) : Int) := by rw [IntKind.wrap_i64]; omega
      go_wp2_with fail
      go_roundg (n - (k + m))
      case measure => have := HY.out.2; omega
      case rel => exact ⟨k + m, by omega, fun _ => by omega, rfl, by first | rfl | exact congrArg _ hwr | go_num, hid ⟨HM6.out, HB5.out⟩⟩
    · have hkn : k = n := by omega
      subst hkn
      go_upto_region 10 with fail
      go_wp2_with fail
      go_ret
      exact ⟨gR, rfl, fillV_bi HR.out.1, Nat.le_trans HB1.out.size hgr, HB1.out.step HR.out.2⟩


/-- What a lead makes of the depth. -/
def dpVal (i : InsN) (d how : Int) : Int := if how = 2 then 0 else d + changeN i how
/-- A lead that does not fit the depths found so far. -/
def dpBad (v h : Int) : Bool := !inN v 0 40 || (decide (0 ≤ h) && (h != v))
def dpLead (code : List InsN) (t : Nat) (s : List Int × List Int) (x : Int × Int) : Option (List Int × List Int) :=
  if dpBad (dpVal (code.getD t ins0) (s.1.getD t 0) x.2) (s.1.getD x.1.toNat 0) = true then none
  else if s.1.getD x.1.toNat 0 < 0 then some (s.1.set x.1.toNat (dpVal (code.getD t ins0) (s.1.getD t 0) x.2), s.2 ++ [x.1]) else some s
def dpLeads (code : List InsN) (t : Nat) : List (Int × Int) → List Int × List Int → Option (List Int × List Int)
  | [], s => some s
  | x :: l, s => (dpLead code t s x).bind (dpLeads code t l)
theorem dpLeads_append (code : List InsN) (t : Nat) : ∀ (l l' : List (Int × Int)) (s : List Int × List Int), dpLeads code t (l ++ l') s = (dpLeads code t l s).bind (dpLeads code t l')
  | [], _, _ => rfl
  | x :: l, l', s => by
    show (dpLead code t s x).bind _ = ((dpLead code t s x).bind _).bind _
    cases dpLead code t s x with
    | none => rfl
    | some s' => exact dpLeads_append code t l l' s'
def dpAll (u : UntN) : Nat → List Int → List Int → Option (List Int)
  | _, d, [] => some d
  | 0, _, _ :: _ => none
  | f + 1, d, a :: r => (dpLeads u.code a.toNat (leadsL u a.toNat) (d, r)).bind fun s => dpAll u f s.1 s.2
/-- The depth ahead of every instruction. -/
def depN (u : UntN) : Option (List Int) := dpAll u u.code.length ((List.replicate u.code.length (-1)).set 0 0) [0]
def negs (d : List Int) : Nat := d.countP (· < 0)
theorem negs_set {d : List Int} {k : Nat} {v : Int} (hk : k < d.length) (h : d[k] < 0) (hv : 0 ≤ v) : negs (d.set k v) + 1 = negs d := by
  unfold negs
  rw [List.countP_set hk]
  have h1 : decide (d[k] < 0) = true := decide_eq_true h
  have h2 : decide (v < 0) = false := decide_eq_false (by omega)
  have h3 : 0 < d.countP (· < 0) := List.countP_pos_iff.2 ⟨_, List.getElem_mem hk, h1⟩
  simp only [h1, h2]
  simp
  omega
/-- What stands while the depths are sought. -/
structure DpOk (n : Nat) (d op : List Int) : Prop where
  len : d.length = n
  rng : ∀ x, x ∈ d → -1 ≤ x ∧ x ≤ 40
  opn : ∀ x, x ∈ op → 0 ≤ x ∧ x < n
theorem inN_iff (v lo hi : Int) : inN v lo hi = true ↔ lo ≤ v ∧ v ≤ hi := by unfold inN; simp
theorem dpLead_ok {code : List InsN} {n t : Nat} {s s' : List Int × List Int} {x : Int × Int} (h : DpOk n s.1 s.2) (hx : 0 ≤ x.1 ∧ x.1 < n) (e : dpLead code t s x = some s') : DpOk n s'.1 s'.2 ∧ negs s'.1 + s'.2.length = negs s.1 + s.2.length := by
  unfold dpLead at e
  split at e
  · cases e
  · rename_i hb
    have hb2 : inN (dpVal (code.getD t ins0) (s.1.getD t 0) x.2) 0 40 = true := by
      unfold dpBad at hb
      simp at hb
      exact hb.1
    obtain ⟨v0, v1⟩ := (inN_iff _ _ _).1 hb2
    have hk : x.1.toNat < s.1.length := by rw [h.len]; omega
    split at e
    · rename_i hn
      cases e
      rw [getD_in hk] at hn
      refine ⟨⟨by rw [List.length_set]; exact h.len, ?_, ?_⟩, ?_⟩
      · intro y hy
        rcases List.mem_or_eq_of_mem_set hy with h1 | rfl
        · exact h.rng y h1
        · exact ⟨by omega, v1⟩
      · intro y hy
        rcases List.mem_append.1 hy with h1 | h1
        · exact h.opn y h1
        · rw [List.mem_singleton.1 h1]
          exact hx
      · have := negs_set hk hn v0
        show negs (s.1.set x.1.toNat (dpVal (code.getD t ins0) (s.1.getD t 0) x.2)) + (s.2 ++ [x.1]).length = _
        rw [List.length_append, List.length_singleton]
        omega
    · cases e
      exact ⟨h, rfl⟩
theorem dpLeads_ok {code : List InsN} {n t : Nat} : ∀ {l : List (Int × Int)} {s s' : List Int × List Int}, DpOk n s.1 s.2 → (∀ x, x ∈ l → 0 ≤ x.1 ∧ x.1 < n) → dpLeads code t l s = some s' → DpOk n s'.1 s'.2 ∧ negs s'.1 + s'.2.length = negs s.1 + s.2.length
  | [], s, s', h, _, e => by cases e; exact ⟨h, rfl⟩
  | x :: l, s, s', h, hx, e => by
    unfold dpLeads at e
    cases h1 : dpLead code t s x with
    | none => rw [h1] at e; cases e
    | some s1 =>
      rw [h1] at e
      obtain ⟨k1, k2⟩ := dpLead_ok h (hx x (List.mem_cons_self ..)) h1
      obtain ⟨m1, m2⟩ := dpLeads_ok k1 (fun y hy => hx y (List.mem_cons_of_mem _ hy)) e
      exact ⟨m1, by omega⟩

open Go.RowKit Go.Shelf

def markD (D : Nat) : Deferred := { target := .collected D, args := #[] }
theorem leaves_marks {F : Fence} {n : Nat} {P : Program} {fn : Func} {tmps : Array Value} {R : Ending → World → Prop} {B : Nat} {w0 : World} :
    ∀ (Ds : List Nat) (W : World), Below B w0 W → (∀ D, D ∈ Ds → B ≤ D ∧ W.heap[D]? = some (.deferred (some []))) → Ds.Nodup →
      (∀ W', KeepBut (fun _ => False) W W' → Below B w0 W' → LeavesIn F n P fn tmps R [] .returning W') → LeavesInM F n P fn tmps R (Ds.map markD) .returning W
  | [], W, hb, _, _, h => h W (KeepBut.refl _ _) hb
  | D :: Ds, W, hb, hD, hn, h => by
    obtain ⟨hB, hd⟩ := hD D (List.mem_cons_self ..)
    have hn' := List.nodup_cons.1 hn
    have hk : KeepBut (fun _ => False) W (W.putObj D (.deferred none)) := keep_b (w := { W with heap := #[] }) W D _ _ (Nat.zero_le _) hd rfl rfl
    have hb' : Below B w0 (W.putObj D (.deferred none)) := hb.trans ⟨rfl, rfl, rfl, by simp [World.putObj], fun k hk => World.putObj_heap_other (by omega)⟩
    refine ⟨by simp, .inl ⟨D, W.putObj D (.deferred none), rfl, run_takeDeferred hd, ?_⟩⟩
    refine leaves_marks Ds _ hb' (fun E hE => ?_) hn'.2 (fun W' hk' hb2 => h W' (hk.trans hk') hb2)
    have hne : E ≠ D := fun e => hn'.1 (e ▸ hE)
    exact ⟨(hD E (List.mem_cons_of_mem _ hE)).1, (World.putObj_heap_other hne).trans (hD E (List.mem_cons_of_mem _ hE)).2⟩


/-- A guard that is not right. -/
def grdBad (n : Int) (g : GrdN) : Bool := decide (g.frm < 0) || decide (g.til ≤ g.frm) || decide (n < g.til) || !inN g.at' 0 (n - 1)
def grdE (u : UntN) : Int := idxP (grdBad u.code.length) u.guards
def grdAt (n : Int) (g : GrdN) : Int := if inN g.frm 0 (n - 1) = true then g.frm else 0
/-- A jump into a group. -/
def jmpBad (head : List Int) (x : Int × Int) : Bool := x.2 != 0 && (head.getD x.1.toNat 0 != x.1)
def jmpB (p : PrgN) (u : UntN) (t : Nat) : Bool := (leadsL u t).any (jmpBad (headL p u.code))
def jmpE (p : PrgN) (u : UntN) : Int := idxP (jmpB p u) (List.range u.code.length)
def lastI (u : UntN) : InsN := u.code.getD (u.code.length - 1) ins0
def wrongE (p : PrgN) (u : UntN) : Int := idxP (wrongB p u) u.code
def nameE (u : UntN) : Bool := !namedB u.cls || (u.name.size != 0 && !namedB u.name)
/-- The first error of a unit in a program, and where it is. -/
def chkU (p : PrgN) (u : UntN) : Int × Int :=
  if nameE u = true then (4, 0) else if sizesN u ≠ 0 then (sizesN u, 0) else if 0 ≤ wrongE p u then (1, wrongE p u) else
  if (formL (lastI u).op).en = false then (2, (u.code.length : Int) - 1) else if 0 ≤ headE p u.code then (2, headE p u.code) else
  if 0 ≤ grdE u then (2, grdAt u.code.length (u.guards.getD (grdE u).toNat grd0)) else if 0 ≤ jmpE p u then (2, jmpE p u) else
  if (depN u).isNone = true then (12, 0) else (0, 0)
/-- The error of a selector. -/
def selE (s : SelN) : Int := if (namedB s.cls && namedB s.name) = false then 4 else if inN s.args 0 16 = false then 1 else 0
/-- An entry of a table is right for a selector. -/
def entryB (p : PrgN) (s : ShpN) (o : SelN) (e : Int) : Bool :=
  if e = -1 then true else if 0 ≤ e then decide (e < p.units.length) && (p.units.getD e.toNat unt0).args == o.args else (decide (-2 - e < s.fields.length) && o.args == 0) && o.res
def entryBad (p : PrgN) (s : ShpN) (k : Nat) : Bool := !entryB p s (p.sels.getD k sel0) (s.table.getD k 0)
def invBad (p : PrgN) (s : ShpN) : Bool := s.inv != -1 && (!inN s.inv 0 ((p.units.length : Int) - 1) || (p.units.getD s.inv.toNat unt0).args != 0)
def fieldBad (k : Int) : Bool := !inN k 1 3
/-- The error of a shape. -/
def shpE (p : PrgN) (k : Nat) : Int :=
  if namedB (p.shapes.getD k shp0).name = false then 4 else if (p.shapes.take k).any (fun o => o.name == (p.shapes.getD k shp0).name) = true then 6 else if 60 < (p.shapes.getD k shp0).fields.length then 3 else
  if ((p.shapes.getD k shp0).fields.any fieldBad || (p.shapes.getD k shp0).table.length != p.sels.length || invBad p (p.shapes.getD k shp0)) = true then 2 else
  if (List.range (p.shapes.getD k shp0).table.length).any (entryBad p (p.shapes.getD k shp0)) = true then 2 else 0
def bareB (s : SelN) : Bool := s.args == 0 && !s.res
def topB (p : PrgN) : Bool := inN p.main 0 ((p.shapes.length : Int) - 1) && inN p.mk' 0 ((p.sels.length : Int) - 1) && bareB (p.sels.getD p.mk'.toNat sel0) && decide (0 ≤ (p.shapes.getD p.main.toNat shp0).table.getD p.mk'.toNat 0)
def selI (p : PrgN) : Int := idxP (fun s => selE s != 0) p.sels
def shpI (p : PrgN) : Int := idxP (fun k => shpE p k != 0) (List.range p.shapes.length)
def untI (p : PrgN) : Int := idxP (fun u => (chkU p u).1 != 0) p.units
/-- The first error of a program, and where it is (a unit, or -1, and a place). -/
def chkP (p : PrgN) : Int × Int × Int :=
  if 60 < p.shapes.length ∨ 400 < p.sels.length ∨ 400 < p.units.length then (3, -1, 0) else if p.shapes.length = 0 ∨ p.units.length = 0 then (1, -1, 0) else
  if 0 ≤ selI p then (selE (p.sels.getD (selI p).toNat sel0), -1, selI p) else if 0 ≤ shpI p then (shpE p (shpI p).toNat, -1, shpI p) else
  if 0 ≤ untI p then ((chkU p (p.units.getD (untI p).toNat unt0)).1, untI p, (chkU p (p.units.getD (untI p).toNat unt0)).2) else if topB p = false then (1, -1, 0) else (0, 0, 0)
/-- A list's first place where something is so. -/
theorem idxR_yes {f : Nat → Bool} {n t : Nat} (ht : t < n) (h : f t = true) (hn : ∀ j, j < t → f j = false) : idxP f (List.range n) = t := by
  refine idxP_some (by rw [List.length_range]; exact ht) (by rw [List.getElem_range]; exact h) ?_
  intro x hx
  rw [List.take_range] at hx
  have := List.mem_range.1 hx
  exact hn x (by omega)
theorem idxR_no {f : Nat → Bool} {n : Nat} (hn : ∀ j, j < n → f j = false) : idxP f (List.range n) = -1 := idxP_none fun x hx => hn x (List.mem_range.1 hx)
end Go.Proofs.Ytecpkjhfbmchgaa
