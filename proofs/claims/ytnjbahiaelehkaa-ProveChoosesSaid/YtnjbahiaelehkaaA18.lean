/- kept: the indexes that stay when each that can be left out is left out, in order. -/
import Derived.Test.YtnjbahiaelehkaaA17
namespace Go.Proofs.Ytnjbahiaelehkaa
open Go.RowKit

def upto (n : Nat) : List Int := (List.range n).map Int.ofNat
theorem upto_succ (n : Nat) : upto (n + 1) = upto n ++ [(n : Int)] := by unfold upto; rw [List.range_succ, List.map_append]; rfl
theorem upto_length (n : Nat) : (upto n).length = n := by simp [upto]
theorem mem_upto {n : Nat} {x : Int} : x ∈ upto n ↔ 0 ≤ x ∧ x < n := by
  unfold upto
  rw [List.mem_map]
  constructor
  · rintro ⟨i, hi, rfl⟩
    have := List.mem_range.1 hi
    have e : Int.ofNat i = (i : Int) := rfl
    omega
  · rintro ⟨h0, h1⟩
    exact ⟨x.toNat, List.mem_range.2 (by omega), by show ((x.toNat : Nat) : Int) = x; omega⟩
/-- The lines at places. -/
def pick (l : List AM) (ks : List Int) : List AM := ks.map fun k => l.getD k.toNat am0
/-- One round: leave out i if can. -/
def keepStep (can : AM → List AM → Bool) (l : List AM) (ks : List Int) (i : Nat) : List Int := if can (l.getD i am0) (pick l (drop ks i)) then drop ks i else ks
def keepFrom (can : AM → List AM → Bool) (l : List AM) (n : Nat) : List Int := (List.range n).foldl (keepStep can l) (upto l.length)
theorem keepFrom_succ (can : AM → List AM → Bool) (l : List AM) (n : Nat) : keepFrom can l (n + 1) = keepStep can l (keepFrom can l n) n := by
  unfold keepFrom
  rw [List.range_succ, List.foldl_append]
  rfl
def keep (can : AM → List AM → Bool) (l : List AM) : List Int := keepFrom can l l.length

theorem drop_sub {l : List Int} {k x : Int} (h : x ∈ drop l k) : x ∈ l := (List.mem_filter.1 h).1
theorem drop_mem {l : List Int} {k x : Int} (h : x ∈ l) (hne : x ≠ k) : x ∈ drop l k := by
  unfold drop
  rw [List.mem_filter]
  exact ⟨h, by simp [hne]⟩
theorem keepFrom_mem (can : AM → List AM → Bool) (l : List AM) (n : Nat) (x : Int) : (x ∈ keepFrom can l n → 0 ≤ x ∧ x < l.length) ∧ ((n : Int) ≤ x → x < l.length → x ∈ keepFrom can l n) := by
  induction n with
  | zero =>
    show (x ∈ upto l.length → _) ∧ (_ → _ → x ∈ upto l.length)
    rw [mem_upto]
    exact ⟨id, fun h0 h1 => ⟨by simpa using h0, h1⟩⟩
  | succ n ih =>
    rw [keepFrom_succ]
    unfold keepStep
    split
    · exact ⟨fun h => ih.1 (drop_sub h), fun h0 h1 => drop_mem (ih.2 (by omega) h1) (by omega)⟩
    · exact ⟨ih.1, fun h0 h1 => ih.2 (by omega) h1⟩
theorem drop_length (l : List Int) (k : Int) : (drop l k).length ≤ l.length := List.length_filter_le _ _
theorem keepFrom_length (can : AM → List AM → Bool) (l : List AM) (n : Nat) : (keepFrom can l n).length ≤ l.length := by
  induction n with
  | zero => exact Nat.le_of_eq (upto_length _)
  | succ n ih =>
    rw [keepFrom_succ]
    unfold keepStep
    split
    · exact Nat.le_trans (drop_length _ _) ih
    · exact ih

theorem cell_five_new (w : World) (a b c d e : Value) (t : TypeId) : ∀ j u, [a, b, c, d, e][j]? = some u → (w.alloc (.cells #[a, b, c, d, e] t)).cell? ((⟨w.heap.size, 0, none⟩ : Addr).add j) = some u := by
  intro j u hj
  match j, hj with
  | 0, hj => simp at hj; subst hj; simp [Addr.add]
  | 1, hj => simp at hj; subst hj; simp [Addr.add]
  | 2, hj => simp at hj; subst hj; simp [Addr.add]
  | 3, hj => simp at hj; subst hj; simp [Addr.add]
  | 4, hj => simp at hj; subst hj; simp [Addr.add]
  | j + 5, hj => simp at hj
theorem pick_append (l : List AM) (a b : List Int) : pick l (a ++ b) = pick l a ++ pick l b := by unfold pick; rw [List.map_append]
theorem pick_sub {l : List AM} {r : List Int} (h : ∀ x, x ∈ r → 0 ≤ x ∧ x < l.length) (y : AM) (hy : y ∈ pick l r) : y ∈ l := by
  unfold pick at hy
  obtain ⟨k, hk, rfl⟩ := List.mem_map.1 hy
  obtain ⟨h0, h1⟩ := h k hk
  have hlt : k.toNat < l.length := by omega
  rw [List.getD_eq_getElem?_getD, List.getElem?_eq_getElem hlt]
  exact List.getElem_mem hlt
def c5 (x : AM) : List Value := [.int .i64 x.A, .int .i64 x.P, .int .i64 x.B, .int .i64 x.Q, .int .i64 x.M]
theorem c5_at (l : List AM) (i : Nat) (h : i < l.length) (k : Nat) (hk : k < 5) : (l.flatMap c5)[i * 5 + k]? = (c5 l[i])[k]? := by
  induction l generalizing i with
  | nil => exact absurd h (Nat.not_lt_zero _)
  | cons x l ih =>
    rw [List.flatMap_cons, List.getElem?_append]
    have h5 : (c5 x).length = 5 := rfl
    rw [h5]
    cases i with
    | zero =>
      rw [if_pos (by omega), Nat.zero_mul, Nat.zero_add]
      rfl
    | succ i =>
      rw [if_neg (by omega), show (i + 1) * 5 + k - 5 = i * 5 + k by omega]
      exact ih i (by simpa using h)
theorem c5_length (l : List AM) : (l.flatMap c5).length = l.length * 5 := by
  induction l with
  | nil => rfl
  | cons x l ih =>
    rw [List.flatMap_cons, List.length_append, ih, List.length_cons]
    have h5 : (c5 x).length = 5 := rfl
    omega
/-- A slice of lines of the call's own. -/
def OwnL (w : World) (base : Nat) (v : Value) (l : List AM) : Prop := w.ownsRow base 24 5 v l.length (l.flatMap c5)
theorem OwnL.rd {w : World} {base : Nat} {v : Value} {l : List AM} (h : OwnL w base v l) : ∃ a cap, v = .slice a l.length cap ∧ Rd w a l := by
  obtain ⟨_, h⟩ := h
  rcases h with ⟨rfl, h0⟩ | ⟨g, cap, cur, rfl, hg, hh, h1, h2, h3, h4⟩
  · exact ⟨none, 0, by rw [h0], fun i hi => by omega⟩
  · refine ⟨_, cap, rfl, fun i hi => ⟨g, 0, rfl, lt_of_heap hh, ?_⟩⟩
    have key : ∀ k, k < 5 → w.cell? ⟨g, 0 + i * 5 + k, none⟩ = (c5 l[i])[k]? := by
      intro k hk
      rw [cell_of_row _ _ _ _ _ _ hh, Nat.zero_add]
      have e : (cur.toList.take (l.length * 5))[i * 5 + k]? = (l.flatMap c5)[i * 5 + k]? := by rw [h4]
      rw [List.getElem?_take, if_pos (by omega), c5_at l i hi k hk] at e
      rw [← e]
      simp
    exact ⟨key 0 (by decide), key 1 (by decide), key 2 (by decide), key 3 (by decide), key 4 (by decide)⟩
theorem OwnI.later {w w' : World} {base : Nat} {v : Value} {l : List Int} (h : OwnI w base v l) (hb : Below w.heap.size w w') : OwnI w' base v l := by
  refine ⟨h.1, ?_⟩
  rcases h.2 with ⟨rfl, h0⟩ | ⟨g, cap, cur, rfl, hg, hh, h1⟩
  · exact .inl ⟨rfl, h0⟩
  · exact .inr ⟨g, cap, cur, rfl, hg, by rw [hb.block g (lt_of_heap hh)]; exact hh, h1⟩
theorem OwnI.mono {w : World} {base base' : Nat} {v : Value} {l : List Int} (h : OwnI w base v l) (hb : base' ≤ base) : OwnI w base' v l := by
  refine ⟨h.1, ?_⟩
  rcases h.2 with h0 | ⟨g, cap, cur, rfl, hg, h1⟩
  · exact .inl h0
  · exact .inr ⟨g, cap, cur, rfl, Nat.le_trans hb hg, h1⟩
theorem info24 : (Try.prog.info? 24).map (fun i => (i.zero, i.size, i.bytes)) = some (some (.agg #[.int .i64 0, .int .i64 0, .int .i64 0, .int .i64 0, .int .i64 0]), 5, 40) := by kernel_rfl

/-- The test that kept asks, by a contract. -/
def CanAt (w : World) (lb : Array Value) (can : AM → List AM → Bool) (l : List AM) : Prop :=
  ∀ (W : World) (x : AM) (r : List AM) (a : Option Addr) (cap : Nat), Below w.heap.size w W → x ∈ l → (∀ y, y ∈ r → y ∈ l) → r.length ≤ l.length → Rd W a r →
    Calls Try.prog 107 (#[x.val, .slice a r.length cap] ++ lb) W (RetB (.bool (can x r)) W)

theorem own_ge {w : World} {base : Nat} {e : TypeId} {size : Nat} {v : Value} {n : Nat} {xs : List Value} (h : w.ownsRow base e size v n xs) : ∀ k, v.ownBlock = some k → base ≤ k := by
  rcases h.2 with ⟨rfl, _⟩ | ⟨g, cap, cur, rfl, hg, _⟩
  · intro k hk
    cases hk
  · intro k hk
    cases hk
    exact hg

set_option maxHeartbeats 1000000 in
theorem kept_any (can : AM → List AM → Bool) (l : List AM) (a : Option Addr) (cap : Nat) (p1 p2 : Addr) (w : World) (hr : Rd w a l) (hlen : l.length ≤ 64) (hcan : CanAt w #[.pointer (some p1), .pointer (some p2)] can l) :
    Calls Try.prog 106 #[.slice a l.length cap, .func (.func 107) #[] #[.pointer (some p1), .pointer (some p2)]] w fun e w' => Below w.heap.size w w' ∧ ∃ v', e = .returned v' ∧ OwnI w' w.heap.size v' (keep can l) := by
  have HR := hid hr; clear hr
  have HC := hid hcan; clear hcan
  obtain ⟨i0, hi, hz0, hz1, hz2⟩ := info_parts info3
  obtain ⟨i4, hj4, hy0, hy1, hy2⟩ := info_parts info24
  go_enter Try.func106, Try.ntmps106
  go_wp2
  go_loopg [5, 14] l.length (fun g s5 s14 wr => ∃ j : Nat, j ≤ l.length ∧ g = l.length - j ∧ s14 = .int .i64 j ∧ OwnI wr w.heap.size s5 (upto j) ∧ Below w.heap.size w wr)
  case atStart => exact ⟨0, Nat.zero_le _, rfl, rfl, ⟨rfl, .inl ⟨rfl, rfl⟩⟩, Below.refl _ _⟩
  case round =>
    obtain ⟨j, hj, rfl, rfl, hown, hb⟩ := hrel
    by_cases hlt : j < l.length
    · unfold OwnI at hown
      rw [upto_length] at hown
      have hsz := hb.size
      go_wp2_with (at_builtin; refine wpList_append_own _ rfl _ _ 46 rfl w.heap.size 3 i0 (.int .i64 0) 1 8 Try.underlying46 hi hz0 hz1 hz2 rfl (by decide) _ _ _ rfl (hown.alloc _) ⟨wr.heap.size, 0, none⟩ 1 1 [.int .i64 j] rfl rfl (cell_one_new _ _ _) (by intro u hu; simp at hu; subst hu; rfl) (by unfold maxLen; omega) (by omega) (by simp; omega) ?_; intro v' w3 hown' hgrow hnil)
      go_roundg (l.length - (j + 1))
      case rel =>
        refine ⟨j + 1, by omega, rfl, by go_num, ?_, (hb.alloc hsz _).grown hgrow (by simp; omega) (own_ge hown)⟩
        unfold OwnI
        rw [upto_length, upto_succ, List.map_append]
        exact hown'
      case measure => omega
    · obtain rfl : j = l.length := by omega
      go_wp2
      go_loopg [5, 24] l.length (fun g s5 s24 wx => ∃ i : Nat, i ≤ l.length ∧ g = l.length - i ∧ s24 = .int .i64 i ∧ OwnI wx w.heap.size s5 (keepFrom can l i) ∧ Below w.heap.size w wx)
      case atStart => exact ⟨0, Nat.zero_le _, rfl, rfl, hown, hb⟩
      case round =>
        clear hown hb hj
        obtain ⟨i, hi', rfl, rfl, hown, hb⟩ := hrel
        have hsz := hb.size
        have hkl := keepFrom_length can l i
        by_cases hlt : i < l.length
        · have hne : keepFrom can l i ≠ [] := fun h0 => by
            have := ((keepFrom_mem can l i i).2 (Int.le_refl _) (by omega))
            rw [h0] at this
            cases this
          obtain ⟨ks, hks⟩ : ∃ ks, ks = keepFrom can l i := ⟨_, rfl⟩
          rw [← hks] at hown hne hkl
          have HK := hid hks
          clear hks
          have hd := drop_length ks i
          go_wp2_with (go_at_call 117; fail)
          refine (clone_ints ks _ w.heap.size _ (hown.later ((Below.refl _ _).alloc (Nat.le_refl _) _)) (by omega)).mono ?_
          rintro e wc ⟨hbc, v1, rfl, ho1⟩
          have hcell : wc.cell? ⟨wr.heap.size, 0, none⟩ = some (.int .i64 i) := by rw [hbc.cell (by simp)]; simp
          have hs1 : (wr.alloc (Obj.cells #[Value.int IntKind.i64 ↑i] 3)).heap.size = wr.heap.size + 1 := by simp
          rw [hs1] at ho1
          have hsc := hbc.size
          rw [hs1] at hsc
          have HBC := hid hbc
          have HOW := hid hown
          clear hbc hown
          go_wp2_with (go_at_call 116; fail)
          refine (delete_ints ks _ i wr.heap.size (wr.heap.size + 1) wc ho1 hne (by omega) (by omega) hsc hcell).mono ?_
          rintro e w8 ⟨hb8, v8, rfl, ho8⟩
          obtain ⟨a8, cap8, hv8, hr8⟩ := ho8.rd
          obtain ⟨r, hr⟩ : ∃ r, r = drop ks (i : Int) := ⟨_, rfl⟩
          rw [← hr] at hd hv8 hr8 ho8
          have HRR := hid hr
          clear hr
          subst hv8
          go_wp2_with (at_make; refine wpList_make_own _ rfl _ _ 22 rfl w8.heap.size 24 i4 _ 5 Try.underlying22 hj4 hy0 hy1 .i64 .i64 _ r.length rfl rfl rfl (by rw [hy2]; omega) (by unfold maxLen; omega) (Nat.le_refl _) ?_; intro w9 hown9 hgrow9)
          have hW8 : Below w.heap.size w w8 := ((hb.alloc hsz (Obj.cells #[Value.int IntKind.i64 ↑i] 3)).trans (HBC.out.mono (by rw [hs1]; omega))).trans (hb8.mono (by omega))
          have hO8 : Below wr.heap.size wr w8 := (((Below.refl _ _).alloc (Nat.le_refl _) (Obj.cells #[Value.int IntKind.i64 ↑i] 3)).trans (HBC.out.mono (by rw [hs1]; omega))).trans (hb8.mono (by omega))
          have hin : ∀ x, x ∈ r → 0 ≤ x ∧ x < l.length := fun x hx => by
            rw [HRR.out, HK.out] at hx
            exact (keepFrom_mem can l i x).1 (drop_sub hx)
          have hg9 : Below w8.heap.size w8 w9 := (Below.refl _ _).grown hgrow9 (Nat.le_refl _) (fun k hk => by cases hk)
          have hc8 : w8.cell? ⟨wr.heap.size, 0, none⟩ = some (.int .i64 i) := by rw [hb8.cell (by show wr.heap.size < _; omega)]; exact hcell
          have hsz8 := hb8.size
          clear HBC hb8 hcell ho1 hgrow9 hs1
          have HB := hid hb
          clear hb
          obtain ⟨wo, rfl⟩ : ∃ wo : World, wo = wr := ⟨_, rfl⟩
          go_loopg [9, 36] r.length (fun g s9 s36 wz => ∃ j : Nat, j ≤ r.length ∧ g = r.length - j ∧ s36 = .int .i64 j ∧ OwnL wz w8.heap.size s9 (pick l (r.take j)) ∧ Below w8.heap.size w8 wz)
          case atStart =>
            refine ⟨0, Nat.zero_le _, rfl, rfl, ?_, hg9⟩
            simpa [OwnL, pick] using hown9
          case round =>
            obtain ⟨j, hj, rfl, rfl, hown, hbz⟩ := hrel
            have hszz := hbz.size
            by_cases hltj : j < r.length
            · obtain ⟨b8, off8, ha8, hlt8, hcj⟩ := (hr8.below hbz) j hltj
              subst ha8
              obtain ⟨hk0, hk1⟩ := hin r[j] (List.getElem_mem hltj)
              have htk : r.take (j + 1) = r.take j ++ [r[j]] := take_last hltj
              obtain ⟨rj, hrj⟩ : ∃ rj, rj = r[j] := ⟨_, rfl⟩
              rw [← hrj] at hcj hk0 hk1 htk
              obtain ⟨kn, rfl⟩ : ∃ kn : Nat, rj = kn := ⟨rj.toNat, by omega⟩
              have hkn : kn < l.length := by omega
              obtain ⟨b, off, ha, hltb, h1, h2, h3, h4, h5⟩ := (HR.out.below (hW8.trans (hbz.mono (by omega)))) kn hkn
              subst ha
              unfold OwnL at hown
              have hpl : (pick l (r.take j)).length = j := by unfold pick; rw [List.length_map, List.length_take]; omega
              rw [hpl] at hown
              have HP := hid hpl
              have HTK := hid htk
              clear hpl htk hrj
              go_wp2_with (at_builtin; refine wpList_append_own _ rfl _ _ 22 rfl w8.heap.size 24 i4 _ 5 40 Try.underlying22 hj4 hy0 hy1 hy2 rfl (by decide) _ _ _ rfl (hown.alloc _) ⟨wr.heap.size, 0, none⟩ 1 1 (c5 l[kn]) rfl rfl (cell_five_new _ _ _ _ _ _ _) (by intro u hu; simp [c5] at hu; rcases hu with rfl | rfl | rfl | rfl | rfl <;> rfl) (by unfold maxLen; omega) (by omega) (by simp; omega) ?_; intro v' w3 hown' hgrow hnil)
              go_roundg (r.length - (j + 1))
              case rel =>
                refine ⟨j + 1, by omega, rfl, by go_num, ?_, (hbz.alloc hszz _).grown hgrow (by simp; omega) (own_ge hown)⟩
                unfold OwnL
                rw [HTK.out, pick_append, List.length_append, HP.out, List.flatMap_append]
                have e1 : pick l [(kn : Int)] = [l[kn]] := by simp [pick, hkn]
                rw [e1]
                simpa using hown'
              case measure => omega
            · obtain rfl : j = r.length := by omega
              rw [List.take_length] at hown
              obtain ⟨a9, cap9, hv9, hr9⟩ := hown.rd
              subst hv9
              have hW : Below w.heap.size w wr := hW8.trans (hbz.mono (by omega))
              obtain ⟨b, off, ha, hltb, h1, h2, h3, h4, h5⟩ := (HR.out.below hW) i hlt
              have hci : wr.cell? ⟨wo.heap.size, 0, none⟩ = some (.int .i64 i) := by rw [hbz.cell (by show wo.heap.size < _; omega)]; exact hc8
              have hcall := HC.out wr l[i] (pick l r) a9 cap9 hW (List.getElem_mem hlt) (pick_sub hin) (by unfold pick; rw [List.length_map]; omega) hr9
              subst ha
              clear hown hr9
              obtain ⟨cb, hcb⟩ : ∃ cb, cb = can l[i] (pick l r) := ⟨_, rfl⟩
              rw [← hcb] at hcall
              have HCB := hid hcb
              clear hcb
              have hstep : keepFrom can l (i + 1) = if cb = true then r else ks := by
                have e1 : l.getD i am0 = l[i] := by simp [hlt]
                rw [keepFrom_succ, keepStep, ← HK.out, e1, ← HRR.out, ← HCB.out]
              have HS := hid hstep
              clear hstep
              go_wp2_with (go_at_call 107; fail)
              refine hcall.mono ?_
              rintro e wd ⟨rfl, hbd⟩
              have hWd : Below w.heap.size w wd := hW.trans (hbd.mono hW.size)
              have ho8d : OwnI wd w.heap.size (Value.slice a8 r.length cap8) r := (ho8.later (hbz.trans (hbd.mono hszz))).mono (by omega)
              have ho5d : OwnI wd w.heap.size u5 ks := HOW.out.later (hO8.trans ((hbz.mono (by omega)).trans (hbd.mono (by omega))))
              cases cb with
              | true =>
                go_wp2
                go_roundg (l.length - (i + 1))
                case rel => exact ⟨i + 1, by omega, rfl, by go_num, by rw [HS.out]; exact ho8d, hWd⟩
                case measure => omega
              | false =>
                go_wp2
                go_roundg (l.length - (i + 1))
                case rel => exact ⟨i + 1, by omega, rfl, by go_num, by rw [HS.out]; exact ho5d, hWd⟩
                case measure => omega
        · obtain rfl : i = l.length := by omega
          go_wp2
          go_ret
          exact ⟨hb, _, rfl, hown⟩
end Go.Proofs.Ytnjbahiaelehkaa
