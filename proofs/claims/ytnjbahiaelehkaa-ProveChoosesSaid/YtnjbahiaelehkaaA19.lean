/- Needed and Core: kept with the tests entailed and spare. -/
import Derived.Test.YtnjbahiaelehkaaA18
namespace Go.Proofs.Ytnjbahiaelehkaa
open Go.RowKit

theorem entailed67 (N : Nat) (hN : N ≤ 12) (sl : Value) (x : AM) (r : List AM) (a : Option Addr) (cap : Nat) (w : World) (ok : ∀ a, a ∈ r → Ok N 1000000 a) (o : Ok N 1000000 x) (hr : Rd w a r) (hlen : r.length ≤ 1000000) :
    Calls Try.prog 67 #[.agg #[.int .i64 N, sl], x.val, .slice a r.length cap] w (RetB (.bool (entB r x)) w) := by
  obtain ⟨A, P, B, Q, L⟩ := x
  have HR := hid hr; clear hr
  have HOK := hid ok; clear ok
  have HO := hid o; clear o
  unfold AM.val
  go_enter Try.func67, Try.ntmps67
  go_wp2_with (go_at_call 65; refine (ent_any N hN r A P B Q L a cap 1000000 _ HOK.out hM6 hF6 1000000 HO.out (by decide) (HR.out.below ((bnew _ _).step (bnew _ _))) hlen).mono ?_; rintro e w1 ⟨rfl, hb1⟩)
  go_ret
  exact ⟨rfl, ((bnew _ _).step (bnew _ _)).step hb1⟩

set_option maxRecDepth 100000 in
set_option maxHeartbeats 1000000 in
theorem spare68 (N : Nat) (hN : N ≤ 12) (sl xv : Value) (hx : ∃ x : AM, xv = x.val) (r : List AM) (a : Option Addr) (cap : Nat) (w : World) (ok : ∀ a, a ∈ r → Ok N 1000000 a) (hr : Rd w a r) (hlen : r.length ≤ 1000000) :
    Calls Try.prog 68 #[.agg #[.int .i64 N, sl], xv, .slice a r.length cap] w (RetB (.bool (!possB r)) w) := by
  obtain ⟨⟨A, P, B, Q, L⟩, rfl⟩ := hx
  have HR := hid hr; clear hr
  have HOK := hid ok; clear ok
  unfold AM.val
  go_enter Try.func68, Try.ntmps68
  go_wp2_with (go_at_call 57; refine (shut_any N hN _ r a cap 1000000 HOK.out hM6 hF6 (HR.out.below ((bnew _ _).step (bnew _ _))) hlen).mono ?_; rintro e w2 ⟨hb2, C, M, no, tp, ty, D, T, rfl, cv, hm, hbd, hor⟩; have hfd := field105 C (.pointer no) cv.no; have HX := hid (And.intro hb2 (And.intro cv (And.intro hm (And.intro hbd hor)))); clear hb2 cv hm hbd hor)
  go_ret
  obtain ⟨hb2, cv, hm, hbd, hor⟩ := HX.out
  refine ⟨?_, ((bnew _ _).step (bnew _ _)).step hb2⟩
  rcases hor with ⟨d, X, rfl, hd, hno'⟩ | ⟨rfl, hfin, htight, htops⟩
  · rw [hno'.noposs HOK.out]
    rfl
  · rw [hfin.poss htight]
    rfl

noncomputable def canE (x : AM) (r : List AM) : Bool := entB r x
noncomputable def canS (_ : AM) (r : List AM) : Bool := !possB r

theorem left67 (N : Nat) (hN : N ≤ 12) (sl : Value) (x : AM) (r : List AM) (a : Option Addr) (cap b1 b2 : Nat) (w : World) (ok : ∀ a, a ∈ r → Ok N 1000000 a) (o : Ok N 1000000 x) (hr : Rd w a r) (hlen : r.length ≤ 1000000)
    (hl1 : b1 < w.heap.size) (hl2 : b2 < w.heap.size) (h1 : w.cell? ⟨b1, 0, none⟩ = some (.func (.func 67) #[] #[])) (h2 : w.cell? ⟨b2, 0, none⟩ = some (.int .i64 N)) (h3 : w.cell? ⟨b2, 1, none⟩ = some sl) :
    Calls Try.prog 107 #[x.val, .slice a r.length cap, .pointer (some ⟨b1, 0, none⟩), .pointer (some ⟨b2, 0, none⟩)] w (RetB (.bool (canE x r)) w) := by
  have hx := entailed67 N hN sl x r a cap (w.alloc (Obj.cells #[.int .i64 x.A, .int .i64 x.P, .int .i64 x.B, .int .i64 x.Q, .int .i64 x.M] 24)) ok o (hr.below (bnew _ _)) hlen
  clear hr ok o
  obtain ⟨A, P, B, Q, L⟩ := x
  unfold AM.val at hx ⊢
  go_enter Try.func107, Try.ntmps107
  go_wp2_with (go_at_call 67; refine hx.mono ?_; rintro e w1 ⟨rfl, hb1⟩)
  go_ret
  exact ⟨rfl, (bnew _ _).step hb1⟩
theorem left68 (N : Nat) (hN : N ≤ 12) (sl : Value) (x : AM) (r : List AM) (a : Option Addr) (cap b1 b2 : Nat) (w : World) (ok : ∀ a, a ∈ r → Ok N 1000000 a) (hr : Rd w a r) (hlen : r.length ≤ 1000000)
    (hl1 : b1 < w.heap.size) (hl2 : b2 < w.heap.size) (h1 : w.cell? ⟨b1, 0, none⟩ = some (.func (.func 68) #[] #[])) (h2 : w.cell? ⟨b2, 0, none⟩ = some (.int .i64 N)) (h3 : w.cell? ⟨b2, 1, none⟩ = some sl) :
    Calls Try.prog 107 #[x.val, .slice a r.length cap, .pointer (some ⟨b1, 0, none⟩), .pointer (some ⟨b2, 0, none⟩)] w (RetB (.bool (canS x r)) w) := by
  have hx := spare68 N hN sl x.val ⟨x, rfl⟩ r a cap (w.alloc (Obj.cells #[.int .i64 x.A, .int .i64 x.P, .int .i64 x.B, .int .i64 x.Q, .int .i64 x.M] 24)) ok (hr.below (bnew _ _)) hlen
  clear hr ok
  obtain ⟨A, P, B, Q, L⟩ := x
  unfold AM.val at hx ⊢
  go_enter Try.func107, Try.ntmps107
  go_wp2_with (go_at_call 68; refine hx.mono ?_; rintro e w1 ⟨rfl, hb1⟩)
  go_ret
  exact ⟨rfl, (bnew _ _).step hb1⟩

/-- What left returns. -/
def Left (w : World) (ks : List Int) (e : Ending) (w' : World) : Prop := Below w.heap.size w w' ∧ ∃ v', e = .returned v' ∧ OwnI w' w.heap.size v' ks

theorem left_e (N : Nat) (hN : N ≤ 12) (l : List AM) (a : Option Addr) (cap : Nat) (w : World) (ok : ∀ a, a ∈ l → Ok N 1000000 a) (hr : Rd w a l) (hlen : l.length ≤ 64) :
    Calls Try.prog 66 #[.agg #[.int .i64 N, .slice a l.length cap], .func (.func 67) #[] #[]] w (Left w (keep canE l)) := by
  have hcan : CanAt ((w.alloc (Obj.cells #[.int .i64 N, .slice a l.length cap] 116)).alloc (Obj.cells #[.func (.func 67) #[] #[]] 118)) #[.pointer (some ⟨w.heap.size + 1, 0, none⟩), .pointer (some ⟨w.heap.size, 0, none⟩)] canE l := by
    intro W x r a' cap' hb hx hr' hrl hrd
    have hs : w.heap.size + 2 ≤ W.heap.size := by simpa using hb.size
    refine left67 N hN (.slice a l.length cap) x r a' cap' (w.heap.size + 1) w.heap.size W (fun y hy => ok y (hr' y hy)) (ok x hx) hrd (by omega) (by omega) (by omega) ?_ ?_ ?_
    · rw [hb.cell (by simp)]
      simp
    · rw [hb.cell (by simp; omega)]
      simp
    · rw [hb.cell (by simp; omega)]
      simp
  have hk := kept_any canE l a cap ⟨w.heap.size + 1, 0, none⟩ ⟨w.heap.size, 0, none⟩ _ (hr.below ((bnew _ _).step (bnew _ _))) hlen hcan
  clear hcan hr ok
  go_enter Try.func66, Try.ntmps66
  go_wp2_with (go_at_call 106; refine hk.mono ?_; rintro e w1 ⟨hb1, v1, rfl, ho⟩)
  go_ret
  exact ⟨((bnew _ _).step (bnew _ _)).step hb1, v1, rfl, ho.mono (by simp; omega)⟩
theorem left_s (N : Nat) (hN : N ≤ 12) (l : List AM) (a : Option Addr) (cap : Nat) (w : World) (ok : ∀ a, a ∈ l → Ok N 1000000 a) (hr : Rd w a l) (hlen : l.length ≤ 64) :
    Calls Try.prog 66 #[.agg #[.int .i64 N, .slice a l.length cap], .func (.func 68) #[] #[]] w (Left w (keep canS l)) := by
  have hcan : CanAt ((w.alloc (Obj.cells #[.int .i64 N, .slice a l.length cap] 116)).alloc (Obj.cells #[.func (.func 68) #[] #[]] 118)) #[.pointer (some ⟨w.heap.size + 1, 0, none⟩), .pointer (some ⟨w.heap.size, 0, none⟩)] canS l := by
    intro W x r a' cap' hb hx hr' hrl hrd
    have hs : w.heap.size + 2 ≤ W.heap.size := by simpa using hb.size
    refine left68 N hN (.slice a l.length cap) x r a' cap' (w.heap.size + 1) w.heap.size W (fun y hy => ok y (hr' y hy)) hrd (by omega) (by omega) (by omega) ?_ ?_ ?_
    · rw [hb.cell (by simp)]
      simp
    · rw [hb.cell (by simp; omega)]
      simp
    · rw [hb.cell (by simp; omega)]
      simp
  have hk := kept_any canS l a cap ⟨w.heap.size + 1, 0, none⟩ ⟨w.heap.size, 0, none⟩ _ (hr.below ((bnew _ _).step (bnew _ _))) hlen hcan
  clear hcan hr ok
  go_enter Try.func66, Try.ntmps66
  go_wp2_with (go_at_call 106; refine hk.mono ?_; rintro e w1 ⟨hb1, v1, rfl, ho⟩)
  go_ret
  exact ⟨((bnew _ _).step (bnew _ _)).step hb1, v1, rfl, ho.mono (by simp; omega)⟩

/-- A slice of numbers and an error come back. -/
def RetK (w : World) (ks : List Int) (er : Int) (e : Ending) (w' : World) : Prop := Below w.heap.size w w' ∧ ∃ v, e = .returned (.tuple #[v, .int .i64 er]) ∧ OwnI w' w.heap.size v ks
def RetKB (w : World) (ks : List Int) (b : Bool) (er : Int) (e : Ending) (w' : World) : Prop := Below w.heap.size w w' ∧ ∃ v, e = .returned (.tuple #[v, .bool b, .int .i64 er]) ∧ OwnI w' w.heap.size v ks
theorem OwnI.nil (w : World) (base : Nat) : OwnI w base (.slice none 0 0) [] := ⟨rfl, .inl ⟨rfl, rfl⟩⟩
noncomputable def neededL (n : Int) (l : List AM) : List Int := if checkN n l = 0 then keep canE l else []
noncomputable def coreL (n : Int) (l : List AM) : List Int := if checkN n l = 0 then (if possB l then [] else keep canS l) else []
noncomputable def coreB (n : Int) (l : List AM) : Bool := if checkN n l = 0 then !possB l else false

theorem needed_any (n : Int) (l : List AM) (a : Option Addr) (cap : Nat) (w : World) (hl : Rd w a l) (hlen : l.length ≤ 1000000) :
    Calls Try.prog 26 #[.int .i64 n, .slice a l.length cap] w (RetK w (neededL n l) (checkN n l)) := by
  have HL := hid hl; clear hl
  by_cases h0 : checkN n l = 0
  · obtain ⟨⟨hn1, hn2⟩, h64, hrs⟩ := checkN_in h0
    obtain ⟨N, rfl⟩ : ∃ N : Nat, n = (N : Int) := ⟨n.toNat, by omega⟩
    have hN : N ≤ 12 := by omega
    have HOK := hid (rights_ok hrs)
    have H0 := hid h0
    clear h0 hrs
    go_enter Try.func26, Try.ntmps26
    go_wp2_with (first
      | (go_at_call 31; refine (check_any _ l a cap _ HL.out (by omega)).mono ?_; rw [H0.out]; rintro e w1 ⟨rfl, hb1⟩; have HB1 := hid hb1; clear hb1)
      | (go_at_call 66; refine (left_e N hN l a cap _ HOK.out (HL.out.below HB1.out) (by omega)).mono ?_; rintro e w2 ⟨hb2, v2, rfl, ho2⟩))
    go_ret2
    refine ⟨HB1.out.step hb2, v2, by rw [H0.out]; rfl, ?_⟩
    have e1 : neededL N l = keep canE l := by simp [neededL, H0.out]
    rw [e1]
    exact ho2.mono HB1.out.size
  · have hne : (checkN n l == 0) = false := by simpa using h0
    go_enter Try.func26, Try.ntmps26
    go_wp2_with (go_at_call 31; refine (check_any _ l a cap _ HL.out (by omega)).mono ?_; rintro e w1 ⟨rfl, hb1⟩)
    go_ret2
    refine ⟨hb1, _, rfl, ?_⟩
    have e1 : neededL n l = [] := by simp [neededL, h0]
    rw [e1]
    exact OwnI.nil _ _

theorem no_none {l : List AM} {N : Nat} {Mx : Int} {no : Option Addr} {w2 : World} {Z : Prop} (ok : ∀ a, a ∈ l → Ok N Mx a) (hp : possB l = true) (h : (∃ d X, no = some ⟨d, 0, none⟩ ∧ IsD w2 X d ∧ NoT l N X) ∨ no = none ∧ Z) : no = none := by
  rcases h with ⟨d, X, rfl, hd, hno'⟩ | ⟨rfl, _⟩
  · exact absurd hp (by rw [hno'.noposs ok]; simp)
  · rfl
theorem no_some {l : List AM} {N : Nat} {Mx : Int} {D : Nat → Nat → Int} {T : Nat → Nat → Tr} {no : Option Addr} {w2 : World} {Z : Prop} (hp : possB l = false) (h : (∃ d X, no = some ⟨d, 0, none⟩ ∧ IsD w2 X d ∧ NoT l N X) ∨ no = none ∧ Fin FF Mx l N D T ∧ Tight FF N D ∧ Z) : ∃ d, no = some ⟨d, 0, none⟩ := by
  rcases h with ⟨d, X, rfl, hd, hno'⟩ | ⟨rfl, hfin, htight, _⟩
  · exact ⟨d, rfl⟩
  · exact absurd (hfin.poss htight) (by rw [hp]; simp)

set_option maxRecDepth 100000 in
set_option maxHeartbeats 1000000 in
theorem core_any (n : Int) (l : List AM) (a : Option Addr) (cap : Nat) (w : World) (hl : Rd w a l) (hlen : l.length ≤ 1000000) :
    Calls Try.prog 28 #[.int .i64 n, .slice a l.length cap] w (RetKB w (coreL n l) (coreB n l) (checkN n l)) := by
  have HL := hid hl; clear hl
  by_cases h0 : checkN n l = 0
  · obtain ⟨⟨hn1, hn2⟩, h64, hrs⟩ := checkN_in h0
    obtain ⟨N, rfl⟩ : ∃ N : Nat, n = (N : Int) := ⟨n.toNat, by omega⟩
    have hN : N ≤ 12 := by omega
    have HOK := hid (rights_ok hrs)
    have H0 := hid h0
    clear h0 hrs
    cases hp : possB l with
    | true =>
      have HP := hid hp
      clear hp
      go_enter Try.func28, Try.ntmps28
      go_wp2_with (first
        | (go_at_call 31; refine (check_any _ l a cap _ HL.out (by omega)).mono ?_; rw [H0.out]; rintro e w1 ⟨rfl, hb1⟩; have HB1 := hid hb1; clear hb1)
        | (go_at_call 57; refine (shut_any N hN _ l a cap 1000000 HOK.out hM6 hF6 (HL.out.below HB1.out) hlen).mono ?_; rintro e w2 ⟨hb2, C, M, no, tp, ty, D, T, rfl, cv, hm, hbd, hor⟩; have hfd := field105 C (.pointer no) cv.no; have hno := no_none HOK.out HP.out hor; subst hno; have HX := hid hb2; clear hb2 cv hm hbd hor))
      go_ret3
      refine ⟨HB1.out.step HX.out, .slice none 0 0, ?_, ?_⟩
      · have e2 : coreB N l = false := by simp [coreB, H0.out, HP.out]
        rw [e2, H0.out]
        rfl
      · have e1 : coreL N l = [] := by simp [coreL, H0.out, HP.out]
        rw [e1]
        exact OwnI.nil _ _
    | false =>
      have HP := hid hp
      clear hp
      go_enter Try.func28, Try.ntmps28
      go_wp2_with (first
        | (go_at_call 31; refine (check_any _ l a cap _ HL.out (by omega)).mono ?_; rw [H0.out]; rintro e w1 ⟨rfl, hb1⟩; have HB1 := hid hb1; clear hb1)
        | (go_at_call 57; refine (shut_any N hN _ l a cap 1000000 HOK.out hM6 hF6 (HL.out.below HB1.out) hlen).mono ?_; rintro e w2 ⟨hb2, C, M, no, tp, ty, D, T, rfl, cv, hm, hbd, hor⟩; have hfd := field105 C (.pointer no) cv.no; obtain ⟨d, hno⟩ := no_some HP.out hor; subst hno; have HX := hid hb2; clear hb2 cv hm hbd hor)
        | (go_at_call 66; refine (left_s N hN l a cap _ HOK.out (HL.out.below (HB1.out.step HX.out)) (by omega)).mono ?_; rintro e w3 ⟨hb3, v3, rfl, ho3⟩))
      go_ret3
      refine ⟨(HB1.out.step HX.out).step hb3, v3, ?_, ?_⟩
      · have e2 : coreB N l = true := by simp [coreB, H0.out, HP.out]
        rw [e2, H0.out]
        rfl
      · have e1 : coreL N l = keep canS l := by simp [coreL, H0.out, HP.out]
        rw [e1]
        exact ho3.mono (HB1.out.step HX.out).size
  · have hne : (checkN n l == 0) = false := by simpa using h0
    go_enter Try.func28, Try.ntmps28
    go_wp2_with (go_at_call 31; refine (check_any _ l a cap _ HL.out (by omega)).mono ?_; rintro e w1 ⟨rfl, hb1⟩)
    go_ret3
    refine ⟨hb1, .slice none 0 0, ?_, ?_⟩
    · have e2 : coreB n l = false := by simp [coreB, h0]
      rw [e2]
      rfl
    · have e1 : coreL n l = [] := by simp [coreL, h0]
      rw [e1]
      exact OwnI.nil _ _
end Go.Proofs.Ytnjbahiaelehkaa
