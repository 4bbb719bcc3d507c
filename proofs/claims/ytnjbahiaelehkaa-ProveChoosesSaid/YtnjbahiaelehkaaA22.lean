/- steps (78): the list of steps of a derivation; that the checker takes it. -/
import Derived.Test.YtnjbahiaelehkaaA21
namespace Go.Proofs.Ytnjbahiaelehkaa
open Go.RowKit

theorem NoT.gd {l : List AM} {n : Nat} (ok : ∀ a, a ∈ l → Ok n 1000000 a) (hn : n ≤ 12) {X : Tr} (h : NoT l n X) : Gd l X ∧ nodes X ≤ 400 ∧ (∀ k, cf l X k = 0) ∧ bd l X < 0 := by
  cases h with
  | ring h =>
    obtain ⟨i, k, c, c', Xa, Xb, p, p', rfl, hi, hk, hne, h1, s1, h2, s2, hlt⟩ := h.ex
    have l1 := s1.short hn hi hk hne
    have l2 := s2.short hn hk hi (Ne.symm hne)
    obtain ⟨g1, m1⟩ := h1.gd ok (by omega)
    obtain ⟨g2, m2⟩ := h2.gd ok (by omega)
    obtain ⟨c1, b1⟩ := h1.cf ok
    obtain ⟨c2, b2⟩ := h2.cf ok
    have w1 := h1.weight ok
    have w2 := h2.weight ok
    have hc : ∀ k, cf l (.sum Xa Xb) k = 0 := fun k => by
      show cf l Xa k + cf l Xb k = 0
      rw [c1, c2]
      omega
    have hb : bd l (.sum Xa Xb) = c + c' := by
      show bd l Xa + bd l Xb = _
      rw [b1, b2]
    refine ⟨⟨⟨g1, g2⟩, fun k => by rw [hc]; omega, by rw [hb]; exact okN_of (B := 1000000000) (by omega) (by decide)⟩, ?_, hc, by rw [hb]; exact hlt⟩
    show nodes Xa + nodes Xb + 1 ≤ 400
    omega
  | @wedge i c c' Xa Xb p p' hi h1 s1 h2 s2 hlt =>
    obtain ⟨g1, m1, c1, b1⟩ := half_gd ok hn hi h1 s1
    have e := ot_ot i
    obtain ⟨g2, m2, c2, b2⟩ := half_gd (i := ot i) ok hn (ot_lt hi) (by rw [e]; exact h2) (by rw [e]; exact s2)
    have w1 := h1.weight ok
    have w2 := h2.weight ok
    have l1 := s1.short hn hi (ot_lt hi) (Ne.symm (ot_ne _))
    have l2 := s2.short hn (ot_lt hi) hi (ot_ne _)
    have hc : ∀ k, cf l (.sum (.half Xa) (.half Xb)) k = 0 := fun k => by
      show cf l (.half Xa) k + cf l (.half Xb) k = 0
      rw [c1, c2, ev_ot]
      omega
    have hb : bd l (.sum (.half Xa) (.half Xb)) = c / 2 + c' / 2 := by
      show bd l (.half Xa) + bd l (.half Xb) = _
      rw [b1, b2]
    refine ⟨⟨⟨g1, g2⟩, fun k => by rw [hc]; omega, by rw [hb]; exact okN_of (B := 1000000000) (by omega) (by decide)⟩, ?_, hc, by rw [hb]; exact hlt⟩
    show nodes (.half Xa) + nodes (.half Xb) + 1 ≤ 400
    omega
theorem OfT.pr {l : List AM} {n : Nat} {a : AM} {m : Int} {X : Tr} (h : OfT l n a m X) : PrT l n a m X := by
  cases h with
  | un hq h hs e => rw [e]; exact .un hq h hs
  | bi hq h hs => exact .bi hq h hs
  | wd hq h hs h' hs' e => rw [e]; exact .two hq h hs h' hs'

/-- The steps of X. -/
structure StepsOf (S : List Stp) (X : Tr) : Prop where
  k : ∃ k, Lin S k X ∧ k + 1 = S.length
  all : ∀ i, i < S.length → ∃ Y, Sub Y X ∧ Lin S i Y
  len : S.length ≤ nodes X
theorem StepsOf.say {S : List Stp} {X : Tr} (h : StepsOf S X) {l : List AM} (g : Gd l X) (hn : nodes X ≤ 400) (N : Nat) : sayS N l S = some (syT l X) := by
  obtain ⟨k, hk, hk'⟩ := h.k
  refine sayS_lin (fun i hi => ?_) hk hk' (Nat.le_trans h.len hn)
  obtain ⟨Y, hs, hY⟩ := h.all i hi
  exact ⟨Y, hY, g.sub hs⟩
theorem StepsOf.ref {S : List Stp} {X : Tr} (h : StepsOf S X) {l : List AM} {n : Nat} (ok : ∀ a, a ∈ l → Ok n 1000000 a) (hn : n ≤ 12) (hx : NoT l n X) (N : Nat) : refB N l S = true ∧ ∀ a, prfB N l a S = true := by
  obtain ⟨g, m, c, b⟩ := hx.gd ok hn
  have hno : noneS N (syT l X) = true := by
    unfold noneS zeroX
    rw [Bool.and_eq_true, decide_eq_true_eq, decide_eq_true_eq]
    exact ⟨fun k _ => c k, b⟩
  refine ⟨?_, fun a => ?_⟩
  · unfold refB
    rw [h.say g m N]
    exact hno
  · unfold prfB
    rw [h.say g m N]
    show (noneS N (syT l X) || _) = true
    rw [hno]
    rfl
theorem StepsOf.prf {S : List Stp} {X : Tr} (h : StepsOf S X) {l : List AM} {n : Nat} (ok : ∀ a, a ∈ l → Ok n 1000000 a) (hn : n ≤ 12) {a : AM} {My : Int} (o : Ok n My a) {m : Int} (hx : OfT l n a m X) (hm : m ≤ a.M) (N : Nat) : prfB N l a S = true := by
  obtain ⟨g, mm, c, b⟩ := hx.pr.gd ok hn o
  unfold prfB
  rw [h.say g mm N]
  show (noneS N (syT l X) || wantS N a (syT l X)) = true
  have : wantS N a (syT l X) = true := by
    unfold wantS
    rw [Bool.and_eq_true, decide_eq_true_eq, decide_eq_true_eq]
    refine ⟨fun k _ => c k, ?_⟩
    show bd l X ≤ a.M
    rw [b]
    exact hm
  rw [this, Bool.or_true]

def StepsPost (X : Tr) (w : World) (e : Ending) (w' : World) : Prop := Below w.heap.size w w' ∧ ∃ S v, e = .returned v ∧ OwnS w' w.heap.size v S ∧ StepsOf S X

theorem run_store_fn {P : Program} (w : World) (a : Addr) (m : Mode) (f : Fn) (ts cs : Array Value) : (store a (.func f ts cs) m).run P w = stored P w a (.func f ts cs) m := run_store P w a _ m rfl
theorem steps_start (w : World) : St w w.heap.size (w.heap.size + 1 + 1) (w.heap.size + 1 + 1 + 1) (w.heap.size + 1) [] [] (.slice none 0 0)
    ((((w.alloc (.cells #[.slice none 0 0] 63)).alloc (.map #[] 0)).alloc (.cells #[.map (some (w.heap.size + 1))] 159)).alloc
      (.cells #[.func (.func 110) #[] #[.pointer (some ⟨w.heap.size + 1 + 1, 0, none⟩), .pointer (some ⟨w.heap.size + 1 + 1 + 1, 0, none⟩), .pointer (some ⟨w.heap.size, 0, none⟩)]] 160)) where
  own := ⟨rfl, .inl ⟨rfl, rfl⟩⟩
  cs := by
    rw [heapo _ _ _ (by simp; omega), heapo _ _ _ (by simp; omega), heapo _ _ _ (by simp)]
    exact heapn _ _ _ rfl
  cm := by
    rw [heapo _ _ _ (by simp)]
    exact heapn _ _ _ (by simp)
  cf := heapn _ _ _ (by simp)
  pm := ⟨#[], 0, by
    rw [heapo _ _ _ (by simp), heapo _ _ _ (by simp)]
    exact heapn _ _ _ (by simp), rfl⟩
  below := (((bnew _ _).alloc (by simp) _).alloc (by simp; omega) _).alloc (by simp; omega) _
  has := fun p hp => by cases hp
  bts := Nat.le_refl _
  bbm := Nat.le_succ _

theorem steps_any (X : Tr) (d : Nat) (w : World) (hd : IsD w X d) (hn : nodes X ≤ 1000000) : Calls Try.prog 78 #[.pointer (some ⟨d, 0, none⟩)] w (StepsPost X w) := by
  have hmm := @run_makeMap Try.prog
  have hsf := @run_store_fn Try.prog
  have HD := hid hd
  clear hd
  go_enter Try.func78, Try.ntmps78
  go_upto_region 5 with fail
  clear hmm hsf
  go_wp2_with (go_at_call 110; refine (add_any w _ _ _ _ X d [] [] _ _ HD.out (steps_start w) (by simpa using hn)).mono ?_; rintro e w5 ⟨S1, m1, v1, k1, rfl, hlin1, hln1, st1, hm1, hsz1, hfr1⟩; have hcs5 : w5.cell? ⟨w.heap.size, 0, none⟩ = some v1 := (by rw [cell_of_row _ _ _ _ _ _ st1.cs]; rfl); have HST := hid st1; have HL := hid (And.intro hlin1 hln1); clear st1 hm1 hsz1 hfr1 hlin1 hln1)
  go_ret
  have st := HST.out
  obtain ⟨hlin, hlen⟩ := HL.out
  refine ⟨st.below, S1, _, rfl, st.own, ⟨⟨k1, hlin.lin, ?_⟩, fun i hi => hlin.all i (Nat.zero_le _) hi, hlen⟩⟩
  rcases hlin.last with h | h
  · have := hlin.lin.lt
    rw [h] at this
    exact absurd this (Nat.not_lt_zero _)
  · exact h
end Go.Proofs.Ytnjbahiaelehkaa
