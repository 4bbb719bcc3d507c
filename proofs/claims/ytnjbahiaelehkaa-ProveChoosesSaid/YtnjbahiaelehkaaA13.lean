/- What shut says, put in plain words; the contracts of entails, Entails, Most and Possible of package prove. -/
import Derived.Test.YtnjbahiaelehkaaA12
namespace Go.Proofs.Ytnjbahiaelehkaa
open Go.RowKit

theorem right_ok {n : Nat} {a : AM} (h : rightB n a = true) : Ok n 1000000 a := by
  simp only [rightB, decide_eq_true_eq] at h
  obtain ⟨⟨h1, h2⟩, h3, ⟨h4, h5⟩, ⟨h6, h7⟩, h8⟩ := h
  refine ⟨h1, by omega, h3, by omega, h6, h7, fun hq => ?_, fun hq => ?_⟩
  · rw [if_pos hq] at h8; exact h8
  · rw [if_neg hq] at h8; omega
theorem rights_ok {n : Nat} {l : List AM} (h : rightsB n l = true) : ∀ a, a ∈ l → Ok n 1000000 a := by
  intro a ha
  exact right_ok (by simpa [rightsB] using (List.all_eq_true.1 h a ha))

/-- A closed that lies in block c. -/
def ShutAt (l : List AM) (n : Nat) (Mx : Int) (c : Nat) (wx : World) : Prop :=
  ∃ C M no tp ty D T, Row51 wx c C ∧ CV C n M no tp ty ∧ Mat wx M D T ∧ (∀ i, i < 24 → -FF ≤ tp i ∧ tp i ≤ FF) ∧
    ((∃ d X, no = some ⟨d, 0, none⟩ ∧ IsD wx X d ∧ NoT l n X) ∨ (no = none ∧ Fin FF Mx l n D T ∧ Tight FF n D ∧ Tops n D T tp ty (2 * n) wx))

theorem ShutAt.new {l : List AM} {n : Nat} {Mx : Int} {w2 : World} {C : Array Value} {M : Nat} {no : Option Addr} {tp : Nat → Int} {ty : Nat → Option Addr} {D : Nat → Nat → Int} {T : Nat → Nat → Tr} {Z : Array Value}
    (cv : CV C n M no tp ty) (hm : Mat w2 M D T) (hbd : ∀ i, i < 24 → -FF ≤ tp i ∧ tp i ≤ FF)
    (hor : (∃ d X, no = some ⟨d, 0, none⟩ ∧ IsD w2 X d ∧ NoT l n X) ∨ (no = none ∧ Fin FF Mx l n D T ∧ Tight FF n D ∧ Tops n D T tp ty (2 * n) w2)) :
    ShutAt l n Mx w2.heap.size ((w2.alloc (.cells Z 105)).setRow w2.heap.size C) := by
  have hb : Below w2.heap.size w2 ((w2.alloc (.cells Z 105)).setRow w2.heap.size C) := (bnew _ _).trans (setRow_below C (Nat.le_refl _))
  refine ⟨C, M, no, tp, ty, D, T, ⟨setRow_heap _ _ _ _ _ _ (heapn _ _ _ rfl), cv.size⟩, cv, hm.below hb, hbd, ?_⟩
  rcases hor with ⟨d, X, h1, h2, h3⟩ | ⟨h1, h2, h3, h4⟩
  · exact .inl ⟨d, X, h1, h2.below hb, h3⟩
  · exact .inr ⟨h1, h2, h3, h4.below hb⟩
theorem newRow_below {w2 : World} {Z C : Array Value} : Below w2.heap.size w2 ((w2.alloc (.cells Z 105)).setRow w2.heap.size C) := (bnew _ _).trans (setRow_below C (Nat.le_refl _))

theorem am_alloc (w : World) (x : AM) : AMat (w.alloc (.cells #[.int .i64 x.A, .int .i64 x.P, .int .i64 x.B, .int .i64 x.Q, .int .i64 x.M] 24)) w.heap.size 0 x := by
  have e := fun j => celln w #[.int .i64 x.A, .int .i64 x.P, .int .i64 x.B, .int .i64 x.Q, .int .i64 x.M] 24 w.heap.size j rfl
  exact ⟨e 0, e 1, e 2, e 3, e 4⟩
theorem AMat.below {w w' : World} {b o : Nat} {x : AM} (h : AMat w b o x) (hb : Below w.heap.size w w') : AMat w' b o x := by
  obtain ⟨h1, h2, h3, h4, h5⟩ := h
  exact ⟨cell_later hb h1, cell_later hb h2, cell_later hb h3, cell_later hb h4, cell_later hb h5⟩

theorem far_bd {l : List AM} {n : Nat} {Mx : Int} {D : Nat → Nat → Int} {T : Nat → Nat → Tr} (hM : 0 ≤ Mx) (hn : n ≤ 12) (h : Fin FF Mx l n D T) {a : AM} {My : Int} (o : Ok n My a) {m : Int} (hm : far FF D a = some m) : -(46 * Mx) - 1 ≤ m ∧ m ≤ 46 * Mx := by
  have hi := nd_lt (s := a.P) o.a0 o.an
  have hb := fun {i j} (hi : i < 2 * n) (hj : j < 2 * n) (hij : i ≠ j) hf => h.st.bound h.ok hM hn (Nat.le_refl _) hi hj hij hf
  unfold far at hm
  by_cases hq : a.Q = 0
  · simp only [hq, if_true] at hm
    split at hm
    · cases hm
    · rename_i hf
      have := hb hi (ot_lt hi) (Ne.symm (ot_ne _)) hf
      cases hm; omega
  · simp only [hq, if_false] at hm
    obtain ⟨b0, b1, b2⟩ := o.b1 hq
    have hj := nd_lt (s := -a.Q) b0 b1
    have hij : nd a.A a.P ≠ nd a.B (-a.Q) := by
      have := o.a0
      unfold nd; intro e; split at e <;> split at e <;> omega
    unfold bin at hm
    split at hm
    · split at hm
      · cases hm
      · rename_i hf
        have := hb hi hj hij hf
        cases hm; omega
    · rename_i hf
      have hf' := not_or.1 hf
      have h1 := hb hi (ot_lt hi) (Ne.symm (ot_ne _)) hf'.1
      have h2 := hb (ot_lt hj) hj (ot_ne _) hf'.2
      split at hm
      · cases hm; omega
      · rename_i hc
        have hc' := not_or.1 hc
        have := hb hi hj hij hc'.1
        cases hm; omega

/-- What of tells, when numbers fit. -/
theorem of_res {l : List AM} {n : Nat} {Mx : Int} {D : Nat → Nat → Int} {T : Nat → Nat → Tr} {tp : Nat → Int} {ty : Nat → Option Addr} {w : World} (hM : 0 ≤ Mx) (hn : n ≤ 12) (hF : 100 * Mx < FF) (h : Fine l n Mx D T tp ty w) {a : AM} {My : Int} (o : Ok n My a) :
    (ofM tp D a = FF ∧ maxO l a = none) ∨ (ofM tp D a ≠ FF ∧ maxO l a = some (ofM tp D a)) := by
  have e1 := ofM_far hM hn hF h o
  have e2 := h.1.far_max h.2.1 o
  rw [e1, e2]
  cases hf : far FF D a with
  | none => exact .inl ⟨rfl, rfl⟩
  | some m =>
    have := far_bd hM hn h.1 o hf
    refine .inr ⟨?_, rfl⟩
    show m ≠ FF
    unfold FF at hF ⊢
    omega

/-- What Most returns. -/
noncomputable def mostN (l : List AM) (x : AM) : Int := if possB l then (maxO l x).getD 0 else 0
noncomputable def mostE (l : List AM) (x : AM) : Int := if possB l then (match maxO l x with | some _ => 0 | none => 5) else 10

noncomputable def mostV (n : Int) (l : List AM) (x : AM) : Int := if lineN n l x = 0 then mostN l x else 0
noncomputable def mostC (n : Int) (l : List AM) (x : AM) : Int := if lineN n l x = 0 then mostE l x else lineN n l x

theorem hM6 : (0 : Int) ≤ 1000000 := by decide
theorem hF6 : 100 * (1000000 : Int) < FF := by decide

def Ret2 (v u : Value) (w : World) (e : Ending) (w' : World) : Prop := e = .returned (.tuple #[v, u]) ∧ Below w.heap.size w w'

set_option maxRecDepth 100000 in
set_option maxHeartbeats 4000000 in
theorem most_any (n : Int) (l : List AM) (A P B Q L : Int) (a : Option Addr) (cap : Nat) (w : World) (hl : Rd w a l) (hlen : l.length ≤ 1000000) :
    Calls Try.prog 18 #[.int .i64 n, .slice a l.length cap, .agg #[.int .i64 A, .int .i64 P, .int .i64 B, .int .i64 Q, .int .i64 L]] w
      (Ret2 (.int .i64 (mostV n l ⟨A, P, B, Q, L⟩)) (.int .i64 (mostC n l ⟨A, P, B, Q, L⟩)) w) := by
  have HL := hid hl; clear hl
  by_cases h0 : lineN n l ⟨A, P, B, Q, L⟩ = 0
  · have hc0 : checkN n l = 0 := by
      unfold lineN at h0; split at h0
      · assumption
      · exact h0
    have hr0 : rightB n ⟨A, P, B, Q, L⟩ = true := by
      unfold lineN at h0; rw [if_pos hc0] at h0; split at h0
      · assumption
      · cases h0
    obtain ⟨⟨hn1, hn2⟩, _, hrs⟩ := checkN_in hc0
    obtain ⟨N, rfl⟩ : ∃ N : Nat, n = (N : Int) := ⟨n.toNat, by omega⟩
    have hN : N ≤ 12 := by omega
    have HOK := hid (rights_ok hrs)
    have HO := hid (right_ok hr0)
    have H0 := hid h0
    clear h0 hc0 hr0 hrs
    go_enter Try.func18, Try.ntmps18
    go_upto_region 4 with (go_at_call 56; refine (line_any _ l A P B Q L a cap _ (HL.out.below (bnew _ _)) (by omega)).mono ?_; rw [H0.out]; rintro e w1 ⟨rfl, hb1⟩; obtain ⟨hc1, hf1⟩ := bcell hb1; have hs1 := hb1.size; simp only [World.size_alloc] at hs1)
    have HB1 := hid hb1; clear hb1
    go_cut [9] (fun s9 wx => ∃ c : Nat, s9 = .pointer (some ⟨c, 0, none⟩) ∧ ShutAt l N 1000000 c wx ∧ Below w1.heap.size w1 wx)
    case first =>
      go_wp2_with (first | (go_at_call 57; refine (shut_any N hN _ l a cap 1000000 HOK.out hM6 hF6 (HL.out.below ((bnew _ _).step HB1.out)) hlen).mono ?_; rintro e w2 ⟨hb2, C, M, no, tp, ty, D, T, rfl, cv, hm, hbd, hor⟩; have HX := hid (And.intro hb2 (And.intro cv (And.intro hm (And.intro hbd hor)))); clear hb2 cv hm hbd hor) | (refine wpList_store_row rfl 105 (.tmp 9) (.tmp 20) rfl _ C rfl rfl 105 _ (heapn _ _ _ rfl) (by rw [HX.out.2.1.size]; exact size105) (by rw [HX.out.2.1.size]; rfl) HX.out.2.1.one ?_))
      go_meet
      obtain ⟨hb2, cv, hm, hbd, hor⟩ := HX.out
      exact ⟨_, rfl, ShutAt.new cv hm hbd hor, hb2.step newRow_below⟩
    case rest =>
      obtain ⟨c, rfl, ⟨C, M, no, tp, ty, D, T, hrow, cv, hm, hbd, hor⟩, hb3⟩ := hcut
      have hcs : CS wc c N M no tp ty := ⟨C, hrow, cv⟩
      have hno := hcs.getNo
      have hcl := hcs.lt
      have hs3 := hb3.size
      have HROW := hid hrow; clear hrow
      have HCV := hid cv; clear cv
      have HM := hid hm; clear hm
      have HBD := hid hbd; clear hbd
      have HB3 := hid hb3; clear hb3
      clear hcs
      rcases hor with ⟨d, X, rfl, hd, hno'⟩ | ⟨rfl, hfin, htight, htops⟩
      · have hp := hno'.noposs HOK.out
        go_wp2
        go_ret2
        exact ⟨by simp [mostV, mostC, mostN, mostE, H0.out, hp], ((bnew _ _).step HB1.out).step HB3.out⟩
      · have HFINE := hid (And.intro hfin (And.intro htight htops)); clear hfin htight htops
        have ham := ((am_alloc w ⟨A, P, B, Q, L⟩).below HB1.out).below HB3.out
        obtain ⟨k0, k1, k2, k3, k4⟩ := ham
        simp only [Nat.zero_add] at k0 k1 k2 k3 k4
        go_wp2_with (first | (refine wpList_load_row rfl 105 (.tmp 9) rfl c rfl 105 C (0, 0) _ HROW.out.1 Try.underlying105 rfl (by rw [HROW.out.2]; exact size105) ?_) | (go_at_call 58; refine (of_any N hN _ C N M none tp ty D T HCV.out HM.out HBD.out A P B Q L _ HO.out).mono ?_; rintro e w3 ⟨hb, p, rfl, hofp⟩; have HB4 := hid hb; clear hb; clear hofp))
        · have ht : (ofM tp D ⟨A, P, B, Q, L⟩ == 1152921504606846976) = true := by assumption
          have ht' : ofM tp D ⟨A, P, B, Q, L⟩ = FF := by simpa using ht
          have hp := HFINE.out.1.poss HFINE.out.2.1
          rcases of_res hM6 hN hF6 HFINE.out HO.out with ⟨_, hmx⟩ | ⟨h1, _⟩
          · go_ret2
            exact ⟨by simp [mostV, mostC, mostN, mostE, H0.out, hp, hmx], (((bnew _ _).step HB1.out).step HB3.out).step (HB4.out.step (bnew _ _))⟩
          · exact absurd ht' h1
        · have ht : (ofM tp D ⟨A, P, B, Q, L⟩ == 1152921504606846976) = false := by assumption
          have ht' : ofM tp D ⟨A, P, B, Q, L⟩ ≠ FF := by simpa using ht
          have hp := HFINE.out.1.poss HFINE.out.2.1
          rcases of_res hM6 hN hF6 HFINE.out HO.out with ⟨h1, _⟩ | ⟨_, hmx⟩
          · exact absurd h1 ht'
          · go_ret2
            exact ⟨by simp [mostV, mostC, mostN, mostE, H0.out, hp, hmx], (((bnew _ _).step HB1.out).step HB3.out).step (HB4.out.step (bnew _ _))⟩
  · have hne : (lineN n l ⟨A, P, B, Q, L⟩ == 0) = false := by simpa using h0
    go_enter Try.func18, Try.ntmps18
    go_wp2_with (go_at_call 56; refine (line_any _ l A P B Q L a cap _ (HL.out.below (bnew _ _)) (by omega)).mono ?_; rintro e w1 ⟨rfl, hb1⟩)
    go_ret2
    exact ⟨by simp [mostV, mostC, h0], (bnew _ _).step hb1⟩
end Go.Proofs.Ytnjbahiaelehkaa
