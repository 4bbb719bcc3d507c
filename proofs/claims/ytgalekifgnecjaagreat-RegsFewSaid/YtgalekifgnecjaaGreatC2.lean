/- IndexFunc and ContainsFunc over any function value: numbers and guards. -/
import Derived.Test.YtgalekifgnecjaaGreatC3
import Derived.Lib.QuietBelow
namespace Go.Proofs.YtgalekifgnecjaaGreat
open Go.RowKit

/-- What is asked of a predicate that is handed to the library: at each element it returns what p says, and changes nothing. -/
def PredI (F : Nat) (lb : Array Value) (p : Int → Bool) (l : List Int) (w : World) : Prop := ∀ x, x ∈ l → ∀ w', Below w.heap.size w w' → Calls Tryz.prog F (#[.int .i64 x] ++ lb) w' (RetB (.bool (p x)) w')
def Enters (F : Nat) : Prop := ∀ args w, (callFunc F args).run Tryz.prog w = .ok (.enter F args) w
set_option maxHeartbeats 1000000 in
theorem indexI (F : Nat) (eg : Enters F) (lb : Array Value) (p : Int → Bool) (l : List Int) (a : Option Addr) (cap : Nat) (w : World) (hk : PredI F lb p l w) (hl : RdI w a l) (hll : l.length ≤ 9223372036854775807) :
    Calls Tryz.prog 171 #[.slice a l.length cap, .func (.func F) #[] lb] w (RetB (.int .i64 (idxP p l)) w) := by
  have HL := hid hl; clear hl
  have HK := hid hk; clear hk
  have heg : ∀ args w, (callFunc F args).run Tryz.prog w = .ok (.enter F args) w := eg
  clear eg
  go_enter Tryz.func171, Tryz.ntmps171
  go_wp2
  go_loopg [8] l.length (fun gh s8 wr => ∃ j : Nat, j ≤ l.length ∧ gh = l.length - j ∧ s8 = .int .i64 j ∧ Hid (∀ x, x ∈ l.take j → p x = false) ∧ Hid (Below w.heap.size w wr))
  case atStart => exact ⟨0, Nat.zero_le _, rfl, rfl, hid (by simp), hid (Below.refl _ _)⟩
  case round =>
    obtain ⟨j, hj, rfl, rfl, HQ, HB⟩ := hrel
    by_cases hlj : j < l.length
    · obtain ⟨b2, off, ha, hlt2, h0⟩ := (HL.out.below HB.out) j hlj
      subst ha
      have nj : (j : Int) < (l.length : Int) := by omega
      have HG := hid (idxP_some (p := p) (l := l) (i := j) hlj)
      have HT : Hid (l.take (j + 1) = l.take j ++ [l[j]]) := hid (take_last hlj)
      have HKG := hid (HK.out l[j] (List.getElem_mem hlj) wr HB.out)
      generalize l[j] = g at *
      cases hg : p g with
      | true =>
        rw [hg] at HKG
        have HE := hid (HG.out hg HQ.out)
        clear hg
        go_wp2
        refine HKG.out.mono ?_
        rintro e w' ⟨rfl, hb⟩
        have HB2 := hid (HB.out.step hb)
        clear hb
        go_wp2
        go_ret
        exact ⟨ret_int HE.out.symm, HB2.out⟩
      | false =>
        rw [hg] at HKG
        have HGF := hid hg
        clear hg
        go_wp2
        refine HKG.out.mono ?_
        rintro e w' ⟨rfl, hb⟩
        have HB2 := hid (HB.out.step hb)
        clear hb
        go_wp2
        go_roundg (l.length - (j + 1))
        case measure => omega
        case rel =>
          refine ⟨j + 1, by omega, rfl, by go_num, hid fun x hx => ?_, HB2⟩
          rw [HT.out, List.mem_append] at hx
          rcases hx with hx | hx
          · exact HQ.out x hx
          · rw [List.mem_singleton.1 hx]; exact HGF.out
    · obtain rfl : j = l.length := by omega
      have HE := hid (idxP_none (p := p) (fun x hx => HQ.out x (by rw [List.take_length]; exact hx)))
      go_wp2
      go_ret
      exact ⟨ret_int HE.out.symm, HB.out⟩
def PredG (F : Nat) (lb : Array Value) (p : GrdN → Bool) (l : List GrdN) (w : World) : Prop := ∀ x, x ∈ l → ∀ w', Below w.heap.size w w' → Calls Tryz.prog F (#[vG x] ++ lb) w' (RetB (.bool (p x)) w')
def PredC (F : Nat) (lb : Array Value) (p : InsN → Bool) (l : List InsN) (w : World) : Prop := ∀ x, x ∈ l → ∀ w', Below w.heap.size w w' → Calls Tryz.prog F (#[vI x] ++ lb) w' (RetB (.bool (p x)) w')
set_option maxHeartbeats 1000000 in
theorem indexG (F : Nat) (eg : Enters F) (lb : Array Value) (p : GrdN → Bool) (l : List GrdN) (a : Option Addr) (cap : Nat) (w : World) (hk : PredG F lb p l w) (hl : RdD w a l) (hll : l.length ≤ 9223372036854775807) :
    Calls Tryz.prog 172 #[.slice a l.length cap, .func (.func F) #[] lb] w (RetB (.int .i64 (idxP p l)) w) := by
  have HL := hid hl; clear hl
  have HK := hid hk; clear hk
  have heg : ∀ args w, (callFunc F args).run Tryz.prog w = .ok (.enter F args) w := eg
  clear eg
  go_enter Tryz.func172, Tryz.ntmps172
  go_wp2
  go_loopg [8] l.length (fun gh s8 wr => ∃ j : Nat, j ≤ l.length ∧ gh = l.length - j ∧ s8 = .int .i64 j ∧ Hid (∀ x, x ∈ l.take j → p x = false) ∧ Hid (Below w.heap.size w wr))
  case atStart => exact ⟨0, Nat.zero_le _, rfl, rfl, hid (by simp), hid (Below.refl _ _)⟩
  case round =>
    obtain ⟨j, hj, rfl, rfl, HQ, HB⟩ := hrel
    by_cases hlj : j < l.length
    · obtain ⟨b2, off, ha, hlt2, h0, h1, h2⟩ := (HL.out.below HB.out) j hlj
      subst ha
      have nj : (j : Int) < (l.length : Int) := by omega
      have HG := hid (idxP_some (p := p) (l := l) (i := j) hlj)
      have HT : Hid (l.take (j + 1) = l.take j ++ [l[j]]) := hid (take_last hlj)
      have HKG := hid (HK.out l[j] (List.getElem_mem hlj) wr HB.out)
      generalize l[j] = g at *
      cases hg : p g with
      | true =>
        rw [hg] at HKG
        have HE := hid (HG.out hg HQ.out)
        clear hg
        go_wp2
        refine HKG.out.mono ?_
        rintro e w' ⟨rfl, hb⟩
        have HB2 := hid (HB.out.step hb)
        clear hb
        go_wp2
        go_ret
        exact ⟨ret_int HE.out.symm, HB2.out⟩
      | false =>
        rw [hg] at HKG
        have HGF := hid hg
        clear hg
        go_wp2
        refine HKG.out.mono ?_
        rintro e w' ⟨rfl, hb⟩
        have HB2 := hid (HB.out.step hb)
        clear hb
        go_wp2
        go_roundg (l.length - (j + 1))
        case measure => omega
        case rel =>
          refine ⟨j + 1, by omega, rfl, by go_num, hid fun x hx => ?_, HB2⟩
          rw [HT.out, List.mem_append] at hx
          rcases hx with hx | hx
          · exact HQ.out x hx
          · rw [List.mem_singleton.1 hx]; exact HGF.out
    · obtain rfl : j = l.length := by omega
      have HE := hid (idxP_none (p := p) (fun x hx => HQ.out x (by rw [List.take_length]; exact hx)))
      go_wp2
      go_ret
      exact ⟨ret_int HE.out.symm, HB.out⟩
theorem someI (F : Nat) (eg : Enters F) (lb : Array Value) (p : Int → Bool) (l : List Int) (a : Option Addr) (cap : Nat) (w : World) (hk : PredI F lb p l w) (hl : RdI w a l) (hll : l.length ≤ 9223372036854775807) :
    Calls Tryz.prog 99 #[.slice a l.length cap, .func (.func F) #[] lb] w (RetB (.bool (l.any p)) w) := by
  have HI := hid (indexI F eg lb p l a cap w hk hl hll)
  have HA := hid (idxP_any p l)
  clear hk hl eg
  generalize l.any p = r at *
  generalize idxP p l = i at *
  go_enter Tryz.func99, Tryz.ntmps99
  go_wp2_with (go_at_call 171; refine HI.out.mono ?_; rintro e w' ⟨rfl, hb⟩; have HB := hid hb; clear hb)
  go_ret
  exact ⟨ret_bool HA.out, HB.out⟩
theorem someG (F : Nat) (eg : Enters F) (lb : Array Value) (p : GrdN → Bool) (l : List GrdN) (a : Option Addr) (cap : Nat) (w : World) (hk : PredG F lb p l w) (hl : RdD w a l) (hll : l.length ≤ 9223372036854775807) :
    Calls Tryz.prog 214 #[.slice a l.length cap, .func (.func F) #[] lb] w (RetB (.bool (l.any p)) w) := by
  have HI := hid (indexG F eg lb p l a cap w hk hl hll)
  have HA := hid (idxP_any p l)
  clear hk hl eg
  generalize l.any p = r at *
  generalize idxP p l = i at *
  go_enter Tryz.func214, Tryz.ntmps214
  go_wp2_with (go_at_call 172; refine HI.out.mono ?_; rintro e w' ⟨rfl, hb⟩; have HB := hid hb; clear hb)
  go_ret
  exact ⟨ret_bool HA.out, HB.out⟩

set_option maxHeartbeats 1000000 in
theorem index_any (l : List Int) (x : Int) (a : Option Addr) (cap : Nat) (w : World) (hl : RdI w a l) (hll : l.length ≤ 9223372036854775807) :
    Calls Tryz.prog 198 #[.slice a l.length cap, .int .i64 x] w (RetS (.int .i64 (idxP (fun y => x == y) l)) w) := by
  have HL := hid hl; clear hl
  go_enter Tryz.func198, Tryz.ntmps198
  go_wp2
  go_loopg [8] l.length (fun gh s8 wr => ∃ j : Nat, j ≤ l.length ∧ gh = l.length - j ∧ s8 = .int .i64 j ∧ Hid (∀ y, y ∈ l.take j → (x == y) = false) ∧ Hid (w = wr))
  case atStart => exact ⟨0, Nat.zero_le _, rfl, rfl, hid (by simp), hid rfl⟩
  case round =>
    obtain ⟨j, hj, rfl, rfl, HQ, HB⟩ := hrel
    by_cases hlj : j < l.length
    · have hrd := HL.out j hlj
      rw [HB.out] at hrd
      obtain ⟨b2, off, ha, hlt2, h0⟩ := hrd
      subst ha
      have nj : (j : Int) < (l.length : Int) := by omega
      have HG := hid (idxP_some (p := fun y => x == y) (l := l) (i := j) hlj)
      have HT : Hid (l.take (j + 1) = l.take j ++ [l[j]]) := hid (take_last hlj)
      generalize l[j] = g at *
      cases hg : (x == g) with
      | true =>
        have HE := hid (HG.out hg HQ.out)
        go_wp2
        go_ret
        exact ⟨ret_int HE.out.symm, HB.out⟩
      | false =>
        have HGF := hid hg
        go_wp2
        go_roundg (l.length - (j + 1))
        case measure => omega
        case rel =>
          refine ⟨j + 1, by omega, rfl, by go_num, hid fun x hx => ?_, HB⟩
          rw [HT.out, List.mem_append] at hx
          rcases hx with hx | hx
          · exact HQ.out x hx
          · rw [List.mem_singleton.1 hx]; exact HGF.out
    · obtain rfl : j = l.length := by omega
      have HE := hid (idxP_none (p := fun y => x == y) (fun x hx => HQ.out x (by rw [List.take_length]; exact hx)))
      go_wp2
      go_ret
      exact ⟨ret_int HE.out.symm, HB.out⟩
theorem contains_any (l : List Int) (x : Int) (a : Option Addr) (cap : Nat) (w : World) (hl : RdI w a l) (hll : l.length ≤ 9223372036854775807) :
    Calls Tryz.prog 141 #[.slice a l.length cap, .int .i64 x] w (RetS (.bool (l.contains x)) w) := by
  have HI := hid (index_any l x a cap w hl hll)
  have HA := hid (idxP_any (fun y => x == y) l)
  rw [← List.contains_eq_any_beq] at HA
  clear hl
  generalize l.contains x = r at *
  generalize idxP (fun y => x == y) l = i at *
  go_enter Tryz.func141, Tryz.ntmps141
  go_wp2_with (go_at_call 198; refine HI.out.mono ?_; rintro e w' ⟨rfl, rfl⟩)
  go_ret
  exact ⟨ret_bool HA.out, rfl⟩
/-- What add leaves: a slice of the call's own (or what came in), nothing else has turned but the row that it grew in. -/
def AddRet (v : Value) (base : Nat) (l : List Int) (w : World) (e : Ending) (w' : World) : Prop := ∃ v', e = .returned v' ∧ OwnI w' base v' l ∧ w.grownBy w' v.ownBlock ∧ (v'.ownBlock = v.ownBlock ∨ ∃ b, v'.ownBlock = some b ∧ w.heap.size ≤ b)
theorem addL_snoc (l more : List Int) (x : Int) : addL l (more ++ [x]) = if (addL l more).contains x = true then addL l more else addL l more ++ [x] := by
  unfold addL
  rw [List.foldl_append]
  rfl
theorem addL_len (l more : List Int) : (addL l more).length ≤ l.length + more.length := by
  unfold addL
  induction more generalizing l with
  | nil => exact Nat.le_refl _
  | cons x m ih =>
    rw [List.foldl_cons]
    refine Nat.le_trans (ih _) ?_
    rw [List.length_cons]
    split
    · omega
    · rw [List.length_append, List.length_singleton]; omega
theorem grown_trans {a b c : World} {r r' : Option Nat} (h : a.grownBy b r) (k : b.grownBy c r') (hr : r' = r ∨ ∃ x, r' = some x ∧ a.heap.size ≤ x) : a.grownBy c r :=
  ⟨k.os.trans h.os, k.tape.trans h.tape, k.output.trans h.output, Nat.le_trans h.size k.size, fun i hi hn => (k.block i (Nat.lt_of_lt_of_le hi h.size) (by
    rcases hr with rfl | ⟨x, rfl, hx⟩
    · exact hn
    · intro e; cases e; omega)).trans (h.block i hi hn)⟩
theorem RdI.grown {w w' : World} {a : Option Addr} {l : List Int} {r : Option Nat} (h : RdI w a l) (hg : w.grownBy w' r) (hn : ∀ b off, a = some ⟨b, off, none⟩ → some b ≠ r) : RdI w' a l := by
  intro i hi
  obtain ⟨b, off, ha, hlt, h0⟩ := h i hi
  exact ⟨b, off, ha, Nat.lt_of_lt_of_le hlt hg.size, by rw [World.cell?_of_block (w := w) (hg.block b hlt (hn b off ha))]; exact h0⟩
set_option maxHeartbeats 1000000 in
theorem add_any (base : Nat) (v : Value) (l more : List Int) (a : Option Addr) (cap : Nat) (w : World) (ho : OwnI w base v l) (hm : RdI w a more) (hlen : l.length + more.length ≤ 1000000) (hn : ∀ b off, a = some ⟨b, off, none⟩ → some b ≠ v.ownBlock) (hb : base ≤ w.heap.size) :
    Calls Tryz.prog 74 #[v, .slice a more.length cap] w (AddRet v base (addL l more) w) := by
  have HO := hid ho; clear ho
  have HM := hid hm; clear hm
  have HN := hid hn; clear hn
  go_enter Tryz.func74, Tryz.ntmps74
  go_wp2
  go_loopg [0, 9] more.length (fun gh s0 s9 wr => ∃ j : Nat, j ≤ more.length ∧ gh = more.length - j ∧ s9 = .int .i64 j ∧ Hid (OwnI wr base s0 (addL l (more.take j)) ∧ w.grownBy wr v.ownBlock ∧ (s0.ownBlock = v.ownBlock ∨ ∃ b, s0.ownBlock = some b ∧ w.heap.size ≤ b)))
  case atStart => exact ⟨0, Nat.zero_le _, rfl, rfl, hid ⟨HO.out, ⟨rfl, rfl, rfl, Nat.le_refl _, fun _ _ _ => rfl⟩, .inl rfl⟩⟩
  case round =>
    obtain ⟨j, hj, rfl, rfl, HK⟩ := hrel
    by_cases hlj : j < more.length
    · have hm2 := HM.out.grown HK.out.2.1 HN.out
      obtain ⟨b2, off, ha, hlt2, h0⟩ := hm2 j hlj
      have HL2 : (addL l (more.take j)).length ≤ 1000000 - 1 := by have := addL_len l (more.take j); rw [List.length_take] at this; omega
      subst ha
      have nj : (j : Int) < (more.length : Int) := by omega
      have HS : Hid (addL l (more.take (j + 1)) = if (addL l (more.take j)).contains more[j] = true then addL l (more.take j) else addL l (more.take j) ++ [more[j]]) := hid (by rw [take_last hlj, addL_snoc])
      obtain ⟨v0, hv0⟩ : ∃ v0, v0 = u0 := ⟨_, rfl⟩
      obtain ⟨a1, c1, rfl, hr1⟩ := HK.out.1.rd
      have HC := hid (contains_any (addL l (more.take j)) more[j] a1 c1 wr hr1 (by omega))
      generalize more[j] = x at *
      cases hg : (addL l (more.take j)).contains x with
      | true =>
        rw [hg] at HC
        rw [if_pos hg] at HS
        clear hg hr1
        go_wp2_with (go_at_call 141; (with_reducible refine HC.out.mono ?_); rintro e w' ⟨rfl, rfl⟩)
        go_roundg (more.length - (j + 1))
        case measure => omega
        case rel => exact ⟨j + 1, by omega, rfl, by go_num, hid ⟨by rw [HS.out]; exact HK.out.1, HK.out.2⟩⟩
      | false =>
        rw [hg] at HC
        rw [if_neg (by rw [hg]; simp)] at HS
        clear hg hr1
        have hsz := HK.out.2.1.size
        go_wp2_with (first
          | (go_at_call 141; (with_reducible refine HC.out.mono ?_); rintro e w' ⟨rfl, rfl⟩)
          | (at_builtin; refine wpList_append_ints _ rfl _ _ rfl base _ _ [x] rfl (OwnI.later HK.out.1 (bnew _ _)) (some ⟨_, 0, none⟩) 1 rfl (rd_one _ _ _) (by simp; omega) (by simp; omega) ?_; intro v' w5 hown' hgrow hat))
        go_roundg (more.length - (j + 1))
        case measure => omega
        case rel =>
          refine ⟨j + 1, by omega, rfl, by go_num, hid ⟨by rw [HS.out]; exact hown', ?_, ?_⟩⟩
          · exact grown_trans (grown_trans HK.out.2.1 (World.grownBy_alloc _ _ _) (.inl rfl)) hgrow HK.out.2.2
          · rcases hat with h | h
            · rw [h]; exact HK.out.2.2
            · exact .inr ⟨_, h, by simp; omega⟩
    · obtain rfl : j = more.length := by omega
      go_wp2
      go_ret
      exact ⟨_, rfl, by have := HK.out.1; rwa [List.take_length] at this, HK.out.2⟩

set_option maxHeartbeats 1000000 in
theorem filterI_any (F : Nat) (eg : Enters F) (lb : Array Value) (p : Int → Bool) (l : List Int) (a : Option Addr) (cap : Nat) (w : World) (hk : PredI F lb p l w) (hl : RdI w a l) (hll : l.length ≤ 1000000) :
    Calls Tryz.prog 109 #[.slice a l.length cap, .func (.func F) #[] lb] w (OwnRet (l.filter p) w) := by
  have HL := hid hl; clear hl
  have HK := hid hk; clear hk
  have heg : ∀ args w, (callFunc F args).run Tryz.prog w = .ok (.enter F args) w := eg
  clear eg
  go_enter Tryz.func109, Tryz.ntmps109
  go_wp2
  go_loopg [5, 10] l.length (fun gh s5 s10 wr => ∃ j : Nat, j ≤ l.length ∧ gh = l.length - j ∧ s10 = .int .i64 j ∧ Hid (OwnI wr w.heap.size s5 ((l.take j).filter p) ∧ Below w.heap.size w wr))
  case atStart => exact ⟨0, Nat.zero_le _, rfl, rfl, hid ⟨World.ownsRow_nil _ _ _ _, Below.refl _ _⟩⟩
  case round =>
    obtain ⟨j, hj, rfl, rfl, HQ⟩ := hrel
    by_cases hlj : j < l.length
    · obtain ⟨b2, off, ha, hlt2, h0⟩ := (HL.out.below HQ.out.2) j hlj
      subst ha
      have nj : (j : Int) < (l.length : Int) := by omega
      have hlen : ((l.take j).filter p).length ≤ j := by have := List.length_filter_le p (l.take j); rw [List.length_take] at this; omega
      have HT : Hid ((l.take (j + 1)).filter p = (l.take j).filter p ++ (if p l[j] = true then [l[j]] else [])) := hid (by rw [take_last hlj, List.filter_append]; cases h : p l[j] <;> simp [h])
      have HKG := hid (HK.out l[j] (List.getElem_mem hlj) wr HQ.out.2)
      generalize l[j] = g at *
      cases hg : p g with
      | true =>
        rw [hg] at HKG
        rw [if_pos hg] at HT
        clear hg
        go_wp2
        refine HKG.out.mono ?_
        rintro e w' ⟨rfl, hb⟩
        have HQ2 := hid (And.intro (HQ.out.1.later hb) (HQ.out.2.step hb))
        have hsz := HQ2.out.2.size
        clear hb
        go_wp2_with (at_builtin; refine wpList_append_ints _ rfl _ _ rfl w.heap.size _ _ [g] rfl (OwnI.later HQ2.out.1 (bnew _ _)) (some ⟨_, 0, none⟩) 1 rfl (rd_one _ _ _) (by simp; omega) (by simp; omega) ?_; intro v' w5 hown' hgrow hnil)
        go_roundg (l.length - (j + 1))
        case measure => omega
        case rel => exact ⟨j + 1, by omega, rfl, by go_num, hid ⟨by rw [HT.out]; exact hown', ((HQ2.out.2).alloc (by omega) _).grown hgrow (by simp; omega) (own_ge HQ2.out.1)⟩⟩
      | false =>
        rw [hg] at HKG
        rw [if_neg (by rw [hg]; simp), List.append_nil] at HT
        clear hg
        go_wp2
        refine HKG.out.mono ?_
        rintro e w' ⟨rfl, hb⟩
        have HQ2 := hid (And.intro (HQ.out.1.later hb) (HQ.out.2.step hb))
        clear hb
        go_wp2
        go_roundg (l.length - (j + 1))
        case measure => omega
        case rel => exact ⟨j + 1, by omega, rfl, by go_num, hid ⟨by rw [HT.out]; exact HQ2.out.1, HQ2.out.2⟩⟩
    · obtain rfl : j = l.length := by omega
      go_wp2
      go_ret
      exact ⟨HQ.out.2, _, rfl, by have := HQ.out.1; rwa [List.take_length] at this⟩
set_option maxHeartbeats 1000000 in
theorem filterC_any (F : Nat) (eg : Enters F) (lb : Array Value) (p : InsN → Bool) (l : List InsN) (a : Option Addr) (cap : Nat) (w : World) (hk : PredC F lb p l w) (hl : RdC w a l) (hll : l.length ≤ 1000000) :
    Calls Tryz.prog 78 #[.slice a l.length cap, .func (.func F) #[] lb] w (OwnRetX encC 85 (l.filter p) w) := by
  have HL := hid hl; clear hl
  have HK := hid hk; clear hk
  have heg : ∀ args w, (callFunc F args).run Tryz.prog w = .ok (.enter F args) w := eg
  clear eg
  go_enter Tryz.func78, Tryz.ntmps78
  go_wp2
  go_loopg [5, 10] l.length (fun gh s5 s10 wr => ∃ j : Nat, j ≤ l.length ∧ gh = l.length - j ∧ s10 = .int .i64 j ∧ Hid (OwnX encC 85 wr w.heap.size s5 ((l.take j).filter p) ∧ Below w.heap.size w wr))
  case atStart => exact ⟨0, Nat.zero_le _, rfl, rfl, hid ⟨OwnX.nil _ _ _, Below.refl _ _⟩⟩
  case round =>
    obtain ⟨j, hj, rfl, rfl, HQ⟩ := hrel
    by_cases hlj : j < l.length
    · obtain ⟨b2, off, ha, hlt2, h0, h1, h2, h3⟩ := (HL.out.below HQ.out.2) j hlj
      subst ha
      have nj : (j : Int) < (l.length : Int) := by omega
      have hlen : ((l.take j).filter p).length ≤ j := by have := List.length_filter_le p (l.take j); rw [List.length_take] at this; omega
      have HT : Hid ((l.take (j + 1)).filter p = (l.take j).filter p ++ (if p l[j] = true then [l[j]] else [])) := hid (by rw [take_last hlj, List.filter_append]; cases h : p l[j] <;> simp [h])
      have HB0 := hid (bnew wr (.cells #[.int .i64 l[j].op, .int .i64 l[j].a, .int .i64 l[j].b, .int .i64 l[j].c] 85))
      have HX0 := hid (heapn wr (.cells #[.int .i64 l[j].op, .int .i64 l[j].a, .int .i64 l[j].b, .int .i64 l[j].c] 85) _ rfl)
      have HKG := hid (HK.out l[j] (List.getElem_mem hlj) _ (HQ.out.2.step HB0.out))
      generalize l[j] = g at *
      cases hg : p g with
      | true =>
        rw [hg] at HKG
        rw [if_pos hg] at HT
        clear hg
        go_wp2
        refine HKG.out.mono ?_
        rintro e w' ⟨rfl, hb⟩
        have HQ2 := hid (And.intro (HQ.out.1.later (HB0.out.step hb)) (HQ.out.2.step (HB0.out.step hb)))
        obtain ⟨k0, k1, k2, k3⟩ := box4 (keepBox hb HX0.out)
        have hsz := HQ2.out.2.size
        clear hb
        go_wp2_with (at_builtin; refine wpList_append_x st22 _ rfl _ _ rfl w.heap.size _ _ [g] rfl (OwnX.later HQ2.out.1 (bnew _ _)) (some ⟨_, 0, none⟩) 1 rfl (rdx_one _ g _) (by simp; omega) (by simp; omega) ?_; intro v' w5 hown' hgrow hnil)
        go_roundg (l.length - (j + 1))
        case measure => omega
        case rel => exact ⟨j + 1, by omega, rfl, by go_num, hid ⟨by rw [HT.out]; exact hown', ((HQ2.out.2).alloc (by omega) _).grown hgrow (by simp; omega) (own_ge HQ2.out.1)⟩⟩
      | false =>
        rw [hg] at HKG
        rw [if_neg (by rw [hg]; simp), List.append_nil] at HT
        clear hg
        go_wp2
        refine HKG.out.mono ?_
        rintro e w' ⟨rfl, hb⟩
        have HQ2 := hid (And.intro (HQ.out.1.later (HB0.out.step hb)) (HQ.out.2.step (HB0.out.step hb)))
        clear hb
        go_wp2
        go_roundg (l.length - (j + 1))
        case measure => omega
        case rel => exact ⟨j + 1, by omega, rfl, by go_num, hid ⟨by rw [HT.out]; exact HQ2.out.1, HQ2.out.2⟩⟩
    · obtain rfl : j = l.length := by omega
      go_wp2
      go_ret
      exact ⟨HQ.out.2, _, rfl, by have := HQ.out.1; rwa [List.take_length] at this⟩
set_option maxRecDepth 100000 in
set_option maxHeartbeats 1000000 in
theorem cloneI_any (L : List Int) (a : Option Addr) (cap : Nat) (w : World) (hl : RdI w a L) (hlen : L.length ≤ 100000) :
    Calls Tryz.prog 108 #[.slice a L.length cap] w (OwnRet L w) := by
  have HL := hid hl; clear hl
  have hq := fun (w : World) (a : Option Addr) (n c : Nat) => Lib.run_eql_slice_nil (P := Tryz.prog) w 28 3 a n c 0 0 Tryz.underlying28
  cases a with
  | none =>
    have hn : L = [] := by
      cases L with
      | nil => rfl
      | cons x l =>
        obtain ⟨b, off, e, _⟩ := HL.out 0 (Nat.succ_pos _)
        cases e
    subst hn
    go_enter Tryz.func108, Tryz.ntmps108
    go_wp2
    go_ret
    exact ⟨Below.refl _ _, _, rfl, World.ownsRow_nil _ _ _ _⟩
  | some a =>
    go_enter Tryz.func108, Tryz.ntmps108
    go_wp2_with (at_builtin; refine wpList_append_ints _ rfl _ _ rfl w.heap.size _ [] L rfl (OwnI.none (Nat.le_refl _) (heapn _ _ _ rfl)) (some a) cap rfl (HL.out.below (bnew _ _)) (by simp; omega) (by simp) ?_; intro v' w3 hown' hgrow hnil; have HG := hid hgrow; have HO := hid hown'; clear hgrow hown' hnil)
    go_ret
    exact ⟨(bnew _ _).grown HG.out (by simp) (own_ge (OwnI.none (base := w.heap.size) (w := w.alloc (.cells #[] 3)) (Nat.le_refl _) (heapn _ _ _ rfl))), _, rfl, by simpa using HO.out⟩
set_option maxRecDepth 100000 in
set_option maxHeartbeats 1000000 in
theorem cloneC_any (L : List InsN) (a : Option Addr) (cap : Nat) (w : World) (hl : RdX encC w a L) (hlen : L.length ≤ 100000) :
    Calls Tryz.prog 44 #[.slice a L.length cap] w (OwnRetX encC 85 L w) := by
  have HL := hid hl; clear hl
  have hq := fun (w : World) (a : Option Addr) (n c : Nat) => Lib.run_eql_slice_nil (P := Tryz.prog) w 22 85 a n c 0 0 Tryz.underlying22
  cases a with
  | none =>
    have hn : L = [] := by
      cases L with
      | nil => rfl
      | cons x l =>
        obtain ⟨b, off, e, _⟩ := HL.out 0 (Nat.succ_pos _)
        cases e
    subst hn
    go_enter Tryz.func44, Tryz.ntmps44
    go_wp2
    go_ret
    exact ⟨Below.refl _ _, _, rfl, OwnX.nil _ _ _⟩
  | some a =>
    go_enter Tryz.func44, Tryz.ntmps44
    go_wp2_with (at_builtin; refine wpList_append_x st22 _ rfl _ _ rfl w.heap.size _ [] L rfl (OwnX.none (Nat.le_refl _) (heapn _ _ _ rfl)) (some a) cap rfl (HL.out.below (bnew _ _)) (by simp; omega) (by simp) ?_; intro v' w3 hown' hgrow hnil; have HG := hid hgrow; have HO := hid hown'; clear hgrow hown' hnil)
    go_ret
    exact ⟨(bnew _ _).grown HG.out (by simp) (own_ge (OwnX.none (E := encC) (T := 85) (base := w.heap.size) (w := w.alloc (.cells #[] 85)) (Nat.le_refl _) (heapn _ _ _ rfl))), _, rfl, by simpa using HO.out⟩
set_option maxRecDepth 100000 in
set_option maxHeartbeats 1000000 in
theorem cloneG_any (L : List GrdN) (a : Option Addr) (cap : Nat) (w : World) (hl : RdX encG w a L) (hlen : L.length ≤ 100000) :
    Calls Tryz.prog 45 #[.slice a L.length cap] w (OwnRetX encG 90 L w) := by
  have HL := hid hl; clear hl
  have hq := fun (w : World) (a : Option Addr) (n c : Nat) => Lib.run_eql_slice_nil (P := Tryz.prog) w 23 90 a n c 0 0 Tryz.underlying23
  cases a with
  | none =>
    have hn : L = [] := by
      cases L with
      | nil => rfl
      | cons x l =>
        obtain ⟨b, off, e, _⟩ := HL.out 0 (Nat.succ_pos _)
        cases e
    subst hn
    go_enter Tryz.func45, Tryz.ntmps45
    go_wp2
    go_ret
    exact ⟨Below.refl _ _, _, rfl, OwnX.nil _ _ _⟩
  | some a =>
    go_enter Tryz.func45, Tryz.ntmps45
    go_wp2_with (at_builtin; refine wpList_append_x st23 _ rfl _ _ rfl w.heap.size _ [] L rfl (OwnX.none (Nat.le_refl _) (heapn _ _ _ rfl)) (some a) cap rfl (HL.out.below (bnew _ _)) (by simp; omega) (by simp) ?_; intro v' w3 hown' hgrow hnil; have HG := hid hgrow; have HO := hid hown'; clear hgrow hown' hnil)
    go_ret
    exact ⟨(bnew _ _).grown HG.out (by simp) (own_ge (OwnX.none (E := encG) (T := 90) (base := w.heap.size) (w := w.alloc (.cells #[] 90)) (Nat.le_refl _) (heapn _ _ _ rfl))), _, rfl, by simpa using HO.out⟩
end Go.Proofs.YtgalekifgnecjaaGreat
