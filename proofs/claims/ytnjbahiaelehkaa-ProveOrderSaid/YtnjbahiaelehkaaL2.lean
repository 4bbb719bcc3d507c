/- ProveOrder: the walk. -/
import Derived.Test.YtnjbahiaelehkaaC6
import Derived.Test.YtnjbahiaelehkaaL1
import Derived.BigRegion
import Derived.RegionTactic
import Derived.ChangeAlike
namespace Go.Proofs.Ytnjbahiaelehkaa
open Go.RowKit

theorem rights_one {n : Int} {a : AM} (h : checkN n [a] = 0) : rightB n a = true := by
  obtain ⟨_, _, hr⟩ := checkN_in h
  unfold rightsB at hr
  simpa using hr
theorem order_law {n : Int} {l m : List AM} {a : AM} (h1 : checkN n l = 0) (hm : ∀ x, x ∈ m ↔ x ∈ l) (hl : m.length ≤ 40) (ha : rightB n a = true) :
    checkN n m = 0 ∧ lineN n l a = 0 ∧ lineN n m a = 0 ∧ possV n m = possV n l ∧ entV n m a = entV n l a ∧ mostV n m a = mostV n l a ∧ mostC n m a = mostC n l a := by
  obtain ⟨hn, _, hr⟩ := checkN_in h1
  have h2 : checkN n m = 0 := by
    unfold checkN
    rw [if_pos (by simp [inB]; omega), if_neg (by omega), rights_same hm, if_pos hr]
  have h3 := lineN_of h1 ha
  have h4 := lineN_of h2 ha
  refine ⟨h2, h3, h4, ?_, ?_, ?_, ?_⟩
  · unfold possV
    rw [if_pos h1, if_pos h2, poss_same hm]
  · unfold entV
    rw [if_pos h3, if_pos h4, ent_same hm]
  · unfold mostV mostN
    rw [if_pos h3, if_pos h4, poss_same hm, max_same hm]
  · unfold mostC mostE
    rw [if_pos h3, if_pos h4, poss_same hm, max_same hm]

/-- The lines so far, some of them exchanged. -/
def SwIn (l : List AM) (g : Nat) (w : World) (o : Obj) (L : List AM) (wr : World) : Prop := L.length = l.length + 1 ∧ (∀ x, x ∈ L ↔ x ∈ l) ∧ BL wr g L ∧ Below w.heap.size w wr ∧ wr.heap[w.heap.size]? = some o
theorem boxKeep {w w' : World} {b : Nat} {o : Obj} (hb : Below w.heap.size w w') (h : w.heap[b]? = some o) : w'.heap[b]? = some o := (hb.block b (lt_of_heap h)).trans h
theorem boxSet {w : World} {b g p : Nat} {o : Obj} {v : Value} (hne : b ≠ g) (h : w.heap[b]? = some o) : (w.setCell ⟨g, p, none⟩ v).heap[b]? = some o := (Below.heap_setCell _ _ _ _ hne).trans h
theorem cell_lt' {W : World} {b o : Nat} {v : Value} (h : W.cell? ⟨b, o, none⟩ = some v) : b < W.heap.size := by
  unfold World.cell? at h
  cases hh : W.heap[b]? with
  | none => simp [hh] at h
  | some o => exact lt_of_heap hh
set_option maxRecDepth 100000 in
set_option maxHeartbeats 8000000 in
theorem order_any (n : Int) (l : List AM) (c : Int) (A P B Q M : Int) (a : Option Addr) (cap : Nat) (w : World) (hl : Rd w a l) (hlen : l.length ≤ 9223372036854775807) (hc : 0 ≤ c ∧ c ≤ 255) :
    Calls Try.prog 5 #[.int .i64 n, .slice a l.length cap, .int .u8 c, .agg #[.int .i64 A, .int .i64 P, .int .i64 B, .int .i64 Q, .int .i64 M]] w (RetB (.bool true) w) := by
  have HL := hid hl; clear hl
  obtain ⟨hc0, hc1⟩ := hc
  obtain ⟨cn, rfl⟩ : ∃ k : Nat, c = k := ⟨c.toNat, by omega⟩
  have HB := hid (bnew w (.cells #[.int .i64 A, .int .i64 P, .int .i64 B, .int .i64 Q, .int .i64 M] 24))
  by_cases h1 : lawRight n l = true
  · by_cases h2 : 39 < l.length
    · have H1 := hid h1
      clear h1
      go_enter Try.func5, Try.ntmps5
      go_wp2_with (first
        | (go_at_call 22; (with_reducible refine (lawright_any n l a cap _ (HL.out.below HB.out) hlen).mono ?_); rw [H1.out]; rintro e w1 ⟨rfl, hb⟩; have HB := hid (HB.out.step hb); clear hb)
        | (go_at_call 17; refine (sanity_any _).mono ?_; rintro e w2 ⟨rfl, hb⟩; have HB := hid (HB.out.step hb); clear hb))
      go_ret
      exact ⟨rfl, HB.out⟩
    · by_cases h0 : l.length = 0
      · have H1 := hid h1
        have e0 : ((l.length : Int) == 0) = true := by simp [h0]
        clear h1 h0
        go_enter Try.func5, Try.ntmps5
        go_wp2_with (first
          | (go_at_call 22; (with_reducible refine (lawright_any n l a cap _ (HL.out.below HB.out) hlen).mono ?_); rw [H1.out]; rintro e w1 ⟨rfl, hb⟩; have HB := hid (HB.out.step hb); clear hb)
          | (go_at_call 17; refine (sanity_any _).mono ?_; rintro e w2 ⟨rfl, hb⟩; have HB := hid (HB.out.step hb); clear hb))
        go_ret
        exact ⟨rfl, HB.out⟩
      · have e0 : ((l.length : Int) == 0) = false := by simpa using h0
        have hpos : 0 < l.length := by omega
        have H1 := hid h1
        have HX : Hid ((w.alloc (.cells #[.int .i64 A, .int .i64 P, .int .i64 B, .int .i64 Q, .int .i64 M] 24)).heap[w.heap.size]? = some (.cells #[.int .i64 A, .int .i64 P, .int .i64 B, .int .i64 Q, .int .i64 M] 24 (0, 0))) := hid (by simp only [heap_alloc_if] <;> simp)
        have HBX := AMat.of (x := ⟨A, P, B, Q, M⟩) (W := w.alloc (.cells #[.int .i64 A, .int .i64 P, .int .i64 B, .int .i64 Q, .int .i64 M] 24)) (g := w.heap.size) (by simp only [heap_alloc_if] <;> simp)
        obtain ⟨k0, k1, k2, k3, k4⟩ := HBX
        simp only [Nat.zero_add] at k0 k1 k2 k3 k4
        by_cases h3 : lawRight n [⟨A, P, B, Q, M⟩] = true
        · have hl39 : l.length ≤ 39 := by omega
          obtain ⟨_, hck⟩ := lawRight_one h1
          have hra := rights_one (lawRight_one h3).2
          have HCK := hid (And.intro hck hra)
          have H3 := hid h3
          obtain ⟨kx, hkx⟩ : ∃ k, k = cn % l.length := ⟨_, rfl⟩
          have hkl : kx < l.length := by rw [hkx]; exact Nat.mod_lt _ hpos
          have hm1 : ((cn : Int).tmod (l.length : Int)) = (kx : Int) := by rw [hkx]; exact (Int.ofNat_tmod _ _).symm
          have hm2 : ((cn : Int) % (l.length : Int)) = (kx : Int) := by rw [hkx]; exact (Int.natCast_emod _ _).symm
          obtain ⟨b2, off, ha, hlt2, q0, q1, q2, q3, q4⟩ := (HL.out.below HB.out) kx hkl
          have HA := hid ha
          have HKL := hid hkl
          clear h1 h3 h0 hck hra hkx
          subst ha
          go_enter Try.func5, Try.ntmps5
          go_upto_region 3 with (first
            | (go_at_call 22; (with_reducible refine (lawright_any n l _ cap _ (HL.out.below HB.out) hlen).mono ?_); rw [H1.out]; rintro e w1 ⟨rfl, hb⟩; replace k0 := cell_later hb k0; replace q0 := cell_later hb q0; replace k1 := cell_later hb k1; replace q1 := cell_later hb q1; replace k2 := cell_later hb k2; replace q2 := cell_later hb q2; replace k3 := cell_later hb k3; replace q3 := cell_later hb q3; replace k4 := cell_later hb k4; replace q4 := cell_later hb q4; have HB := hid (HB.out.step hb); have HX := hid (boxKeep hb HX.out); clear hb)
            | (go_at_call 22; refine (lawright_any n [⟨A, P, B, Q, M⟩] _ _ _ (Rd.new _ [⟨A, P, B, Q, M⟩] (by simp)) (by simp)).mono ?_; rw [H3.out]; rintro e w1 ⟨rfl, hb⟩; have hb := (bnew _ _).step hb; replace k0 := cell_later hb k0; replace q0 := cell_later hb q0; replace k1 := cell_later hb k1; replace q1 := cell_later hb q1; replace k2 := cell_later hb k2; replace q2 := cell_later hb q2; replace k3 := cell_later hb k3; replace q3 := cell_later hb q3; replace k4 := cell_later hb k4; replace q4 := cell_later hb q4; have HB := hid (HB.out.step hb); have HX := hid (boxKeep hb HX.out); clear hb))
          go_upto_region 4 with (at_builtin; refine wpList_append_lines _ rfl (.tmp 54) (.tmp 55) rfl (w.heap.size + 1) _ [l[kx]] l rfl (OwnL.new _ [l[kx]] (w.heap.size + 1) (cell_lt' k0) (by simp)) _ cap rfl (HL.out.below (HB.out.step (bnew _ _))) (by simp; omega) (by have := HB.out.size; simp; omega) ?_; intro v' w3 hown hgr hat)
          have hbx : Below w.heap.size w w3 := ((HB.out.step (bnew _ _))).grown hgr (by have := HB.out.size; simp; omega) (by intro q hq; have := own_ge (OwnL.new w1 [l[kx]] (w.heap.size + 1) (cell_lt' k0) (by simp)) q hq; omega)
          have hx3 : w3.heap[w.heap.size]? = some (.cells #[.int .i64 A, .int .i64 P, .int .i64 B, .int .i64 Q, .int .i64 M] 24 (0, 0)) := box_kept hgr ((heapo _ _ _ (lt_of_heap HX.out)).trans HX.out) (by intro e; have h9 := lt_of_heap HX.out; have e2 : w.heap.size = w1.heap.size := Option.some.inj e; omega)
          obtain ⟨g, cm, rfl, hg, hbl⟩ := BL.of_own hown (by simp)
          have hgb : g ≠ w.heap.size := by omega
          have hlen2 : ([l[kx]] ++ l).length = l.length + 1 := by simp
          have hmem : ∀ x, x ∈ [l[kx]] ++ l ↔ x ∈ l := fun x => by
            rw [List.mem_append, List.mem_singleton]
            exact ⟨fun h => h.elim (fun h => by rw [h]; exact List.getElem_mem hkl) id, .inr⟩
          obtain ⟨L0, hL0⟩ : ∃ L0, L0 = [l[kx]] ++ l := ⟨_, rfl⟩
          rw [← hL0] at hbl hmem hlen2
          have HBL := hid hbl
          have HMEM := hid hmem
          have HBX := hid (And.intro hbx hx3)
          have HL2 := hid hlen2
          rw [← hL0, hlen2]
          clear hL0 hm1 hm2 hown hgr hat hbl hmem hbx hx3 hlen2 q0 q1 q2 q3 q4
          have hb40 : l.length + 1 ≤ 40 := by omega
          go_wp2_with fail
          go_loopg [10, 11] l.length (fun gh s10 s11 wr => ∃ (i kk : Nat) (L : List AM), 1 ≤ i ∧ i + kk = l.length + 1 ∧ gh = l.length + 1 - i ∧ s10 = .int .i64 i ∧ s11 = .int .i64 kk ∧ Hid (SwIn l g w (.cells #[.int .i64 A, .int .i64 P, .int .i64 B, .int .i64 Q, .int .i64 M] 24 (0, 0)) L wr))
          case atStart => exact ⟨1, l.length, L0, Nat.le_refl _, by omega, by omega, rfl, by first | rfl | (congr 1; omega) | (simp; omega), hid ⟨HL2.out, HMEM.out, HBL.out, HBX.out.1, HBX.out.2⟩⟩
          case round =>
            obtain ⟨i, kk, L, hi1, hik, rfl, rfl, rfl, HS⟩ := hrel
            by_cases hlt : i < kk
            · have hL := HS.out.1
              have hiL : i < L.length := by omega
              have hkL : kk < L.length := by omega
              obtain ⟨p0, p1, p2, p3, p4⟩ := HS.out.2.2.1.at hiL
              obtain ⟨q0, q1, q2, q3, q4⟩ := HS.out.2.2.1.at hkL
              obtain ⟨x, hx⟩ : ∃ x, x = L[i] := ⟨_, rfl⟩
              obtain ⟨y, hy⟩ : ∃ y, y = L[kk] := ⟨_, rfl⟩
              rw [← hx] at p0 p1 p2 p3 p4
              rw [← hy] at q0 q1 q2 q3 q4
              have HXY := hid (And.intro hx hy)
              have hfz := HS.out.2.2.1.frozen
              have z0 := hfz (i * 5)
              have z1 := hfz (i * 5 + 1)
              have z2 := hfz (i * 5 + 2)
              have z3 := hfz (i * 5 + 3)
              have z4 := hfz (i * 5 + 4)
              have y0 := hfz (kk * 5)
              have y1 := hfz (kk * 5 + 1)
              have y2 := hfz (kk * 5 + 2)
              have y3 := hfz (kk * 5 + 3)
              have y4 := hfz (kk * 5 + 4)
              have hlt' : (i : Int) < (kk : Int) := by omega
              have n1 : (i : Int) < (l.length : Int) + 1 := by omega
              have n2 : (kk : Int) < (l.length : Int) + 1 := by omega
              clear hx hy hL hfz
              go_upto_region 7 with fail
              go_region
              go_wp2
              go_roundg (l.length + 1 - (i + 1))
              case rel =>
                refine ⟨i + 1, kk - 1, (L.set i y).set kk x, by omega, by omega, by omega, by go_num, by congr 1; omega, hid ⟨by simp; exact HS.out.1, fun z => ?_, ((HS.out.2.2.1.set hiL y).set (by simp; omega) x).below (bdrew _), ?_, ?_⟩⟩
                · rw [HXY.out.1, HXY.out.2]
                  exact (swap_mem hiL hkL z).trans (HS.out.2.1 z)
                · refine Below.drew ?_
                  repeat (refine Below.setCell ?_ (by show w.heap.size ≤ g; omega) _)
                  exact HS.out.2.2.2.1
                · show _ = _
                  refine boxKeep (bdrew _) ?_
                  repeat (refine boxSet (Ne.symm hgb) ?_)
                  exact HS.out.2.2.2.2
              case measure => omega
            · have hlt' : ¬(i : Int) < (kk : Int) := by omega
              have hLl := HS.out.1
              obtain ⟨hc2, hl1, hl2, k1', k2', k3', k4'⟩ := order_law HCK.out.1 HS.out.2.1 (by rw [hLl]; exact hb40) HCK.out.2
              have P1 : ∀ (W : World), Rd W (some ⟨g, 0, none⟩) L → Calls Try.prog 24 #[.int .i64 n, .slice (some ⟨g, 0, none⟩) (l.length + 1) cm] W (Ret2 (.bool (possV n l)) (.int .i64 0) W) := fun W h => by
                have := possible_any n L (some ⟨g, 0, none⟩) cm W h (by omega)
                rw [hLl, k1', hc2] at this
                exact this
              have P2 : ∀ (W : World), Rd W (some ⟨g, 0, none⟩) L → Calls Try.prog 25 #[.int .i64 n, .slice (some ⟨g, 0, none⟩) (l.length + 1) cm, .agg #[.int .i64 A, .int .i64 P, .int .i64 B, .int .i64 Q, .int .i64 M]] W (Ret2 (.bool (entV n l ⟨A, P, B, Q, M⟩)) (.int .i64 0) W) := fun W h => by
                have := entails_any n L A P B Q M (some ⟨g, 0, none⟩) cm W h (by omega)
                rw [hLl, k2', hl2] at this
                exact this
              have P3 : ∀ (W : World), Rd W (some ⟨g, 0, none⟩) L → Calls Try.prog 18 #[.int .i64 n, .slice (some ⟨g, 0, none⟩) (l.length + 1) cm, .agg #[.int .i64 A, .int .i64 P, .int .i64 B, .int .i64 Q, .int .i64 M]] W (Ret2 (.int .i64 (mostV n l ⟨A, P, B, Q, M⟩)) (.int .i64 (mostC n l ⟨A, P, B, Q, M⟩)) W) := fun W h => by
                have := most_any n L A P B Q M (some ⟨g, 0, none⟩) cm W h (by omega)
                rw [hLl, k3', k4'] at this
                exact this
              have HP1 := hid P1
              have HP2 := hid P2
              have HP3 := hid P3
              have HL1 := hid hl1
              have HRL := hid HS.out.2.2.1.rd
              have hbw := HS.out.2.2.2.1
              have HX := hid HS.out.2.2.2.2
              obtain ⟨k0, k1, k2, k3, k4⟩ := AMat.of (x := ⟨A, P, B, Q, M⟩) HX.out
              simp only [Nat.zero_add] at k0 k1 k2 k3 k4
              have HB := hid hbw
              clear P1 P2 P3 hl2 hc2 k1' k2' k3' k4' hbw hLl hl1
              go_wp2_with (first
                | (go_at_call 24; (with_reducible refine (possible_any n l _ cap _ (HL.out.below HB.out) (by omega)).mono ?_); rw [HCK.out.1]; rintro e w1 ⟨rfl, hb⟩; have HB := hid (HB.out.step hb); have HX := hid (boxKeep hb HX.out); obtain ⟨k0, k1, k2, k3, k4⟩ := AMat.of (x := ⟨A, P, B, Q, M⟩) HX.out; simp only [Nat.zero_add] at k0 k1 k2 k3 k4; have HRL := hid (HRL.out.below hb); clear hb)
                | (go_at_call 24; (with_reducible refine (HP1.out _ HRL.out).mono ?_); rintro e w1 ⟨rfl, hb⟩; have HB := hid (HB.out.step hb); have HX := hid (boxKeep hb HX.out); obtain ⟨k0, k1, k2, k3, k4⟩ := AMat.of (x := ⟨A, P, B, Q, M⟩) HX.out; simp only [Nat.zero_add] at k0 k1 k2 k3 k4; have HRL := hid (HRL.out.below hb); clear hb)
                | (go_at_call 25; (with_reducible refine (entails_any n l A P B Q M _ cap _ (HL.out.below HB.out) (by omega)).mono ?_); rw [HL1.out]; rintro e w1 ⟨rfl, hb⟩; have HB := hid (HB.out.step hb); have HX := hid (boxKeep hb HX.out); obtain ⟨k0, k1, k2, k3, k4⟩ := AMat.of (x := ⟨A, P, B, Q, M⟩) HX.out; simp only [Nat.zero_add] at k0 k1 k2 k3 k4; have HRL := hid (HRL.out.below hb); clear hb)
                | (go_at_call 25; (with_reducible refine (HP2.out _ HRL.out).mono ?_); rintro e w1 ⟨rfl, hb⟩; have HB := hid (HB.out.step hb); have HX := hid (boxKeep hb HX.out); obtain ⟨k0, k1, k2, k3, k4⟩ := AMat.of (x := ⟨A, P, B, Q, M⟩) HX.out; simp only [Nat.zero_add] at k0 k1 k2 k3 k4; have HRL := hid (HRL.out.below hb); clear hb)
                | (go_at_call 18; (with_reducible refine (most_any n l A P B Q M _ cap _ (HL.out.below HB.out) (by omega)).mono ?_); rintro e w1 ⟨rfl, hb⟩; have HB := hid (HB.out.step hb); have HX := hid (boxKeep hb HX.out); obtain ⟨k0, k1, k2, k3, k4⟩ := AMat.of (x := ⟨A, P, B, Q, M⟩) HX.out; simp only [Nat.zero_add] at k0 k1 k2 k3 k4; have HRL := hid (HRL.out.below hb); clear hb)
                | (go_at_call 18; (with_reducible refine (HP3.out _ HRL.out).mono ?_); rintro e w1 ⟨rfl, hb⟩; have HB := hid (HB.out.step hb); have HX := hid (boxKeep hb HX.out); obtain ⟨k0, k1, k2, k3, k4⟩ := AMat.of (x := ⟨A, P, B, Q, M⟩) HX.out; simp only [Nat.zero_add] at k0 k1 k2 k3 k4; have HRL := hid (HRL.out.below hb); clear hb)
                | (go_at_call 17; refine (sanity_any _).mono ?_; rintro e w1 ⟨rfl, hb⟩; have HB := hid (HB.out.step hb); clear hb))
              go_ret
              exact ⟨rfl, HB.out⟩
        · have h3' : lawRight n [⟨A, P, B, Q, M⟩] = false := by simpa using h3
          have H3 := hid h3'
          clear h1 h3 h3' h0
          go_enter Try.func5, Try.ntmps5
          go_wp2_with (first
            | (go_at_call 22; (with_reducible refine (lawright_any n l a cap _ (HL.out.below HB.out) hlen).mono ?_); rw [H1.out]; rintro e w1 ⟨rfl, hb⟩; replace k0 := cell_later hb k0; replace k1 := cell_later hb k1; replace k2 := cell_later hb k2; replace k3 := cell_later hb k3; replace k4 := cell_later hb k4; have HB := hid (HB.out.step hb); clear hb)
            | (go_at_call 22; refine (lawright_any n [⟨A, P, B, Q, M⟩] _ _ _ (Rd.new _ [⟨A, P, B, Q, M⟩] (by simp)) (by simp)).mono ?_; rw [H3.out]; rintro e w1 ⟨rfl, hb⟩; have hb := (bnew _ _).step hb; have HB := hid (HB.out.step hb); clear hb)
            | (go_at_call 17; refine (sanity_any _).mono ?_; rintro e w2 ⟨rfl, hb⟩; have HB := hid (HB.out.step hb); clear hb))
          go_ret
          exact ⟨rfl, HB.out⟩
  · have h1' : lawRight n l = false := by simpa using h1
    have H1 := hid h1'
    clear h1 h1'
    go_enter Try.func5, Try.ntmps5
    go_wp2_with (first
      | (go_at_call 22; (with_reducible refine (lawright_any n l a cap _ (HL.out.below HB.out) hlen).mono ?_); rw [H1.out]; rintro e w1 ⟨rfl, hb⟩; have HB := hid (HB.out.step hb); clear hb)
      | (go_at_call 17; refine (sanity_any _).mono ?_; rintro e w2 ⟨rfl, hb⟩; have HB := hid (HB.out.step hb); clear hb))
    go_ret
    exact ⟨rfl, HB.out⟩
end Go.Proofs.Ytnjbahiaelehkaa
