/- The contract of slices.SortStableFunc as order uses it. -/
import Derived.Test.YtecpkjhfbmchgaaG2
import Derived.Test.YtecpkjhfbmchgaaP1
import Derived.BigRegion
import Derived.Shelf.RegionOpenPlain
namespace Go.Proofs.Ytecpkjhfbmchgaa
open Go.RowKit

theorem asI_append (a b : List Nat) : asI (a ++ b) = asI a ++ asI b := List.map_append ..
theorem asI_getElem {l : List Nat} {i : Nat} (h : i < (asI l).length) (h' : i < l.length) : (asI l)[i] = (l[i] : Nat) := by simp [asI]
/-- The list of the sort under way: A, the row i, B, the rest as it came. -/
def midL (A B : List Nat) (i n : Nat) : List Nat := A ++ i :: (B ++ List.range' (i + 1) (n - i - 1))
theorem midL_start {A : List Nat} {i n : Nat} (h : i < n) : A ++ List.range' i (n - i) = midL A [] i n := by
  unfold midL
  rw [show n - i = (n - i - 1) + 1 from by omega, List.range'_succ]
  rfl
theorem midL_end (A B : List Nat) (i n : Nat) : midL A B i n = (A ++ i :: B) ++ List.range' (i + 1) (n - (i + 1)) := by
  unfold midL
  rw [List.append_assoc, List.cons_append, Nat.sub_sub]
theorem midL_swap (A B : List Nat) (x i n : Nat) : ((asI (midL (A ++ [x]) B i n)).set (A.length + 1) (x : Nat)).set A.length (i : Nat) = asI (midL A (x :: B) i n) := by
  unfold midL asI
  rw [List.append_assoc, List.map_append, List.map_append]
  rw [List.set_append_right _ _ (by simp), List.set_append_right _ _ (by simp)]
  simp
theorem midL_len {A B : List Nat} {i n : Nat} (hi : i < n) (h : (A ++ B).length = i) : (midL A B i n).length = n := by
  unfold midL
  simp only [List.length_append, List.length_cons, List.length_range'] at *
  omega
theorem midL_at (A B : List Nat) (i n : Nat) : (midL A B i n)[A.length]? = some i := by
  unfold midL
  rw [List.getElem?_append_right (Nat.le_refl _), Nat.sub_self]
  rfl
theorem midL_prev (A B : List Nat) (x i n : Nat) : (midL (A ++ [x]) B i n)[A.length]? = some x := by
  unfold midL
  rw [List.append_assoc, List.getElem?_append_right (Nat.le_refl _), Nat.sub_self]
  rfl
theorem BI.nat {w : World} {g : Nat} {l : List Nat} (h : BI w g (asI l)) {i x : Nat} (hi : l[i]? = some x) : w.cell? ⟨g, i, none⟩ = some (.int .i64 x) := by
  have hlt := (List.getElem?_eq_some_iff.1 hi).1
  have he := (List.getElem?_eq_some_iff.1 hi).2
  have := h.at (i := i) (by rw [asI_length]; exact hlt)
  rw [asI_getElem _ hlt, he] at this
  exact this

set_option maxRecDepth 1000000 in
set_option maxHeartbeats 4000000 in
theorem insert_any (m : List (List Int)) (a : Option Addr) (cap gm g c : Nat) (wb w : World) (hm : RightM m) (hl : RdM wb a m) (hgm : wb.cell? ⟨gm, 0, none⟩ = some (.slice a m.length cap)) (hw : Below wb.heap.size wb w)
    (hg : wb.heap.size ≤ g) (hd : BI w g (asI (List.range m.length))) :
    Calls Try.prog 77 #[.slice (some ⟨g, 0, none⟩) m.length c, .int .i64 0, .int .i64 m.length, .func (.func 46) #[] #[.pointer (some ⟨gm, 0, none⟩)]] w
      (fun e w' => e = .returned (.tuple #[]) ∧ Below wb.heap.size wb w' ∧ BI w' g (asI (orderL m))) := by
  have HL := hid hl; clear hl
  have HM := hid hm; clear hm
  have HG := hid hgm; clear hgm
  have HW := hid hw; clear hw
  have HD := hid hd; clear hd
  have h0 := HM.out.some'
  have h60 := HM.out.rows
  generalize hn : m.length = n at *
  have HN := hid hn
  clear hn
  go_enter Try.func77, Try.ntmps77
  go_wp2
  go_loopg [8] (n - 1) (fun gh s8 wr => ∃ i : Nat, 1 ≤ i ∧ i ≤ n ∧ gh = n - i ∧ s8 = .int .i64 i ∧ Hid (∃ A : List Nat, A.Pairwise (Bef (keyM m)) ∧ (∀ x, x ∈ A ↔ x < i) ∧ A.length = i ∧ BI wr g (asI (A ++ List.range' i (n - i))) ∧ Below wb.heap.size wb wr))
  case atStart =>
    refine ⟨1, Nat.le_refl _, by omega, rfl, rfl, hid ⟨[0], List.pairwise_singleton _ _, fun x => by rw [List.mem_singleton]; omega, rfl, ?_, HW.out⟩⟩
    have e : [0] ++ List.range' 1 (n - 1) = List.range n := by
      rw [List.range_eq_range', show n = (n - 1) + 1 from by omega, List.range'_succ]
      rfl
    rw [e]
    exact HD.out
  case round =>
    obtain ⟨i, hi1, hin, rfl, rfl, HA⟩ := hrel
    by_cases hlt : i < n
    · have hlt' : (i : Int) < (n : Int) := by omega
      obtain ⟨wo, rfl⟩ : ∃ wo : World, wo = wr := ⟨_, rfl⟩
      go_wp2
      go_loopg [9] i (fun gh s9 wr => ∃ j : Nat, j ≤ i ∧ gh = j ∧ s9 = .int .i64 j ∧ Hid (∃ A B : List Nat, Mid (keyM m) i A B ∧ A.length = j ∧ (A ++ B).length = i ∧ BI wr g (asI (midL A B i n)) ∧ Below wb.heap.size wb wr))
      case atStart =>
        obtain ⟨A, h1, h2, h3, h4, h5⟩ := HA.out
        exact ⟨i, Nat.le_refl _, rfl, rfl, hid ⟨A, [], Mid.start h1 h2, h3, by rw [List.append_nil]; exact h3, by rw [← midL_start hlt]; exact h4, h5⟩⟩
      case round =>
        obtain ⟨j, hji, hgh, rfl, HJ⟩ := hrel
        by_cases hj0 : 0 < j
        · obtain ⟨jp, rfl⟩ : ∃ jp, j = jp + 1 := ⟨j - 1, by omega⟩
          obtain ⟨A0, B, hmid, hAl, hABl, hbi, hbw⟩ := HJ.out
          obtain ⟨A, x, rfl⟩ : ∃ A x, A0 = A ++ [x] := by
            rcases List.eq_nil_or_concat A0 with rfl | ⟨A, x, rfl⟩
            · simp at hAl
            · exact ⟨A, x, List.concat_eq_append ..⟩
          have hAj : A.length = jp := by simpa using hAl
          have cj := hbi.nat (i := jp + 1) (by rw [← hAl]; exact midL_at (A ++ [x]) B i n)
          have cp := hbi.nat (i := jp) (by rw [← hAj]; exact midL_prev A B x i n)
          have hx : x < i := (hmid.mem x).1 (by simp)
          have HMID := hid hmid
          have HBI := hid hbi
          have HBW := hid hbw
          have HAJ := hid hAj
          have HABL := hid hABl
          clear hmid hbi hbw hAj hABl hAl HJ
          have KC := hid (fun w' (hb : Below wb.heap.size wb w') => cmp_any m a cap i x gm w' HM.out (HL.out.below hb) (by rw [HN.out]; exact cell_later hb HG.out) (by rw [HN.out]; omega) (by rw [HN.out]; omega))
          have hwp : IntKind.i64.wrap (jp : Int) = (jp : Int) := by rw [IntKind.wrap_i64]; omega
          have jz : (jp : Int) + 1 < (n : Int) := by omega
          have jz1 : (jp : Int) < (n : Int) := by omega
          have p0 : (0 : Int) ≤ (jp : Int) + 1 := by omega
          have p1 : (0 : Int) < (jp : Int) + 1 := by omega
          have e0 : ((jp : Int) + 1).toNat = jp + 1 := by omega
          have hkx : manyN (m.getD x []) = keyM m x := rfl
          have hki : manyN (m.getD i []) = keyM m i := rfl
          rw [hkx, hki] at KC
          clear hkx hki
          obtain ⟨kx, hkx⟩ : ∃ k, k = keyM m x := ⟨_, rfl⟩
          obtain ⟨ki, hki⟩ : ∃ k, k = keyM m i := ⟨_, rfl⟩
          rw [← hkx, ← hki] at KC
          have HK := hid (And.intro hkx hki)
          clear hkx hki
          go_wp2_with fail
          have hb := bdrew wr
          by_cases hk : kx < ki
          · have hk1 : (kx : Int) - (ki : Int) < 0 := by omega
            have hk2 : (kx : Int) < (ki : Int) := by omega
            go_region_held3 (fun w' => w'.cell? ⟨g, jp + 1, none⟩ = some (.int .i64 i) ∧ w'.cell? ⟨g, jp, none⟩ = some (.int .i64 x)) (first | exact ⟨cj, cp⟩ | exact ⟨cell_later hb cj, cell_later hb cp⟩)
              ((go_at_call 46; (with_reducible refine (KC.out _ (HBW.out.step hb)).mono ?_); rintro e w9 ⟨rfl, hbb⟩; have hb := hb.step hbb; clear hbb))
            have hbi9 := HBI.out.below hb
            have fj := hbi9.frozen (jp + 1)
            have fp := hbi9.frozen jp
            have cj9 := cell_later hb cj
            have cp9 := cell_later hb cp
            have HBI9 := hid hbi9
            have HBW9 := hid (HBW.out.step hb)
            clear cj cp hbi9 hb
            go_wp2_with fail
            obtain ⟨j1, hj1⟩ : ∃ j1, j1 = jp + 1 := ⟨_, rfl⟩
            rw [← hj1] at cj9 fj e0
            have J1 := hid hj1
            clear hj1
            have mixed : Try.prog.follows .mixedOrders = true := by kernel_rfl
            go_big_region_o
            have hlen := midL_len hlt HABL.out
            have hset : BI (((w9.setCell ⟨g, j1, none⟩ (.int .i64 x)).setCell ⟨g, jp, none⟩ (.int .i64 i)).drew) g (asI (midL A (x :: B) i n)) := by
              have h1 := HBI9.out.set (i := jp + 1) (by rw [asI_length, hlen]; omega) (x : Nat)
              have h2 := h1.set (i := jp) (by rw [List.length_set, asI_length, hlen]; omega) (i : Nat)
              have e := midL_swap A B x i n
              rw [HAJ.out] at e
              rw [e, ← J1.out] at h2
              exact h2
            have HSET := hid hset
            have HBS : Hid (Below wb.heap.size wb (((w9.setCell ⟨g, j1, none⟩ (.int .i64 x)).setCell ⟨g, jp, none⟩ (.int .i64 i)).drew)) := hid (((HBW9.out.setCell (p := ⟨g, j1, none⟩) hg _).setCell (p := ⟨g, jp, none⟩) hg _).drew)
            clear hset hlen cj9 cp9 fj fp
            generalize ((w9.setCell ⟨g, j1, none⟩ (.int .i64 x)).setCell ⟨g, jp, none⟩ (.int .i64 i)).drew = w10 at *
            go_wp2_with fail
            go_roundg jp
            case measure => omega
            case rel =>
              refine ⟨jp, by omega, rfl, by go_num, hid ⟨A, x :: B, HMID.out.step (by rw [← HK.out.1, ← HK.out.2]; exact hk), HAJ.out, ?_, HSET.out, HBS.out⟩⟩
              have := HABL.out
              simp only [List.length_append, List.length_cons, List.length_nil] at *
              omega
          · have hk1 : ¬ (kx : Int) - (ki : Int) < 0 := by omega
            have hk2 : ¬ (kx : Int) < (ki : Int) := by omega
            go_region_held3 (fun w' => w'.cell? ⟨g, jp + 1, none⟩ = some (.int .i64 i) ∧ w'.cell? ⟨g, jp, none⟩ = some (.int .i64 x)) (first | exact ⟨cj, cp⟩ | exact ⟨cell_later hb cj, cell_later hb cp⟩)
              ((go_at_call 46; (with_reducible refine (KC.out _ (HBW.out.step hb)).mono ?_); rintro e w9 ⟨rfl, hbb⟩; have hb := hb.step hbb; clear hbb))
            have hbi9 := HBI.out.below hb
            have HBI9 := hid hbi9
            have HBW9 := hid (HBW.out.step hb)
            clear cj cp hbi9 hb
            go_wp2_with fail
            go_roundg (n - (i + 1))
            case measure => omega
            case rel =>
              have hs := HMID.out.stop (fun A' y e => by
                obtain ⟨_, e2⟩ := List.append_inj' e rfl
                cases e2
                rw [← HK.out.1, ← HK.out.2]
                omega)
              refine ⟨i + 1, by omega, by omega, rfl, by go_num, hid ⟨A ++ [x] ++ i :: B, hs.1, hs.2, ?_, ?_, HBW9.out⟩⟩
              · have := HABL.out
                simp only [List.length_append, List.length_cons, List.length_nil] at *
                omega
              · rw [← midL_end]
                exact HBI9.out
        · have hjz : j = 0 := by omega
          subst hjz
          obtain ⟨A, B, hmid, hAl, hABl, hbi, hbw⟩ := HJ.out
          obtain rfl : A = [] := List.length_eq_zero_iff.1 hAl
          have HMID := hid hmid
          have HBI := hid hbi
          have HBW := hid hbw
          have HABL := hid hABl
          clear hmid hbi hbw hABl hAl HJ
          go_wp2_with fail
          go_quiet (fail)
          have HBI9 : Hid (BI (wr.drewN nq) g (asI (midL [] B i n))) := hid HBI.out
          have HBW9 : Hid (Below wb.heap.size wb (wr.drewN nq)) := hid (bdrewN HBW.out nq)
          generalize wr.drewN nq = w9 at *
          go_wp2_with fail
          go_roundg (n - (i + 1))
          case measure => omega
          case rel =>
            have hs := HMID.out.stop (fun A' y e => by simp at e)
            refine ⟨i + 1, by omega, by omega, rfl, by go_num, hid ⟨[] ++ i :: B, hs.1, hs.2, ?_, ?_, HBW9.out⟩⟩
            · have := HABL.out
              simp only [List.length_append, List.length_cons, List.length_nil] at *
              omega
            · rw [← midL_end]
              exact HBI9.out
    · have hie : i = n := by omega
      subst hie
      go_wp2
      go_end0
      obtain ⟨A, h1, h2, h3, h4, h5⟩ := HA.out
      rw [Nat.sub_self, List.range'_zero, List.append_nil, order_is HM.out h1 (fun x => by rw [HN.out]; exact h2 x)] at h4
      exact ⟨rfl, h5, h4⟩
end Go.Proofs.Ytecpkjhfbmchgaa
