/- The reference's Core. The reference's Turned. The reference's sign and Shifted. ProveChooses: the walk. For every input the law ProveChooses returns true, and each argument reads afterwards as it read before. No condition. -/
import Derived.Test.YtnjbahiaelehkaaE7
import Derived.RegionCalls
import Derived.Test.YtnjbahiaelehkaaB2
import Derived.OpenShut
import Derived.Test.YtnjbahiaelehkaaJ1
namespace Go.Proofs.Ytnjbahiaelehkaa
open Go.RowKit


set_option maxRecDepth 100000 in
set_option maxHeartbeats 8000000 in
theorem rcore_any (n : Int) (l : List AM) (a : Option Addr) (cap : Nat) (w : World) (hl : Rd w a l) (hlen : l.length ≤ 64) :
    Calls Try.prog 43 #[.int .i64 n, .slice a l.length cap] w (IntsP (coreL n l) (coreB n l) (checkN n l) w) := by
  have HL := hid hl; clear hl
  have HB := hid (bnew w (.cells #[.slice none 0 0, .bool false, .int .i64 0] 75))
  have HR : Hid ((w.alloc (.cells #[.slice none 0 0, .bool false, .int .i64 0] 75)).heap[w.heap.size]? = some (.cells #[.slice none 0 0, .bool false, .int .i64 0] 75 (0, 0))) := hid (heapn _ _ _ rfl)
  by_cases h0 : checkN n l = 0
  · obtain ⟨⟨hn1, hn2⟩, h40, hrs⟩ := checkN_in h0
    obtain ⟨N, rfl⟩ : ∃ N : Nat, n = (N : Int) := ⟨n.toNat, by omega⟩
    have hN : N ≤ 12 := by omega
    have hN1 : 1 ≤ N := by omega
    have HOK := hid (rights_ok hrs)
    have H0 := hid h0
    cases hp : possB l with
    | true =>
      have hnl : coreL N l = [] := by unfold coreL; rw [if_pos h0, if_pos hp]
      have hnb : coreB N l = false := by unfold coreB; rw [if_pos h0, hp]; rfl
      rw [hnl, hnb, h0]
      have HP := hid hp
      clear h0 hrs hnl hnb hp
      go_enter Try.func43, Try.ntmps43
      go_wp2_with (first
        | (go_at_call 32; (with_reducible refine (rcheck_any N l a cap _ (HL.out.below HB.out) (by omega)).mono ?_); rw [H0.out]; rintro e w1 ⟨rfl, hb⟩; have HB := hid (HB.out.step hb); have HR := hid (keepBox hb HR.out); clear hb)
        | (go_at_call 81; (with_reducible refine (rposs_any N hN1 hN l a cap _ HOK.out (HL.out.below HB.out) (by omega)).mono ?_); rw [HP.out]; rintro e w1 ⟨rfl, hb⟩; have HB := hid (HB.out.step hb); have HR := hid (keepBox hb HR.out); obtain ⟨r0, r1, r2, z0, z1, z2⟩ := box3 HR.out; clear hb))
      refine bodyPost_ret (v := .agg #[.slice none 0 0, .bool false, .int .i64 0]) (by simp [results, Try.results43, go_sem, r0, r1, r2]) rfl ?_
      exact IntsP.none _ (((HB.out.setCell (Nat.le_refl _) _).setCell (Nat.le_refl _) _).setCell (Nat.le_refl _) _)
    | false =>
    have hnl : coreL N l = keep canS l := by unfold coreL; rw [if_pos h0, hp]; rfl
    have hnb : coreB N l = true := by unfold coreB; rw [if_pos h0, hp]; rfl
    rw [hnl, hnb, h0]
    have HP := hid hp
    clear h0 hrs hnl hnb hp
    go_enter Try.func43, Try.ntmps43
    go_upto_region 8 with (first
      | (go_at_call 32; (with_reducible refine (rcheck_any N l a cap _ (HL.out.below HB.out) (by omega)).mono ?_); rw [H0.out]; rintro e w1 ⟨rfl, hb⟩; have HB := hid (HB.out.step hb); have HR := hid (keepBox hb HR.out); clear hb)
      | (go_at_call 81; (with_reducible refine (rposs_any N hN1 hN l a cap _ HOK.out (HL.out.below HB.out) (by omega)).mono ?_); rw [HP.out]; rintro e w1 ⟨rfl, hb⟩; have HB := hid (HB.out.step hb); have HR := hid (keepBox hb HR.out); clear hb)
      | (go_at_call 84; (with_reducible refine (indices_any l a cap _ hlen).mono ?_); rintro e w1 ⟨hb, v, rfl, hown⟩; have hsz := HB.out.size; have hlt := lt_of_heap HR.out; have HO := hid (hown.mono (base' := w.heap.size + 1) (by omega)); have HB := hid (HB.out.step hb); have HR := hid (keepBox hb HR.out); clear hb hown hsz hlt))
    go_wp2
    go_loopg [7, 8] l.length (fun gh s6 s7 wr => ∃ m i : Nat, m ≤ l.length ∧ gh = l.length - m ∧ s7 = .int .i64 i ∧ NdIn canS l w m i s6 wr)
    case atStart => exact ⟨0, 0, Nat.zero_le _, rfl, rfl, _, Nd.zero canS l, HO.out, HB.out, HR.out⟩
    case round =>
      obtain ⟨m, i, hm, rfl, rfl, ks, nd, hown, hbw, hbox⟩ := hrel
      obtain ⟨a6, c6, rfl, hrd, hc6⟩ := hown.rdc
      by_cases hlt : i < ks.length
      · obtain ⟨hat, hml⟩ := nd.at hlt
        have hlen2 : ks.length ≤ 1000 := by
          have := keepFrom_length canS l m
          rw [← nd.from_] at this
          omega
        obtain ⟨bx, ox, hbx, hltx, c0⟩ := hrd i hlt
        rw [hat] at c0
        obtain ⟨b2, off, ha, hlt2, h1, h2, h3, h4, h5⟩ := HL.out.below hbw m hml
        subst hbx
        subst ha
        have ho := HOK.out l[m] (List.getElem_mem hml)
        obtain ⟨x, hx⟩ : ∃ x, x = l[m] := ⟨_, rfl⟩
        rw [← hx] at h1 h2 h3 h4 h5 ho
        have hgd : l.getD m am0 = x := by rw [hx]; simp [List.getD, hml]
        obtain ⟨xA, xP, xB, xQ, xM⟩ := x
        obtain ⟨r, hr⟩ : ∃ r, r = pick l (ks.eraseIdx i) := ⟨_, rfl⟩
        have hin : ∀ k, k ∈ ks → 0 ≤ k ∧ k < l.length := fun k hk => nd.mem hk
        have hrok : ∀ a, a ∈ r → Ok N 1000000 a := fun a ha => HOK.out a (pick_in (fun k hk => hin k ((List.eraseIdx_sublist ks i).mem hk)) a (by rw [← hr]; exact ha))
        have hrl : r.length ≤ 1000000 := by
          rw [hr]
          unfold pick
          rw [List.length_map, List.length_eraseIdx_of_lt hlt]
          omega
        have HRD := hid hrd
        have HND := hid nd
        have HOWN := hid hown
        have HBW := hid hbw
        have HBOX := hid hbox
        have HO := hid ho
        have HR := hid hr
        have HIN := hid hin
        have HROK := hid hrok
        have HGD := hid hgd
        have n1 : (m : Int) < (l.length : Int) := by omega
        have n2 : (i : Int) < (ks.length : Int) := by omega
        have n0 : (0 : Int) ≤ m := by omega
        have n3 : (0 : Int) ≤ i := by omega
        clear hrd nd hown hbw hbox hat ho hx hr hin hrok hgd
        simp only at h1 h2 h3 h4 h5
        clear c0 h1 h2 h3 h4 h5
        have HB9 := hid (Below.refl wr.heap.size wr)
        go_upto_region 12 with (first
          | (go_at_call 85; (with_reducible refine (chosen_any l ks i _ cap _ c6 _ (HL.out.below HBW.out) HRD.out hlen2 HIN.out).mono ?_); rw [skip_erase, ← HR.out]; rintro e w9 ⟨hbb, v, rfl, hown⟩; obtain ⟨am, cm, rfl, hrd⟩ := hown.rd; have HRR := hid hrd; have HB9 := hid hbb; clear hbb hown hrd)
          | (go_at_call 81; (with_reducible refine (rposs_any N hN1 hN r am cm _ HROK.out HRR.out hrl).mono ?_); rintro e w9 ⟨rfl, hbb⟩; have HB9 := hid (HB9.out.step hbb); clear hbb))
        have hcan : canS (l.getD m am0) (pick l (ks.eraseIdx i)) = !possB r := by rw [HGD.out, ← HR.out]; rfl
        have HCAN := hid hcan
        have HBN := HB9
        clear hcan
        cases hs : possB r with
        | false =>
          have HSP := hid hs
          clear hs
          have hti : (ks.take i).length = i := by rw [List.length_take]; omega
          have htd : (ks.drop (i + 1)).length = ks.length - (i + 1) := List.length_drop ..
          have i1 : (i : Int) ≤ c6 := by omega
          have i2 : (i : Int) + 1 ≤ ks.length := by omega
          have i3 : i + 1 ≤ ks.length := hlt
          have HRD9 := hid (HRD.out.below HBN.out)
          have wi : IntKind.i64.wrap ((i : Int) + 1) = ((i + 1 : Nat) : Int) := by rw [wrapk ⟨by omega, by omega⟩]; omega
          have i4 : ((i + 1 : Nat) : Int) ≤ (ks.length : Int) := by omega
          have i5 : (0 : Int) ≤ (i : Int) + 1 := by omega
          have i7 : (i : Int) ≤ (i : Int) + 1 := by omega
          go_upto_region 13 with fail
          by_cases hcc : c6 = i + 1
          · subst hcc
            go_region_law (first
              | (refine step_append_ints _ rfl (.tmp 38) (.tmp 41) rfl w9.heap.size (.slice (some ⟨w9.heap.size, 0, none⟩) 0 0) [] (ks.take i) (by rfl) (.none (by omega) (by simp only [heap_drew, heap_alloc_if] <;> simp <;> omega)) _ _ i hti (by rfl) (RdI.head (HRD9.out.below (by repeat (first | exact Below.refl _ _ | refine Below.drew ?_ | refine bmore ?_ _))) i) (by simp; omega) (by simp; try omega) ?_
                 intro v1 w1 hown1 hg1 hat1
                 have HA1 : Hid (OwnI w1 w9.heap.size v1 (ks.take i) ∧ Below w9.heap.size w9 w1) := hid ⟨by simpa using hown1, Below.grown (by repeat (first | exact Below.refl _ _ | refine Below.drew ?_ | refine bmore ?_ _)) hg1 (by simp; try omega) (by intro q hq; simp [Value.ownBlock] at hq; omega)⟩
                 clear hown1 hg1 hat1)
              | (refine step_append_ints _ rfl (.tmp 42) (.tmp 46) rfl w9.heap.size v1 (ks.take i) (ks.drop (i + 1)) (by rfl) (by first | exact HA1.out.1 | exact World.ownsRow.alloc HA1.out.1 _) _ _ 0 (by rw [htd]; omega) (by rfl) (RdI.empty _ _ _ (by rw [htd]; omega)) (by rw [hti, htd]; omega) (by have := HA1.out.2.size; first | exact this | (simp; omega)) ?_
                 intro v2 w2 hown2 hg2 hat2
                 have HA2 : Hid (OwnI w2 w9.heap.size v2 (ks.take i ++ ks.drop (i + 1)) ∧ Below w9.heap.size w9 w2) := hid ⟨hown2, Below.grown (by first | exact HA1.out.2 | exact HA1.out.2.drew) hg2 (by have := HA1.out.2.size; first | exact this | (simp; omega)) (own_ge HA1.out.1)⟩
                 clear hown2 hg2 hat2))
            go_wp2
            go_roundg (l.length - (m + 1))
            case rel =>
              have hsz := Nat.le_trans HBW.out.size HBN.out.size
              have hlt8 := lt_of_heap HBOX.out
              have hsz9 := HBN.out.size
              refine ⟨m + 1, i, by omega, rfl, by go_num, ks.eraseIdx i, HND.out.out hlt (HCAN.out.trans (by rw [HSP.out]; rfl)), ?_, (HBW.out.step HBN.out).step HA2.out.2, keepBox HA2.out.2 (keepBox HBN.out HBOX.out)⟩
              rw [List.eraseIdx_eq_take_drop_succ]
              exact HA2.out.1.mono (by omega)
            case measure => omega
          · go_region_law (first
              | (refine step_append_ints _ rfl (.tmp 38) (.tmp 41) rfl w9.heap.size (.slice (some ⟨w9.heap.size, 0, none⟩) 0 0) [] (ks.take i) (by rfl) (.none (by omega) (by simp only [heap_drew, heap_alloc_if] <;> simp <;> omega)) _ _ i hti (by rfl) (RdI.head (HRD9.out.below (by repeat (first | exact Below.refl _ _ | refine Below.drew ?_ | refine bmore ?_ _))) i) (by simp; omega) (by simp; try omega) ?_
                 intro v1 w1 hown1 hg1 hat1
                 have HA1 : Hid (OwnI w1 w9.heap.size v1 (ks.take i) ∧ Below w9.heap.size w9 w1) := hid ⟨by simpa using hown1, Below.grown (by repeat (first | exact Below.refl _ _ | refine Below.drew ?_ | refine bmore ?_ _)) hg1 (by simp; try omega) (by intro q hq; simp [Value.ownBlock] at hq; omega)⟩
                 clear hown1 hg1 hat1)
              | (refine step_append_ints _ rfl (.tmp 42) (.tmp 46) rfl w9.heap.size v1 (ks.take i) (ks.drop (i + 1)) (by rfl) (by first | exact HA1.out.1 | exact World.ownsRow.alloc HA1.out.1 _) _ _ (ks.length - (i + 1)) htd (by rfl) (RdI.tail (HRD9.out.below (by first | exact HA1.out.2 | exact HA1.out.2.drew)) (i + 1)) (by rw [hti, htd]; omega) (by have := HA1.out.2.size; first | exact this | (simp; omega)) ?_
                 intro v2 w2 hown2 hg2 hat2
                 have HA2 : Hid (OwnI w2 w9.heap.size v2 (ks.take i ++ ks.drop (i + 1)) ∧ Below w9.heap.size w9 w2) := hid ⟨hown2, Below.grown (by first | exact HA1.out.2 | exact HA1.out.2.drew) hg2 (by have := HA1.out.2.size; first | exact this | (simp; omega)) (own_ge HA1.out.1)⟩
                 clear hown2 hg2 hat2))
            go_wp2
            go_roundg (l.length - (m + 1))
            case rel =>
              have hsz := Nat.le_trans HBW.out.size HBN.out.size
              have hlt8 := lt_of_heap HBOX.out
              have hsz9 := HBN.out.size
              refine ⟨m + 1, i, by omega, rfl, by go_num, ks.eraseIdx i, HND.out.out hlt (HCAN.out.trans (by rw [HSP.out]; rfl)), ?_, (HBW.out.step HBN.out).step HA2.out.2, keepBox HA2.out.2 (keepBox HBN.out HBOX.out)⟩
              rw [List.eraseIdx_eq_take_drop_succ]
              exact HA2.out.1.mono (by omega)
            case measure => omega
        | true =>
          have HSP := hid hs
          clear hs
          go_wp2
          go_roundg (l.length - (m + 1))
          case rel =>
            exact ⟨m + 1, i + 1, by omega, rfl, by go_num, ks, HND.out.stay hlt (HCAN.out.trans (by rw [HSP.out]; rfl)), HOWN.out.later HBN.out, HBW.out.step HBN.out, keepBox HBN.out HBOX.out⟩
          case measure => omega
      · have hie : i = ks.length := by
          have := nd.len
          omega
        have HK := hid (nd.end hie)
        have HBOX := hid hbox
        have HBW := hid hbw
        have HOWN := hid hown
        obtain ⟨r0, r1, r2, z0, z1, z2⟩ := box3 hbox
        clear nd hown hbw hbox hrd hc6
        go_wp2
        refine bodyPost_ret (v := .agg #[.slice a6 ks.length c6, .bool true, .int .i64 0]) (by simp [results, Try.results43, go_sem, r0, r1, r2]) rfl ?_
        rw [← HK.out]
        have hb9 := ((HBW.out.setCell (p := ⟨w.heap.size, 0, none⟩) (Nat.le_refl _) (.slice a6 ks.length c6)).setCell (p := ⟨w.heap.size, 1, none⟩) (Nat.le_refl _) (.bool true)).setCell (p := ⟨w.heap.size, 2, none⟩) (Nat.le_refl _) (.int .i64 0)
        have ho9 := ((HOWN.out.off (b := w.heap.size) (k := 0) (u := .slice a6 ks.length c6) (Nat.lt_succ_self _)).off (b := w.heap.size) (k := 1) (u := .bool true) (Nat.lt_succ_self _)).off (b := w.heap.size) (k := 2) (u := .int .i64 0) (Nat.lt_succ_self _)
        exact IntsP.of_own hb9 ho9
  · have hnl : coreL n l = [] := by unfold coreL; rw [if_neg h0]
    have hnb : coreB n l = false := by unfold coreB; rw [if_neg h0]
    rw [hnl, hnb]
    obtain ⟨c, hc⟩ : ∃ c, c = checkN n l := ⟨_, rfl⟩
    rw [← hc]
    have hne : (c != 0) = true := by rw [hc]; simpa using h0
    have HC := hid hc
    clear hc h0 hnl hnb
    go_enter Try.func43, Try.ntmps43
    go_wp2_with (go_at_call 32; (with_reducible refine (rcheck_any n l a cap _ (HL.out.below HB.out) (by omega)).mono ?_); rw [← HC.out]; rintro e w1 ⟨rfl, hb⟩; have HB := hid (HB.out.step hb); have HR := hid (keepBox hb HR.out); obtain ⟨r0, r1, r2, z0, z1, z2⟩ := box3 HR.out; clear hb)
    refine bodyPost_ret (v := .agg #[.slice none 0 0, .bool false, .int .i64 c]) (by simp [results, Try.results43, go_sem, r0, r1, r2]) rfl ?_
    exact IntsP.none _ (((HB.out.setCell (Nat.le_refl _) _).setCell (Nat.le_refl _) _).setCell (Nat.le_refl _) _)


/-- A struct of lines and a fault. -/
def LinesP (r : List AM) (e0 : Int) (w : World) (e : Ending) (w' : World) : Prop := Below w.heap.size w w' ∧ ∃ v, e = .returned (.agg #[v, .int .i64 e0]) ∧ ∃ a cap, v = .slice a r.length cap ∧ Rd w' a r
theorem own_off {w : World} {base b k : Nat} {v u : Value} {l : List AM} (h : OwnL w base v l) (hb : b < base) : OwnL (w.setCell ⟨b, k, none⟩ u) base v l := by
  refine ⟨h.1, ?_⟩
  rcases h.2 with h | ⟨g, cap, cur, hv, hg, hh, rest⟩
  · exact .inl h
  · exact .inr ⟨g, cap, cur, hv, hg, (Below.heap_setCell _ _ _ _ (by show g ≠ b; omega)).trans hh, rest⟩
theorem linesP_own {l : List AM} {e0 : Int} {w w' : World} {base : Nat} {v : Value} (hb : Below w.heap.size w w') (h : OwnL w' base v l) : LinesP l e0 w (.returned (.agg #[v, .int .i64 e0])) w' := by
  obtain ⟨a, cap, rfl, hr⟩ := h.rd
  exact ⟨hb, _, rfl, a, cap, rfl, hr⟩
theorem linesP_nil {e0 : Int} {w w' : World} (hb : Below w.heap.size w w') : LinesP [] e0 w (.returned (.agg #[.slice none 0 0, .int .i64 e0])) w' :=
  ⟨hb, _, rfl, _, _, rfl, fun i hi => absurd hi (Nat.not_lt_zero i)⟩

set_option maxRecDepth 100000 in
set_option maxHeartbeats 8000000 in
theorem rturned_any (n : Int) (l : List AM) (k : Int) (a : Option Addr) (cap : Nat) (w : World) (hl : Rd w a l) (hlen : l.length ≤ 64) :
    Calls Try.prog 47 #[.int .i64 n, .slice a l.length cap, .int .i64 k] w (LinesP (if indexN n l k = 0 then l.map (turnA k) else []) (indexN n l k) w) := by
  have HL := hid hl; clear hl
  have HB := hid (bnew w (.cells #[.slice none 0 0, .int .i64 0] 80))
  have HR : Hid ((w.alloc (.cells #[.slice none 0 0, .int .i64 0] 80)).heap[w.heap.size]? = some (.cells #[.slice none 0 0, .int .i64 0] 80 (0, 0))) := hid (heapn _ _ _ rfl)
  obtain ⟨i4, hj4, hy0, hy1, hy2⟩ := info_parts info24
  by_cases h0 : checkN n l = 0
  · obtain ⟨⟨hn1, hn2⟩, h40, hrs⟩ := checkN_in h0
    have H0 := hid h0
    cases hi : inB k 0 (n - 1) with
    | true =>
      have hix : indexN n l k = 0 := by unfold indexN; rw [if_pos h0, hi]; rfl
      rw [if_pos hix, hix]
      have HI := hid hi
      have HRS := hid hrs
      clear h0 hi hix hrs
      go_enter Try.func47, Try.ntmps47
      go_upto_region 8 with (first
        | (go_at_call 32; (with_reducible refine (rcheck_any n l a cap _ (HL.out.below HB.out) (by omega)).mono ?_); rw [H0.out]; rintro e w1 ⟨rfl, hb⟩; have HB := hid (HB.out.step hb); have HR := hid (keepBox hb HR.out); clear hb)
        | (go_at_call 64; (with_reducible refine (in_any _ _ _ _).mono ?_); rw [HI.out]; rintro e w2 ⟨rfl, rfl⟩))
      go_wp2
      go_loopg [9, 10] l.length (fun gh s9 s10 wr => ∃ j : Nat, j ≤ l.length ∧ gh = l.length - j ∧ s10 = .int .i64 j ∧ Hid (OwnL wr (w.heap.size + 1) s9 ((l.take j).map (turnA k)) ∧ Below w.heap.size w wr ∧ wr.heap[w.heap.size]? = some (.cells #[.slice none 0 0, .int .i64 0] 80 (0, 0))))
      case atStart => exact ⟨0, Nat.zero_le _, rfl, rfl, hid ⟨⟨rfl, .inl ⟨rfl, rfl⟩⟩, HB.out, HR.out⟩⟩
      case round =>
        obtain ⟨j, hj, rfl, rfl, HJ⟩ := hrel
        by_cases hlt : j < l.length
        · obtain ⟨b1, o1, ha, hlt1, p0, p1, p2, p3, p4⟩ := HL.out.below HJ.out.2.1 j hlt
          subst ha
          have hrp := right_parts (List.all_eq_true.1 (show l.all (fun x => rightB n x) = true from HRS.out) _ (List.getElem_mem hlt))
          obtain ⟨x, hx⟩ : ∃ x, x = l[j] := ⟨_, rfl⟩
          rw [← hx] at p0 p1 p2 p3 p4 hrp
          have HX := hid hx
          obtain ⟨A, P, B, Q, M⟩ := x
          have hp1 : -1 ≤ P := hrp.1.1
          have hp2 : P ≤ 1 := hrp.1.2
          have hq1 : -1 ≤ Q := hrp.2.1.1
          have hq2 : Q ≤ 1 := hrp.2.1.2
          clear hrp hx
          simp only at p0 p1 p2 p3 p4
          obtain ⟨r, hr⟩ : ∃ r, r = (l.take j).map (turnA k) := ⟨_, rfl⟩
          have HW : Hid (wr.ownsRow (w.heap.size + 1) 24 5 u9 r.length (r.flatMap c5)) := hid (by rw [hr]; exact HJ.out.1)
          have hrl : r.length ≤ 64 := by rw [hr, List.length_map, List.length_take]; omega
          have HRR := hid hr
          clear hr
          have n1 : (j : Int) < (l.length : Int) := by omega
          by_cases hA : A = k
          · have eA : (A == k) = true := by simpa using hA
            have HA := hid hA
            clear hA
            by_cases hQ : Q = 0
            · have eQ : (Q != 0) = false := by simpa using hQ
              have HQ := hid hQ
              clear hQ
              have hy : turnA k ⟨A, P, B, Q, M⟩ = ⟨A, -P, B, Q, M⟩ := by
                simp only [turnA, AM.mk.injEq, true_and, and_true]
                simp [HA.out, HQ.out]
              have HYY := hid hy
              obtain ⟨y, hyy⟩ : ∃ y : AM, y = ⟨A, -P, B, Q, M⟩ := ⟨_, rfl⟩
              have HY := hid hyy
              clear hy
              go_upto_region 16 with fail
              have HB2 := hid (HJ.out.2.1.step (bnew wr (.cells #[.int .i64 A, .int .i64 (-P), .int .i64 B, .int .i64 Q, .int .i64 M] 24)))
              have HO2 : Hid ((wr.alloc (.cells #[.int .i64 A, .int .i64 (-P), .int .i64 B, .int .i64 Q, .int .i64 M] 24)).ownsRow (w.heap.size + 1) 24 5 u9 r.length (r.flatMap c5)) := hid (World.ownsRow.alloc HW.out _)
              have HR2 := hid (keepBox (bnew wr (.cells #[.int .i64 A, .int .i64 (-P), .int .i64 B, .int .i64 Q, .int .i64 M] 24)) HJ.out.2.2)
              have HT : Hid ((wr.alloc (.cells #[.int .i64 A, .int .i64 (-P), .int .i64 B, .int .i64 Q, .int .i64 M] 24)).heap[wr.heap.size]? = some (.cells #[.int .i64 y.A, .int .i64 y.P, .int .i64 y.B, .int .i64 y.Q, .int .i64 y.M] 24 (0, 0))) := hid (by rw [hyy]; exact heapn _ _ _ rfl)
              generalize wr.alloc (.cells #[.int .i64 A, .int .i64 (-P), .int .i64 B, .int .i64 Q, .int .i64 M] 24) = W2 at *
              generalize wr.heap.size = j2 at *
              clear hyy p0 p1 p2 p3 p4
              obtain ⟨t0, t1, t2, t3, t4⟩ := AMat.of (x := y) HT.out
              simp only [Nat.zero_add] at t0 t1 t2 t3 t4
              go_wp2_with (at_builtin; refine wpList_append_own _ rfl _ _ 22 rfl (w.heap.size + 1) 24 i4 _ 5 40 Try.underlying22 hj4 hy0 hy1 hy2 rfl (by decide) _ _ _ rfl (World.ownsRow.alloc HO2.out _) ⟨W2.heap.size, 0, none⟩ 1 1 (c5 y) rfl rfl (cell_five_new _ _ _ _ _ _ _) (by intro u hu; simp [c5] at hu; rcases hu with rfl | rfl | rfl | rfl | rfl <;> rfl) (by unfold maxLen; omega) (by omega) (by have := HB2.out.size; have := lt_of_heap HR2.out; simp; omega) ?_; intro v2 w4 hown2 hgrow2 hnil2; have HG2 := hid (And.intro hown2 hgrow2); clear hown2 hgrow2 hnil2)
              go_roundg (l.length - (j + 1))
              case rel =>
                refine ⟨j + 1, by omega, rfl, by go_num, hid ⟨?_, (HB2.out.alloc (by have := HB2.out.size; omega) _).grown HG2.out.2 (by have := HB2.out.size; simp; omega) (fun q hq => by have := own_ge HO2.out q hq; omega), ?_⟩⟩
                · unfold OwnL
                  have e : (l.take (j + 1)).map (turnA k) = r ++ [y] := by rw [List.take_succ_eq_append_getElem hlt, List.map_append, ← HRR.out, List.map_singleton, ← HX.out, HYY.out, ← HY.out]
                  rw [e, List.length_append, List.length_singleton, List.flatMap_append]
                  simpa using HG2.out.1
                · exact box_kept HG2.out.2 ((heapo _ _ _ (lt_of_heap HR2.out)).trans HR2.out) (fun e => by have := own_ge HO2.out _ e.symm; omega)
              case measure => omega
            · have eQ : (Q != 0) = true := by simpa using hQ
              have HQ := hid hQ
              clear hQ
              by_cases hB : B = k
              · have eB : (B == k) = true := by simpa using hB
                have HBk := hid hB
                clear hB
                have hy : turnA k ⟨A, P, B, Q, M⟩ = ⟨A, -P, B, -Q, M⟩ := by
                  simp only [turnA, AM.mk.injEq, true_and, and_true]
                  simp [HA.out, HBk.out]
                have HYY := hid hy
                obtain ⟨y, hyy⟩ : ∃ y : AM, y = ⟨A, -P, B, -Q, M⟩ := ⟨_, rfl⟩
                have HY := hid hyy
                clear hy
                go_upto_region 16 with fail
                have HB2 := hid (HJ.out.2.1.step (bnew wr (.cells #[.int .i64 A, .int .i64 (-P), .int .i64 B, .int .i64 (-Q), .int .i64 M] 24)))
                have HO2 : Hid ((wr.alloc (.cells #[.int .i64 A, .int .i64 (-P), .int .i64 B, .int .i64 (-Q), .int .i64 M] 24)).ownsRow (w.heap.size + 1) 24 5 u9 r.length (r.flatMap c5)) := hid (World.ownsRow.alloc HW.out _)
                have HR2 := hid (keepBox (bnew wr (.cells #[.int .i64 A, .int .i64 (-P), .int .i64 B, .int .i64 (-Q), .int .i64 M] 24)) HJ.out.2.2)
                have HT : Hid ((wr.alloc (.cells #[.int .i64 A, .int .i64 (-P), .int .i64 B, .int .i64 (-Q), .int .i64 M] 24)).heap[wr.heap.size]? = some (.cells #[.int .i64 y.A, .int .i64 y.P, .int .i64 y.B, .int .i64 y.Q, .int .i64 y.M] 24 (0, 0))) := hid (by rw [hyy]; exact heapn _ _ _ rfl)
                generalize wr.alloc (.cells #[.int .i64 A, .int .i64 (-P), .int .i64 B, .int .i64 (-Q), .int .i64 M] 24) = W2 at *
                generalize wr.heap.size = j2 at *
                clear hyy p0 p1 p2 p3 p4
                obtain ⟨t0, t1, t2, t3, t4⟩ := AMat.of (x := y) HT.out
                simp only [Nat.zero_add] at t0 t1 t2 t3 t4
                go_wp2_with (at_builtin; refine wpList_append_own _ rfl _ _ 22 rfl (w.heap.size + 1) 24 i4 _ 5 40 Try.underlying22 hj4 hy0 hy1 hy2 rfl (by decide) _ _ _ rfl (World.ownsRow.alloc HO2.out _) ⟨W2.heap.size, 0, none⟩ 1 1 (c5 y) rfl rfl (cell_five_new _ _ _ _ _ _ _) (by intro u hu; simp [c5] at hu; rcases hu with rfl | rfl | rfl | rfl | rfl <;> rfl) (by unfold maxLen; omega) (by omega) (by have := HB2.out.size; have := lt_of_heap HR2.out; simp; omega) ?_; intro v2 w4 hown2 hgrow2 hnil2; have HG2 := hid (And.intro hown2 hgrow2); clear hown2 hgrow2 hnil2)
                go_roundg (l.length - (j + 1))
                case rel =>
                  refine ⟨j + 1, by omega, rfl, by go_num, hid ⟨?_, (HB2.out.alloc (by have := HB2.out.size; omega) _).grown HG2.out.2 (by have := HB2.out.size; simp; omega) (fun q hq => by have := own_ge HO2.out q hq; omega), ?_⟩⟩
                  · unfold OwnL
                    have e : (l.take (j + 1)).map (turnA k) = r ++ [y] := by rw [List.take_succ_eq_append_getElem hlt, List.map_append, ← HRR.out, List.map_singleton, ← HX.out, HYY.out, ← HY.out]
                    rw [e, List.length_append, List.length_singleton, List.flatMap_append]
                    simpa using HG2.out.1
                  · exact box_kept HG2.out.2 ((heapo _ _ _ (lt_of_heap HR2.out)).trans HR2.out) (fun e => by have := own_ge HO2.out _ e.symm; omega)
                case measure => omega
              · have eB : (B == k) = false := by simpa using hB
                have HBk := hid hB
                clear hB
                have hy : turnA k ⟨A, P, B, Q, M⟩ = ⟨A, -P, B, Q, M⟩ := by
                  simp only [turnA, AM.mk.injEq, true_and, and_true]
                  simp [HA.out, HBk.out]
                have HYY := hid hy
                obtain ⟨y, hyy⟩ : ∃ y : AM, y = ⟨A, -P, B, Q, M⟩ := ⟨_, rfl⟩
                have HY := hid hyy
                clear hy
                go_upto_region 16 with fail
                have HB2 := hid (HJ.out.2.1.step (bnew wr (.cells #[.int .i64 A, .int .i64 (-P), .int .i64 B, .int .i64 Q, .int .i64 M] 24)))
                have HO2 : Hid ((wr.alloc (.cells #[.int .i64 A, .int .i64 (-P), .int .i64 B, .int .i64 Q, .int .i64 M] 24)).ownsRow (w.heap.size + 1) 24 5 u9 r.length (r.flatMap c5)) := hid (World.ownsRow.alloc HW.out _)
                have HR2 := hid (keepBox (bnew wr (.cells #[.int .i64 A, .int .i64 (-P), .int .i64 B, .int .i64 Q, .int .i64 M] 24)) HJ.out.2.2)
                have HT : Hid ((wr.alloc (.cells #[.int .i64 A, .int .i64 (-P), .int .i64 B, .int .i64 Q, .int .i64 M] 24)).heap[wr.heap.size]? = some (.cells #[.int .i64 y.A, .int .i64 y.P, .int .i64 y.B, .int .i64 y.Q, .int .i64 y.M] 24 (0, 0))) := hid (by rw [hyy]; exact heapn _ _ _ rfl)
                generalize wr.alloc (.cells #[.int .i64 A, .int .i64 (-P), .int .i64 B, .int .i64 Q, .int .i64 M] 24) = W2 at *
                generalize wr.heap.size = j2 at *
                clear hyy p0 p1 p2 p3 p4
                obtain ⟨t0, t1, t2, t3, t4⟩ := AMat.of (x := y) HT.out
                simp only [Nat.zero_add] at t0 t1 t2 t3 t4
                go_wp2_with (at_builtin; refine wpList_append_own _ rfl _ _ 22 rfl (w.heap.size + 1) 24 i4 _ 5 40 Try.underlying22 hj4 hy0 hy1 hy2 rfl (by decide) _ _ _ rfl (World.ownsRow.alloc HO2.out _) ⟨W2.heap.size, 0, none⟩ 1 1 (c5 y) rfl rfl (cell_five_new _ _ _ _ _ _ _) (by intro u hu; simp [c5] at hu; rcases hu with rfl | rfl | rfl | rfl | rfl <;> rfl) (by unfold maxLen; omega) (by omega) (by have := HB2.out.size; have := lt_of_heap HR2.out; simp; omega) ?_; intro v2 w4 hown2 hgrow2 hnil2; have HG2 := hid (And.intro hown2 hgrow2); clear hown2 hgrow2 hnil2)
                go_roundg (l.length - (j + 1))
                case rel =>
                  refine ⟨j + 1, by omega, rfl, by go_num, hid ⟨?_, (HB2.out.alloc (by have := HB2.out.size; omega) _).grown HG2.out.2 (by have := HB2.out.size; simp; omega) (fun q hq => by have := own_ge HO2.out q hq; omega), ?_⟩⟩
                  · unfold OwnL
                    have e : (l.take (j + 1)).map (turnA k) = r ++ [y] := by rw [List.take_succ_eq_append_getElem hlt, List.map_append, ← HRR.out, List.map_singleton, ← HX.out, HYY.out, ← HY.out]
                    rw [e, List.length_append, List.length_singleton, List.flatMap_append]
                    simpa using HG2.out.1
                  · exact box_kept HG2.out.2 ((heapo _ _ _ (lt_of_heap HR2.out)).trans HR2.out) (fun e => by have := own_ge HO2.out _ e.symm; omega)
                case measure => omega
          · have eA : (A == k) = false := by simpa using hA
            have HA := hid hA
            clear hA
            by_cases hQ : Q = 0
            · have eQ : (Q != 0) = false := by simpa using hQ
              have HQ := hid hQ
              clear hQ
              have hy : turnA k ⟨A, P, B, Q, M⟩ = ⟨A, P, B, Q, M⟩ := by
                simp only [turnA, AM.mk.injEq, true_and, and_true]
                simp [HA.out, HQ.out]
              have HYY := hid hy
              obtain ⟨y, hyy⟩ : ∃ y : AM, y = ⟨A, P, B, Q, M⟩ := ⟨_, rfl⟩
              have HY := hid hyy
              clear hy
              go_upto_region 16 with fail
              have HB2 := hid (HJ.out.2.1.step (bnew wr (.cells #[.int .i64 A, .int .i64 P, .int .i64 B, .int .i64 Q, .int .i64 M] 24)))
              have HO2 : Hid ((wr.alloc (.cells #[.int .i64 A, .int .i64 P, .int .i64 B, .int .i64 Q, .int .i64 M] 24)).ownsRow (w.heap.size + 1) 24 5 u9 r.length (r.flatMap c5)) := hid (World.ownsRow.alloc HW.out _)
              have HR2 := hid (keepBox (bnew wr (.cells #[.int .i64 A, .int .i64 P, .int .i64 B, .int .i64 Q, .int .i64 M] 24)) HJ.out.2.2)
              have HT : Hid ((wr.alloc (.cells #[.int .i64 A, .int .i64 P, .int .i64 B, .int .i64 Q, .int .i64 M] 24)).heap[wr.heap.size]? = some (.cells #[.int .i64 y.A, .int .i64 y.P, .int .i64 y.B, .int .i64 y.Q, .int .i64 y.M] 24 (0, 0))) := hid (by rw [hyy]; exact heapn _ _ _ rfl)
              generalize wr.alloc (.cells #[.int .i64 A, .int .i64 P, .int .i64 B, .int .i64 Q, .int .i64 M] 24) = W2 at *
              generalize wr.heap.size = j2 at *
              clear hyy p0 p1 p2 p3 p4
              obtain ⟨t0, t1, t2, t3, t4⟩ := AMat.of (x := y) HT.out
              simp only [Nat.zero_add] at t0 t1 t2 t3 t4
              go_wp2_with (at_builtin; refine wpList_append_own _ rfl _ _ 22 rfl (w.heap.size + 1) 24 i4 _ 5 40 Try.underlying22 hj4 hy0 hy1 hy2 rfl (by decide) _ _ _ rfl (World.ownsRow.alloc HO2.out _) ⟨W2.heap.size, 0, none⟩ 1 1 (c5 y) rfl rfl (cell_five_new _ _ _ _ _ _ _) (by intro u hu; simp [c5] at hu; rcases hu with rfl | rfl | rfl | rfl | rfl <;> rfl) (by unfold maxLen; omega) (by omega) (by have := HB2.out.size; have := lt_of_heap HR2.out; simp; omega) ?_; intro v2 w4 hown2 hgrow2 hnil2; have HG2 := hid (And.intro hown2 hgrow2); clear hown2 hgrow2 hnil2)
              go_roundg (l.length - (j + 1))
              case rel =>
                refine ⟨j + 1, by omega, rfl, by go_num, hid ⟨?_, (HB2.out.alloc (by have := HB2.out.size; omega) _).grown HG2.out.2 (by have := HB2.out.size; simp; omega) (fun q hq => by have := own_ge HO2.out q hq; omega), ?_⟩⟩
                · unfold OwnL
                  have e : (l.take (j + 1)).map (turnA k) = r ++ [y] := by rw [List.take_succ_eq_append_getElem hlt, List.map_append, ← HRR.out, List.map_singleton, ← HX.out, HYY.out, ← HY.out]
                  rw [e, List.length_append, List.length_singleton, List.flatMap_append]
                  simpa using HG2.out.1
                · exact box_kept HG2.out.2 ((heapo _ _ _ (lt_of_heap HR2.out)).trans HR2.out) (fun e => by have := own_ge HO2.out _ e.symm; omega)
              case measure => omega
            · have eQ : (Q != 0) = true := by simpa using hQ
              have HQ := hid hQ
              clear hQ
              by_cases hB : B = k
              · have eB : (B == k) = true := by simpa using hB
                have HBk := hid hB
                clear hB
                have hy : turnA k ⟨A, P, B, Q, M⟩ = ⟨A, P, B, -Q, M⟩ := by
                  simp only [turnA, AM.mk.injEq, true_and, and_true]
                  simp [HA.out, HBk.out]
                have HYY := hid hy
                obtain ⟨y, hyy⟩ : ∃ y : AM, y = ⟨A, P, B, -Q, M⟩ := ⟨_, rfl⟩
                have HY := hid hyy
                clear hy
                go_upto_region 16 with fail
                have HB2 := hid (HJ.out.2.1.step (bnew wr (.cells #[.int .i64 A, .int .i64 P, .int .i64 B, .int .i64 (-Q), .int .i64 M] 24)))
                have HO2 : Hid ((wr.alloc (.cells #[.int .i64 A, .int .i64 P, .int .i64 B, .int .i64 (-Q), .int .i64 M] 24)).ownsRow (w.heap.size + 1) 24 5 u9 r.length (r.flatMap c5)) := hid (World.ownsRow.alloc HW.out _)
                have HR2 := hid (keepBox (bnew wr (.cells #[.int .i64 A, .int .i64 P, .int .i64 B, .int .i64 (-Q), .int .i64 M] 24)) HJ.out.2.2)
                have HT : Hid ((wr.alloc (.cells #[.int .i64 A, .int .i64 P, .int .i64 B, .int .i64 (-Q), .int .i64 M] 24)).heap[wr.heap.size]? = some (.cells #[.int .i64 y.A, .int .i64 y.P, .int .i64 y.B, .int .i64 y.Q, .int .i64 y.M] 24 (0, 0))) := hid (by rw [hyy]; exact heapn _ _ _ rfl)
                generalize wr.alloc (.cells #[.int .i64 A, .int .i64 P, .int .i64 B, .int .i64 (-Q), .int .i64 M] 24) = W2 at *
                generalize wr.heap.size = j2 at *
                clear hyy p0 p1 p2 p3 p4
                obtain ⟨t0, t1, t2, t3, t4⟩ := AMat.of (x := y) HT.out
                simp only [Nat.zero_add] at t0 t1 t2 t3 t4
                go_wp2_with (at_builtin; refine wpList_append_own _ rfl _ _ 22 rfl (w.heap.size + 1) 24 i4 _ 5 40 Try.underlying22 hj4 hy0 hy1 hy2 rfl (by decide) _ _ _ rfl (World.ownsRow.alloc HO2.out _) ⟨W2.heap.size, 0, none⟩ 1 1 (c5 y) rfl rfl (cell_five_new _ _ _ _ _ _ _) (by intro u hu; simp [c5] at hu; rcases hu with rfl | rfl | rfl | rfl | rfl <;> rfl) (by unfold maxLen; omega) (by omega) (by have := HB2.out.size; have := lt_of_heap HR2.out; simp; omega) ?_; intro v2 w4 hown2 hgrow2 hnil2; have HG2 := hid (And.intro hown2 hgrow2); clear hown2 hgrow2 hnil2)
                go_roundg (l.length - (j + 1))
                case rel =>
                  refine ⟨j + 1, by omega, rfl, by go_num, hid ⟨?_, (HB2.out.alloc (by have := HB2.out.size; omega) _).grown HG2.out.2 (by have := HB2.out.size; simp; omega) (fun q hq => by have := own_ge HO2.out q hq; omega), ?_⟩⟩
                  · unfold OwnL
                    have e : (l.take (j + 1)).map (turnA k) = r ++ [y] := by rw [List.take_succ_eq_append_getElem hlt, List.map_append, ← HRR.out, List.map_singleton, ← HX.out, HYY.out, ← HY.out]
                    rw [e, List.length_append, List.length_singleton, List.flatMap_append]
                    simpa using HG2.out.1
                  · exact box_kept HG2.out.2 ((heapo _ _ _ (lt_of_heap HR2.out)).trans HR2.out) (fun e => by have := own_ge HO2.out _ e.symm; omega)
                case measure => omega
              · have eB : (B == k) = false := by simpa using hB
                have HBk := hid hB
                clear hB
                have hy : turnA k ⟨A, P, B, Q, M⟩ = ⟨A, P, B, Q, M⟩ := by
                  simp only [turnA, AM.mk.injEq, true_and, and_true]
                  simp [HA.out, HBk.out]
                have HYY := hid hy
                obtain ⟨y, hyy⟩ : ∃ y : AM, y = ⟨A, P, B, Q, M⟩ := ⟨_, rfl⟩
                have HY := hid hyy
                clear hy
                go_upto_region 16 with fail
                have HB2 := hid (HJ.out.2.1.step (bnew wr (.cells #[.int .i64 A, .int .i64 P, .int .i64 B, .int .i64 Q, .int .i64 M] 24)))
                have HO2 : Hid ((wr.alloc (.cells #[.int .i64 A, .int .i64 P, .int .i64 B, .int .i64 Q, .int .i64 M] 24)).ownsRow (w.heap.size + 1) 24 5 u9 r.length (r.flatMap c5)) := hid (World.ownsRow.alloc HW.out _)
                have HR2 := hid (keepBox (bnew wr (.cells #[.int .i64 A, .int .i64 P, .int .i64 B, .int .i64 Q, .int .i64 M] 24)) HJ.out.2.2)
                have HT : Hid ((wr.alloc (.cells #[.int .i64 A, .int .i64 P, .int .i64 B, .int .i64 Q, .int .i64 M] 24)).heap[wr.heap.size]? = some (.cells #[.int .i64 y.A, .int .i64 y.P, .int .i64 y.B, .int .i64 y.Q, .int .i64 y.M] 24 (0, 0))) := hid (by rw [hyy]; exact heapn _ _ _ rfl)
                generalize wr.alloc (.cells #[.int .i64 A, .int .i64 P, .int .i64 B, .int .i64 Q, .int .i64 M] 24) = W2 at *
                generalize wr.heap.size = j2 at *
                clear hyy p0 p1 p2 p3 p4
                obtain ⟨t0, t1, t2, t3, t4⟩ := AMat.of (x := y) HT.out
                simp only [Nat.zero_add] at t0 t1 t2 t3 t4
                go_wp2_with (at_builtin; refine wpList_append_own _ rfl _ _ 22 rfl (w.heap.size + 1) 24 i4 _ 5 40 Try.underlying22 hj4 hy0 hy1 hy2 rfl (by decide) _ _ _ rfl (World.ownsRow.alloc HO2.out _) ⟨W2.heap.size, 0, none⟩ 1 1 (c5 y) rfl rfl (cell_five_new _ _ _ _ _ _ _) (by intro u hu; simp [c5] at hu; rcases hu with rfl | rfl | rfl | rfl | rfl <;> rfl) (by unfold maxLen; omega) (by omega) (by have := HB2.out.size; have := lt_of_heap HR2.out; simp; omega) ?_; intro v2 w4 hown2 hgrow2 hnil2; have HG2 := hid (And.intro hown2 hgrow2); clear hown2 hgrow2 hnil2)
                go_roundg (l.length - (j + 1))
                case rel =>
                  refine ⟨j + 1, by omega, rfl, by go_num, hid ⟨?_, (HB2.out.alloc (by have := HB2.out.size; omega) _).grown HG2.out.2 (by have := HB2.out.size; simp; omega) (fun q hq => by have := own_ge HO2.out q hq; omega), ?_⟩⟩
                  · unfold OwnL
                    have e : (l.take (j + 1)).map (turnA k) = r ++ [y] := by rw [List.take_succ_eq_append_getElem hlt, List.map_append, ← HRR.out, List.map_singleton, ← HX.out, HYY.out, ← HY.out]
                    rw [e, List.length_append, List.length_singleton, List.flatMap_append]
                    simpa using HG2.out.1
                  · exact box_kept HG2.out.2 ((heapo _ _ _ (lt_of_heap HR2.out)).trans HR2.out) (fun e => by have := own_ge HO2.out _ e.symm; omega)
                case measure => omega
        · have hje : j = l.length := by omega
          have HF : Hid (OwnL wr (w.heap.size + 1) u9 (l.map (turnA k))) := hid (by have := HJ.out.1; rwa [hje, List.take_length] at this)
          have HBW := hid HJ.out.2.1
          obtain ⟨r0, r1, z0, z1⟩ := box2 HJ.out.2.2
          clear hje
          obtain ⟨ff, hff⟩ : ∃ ff, ff = l.map (turnA k) := ⟨_, rfl⟩
          rw [← hff] at HF
          have HFF := hid hff
          clear hff
          obtain ⟨a9, c9, hu9, _⟩ := HF.out.rd
          subst hu9
          go_wp2
          rw [← HFF.out]
          refine bodyPost_ret (v := .agg #[.slice a9 ff.length c9, .int .i64 0]) (by simp [results, Try.results47, go_sem, r0, r1]) rfl ?_
          have hb9 := (HBW.out.setCell (p := ⟨w.heap.size, 0, none⟩) (Nat.le_refl _) (.slice a9 ff.length c9)).setCell (p := ⟨w.heap.size, 1, none⟩) (Nat.le_refl _) (.int .i64 0)
          have ho9 := (own_off (b := w.heap.size) (k := 0) (u := .slice a9 ff.length c9) HF.out (Nat.lt_succ_self _))
          have ho9 := (own_off (b := w.heap.size) (k := 1) (u := .int .i64 0) ho9 (Nat.lt_succ_self _))
          exact linesP_own hb9 ho9
    | false =>
      have hix : indexN n l k = 1 := by unfold indexN; rw [if_pos h0, hi]; rfl
      rw [if_neg (by rw [hix]; decide), hix]
      have HI := hid hi
      clear h0 hi hix hrs
      go_enter Try.func47, Try.ntmps47
      go_wp2_with (first
        | (go_at_call 32; (with_reducible refine (rcheck_any n l a cap _ (HL.out.below HB.out) (by omega)).mono ?_); rw [H0.out]; rintro e w1 ⟨rfl, hb⟩; have HB := hid (HB.out.step hb); have HR := hid (keepBox hb HR.out); obtain ⟨r0, r1, z0, z1⟩ := box2 HR.out; clear hb)
        | (go_at_call 64; (with_reducible refine (in_any _ _ _ _).mono ?_); rw [HI.out]; rintro e w2 ⟨rfl, rfl⟩))
      refine bodyPost_ret (v := .agg #[.slice none 0 0, .int .i64 1]) (by simp [results, Try.results47, go_sem, r0, r1]) rfl ?_
      exact linesP_nil ((HB.out.setCell (Nat.le_refl _) _).setCell (Nat.le_refl _) _)
  · have hix : indexN n l k = checkN n l := by unfold indexN; rw [if_neg h0]
    rw [if_neg (by rw [hix]; exact h0), hix]
    obtain ⟨c, hc⟩ : ∃ c, c = checkN n l := ⟨_, rfl⟩
    rw [← hc]
    have hne : (c != 0) = true := by rw [hc]; simpa using h0
    have HC := hid hc
    clear hc h0 hix
    go_enter Try.func47, Try.ntmps47
    go_wp2_with (go_at_call 32; (with_reducible refine (rcheck_any n l a cap _ (HL.out.below HB.out) (by omega)).mono ?_); rw [← HC.out]; rintro e w1 ⟨rfl, hb⟩; have HB := hid (HB.out.step hb); have HR := hid (keepBox hb HR.out); obtain ⟨r0, r1, z0, z1⟩ := box2 HR.out; clear hb)
    refine bodyPost_ret (v := .agg #[.slice none 0 0, .int .i64 c]) (by simp [results, Try.results47, go_sem, r0, r1]) rfl ?_
    exact linesP_nil ((HB.out.setCell (Nat.le_refl _) _).setCell (Nat.le_refl _) _)


theorem box5s {W : World} {b : Nat} {x y z u v : Value} {T : TypeId} (h : W.heap[b]? = some (.cells #[x, y, z, u, v] T (0, 0))) :
    (W.cell? ⟨b, 0, none⟩ = some x ∧ W.cell? ⟨b, 1, none⟩ = some y ∧ W.cell? ⟨b, 2, none⟩ = some z ∧ W.cell? ⟨b, 3, none⟩ = some u ∧ W.cell? ⟨b, 4, none⟩ = some v) ∧
    W.frozen? ⟨b, 0, none⟩ = false ∧ W.frozen? ⟨b, 1, none⟩ = false ∧ W.frozen? ⟨b, 2, none⟩ = false ∧ W.frozen? ⟨b, 3, none⟩ = false ∧ W.frozen? ⟨b, 4, none⟩ = false := by
  simp [World.cell?, World.frozen?, h]
def signA (k : Int) (x : AM) : Int := if x.A = k then x.P else if x.Q ≠ 0 ∧ x.B = k then x.Q else 0
theorem sign_mul {n k y : Int} {x : AM} (h : rightB n x = true) : shiftA k y x = ⟨x.A, x.P, x.B, x.Q, x.M + y * signA k x⟩ := by
  obtain ⟨A, P, B, Q, M⟩ := x
  simp only [rightB, decide_eq_true_eq] at h
  simp only [shiftA, signA, AM.mk.injEq, true_and]
  by_cases h1 : A = k
  · by_cases h2 : B = k
    · have hq : Q = 0 := by
        by_cases hq : Q = 0
        · exact hq
        · rw [if_neg hq] at h
          omega
      rw [if_pos h1, if_pos h2, if_pos h1, hq, Int.mul_comm y P]
      omega
    · rw [if_pos h1, if_neg h2, if_pos h1, Int.mul_comm y P]
      omega
  · by_cases h2 : B = k
    · by_cases hq : Q = 0
      · rw [if_neg h1, if_pos h2, if_neg h1, if_neg (fun h => h.1 hq), hq]
        omega
      · rw [if_neg h1, if_pos h2, if_neg h1, if_pos ⟨hq, h2⟩, Int.mul_comm y Q]
        omega
    · rw [if_neg h1, if_neg h2, if_neg h1, if_neg (fun h => h2 h.2)]
      omega
set_option maxHeartbeats 1000000 in
theorem sign_any (A P B Q M k : Int) (w : World) :
    Calls Try.prog 88 #[.agg #[.int .i64 A, .int .i64 P, .int .i64 B, .int .i64 Q, .int .i64 M], .int .i64 k] w (RetB (.int .i64 (signA k ⟨A, P, B, Q, M⟩)) w) := by
  unfold signA
  simp only
  by_cases hA : A = k
  · have eA : (A == k) = true := by simpa using hA
    rw [if_pos hA]
    clear hA
    go_enter Try.func88, Try.ntmps88
    go_wp2
    go_ret
    exact ⟨rfl, bnew _ _⟩
  · have eA : (A == k) = false := by simpa using hA
    rw [if_neg hA]
    clear hA
    by_cases hQ : Q = 0
    · have eQ : (Q != 0) = false := by simpa using hQ
      rw [if_neg (fun h => h.1 hQ)]
      clear hQ
      go_enter Try.func88, Try.ntmps88
      go_wp2
      go_ret
      exact ⟨rfl, bnew _ _⟩
    · have eQ : (Q != 0) = true := by simpa using hQ
      by_cases hB : B = k
      · have eB : (B == k) = true := by simpa using hB
        rw [if_pos ⟨hQ, hB⟩]
        clear hQ hB
        go_enter Try.func88, Try.ntmps88
        go_wp2
        go_ret
        exact ⟨rfl, bnew _ _⟩
      · have eB : (B == k) = false := by simpa using hB
        rw [if_neg (fun h => hB h.2)]
        clear hQ hB
        go_enter Try.func88, Try.ntmps88
        go_wp2
        go_ret
        exact ⟨rfl, bnew _ _⟩
theorem own_off2 {w : World} {base b k n : Nat} {v u : Value} {xs : List Value} {e : TypeId} {sz : Nat} (h : w.ownsRow base e sz v n xs) (hb : v.ownBlock ≠ some b) : (w.setCell ⟨b, k, none⟩ u).ownsRow base e sz v n xs := by
  refine ⟨h.1, ?_⟩
  rcases h.2 with h | ⟨g, cap, cur, rfl, hg, hh, rest⟩
  · exact .inl h
  · exact .inr ⟨g, cap, cur, rfl, hg, (Below.heap_setCell _ _ _ _ (by show g ≠ b; intro e; exact hb (by rw [← e]; rfl))).trans hh, rest⟩
theorem own_in {w : World} {base n : Nat} {v : Value} {xs : List Value} {e : TypeId} {sz : Nat} (h : w.ownsRow base e sz v n xs) : ∀ g, v.ownBlock = some g → g < w.heap.size := by
  intro q hq
  rcases h.2 with ⟨rfl, _⟩ | ⟨g, cap, cur, rfl, hg, hh, rest⟩
  · cases hq
  · have : g = q := by injection hq
    rw [← this]
    exact lt_of_heap hh

set_option maxRecDepth 100000 in
set_option maxHeartbeats 8000000 in
theorem rshifted_any (n : Int) (l : List AM) (k y_ : Int) (a : Option Addr) (cap : Nat) (w : World) (hl : Rd w a l) (hlen : l.length ≤ 64) :
    Calls Try.prog 45 #[.int .i64 n, .slice a l.length cap, .int .i64 k, .int .i64 y_] w (LinesP (if shiftE n l k y_ = 0 ∧ rightsB n (l.map (shiftA k y_)) = true then l.map (shiftA k y_) else []) (if shiftE n l k y_ = 0 then (if rightsB n (l.map (shiftA k y_)) = true then 0 else 1) else shiftE n l k y_) w) := by
  have HL := hid hl; clear hl
  have HB := hid (bnew w (.cells #[.slice none 0 0, .int .i64 0] 80))
  have HR : Hid ((w.alloc (.cells #[.slice none 0 0, .int .i64 0] 80)).heap[w.heap.size]? = some (.cells #[.slice none 0 0, .int .i64 0] 80 (0, 0))) := hid (heapn _ _ _ rfl)
  obtain ⟨i4, hj4, hy0, hy1, hy2⟩ := info_parts info24
  obtain ⟨RL, hRL⟩ : ∃ q, q = (if shiftE n l k y_ = 0 ∧ rightsB n (l.map (shiftA k y_)) = true then l.map (shiftA k y_) else []) := ⟨_, rfl⟩
  obtain ⟨RC, hRC⟩ : ∃ q, q = (if shiftE n l k y_ = 0 then (if rightsB n (l.map (shiftA k y_)) = true then 0 else 1) else shiftE n l k y_) := ⟨_, rfl⟩
  rw [← hRL, ← hRC]
  by_cases h0 : checkN n l = 0
  · obtain ⟨⟨hn1, hn2⟩, h40, hrs⟩ := checkN_in h0
    have H0 := hid h0
    cases hi : inB k 0 (n - 1) with
    | true =>
      have hix : indexN n l k = 0 := by unfold indexN; rw [if_pos h0, hi]; rfl
      cases hiy : inB y_ (-1000000) 1000000 with
      | true =>
        have hse : shiftE n l k y_ = 0 := by unfold shiftE; rw [if_pos hix, hiy]; rfl
        have HIY := hid hiy
        have HYB := hid (show -1000000 ≤ y_ ∧ y_ ≤ 1000000 by simpa [inB] using hiy)
        have HI := hid hi
        have HRS := hid hrs
        have hgood : rightsB n (l.map (shiftA k y_)) = true → RL = l.map (shiftA k y_) ∧ RC = 0 := fun h => ⟨by rw [hRL, if_pos ⟨hse, h⟩], by rw [hRC, if_pos hse, if_pos h]⟩
        have hbad : rightsB n (l.map (shiftA k y_)) = false → RL = [] ∧ RC = 1 := fun h => ⟨by rw [hRL, if_neg (fun e => by rw [h] at e; cases e.2)], by rw [hRC, if_pos hse, if_neg (by rw [h]; decide)]⟩
        have HGOOD := hid hgood
        have HBAD := hid hbad
        clear h0 hi hix hrs hiy hse hRL hRC hgood hbad
        go_enter Try.func45, Try.ntmps45
        go_upto_region 9 with (first | (go_at_call 32; (with_reducible refine (rcheck_any n l a cap _ (HL.out.below HB.out) (by omega)).mono ?_); rw [H0.out]; rintro e w1 ⟨rfl, hb⟩; have HB := hid (HB.out.step hb); have HR := hid (keepBox hb HR.out); obtain ⟨r0, r1, z0, z1⟩ := box2 HR.out; clear hb) | (go_at_call 64; (with_reducible refine (in_any k _ _ _).mono ?_); rw [HI.out]; rintro e w2 ⟨rfl, rfl⟩) | (go_at_call 64; (with_reducible refine (in_any y_ _ _ _).mono ?_); rw [HIY.out]; rintro e w2 ⟨rfl, rfl⟩))
        clear r0 r1 z0 z1
        go_wp2
        go_loopg [12, 13] l.length (fun gh s12 s13 wr => ∃ j : Nat, j ≤ l.length ∧ gh = l.length - j ∧ s13 = .int .i64 j ∧ Hid (OwnL wr (w.heap.size + 1) s12 ((l.take j).map (shiftA k y_)) ∧ Below w.heap.size w wr ∧ wr.heap[w.heap.size]? = some (.cells #[.slice none 0 0, .int .i64 0] 80 (0, 0)) ∧ rightsB n ((l.take j).map (shiftA k y_)) = true))
        case atStart => exact ⟨0, Nat.zero_le _, rfl, rfl, hid ⟨⟨rfl, .inl ⟨rfl, rfl⟩⟩, HB.out, HR.out, rfl⟩⟩
        case round =>
          obtain ⟨j, hj, rfl, rfl, HJ⟩ := hrel
          by_cases hlt : j < l.length
          · obtain ⟨b1, o1, ha, hlt1, p0, p1, p2, p3, p4⟩ := HL.out.below HJ.out.2.1 j hlt
            subst ha
            have hrr := List.all_eq_true.1 (show l.all (fun x => rightB n x) = true from HRS.out) _ (List.getElem_mem hlt)
            have hrp := right_parts hrr
            have hss := sign_mul (k := k) (y := y_) hrr
            obtain ⟨x, hx⟩ : ∃ x, x = l[j] := ⟨_, rfl⟩
            rw [← hx] at p0 p1 p2 p3 p4 hrp hss
            have HX := hid hx
            obtain ⟨A, P, B, Q, M⟩ := x
            have hp1 : -1 ≤ P := hrp.1.1
            have hp2 : P ≤ 1 := hrp.1.2
            have hq1 : -1 ≤ Q := hrp.2.1.1
            have hq2 : Q ≤ 1 := hrp.2.1.2
            have hm1 : -1000000 ≤ M := hrp.2.2.1
            have hm2 : M ≤ 1000000 := hrp.2.2.2
            clear hrp hx hrr
            simp only at p0 p1 p2 p3 p4
            obtain ⟨r, hr⟩ : ∃ r, r = (l.take j).map (shiftA k y_) := ⟨_, rfl⟩
            have HW : Hid (wr.ownsRow (w.heap.size + 1) 24 5 u12 r.length (r.flatMap c5)) := hid (by rw [hr]; exact HJ.out.1)
            have hrl : r.length ≤ 64 := by rw [hr, List.length_map, List.length_take]; omega
            have HRR := hid hr
            clear hr
            have n1 : (j : Int) < (l.length : Int) := by omega
            obtain ⟨sg, hsg⟩ : ∃ q, q = signA k ⟨A, P, B, Q, M⟩ := ⟨_, rfl⟩
            obtain ⟨M', hM'⟩ : ∃ q, q = M + y_ * sg := ⟨_, rfl⟩
            rw [← hsg] at hss
            simp only at hss
            rw [← hM'] at hss
            have hsb : -1 ≤ sg ∧ sg ≤ 1 := by
              rw [hsg]
              unfold signA
              simp only
              split
              · exact ⟨hp1, hp2⟩
              · split
                · exact ⟨hq1, hq2⟩
                · exact ⟨by decide, by decide⟩
            have hmul : -1000000 ≤ y_ * sg ∧ y_ * sg ≤ 1000000 := by
              rw [Int.mul_comm]
              exact small_mul hsb HYB.out
            have w1' : IntKind.i64.wrap (y_ * sg) = y_ * sg := wrapk ⟨by omega, by omega⟩
            have w2' : IntKind.i64.wrap (M + y_ * sg) = M' := by
              rw [hM']
              exact wrapk ⟨by omega, by omega⟩
            have HSS := hid hss
            have HSG := hid hsg
            have HWW := hid (And.intro w1' w2')
            clear hss hsg hM' hsb hmul w1' w2' hm1 hm2 hp1 hp2 hq1 hq2
            go_upto_region 13 with fail
            have HB2 := hid (HJ.out.2.1.step (bnew wr (.cells #[.int .i64 A, .int .i64 P, .int .i64 B, .int .i64 Q, .int .i64 M] 24)))
            have HO2 : Hid ((wr.alloc (.cells #[.int .i64 A, .int .i64 P, .int .i64 B, .int .i64 Q, .int .i64 M] 24)).ownsRow (w.heap.size + 1) 24 5 u12 r.length (r.flatMap c5)) := hid (World.ownsRow.alloc HW.out _)
            have HR2 := hid (keepBox (bnew wr (.cells #[.int .i64 A, .int .i64 P, .int .i64 B, .int .i64 Q, .int .i64 M] 24)) HJ.out.2.2.1)
            have HT : Hid ((wr.alloc (.cells #[.int .i64 A, .int .i64 P, .int .i64 B, .int .i64 Q, .int .i64 M] 24)).heap[wr.heap.size]? = some (.cells #[.int .i64 A, .int .i64 P, .int .i64 B, .int .i64 Q, .int .i64 M] 24 (0, 0))) := hid (heapn _ _ _ rfl)
            have hjj : w.heap.size < wr.heap.size := lt_of_heap HJ.out.2.2.1
            have HIN := hid (own_in HW.out)
            generalize wr.alloc (.cells #[.int .i64 A, .int .i64 P, .int .i64 B, .int .i64 Q, .int .i64 M] 24) = W2 at *
            generalize wr.heap.size = j2 at *
            clear p0 p1 p2 p3 p4
            have hj2 := lt_of_heap HT.out
            go_cut [] (fun wx => ∃ wy, Below W2.heap.size W2 wy ∧ wx = wy.setCell ⟨j2, 4, none⟩ (.int .i64 M'))
            case first =>
              obtain ⟨⟨t0, t1, t2, t3, t4⟩, z0, z1, z2, z3, z4⟩ := box5s HT.out
              obtain ⟨w1', w2'⟩ := HWW.out
              go_region_with ((go_at_call 88; (with_reducible refine (sign_any A P B Q M k _).mono ?_); rw [← HSG.out]; rintro e w9 ⟨rfl, hb⟩; have hb := (bdrew _).step hb; have HD := hid hb; have HT9 := hid (keepBox hb HT.out); obtain ⟨⟨t0, t1, t2, t3, t4⟩, z0, z1, z2, z3, z4⟩ := box5s HT9.out; clear hb))
              all_goals (go_wp2_with fail)
              all_goals go_meet
              all_goals exact ⟨_, HD.out, rfl⟩
            case rest =>
              obtain ⟨wy, hby, rfl⟩ := hcut
              have HB2 := hid (Below.setCell (HB2.out.step hby) (p := ⟨j2, 4, none⟩) (by show w.heap.size ≤ j2; omega) (.int .i64 M'))
              have HO2 : Hid ((wy.setCell ⟨j2, 4, none⟩ (.int .i64 M')).ownsRow (w.heap.size + 1) 24 5 u12 r.length (r.flatMap c5)) := hid (own_off2 (own_below HO2.out hby) (fun e => by have := HIN.out j2 e; omega))
              have HR2 : Hid ((wy.setCell ⟨j2, 4, none⟩ (.int .i64 M')).heap[w.heap.size]? = some (.cells #[.slice none 0 0, .int .i64 0] 80 (0, 0))) := hid ((Below.heap_setCell _ _ _ _ (by show w.heap.size ≠ j2; omega)).trans (keepBox hby HR2.out))
              have HT : Hid ((wy.setCell ⟨j2, 4, none⟩ (.int .i64 M')).heap[j2]? = some (.cells #[.int .i64 A, .int .i64 P, .int .i64 B, .int .i64 Q, .int .i64 M'] 24 (0, 0))) := hid (heap_setCell_same _ _ _ _ _ _ (keepBox hby HT.out))
              generalize wy.setCell ⟨j2, 4, none⟩ (.int .i64 M') = W3 at *
              clear hby hj2
              obtain ⟨⟨t0, t1, t2, t3, t4⟩, _, _, _, _, _⟩ := box5s HT.out
              have htk : (l.take (j + 1)).map (shiftA k y_) = r ++ [⟨A, P, B, Q, M'⟩] := by rw [List.take_succ_eq_append_getElem hlt, List.map_append, ← HRR.out, List.map_singleton, ← HX.out, HSS.out]
              have HTK := hid htk
              clear htk
              cases hrb : rightB n ⟨A, P, B, Q, M'⟩ with
              | true =>
                have HRB := hid hrb
                clear hrb
                go_upto_region 17 with (go_at_call 76; (with_reducible refine (rright_any n A P B Q M' hn1 hn2 _).mono ?_); rw [HRB.out]; rintro e w5 ⟨rfl, hb⟩; have HB2 := hid (HB2.out.step hb); have HO2 := hid (own_below HO2.out hb); have HR2 := hid (keepBox hb HR2.out); have HT := hid (keepBox hb HT.out); obtain ⟨⟨t0, t1, t2, t3, t4⟩, _, _, _, _, _⟩ := box5s HT.out; clear hb)
                obtain ⟨y, hyy⟩ : ∃ y : AM, y = ⟨A, P, B, Q, M'⟩ := ⟨_, rfl⟩
                have HY := hid hyy
                have e0 : y.A = A := by rw [hyy]
                have e1 : y.P = P := by rw [hyy]
                have e2 : y.B = B := by rw [hyy]
                have e3 : y.Q = Q := by rw [hyy]
                have e4 : y.M = M' := by rw [hyy]
                rw [← e0] at t0
                rw [← e1] at t1
                rw [← e2] at t2
                rw [← e3] at t3
                rw [← e4] at t4
                clear hyy e0 e1 e2 e3 e4
                go_wp2_with (at_builtin; refine wpList_append_own _ rfl _ _ 22 rfl (w.heap.size + 1) 24 i4 _ 5 40 Try.underlying22 hj4 hy0 hy1 hy2 rfl (by decide) _ _ _ rfl (World.ownsRow.alloc HO2.out _) ⟨w5.heap.size, 0, none⟩ 1 1 (c5 y) rfl rfl (cell_five_new _ _ _ _ _ _ _) (by intro u hu; simp [c5] at hu; rcases hu with rfl | rfl | rfl | rfl | rfl <;> rfl) (by unfold maxLen; omega) (by omega) (by have := HB2.out.size; have := lt_of_heap HR2.out; simp; omega) ?_; intro v2 w4 hown2 hgrow2 hnil2; have HG2 := hid (And.intro hown2 hgrow2); clear hown2 hgrow2 hnil2)
                go_roundg (l.length - (j + 1))
                case rel =>
                  refine ⟨j + 1, by omega, rfl, by go_num, hid ⟨?_, (HB2.out.alloc (by have := HB2.out.size; omega) _).grown HG2.out.2 (by have := HB2.out.size; simp; omega) (fun q hq => by have := own_ge HO2.out q hq; omega), ?_, ?_⟩⟩
                  · unfold OwnL
                    rw [HTK.out, ← HY.out, List.length_append, List.length_singleton, List.flatMap_append]
                    simpa using HG2.out.1
                  · exact box_kept HG2.out.2 ((heapo _ _ _ (lt_of_heap HR2.out)).trans HR2.out) (fun e => by have := own_ge HO2.out _ e.symm; omega)
                  · rw [HTK.out]
                    have h1 : rightsB n r = true := by rw [HRR.out]; exact HJ.out.2.2.2
                    unfold rightsB at h1 ⊢
                    rw [List.all_append, h1]
                    simp [HRB.out]
                case measure => omega
              | false =>
                have HRB := hid hrb
                have hfb : rightsB n (l.map (shiftA k y_)) = false := chgd_bad hlt (by rw [← HX.out, HSS.out]; exact hrb)
                obtain ⟨eL, eC⟩ := HBAD.out hfb
                have HEE := hid (And.intro eL eC)
                clear hrb hfb eL eC
                go_wp2_with (go_at_call 76; (with_reducible refine (rright_any n A P B Q M' hn1 hn2 _).mono ?_); rw [HRB.out]; rintro e w5 ⟨rfl, hb⟩; have HB2 := hid (HB2.out.step hb); have HR2 := hid (keepBox hb HR2.out); obtain ⟨r0, r1, z0, z1⟩ := box2 HR2.out; clear hb)
                rw [HEE.out.1, HEE.out.2]
                refine bodyPost_ret (v := .agg #[.slice none 0 0, .int .i64 1]) (by simp [results, Try.results45, go_sem, r0, r1]) rfl ?_
                exact linesP_nil ((HB2.out.setCell (Nat.le_refl _) _).setCell (Nat.le_refl _) _)
          · have hje : j = l.length := by omega
            have HF : Hid (OwnL wr (w.heap.size + 1) u12 (l.map (shiftA k y_))) := hid (by have := HJ.out.1; rwa [hje, List.take_length] at this)
            have hgr : rightsB n (l.map (shiftA k y_)) = true := by have := HJ.out.2.2.2; rwa [hje, List.take_length] at this
            obtain ⟨eL, eC⟩ := HGOOD.out hgr
            have HEE := hid (And.intro eL eC)
            have HBW := hid HJ.out.2.1
            obtain ⟨r0, r1, z0, z1⟩ := box2 HJ.out.2.2.1
            clear hje hgr eL eC
            obtain ⟨ff, hff⟩ : ∃ ff, ff = l.map (shiftA k y_) := ⟨_, rfl⟩
            rw [← hff] at HF
            have HFF := hid hff
            clear hff
            obtain ⟨a9, c9, hu9, _⟩ := HF.out.rd
            subst hu9
            go_wp2
            rw [HEE.out.1, HEE.out.2, ← HFF.out]
            refine bodyPost_ret (v := .agg #[.slice a9 ff.length c9, .int .i64 0]) (by simp [results, Try.results45, go_sem, r0, r1]) rfl ?_
            have hb9 := (HBW.out.setCell (p := ⟨w.heap.size, 0, none⟩) (Nat.le_refl _) (.slice a9 ff.length c9)).setCell (p := ⟨w.heap.size, 1, none⟩) (Nat.le_refl _) (.int .i64 0)
            have ho9 := (own_off (b := w.heap.size) (k := 0) (u := .slice a9 ff.length c9) HF.out (Nat.lt_succ_self _))
            have ho9 := (own_off (b := w.heap.size) (k := 1) (u := .int .i64 0) ho9 (Nat.lt_succ_self _))
            exact linesP_own hb9 ho9
      | false =>
        have hse : shiftE n l k y_ = 1 := by unfold shiftE; rw [if_pos hix, hiy]; rfl
        have eL : RL = [] := by rw [hRL, if_neg (fun e => by rw [hse] at e; cases e.1)]
        have eC : RC = 1 := by rw [hRC, if_neg (by rw [hse]; decide), hse]
        have HIY := hid hiy
        have HI := hid hi
        have HEE := hid (And.intro eL eC)
        clear h0 hi hix hrs hiy hse hRL hRC eL eC
        go_enter Try.func45, Try.ntmps45
        go_wp2_with (first | (go_at_call 32; (with_reducible refine (rcheck_any n l a cap _ (HL.out.below HB.out) (by omega)).mono ?_); rw [H0.out]; rintro e w1 ⟨rfl, hb⟩; have HB := hid (HB.out.step hb); have HR := hid (keepBox hb HR.out); obtain ⟨r0, r1, z0, z1⟩ := box2 HR.out; clear hb) | (go_at_call 64; (with_reducible refine (in_any k _ _ _).mono ?_); rw [HI.out]; rintro e w2 ⟨rfl, rfl⟩) | (go_at_call 64; (with_reducible refine (in_any y_ _ _ _).mono ?_); rw [HIY.out]; rintro e w2 ⟨rfl, rfl⟩))
        rw [HEE.out.1, HEE.out.2]
        refine bodyPost_ret (v := .agg #[.slice none 0 0, .int .i64 1]) (by simp [results, Try.results45, go_sem, r0, r1]) rfl ?_
        exact linesP_nil ((HB.out.setCell (Nat.le_refl _) _).setCell (Nat.le_refl _) _)
    | false =>
      have hix : indexN n l k = 1 := by unfold indexN; rw [if_pos h0, hi]; rfl
      have hse : shiftE n l k y_ = 1 := by unfold shiftE; rw [if_neg (by rw [hix]; decide), hix]
      have eL : RL = [] := by rw [hRL, if_neg (fun e => by rw [hse] at e; cases e.1)]
      have eC : RC = 1 := by rw [hRC, if_neg (by rw [hse]; decide), hse]
      obtain ⟨q, hiy⟩ : ∃ q, inB y_ (-1000000) 1000000 = q := ⟨_, rfl⟩
      have HIY := hid hiy
      have HI := hid hi
      have HEE := hid (And.intro eL eC)
      clear h0 hi hix hrs hiy hse hRL hRC eL eC
      go_enter Try.func45, Try.ntmps45
      go_wp2_with (first | (go_at_call 32; (with_reducible refine (rcheck_any n l a cap _ (HL.out.below HB.out) (by omega)).mono ?_); rw [H0.out]; rintro e w1 ⟨rfl, hb⟩; have HB := hid (HB.out.step hb); have HR := hid (keepBox hb HR.out); obtain ⟨r0, r1, z0, z1⟩ := box2 HR.out; clear hb) | (go_at_call 64; (with_reducible refine (in_any k _ _ _).mono ?_); rw [HI.out]; rintro e w2 ⟨rfl, rfl⟩) | (go_at_call 64; (with_reducible refine (in_any y_ _ _ _).mono ?_); rw [HIY.out]; rintro e w2 ⟨rfl, rfl⟩))
      rw [HEE.out.1, HEE.out.2]
      refine bodyPost_ret (v := .agg #[.slice none 0 0, .int .i64 1]) (by simp [results, Try.results45, go_sem, r0, r1]) rfl ?_
      exact linesP_nil ((HB.out.setCell (Nat.le_refl _) _).setCell (Nat.le_refl _) _)
  · have hix : indexN n l k = checkN n l := by unfold indexN; rw [if_neg h0]
    have hse : shiftE n l k y_ = checkN n l := by unfold shiftE; rw [if_neg (by rw [hix]; exact h0), hix]
    have eL : RL = [] := by rw [hRL, if_neg (fun e => h0 (by rw [← hse]; exact e.1))]
    have eC : RC = checkN n l := by rw [hRC, if_neg (by rw [hse]; exact h0), hse]
    rw [eL, eC]
    obtain ⟨c, hc⟩ : ∃ c, c = checkN n l := ⟨_, rfl⟩
    rw [← hc]
    have hne : (c != 0) = true := by rw [hc]; simpa using h0
    have HC := hid hc
    clear hc h0 hix hse eL eC hRL hRC
    go_enter Try.func45, Try.ntmps45
    go_wp2_with (go_at_call 32; (with_reducible refine (rcheck_any n l a cap _ (HL.out.below HB.out) (by omega)).mono ?_); rw [← HC.out]; rintro e w1 ⟨rfl, hb⟩; have HB := hid (HB.out.step hb); have HR := hid (keepBox hb HR.out); obtain ⟨r0, r1, z0, z1⟩ := box2 HR.out; clear hb)
    refine bodyPost_ret (v := .agg #[.slice none 0 0, .int .i64 c]) (by simp [results, Try.results45, go_sem, r0, r1]) rfl ?_
    exact linesP_nil ((HB.out.setCell (Nat.le_refl _) _).setCell (Nat.le_refl _) _)


theorem TurP.uni {c n : Int} {r : List AM} {w w' : World} {e : Ending} (h : TurP c n r w e w') : ∃ a cap, e = .returned (.tuple #[.slice a (if c = 0 ∧ rightsB n r = true then r else []).length cap, .int .i64 (if c = 0 then (if rightsB n r = true then 0 else 1) else c)]) ∧ Below w.heap.size w w' ∧ Rd w' a (if c = 0 ∧ rightsB n r = true then r else []) := by
  rcases h with ⟨hc, hb, ⟨hr, a, c2, rfl, hrd⟩ | ⟨hr, rfl⟩⟩ | ⟨hc, hb, rfl⟩
  · rw [if_pos ⟨hc, hr⟩, if_pos hc, if_pos hr]
    exact ⟨a, c2, rfl, hb, hrd⟩
  · rw [if_neg (fun e => by rw [hr] at e; cases e.2), if_pos hc, if_neg (by rw [hr]; decide)]
    exact ⟨none, 0, rfl, hb, fun i hi => absurd hi (Nat.not_lt_zero i)⟩
  · rw [if_neg (fun e => hc e.1), if_neg hc]
    exact ⟨none, 0, rfl, hb, fun i hi => absurd hi (Nat.not_lt_zero i)⟩
theorem turn_uni {n k : Int} {l : List AM} : (if indexN n l k = 0 ∧ rightsB n (l.map (turnA k)) = true then l.map (turnA k) else []) = (if indexN n l k = 0 then l.map (turnA k) else []) ∧ (if indexN n l k = 0 then (if rightsB n (l.map (turnA k)) = true then (0 : Int) else 1) else indexN n l k) = indexN n l k := by
  by_cases h : indexN n l k = 0
  · have hr := turn_rights (k := k) (indexN_in h).2.1
    rw [if_pos ⟨h, hr⟩, if_pos h, if_pos h, if_pos hr, h]
    exact ⟨rfl, rfl⟩
  · rw [if_neg (fun e => h e.1), if_neg h, if_neg h]
    exact ⟨rfl, rfl⟩
theorem len_shift {c n : Int} {l : List AM} {f : AM → AM} : (if c = 0 ∧ rightsB n (l.map f) = true then l.map f else []).length ≤ l.length := by
  split
  · rw [List.length_map]
    exact Nat.le_refl _
  · exact Nat.zero_le _
theorem len_turn {c : Int} {l : List AM} {f : AM → AM} : (if c = 0 then l.map f else []).length ≤ l.length := by
  split
  · rw [List.length_map]
    exact Nat.le_refl _
  · exact Nat.zero_le _

set_option maxRecDepth 100000 in
set_option maxHeartbeats 16000000 in
theorem chooses_any (n : Int) (l : List AM) (k y_ : Int) (a : Option Addr) (cap : Nat) (w : World) (hl : Rd w a l) (hlen : l.length ≤ 9223372036854775807) :
    Calls Try.prog 11 #[.int .i64 n, .slice a l.length cap, .int .i64 k, .int .i64 y_] w (RetB (.bool true) w) := by
  have HL := hid hl; clear hl
  have HB := hid (Below.refl w.heap.size w)
  by_cases hs : l.length ≤ 60
  · have ds : decide (l.length ≤ 60) = true := by simpa using hs
    obtain ⟨N1, hN1⟩ : ∃ q, q = neededL n l := ⟨_, rfl⟩
    obtain ⟨S1, hS1⟩ : ∃ q, q = coreL n l := ⟨_, rfl⟩
    obtain ⟨B1, hB1⟩ : ∃ q, q = coreB n l := ⟨_, rfl⟩
    obtain ⟨E1, hE1⟩ : ∃ q, q = checkN n l := ⟨_, rfl⟩
    obtain ⟨L1, hL1⟩ : ∃ q, q = (if shiftE n l k y_ = 0 ∧ rightsB n (l.map (shiftA k y_)) = true then l.map (shiftA k y_) else []) := ⟨_, rfl⟩
    obtain ⟨C1, hC1⟩ : ∃ q, q = (if shiftE n l k y_ = 0 then (if rightsB n (l.map (shiftA k y_)) = true then 0 else 1) else shiftE n l k y_) := ⟨_, rfl⟩
    obtain ⟨L2, hL2⟩ : ∃ q, q = (if indexN n l k = 0 then l.map (turnA k) else []) := ⟨_, rfl⟩
    obtain ⟨C2, hC2⟩ : ∃ q, q = indexN n l k := ⟨_, rfl⟩
    have n1 : N1.length ≤ 1000000 := by have := needed_short n l; rw [hN1]; omega
    have s1 : S1.length ≤ 1000000 := by have := core_short n l; rw [hS1]; omega
    have l1 : L1.length ≤ 1000000 := by
      have := len_shift (c := shiftE n l k y_) (n := n) (l := l) (f := shiftA k y_)
      rw [hL1]
      omega
    have l2 : L2.length ≤ 1000000 := by
      have := len_turn (c := indexN n l k) (l := l) (f := turnA k)
      rw [hL2]
      omega
    have hT := turn_uni (n := n) (k := k) (l := l)
    rw [← hL2, ← hC2] at hT
    have HN := hid (And.intro hN1 (And.intro hS1 (And.intro hB1 hE1)))
    have HM := hid (And.intro hL1 (And.intro hC1 (And.intro hL2 hC2)))
    have HT := hid hT
    clear hN1 hS1 hB1 hE1 hL1 hC1 hL2 hC2 hT
    go_enter Try.func11, Try.ntmps11
    go_upto_region 4 with (first
      | (go_at_call 16; (with_reducible refine (short_any l a cap _ hlen).mono ?_); rintro e w1 ⟨rfl, rfl⟩)
      | (go_at_call 26; (with_reducible refine (needed_any n l a cap _ (HL.out.below HB.out) (by omega)).mono ?_); rw [← HN.out.1, ← HN.out.2.2.2]; rintro e w1 ⟨hb, v, rfl, hown⟩; have HB := hid (HB.out.step hb); obtain ⟨a1, c1, rfl, hr⟩ := hown.rd; have R1 := hid hr; clear hb hown hr))
    go_upto_region 5 with (go_at_call 42; (with_reducible refine (rneeded_any n l a cap _ (HL.out.below HB.out) (by omega)).mono ?_); rw [← HN.out.1, ← HN.out.2.2.2]; rintro e w1 ⟨hb, v, rfl, a2, c2, rfl, hr⟩; have HB := hid (HB.out.step hb); have R1 := hid (R1.out.below hb); have R2 := hid hr; clear hr; clear hb)
    have X1 : Hid ((w1.alloc (.cells #[.slice a2 N1.length c2, .bool false, .int .i64 E1] 75)).heap[w1.heap.size]? = some (.cells #[.slice a2 N1.length c2, .bool false, .int .i64 E1] 75 (0, 0))) := hid (heapn _ _ _ rfl)
    have HB := hid (bmore HB.out (.cells #[.slice a2 N1.length c2, .bool false, .int .i64 E1] 75))
    have R1 := hid (R1.out.below (bnew w1 (.cells #[.slice a2 N1.length c2, .bool false, .int .i64 E1] 75)))
    have R2 := hid (R2.out.below (bnew w1 (.cells #[.slice a2 N1.length c2, .bool false, .int .i64 E1] 75)))
    generalize w1.alloc (.cells #[.slice a2 N1.length c2, .bool false, .int .i64 E1] 75) = VX1 at *
    generalize w1.heap.size = jX1 at *
    go_upto_region 6 with (go_at_call 28; (with_reducible refine (core_any n l a cap _ (HL.out.below HB.out) (by omega)).mono ?_); rw [← HN.out.2.1, ← HN.out.2.2.1, ← HN.out.2.2.2]; rintro e w1 ⟨hb, v, rfl, hown⟩; have HB := hid (HB.out.step hb); have R1 := hid (R1.out.below hb); have R2 := hid (R2.out.below hb); have X1 := hid (keepBox hb X1.out); obtain ⟨a3, c3, rfl, hr⟩ := hown.rd; have R3 := hid hr; clear hown hr; clear hb)
    go_upto_region 7 with (go_at_call 43; (with_reducible refine (rcore_any n l a cap _ (HL.out.below HB.out) (by omega)).mono ?_); rw [← HN.out.2.1, ← HN.out.2.2.1, ← HN.out.2.2.2]; rintro e w1 ⟨hb, v, rfl, a4, c4, rfl, hr⟩; have HB := hid (HB.out.step hb); have R1 := hid (R1.out.below hb); have R2 := hid (R2.out.below hb); have X1 := hid (keepBox hb X1.out); have R3 := hid (R3.out.below hb); have R4 := hid hr; clear hr; clear hb)
    have X2 : Hid ((w1.alloc (.cells #[.slice a4 S1.length c4, .bool B1, .int .i64 E1] 75)).heap[w1.heap.size]? = some (.cells #[.slice a4 S1.length c4, .bool B1, .int .i64 E1] 75 (0, 0))) := hid (heapn _ _ _ rfl)
    have HB := hid (bmore HB.out (.cells #[.slice a4 S1.length c4, .bool B1, .int .i64 E1] 75))
    have R1 := hid (R1.out.below (bnew w1 (.cells #[.slice a4 S1.length c4, .bool B1, .int .i64 E1] 75)))
    have R2 := hid (R2.out.below (bnew w1 (.cells #[.slice a4 S1.length c4, .bool B1, .int .i64 E1] 75)))
    have X1 := hid (keepBox (bnew w1 (.cells #[.slice a4 S1.length c4, .bool B1, .int .i64 E1] 75)) X1.out)
    have R3 := hid (R3.out.below (bnew w1 (.cells #[.slice a4 S1.length c4, .bool B1, .int .i64 E1] 75)))
    have R4 := hid (R4.out.below (bnew w1 (.cells #[.slice a4 S1.length c4, .bool B1, .int .i64 E1] 75)))
    generalize w1.alloc (.cells #[.slice a4 S1.length c4, .bool B1, .int .i64 E1] 75) = VX2 at *
    generalize w1.heap.size = jX2 at *
    go_upto_region 8 with (go_at_call 44; (with_reducible refine (shifted_any n l k y_ a cap _ (HL.out.below HB.out) (by omega)).mono ?_); rintro e w1 hp; obtain ⟨a5, c5_, he5, hb, hr⟩ := hp.uni; rw [← HM.out.1, ← HM.out.2.1] at he5; rw [← HM.out.1] at hr; subst he5; have HB := hid (HB.out.step hb); have R1 := hid (R1.out.below hb); have R2 := hid (R2.out.below hb); have X1 := hid (keepBox hb X1.out); have R3 := hid (R3.out.below hb); have R4 := hid (R4.out.below hb); have X2 := hid (keepBox hb X2.out); have R5 := hid hr; clear hp hr; clear hb)
    go_upto_region 9 with (go_at_call 45; (with_reducible refine (rshifted_any n l k y_ a cap _ (HL.out.below HB.out) (by omega)).mono ?_); rw [← HM.out.1, ← HM.out.2.1]; rintro e w1 ⟨hb, v, rfl, a6, c6, rfl, hr⟩; have HB := hid (HB.out.step hb); have R1 := hid (R1.out.below hb); have R2 := hid (R2.out.below hb); have X1 := hid (keepBox hb X1.out); have R3 := hid (R3.out.below hb); have R4 := hid (R4.out.below hb); have X2 := hid (keepBox hb X2.out); have R5 := hid (R5.out.below hb); have R6 := hid hr; clear hr; clear hb)
    have X3 : Hid ((w1.alloc (.cells #[.slice a6 L1.length c6, .int .i64 C1] 80)).heap[w1.heap.size]? = some (.cells #[.slice a6 L1.length c6, .int .i64 C1] 80 (0, 0))) := hid (heapn _ _ _ rfl)
    have HB := hid (bmore HB.out (.cells #[.slice a6 L1.length c6, .int .i64 C1] 80))
    have R1 := hid (R1.out.below (bnew w1 (.cells #[.slice a6 L1.length c6, .int .i64 C1] 80)))
    have R2 := hid (R2.out.below (bnew w1 (.cells #[.slice a6 L1.length c6, .int .i64 C1] 80)))
    have X1 := hid (keepBox (bnew w1 (.cells #[.slice a6 L1.length c6, .int .i64 C1] 80)) X1.out)
    have R3 := hid (R3.out.below (bnew w1 (.cells #[.slice a6 L1.length c6, .int .i64 C1] 80)))
    have R4 := hid (R4.out.below (bnew w1 (.cells #[.slice a6 L1.length c6, .int .i64 C1] 80)))
    have X2 := hid (keepBox (bnew w1 (.cells #[.slice a6 L1.length c6, .int .i64 C1] 80)) X2.out)
    have R5 := hid (R5.out.below (bnew w1 (.cells #[.slice a6 L1.length c6, .int .i64 C1] 80)))
    have R6 := hid (R6.out.below (bnew w1 (.cells #[.slice a6 L1.length c6, .int .i64 C1] 80)))
    generalize w1.alloc (.cells #[.slice a6 L1.length c6, .int .i64 C1] 80) = VX3 at *
    generalize w1.heap.size = jX3 at *
    go_upto_region 10 with (go_at_call 46; (with_reducible refine (turned_any n l k a cap _ (HL.out.below HB.out) (by omega)).mono ?_); rintro e w1 hp; obtain ⟨a7, c7, he7, hb, hr⟩ := hp.uni; rw [← HM.out.2.2.2, HT.out.1, HT.out.2] at he7; rw [← HM.out.2.2.2, HT.out.1] at hr; subst he7; have HB := hid (HB.out.step hb); have R1 := hid (R1.out.below hb); have R2 := hid (R2.out.below hb); have X1 := hid (keepBox hb X1.out); have R3 := hid (R3.out.below hb); have R4 := hid (R4.out.below hb); have X2 := hid (keepBox hb X2.out); have R5 := hid (R5.out.below hb); have R6 := hid (R6.out.below hb); have X3 := hid (keepBox hb X3.out); have R7 := hid hr; clear hp hr; clear hb)
    go_upto_region 11 with (go_at_call 47; (with_reducible refine (rturned_any n l k a cap _ (HL.out.below HB.out) (by omega)).mono ?_); rw [← HM.out.2.2.1, ← HM.out.2.2.2]; rintro e w1 ⟨hb, v, rfl, a8, c8, rfl, hr⟩; have HB := hid (HB.out.step hb); have R1 := hid (R1.out.below hb); have R2 := hid (R2.out.below hb); have X1 := hid (keepBox hb X1.out); have R3 := hid (R3.out.below hb); have R4 := hid (R4.out.below hb); have X2 := hid (keepBox hb X2.out); have R5 := hid (R5.out.below hb); have R6 := hid (R6.out.below hb); have X3 := hid (keepBox hb X3.out); have R7 := hid (R7.out.below hb); have R8 := hid hr; clear hr; clear hb)
    have X4 : Hid ((w1.alloc (.cells #[.slice a8 L2.length c8, .int .i64 C2] 80)).heap[w1.heap.size]? = some (.cells #[.slice a8 L2.length c8, .int .i64 C2] 80 (0, 0))) := hid (heapn _ _ _ rfl)
    have HB := hid (bmore HB.out (.cells #[.slice a8 L2.length c8, .int .i64 C2] 80))
    have R1 := hid (R1.out.below (bnew w1 (.cells #[.slice a8 L2.length c8, .int .i64 C2] 80)))
    have R2 := hid (R2.out.below (bnew w1 (.cells #[.slice a8 L2.length c8, .int .i64 C2] 80)))
    have X1 := hid (keepBox (bnew w1 (.cells #[.slice a8 L2.length c8, .int .i64 C2] 80)) X1.out)
    have R3 := hid (R3.out.below (bnew w1 (.cells #[.slice a8 L2.length c8, .int .i64 C2] 80)))
    have R4 := hid (R4.out.below (bnew w1 (.cells #[.slice a8 L2.length c8, .int .i64 C2] 80)))
    have X2 := hid (keepBox (bnew w1 (.cells #[.slice a8 L2.length c8, .int .i64 C2] 80)) X2.out)
    have R5 := hid (R5.out.below (bnew w1 (.cells #[.slice a8 L2.length c8, .int .i64 C2] 80)))
    have R6 := hid (R6.out.below (bnew w1 (.cells #[.slice a8 L2.length c8, .int .i64 C2] 80)))
    have X3 := hid (keepBox (bnew w1 (.cells #[.slice a8 L2.length c8, .int .i64 C2] 80)) X3.out)
    have R7 := hid (R7.out.below (bnew w1 (.cells #[.slice a8 L2.length c8, .int .i64 C2] 80)))
    have R8 := hid (R8.out.below (bnew w1 (.cells #[.slice a8 L2.length c8, .int .i64 C2] 80)))
    generalize w1.alloc (.cells #[.slice a8 L2.length c8, .int .i64 C2] 80) = VX4 at *
    generalize w1.heap.size = jX4 at *
    obtain ⟨x0, x1, x2, _, _, _⟩ := box3 X1.out
    obtain ⟨y0, y1, y2, _, _, _⟩ := box3 X2.out
    obtain ⟨z0, z1, _, _⟩ := box2 X3.out
    obtain ⟨u0, u1, _, _⟩ := box2 X4.out
    have e1 : (E1 == E1) = true := by simp
    have e2 : (B1 == B1) = true := by simp
    have e3 : (C1 == C1) = true := by simp
    have e4 : (C2 == C2) = true := by simp
    go_wp2_with (first
      | (go_at_call 48; (with_reducible refine (same_ints N1 N1 a1 a2 c1 c2 _ R1.out R2.out n1 n1).mono ?_); rw [show decide (N1 = N1) = true from decide_eq_true rfl]; rintro e w1 ⟨rfl, hb⟩; have HB := hid (HB.out.step hb); have R1 := hid (R1.out.below hb); have R2 := hid (R2.out.below hb); have X1 := hid (keepBox hb X1.out); have R3 := hid (R3.out.below hb); have R4 := hid (R4.out.below hb); have X2 := hid (keepBox hb X2.out); have R5 := hid (R5.out.below hb); have R6 := hid (R6.out.below hb); have X3 := hid (keepBox hb X3.out); have R7 := hid (R7.out.below hb); have R8 := hid (R8.out.below hb); have X4 := hid (keepBox hb X4.out); clear x0 x1 x2 y0 y1 y2 z0 z1 u0 u1; obtain ⟨x0, x1, x2, _, _, _⟩ := box3 X1.out; obtain ⟨y0, y1, y2, _, _, _⟩ := box3 X2.out; obtain ⟨z0, z1, _, _⟩ := box2 X3.out; obtain ⟨u0, u1, _, _⟩ := box2 X4.out; clear hb)
      | (go_at_call 48; (with_reducible refine (same_ints S1 S1 a3 a4 c3 c4 _ R3.out R4.out s1 s1).mono ?_); rw [show decide (S1 = S1) = true from decide_eq_true rfl]; rintro e w1 ⟨rfl, hb⟩; have HB := hid (HB.out.step hb); have R1 := hid (R1.out.below hb); have R2 := hid (R2.out.below hb); have X1 := hid (keepBox hb X1.out); have R3 := hid (R3.out.below hb); have R4 := hid (R4.out.below hb); have X2 := hid (keepBox hb X2.out); have R5 := hid (R5.out.below hb); have R6 := hid (R6.out.below hb); have X3 := hid (keepBox hb X3.out); have R7 := hid (R7.out.below hb); have R8 := hid (R8.out.below hb); have X4 := hid (keepBox hb X4.out); clear x0 x1 x2 y0 y1 y2 z0 z1 u0 u1; obtain ⟨x0, x1, x2, _, _, _⟩ := box3 X1.out; obtain ⟨y0, y1, y2, _, _, _⟩ := box3 X2.out; obtain ⟨z0, z1, _, _⟩ := box2 X3.out; obtain ⟨u0, u1, _, _⟩ := box2 X4.out; clear hb)
      | (go_at_call 17; (refine (sanity_any _).mono ?_); rintro e w1 ⟨rfl, hb⟩; have HB := hid (HB.out.step hb); have R1 := hid (R1.out.below hb); have R2 := hid (R2.out.below hb); have X1 := hid (keepBox hb X1.out); have R3 := hid (R3.out.below hb); have R4 := hid (R4.out.below hb); have X2 := hid (keepBox hb X2.out); have R5 := hid (R5.out.below hb); have R6 := hid (R6.out.below hb); have X3 := hid (keepBox hb X3.out); have R7 := hid (R7.out.below hb); have R8 := hid (R8.out.below hb); have X4 := hid (keepBox hb X4.out); clear x0 x1 x2 y0 y1 y2 z0 z1 u0 u1; obtain ⟨x0, x1, x2, _, _, _⟩ := box3 X1.out; obtain ⟨y0, y1, y2, _, _, _⟩ := box3 X2.out; obtain ⟨z0, z1, _, _⟩ := box2 X3.out; obtain ⟨u0, u1, _, _⟩ := box2 X4.out; clear hb)
      | (go_at_call 49; (with_reducible refine (same_lines L1 L1 a5 a6 c5_ c6 _ R5.out R6.out l1 l1).mono ?_); rw [show decide (L1 = L1) = true from decide_eq_true rfl]; rintro e w1 ⟨rfl, hb⟩; have HB := hid (HB.out.step hb); have R1 := hid (R1.out.below hb); have R2 := hid (R2.out.below hb); have X1 := hid (keepBox hb X1.out); have R3 := hid (R3.out.below hb); have R4 := hid (R4.out.below hb); have X2 := hid (keepBox hb X2.out); have R5 := hid (R5.out.below hb); have R6 := hid (R6.out.below hb); have X3 := hid (keepBox hb X3.out); have R7 := hid (R7.out.below hb); have R8 := hid (R8.out.below hb); have X4 := hid (keepBox hb X4.out); clear x0 x1 x2 y0 y1 y2 z0 z1 u0 u1; obtain ⟨x0, x1, x2, _, _, _⟩ := box3 X1.out; obtain ⟨y0, y1, y2, _, _, _⟩ := box3 X2.out; obtain ⟨z0, z1, _, _⟩ := box2 X3.out; obtain ⟨u0, u1, _, _⟩ := box2 X4.out; clear hb)
      | (go_at_call 49; (with_reducible refine (same_lines L2 L2 a7 a8 c7 c8 _ R7.out R8.out l2 l2).mono ?_); rw [show decide (L2 = L2) = true from decide_eq_true rfl]; rintro e w1 ⟨rfl, hb⟩; have HB := hid (HB.out.step hb); have R1 := hid (R1.out.below hb); have R2 := hid (R2.out.below hb); have X1 := hid (keepBox hb X1.out); have R3 := hid (R3.out.below hb); have R4 := hid (R4.out.below hb); have X2 := hid (keepBox hb X2.out); have R5 := hid (R5.out.below hb); have R6 := hid (R6.out.below hb); have X3 := hid (keepBox hb X3.out); have R7 := hid (R7.out.below hb); have R8 := hid (R8.out.below hb); have X4 := hid (keepBox hb X4.out); clear x0 x1 x2 y0 y1 y2 z0 z1 u0 u1; obtain ⟨x0, x1, x2, _, _, _⟩ := box3 X1.out; obtain ⟨y0, y1, y2, _, _, _⟩ := box3 X2.out; obtain ⟨z0, z1, _, _⟩ := box2 X3.out; obtain ⟨u0, u1, _, _⟩ := box2 X4.out; clear hb))
    go_ret
    exact ⟨rfl, HB.out⟩
  · have ds : decide (l.length ≤ 60) = false := by simpa using hs
    go_enter Try.func11, Try.ntmps11
    go_wp2_with (first
      | (go_at_call 16; (with_reducible refine (short_any l a cap _ hlen).mono ?_); rintro e w1 ⟨rfl, rfl⟩)
      | (go_at_call 17; (refine (sanity_any _).mono ?_); rintro e w1 ⟨rfl, hb⟩; have HB := hid (HB.out.step hb); clear hb))
    go_ret
    exact ⟨rfl, HB.out⟩

open Go.ChangeShapes Go.WideShapes Go.ChangeAt Go.RowKit

set_option maxRecDepth 100000 in
set_option maxHeartbeats 1000000 in
theorem chooses_lifted (os : Os) (started : os.Started) (H : Type) (enc : TypeId × Value → H) :
    ReturnsInHanded {} Try.checked os 11 .any (Rows.proveChoosesSpec.pre6 enc Try.prog Try.f11 Rows.proveChoosesRow.domain false) (Rows.proveChoosesSpec.post enc Try.prog Try.f11 false true false false) := by
  refine returnsInHanded_of_change (C := Try.checked) Try.own started (by kernel_rfl) Try.func11
    (ChangeSpec.witness6 (enc := enc) (C := Try.checked) false ⟨#[], #[.int .i64 0, .slice none 0 0, .int .i64 0, .int .i64 0], []⟩ 8 (by kernel_rfl) (by kernel_rfl) (by kernel_rfl) (by kernel_rfl)) ?_
  intro W base args ds gs before hval0 hW hcnd _
  have hval : ∀ (j : Nat) t v, Try.f11.params[j]? = some t → args[j]? = some v → Value.okWide Try.prog W .any base t v := hval0
  have hW' := hW
  obtain ⟨p, q, hA0, hV, rfl, _, _⟩ := hW
  have hA : DataW.TrodAll enc Try.prog W 0 (fun _ => true) true Try.f11.params.toList args.toList ds p := hA0
  rw [Try.params11] at hA hval
  obtain ⟨args⟩ := args
  obtain ⟨v0, vs0, d0, ds0, p0, q0, rfl, rfl, rfl, h0, r0⟩ := trodAll_cons hA
  obtain ⟨v1, vs1, d1, ds1, p1, q1, rfl, rfl, rfl, h1, r1⟩ := trodAll_cons r0
  obtain ⟨v2, vs2, d2, ds2, p2, q2, rfl, rfl, rfl, h2, r2⟩ := trodAll_cons r1
  obtain ⟨v3, vs3, d3, ds3, p3, q3, rfl, rfl, rfl, h3, r3⟩ := trodAll_cons r2
  obtain ⟨rfl, rfl, rfl⟩ := trodAll_nil r3
  obtain ⟨rfl, rfl⟩ := trodVars_none hV
  obtain ⟨n, rfl, rfl, rfl, w0⟩ := open_int Try.underlying3 (hval 0 3 v0 rfl rfl) h0
  obtain ⟨l, sl1, c1, rfl, hr1, hl1⟩ := open_lines (hval 1 22 v1 rfl rfl) h1
  obtain ⟨k, rfl, rfl, rfl, w2⟩ := open_int Try.underlying3 (hval 2 3 v2 rfl rfl) h2
  obtain ⟨d, rfl, rfl, rfl, w3⟩ := open_int Try.underlying3 (hval 3 3 v3 rfl rfl) h3
  have hlt : ∀ x ∈ [] ++ (p1 ++ ([] ++ ([] ++ []))), x.block < W.heap.size := fun x hx => hW'.lt x (by simpa using hx)
  refine (chooses_any n l k d sl1 c1 W hr1 hl1).mono fun e W' ⟨he, hb⟩ => ?_
  subst he
  refine ⟨_, rfl, _, _, _, [], [] ++ (p1 ++ ([] ++ ([] ++ []))), [], hW', trodAll_mk1 (shut_bool Try.underlying4 true), ?_, rfl, hb.frame _, fun h => by cases h⟩
  exact (trodAll_cons_mk (stays read3 row3 h0 hb (fun x hx => by cases hx)) (trodAll_cons_mk (stays read22 row22 h1 hb (fun x hx => hlt x (by simp [hx]))) (trodAll_cons_mk (stays read3 row3 h2 hb (fun x hx => by cases hx)) (trodAll_cons_mk (stays read3 row3 h3 hb (fun x hx => by cases hx)) trodAll_mk0))))

theorem chooses_holds : Rows.ProveChoosesSaid :=
  OpenClaim.holds_of_wide 11 Try.f11 rfl rfl rfl rfl rfl rfl rfl ⟨rfl, rfl, rfl, rfl, rfl⟩ rfl rfl rfl rfl rfl (by kernel_rfl) Try.func11 (by kernel_rfl)
    (of_decide_eq_true (by kernel_rfl)) (by unfold Func.isWrapper; first | (rw [if_pos (by decide +kernel)]; kernel_rfl) | (rw [if_neg (by decide +kernel)]; exact ⟨rfl, rfl⟩))
    (fun os started H enc _ => chooses_lifted os started H enc)
#print axioms chooses_holds
end Go.Proofs.Ytnjbahiaelehkaa
