/- The walk of TableLooks. -/
import Derived.Test.YtliajnflmddnoaaQ10
import Derived.Test.YtliajnflmddnoaaG24
namespace Go.Proofs.Ytliajnflmddnoaa
open Go.RowKit

theorem light_fit {L : Ld} (h : lightB L = true) : Fit L ∧ L.starts.length ≤ 70 ∧ L.cells.length ≤ 600 ∧ L.cols ≤ 60 := by
  unfold lightB at h
  simp only [Bool.and_eq_true, decide_eq_true_eq] at h
  exact ⟨⟨by omega, by omega⟩, h.1.1, h.1.2, h.2⟩
theorem backV_sizes {L : Ld} (h : lightB L = true) : (backV L).length ≤ 1000000 ∧ ∀ r, r ∈ backV L → r.length ≤ 1000000 := by
  obtain ⟨_, h1, _, h3⟩ := light_fit h
  unfold backV
  split
  · unfold backM
    rw [List.length_map, List.length_range]
    refine ⟨by omega, fun r hr => ?_⟩
    obtain ⟨i, _, rfl⟩ := List.mem_map.1 hr
    rw [List.length_map, List.length_range]
    omega
  · exact ⟨by simp, fun r hr => by simp at hr⟩

set_option maxRecDepth 100000 in
set_option maxHeartbeats 8000000 in
theorem looks_ok (L : Ld) (sa : Option Addr) (sc : Nat) (ca : Option Addr) (cc : Nat) (r c : Int) (w : World) (hm : LdM w L sa sc ca cc) (hs : lightB L = true) :
    Calls Try.prog 9 #[vL L sa sc ca cc, .int .i64 r, .int .i64 c] w (RetB (.bool true) w) := by
  have HLD := hid hm; clear hm
  obtain ⟨hf, h1, h2, h3⟩ := light_fit hs
  obtain ⟨q1, q2⟩ := backV_sizes hs
  have HLT := hid (fun (w : World) => (by have := light_any L sa sc ca cc w (by omega) (by omega); rw [hs] at this; exact this : Calls Try.prog 23 #[vL L sa sc ca cc] w (RetB (.bool true) w)))
  have HLK := hid (fun (w : World) (h : LdM w L sa sc ca cc) => Look_any L hf r c sa sc ca cc w h)
  have HRL := hid (fun (w : World) (h : LdM w L sa sc ca cc) => rLook_any L hf r c sa sc ca cc w h)
  have HBK := hid (fun (w : World) (h : LdM w L sa sc ca cc) => Back_any L hf sa sc ca cc w h)
  have HRB := hid (fun (w : World) (h : LdM w L sa sc ca cc) => rBack_any L hf sa sc ca cc w h)
  have HSP := hid (fun (w : World) (h : LdM w L sa sc ca cc) => Spare_any L hf sa sc ca cc w h)
  have HRS := hid (fun (w : World) (h : LdM w L sa sc ca cc) => rSpare_any L hf sa sc ca cc w h)
  have HCK := hid (fun (w : World) (h : LdM w L sa sc ca cc) => checkL_any L hf sa sc ca cc w h)
  have HRC := hid (fun (w : World) (h : LdM w L sa sc ca cc) => rcheckL_any L hf sa sc ca cc w h)
  have HSX := hid (fun (x y : Option Addr) (cx cy : Nat) (w : World) (h1 : RdM w x (backV L)) (h2 : RdM w y (backV L)) => (by
    have := same_matrix (backV L) (backV L) x y cx cy w h1 h2 q1 q1 q2 q2
    rw [decide_eq_true rfl] at this
    exact this : Calls Try.prog 38 #[.slice x (backV L).length cx, .slice y (backV L).length cy] w (RetB (.bool true) w)))
  generalize lookV L r c = lv at *
  generalize lookE L r c = le at *
  generalize spareV L = sv at *
  generalize chkL L = ck at *
  have HB := hid (bnew w (.cells #[.int .i64 L.cols, .slice sa L.starts.length sc, .slice ca L.cells.length cc] 44))
  have HX := hid (heapn w (.cells #[.int .i64 L.cols, .slice sa L.starts.length sc, .slice ca L.cells.length cc] 44) _ rfl)
  obtain ⟨k0, k1, k2, _, _, _⟩ := box3 HX.out
  obtain ⟨g3, hg3⟩ : ∃ g, g = w.heap.size := ⟨_, rfl⟩
  clear hs hf h1 h2 h3 q1 q2
  go_enter Try.func9, Try.ntmps9
  go_wp2_with fail
  generalize w.alloc (.cells #[.int .i64 L.cols, .slice sa L.starts.length sc, .slice ca L.cells.length cc] 44) = w1 at *
  rw [← hg3] at k0 k1 k2 HX
  rw [← hg3]
  clear hg3
  go_upto_region 9 with (first
    | (go_at_call 23; (with_reducible refine (HLT.out _).mono ?_); rintro e w2 ⟨rfl, hb⟩; have HB := hid (HB.out.step hb); have HLD := hid (HLD.out.below HB.out); have HX := hid (keepBox hb HX.out); obtain ⟨k0, k1, k2, _, _, _⟩ := box3 HX.out; clear hb)
    | (go_at_call 31; (with_reducible refine (HLK.out _ HLD.out).mono ?_); rintro e w3 ⟨rfl, hb⟩; have HB := hid (HB.out.step hb); have HX := hid (keepBox hb HX.out); have HLD := hid (HLD.out.below hb); obtain ⟨k0, k1, k2, _, _, _⟩ := box3 HX.out; clear hb)
    | (go_at_call 33; (with_reducible refine (HRL.out _ HLD.out).mono ?_); rintro e w4 ⟨rfl, hb⟩; have HB := hid (HB.out.step hb); have HX := hid (keepBox hb HX.out); have HLD := hid (HLD.out.below hb); obtain ⟨k0, k1, k2, _, _, _⟩ := box3 HX.out; have ka0 : ∀ o, (w4.alloc o).cell? ⟨g3, 0, none⟩ = some (.int .i64 L.cols) := fun o => cell_later (bnew _ _) k0; have ka1 : ∀ o, (w4.alloc o).cell? ⟨g3, 1, none⟩ = some (.slice sa L.starts.length sc) := fun o => cell_later (bnew _ _) k1; have ka2 : ∀ o, (w4.alloc o).cell? ⟨g3, 2, none⟩ = some (.slice ca L.cells.length cc) := fun o => cell_later (bnew _ _) k2; have H1 := hid (heapn w4 (.cells #[.int .i64 lv, .int .i64 le] 38) _ rfl); clear hb)
    | (go_at_call 34; (with_reducible refine (HBK.out _ (HLD.out.below (bnew _ _))).mono ?_); rintro e w5 ⟨hb, aB, cB, rfl, hrb⟩; have H1 := hid (keepBox hb H1.out); clear ka0 ka1 ka2; have HB := hid (HB.out.step ((bnew _ _).step hb)); have HX := hid (keepBox ((bnew _ _).step hb) HX.out); have HLD := hid (HLD.out.below ((bnew _ _).step hb)); obtain ⟨k0, k1, k2, _, _, _⟩ := box3 HX.out; have HM1 := hid hrb; clear hb hrb)
    | (go_at_call 35; (with_reducible refine (HRB.out _ HLD.out).mono ?_); rintro e w6 ⟨hb, aR, cR, rfl, hrb⟩; have HB := hid (HB.out.step hb); have HX := hid (keepBox hb HX.out); have HLD := hid (HLD.out.below hb); have H1 := hid (keepBox hb H1.out); have HM1 := hid (HM1.out.below hb); obtain ⟨k0, k1, k2, _, _, _⟩ := box3 HX.out; have ka0 : ∀ o, (w6.alloc o).cell? ⟨g3, 0, none⟩ = some (.int .i64 L.cols) := fun o => cell_later (bnew _ _) k0; have ka1 : ∀ o, (w6.alloc o).cell? ⟨g3, 1, none⟩ = some (.slice sa L.starts.length sc) := fun o => cell_later (bnew _ _) k1; have ka2 : ∀ o, (w6.alloc o).cell? ⟨g3, 2, none⟩ = some (.slice ca L.cells.length cc) := fun o => cell_later (bnew _ _) k2; have HM2 := hid hrb; have H2 := hid (heapn w6 (.cells #[.slice aR (backV L).length cR, .int .i64 ck] 68) _ rfl); clear hb hrb)
    | (go_at_call 29; (with_reducible refine (HSP.out _ (HLD.out.below (bnew _ _))).mono ?_); rintro e w7 ⟨rfl, hb⟩; have H2 := hid (keepBox hb H2.out); clear ka0 ka1 ka2; have HB := hid (HB.out.step ((bnew _ _).step hb)); have HX := hid (keepBox ((bnew _ _).step hb) HX.out); have HLD := hid (HLD.out.below ((bnew _ _).step hb)); have H1 := hid (keepBox ((bnew _ _).step hb) H1.out); have HM1 := hid (HM1.out.below ((bnew _ _).step hb)); have HM2 := hid (HM2.out.below ((bnew _ _).step hb)); obtain ⟨k0, k1, k2, _, _, _⟩ := box3 HX.out; clear hb)
    | (go_at_call 36; (with_reducible refine (HRS.out _ HLD.out).mono ?_); rintro e w8 ⟨rfl, hb⟩; have HB := hid (HB.out.step hb); have HX := hid (keepBox hb HX.out); have HLD := hid (HLD.out.below hb); have H1 := hid (keepBox hb H1.out); have HM1 := hid (HM1.out.below hb); have HM2 := hid (HM2.out.below hb); have H2 := hid (keepBox hb H2.out); obtain ⟨k0, k1, k2, _, _, _⟩ := box3 HX.out; have ka0 : ∀ o, (w8.alloc o).cell? ⟨g3, 0, none⟩ = some (.int .i64 L.cols) := fun o => cell_later (bnew _ _) k0; have ka1 : ∀ o, (w8.alloc o).cell? ⟨g3, 1, none⟩ = some (.slice sa L.starts.length sc) := fun o => cell_later (bnew _ _) k1; have ka2 : ∀ o, (w8.alloc o).cell? ⟨g3, 2, none⟩ = some (.slice ca L.cells.length cc) := fun o => cell_later (bnew _ _) k2; have H3 := hid (heapn w8 (.cells #[.int .i64 sv, .int .i64 ck] 38) _ rfl); clear hb))
  have HW := hid (HB.out.step (bnew w8 (.cells #[.int .i64 sv, .int .i64 ck] 38)))
  have HX := hid (keepBox (bnew w8 (.cells #[.int .i64 sv, .int .i64 ck] 38)) HX.out)
  have H1 := hid (keepBox (bnew w8 (.cells #[.int .i64 sv, .int .i64 ck] 38)) H1.out)
  have H2 := hid (keepBox (bnew w8 (.cells #[.int .i64 sv, .int .i64 ck] 38)) H2.out)
  have HM1 := hid (HM1.out.below (bnew w8 (.cells #[.int .i64 sv, .int .i64 ck] 38)))
  have HM2 := hid (HM2.out.below (bnew w8 (.cells #[.int .i64 sv, .int .i64 ck] 38)))
  have HLD := hid (HLD.out.below (bnew w8 (.cells #[.int .i64 sv, .int .i64 ck] 38)))
  clear ka0 ka1 ka2 k0 k1 k2
  generalize w8.alloc (.cells #[.int .i64 sv, .int .i64 ck] 38) = W at *
  obtain ⟨s0, s1, s2, _, _, _⟩ := box3 HX.out
  obtain ⟨s3, s4, _, _⟩ := box2 H1.out
  obtain ⟨s5, s6, _, _⟩ := box2 H2.out
  obtain ⟨s7, s8, _, _⟩ := box2 H3.out
  have K : Hid (∀ w', Below W.heap.size W w' → (w'.cell? ⟨g3, 0, none⟩ = some (.int .i64 L.cols) ∧ w'.cell? ⟨g3, 1, none⟩ = some (.slice sa L.starts.length sc) ∧ w'.cell? ⟨g3, 2, none⟩ = some (.slice ca L.cells.length cc) ∧ w'.cell? ⟨w4.heap.size, 0, none⟩ = some (.int .i64 lv) ∧ w'.cell? ⟨w4.heap.size, 1, none⟩ = some (.int .i64 le) ∧ w'.cell? ⟨w6.heap.size, 0, none⟩ = some (.slice aR (backV L).length cR) ∧ w'.cell? ⟨w6.heap.size, 1, none⟩ = some (.int .i64 ck) ∧ w'.cell? ⟨w8.heap.size, 0, none⟩ = some (.int .i64 sv) ∧ w'.cell? ⟨w8.heap.size, 1, none⟩ = some (.int .i64 ck))) := hid fun w' h => ⟨cell_later h s0, cell_later h s1, cell_later h s2, cell_later h s3, cell_later h s4, cell_later h s5, cell_later h s6, cell_later h s7, cell_later h s8⟩
  clear s0 s1 s2 s3 s4 s5 s6 s7 s8
  have hb := bdrew W
  go_region_held3 (fun w' => w'.cell? ⟨g3, 0, none⟩ = some (.int .i64 L.cols) ∧ w'.cell? ⟨g3, 1, none⟩ = some (.slice sa L.starts.length sc) ∧ w'.cell? ⟨g3, 2, none⟩ = some (.slice ca L.cells.length cc) ∧ w'.cell? ⟨w4.heap.size, 0, none⟩ = some (.int .i64 lv) ∧ w'.cell? ⟨w4.heap.size, 1, none⟩ = some (.int .i64 le) ∧ w'.cell? ⟨w6.heap.size, 0, none⟩ = some (.slice aR (backV L).length cR) ∧ w'.cell? ⟨w6.heap.size, 1, none⟩ = some (.int .i64 ck) ∧ w'.cell? ⟨w8.heap.size, 0, none⟩ = some (.int .i64 sv) ∧ w'.cell? ⟨w8.heap.size, 1, none⟩ = some (.int .i64 ck)) (first | exact K.out _ hb | exact K.out _ (Below.refl _ _))
    ((first
      | (go_at_call 14; (with_reducible refine (sanity_any _).mono ?_); rintro e wa ⟨rfl, hbb⟩; have hb := hb.step hbb; clear hbb)
      | (go_at_call 30; (with_reducible refine (HCK.out _ (HLD.out.below hb)).mono ?_); rintro e wa2 ⟨rfl, hbb⟩; have hb := hb.step hbb; clear hbb)
      | (go_at_call 37; (with_reducible refine (HRC.out _ (HLD.out.below hb)).mono ?_); rintro e wa3 ⟨rfl, hbb⟩; have hb := hb.step hbb; clear hbb)
      | (go_at_call 38; (with_reducible refine (HSX.out aB aR cB cR _ (HM1.out.below hb) (HM2.out.below hb)).mono ?_); rintro e wa4 ⟨rfl, hbb⟩; have hb := hb.step hbb; clear hbb)))
  have HZ := hid hb
  clear hb
  go_wp2
  go_ret
  exact ⟨rfl, HW.out.step HZ.out⟩

set_option maxRecDepth 100000 in
set_option maxHeartbeats 2000000 in
theorem looks_any (L : Ld) (sa : Option Addr) (sc : Nat) (ca : Option Addr) (cc : Nat) (r c : Int) (w : World) (hm : LdM w L sa sc ca cc) (hl1 : L.starts.length ≤ 9223372036854775807) (hl2 : L.cells.length ≤ 9223372036854775807) :
    Calls Try.prog 9 #[vL L sa sc ca cc, .int .i64 r, .int .i64 c] w (RetB (.bool true) w) := by
  cases hs : lightB L with
  | true => exact looks_ok L sa sc ca cc r c w hm hs
  | false =>
    have HLT := hid (fun (w : World) => (by have := light_any L sa sc ca cc w hl1 hl2; rw [hs] at this; exact this : Calls Try.prog 23 #[vL L sa sc ca cc] w (RetB (.bool false) w)))
    have HB := hid (bnew w (.cells #[.int .i64 L.cols, .slice sa L.starts.length sc, .slice ca L.cells.length cc] 44))
    obtain ⟨k0, k1, k2, _, _, _⟩ := box3 (heapn w (.cells #[.int .i64 L.cols, .slice sa L.starts.length sc, .slice ca L.cells.length cc] 44) _ rfl)
    clear hs hm
    go_enter Try.func9, Try.ntmps9
    go_wp2_with (first
      | (go_at_call 23; (with_reducible refine (HLT.out _).mono ?_); rintro e w2 ⟨rfl, hb⟩; have HB := hid (HB.out.step hb); clear hb)
      | (go_at_call 14; (with_reducible refine (sanity_any _).mono ?_); rintro e w3 ⟨rfl, hb⟩; have HB := hid (HB.out.step hb); clear hb))
    go_ret
    exact ⟨rfl, HB.out⟩
end Go.Proofs.Ytliajnflmddnoaa
