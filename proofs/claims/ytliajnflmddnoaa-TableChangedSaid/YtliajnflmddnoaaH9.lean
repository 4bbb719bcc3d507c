/- The walk of TableChanged. -/
import Derived.Test.YtliajnflmddnoaaG24
import Derived.Test.YtliajnflmddnoaaP7
import Derived.Lib.QuietBelow
namespace Go.Proofs.Ytliajnflmddnoaa
open Go.RowKit

theorem lightN {L : Ld} (h : lightB L = true) : Fit L ∧ L.starts.length ≤ 70 ∧ L.cells.length ≤ 600 ∧ L.cols ≤ 60 := by
  unfold lightB at h
  simp only [Bool.and_eq_true, decide_eq_true_eq] at h
  exact ⟨⟨by omega, by omega⟩, h.1.1, h.1.2, h.2⟩
theorem insF {L : Ld} {row : List Int} (h1 : L.starts.length ≤ 900) (h2 : L.cells.length ≤ 40000) (h3 : row.length ≤ 1000) : Fit (insV L row) := by
  unfold insV
  split
  · refine ⟨?_, ?_⟩
    · show (L.starts ++ [_]).length ≤ _
      rw [List.length_append]
      simp
      omega
    · show (putL L.cells row (L.starts.length : Nat)).length ≤ _
      rw [putL_length]
      have := (start_spec L.cells row).1
      omega
  · exact ⟨Nat.zero_le _, Nat.zero_le _⟩
theorem takF {L : Ld} {r : Int} (h : Fit L) : Fit (takV L r) := by
  unfold takV
  split
  · refine ⟨?_, ?_⟩
    · show (L.starts.set _ _).length ≤ _
      rw [List.length_set]
      exact h.s
    · show (L.cells.map _).length ≤ _
      rw [List.length_map]
      exact h.c
  · exact ⟨Nat.zero_le _, Nat.zero_le _⟩
/-- What Insert, Take and Insert leave, all that the walk asks. -/
def AgainP (L : Ld) (row : List Int) (q p : Int) (B J : Ld) : Prop := B.starts.length = L.starts.length + 1 ∧ (q = 3 ∧ B.starts.length = 60 ∨ q = 0 ∧ p = (L.starts.length : Int) + 1 ∧ J.starts.length = L.starts.length + 2 ∧ J.starts.getD (L.starts.length + 1) (-1) = (startN L.cells row : Nat))
theorem again_p {L : Ld} {row : List Int} (hE : insE L row = 0) : AgainP L row (insE (takV (insV L row) (L.starts.length : Nat)) row) (insAt (takV (insV L row) (L.starts.length : Nat)) row) (takV (insV L row) (L.starts.length : Nat)) (insV (takV (insV L row) (L.starts.length : Nat)) row) := by
  rw [(insV_of hE).1]
  exact ins_again hE

set_option maxRecDepth 100000 in
set_option maxHeartbeats 8000000 in
theorem changed_ok (L : Ld) (sa : Option Addr) (sc : Nat) (ca : Option Addr) (cc : Nat) (row : List Int) (ar : Option Addr) (cr : Nat) (at' i' k' : Nat) (w : World) (hm : LdM w L sa sc ca cc) (hr : RdI w ar row) (hs : lightB L = true) (hE : chkL L = 0) (h60 : row.length ≤ 60) (hn0 : 0 < L.starts.length) (hc0 : L.cols ≠ 0) (ha : at' ≤ 255) (hi : i' ≤ 255) (hk : k' ≤ 255) :
    Calls Try.prog 7 #[vL L sa sc ca cc, .slice ar row.length cr, .int .u8 at', .int .u8 i', .int .u8 k'] w (RetB (.bool true) w) := by
  have HLD := hid hm; clear hm
  have HR := hid hr; clear hr
  obtain ⟨hf, h1, h2, h3⟩ := lightN hs
  have hR := chkL_ok hE
  have hlc : 0 < L.cols := by have := hR.col0; omega
  have hn1 : (0 : Int) < (L.starts.length : Int) := by omega
  have HLT := hid (fun (w : World) => (by have := light_any L sa sc ca cc w (by omega) (by omega); rw [hs] at this; exact this : Calls Try.prog 23 #[vL L sa sc ca cc] w (RetB (.bool true) w)))
  have HCK := hid (fun (w : World) (h : LdM w L sa sc ca cc) => (by have := checkL_any L hf sa sc ca cc w h; rw [hE] at this; exact this : Calls Try.prog 30 #[vL L sa sc ca cc] w (RetB (.int .i64 0) w)))
  obtain ⟨a, hae⟩ : ∃ a : Nat, (a : Int) = (at' : Int) % (L.starts.length : Int) := ⟨at' % L.starts.length, by rw [Int.natCast_emod]⟩
  obtain ⟨r, hre⟩ : ∃ a : Nat, (a : Int) = (i' : Int) % (L.starts.length : Int) := ⟨i' % L.starts.length, by rw [Int.natCast_emod]⟩
  obtain ⟨c, hce⟩ : ∃ a : Nat, (a : Int) = (k' : Int) % L.cols := ⟨((k' : Int) % L.cols).toNat, Int.toNat_of_nonneg (Int.emod_nonneg _ hc0)⟩
  have hal : a < L.starts.length := by have := Int.emod_lt_of_pos (at' : Int) hn1; omega
  have hrl : r < L.starts.length := by have := Int.emod_lt_of_pos (i' : Int) hn1; omega
  have hcl : (c : Int) < L.cols := by have := Int.emod_lt_of_pos (k' : Int) hlc; omega
  have fT : Fit (takV L (a : Int)) := takF hf
  have fI : Fit (insV L row) := insF (by omega) (by omega) (by omega)
  have fB : Fit (takV (insV L row) (L.starts.length : Nat)) := takF fI
  have HL1 := hid (fun (w : World) (h : LdM w L sa sc ca cc) => Look_any L hf r c sa sc ca cc w h)
  have HT1 := hid (fun (w : World) (h : LdM w L sa sc ca cc) => Take_any L hf a sa sc ca cc w h)
  have HL2 := hid (fun (w : World) (sa : Option Addr) (sc : Nat) (ca : Option Addr) (cc : Nat) (h : LdM w (takV L a) sa sc ca cc) => Look_any (takV L a) fT r c sa sc ca cc w h)
  have HI1 := hid (fun (w : World) (h : LdM w L sa sc ca cc) (h' : RdI w ar row) => Insert_any L hf row ar cr sa sc ca cc w h h' (by omega))
  have HL3 := hid (fun (w : World) (sa : Option Addr) (sc : Nat) (ca : Option Addr) (cc : Nat) (h : LdM w (insV L row) sa sc ca cc) => Look_any (insV L row) fI r c sa sc ca cc w h)
  have HL4 := hid (fun (w : World) (sa : Option Addr) (sc : Nat) (ca : Option Addr) (cc : Nat) (h : LdM w (insV L row) sa sc ca cc) => Look_any (insV L row) fI (L.starts.length : Nat) c sa sc ca cc w h)
  have HT2 := hid (fun (w : World) (sa : Option Addr) (sc : Nat) (ca : Option Addr) (cc : Nat) (h : LdM w (insV L row) sa sc ca cc) => Take_any (insV L row) fI (L.starts.length : Nat) sa sc ca cc w h)
  have HI2 := hid (fun (w : World) (sa : Option Addr) (sc : Nat) (ca : Option Addr) (cc : Nat) (h : LdM w (takV (insV L row) (L.starts.length : Nat)) sa sc ca cc) (h' : RdI w ar row) => Insert_any (takV (insV L row) (L.starts.length : Nat)) fB row ar cr sa sc ca cc w h h' (by omega))
  have HTS := hid (fun (h : hasE L a = 0) => take_same (L := L) (a := a) (r := r) h hrl hcl)
  have HIS := hid (fun (h : insE L row = 0) => (by
    obtain ⟨q1, q2⟩ := insV_of h
    obtain ⟨q3, q4⟩ := ins_same h hrl hcl
    obtain ⟨q5, q6, q7⟩ := ins_new h hcl
    have q8 := (insE_ok h).2.1
    have q9 := ins_own L row
    rw [← q1] at q3 q4 q5 q6 q7 q9
    exact ⟨q2, q3, q4, q5, q6, q7, q8, q9, by rw [q1]; exact ins_len L row⟩ : insAt L row = (L.starts.length : Nat) ∧ lookE (insV L row) r c = lookE L r c ∧ lookV (insV L row) r c = lookV L r c ∧ hasE (insV L row) (L.starts.length : Nat) = 0 ∧ lookE (insV L row) (L.starts.length : Nat) c = 0 ∧ lookV (insV L row) (L.starts.length : Nat) c = row.getD c (-1) ∧ (row.length : Int) = L.cols ∧ (insV L row).starts.getD L.starts.length (-1) = (startN L.cells row : Nat) ∧ (insV L row).starts.length = L.starts.length + 1))
  have HAG := hid (fun (h : insE L row = 0) => again_p h)
  generalize insE (takV (insV L row) (L.starts.length : Nat)) row = q at *
  generalize insAt (takV (insV L row) (L.starts.length : Nat)) row = p at *
  generalize insV (takV (insV L row) (L.starts.length : Nat)) row = J at *
  generalize takV (insV L row) (L.starts.length : Nat) = B at *
  generalize insAt L row = iat at *
  generalize insE L row = ie at *
  generalize lookE (takV L a) r c = te at *
  generalize lookV (takV L a) r c = tv at *
  generalize hasE L a = fe at *
  generalize takV L a = T at *
  generalize lookE (insV L row) r c = ue at *
  generalize lookV (insV L row) r c = uv at *
  generalize lookE (insV L row) (L.starts.length : Nat) c = oe at *
  generalize lookV (insV L row) (L.starts.length : Nat) c = ov at *
  generalize hasE (insV L row) (L.starts.length : Nat) = be at *
  generalize insV L row = I at *
  generalize lookE L r c = e0 at *
  generalize lookV L r c = v0 at *
  have HB := hid (bnew w (.cells #[.int .i64 L.cols, .slice sa L.starts.length sc, .slice ca L.cells.length cc] 44))
  have HX := hid (heapn w (.cells #[.int .i64 L.cols, .slice sa L.starts.length sc, .slice ca L.cells.length cc] 44) _ rfl)
  obtain ⟨k0, k1, k2, -, -, -⟩ := box3 HX.out
  obtain ⟨g3, hg3⟩ : ∃ g, g = w.heap.size := ⟨_, rfl⟩
  have n60 : ¬ (60 : Int) < (row.length : Int) := by omega
  have d60 : decide ((60 : Int) < (row.length : Int)) = false := decide_eq_false n60
  have z0 : ((L.starts.length : Int) == 0) = false := by rw [beq_eq_false_iff_ne]; omega
  have z1 : (L.cols == 0) = false := by rw [beq_eq_false_iff_ne]; omega
  have l70 : (L.starts.length : Int) ≤ 70 := by omega
  clear hs hf hE fT fI fB hR
  go_enter Try.func7, Try.ntmps7
  go_wp2_with fail
  generalize w.alloc (.cells #[.int .i64 L.cols, .slice sa L.starts.length sc, .slice ca L.cells.length cc] 44) = w1 at *
  rw [← hg3] at k0 k1 k2 HX
  rw [← hg3]
  clear hg3
  replace HLD := hid (HLD.out.below HB.out)
  replace HR := hid (HR.out.below HB.out)
  go_upto_region 6 with (first
    | (go_at_call 23; (with_reducible refine (HLT.out _).mono ?_); rintro e w2 ⟨rfl, hb⟩; replace HB := hid (HB.out.step hb); replace HX := hid (keepBox hb HX.out); replace HLD := hid (HLD.out.below hb); replace HR := hid (HR.out.below hb); clear k0 k1 k2; obtain ⟨k0, k1, k2, -, -, -⟩ := box3 HX.out; clear hb)
    | (go_at_call 30; (with_reducible refine (HCK.out _ HLD.out).mono ?_); rintro e w2 ⟨rfl, hb⟩; replace HB := hid (HB.out.step hb); replace HX := hid (keepBox hb HX.out); replace HLD := hid (HLD.out.below hb); replace HR := hid (HR.out.below hb); clear k0 k1 k2; obtain ⟨k0, k1, k2, -, -, -⟩ := box3 HX.out; clear hb))
  rw [← hae, ← hre, ← hce]
  clear hae hre hce ha hi hk
  have na : (a : Int) < (L.starts.length : Int) := by omega
  have nr : (r : Int) < (L.starts.length : Int) := by omega
  go_upto_if 88 with (first
    | (go_at_call 31; (with_reducible refine (HL1.out _ HLD.out).mono ?_); rintro e w2 ⟨rfl, hb⟩; replace HB := hid (HB.out.step hb); replace HX := hid (keepBox hb HX.out); replace HLD := hid (HLD.out.below hb); replace HR := hid (HR.out.below hb); clear k0 k1 k2; obtain ⟨k0, k1, k2, -, -, -⟩ := box3 HX.out; clear hb)
    | (go_at_call 26; (with_reducible refine (HT1.out _ HLD.out).mono ?_); rintro e w3 ⟨hb, sa1, sc1, ca1, cc1, rfl, hld⟩; have hb2 := hb.step (bnew w3 (.cells #[.int .i64 T.cols, .slice sa1 T.starts.length sc1, .slice ca1 T.cells.length cc1] 44)); replace HB := hid (HB.out.step hb2); replace HX := hid (keepBox hb2 HX.out); replace HLD := hid (HLD.out.below hb2); replace HR := hid (HR.out.below hb2); clear k0 k1 k2; obtain ⟨k0, k1, k2, -, -, -⟩ := box3 HX.out; have X1 := hid (heapn w3 (.cells #[.int .i64 T.cols, .slice sa1 T.starts.length sc1, .slice ca1 T.cells.length cc1] 44) _ rfl); have M1 := hid (hld.below (bnew w3 (.cells #[.int .i64 T.cols, .slice sa1 T.starts.length sc1, .slice ca1 T.cells.length cc1] 44))); clear hb hb2 hld))
  go_cut [] (fun wx => Hid (Below w.heap.size w wx ∧ wx.heap[g3]? = some (.cells #[.int .i64 L.cols, .slice sa L.starts.length sc, .slice ca L.cells.length cc] 44 (0, 0)) ∧ LdM wx L sa sc ca cc ∧ RdI wx ar row))
  case first =>
    by_cases hfe : fe = 0
    · have f1 : (fe == 0) = true := by rw [hfe]; rfl
      obtain ⟨t1, t2⟩ := HTS.out hfe
      clear hfe
      obtain ⟨p10, p11, p12, -, -, -⟩ := box3 X1.out
      by_cases hra : r = a
      · obtain rfl := t1 hra
        have f2 : ((r : Int) == (a : Int)) = true := by rw [hra]; simp
        have f3 : ((r : Int) != (a : Int)) = false := by rw [hra]; simp
        clear hra t1 t2
        go_wp2_with (go_at_call 31; (with_reducible refine (HL2.out _ sa1 sc1 ca1 cc1 M1.out).mono ?_); rintro e wl ⟨rfl, hb⟩; replace HB := hid (HB.out.step hb); replace HX := hid (keepBox hb HX.out); replace HLD := hid (HLD.out.below hb); replace HR := hid (HR.out.below hb); replace X1 := hid (keepBox hb X1.out); replace M1 := hid (M1.out.below hb); clear k0 k1 k2; obtain ⟨k0, k1, k2, -, -, -⟩ := box3 HX.out; clear p10 p11 p12; obtain ⟨p10, p11, p12, -, -, -⟩ := box3 X1.out; clear hb)
        go_meet
        exact ⟨HB.out, HX.out, HLD.out, HR.out⟩
      · obtain ⟨t3, t4⟩ := t2 hra
        subst t3
        subst t4
        have f2 : ((r : Int) == (a : Int)) = false := by simp; omega
        have f3 : ((r : Int) != (a : Int)) = true := by simp; omega
        have f4 : (te != te) = false := by simp
        have f5 : (tv != tv) = false := by simp
        clear hra t1 t2
        go_wp2_with (go_at_call 31; (with_reducible refine (HL2.out _ sa1 sc1 ca1 cc1 M1.out).mono ?_); rintro e wl ⟨rfl, hb⟩; replace HB := hid (HB.out.step hb); replace HX := hid (keepBox hb HX.out); replace HLD := hid (HLD.out.below hb); replace HR := hid (HR.out.below hb); replace X1 := hid (keepBox hb X1.out); replace M1 := hid (M1.out.below hb); clear k0 k1 k2; obtain ⟨k0, k1, k2, -, -, -⟩ := box3 HX.out; clear p10 p11 p12; obtain ⟨p10, p11, p12, -, -, -⟩ := box3 X1.out; clear hb)
        go_meet
        exact ⟨HB.out, HX.out, HLD.out, HR.out⟩
    · have f1 : (fe == 0) = false := by rw [beq_eq_false_iff_ne]; exact hfe
      clear hfe
      go_wp2_with fail
      go_meet
      exact ⟨HB.out, HX.out, HLD.out, HR.out⟩
  case rest =>
    obtain ⟨hb, hx, hld, hr⟩ := hcut.out
    have HB := hid hb
    have HX := hid hx
    have HLD := hid hld
    have HR := hid hr
    clear hcut hb hx hld hr k0 k1 k2
    obtain ⟨k0, k1, k2, -, -, -⟩ := box3 HX.out
    by_cases hie : ie = 0
    · obtain ⟨i1, i2, i3, i4, i5, i6, i7, i8, i9⟩ := HIS.out hie
      have hag := HAG.out hie
      have HAGP := hid hag
      have f1 : (ie != 0) = false := by rw [hie]; rfl
      have f5 : ((row.length : Int) != L.cols) = false := by rw [i7]; simp
      obtain ⟨br, orr, har, hlr, hrc⟩ := HR.out.at (i := c) (by omega)
      have nc : (c : Int) < (row.length : Int) := by omega
      subst har
      generalize row.getD c (-1) = x at *
      subst i1
      subst i2
      subst i3
      subst i4
      subst i5
      subst i6
      have f2 : (ue != ue) = false := by simp
      have f3 : (uv != uv) = false := by simp
      have f4 : ((L.starts.length : Int) != (L.starts.length : Int)) = false := by simp
      have f6 : (ov != ov) = false := by simp
      have HRC := hid hrc
      have HI8 := hid i8
      have HI9 := hid i9
      clear hie i7 hag i8 i9
      go_upto_region 21 with (first
        | (go_at_call 24; (with_reducible refine (HI1.out _ HLD.out HR.out).mono ?_); rintro e wn2 ⟨hb, sa2, sc2, ca2, cc2, rfl, hld⟩; have hb2 := hb.step (bnew wn2 (.cells #[.int .i64 I.cols, .slice sa2 I.starts.length sc2, .slice ca2 I.cells.length cc2] 44)); replace HRC := hid (cell_later hb2 HRC.out); replace hrc := HRC.out; replace HB := hid (HB.out.step hb2); replace HX := hid (keepBox hb2 HX.out); replace HLD := hid (HLD.out.below hb2); replace HR := hid (HR.out.below hb2); have X2 := hid (heapn wn2 (.cells #[.int .i64 I.cols, .slice sa2 I.starts.length sc2, .slice ca2 I.cells.length cc2] 44) _ rfl); have M2 := hid (hld.below (bnew wn2 (.cells #[.int .i64 I.cols, .slice sa2 I.starts.length sc2, .slice ca2 I.cells.length cc2] 44))); clear k0 k1 k2; obtain ⟨k0, k1, k2, -, -, -⟩ := box3 HX.out; obtain ⟨p20, p21, p22, -, -, -⟩ := box3 X2.out; clear hb hb2 hld)
        | (go_at_call 31; (with_reducible refine (HL3.out _ sa2 sc2 ca2 cc2 M2.out).mono ?_); rintro e wl ⟨rfl, hb⟩; replace HRC := hid (cell_later hb HRC.out); replace hrc := HRC.out; replace HB := hid (HB.out.step hb); replace HX := hid (keepBox hb HX.out); replace HLD := hid (HLD.out.below hb); replace HR := hid (HR.out.below hb); replace X2 := hid (keepBox hb X2.out); replace M2 := hid (M2.out.below hb); clear k0 k1 k2; obtain ⟨k0, k1, k2, -, -, -⟩ := box3 HX.out; clear p20 p21 p22; obtain ⟨p20, p21, p22, -, -, -⟩ := box3 X2.out; clear hb)
        | (go_at_call 31; (with_reducible refine (HL4.out _ sa2 sc2 ca2 cc2 M2.out).mono ?_); rintro e wl ⟨rfl, hb⟩; replace HRC := hid (cell_later hb HRC.out); replace hrc := HRC.out; replace HB := hid (HB.out.step hb); replace HX := hid (keepBox hb HX.out); replace HLD := hid (HLD.out.below hb); replace HR := hid (HR.out.below hb); replace X2 := hid (keepBox hb X2.out); replace M2 := hid (M2.out.below hb); clear k0 k1 k2; obtain ⟨k0, k1, k2, -, -, -⟩ := box3 HX.out; clear p20 p21 p22; obtain ⟨p20, p21, p22, -, -, -⟩ := box3 X2.out; clear hb)
        | (go_at_call 26; (with_reducible refine (HT2.out _ sa2 sc2 ca2 cc2 M2.out).mono ?_); rintro e wn3 ⟨hb, sa3, sc3, ca3, cc3, rfl, hld⟩; have hb2 := hb.step (bnew wn3 (.cells #[.int .i64 B.cols, .slice sa3 B.starts.length sc3, .slice ca3 B.cells.length cc3] 44)); replace HRC := hid (cell_later hb2 HRC.out); replace hrc := HRC.out; replace HB := hid (HB.out.step hb2); replace HX := hid (keepBox hb2 HX.out); replace HLD := hid (HLD.out.below hb2); replace HR := hid (HR.out.below hb2); replace X2 := hid (keepBox hb2 X2.out); replace M2 := hid (M2.out.below hb2); have X3 := hid (heapn wn3 (.cells #[.int .i64 B.cols, .slice sa3 B.starts.length sc3, .slice ca3 B.cells.length cc3] 44) _ rfl); have M3 := hid (hld.below (bnew wn3 (.cells #[.int .i64 B.cols, .slice sa3 B.starts.length sc3, .slice ca3 B.cells.length cc3] 44))); clear k0 k1 k2; obtain ⟨k0, k1, k2, -, -, -⟩ := box3 HX.out; clear p20 p21 p22; obtain ⟨p20, p21, p22, -, -, -⟩ := box3 X2.out; obtain ⟨p30, p31, p32, -, -, -⟩ := box3 X3.out; clear hb hb2 hld)
        | (go_at_call 24; (with_reducible refine (HI2.out _ sa3 sc3 ca3 cc3 M3.out HR.out).mono ?_); rintro e wn4 ⟨hb, sa4, sc4, ca4, cc4, rfl, hld⟩; have hb2 := hb.step (bnew wn4 (.cells #[.int .i64 J.cols, .slice sa4 J.starts.length sc4, .slice ca4 J.cells.length cc4] 44)); replace HRC := hid (cell_later hb2 HRC.out); replace hrc := HRC.out; replace HB := hid (HB.out.step hb2); replace HX := hid (keepBox hb2 HX.out); replace HLD := hid (HLD.out.below hb2); replace HR := hid (HR.out.below hb2); replace X2 := hid (keepBox hb2 X2.out); replace X3 := hid (keepBox hb2 X3.out); replace M2 := hid (M2.out.below hb2); replace M3 := hid (M3.out.below hb2); have X4 := hid (heapn wn4 (.cells #[.int .i64 J.cols, .slice sa4 J.starts.length sc4, .slice ca4 J.cells.length cc4] 44) _ rfl); have M4 := hid (hld.below (bnew wn4 (.cells #[.int .i64 J.cols, .slice sa4 J.starts.length sc4, .slice ca4 J.cells.length cc4] 44))); clear k0 k1 k2; obtain ⟨k0, k1, k2, -, -, -⟩ := box3 HX.out; clear p20 p21 p22; obtain ⟨p20, p21, p22, -, -, -⟩ := box3 X2.out; clear p30 p31 p32; obtain ⟨p30, p31, p32, -, -, -⟩ := box3 X3.out; obtain ⟨p40, p41, p42, -, -, -⟩ := box3 X4.out; clear hb hb2 hld))
      generalize wn4.alloc (.cells #[.int .i64 J.cols, .slice sa4 J.starts.length sc4, .slice ca4 J.cells.length cc4] 44) = wz at *
      generalize wn4.heap.size = g4 at *
      generalize wn3.heap.size = g3' at *
      generalize wn2.heap.size = g2' at *
      obtain ⟨q0, q1⟩ := HAGP.out
      rcases q1 with ⟨rfl, q2⟩ | ⟨rfl, q2, q3, q4⟩
      · have f7 : ((B.starts.length : Int) == 60) = true := by rw [q2]; rfl
        have K := hid (box3 X3.out).2.1
        have z30 : ((3 : Int) == 0) = false := rfl
        have z33 : ((3 : Int) == 3) = true := rfl
        have z00 : ((0 : Int) == 0) = true := rfl
        clear k0 k1 k2 p20 p21 p22 p30 p31 p32 p40 p41 p42 q0 q2
        have q0 : ∀ d os, (Go.Sort.grow (redrawn wz d) os).cell? ⟨g3', 1, none⟩ = some (.slice sa3 B.starts.length sc3) := fun d os => cell_regrown K.out d os
        refine wp_region_quiet_below (by kernel_rfl) (by kernel_rfl) ?_
        repeat (go_big_quiet_step ((go_at_call 14; exact Calls.regrown_of (sanity_any _))))
        refine wpQuiet_nil ?_
        rintro _ ⟨p9, rfl⟩
        have hb := below_regrown wz p9.d p9.os
        generalize Go.Sort.grow (redrawn wz p9.d) p9.os = wq at *
        have HB9 := hid hb
        clear hb
        go_wp2
        go_ret
        exact ⟨rfl, HB.out.step HB9.out⟩
      · subst q2
        obtain ⟨bj, oj, haj, _, hcj⟩ := M4.out.rs.at (i := L.starts.length + 1) (by omega)
        obtain ⟨bi, oi, hai, _, hci⟩ := M2.out.rs.at (i := L.starts.length) (by rw [HI9.out]; omega)
        rw [q4] at hcj
        rw [HI8.out] at hci
        subst haj
        subst hai
        have f7 : ((L.starts.length : Int) + 1 == (L.starts.length : Int) + 1) = true := by simp
        have f8 : (((startN L.cells row : Nat) : Int) == ((startN L.cells row : Nat) : Int)) = true := by simp
        have nj : (L.starts.length : Int) + 1 < (J.starts.length : Int) := by omega
        have ni : (L.starts.length : Int) < (I.starts.length : Int) := by rw [HI9.out]; omega
        have tj : ((L.starts.length : Int) + 1).toNat = L.starts.length + 1 := by omega
        have zj : 0 ≤ (L.starts.length : Int) + 1 := by omega
        have z03 : ((0 : Int) == 3) = false := rfl
        have z00 : ((0 : Int) == 0) = true := rfl
        have K := hid (And.intro (box3 X4.out).2.1 (And.intro (box3 X2.out).2.1 (And.intro hcj hci)))
        have hw1 : IntKind.i64.wrap ((L.starts.length : Int) + 1) = (L.starts.length : Int) + 1 := wrapk (by omega)
        clear k0 k1 k2 p20 p21 p22 p30 p31 p32 p40 p41 p42 q0 q3 q4 hcj hci
        have q0 : ∀ d os, (Go.Sort.grow (redrawn wz d) os).cell? ⟨g4, 1, none⟩ = some (.slice (some ⟨bj, oj, none⟩) J.starts.length sc4) := fun d os => cell_regrown K.out.1 d os
        have q1 : ∀ d os, (Go.Sort.grow (redrawn wz d) os).cell? ⟨g2', 1, none⟩ = some (.slice (some ⟨bi, oi, none⟩) I.starts.length sc2) := fun d os => cell_regrown K.out.2.1 d os
        have q2 : ∀ d os, (Go.Sort.grow (redrawn wz d) os).cell? ⟨bj, oj + (L.starts.length + 1), none⟩ = some (.int .i64 (startN L.cells row : Nat)) := fun d os => cell_regrown K.out.2.2.1 d os
        have q3 : ∀ d os, (Go.Sort.grow (redrawn wz d) os).cell? ⟨bi, oi + L.starts.length, none⟩ = some (.int .i64 (startN L.cells row : Nat)) := fun d os => cell_regrown K.out.2.2.2 d os
        refine wp_region_quiet_below (by kernel_rfl) (by kernel_rfl) ?_
        repeat (go_big_quiet_step ((go_at_call 14; exact Calls.regrown_of (sanity_any _))))
        refine wpQuiet_nil ?_
        rintro _ ⟨p9, rfl⟩
        have hb := below_regrown wz p9.d p9.os
        generalize Go.Sort.grow (redrawn wz p9.d) p9.os = wq at *
        have HB9 := hid hb
        clear hb hw1
        go_wp2
        go_ret
        exact ⟨rfl, HB.out.step HB9.out⟩
    · have f1 : (ie != 0) = true := by rw [bne, beq_eq_false_iff_ne.2 hie]; rfl
      clear hie
      go_wp2_with (first
        | (go_at_call 24; (with_reducible refine (HI1.out _ HLD.out HR.out).mono ?_); rintro e wn2 ⟨hb, sa2, sc2, ca2, cc2, rfl, hld⟩; have hb2 := hb.step (bnew wn2 (.cells #[.int .i64 I.cols, .slice sa2 I.starts.length sc2, .slice ca2 I.cells.length cc2] 44)); replace HB := hid (HB.out.step hb2); replace HX := hid (keepBox hb2 HX.out); replace HLD := hid (HLD.out.below hb2); replace HR := hid (HR.out.below hb2); have X2 := hid (heapn wn2 (.cells #[.int .i64 I.cols, .slice sa2 I.starts.length sc2, .slice ca2 I.cells.length cc2] 44) _ rfl); have M2 := hid (hld.below (bnew wn2 (.cells #[.int .i64 I.cols, .slice sa2 I.starts.length sc2, .slice ca2 I.cells.length cc2] 44))); clear k0 k1 k2; obtain ⟨k0, k1, k2, -, -, -⟩ := box3 HX.out; obtain ⟨p20, p21, p22, -, -, -⟩ := box3 X2.out; clear hb hb2 hld)
        | (go_at_call 14; (with_reducible refine (sanity_any _).mono ?_); rintro e w7 ⟨rfl, hb⟩; replace HB := hid (HB.out.step hb); clear hb))
      go_ret
      exact ⟨rfl, HB.out⟩

set_option maxRecDepth 100000 in
set_option maxHeartbeats 2000000 in
theorem changed_off (L : Ld) (sa : Option Addr) (sc : Nat) (ca : Option Addr) (cc : Nat) (row : List Int) (ar : Option Addr) (cr : Nat) (at' i' k' : Int) (w : World) (hm : LdM w L sa sc ca cc) (hl1 : L.starts.length ≤ 9223372036854775807) (hl2 : L.cells.length ≤ 9223372036854775807) (hs : lightB L = false) :
    Calls Try.prog 7 #[vL L sa sc ca cc, .slice ar row.length cr, .int .u8 at', .int .u8 i', .int .u8 k'] w (RetB (.bool true) w) := by
  have HB := hid (bnew w (.cells #[.int .i64 L.cols, .slice sa L.starts.length sc, .slice ca L.cells.length cc] 44))
  have HX := hid (heapn w (.cells #[.int .i64 L.cols, .slice sa L.starts.length sc, .slice ca L.cells.length cc] 44) _ rfl)
  obtain ⟨k0, k1, k2, -, -, -⟩ := box3 HX.out
  have HLD := hid hm
  have HLT := hid (fun (w : World) => (by have := light_any L sa sc ca cc w hl1 hl2; rw [hs] at this; exact this : Calls Try.prog 23 #[vL L sa sc ca cc] w (RetB (.bool false) w)))
  clear hs hm
  go_enter Try.func7, Try.ntmps7
  go_wp2_with (first
      | (go_at_call 23; (with_reducible refine (HLT.out _).mono ?_); rintro e w2 ⟨rfl, hb⟩; have HB := hid (HB.out.step hb); have HX := hid (keepBox hb HX.out); obtain ⟨k0, k1, k2, -, -, -⟩ := box3 HX.out; clear hb)
      | (go_at_call 30; (with_reducible refine (HCK.out _ (HLD.out.below HB.out)).mono ?_); rintro e w2 ⟨rfl, hb⟩; have HB := hid (HB.out.step hb); have HX := hid (keepBox hb HX.out); obtain ⟨k0, k1, k2, -, -, -⟩ := box3 HX.out; clear hb)
      | (go_at_call 14; (with_reducible refine (sanity_any _).mono ?_); rintro e w3 ⟨rfl, hb⟩; have HB := hid (HB.out.step hb); clear hb))
  go_ret
  exact ⟨rfl, HB.out⟩
set_option maxRecDepth 100000 in
set_option maxHeartbeats 2000000 in
theorem changed_bad (L : Ld) (sa : Option Addr) (sc : Nat) (ca : Option Addr) (cc : Nat) (row : List Int) (ar : Option Addr) (cr : Nat) (at' i' k' : Int) (w : World) (hm : LdM w L sa sc ca cc) (hl1 : L.starts.length ≤ 9223372036854775807) (hl2 : L.cells.length ≤ 9223372036854775807) (hs : lightB L = true) (hrl : row.length ≤ 9223372036854775807) (h : chkL L ≠ 0 ∨ (chkL L = 0 ∧ 60 < row.length) ∨ (chkL L = 0 ∧ row.length ≤ 60 ∧ L.starts.length = 0) ∨ (chkL L = 0 ∧ row.length ≤ 60 ∧ 0 < L.starts.length ∧ L.cols = 0)) :
    Calls Try.prog 7 #[vL L sa sc ca cc, .slice ar row.length cr, .int .u8 at', .int .u8 i', .int .u8 k'] w (RetB (.bool true) w) := by
  have HB := hid (bnew w (.cells #[.int .i64 L.cols, .slice sa L.starts.length sc, .slice ca L.cells.length cc] 44))
  have HX := hid (heapn w (.cells #[.int .i64 L.cols, .slice sa L.starts.length sc, .slice ca L.cells.length cc] 44) _ rfl)
  obtain ⟨k0, k1, k2, -, -, -⟩ := box3 HX.out
  have HLD := hid hm
  have HLT := hid (fun (w : World) => (by have := light_any L sa sc ca cc w hl1 hl2; rw [hs] at this; exact this : Calls Try.prog 23 #[vL L sa sc ca cc] w (RetB (.bool true) w)))
  have HCK := hid (fun (w : World) (h : LdM w L sa sc ca cc) => checkL_any L (lightN hs).1 sa sc ca cc w h)
  rcases h with h | ⟨h, h1⟩ | ⟨h, h1, h2⟩ | ⟨h, h1, h2, h3⟩
  · have f1 : (chkL L != 0) = true := by rw [bne, beq_eq_false_iff_ne.2 h]; rfl
    clear hs hm h
    go_enter Try.func7, Try.ntmps7
    go_wp2_with (first
        | (go_at_call 23; (with_reducible refine (HLT.out _).mono ?_); rintro e w2 ⟨rfl, hb⟩; have HB := hid (HB.out.step hb); have HX := hid (keepBox hb HX.out); obtain ⟨k0, k1, k2, -, -, -⟩ := box3 HX.out; clear hb)
        | (go_at_call 30; (with_reducible refine (HCK.out _ (HLD.out.below HB.out)).mono ?_); rintro e w2 ⟨rfl, hb⟩; have HB := hid (HB.out.step hb); have HX := hid (keepBox hb HX.out); obtain ⟨k0, k1, k2, -, -, -⟩ := box3 HX.out; clear hb)
        | (go_at_call 14; (with_reducible refine (sanity_any _).mono ?_); rintro e w3 ⟨rfl, hb⟩; have HB := hid (HB.out.step hb); clear hb))
    go_ret
    exact ⟨rfl, HB.out⟩
  · have f1 : (chkL L != 0) = false := by rw [h]; rfl
    have n60 : (60 : Int) < (row.length : Int) := by omega
    have d60 : decide ((60 : Int) < (row.length : Int)) = true := decide_eq_true n60
    clear hs hm h
    go_enter Try.func7, Try.ntmps7
    go_wp2_with (first
        | (go_at_call 23; (with_reducible refine (HLT.out _).mono ?_); rintro e w2 ⟨rfl, hb⟩; have HB := hid (HB.out.step hb); have HX := hid (keepBox hb HX.out); obtain ⟨k0, k1, k2, -, -, -⟩ := box3 HX.out; clear hb)
        | (go_at_call 30; (with_reducible refine (HCK.out _ (HLD.out.below HB.out)).mono ?_); rintro e w2 ⟨rfl, hb⟩; have HB := hid (HB.out.step hb); have HX := hid (keepBox hb HX.out); obtain ⟨k0, k1, k2, -, -, -⟩ := box3 HX.out; clear hb)
        | (go_at_call 14; (with_reducible refine (sanity_any _).mono ?_); rintro e w3 ⟨rfl, hb⟩; have HB := hid (HB.out.step hb); clear hb))
    go_ret
    exact ⟨rfl, HB.out⟩
  · have f1 : (chkL L != 0) = false := by rw [h]; rfl
    have n60 : ¬ (60 : Int) < (row.length : Int) := by omega
    have d60 : decide ((60 : Int) < (row.length : Int)) = false := decide_eq_false n60
    have z0 : ((L.starts.length : Int) == 0) = true := by rw [h2]; rfl
    clear hs hm h h2
    go_enter Try.func7, Try.ntmps7
    go_wp2_with (first
        | (go_at_call 23; (with_reducible refine (HLT.out _).mono ?_); rintro e w2 ⟨rfl, hb⟩; have HB := hid (HB.out.step hb); have HX := hid (keepBox hb HX.out); obtain ⟨k0, k1, k2, -, -, -⟩ := box3 HX.out; clear hb)
        | (go_at_call 30; (with_reducible refine (HCK.out _ (HLD.out.below HB.out)).mono ?_); rintro e w2 ⟨rfl, hb⟩; have HB := hid (HB.out.step hb); have HX := hid (keepBox hb HX.out); obtain ⟨k0, k1, k2, -, -, -⟩ := box3 HX.out; clear hb)
        | (go_at_call 14; (with_reducible refine (sanity_any _).mono ?_); rintro e w3 ⟨rfl, hb⟩; have HB := hid (HB.out.step hb); clear hb))
    go_ret
    exact ⟨rfl, HB.out⟩
  · have f1 : (chkL L != 0) = false := by rw [h]; rfl
    have n60 : ¬ (60 : Int) < (row.length : Int) := by omega
    have d60 : decide ((60 : Int) < (row.length : Int)) = false := decide_eq_false n60
    have z0 : ((L.starts.length : Int) == 0) = false := by rw [beq_eq_false_iff_ne]; omega
    have z1 : (L.cols == 0) = true := by rw [h3]; rfl
    clear hs hm h h3
    go_enter Try.func7, Try.ntmps7
    go_wp2_with (first
        | (go_at_call 23; (with_reducible refine (HLT.out _).mono ?_); rintro e w2 ⟨rfl, hb⟩; have HB := hid (HB.out.step hb); have HX := hid (keepBox hb HX.out); obtain ⟨k0, k1, k2, -, -, -⟩ := box3 HX.out; clear hb)
        | (go_at_call 30; (with_reducible refine (HCK.out _ (HLD.out.below HB.out)).mono ?_); rintro e w2 ⟨rfl, hb⟩; have HB := hid (HB.out.step hb); have HX := hid (keepBox hb HX.out); obtain ⟨k0, k1, k2, -, -, -⟩ := box3 HX.out; clear hb)
        | (go_at_call 14; (with_reducible refine (sanity_any _).mono ?_); rintro e w3 ⟨rfl, hb⟩; have HB := hid (HB.out.step hb); clear hb))
    go_ret
    exact ⟨rfl, HB.out⟩
theorem changed_any (L : Ld) (sa : Option Addr) (sc : Nat) (ca : Option Addr) (cc : Nat) (row : List Int) (ar : Option Addr) (cr : Nat) (at' i' k' : Int) (w : World) (hm : LdM w L sa sc ca cc) (hl1 : L.starts.length ≤ 9223372036854775807) (hl2 : L.cells.length ≤ 9223372036854775807) (hr : RdI w ar row) (hrl : row.length ≤ 9223372036854775807) (ha : 0 ≤ at' ∧ at' ≤ 255) (hi : 0 ≤ i' ∧ i' ≤ 255) (hk : 0 ≤ k' ∧ k' ≤ 255) :
    Calls Try.prog 7 #[vL L sa sc ca cc, .slice ar row.length cr, .int .u8 at', .int .u8 i', .int .u8 k'] w (RetB (.bool true) w) := by
  cases hs : lightB L with
  | false => exact changed_off L sa sc ca cc row ar cr at' i' k' w hm hl1 hl2 hs
  | true =>
    by_cases h : chkL L = 0
    · by_cases h1 : row.length ≤ 60
      · by_cases h2 : 0 < L.starts.length
        · by_cases h3 : L.cols = 0
          · exact changed_bad L sa sc ca cc row ar cr at' i' k' w hm hl1 hl2 hs hrl (.inr (.inr (.inr ⟨h, h1, h2, h3⟩)))
          · obtain ⟨a, rfl⟩ : ∃ k : Nat, at' = (k : Int) := ⟨at'.toNat, by omega⟩
            obtain ⟨i, rfl⟩ : ∃ k : Nat, i' = (k : Int) := ⟨i'.toNat, by omega⟩
            obtain ⟨k, rfl⟩ : ∃ k : Nat, k' = (k : Int) := ⟨k'.toNat, by omega⟩
            exact changed_ok L sa sc ca cc row ar cr a i k w hm hr hs h h1 h2 h3 (by omega) (by omega) (by omega)
        · exact changed_bad L sa sc ca cc row ar cr at' i' k' w hm hl1 hl2 hs hrl (.inr (.inr (.inl ⟨h, h1, by omega⟩)))
      · exact changed_bad L sa sc ca cc row ar cr at' i' k' w hm hl1 hl2 hs hrl (.inr (.inl ⟨h, by omega⟩))
    · exact changed_bad L sa sc ca cc row ar cr at' i' k' w hm hl1 hl2 hs hrl (.inl h)
end Go.Proofs.Ytliajnflmddnoaa
