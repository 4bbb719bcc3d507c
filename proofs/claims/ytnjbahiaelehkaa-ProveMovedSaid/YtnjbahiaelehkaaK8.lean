/- ProveMoved: the walk. For every input the law ProveMoved returns true, and each argument reads afterwards as it read before. No condition. -/
import Derived.Test.YtnjbahiaelehkaaD20
import Derived.Test.YtnjbahiaelehkaaD24
import Derived.Test.YtnjbahiaelehkaaL1
import Derived.OpenShut
import Derived.Test.YtnjbahiaelehkaaJ1
namespace Go.Proofs.Ytnjbahiaelehkaa
open Go.RowKit


/-- What Shifted has left: the lines, or the fault. -/
def ShQ (n : Int) (r : List AM) (a : Option Addr) (m : Nat) (cc : Int) (w : World) : Prop := (cc = 0 ∧ m = r.length ∧ rightsB n r = true ∧ Rd w a r) ∨ (cc = 1 ∧ rightsB n r = false)
theorem ShQ.below {n : Int} {r : List AM} {a : Option Addr} {m : Nat} {cc : Int} {w w' : World} (h : ShQ n r a m cc w) (hb : Below w.heap.size w w') : ShQ n r a m cc w' :=
  h.elim (fun ⟨h1, h2, h3, h4⟩ => .inl ⟨h1, h2, h3, h4.below hb⟩) .inr
theorem TurP.shq {c n : Int} {r : List AM} {w w' : World} {e : Ending} (hc : c = 0) (h : TurP c n r w e w') : ∃ a m c2 cc, e = .returned (.tuple #[.slice a m c2, .int .i64 cc]) ∧ Below w.heap.size w w' ∧ ShQ n r a m cc w' := by
  rcases h with ⟨_, hb, ⟨hr, a, c2, rfl, hrd⟩ | ⟨hr, rfl⟩⟩ | ⟨h, _, _⟩
  · exact ⟨a, _, c2, 0, rfl, hb, .inl ⟨rfl, rfl, hr, hrd⟩⟩
  · exact ⟨none, 0, 0, 1, rfl, hb, .inr ⟨rfl, hr⟩⟩
  · exact absurd hc h
theorem TurP.good {c n : Int} {r : List AM} {w w' : World} {e : Ending} (hc : c = 0) (hr : rightsB n r = true) (h : TurP c n r w e w') : ∃ a c2, e = .returned (.tuple #[.slice a r.length c2, .int .i64 0]) ∧ Below w.heap.size w w' ∧ Rd w' a r := by
  rcases h with ⟨_, hb, ⟨hr', a, c2, rfl, hrd⟩ | ⟨hr', rfl⟩⟩ | ⟨h, _, _⟩
  · exact ⟨a, c2, rfl, hb, hrd⟩
  · rw [hr] at hr'
    cases hr'
  · exact absurd hc h

theorem lawfits_len (n : Int) (l : List AM) (x : List Int) (m : Nat) (hm : x.length = m) (a : Option Addr) (ca : Nat) (b : Option Addr) (cb : Nat) (w : World) (hl : Rd w a l) (hlen : l.length ≤ 9223372036854775807) (hx : RdI w b x) (hxl : m ≤ 9223372036854775807) :
    Calls Try.prog 40 #[.int .i64 n, .slice a l.length ca, .slice b m cb] w (RetB (.bool (fitIs n l x)) w) := by
  subst hm
  exact lawfits_any n l x a ca b cb w hl hlen hx hxl

set_option maxRecDepth 100000 in
set_option maxHeartbeats 16000000 in
theorem moved_ff (n : Int) (l : List AM) (which by_ : Int) (x : List Int) (a : Option Addr) (cap : Nat) (b : Option Addr) (cb : Nat) (w : World) (hl : Rd w a l) (hlen : l.length ≤ 9223372036854775807) (hx : RdI w b x) (hxl : x.length ≤ 9223372036854775807) (hwh : 0 ≤ which ∧ which ≤ 255) (hby : -32768 ≤ by_ ∧ by_ ≤ 32767) (h1 : lawRight n l = true) (h2 : ¬20 < x.length) (hF : fitIs n l x = false) (hR : rightsB n (l.map (shiftA (which.tmod n) by_)) = false) :
    Calls Try.prog 12 #[.int .i64 n, .slice a l.length cap, .int .u8 which, .int .i16 by_, .slice b x.length cb] w (RetB (.bool true) w) := by
  have HL := hid hl; clear hl
  have HX := hid hx; clear hx
  have HB := hid (Below.refl w.heap.size w)
  obtain ⟨h40, hc⟩ := lawRight_one h1
  obtain ⟨⟨hn1, hn2⟩, _, hrs⟩ := checkN_in hc
  have dx : decide (20 < (x.length : Int)) = false := by simp; omega
  obtain ⟨N, rfl⟩ : ∃ N : Nat, n = (N : Int) := ⟨n.toNat, by omega⟩
  obtain ⟨W8, rfl⟩ : ∃ W8 : Nat, which = (W8 : Int) := ⟨which.toNat, by omega⟩
  obtain ⟨k, hk⟩ : ∃ k : Nat, k = W8 % N := ⟨_, rfl⟩
  have hkN : k < N := by rw [hk]; exact Nat.mod_lt _ (by omega)
  have hm1 : ((W8 : Int).tmod (N : Int)) = (k : Int) := by rw [hk]; exact (Int.ofNat_tmod _ _).symm
  have hm2 : ((W8 : Int) % (N : Int)) = (k : Int) := by rw [hk]; exact (Int.natCast_emod _ _).symm
  have hidx : indexN N l k = 0 := by
    unfold indexN
    rw [if_pos hc, if_pos]
    simp [inB]
    omega
  have hct := turn_check (k := k) hc
  have htw := turn_twice k l
  have htl : (l.map (turnA k)).length = l.length := List.length_map ..
  have hst := turn_same (k := k) hc
  have hsp := turn_span (k := k) hc (by omega)
  have hidx2 : indexN N (l.map (turnA k)) k = 0 := by rw [index_of hc hct]; exact hidx
  have hse : shiftE N l k by_ = 0 := by
    unfold shiftE
    rw [if_pos hidx, if_pos]
    simp [inB]
    omega
  have hrt := (checkN_in hct).2.2
  obtain ⟨t, ht⟩ : ∃ t, t = l.map (turnA k) := ⟨_, rfl⟩
  rw [← ht] at hct htw htl hst hsp hidx2 hrt
  have hrs' := hid hrs
  have hnl := needed_short N l
  have hsl := core_short N l
  obtain ⟨s, hs⟩ : ∃ s, s = l.map (shiftA k by_) := ⟨_, rfl⟩
  have hsn : s.length = l.length := by rw [hs]; exact List.length_map ..
  have HSS := hid hs
  have HRR : Hid (rightsB N s = false) := hid (by rw [hs, ← hm1]; exact hR)
  clear hR
  have H1 := hid h1
  have HT := hid ht
  have HE := hid (And.intro hc (And.intro hidx (And.intro hct (And.intro hidx2 (And.intro hse (And.intro hrt hrs))))))
  have HW := hid htw
  have HS := hid hst
  have HP := hid hsp
  have HNL := hid (And.intro hnl hsl)
  clear h1 hk ht hc hidx hct hidx2 hse htw hst hsp hrs hrt hrs' hnl hsl hs
  have hn0 : (N : Int) ≠ 0 := by omega
  have HTL := hid (And.intro htl hsn)
  clear htl hsn
  go_enter Try.func12, Try.ntmps12
  go_upto_region 3 with (go_at_call 22; (with_reducible refine (lawright_any N l a cap _ (HL.out.below HB.out) hlen).mono ?_); rw [H1.out]; rintro e w1 ⟨rfl, hb⟩; have HB := hid (HB.out.step hb); clear hb)
  go_upto_region 4 with fail
  go_upto_region 5 with (go_at_call 44; (with_reducible refine (shifted_any N l k by_ a cap _ (HL.out.below HB.out) (by omega)).mono ?_); rintro e w1 hp; obtain ⟨a4, m4, c4, cc, rfl, hb, hq⟩ := hp.shq HE.out.2.2.2.2.1; rw [← HSS.out] at hq; have HB := hid (HB.out.step hb); have HQ := hid hq; clear hp hb hq)
  clear hm1 hm2
  go_upto_region 6 with (go_at_call 46; (with_reducible refine (turned_any N l k a cap _ (HL.out.below HB.out) (by omega)).mono ?_); rw [← HT.out]; rintro e w1 hp; obtain ⟨a5, c5_, rfl, hb, hrd⟩ := hp.good HE.out.2.1 HE.out.2.2.2.2.2.1; have HB := hid (HB.out.step hb); have HQ := hid (HQ.out.below hb); have HR := hid hrd; clear hp hb hrd)
  go_upto_region 7 with (go_at_call 46; (with_reducible refine (turned_any N t k a5 c5_ _ HR.out (by have := HTL.out.1; omega)).mono ?_); rw [HW.out]; rintro e w1 hp; obtain ⟨a6, c6, rfl, hb, hrd⟩ := hp.good HE.out.2.2.2.1 HE.out.2.2.2.2.2.2; have HB := hid (HB.out.step hb); have HQ := hid (HQ.out.below hb); have HR := hid (HR.out.below hb); have HU := hid hrd; clear hp hb hrd)
  go_upto_region 9 with (first
    | (go_at_call 49; (with_reducible refine (same_lines l l a6 a c6 cap _ HU.out (HL.out.below HB.out) (by omega) (by omega)).mono ?_); rw [show decide (l = l) = true from decide_eq_true rfl]; rintro e w1 ⟨rfl, hb⟩; have HB := hid (HB.out.step hb); have HQ := hid (HQ.out.below hb); have HR := hid (HR.out.below hb); clear hb)
    | (go_at_call 50; (with_reducible refine (alike_yes N l t a a5 cap c5_ _ (HL.out.below HB.out) HR.out (by omega) (by have := HTL.out.1; omega) HE.out.1 HE.out.2.2.1 HS.out.1 HS.out.2.1 HS.out.2.2.1 HS.out.2.2.2 (Nat.le_trans HNL.out.1 (by omega)) (Nat.le_trans HNL.out.2 (by omega))).mono ?_); rintro e w1 ⟨rfl, hb⟩; have HB := hid (HB.out.step hb); have HQ := hid (HQ.out.below hb); have HR := hid (HR.out.below hb); clear hb))
  clear HU
  obtain ⟨lo, hlo⟩ : ∃ q, q = spanLo N l k := ⟨_, rfl⟩
  obtain ⟨hi, hhi⟩ : ∃ q, q = spanHi N l k := ⟨_, rfl⟩
  obtain ⟨se, hse⟩ : ∃ q, q = spanE N l k := ⟨_, rfl⟩
  have HV := hid (And.intro hlo (And.intro hhi hse))
  clear hlo hhi hse
  go_upto_region 10 with (go_at_call 20; (with_reducible refine (span_lim N l k a cap _ (HL.out.below HB.out) (by omega)).mono ?_); rw [← HV.out.1, ← HV.out.2.1, ← HV.out.2.2]; rintro e w1 ⟨⟨rfl, hb⟩, hbd⟩; have HB := hid (HB.out.step hb); have HQ := hid (HQ.out.below hb); have HR := hid (HR.out.below hb); have HBD := hid hbd; clear hb hbd)
  go_upto_region 11 with (go_at_call 20; (with_reducible refine (span_any N t k a5 c5_ _ HR.out (by have := HTL.out.1; omega)).mono ?_); rw [HP.out.1, HP.out.2.1, HP.out.2.2, ← HV.out.1, ← HV.out.2.1, ← HV.out.2.2]; rintro e w1 ⟨rfl, hb⟩; have HB := hid (HB.out.step hb); have HQ := hid (HQ.out.below hb); have HR := hid (HR.out.below hb); clear hb)
  have e0 : (se != se) = false := by simp
  have HWR : Hid (se = 0 → IntKind.i64.wrap (-hi) = -hi ∧ IntKind.i64.wrap (-lo) = -lo ∧ IntKind.i64.wrap (lo + by_) = lo + by_ ∧ IntKind.i64.wrap (hi + by_) = hi + by_) := hid fun h => by
    obtain ⟨⟨p1, p2⟩, p3, p4⟩ := HBD.out h
    exact ⟨wrapk ⟨by omega, by omega⟩, wrapk ⟨by omega, by omega⟩, wrapk ⟨by omega, by omega⟩, wrapk ⟨by omega, by omega⟩⟩
  clear HBD
  generalize hW1 : w1 = W1 at *
  clear hW1
  go_cut [118] (fun s_ wx => s_ = .bool false ∧ wx = W1)
  case first =>
    by_cases hz : se = 0
    · have hz' : (se == 0) = true := by simpa using hz
      obtain ⟨q1, q2, _, _⟩ := HWR.out hz
      clear hz
      go_wp2
      go_meet
      exact ⟨rfl, rfl⟩
    · have hz' : (se == 0) = false := by simpa using hz
      clear hz
      go_wp2
      go_meet
      exact ⟨rfl, rfl⟩
  case rest =>
    obtain ⟨rfl, rfl⟩ := hcut
    go_upto_region 14 with (at_builtin; refine wpList_append_ints _ rfl (.tmp 119) (.tmp 120) rfl wc.heap.size (.slice (some ⟨wc.heap.size, 0, none⟩) 0 0) [] x rfl (OwnI.none (Nat.le_refl _) (heapn _ _ _ rfl)) b cb rfl (HX.out.below (HB.out.step (bnew _ _))) (by simp; omega) (by simp) ?_; intro v' w3 hown hgr hat; have hb := Below.grown (bnew _ _) hgr (by simp) (by intro q hq; simp [Value.ownBlock] at hq; omega); have HC := hid hb; have HO := hid hown; clear hown hgr hat hb)
    rw [List.nil_append] at HO
    have HF : Hid (false = fitIs N l x) := hid hF.symm
    clear hF e0
    go_cut [131] (fun s_ wx => s_ = .bool false ∧ Below w3.heap.size w3 wx)
    case first =>
      by_cases hn : x.length = N
      · have hne : ((x.length : Int) == (N : Int)) = true := by simp [hn]
        clear hn
        go_wp2_with (go_at_call 40; (with_reducible refine (lawfits_any N l x a cap b cb _ (HL.out.below (HB.out.step HC.out)) hlen (HX.out.below (HB.out.step HC.out)) hxl).mono ?_); rw [← HF.out]; rintro e w1 ⟨rfl, hb⟩; have HD := hid hb; clear hb)
        go_meet
        exact ⟨rfl, HD.out⟩
      · have hne : ((x.length : Int) == (N : Int)) = false := by simp; omega
        have hF : fitIs N l x = false := by
          cases h : fitIs N l x with
          | false => rfl
          | true => have := (fitIs_iff.1 h).2.1; omega
        clear hn
        go_wp2
        go_meet
        exact ⟨rfl, Below.refl _ _⟩
    case rest =>
      obtain ⟨rfl, hb⟩ := hcut
      have HC := hid (HC.out.step hb)
      have HO := hid (OwnI.later HO.out hb)
      clear hb
      rcases HQ.out with ⟨rfl, rfl, hrs, hrd⟩ | ⟨rfl, hrs⟩
      · rw [HRR.out] at hrs
        cases hrs
      · clear hrs
        go_wp2_with (go_at_call 17; refine (sanity_any _).mono ?_; rintro e w9 ⟨rfl, hb⟩; have HC := hid (HC.out.step hb); clear hb)
        go_ret
        exact ⟨rfl, HB.out.step HC.out⟩

set_option maxRecDepth 100000 in
set_option maxHeartbeats 16000000 in
theorem moved_ft (n : Int) (l : List AM) (which by_ : Int) (x : List Int) (a : Option Addr) (cap : Nat) (b : Option Addr) (cb : Nat) (w : World) (hl : Rd w a l) (hlen : l.length ≤ 9223372036854775807) (hx : RdI w b x) (hxl : x.length ≤ 9223372036854775807) (hwh : 0 ≤ which ∧ which ≤ 255) (hby : -32768 ≤ by_ ∧ by_ ≤ 32767) (h1 : lawRight n l = true) (h2 : ¬20 < x.length) (hF : fitIs n l x = false) (hR : rightsB n (l.map (shiftA (which.tmod n) by_)) = true) :
    Calls Try.prog 12 #[.int .i64 n, .slice a l.length cap, .int .u8 which, .int .i16 by_, .slice b x.length cb] w (RetB (.bool true) w) := by
  have HL := hid hl; clear hl
  have HX := hid hx; clear hx
  have HB := hid (Below.refl w.heap.size w)
  obtain ⟨h40, hc⟩ := lawRight_one h1
  obtain ⟨⟨hn1, hn2⟩, _, hrs⟩ := checkN_in hc
  have dx : decide (20 < (x.length : Int)) = false := by simp; omega
  obtain ⟨N, rfl⟩ : ∃ N : Nat, n = (N : Int) := ⟨n.toNat, by omega⟩
  obtain ⟨W8, rfl⟩ : ∃ W8 : Nat, which = (W8 : Int) := ⟨which.toNat, by omega⟩
  obtain ⟨k, hk⟩ : ∃ k : Nat, k = W8 % N := ⟨_, rfl⟩
  have hkN : k < N := by rw [hk]; exact Nat.mod_lt _ (by omega)
  have hm1 : ((W8 : Int).tmod (N : Int)) = (k : Int) := by rw [hk]; exact (Int.ofNat_tmod _ _).symm
  have hm2 : ((W8 : Int) % (N : Int)) = (k : Int) := by rw [hk]; exact (Int.natCast_emod _ _).symm
  have hidx : indexN N l k = 0 := by
    unfold indexN
    rw [if_pos hc, if_pos]
    simp [inB]
    omega
  have hct := turn_check (k := k) hc
  have htw := turn_twice k l
  have htl : (l.map (turnA k)).length = l.length := List.length_map ..
  have hst := turn_same (k := k) hc
  have hsp := turn_span (k := k) hc (by omega)
  have hidx2 : indexN N (l.map (turnA k)) k = 0 := by rw [index_of hc hct]; exact hidx
  have hse : shiftE N l k by_ = 0 := by
    unfold shiftE
    rw [if_pos hidx, if_pos]
    simp [inB]
    omega
  have hrt := (checkN_in hct).2.2
  obtain ⟨t, ht⟩ : ∃ t, t = l.map (turnA k) := ⟨_, rfl⟩
  rw [← ht] at hct htw htl hst hsp hidx2 hrt
  have hrs' := hid hrs
  have hnl := needed_short N l
  have hsl := core_short N l
  obtain ⟨s, hs⟩ : ∃ s, s = l.map (shiftA k by_) := ⟨_, rfl⟩
  have hsn : s.length = l.length := by rw [hs]; exact List.length_map ..
  have HSS := hid hs
  have HRR : Hid (rightsB N s = true) := hid (by rw [hs, ← hm1]; exact hR)
  clear hR
  have H1 := hid h1
  have HT := hid ht
  have HE := hid (And.intro hc (And.intro hidx (And.intro hct (And.intro hidx2 (And.intro hse (And.intro hrt hrs))))))
  have HW := hid htw
  have HS := hid hst
  have HP := hid hsp
  have HNL := hid (And.intro hnl hsl)
  clear h1 hk ht hc hidx hct hidx2 hse htw hst hsp hrs hrt hrs' hnl hsl hs
  have hn0 : (N : Int) ≠ 0 := by omega
  have HTL := hid (And.intro htl hsn)
  clear htl hsn
  go_enter Try.func12, Try.ntmps12
  go_upto_region 3 with (go_at_call 22; (with_reducible refine (lawright_any N l a cap _ (HL.out.below HB.out) hlen).mono ?_); rw [H1.out]; rintro e w1 ⟨rfl, hb⟩; have HB := hid (HB.out.step hb); clear hb)
  go_upto_region 4 with fail
  go_upto_region 5 with (go_at_call 44; (with_reducible refine (shifted_any N l k by_ a cap _ (HL.out.below HB.out) (by omega)).mono ?_); rintro e w1 hp; obtain ⟨a4, m4, c4, cc, rfl, hb, hq⟩ := hp.shq HE.out.2.2.2.2.1; rw [← HSS.out] at hq; have HB := hid (HB.out.step hb); have HQ := hid hq; clear hp hb hq)
  clear hm1 hm2
  go_upto_region 6 with (go_at_call 46; (with_reducible refine (turned_any N l k a cap _ (HL.out.below HB.out) (by omega)).mono ?_); rw [← HT.out]; rintro e w1 hp; obtain ⟨a5, c5_, rfl, hb, hrd⟩ := hp.good HE.out.2.1 HE.out.2.2.2.2.2.1; have HB := hid (HB.out.step hb); have HQ := hid (HQ.out.below hb); have HR := hid hrd; clear hp hb hrd)
  go_upto_region 7 with (go_at_call 46; (with_reducible refine (turned_any N t k a5 c5_ _ HR.out (by have := HTL.out.1; omega)).mono ?_); rw [HW.out]; rintro e w1 hp; obtain ⟨a6, c6, rfl, hb, hrd⟩ := hp.good HE.out.2.2.2.1 HE.out.2.2.2.2.2.2; have HB := hid (HB.out.step hb); have HQ := hid (HQ.out.below hb); have HR := hid (HR.out.below hb); have HU := hid hrd; clear hp hb hrd)
  go_upto_region 9 with (first
    | (go_at_call 49; (with_reducible refine (same_lines l l a6 a c6 cap _ HU.out (HL.out.below HB.out) (by omega) (by omega)).mono ?_); rw [show decide (l = l) = true from decide_eq_true rfl]; rintro e w1 ⟨rfl, hb⟩; have HB := hid (HB.out.step hb); have HQ := hid (HQ.out.below hb); have HR := hid (HR.out.below hb); clear hb)
    | (go_at_call 50; (with_reducible refine (alike_yes N l t a a5 cap c5_ _ (HL.out.below HB.out) HR.out (by omega) (by have := HTL.out.1; omega) HE.out.1 HE.out.2.2.1 HS.out.1 HS.out.2.1 HS.out.2.2.1 HS.out.2.2.2 (Nat.le_trans HNL.out.1 (by omega)) (Nat.le_trans HNL.out.2 (by omega))).mono ?_); rintro e w1 ⟨rfl, hb⟩; have HB := hid (HB.out.step hb); have HQ := hid (HQ.out.below hb); have HR := hid (HR.out.below hb); clear hb))
  clear HU
  obtain ⟨lo, hlo⟩ : ∃ q, q = spanLo N l k := ⟨_, rfl⟩
  obtain ⟨hi, hhi⟩ : ∃ q, q = spanHi N l k := ⟨_, rfl⟩
  obtain ⟨se, hse⟩ : ∃ q, q = spanE N l k := ⟨_, rfl⟩
  have HV := hid (And.intro hlo (And.intro hhi hse))
  clear hlo hhi hse
  go_upto_region 10 with (go_at_call 20; (with_reducible refine (span_lim N l k a cap _ (HL.out.below HB.out) (by omega)).mono ?_); rw [← HV.out.1, ← HV.out.2.1, ← HV.out.2.2]; rintro e w1 ⟨⟨rfl, hb⟩, hbd⟩; have HB := hid (HB.out.step hb); have HQ := hid (HQ.out.below hb); have HR := hid (HR.out.below hb); have HBD := hid hbd; clear hb hbd)
  go_upto_region 11 with (go_at_call 20; (with_reducible refine (span_any N t k a5 c5_ _ HR.out (by have := HTL.out.1; omega)).mono ?_); rw [HP.out.1, HP.out.2.1, HP.out.2.2, ← HV.out.1, ← HV.out.2.1, ← HV.out.2.2]; rintro e w1 ⟨rfl, hb⟩; have HB := hid (HB.out.step hb); have HQ := hid (HQ.out.below hb); have HR := hid (HR.out.below hb); clear hb)
  have e0 : (se != se) = false := by simp
  have HWR : Hid (se = 0 → IntKind.i64.wrap (-hi) = -hi ∧ IntKind.i64.wrap (-lo) = -lo ∧ IntKind.i64.wrap (lo + by_) = lo + by_ ∧ IntKind.i64.wrap (hi + by_) = hi + by_) := hid fun h => by
    obtain ⟨⟨p1, p2⟩, p3, p4⟩ := HBD.out h
    exact ⟨wrapk ⟨by omega, by omega⟩, wrapk ⟨by omega, by omega⟩, wrapk ⟨by omega, by omega⟩, wrapk ⟨by omega, by omega⟩⟩
  clear HBD
  generalize hW1 : w1 = W1 at *
  clear hW1
  go_cut [118] (fun s_ wx => s_ = .bool false ∧ wx = W1)
  case first =>
    by_cases hz : se = 0
    · have hz' : (se == 0) = true := by simpa using hz
      obtain ⟨q1, q2, _, _⟩ := HWR.out hz
      clear hz
      go_wp2
      go_meet
      exact ⟨rfl, rfl⟩
    · have hz' : (se == 0) = false := by simpa using hz
      clear hz
      go_wp2
      go_meet
      exact ⟨rfl, rfl⟩
  case rest =>
    obtain ⟨rfl, rfl⟩ := hcut
    go_upto_region 14 with (at_builtin; refine wpList_append_ints _ rfl (.tmp 119) (.tmp 120) rfl wc.heap.size (.slice (some ⟨wc.heap.size, 0, none⟩) 0 0) [] x rfl (OwnI.none (Nat.le_refl _) (heapn _ _ _ rfl)) b cb rfl (HX.out.below (HB.out.step (bnew _ _))) (by simp; omega) (by simp) ?_; intro v' w3 hown hgr hat; have hb := Below.grown (bnew _ _) hgr (by simp) (by intro q hq; simp [Value.ownBlock] at hq; omega); have HC := hid hb; have HO := hid hown; clear hown hgr hat hb)
    rw [List.nil_append] at HO
    have HF : Hid (false = fitIs N l x) := hid hF.symm
    clear hF e0
    go_cut [131] (fun s_ wx => s_ = .bool false ∧ Below w3.heap.size w3 wx)
    case first =>
      by_cases hn : x.length = N
      · have hne : ((x.length : Int) == (N : Int)) = true := by simp [hn]
        clear hn
        go_wp2_with (go_at_call 40; (with_reducible refine (lawfits_any N l x a cap b cb _ (HL.out.below (HB.out.step HC.out)) hlen (HX.out.below (HB.out.step HC.out)) hxl).mono ?_); rw [← HF.out]; rintro e w1 ⟨rfl, hb⟩; have HD := hid hb; clear hb)
        go_meet
        exact ⟨rfl, HD.out⟩
      · have hne : ((x.length : Int) == (N : Int)) = false := by simp; omega
        have hF : fitIs N l x = false := by
          cases h : fitIs N l x with
          | false => rfl
          | true => have := (fitIs_iff.1 h).2.1; omega
        clear hn
        go_wp2
        go_meet
        exact ⟨rfl, Below.refl _ _⟩
    case rest =>
      obtain ⟨rfl, hb⟩ := hcut
      have HC := hid (HC.out.step hb)
      have HO := hid (OwnI.later HO.out hb)
      clear hb
      rcases HQ.out with ⟨rfl, rfl, hrs, hrd⟩ | ⟨rfl, hrs⟩
      · have hcs : checkN N s = 0 := check_of HE.out.1 HTL.out.2 hrs
        have hsp2 := shift_span (k := k) (y := by_) HE.out.1 (by rw [← HSS.out]; exact hcs) (by omega)
        have hst2 := shift_same (k := k) (y := by_) HE.out.1 (by rw [← HSS.out]; exact hcs)
        rw [← HSS.out] at hsp2 hst2
        rw [← HV.out.1, ← HV.out.2.1, ← HV.out.2.2] at hsp2
        obtain ⟨lo2, hlo2⟩ : ∃ q, q = spanLo N s k := ⟨_, rfl⟩
        obtain ⟨hi2, hhi2⟩ : ∃ q, q = spanHi N s k := ⟨_, rfl⟩
        rw [← hlo2, ← hhi2] at hsp2
        have HS2 := hid hst2
        have HP2 := hid hsp2
        have HCS := hid hcs
        have HR4 := hid hrd
        have HV2 := hid (And.intro hlo2 hhi2)
        clear hst2 hsp2 hcs hrd hlo2 hhi2 hrs
        go_upto_region 21 with (go_at_call 20; (with_reducible refine (span_any N s k a4 c4 _ (HR4.out.below HC.out) (by have := HTL.out.2; omega)).mono ?_); rw [← HV2.out.1, ← HV2.out.2, HP2.out.1]; rintro e w9 ⟨rfl, hb⟩; have HC := hid (HC.out.step hb); clear hb)
        generalize hW2 : w9 = W2 at *
        clear hW2
        go_cut [189] (fun s_ wx => s_ = .bool false ∧ Below W2.heap.size W2 wx)
        case first =>
          have e0 : (se != se) = false := by simp
          by_cases hz : se = 0
          · have hz' : (se == 0) = true := by simpa using hz
            obtain ⟨_, _, q1, q2⟩ := HWR.out hz
            obtain ⟨r1, r2⟩ := HP2.out.2 hz
            have n1 : (lo2 != lo + by_) = false := by simp [r1]
            have n2 : (hi2 != hi + by_) = false := by simp [r2]
            clear hz r1 r2
            go_wp2_with (go_at_call 50; (with_reducible refine (alike_yes N l s a a4 cap c4 _ (HL.out.below (HB.out.step HC.out)) (HR4.out.below HC.out) (by omega) (by have := HTL.out.2; omega) HE.out.1 HCS.out HS2.out.1 HS2.out.2.1 HS2.out.2.2.1 HS2.out.2.2.2 (Nat.le_trans HNL.out.1 (by omega)) (Nat.le_trans HNL.out.2 (by omega))).mono ?_); rintro e w9 ⟨rfl, hb⟩; have HD := hid hb; clear hb)
            go_meet
            exact ⟨rfl, HD.out⟩
          · have hz' : (se == 0) = false := by simpa using hz
            clear hz
            go_wp2_with (go_at_call 50; (with_reducible refine (alike_yes N l s a a4 cap c4 _ (HL.out.below (HB.out.step HC.out)) (HR4.out.below HC.out) (by omega) (by have := HTL.out.2; omega) HE.out.1 HCS.out HS2.out.1 HS2.out.2.1 HS2.out.2.2.1 HS2.out.2.2.2 (Nat.le_trans HNL.out.1 (by omega)) (Nat.le_trans HNL.out.2 (by omega))).mono ?_); rintro e w9 ⟨rfl, hb⟩; have HD := hid hb; clear hb)
            go_meet
            exact ⟨rfl, HD.out⟩
        case rest =>
          obtain ⟨rfl, hb⟩ := hcut
          have HC := hid (HC.out.step hb)
          clear hb
          by_cases hn : x.length = N
          · have hne : ((x.length : Int) == (N : Int)) = true := by simp [hn]
            clear hn
            go_wp2_with (first
              | (go_at_call 40; (with_reducible refine (lawfits_any N l x a cap b cb _ (HL.out.below (HB.out.step HC.out)) hlen (HX.out.below (HB.out.step HC.out)) hxl).mono ?_); rw [← HF.out]; rintro e w9 ⟨rfl, hb⟩; have HC := hid (HC.out.step hb); clear hb)
              | (go_at_call 17; refine (sanity_any _).mono ?_; rintro e w9 ⟨rfl, hb⟩; have HC := hid (HC.out.step hb); clear hb))
            go_ret
            exact ⟨rfl, HB.out.step HC.out⟩
          · have hne : ((x.length : Int) == (N : Int)) = false := by simp; omega
            clear hn
            go_wp2_with (go_at_call 17; refine (sanity_any _).mono ?_; rintro e w9 ⟨rfl, hb⟩; have HC := hid (HC.out.step hb); clear hb)
            go_ret
            exact ⟨rfl, HB.out.step HC.out⟩
      · rw [HRR.out] at hrs
        cases hrs

set_option maxRecDepth 100000 in
set_option maxHeartbeats 16000000 in
theorem moved_tf (n : Int) (l : List AM) (which by_ : Int) (x : List Int) (a : Option Addr) (cap : Nat) (b : Option Addr) (cb : Nat) (w : World) (hl : Rd w a l) (hlen : l.length ≤ 9223372036854775807) (hx : RdI w b x) (hxl : x.length ≤ 9223372036854775807) (hwh : 0 ≤ which ∧ which ≤ 255) (hby : -32768 ≤ by_ ∧ by_ ≤ 32767) (h1 : lawRight n l = true) (h2 : ¬20 < x.length) (hF : fitIs n l x = true) (hR : rightsB n (l.map (shiftA (which.tmod n) by_)) = false) :
    Calls Try.prog 12 #[.int .i64 n, .slice a l.length cap, .int .u8 which, .int .i16 by_, .slice b x.length cb] w (RetB (.bool true) w) := by
  have HL := hid hl; clear hl
  have HX := hid hx; clear hx
  have HB := hid (Below.refl w.heap.size w)
  obtain ⟨h40, hc⟩ := lawRight_one h1
  obtain ⟨⟨hn1, hn2⟩, _, hrs⟩ := checkN_in hc
  have dx : decide (20 < (x.length : Int)) = false := by simp; omega
  obtain ⟨N, rfl⟩ : ∃ N : Nat, n = (N : Int) := ⟨n.toNat, by omega⟩
  obtain ⟨W8, rfl⟩ : ∃ W8 : Nat, which = (W8 : Int) := ⟨which.toNat, by omega⟩
  obtain ⟨k, hk⟩ : ∃ k : Nat, k = W8 % N := ⟨_, rfl⟩
  have hkN : k < N := by rw [hk]; exact Nat.mod_lt _ (by omega)
  have hm1 : ((W8 : Int).tmod (N : Int)) = (k : Int) := by rw [hk]; exact (Int.ofNat_tmod _ _).symm
  have hm2 : ((W8 : Int) % (N : Int)) = (k : Int) := by rw [hk]; exact (Int.natCast_emod _ _).symm
  have hidx : indexN N l k = 0 := by
    unfold indexN
    rw [if_pos hc, if_pos]
    simp [inB]
    omega
  have hct := turn_check (k := k) hc
  have htw := turn_twice k l
  have htl : (l.map (turnA k)).length = l.length := List.length_map ..
  have hst := turn_same (k := k) hc
  have hsp := turn_span (k := k) hc (by omega)
  have hidx2 : indexN N (l.map (turnA k)) k = 0 := by rw [index_of hc hct]; exact hidx
  have hse : shiftE N l k by_ = 0 := by
    unfold shiftE
    rw [if_pos hidx, if_pos]
    simp [inB]
    omega
  have hrt := (checkN_in hct).2.2
  obtain ⟨t, ht⟩ : ∃ t, t = l.map (turnA k) := ⟨_, rfl⟩
  rw [← ht] at hct htw htl hst hsp hidx2 hrt
  have hrs' := hid hrs
  have hnl := needed_short N l
  have hsl := core_short N l
  obtain ⟨s, hs⟩ : ∃ s, s = l.map (shiftA k by_) := ⟨_, rfl⟩
  have hsn : s.length = l.length := by rw [hs]; exact List.length_map ..
  have HSS := hid hs
  have HRR : Hid (rightsB N s = false) := hid (by rw [hs, ← hm1]; exact hR)
  clear hR
  have H1 := hid h1
  have HT := hid ht
  have HE := hid (And.intro hc (And.intro hidx (And.intro hct (And.intro hidx2 (And.intro hse (And.intro hrt hrs))))))
  have HW := hid htw
  have HS := hid hst
  have HP := hid hsp
  have HNL := hid (And.intro hnl hsl)
  clear h1 hk ht hc hidx hct hidx2 hse htw hst hsp hrs hrt hrs' hnl hsl hs
  have hn0 : (N : Int) ≠ 0 := by omega
  have HTL := hid (And.intro htl hsn)
  clear htl hsn
  go_enter Try.func12, Try.ntmps12
  go_upto_region 3 with (go_at_call 22; (with_reducible refine (lawright_any N l a cap _ (HL.out.below HB.out) hlen).mono ?_); rw [H1.out]; rintro e w1 ⟨rfl, hb⟩; have HB := hid (HB.out.step hb); clear hb)
  go_upto_region 4 with fail
  go_upto_region 5 with (go_at_call 44; (with_reducible refine (shifted_any N l k by_ a cap _ (HL.out.below HB.out) (by omega)).mono ?_); rintro e w1 hp; obtain ⟨a4, m4, c4, cc, rfl, hb, hq⟩ := hp.shq HE.out.2.2.2.2.1; rw [← HSS.out] at hq; have HB := hid (HB.out.step hb); have HQ := hid hq; clear hp hb hq)
  clear hm1 hm2
  go_upto_region 6 with (go_at_call 46; (with_reducible refine (turned_any N l k a cap _ (HL.out.below HB.out) (by omega)).mono ?_); rw [← HT.out]; rintro e w1 hp; obtain ⟨a5, c5_, rfl, hb, hrd⟩ := hp.good HE.out.2.1 HE.out.2.2.2.2.2.1; have HB := hid (HB.out.step hb); have HQ := hid (HQ.out.below hb); have HR := hid hrd; clear hp hb hrd)
  go_upto_region 7 with (go_at_call 46; (with_reducible refine (turned_any N t k a5 c5_ _ HR.out (by have := HTL.out.1; omega)).mono ?_); rw [HW.out]; rintro e w1 hp; obtain ⟨a6, c6, rfl, hb, hrd⟩ := hp.good HE.out.2.2.2.1 HE.out.2.2.2.2.2.2; have HB := hid (HB.out.step hb); have HQ := hid (HQ.out.below hb); have HR := hid (HR.out.below hb); have HU := hid hrd; clear hp hb hrd)
  go_upto_region 9 with (first
    | (go_at_call 49; (with_reducible refine (same_lines l l a6 a c6 cap _ HU.out (HL.out.below HB.out) (by omega) (by omega)).mono ?_); rw [show decide (l = l) = true from decide_eq_true rfl]; rintro e w1 ⟨rfl, hb⟩; have HB := hid (HB.out.step hb); have HQ := hid (HQ.out.below hb); have HR := hid (HR.out.below hb); clear hb)
    | (go_at_call 50; (with_reducible refine (alike_yes N l t a a5 cap c5_ _ (HL.out.below HB.out) HR.out (by omega) (by have := HTL.out.1; omega) HE.out.1 HE.out.2.2.1 HS.out.1 HS.out.2.1 HS.out.2.2.1 HS.out.2.2.2 (Nat.le_trans HNL.out.1 (by omega)) (Nat.le_trans HNL.out.2 (by omega))).mono ?_); rintro e w1 ⟨rfl, hb⟩; have HB := hid (HB.out.step hb); have HQ := hid (HQ.out.below hb); have HR := hid (HR.out.below hb); clear hb))
  clear HU
  obtain ⟨lo, hlo⟩ : ∃ q, q = spanLo N l k := ⟨_, rfl⟩
  obtain ⟨hi, hhi⟩ : ∃ q, q = spanHi N l k := ⟨_, rfl⟩
  obtain ⟨se, hse⟩ : ∃ q, q = spanE N l k := ⟨_, rfl⟩
  have HV := hid (And.intro hlo (And.intro hhi hse))
  clear hlo hhi hse
  go_upto_region 10 with (go_at_call 20; (with_reducible refine (span_lim N l k a cap _ (HL.out.below HB.out) (by omega)).mono ?_); rw [← HV.out.1, ← HV.out.2.1, ← HV.out.2.2]; rintro e w1 ⟨⟨rfl, hb⟩, hbd⟩; have HB := hid (HB.out.step hb); have HQ := hid (HQ.out.below hb); have HR := hid (HR.out.below hb); have HBD := hid hbd; clear hb hbd)
  go_upto_region 11 with (go_at_call 20; (with_reducible refine (span_any N t k a5 c5_ _ HR.out (by have := HTL.out.1; omega)).mono ?_); rw [HP.out.1, HP.out.2.1, HP.out.2.2, ← HV.out.1, ← HV.out.2.1, ← HV.out.2.2]; rintro e w1 ⟨rfl, hb⟩; have HB := hid (HB.out.step hb); have HQ := hid (HQ.out.below hb); have HR := hid (HR.out.below hb); clear hb)
  have e0 : (se != se) = false := by simp
  have HWR : Hid (se = 0 → IntKind.i64.wrap (-hi) = -hi ∧ IntKind.i64.wrap (-lo) = -lo ∧ IntKind.i64.wrap (lo + by_) = lo + by_ ∧ IntKind.i64.wrap (hi + by_) = hi + by_) := hid fun h => by
    obtain ⟨⟨p1, p2⟩, p3, p4⟩ := HBD.out h
    exact ⟨wrapk ⟨by omega, by omega⟩, wrapk ⟨by omega, by omega⟩, wrapk ⟨by omega, by omega⟩, wrapk ⟨by omega, by omega⟩⟩
  clear HBD
  generalize hW1 : w1 = W1 at *
  clear hW1
  go_cut [118] (fun s_ wx => s_ = .bool false ∧ wx = W1)
  case first =>
    by_cases hz : se = 0
    · have hz' : (se == 0) = true := by simpa using hz
      obtain ⟨q1, q2, _, _⟩ := HWR.out hz
      clear hz
      go_wp2
      go_meet
      exact ⟨rfl, rfl⟩
    · have hz' : (se == 0) = false := by simpa using hz
      clear hz
      go_wp2
      go_meet
      exact ⟨rfl, rfl⟩
  case rest =>
    obtain ⟨rfl, rfl⟩ := hcut
    go_upto_region 14 with (at_builtin; refine wpList_append_ints _ rfl (.tmp 119) (.tmp 120) rfl wc.heap.size (.slice (some ⟨wc.heap.size, 0, none⟩) 0 0) [] x rfl (OwnI.none (Nat.le_refl _) (heapn _ _ _ rfl)) b cb rfl (HX.out.below (HB.out.step (bnew _ _))) (by simp; omega) (by simp) ?_; intro v' w3 hown hgr hat; have hb := Below.grown (bnew _ _) hgr (by simp) (by intro q hq; simp [Value.ownBlock] at hq; omega); have HC := hid hb; have HO := hid hown; clear hown hgr hat hb)
    rw [List.nil_append] at HO
    have HF : Hid (true = fitIs N l x) := hid hF.symm
    clear hF e0
    go_cut [131] (fun s_ wx => s_ = .bool true ∧ Below w3.heap.size w3 wx)
    case first =>
      by_cases hn : x.length = N
      · have hne : ((x.length : Int) == (N : Int)) = true := by simp [hn]
        clear hn
        go_wp2_with (go_at_call 40; (with_reducible refine (lawfits_any N l x a cap b cb _ (HL.out.below (HB.out.step HC.out)) hlen (HX.out.below (HB.out.step HC.out)) hxl).mono ?_); rw [← HF.out]; rintro e w1 ⟨rfl, hb⟩; have HD := hid hb; clear hb)
        go_meet
        exact ⟨rfl, HD.out⟩
      · have hne : ((x.length : Int) == (N : Int)) = false := by simp; omega
        have hF : fitIs N l x = false := by
          cases h : fitIs N l x with
          | false => rfl
          | true => have := (fitIs_iff.1 h).2.1; omega
        have := HF.out
        rw [hF] at this
        cases this
    case rest =>
      obtain ⟨rfl, hb⟩ := hcut
      have HC := hid (HC.out.step hb)
      have HO := hid (OwnI.later HO.out hb)
      clear hb
      have hft := HF.out.symm
      have hxn : x.length = N := by have := (fitIs_iff.1 hft).2.1; omega
      have hkx : k < x.length := by omega
      have hne : ((x.length : Int) == (N : Int)) = true := by simp [hxn]
      obtain ⟨g, cy, rfl, hg, hbi⟩ := BI.of_own HO.out (by intro h; rw [h] at hkx; simp at hkx)
      obtain ⟨bb, off, hbe, hlt, hcell⟩ := (HX.out.below (HB.out.step HC.out)) k hkx
      subst hbe
      obtain ⟨xk, hxk⟩ : ∃ q, q = x[k] := ⟨_, rfl⟩
      have hxb : -1099511627776 ≤ xk ∧ xk ≤ 1099511627776 := by
        have := List.all_eq_true.1 (fitIs_iff.1 hft).2.2.1 _ (List.getElem_mem hkx)
        rw [hxk]
        simpa [inF, inB] using this
      obtain ⟨hxb1, hxb2⟩ := hxb
      have htf := turn_fits (l := l) hkx hft
      rw [← hxk, ← HT.out] at htf
      rw [← hxk] at hcell
      have HFT := hid hft
      have HTF := hid htf
      have HXK := hid hxk
      have HY := hid hbi
      have yc := hbi.at hkx
      rw [← hxk] at yc
      have yf := hbi.frozen k
      have wr : IntKind.i64.wrap (-xk) = -xk := wrapk ⟨by omega, by omega⟩
      have hk0 : (0 : Int) ≤ k := by omega
      have hk1 : (k : Int) < (x.length : Int) := by omega
      clear hft htf hxk hbi hxn
      go_upto_region 16 with fail
      have HY := hid (HY.out.set hkx (-xk))
      have HC := hid (Below.setCell HC.out (p := ⟨g, k, none⟩) hg (.int .i64 (-xk)))
      clear wr yc yf hcell
      generalize wc.setCell ⟨g, k, none⟩ (.int .i64 (-xk)) = W5 at *
      go_upto_region 18 with (go_at_call 40; (with_reducible refine (lawfits_len N t (x.set k (-xk)) x.length (List.length_set ..) a5 c5_ (some ⟨g, 0, none⟩) cy _ (HR.out.below HC.out) (by have := HTL.out.1; omega) HY.out.rd hxl).mono ?_); rw [HTF.out]; rintro e w9 ⟨rfl, hb⟩; have HC := hid (HC.out.step hb); have HY := hid (HY.out.below hb); clear hb)
      have hky : k < (x.set k (-xk)).length := by rw [List.length_set]; exact hkx
      rcases HQ.out with ⟨rfl, rfl, hrs, hrd⟩ | ⟨rfl, hrs⟩
      · rw [HRR.out] at hrs
        cases hrs
      · clear hrs
        go_wp2_with (go_at_call 17; refine (sanity_any _).mono ?_; rintro e w9 ⟨rfl, hb⟩; have HC := hid (HC.out.step hb); clear hb)
        go_ret
        exact ⟨rfl, HB.out.step HC.out⟩

set_option maxRecDepth 100000 in
set_option maxHeartbeats 16000000 in
theorem moved_tt (n : Int) (l : List AM) (which by_ : Int) (x : List Int) (a : Option Addr) (cap : Nat) (b : Option Addr) (cb : Nat) (w : World) (hl : Rd w a l) (hlen : l.length ≤ 9223372036854775807) (hx : RdI w b x) (hxl : x.length ≤ 9223372036854775807) (hwh : 0 ≤ which ∧ which ≤ 255) (hby : -32768 ≤ by_ ∧ by_ ≤ 32767) (h1 : lawRight n l = true) (h2 : ¬20 < x.length) (hF : fitIs n l x = true) (hR : rightsB n (l.map (shiftA (which.tmod n) by_)) = true) :
    Calls Try.prog 12 #[.int .i64 n, .slice a l.length cap, .int .u8 which, .int .i16 by_, .slice b x.length cb] w (RetB (.bool true) w) := by
  have HL := hid hl; clear hl
  have HX := hid hx; clear hx
  have HB := hid (Below.refl w.heap.size w)
  obtain ⟨h40, hc⟩ := lawRight_one h1
  obtain ⟨⟨hn1, hn2⟩, _, hrs⟩ := checkN_in hc
  have dx : decide (20 < (x.length : Int)) = false := by simp; omega
  obtain ⟨N, rfl⟩ : ∃ N : Nat, n = (N : Int) := ⟨n.toNat, by omega⟩
  obtain ⟨W8, rfl⟩ : ∃ W8 : Nat, which = (W8 : Int) := ⟨which.toNat, by omega⟩
  obtain ⟨k, hk⟩ : ∃ k : Nat, k = W8 % N := ⟨_, rfl⟩
  have hkN : k < N := by rw [hk]; exact Nat.mod_lt _ (by omega)
  have hm1 : ((W8 : Int).tmod (N : Int)) = (k : Int) := by rw [hk]; exact (Int.ofNat_tmod _ _).symm
  have hm2 : ((W8 : Int) % (N : Int)) = (k : Int) := by rw [hk]; exact (Int.natCast_emod _ _).symm
  have hidx : indexN N l k = 0 := by
    unfold indexN
    rw [if_pos hc, if_pos]
    simp [inB]
    omega
  have hct := turn_check (k := k) hc
  have htw := turn_twice k l
  have htl : (l.map (turnA k)).length = l.length := List.length_map ..
  have hst := turn_same (k := k) hc
  have hsp := turn_span (k := k) hc (by omega)
  have hidx2 : indexN N (l.map (turnA k)) k = 0 := by rw [index_of hc hct]; exact hidx
  have hse : shiftE N l k by_ = 0 := by
    unfold shiftE
    rw [if_pos hidx, if_pos]
    simp [inB]
    omega
  have hrt := (checkN_in hct).2.2
  obtain ⟨t, ht⟩ : ∃ t, t = l.map (turnA k) := ⟨_, rfl⟩
  rw [← ht] at hct htw htl hst hsp hidx2 hrt
  have hrs' := hid hrs
  have hnl := needed_short N l
  have hsl := core_short N l
  obtain ⟨s, hs⟩ : ∃ s, s = l.map (shiftA k by_) := ⟨_, rfl⟩
  have hsn : s.length = l.length := by rw [hs]; exact List.length_map ..
  have HSS := hid hs
  have HRR : Hid (rightsB N s = true) := hid (by rw [hs, ← hm1]; exact hR)
  clear hR
  have H1 := hid h1
  have HT := hid ht
  have HE := hid (And.intro hc (And.intro hidx (And.intro hct (And.intro hidx2 (And.intro hse (And.intro hrt hrs))))))
  have HW := hid htw
  have HS := hid hst
  have HP := hid hsp
  have HNL := hid (And.intro hnl hsl)
  clear h1 hk ht hc hidx hct hidx2 hse htw hst hsp hrs hrt hrs' hnl hsl hs
  have hn0 : (N : Int) ≠ 0 := by omega
  have HTL := hid (And.intro htl hsn)
  clear htl hsn
  go_enter Try.func12, Try.ntmps12
  go_upto_region 3 with (go_at_call 22; (with_reducible refine (lawright_any N l a cap _ (HL.out.below HB.out) hlen).mono ?_); rw [H1.out]; rintro e w1 ⟨rfl, hb⟩; have HB := hid (HB.out.step hb); clear hb)
  go_upto_region 4 with fail
  go_upto_region 5 with (go_at_call 44; (with_reducible refine (shifted_any N l k by_ a cap _ (HL.out.below HB.out) (by omega)).mono ?_); rintro e w1 hp; obtain ⟨a4, m4, c4, cc, rfl, hb, hq⟩ := hp.shq HE.out.2.2.2.2.1; rw [← HSS.out] at hq; have HB := hid (HB.out.step hb); have HQ := hid hq; clear hp hb hq)
  clear hm1 hm2
  go_upto_region 6 with (go_at_call 46; (with_reducible refine (turned_any N l k a cap _ (HL.out.below HB.out) (by omega)).mono ?_); rw [← HT.out]; rintro e w1 hp; obtain ⟨a5, c5_, rfl, hb, hrd⟩ := hp.good HE.out.2.1 HE.out.2.2.2.2.2.1; have HB := hid (HB.out.step hb); have HQ := hid (HQ.out.below hb); have HR := hid hrd; clear hp hb hrd)
  go_upto_region 7 with (go_at_call 46; (with_reducible refine (turned_any N t k a5 c5_ _ HR.out (by have := HTL.out.1; omega)).mono ?_); rw [HW.out]; rintro e w1 hp; obtain ⟨a6, c6, rfl, hb, hrd⟩ := hp.good HE.out.2.2.2.1 HE.out.2.2.2.2.2.2; have HB := hid (HB.out.step hb); have HQ := hid (HQ.out.below hb); have HR := hid (HR.out.below hb); have HU := hid hrd; clear hp hb hrd)
  go_upto_region 9 with (first
    | (go_at_call 49; (with_reducible refine (same_lines l l a6 a c6 cap _ HU.out (HL.out.below HB.out) (by omega) (by omega)).mono ?_); rw [show decide (l = l) = true from decide_eq_true rfl]; rintro e w1 ⟨rfl, hb⟩; have HB := hid (HB.out.step hb); have HQ := hid (HQ.out.below hb); have HR := hid (HR.out.below hb); clear hb)
    | (go_at_call 50; (with_reducible refine (alike_yes N l t a a5 cap c5_ _ (HL.out.below HB.out) HR.out (by omega) (by have := HTL.out.1; omega) HE.out.1 HE.out.2.2.1 HS.out.1 HS.out.2.1 HS.out.2.2.1 HS.out.2.2.2 (Nat.le_trans HNL.out.1 (by omega)) (Nat.le_trans HNL.out.2 (by omega))).mono ?_); rintro e w1 ⟨rfl, hb⟩; have HB := hid (HB.out.step hb); have HQ := hid (HQ.out.below hb); have HR := hid (HR.out.below hb); clear hb))
  clear HU
  obtain ⟨lo, hlo⟩ : ∃ q, q = spanLo N l k := ⟨_, rfl⟩
  obtain ⟨hi, hhi⟩ : ∃ q, q = spanHi N l k := ⟨_, rfl⟩
  obtain ⟨se, hse⟩ : ∃ q, q = spanE N l k := ⟨_, rfl⟩
  have HV := hid (And.intro hlo (And.intro hhi hse))
  clear hlo hhi hse
  go_upto_region 10 with (go_at_call 20; (with_reducible refine (span_lim N l k a cap _ (HL.out.below HB.out) (by omega)).mono ?_); rw [← HV.out.1, ← HV.out.2.1, ← HV.out.2.2]; rintro e w1 ⟨⟨rfl, hb⟩, hbd⟩; have HB := hid (HB.out.step hb); have HQ := hid (HQ.out.below hb); have HR := hid (HR.out.below hb); have HBD := hid hbd; clear hb hbd)
  go_upto_region 11 with (go_at_call 20; (with_reducible refine (span_any N t k a5 c5_ _ HR.out (by have := HTL.out.1; omega)).mono ?_); rw [HP.out.1, HP.out.2.1, HP.out.2.2, ← HV.out.1, ← HV.out.2.1, ← HV.out.2.2]; rintro e w1 ⟨rfl, hb⟩; have HB := hid (HB.out.step hb); have HQ := hid (HQ.out.below hb); have HR := hid (HR.out.below hb); clear hb)
  have e0 : (se != se) = false := by simp
  have HWR : Hid (se = 0 → IntKind.i64.wrap (-hi) = -hi ∧ IntKind.i64.wrap (-lo) = -lo ∧ IntKind.i64.wrap (lo + by_) = lo + by_ ∧ IntKind.i64.wrap (hi + by_) = hi + by_) := hid fun h => by
    obtain ⟨⟨p1, p2⟩, p3, p4⟩ := HBD.out h
    exact ⟨wrapk ⟨by omega, by omega⟩, wrapk ⟨by omega, by omega⟩, wrapk ⟨by omega, by omega⟩, wrapk ⟨by omega, by omega⟩⟩
  clear HBD
  generalize hW1 : w1 = W1 at *
  clear hW1
  go_cut [118] (fun s_ wx => s_ = .bool false ∧ wx = W1)
  case first =>
    by_cases hz : se = 0
    · have hz' : (se == 0) = true := by simpa using hz
      obtain ⟨q1, q2, _, _⟩ := HWR.out hz
      clear hz
      go_wp2
      go_meet
      exact ⟨rfl, rfl⟩
    · have hz' : (se == 0) = false := by simpa using hz
      clear hz
      go_wp2
      go_meet
      exact ⟨rfl, rfl⟩
  case rest =>
    obtain ⟨rfl, rfl⟩ := hcut
    go_upto_region 14 with (at_builtin; refine wpList_append_ints _ rfl (.tmp 119) (.tmp 120) rfl wc.heap.size (.slice (some ⟨wc.heap.size, 0, none⟩) 0 0) [] x rfl (OwnI.none (Nat.le_refl _) (heapn _ _ _ rfl)) b cb rfl (HX.out.below (HB.out.step (bnew _ _))) (by simp; omega) (by simp) ?_; intro v' w3 hown hgr hat; have hb := Below.grown (bnew _ _) hgr (by simp) (by intro q hq; simp [Value.ownBlock] at hq; omega); have HC := hid hb; have HO := hid hown; clear hown hgr hat hb)
    rw [List.nil_append] at HO
    have HF : Hid (true = fitIs N l x) := hid hF.symm
    clear hF e0
    go_cut [131] (fun s_ wx => s_ = .bool true ∧ Below w3.heap.size w3 wx)
    case first =>
      by_cases hn : x.length = N
      · have hne : ((x.length : Int) == (N : Int)) = true := by simp [hn]
        clear hn
        go_wp2_with (go_at_call 40; (with_reducible refine (lawfits_any N l x a cap b cb _ (HL.out.below (HB.out.step HC.out)) hlen (HX.out.below (HB.out.step HC.out)) hxl).mono ?_); rw [← HF.out]; rintro e w1 ⟨rfl, hb⟩; have HD := hid hb; clear hb)
        go_meet
        exact ⟨rfl, HD.out⟩
      · have hne : ((x.length : Int) == (N : Int)) = false := by simp; omega
        have hF : fitIs N l x = false := by
          cases h : fitIs N l x with
          | false => rfl
          | true => have := (fitIs_iff.1 h).2.1; omega
        have := HF.out
        rw [hF] at this
        cases this
    case rest =>
      obtain ⟨rfl, hb⟩ := hcut
      have HC := hid (HC.out.step hb)
      have HO := hid (OwnI.later HO.out hb)
      clear hb
      have hft := HF.out.symm
      have hxn : x.length = N := by have := (fitIs_iff.1 hft).2.1; omega
      have hkx : k < x.length := by omega
      have hne : ((x.length : Int) == (N : Int)) = true := by simp [hxn]
      obtain ⟨g, cy, rfl, hg, hbi⟩ := BI.of_own HO.out (by intro h; rw [h] at hkx; simp at hkx)
      obtain ⟨bb, off, hbe, hlt, hcell⟩ := (HX.out.below (HB.out.step HC.out)) k hkx
      subst hbe
      obtain ⟨xk, hxk⟩ : ∃ q, q = x[k] := ⟨_, rfl⟩
      have hxb : -1099511627776 ≤ xk ∧ xk ≤ 1099511627776 := by
        have := List.all_eq_true.1 (fitIs_iff.1 hft).2.2.1 _ (List.getElem_mem hkx)
        rw [hxk]
        simpa [inF, inB] using this
      obtain ⟨hxb1, hxb2⟩ := hxb
      have htf := turn_fits (l := l) hkx hft
      rw [← hxk, ← HT.out] at htf
      rw [← hxk] at hcell
      have HFT := hid hft
      have HTF := hid htf
      have HXK := hid hxk
      have HY := hid hbi
      have yc := hbi.at hkx
      rw [← hxk] at yc
      have yf := hbi.frozen k
      have wr : IntKind.i64.wrap (-xk) = -xk := wrapk ⟨by omega, by omega⟩
      have hk0 : (0 : Int) ≤ k := by omega
      have hk1 : (k : Int) < (x.length : Int) := by omega
      clear hft htf hxk hbi hxn
      go_upto_region 16 with fail
      have HY := hid (HY.out.set hkx (-xk))
      have HC := hid (Below.setCell HC.out (p := ⟨g, k, none⟩) hg (.int .i64 (-xk)))
      clear wr yc yf hcell
      generalize wc.setCell ⟨g, k, none⟩ (.int .i64 (-xk)) = W5 at *
      go_upto_region 18 with (go_at_call 40; (with_reducible refine (lawfits_len N t (x.set k (-xk)) x.length (List.length_set ..) a5 c5_ (some ⟨g, 0, none⟩) cy _ (HR.out.below HC.out) (by have := HTL.out.1; omega) HY.out.rd hxl).mono ?_); rw [HTF.out]; rintro e w9 ⟨rfl, hb⟩; have HC := hid (HC.out.step hb); have HY := hid (HY.out.below hb); clear hb)
      have hky : k < (x.set k (-xk)).length := by rw [List.length_set]; exact hkx
      rcases HQ.out with ⟨rfl, rfl, hrs, hrd⟩ | ⟨rfl, hrs⟩
      · have hcs : checkN N s = 0 := check_of HE.out.1 HTL.out.2 hrs
        have hsp2 := shift_span (k := k) (y := by_) HE.out.1 (by rw [← HSS.out]; exact hcs) (by omega)
        have hst2 := shift_same (k := k) (y := by_) HE.out.1 (by rw [← HSS.out]; exact hcs)
        rw [← HSS.out] at hsp2 hst2
        rw [← HV.out.1, ← HV.out.2.1, ← HV.out.2.2] at hsp2
        obtain ⟨lo2, hlo2⟩ : ∃ q, q = spanLo N s k := ⟨_, rfl⟩
        obtain ⟨hi2, hhi2⟩ : ∃ q, q = spanHi N s k := ⟨_, rfl⟩
        rw [← hlo2, ← hhi2] at hsp2
        have HS2 := hid hst2
        have HP2 := hid hsp2
        have HCS := hid hcs
        have HR4 := hid hrd
        have HV2 := hid (And.intro hlo2 hhi2)
        clear hst2 hsp2 hcs hrd hlo2 hhi2 hrs
        go_upto_region 21 with (go_at_call 20; (with_reducible refine (span_any N s k a4 c4 _ (HR4.out.below HC.out) (by have := HTL.out.2; omega)).mono ?_); rw [← HV2.out.1, ← HV2.out.2, HP2.out.1]; rintro e w9 ⟨rfl, hb⟩; have HC := hid (HC.out.step hb); have HY := hid (HY.out.below hb); clear hb)
        generalize hW2 : w9 = W2 at *
        clear hW2
        go_cut [189] (fun s_ wx => s_ = .bool false ∧ Below W2.heap.size W2 wx)
        case first =>
          have e0 : (se != se) = false := by simp
          by_cases hz : se = 0
          · have hz' : (se == 0) = true := by simpa using hz
            obtain ⟨_, _, q1, q2⟩ := HWR.out hz
            obtain ⟨r1, r2⟩ := HP2.out.2 hz
            have n1 : (lo2 != lo + by_) = false := by simp [r1]
            have n2 : (hi2 != hi + by_) = false := by simp [r2]
            clear hz r1 r2
            go_wp2_with (go_at_call 50; (with_reducible refine (alike_yes N l s a a4 cap c4 _ (HL.out.below (HB.out.step HC.out)) (HR4.out.below HC.out) (by omega) (by have := HTL.out.2; omega) HE.out.1 HCS.out HS2.out.1 HS2.out.2.1 HS2.out.2.2.1 HS2.out.2.2.2 (Nat.le_trans HNL.out.1 (by omega)) (Nat.le_trans HNL.out.2 (by omega))).mono ?_); rintro e w9 ⟨rfl, hb⟩; have HD := hid hb; clear hb)
            go_meet
            exact ⟨rfl, HD.out⟩
          · have hz' : (se == 0) = false := by simpa using hz
            clear hz
            go_wp2_with (go_at_call 50; (with_reducible refine (alike_yes N l s a a4 cap c4 _ (HL.out.below (HB.out.step HC.out)) (HR4.out.below HC.out) (by omega) (by have := HTL.out.2; omega) HE.out.1 HCS.out HS2.out.1 HS2.out.2.1 HS2.out.2.2.1 HS2.out.2.2.2 (Nat.le_trans HNL.out.1 (by omega)) (Nat.le_trans HNL.out.2 (by omega))).mono ?_); rintro e w9 ⟨rfl, hb⟩; have HD := hid hb; clear hb)
            go_meet
            exact ⟨rfl, HD.out⟩
        case rest =>
          obtain ⟨rfl, hb⟩ := hcut
          have HC := hid (HC.out.step hb)
          have HY := hid (HY.out.below hb)
          clear hb
          by_cases hb1 : xk < 549755813888
          · have d1 : decide (xk < 549755813888) = true := by simpa using hb1
            by_cases hb2 : -549755813888 < xk
            · have d2 : decide (-549755813888 < xk) = true := by simpa using hb2
              have wr : IntKind.i64.wrap (xk + by_) = xk + by_ := wrapk ⟨by omega, by omega⟩
              go_upto_region 25 with ((go_at_call 40; (with_reducible refine (lawfits_any N l x a cap (some ⟨bb, off, none⟩) cb _ (HL.out.below (HB.out.step HC.out)) hlen (HX.out.below (HB.out.step HC.out)) hxl).mono ?_); rw [← HF.out]; rintro e w9 ⟨rfl, hb⟩; have HC := hid (HC.out.step hb); have HY := hid (HY.out.below hb); obtain ⟨b7, o7, hbe, _, hcell⟩ := (HX.out.below (HB.out.step HC.out)) k hkx; cases hbe; rw [← HXK.out] at hcell; have yc := HY.out.at hky; have yf := HY.out.frozen k; clear hb))
              clear wr
              generalize hW4 : w9 = W4 at *
              clear hW4
              have HY := hid (HY.out.set hky (xk + by_))
              have HC := hid (Below.setCell HC.out (p := ⟨g, k, none⟩) hg (.int .i64 (xk + by_)))
              have hfs := shift_fits (k := k) (y := by_) hkx HFT.out (by rw [← HSS.out]; exact HCS.out) (by rw [← HXK.out]; omega) (by omega)
              rw [← HSS.out, ← HXK.out] at hfs
              have HY := hid (by have := HY.out; rwa [List.set_set] at this : BI _ g (x.set k (xk + by_)))
              have HFS := hid hfs
              clear hfs yc yf hcell
              generalize W4.setCell ⟨g, k, none⟩ (.int .i64 (xk + by_)) = W5 at *
              go_wp2_with (first
                | (go_at_call 17; refine (sanity_any _).mono ?_; rintro e w9 ⟨rfl, hb⟩; have HC := hid (HC.out.step hb); have HY := hid (HY.out.below hb); clear hb)
                | (go_at_call 40; (with_reducible refine (lawfits_len N s (x.set k (xk + by_)) x.length (List.length_set ..) a4 c4 (some ⟨g, 0, none⟩) cy _ (HR4.out.below HC.out) (by have := HTL.out.2; omega) HY.out.rd hxl).mono ?_); rw [HFS.out]; rintro e w9 ⟨rfl, hb⟩; have HC := hid (HC.out.step hb); clear hb))
              go_ret
              exact ⟨rfl, HB.out.step HC.out⟩
            · have d2 : decide (-549755813888 < xk) = false := by simpa using hb2
              go_wp2_with (first
                | (go_at_call 40; (with_reducible refine (lawfits_any N l x a cap (some ⟨bb, off, none⟩) cb _ (HL.out.below (HB.out.step HC.out)) hlen (HX.out.below (HB.out.step HC.out)) hxl).mono ?_); rw [← HF.out]; rintro e w9 ⟨rfl, hb⟩; have HC := hid (HC.out.step hb); have HY := hid (HY.out.below hb); obtain ⟨b7, o7, hbe, _, hcell⟩ := (HX.out.below (HB.out.step HC.out)) k hkx; cases hbe; rw [← HXK.out] at hcell; have yc := HY.out.at hky; have yf := HY.out.frozen k; clear hb)
                | (go_at_call 17; refine (sanity_any _).mono ?_; rintro e w9 ⟨rfl, hb⟩; have HC := hid (HC.out.step hb); clear hb))
              go_ret
              exact ⟨rfl, HB.out.step HC.out⟩
          · have d1 : decide (xk < 549755813888) = false := by simpa using hb1
            go_wp2_with (first
              | (go_at_call 40; (with_reducible refine (lawfits_any N l x a cap (some ⟨bb, off, none⟩) cb _ (HL.out.below (HB.out.step HC.out)) hlen (HX.out.below (HB.out.step HC.out)) hxl).mono ?_); rw [← HF.out]; rintro e w9 ⟨rfl, hb⟩; have HC := hid (HC.out.step hb); have HY := hid (HY.out.below hb); obtain ⟨b7, o7, hbe, _, hcell⟩ := (HX.out.below (HB.out.step HC.out)) k hkx; cases hbe; rw [← HXK.out] at hcell; have yc := HY.out.at hky; have yf := HY.out.frozen k; clear hb)
              | (go_at_call 17; refine (sanity_any _).mono ?_; rintro e w9 ⟨rfl, hb⟩; have HC := hid (HC.out.step hb); clear hb))
            go_ret
            exact ⟨rfl, HB.out.step HC.out⟩
      · rw [HRR.out] at hrs
        cases hrs

set_option maxRecDepth 100000 in
set_option maxHeartbeats 16000000 in
theorem moved_any (n : Int) (l : List AM) (which by_ : Int) (x : List Int) (a : Option Addr) (cap : Nat) (b : Option Addr) (cb : Nat) (w : World) (hl : Rd w a l) (hlen : l.length ≤ 9223372036854775807) (hx : RdI w b x) (hxl : x.length ≤ 9223372036854775807) (hwh : 0 ≤ which ∧ which ≤ 255) (hby : -32768 ≤ by_ ∧ by_ ≤ 32767) :
    Calls Try.prog 12 #[.int .i64 n, .slice a l.length cap, .int .u8 which, .int .i16 by_, .slice b x.length cb] w (RetB (.bool true) w) := by
  have HL := hid hl; clear hl
  have HX := hid hx; clear hx
  have HB := hid (Below.refl w.heap.size w)
  by_cases h1 : lawRight n l = true
  · by_cases h2 : 20 < x.length
    · have H1 := hid h1
      have dx : decide (20 < (x.length : Int)) = true := by simp; omega
      clear h1
      go_enter Try.func12, Try.ntmps12
      go_wp2_with (first
        | (go_at_call 22; (with_reducible refine (lawright_any n l a cap _ (HL.out.below HB.out) hlen).mono ?_); rw [H1.out]; rintro e w1 ⟨rfl, hb⟩; have HB := hid (HB.out.step hb); clear hb)
        | (go_at_call 17; refine (sanity_any _).mono ?_; rintro e w1 ⟨rfl, hb⟩; have HB := hid (HB.out.step hb); clear hb))
      go_ret
      exact ⟨rfl, HB.out⟩
    · cases hF : fitIs n l x with
      | false =>
        cases hR : rightsB n (l.map (shiftA (which.tmod n) by_)) with
        | false => exact moved_ff n l which by_ x a cap b cb w HL.out hlen HX.out hxl hwh hby h1 h2 hF hR
        | true => exact moved_ft n l which by_ x a cap b cb w HL.out hlen HX.out hxl hwh hby h1 h2 hF hR
      | true =>
        cases hR : rightsB n (l.map (shiftA (which.tmod n) by_)) with
        | false => exact moved_tf n l which by_ x a cap b cb w HL.out hlen HX.out hxl hwh hby h1 h2 hF hR
        | true => exact moved_tt n l which by_ x a cap b cb w HL.out hlen HX.out hxl hwh hby h1 h2 hF hR
  · have h1' : lawRight n l = false := by simpa using h1
    have H1 := hid h1'
    clear h1 h1'
    go_enter Try.func12, Try.ntmps12
    go_wp2_with (first
      | (go_at_call 22; (with_reducible refine (lawright_any n l a cap _ (HL.out.below HB.out) hlen).mono ?_); rw [H1.out]; rintro e w1 ⟨rfl, hb⟩; have HB := hid (HB.out.step hb); clear hb)
      | (go_at_call 17; refine (sanity_any _).mono ?_; rintro e w1 ⟨rfl, hb⟩; have HB := hid (HB.out.step hb); clear hb))
    go_ret
    exact ⟨rfl, HB.out⟩

open Go.ChangeShapes Go.WideShapes Go.ChangeAt Go.RowKit

theorem read87 : Try.prog.readableRec 87 = true := by kernel_rfl
theorem row87 : 87 < Try.prog.types.size := of_decide_eq_true (by kernel_rfl)

set_option maxRecDepth 100000 in
set_option maxHeartbeats 1000000 in
theorem moved_lifted (os : Os) (started : os.Started) (H : Type) (enc : TypeId × Value → H) :
    ReturnsInHanded {} Try.checked os 12 .any (Rows.proveMovedSpec.pre6 enc Try.prog Try.f12 Rows.proveMovedRow.domain false) (Rows.proveMovedSpec.post enc Try.prog Try.f12 false true false false) := by
  refine returnsInHanded_of_change (C := Try.checked) Try.own started (by kernel_rfl) Try.func12
    (ChangeSpec.witness6 (enc := enc) (C := Try.checked) false ⟨#[], #[.int .i64 0, .slice none 0 0, .int .u8 0, .int .i16 0, .slice none 0 0], []⟩ 8 (by kernel_rfl) (by kernel_rfl) (by kernel_rfl) (by kernel_rfl)) ?_
  intro W base args ds gs before hval0 hW hcnd _
  have hval : ∀ (j : Nat) t v, Try.f12.params[j]? = some t → args[j]? = some v → Value.okWide Try.prog W .any base t v := hval0
  have hW' := hW
  obtain ⟨p, q, hA0, hV, rfl, _, _⟩ := hW
  have hA : DataW.TrodAll enc Try.prog W 0 (fun _ => true) true Try.f12.params.toList args.toList ds p := hA0
  rw [Try.params12] at hA hval
  obtain ⟨args⟩ := args
  obtain ⟨v0, vs0, d0, ds0, p0, q0, rfl, rfl, rfl, h0, r0⟩ := trodAll_cons hA
  obtain ⟨v1, vs1, d1, ds1, p1, q1, rfl, rfl, rfl, h1, r1⟩ := trodAll_cons r0
  obtain ⟨v2, vs2, d2, ds2, p2, q2, rfl, rfl, rfl, h2, r2⟩ := trodAll_cons r1
  obtain ⟨v3, vs3, d3, ds3, p3, q3, rfl, rfl, rfl, h3, r3⟩ := trodAll_cons r2
  obtain ⟨v4, vs4, d4, ds4, p4, q4, rfl, rfl, rfl, h4, r4⟩ := trodAll_cons r3
  obtain ⟨rfl, rfl, rfl⟩ := trodAll_nil r4
  obtain ⟨rfl, rfl⟩ := trodVars_none hV
  obtain ⟨n, rfl, rfl, rfl, w0⟩ := open_int Try.underlying3 (hval 0 3 v0 rfl rfl) h0
  obtain ⟨l, sl1, c1, rfl, hr1, hl1⟩ := open_lines (hval 1 22 v1 rfl rfl) h1
  obtain ⟨c, rfl, rfl, rfl, w2⟩ := open_int Try.underlying5 (hval 2 5 v2 rfl rfl) h2
  obtain ⟨d, rfl, rfl, rfl, w3⟩ := open_int Try.underlying87 (hval 3 87 v3 rfl rfl) h3
  obtain ⟨x, sl4, c4, rfl, hr4, hl4⟩ := open_nums (hval 4 46 v4 rfl rfl) h4
  have hlt : ∀ x ∈ [] ++ (p1 ++ ([] ++ ([] ++ (p4 ++ [])))), x.block < W.heap.size := fun x hx => hW'.lt x (by simpa using hx)
  refine (moved_any n l c d x sl1 c1 sl4 c4 W hr1 hl1 hr4 hl4 (bounds_u8 w2) (bounds_i16 w3)).mono fun e W' ⟨he, hb⟩ => ?_
  subst he
  refine ⟨_, rfl, _, _, _, [], [] ++ (p1 ++ ([] ++ ([] ++ (p4 ++ [])))), [], hW', trodAll_mk1 (shut_bool Try.underlying4 true), ?_, rfl, hb.frame _, fun h => by cases h⟩
  exact (trodAll_cons_mk (stays read3 row3 h0 hb (fun x hx => by cases hx)) (trodAll_cons_mk (stays read22 row22 h1 hb (fun x hx => hlt x (by simp [hx]))) (trodAll_cons_mk (stays read5 row5 h2 hb (fun x hx => by cases hx)) (trodAll_cons_mk (stays read87 row87 h3 hb (fun x hx => by cases hx)) (trodAll_cons_mk (stays read46 row46 h4 hb (fun x hx => hlt x (by simp [hx]))) trodAll_mk0)))))

theorem moved_holds : Rows.ProveMovedSaid :=
  OpenClaim.holds_of_wide 12 Try.f12 rfl rfl rfl rfl rfl rfl rfl ⟨rfl, rfl, rfl, rfl, rfl⟩ rfl rfl rfl rfl rfl (by kernel_rfl) Try.func12 (by kernel_rfl)
    (of_decide_eq_true (by kernel_rfl)) (by unfold Func.isWrapper; first | (rw [if_pos (by decide +kernel)]; kernel_rfl) | (rw [if_neg (by decide +kernel)]; exact ⟨rfl, rfl⟩))
    (fun os started H enc _ => moved_lifted os started H enc)
#print axioms moved_holds
end Go.Proofs.Ytnjbahiaelehkaa
