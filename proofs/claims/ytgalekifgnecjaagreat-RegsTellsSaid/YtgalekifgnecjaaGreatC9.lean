/- writable of package regs. -/
import Derived.Test.YtgalekifgnecjaaGreatC8
import Derived.Deep.CutBlock
namespace Go.Proofs.YtgalekifgnecjaaGreat
open Go.RowKit Go.Shelf

theorem k98 (x p g : Nat) (L : List Int) (w : World) (hp : w.cell? ⟨p, 0, none⟩ = some (.slice (some ⟨g, 0, none⟩) L.length L.length)) (hb : BI w g L) (hx : x < L.length) (_hl : L.length ≤ 1000000) :
    Calls Tryz.prog 98 #[.int .i64 x, .pointer (some ⟨p, 0, none⟩)] w (RetB (.bool (innerB L x)) w) := by
  have hc := hb.at hx
  have H : Hid (innerB L x = (L[x] != (x : Int))) := hid (by unfold innerB; rw [show ((x : Int)).toNat = x from rfl, getD_in hx])
  have nx : (x : Int) < (L.length : Int) := by omega
  clear hb
  generalize innerB L x = r at *
  generalize L[x] = y at *
  go_enter Tryz.func98, Tryz.ntmps98
  go_wp2
  go_ret
  exact ⟨ret_bool H.out.symm, Below.refl _ _⟩
theorem k100 (x s : Int) (p : Nat) (w : World) (hp : w.cell? ⟨p, 3, none⟩ = some (.int .i64 s)) (hs : 0 ≤ s ∧ s ≤ 1000000) :
    Calls Tryz.prog 100 #[.int .i64 x, .pointer (some ⟨p, 0, none⟩)] w (RetB (.bool (!inN x 0 (s - 1))) w) := by
  have HW := hid (fun w => within_regs x 0 (s - 1) w)
  obtain ⟨h1, h2⟩ := hs
  generalize inN x 0 (s - 1) = r at *
  go_enter Tryz.func100, Tryz.ntmps100
  go_wp2_with (go_at_call 43; refine (HW.out _).mono ?_; rintro e w' ⟨rfl, rfl⟩)
  go_ret
  exact ⟨rfl, Below.refl _ _⟩
theorem enters100 : Enters 100 := enters_of Tryz.func100 (by kernel_rfl) rfl
/-- The tests of writable at an instruction. -/
def wtBad (u : UntN) (x : InsN) : Bool := ((readsL x).any fun s => !inN s 0 (u.slots - 1)) || ((writesI x != -1) && !inN (writesI x) 0 (u.slots - 1))
def wtOp (u : UntN) (fs : List Int) (k : Nat) (x : InsN) : Bool := wtBad u x || decide (fs.getD k 0 < 0) || x.op == 33 || x.op == 34
def wtPlace (fs : List Int) (x : InsN) : Bool := match placeO x with | some p => innerB fs p | none => false
def wtGrd (u : UntN) (fs : List Int) (k : Nat) (x : InsN) : Bool := decide (0 ≤ guardL u k) && raisesB x && innerB fs (u.guards.getD (guardL u k).toNat grd0).at'
theorem writIns_eq (u : UntN) (fs : List Int) (k : Nat) : writIns u fs k = (!wtOp u fs k (u.code.getD k ins0) && !wtPlace fs (u.code.getD k ins0) && !wtGrd u fs k (u.code.getD k ins0)) := by
  unfold writIns wtOp wtBad wtPlace wtGrd
  generalize u.code.getD k ins0 = x
  have e1 : ((readsL x).all fun s => inN s 0 (u.slots - 1)) = !((readsL x).any fun s => !inN s 0 (u.slots - 1)) := by rw [List.all_eq_not_any_not]
  rw [e1]
  generalize ((readsL x).any fun s => !inN s 0 (u.slots - 1)) = a
  generalize inN (writesI x) 0 (u.slots - 1) = b
  have e2 : (writesI x != -1) = !(writesI x == -1) := rfl
  rw [e2]
  generalize (writesI x == -1) = c
  generalize decide (fs.getD k 0 < 0) = d
  generalize (x.op == 33) = e
  generalize (x.op == 34) = f
  generalize decide (0 ≤ guardL u k) = g1
  generalize raisesB x = g2
  generalize innerB fs (u.guards.getD (guardL u k).toNat grd0).at' = g3
  cases placeO x <;> cases a <;> cases b <;> cases c <;> cases d <;> cases e <;> cases f <;> simp
theorem placeO_some {x : InsN} {p : Int} (h : placeO x = some p) : p ∈ placesL x := by
  unfold placeO at h
  unfold placesL
  rw [List.mem_map]
  by_cases h1 : x.op = 24
  · rw [if_pos (by simp [h1])] at h
    cases h
    exact ⟨0, by rw [h1]; decide, rfl⟩
  · rw [if_neg (by simpa using h1)] at h
    by_cases h2 : x.op = 25
    · rw [if_pos (by simp [h2])] at h
      cases h
      exact ⟨1, by rw [h2]; decide, rfl⟩
    · by_cases h3 : x.op = 32
      · rw [if_pos (by simp [h3])] at h
        cases h
        exact ⟨1, by rw [h3]; decide, rfl⟩
      · rw [if_neg (by simp [h2, h3])] at h
        cases h
/-- What stands when writable has made its first tests. -/
structure WtPre (u : UntN) : Prop where
  pl : plainB u = true
  fr : u.frame = 0
  sl : 1 ≤ u.slots ∧ u.slots ≤ 200
  ar : inN u.args 0 u.slots = true
  en : endsB (u.code.getD (u.code.length - 1) ins0) = true
theorem plain_slots {u : UntN} (h : plainB u = true) : 0 ≤ u.slots ∧ u.slots ≤ 200 := by
  unfold plainB at h
  simp only [Bool.and_eq_true] at h
  have := h.1.1.1.2
  unfold inN at this
  simp at this
  exact this
theorem plain_place {u : UntN} (h : plainB u = true) {k : Nat} (hk : k < u.code.length) {p : Int} (hp : placeO u.code[k] = some p) : 0 ≤ p ∧ p < u.code.length := by
  unfold plainB at h
  simp only [Bool.and_eq_true, List.all_eq_true] at h
  have := h.1.2 _ (List.getElem_mem hk)
  unfold plainIns at this
  simp only [Bool.and_eq_true, List.all_eq_true] at this
  have := this.2 p (placeO_some hp)
  unfold inN at this
  simp at this
  omega
theorem plain_at {u : UntN} (h : plainB u = true) {g : Nat} (hg : g < u.guards.length) : 0 ≤ u.guards[g].at' ∧ u.guards[g].at' < u.code.length ∧ 0 ≤ u.guards[g].frm ∧ u.guards[g].frm < u.guards[g].til ∧ u.guards[g].til ≤ u.code.length := by
  unfold plainB at h
  simp only [Bool.and_eq_true, List.all_eq_true] at h
  have := h.2 _ (List.getElem_mem hg)
  unfold plainGrd inN at this
  simp at this
  omega
theorem writB_eq {u : UntN} (h : WtPre u) : writB u = (List.range u.code.length).all (writIns u (firstsL u.code)) := by
  unfold writB
  rw [h.pl, h.fr, h.ar, h.en, decide_eq_true h.sl.1]
  rfl
set_option maxRecDepth 100000 in
set_option maxHeartbeats 8000000 in
theorem writable_yes (u : UntN) (ca : Option Addr) (cc : Nat) (ga : Option Addr) (gc : Nat) (w : World) (hm : UnM w u ca cc ga gc) (h : WtPre u) :
    Calls Tryz.prog 42 #[vU u ca cc ga gc] w (RetB (.bool (writB u)) w) := by
  obtain ⟨hn0, hn6, hg4, _⟩ := plain_leads h.pl
  obtain ⟨hs1, hs2⟩ := h.sl
  have HPL := hid (fun w' hb => plain_regs u ca cc ga gc w' (hm.below hb) (by omega) (by omega))
  have HFI := hid (fun w' hb => firsts_any u ca cc ga gc w' (hm.below hb) (by omega))
  have HGU := hid (fun (n : Nat) w' hb => guardOf_regs u n ca cc ga gc w' (hm.rg.below hb) (by omega))
  have HAR := hid (fun w => within_regs u.args 0 u.slots w)
  rw [h.ar] at HAR
  rw [h.pl] at HPL
  have hen := h.en
  obtain ⟨m, hmm⟩ : ∃ m, u.code.length = m + 1 := ⟨u.code.length - 1, by omega⟩
  have hl1 : (u.code.length : Int) - 1 = (m : Int) := by omega
  have hml : m < u.code.length := by omega
  rw [show u.code.length - 1 = m by omega, getD_in hml] at hen
  have nm : (m : Int) < (u.code.length : Int) := by omega
  have HMM := hid hmm
  clear hmm
  obtain ⟨bc, oc, hca, hlt0, g0, g1, g2, g3⟩ := hm.rc m hml
  have HEN := hid (fun w => ends_any u.code[m] w)
  rw [hen] at HEN
  have HG0 := hid (fun w1 (hb : Below w.heap.size w w1) => cell_later hb g0)
  have HG1 := hid (fun w1 (hb : Below w.heap.size w w1) => cell_later hb g1)
  have HG2 := hid (fun w1 (hb : Below w.heap.size w w1) => cell_later hb g2)
  have HG3 := hid (fun w1 (hb : Below w.heap.size w w1) => cell_later hb g3)
  generalize u.code[m] = xl at *
  clear hen g0 g1 g2 g3
  have HM := hid hm; clear hm
  have hfr0 : (u.frame != 0) = false := by rw [h.fr]; rfl
  have hsl0 : decide (u.slots < 1) = false := decide_eq_false (by omega)
  have HWB := hid (writB_eq h)
  have HH := hid h
  clear h
  subst hca
  have HX1 := hid (heapn w (oU u (some ⟨bc, oc, none⟩) cc ga gc) _ rfl)
  have HB := hid (bnew w (oU u (some ⟨bc, oc, none⟩) cc ga gc))
  go_enter Tryz.func42, Tryz.ntmps42
  go_upto_region 3 with (first
    | (go_at_call 76; (with_reducible refine (HPL.out _ HB.out).mono ?_); rintro e w1 ⟨rfl, hb⟩; obtain ⟨k0, k1, k2, k3, k4, k5, k6⟩ := box7 (keepBox hb HX1.out); have hb1 := HB.out.step hb; have y0 := HG0.out _ hb1; have y1 := HG1.out _ hb1; have y2 := HG2.out _ hb1; have y3 := HG3.out _ hb1; have HB1 := hid hb; clear hb hb1)
    | (go_at_call 43; (with_reducible refine (HAR.out _).mono ?_); rintro e w' ⟨rfl, rfl⟩)
    | (go_at_call 97; (with_reducible refine (HEN.out _).mono ?_); rintro e w2 ⟨rfl, hb⟩; have HB2 := hid (HB1.out.step hb); clear hb))
  clear k0 k1 k2 k3 k4 k5 k6 y0 y1 y2 y3 HG0 HG1 HG2 HG3 HEN HAR HPL
  obtain ⟨w3, hw3⟩ : ∃ w3, w3 = w2 := ⟨_, rfl⟩
  rw [← hw3] at HB2
  rw [← hw3]
  clear hw3
  have HX2 := hid (keepBox HB2.out HX1.out)
  replace HB2 := hid (HB.out.step HB2.out)
  clear HX1 HB
  obtain ⟨k0, k1, k2, k3, k4, k5, k6⟩ := box7 HX2.out
  have HFW := hid (HFI.out w3 HB2.out)
  have hfl : (firstsL u.code).length = u.code.length := fsTo_length _ _
  generalize firstsL u.code = FS at *
  go_upto_region 5 with (go_at_call 80; (with_reducible refine HFW.out.mono ?_); rintro e w4 ⟨hb, gF, rfl, hbi, hge⟩; have HB4 := hid hb; have HBI := hid hbi; clear hb hbi hge)
  clear k0 k1 k2 k3 k4 k5 k6
  have HFL := hid hfl
  clear hfl
  obtain ⟨bF, hbF⟩ : ∃ b, b = w4.heap.size := ⟨_, rfl⟩
  rw [← hbF]
  obtain ⟨wl, hwl⟩ : ∃ wl, wl = w4.alloc (.cells #[.slice (some ⟨gF, 0, none⟩) u.code.length u.code.length] 28) := ⟨_, rfl⟩
  have HXF : Hid (wl.heap[bF]? = some (.cells #[.slice (some ⟨gF, 0, none⟩) u.code.length u.code.length] 28)) := hid (by rw [hwl]; exact heapn _ _ _ hbF)
  have HBL : Hid (Below w.heap.size w wl) := hid (by rw [hwl]; exact (HB2.out.step HB4.out).step (bnew _ _))
  have HXU : Hid (wl.heap[w.heap.size]? = some (oU u (some ⟨bc, oc, none⟩) cc ga gc)) := hid (by rw [hwl]; exact keepBox (bnew _ _) (keepBox HB4.out HX2.out))
  have HFB : Hid (BI wl gF FS) := hid (by rw [hwl]; exact HBI.out.below (bnew _ _))
  rw [← hwl]
  clear hwl hbF HBI HB4 HX2 HFW HFI HB2
  obtain ⟨k0, k1, k2, k3, k4, k5, k6⟩ := box7 HXU.out
  go_wp2
  clear k0 k1 k2 k3 k4 k5 k6
  go_loopg [50] u.code.length (fun gh s50 wr => ∃ k : Nat, k ≤ u.code.length ∧ gh = u.code.length - k ∧ s50 = .int .i64 k ∧ Hid (∀ j, j < k → writIns u FS j = true) ∧ Hid (Below wl.heap.size wl wr))
  case atStart => exact ⟨0, Nat.zero_le _, rfl, rfl, hid (fun j hj => absurd hj (Nat.not_lt_zero _)), hid (Below.refl _ _)⟩
  case round =>
    obtain ⟨k, hk, rfl, rfl, HQ, HBR⟩ := hrel
    by_cases hlk : k < u.code.length
    · obtain ⟨b3, o3, ha3, hlt3, c0, c1, c2, c3⟩ := (HM.out.rc.below (HBL.out.step HBR.out)) k hlk
      cases ha3
      have nk : (k : Int) < (u.code.length : Int) := by omega
      have hpp := fun p h => plain_place HH.out.pl hlk (p := p) h
      have HWI := hid (writIns_eq u FS k)
      rw [getD_in hlk] at HWI
      have HFAL : Hid (writIns u FS k = false → writB u = false) := hid (fun e => by rw [HWB.out]; exact all_false hlk e)
      have HRD := hid (fun w => reads_any u.code[k] w)
      have HWR := hid (fun w => writes_any u.code[k] w)
      have HRA := hid (fun w => raises_any u.code[k] w)
      have hrl2 : (readsL u.code[k]).length ≤ 2 := by unfold readsL; rw [List.length_append]; have := readPart_len u.code[k] (formL u.code[k].op).r0; have := readPart_len u.code[k] (formL u.code[k].op).r1; omega
      have HRL := hid hrl2
      have HPP := hid hpp
      clear hrl2 hpp
      generalize u.code[k] = x at *
      obtain ⟨b6, hb6⟩ : ∃ b, b = wr.heap.size := ⟨_, rfl⟩
      have HX6 := hid (heapn wr (.cells #[.int .i64 x.op, .int .i64 x.a, .int .i64 x.b, .int .i64 x.c] 85) b6 hb6)
      have HBX := hid (bnew wr (.cells #[.int .i64 x.op, .int .i64 x.a, .int .i64 x.b, .int .i64 x.c] 85))
      go_upto_region 9 with (go_at_call 71; (with_reducible refine (HWR.out _).mono ?_); rintro e w5 ⟨rfl, hb⟩; have HB5 := hid hb; clear hb)
      rw [← hb6]
      replace HX6 := hid (keepBox HB5.out HX6.out)
      have HB6 := hid (HBR.out.step (HBX.out.step HB5.out))
      clear c0 c1 c2 c3 HBX HB5 hb6
      go_cut [8] from 55 (fun s8 wx => s8 = .bool (wtBad u x) ∧ Hid (Below w5.heap.size w5 wx))
      case first =>
        obtain ⟨b0, b1, b2, b3⟩ := box4 HX6.out
        have k3 := (cell_of_row _ _ 3 _ _ _ (keepBox HB6.out HXU.out)).trans rfl
        have HV : Hid (wtBad u x = (((readsL x).any fun s => !inN s 0 (u.slots - 1)) || ((writesI x != -1) && !inN (writesI x) 0 (u.slots - 1)))) := hid rfl
        have HSA : Hid (∀ (pa : Option Addr) (pc : Nat) (w6 : World), Below w5.heap.size w5 w6 → RdI w6 pa (readsL x) → Calls Tryz.prog 99 #[.slice pa (readsL x).length pc, .func (.func 100) #[] #[.pointer (some ⟨w.heap.size, 0, none⟩)]] w6 (RetB (.bool ((readsL x).any fun s => !inN s 0 (u.slots - 1))) w6)) := hid (fun pa pc w6 hb6 hr => someI 100 enters100 #[.pointer (some ⟨w.heap.size, 0, none⟩)] (fun s => !inN s 0 (u.slots - 1)) (readsL x) pa pc w6 (fun y _ w' hb' => k100 y u.slots w.heap.size w' (cell_later hb' (cell_later hb6 k3)) (by omega)) hr (by have := HRL.out; omega))
        have HWS := hid (fun w => within_regs (writesI x) 0 (u.slots - 1) w)
        generalize ((readsL x).any fun s => !inN s 0 (u.slots - 1)) = vA at *
        generalize inN (writesI x) 0 (u.slots - 1) = vI2 at *
        generalize writesI x = wx at *
        generalize readsL x = rl at *
        generalize wtBad u x = vb at *
        have ns1 : 1 ≤ u.slots := hs1
        cases vA with
        | true =>
          go_wp2_with (first
            | (go_at_call 70; (with_reducible refine (HRD.out _).mono ?_); rintro e w6 ⟨hb, v, rfl, ho⟩; obtain ⟨pa, pc, rfl, hrp⟩ := ho.rd; have HB7 := hid hb; have HSB := hid (HSA.out pa pc _ hb hrp); clear hb ho hrp)
            | (go_at_call 99; (with_reducible refine HSB.out.mono ?_); rintro e w7 ⟨rfl, hb⟩; have HB8 := hid hb; clear hb))
          go_meet
          exact ⟨by rw [HV.out]; rfl, hid (HB7.out.step HB8.out)⟩
        | false =>
          cases hwn : (wx != -1) with
          | false =>
            rw [hwn] at HV
            go_wp2_with (first
              | (go_at_call 70; (with_reducible refine (HRD.out _).mono ?_); rintro e w6 ⟨hb, v, rfl, ho⟩; obtain ⟨pa, pc, rfl, hrp⟩ := ho.rd; have HB7 := hid hb; have HSB := hid (HSA.out pa pc _ hb hrp); clear hb ho hrp)
              | (go_at_call 99; (with_reducible refine HSB.out.mono ?_); rintro e w7 ⟨rfl, hb⟩; have HB8 := hid hb; clear hb))
            go_meet
            exact ⟨by rw [HV.out]; rfl, hid (HB7.out.step HB8.out)⟩
          | true =>
            rw [hwn] at HV
            go_wp2_with (first
              | (go_at_call 70; (with_reducible refine (HRD.out _).mono ?_); rintro e w6 ⟨hb, v, rfl, ho⟩; obtain ⟨pa, pc, rfl, hrp⟩ := ho.rd; have HB7 := hid hb; have HSB := hid (HSA.out pa pc _ hb hrp); clear hb ho hrp)
              | (go_at_call 99; (with_reducible refine HSB.out.mono ?_); rintro e w7 ⟨rfl, hb⟩; have HB8 := hid hb; have k33 := cell_later (HB7.out.step hb) k3; clear hb)
              | (go_at_call 43; (with_reducible refine (HWS.out _).mono ?_); rintro e w' ⟨rfl, rfl⟩))
            go_meet
            exact ⟨by rw [HV.out]; rfl, hid (HB7.out.step HB8.out)⟩
      case rest =>
        obtain ⟨rfl, HB9⟩ := hcut
        have HB10 := hid (HB6.out.step HB9.out)
        have HX7 := hid (keepBox HB9.out HX6.out)
        clear HX6 HRD HWR
        obtain ⟨b0, b1, b2, b3⟩ := box4 HX7.out
        have kF := (cell_of_row _ _ 0 _ _ _ (keepBox HB10.out HXF.out)).trans rfl
        have lk : k < FS.length := by rw [HFL.out]; exact hlk
        have fk := (HFB.out.below HB10.out).at lk
        have HV : Hid (wtOp u FS k x = (wtBad u x || decide (FS[k] < 0) || x.op == 33 || x.op == 34)) := hid (by unfold wtOp; rw [getD_in lk])
        generalize FS[k] = fsk at *
        generalize hv8 : wtBad u x = v8 at *
        clear hv8
        obtain ⟨wd, hwd⟩ : ∃ wd : World, wd = wc := ⟨_, rfl⟩
        rw [← hwd] at HB9 HB10 HX7 b0 b1 b2 b3 kF fk
        rw [← hwd]
        clear hwd
        go_upto_region 10 with fail
        go_cut [90] from 91 (fun s90 wx => s90 = .bool (wtOp u FS k x) ∧ Hid (wd = wx))
        case first =>
          generalize wtOp u FS k x = vo at *
          cases v8 with
          | true =>
            go_wp2
            go_meet
            exact ⟨by rw [HV.out]; rfl, hid rfl⟩
          | false =>
            by_cases hd : fsk < 0
            · have dd : decide (fsk < 0) = true := decide_eq_true hd
              rw [dd] at HV
              go_wp2
              go_meet
              exact ⟨by rw [HV.out]; rfl, hid rfl⟩
            · have dd : decide (fsk < 0) = false := decide_eq_false hd
              rw [dd] at HV
              cases e33 : (x.op == 33) with
              | true =>
                rw [e33] at HV
                go_wp2
                go_meet
                exact ⟨by rw [HV.out]; rfl, hid rfl⟩
              | false =>
                rw [e33] at HV
                go_wp2
                go_meet
                exact ⟨by rw [HV.out]; rfl, hid rfl⟩
        case rest =>
          obtain ⟨rfl, HW9⟩ := hcut
          rw [HW9.out] at HB9 HB10 HX7
          clear HV b0 b1 b2 b3 kF fk HW9
          obtain ⟨b0, b1, b2, b3⟩ := box4 HX7.out
          have kF := (cell_of_row _ _ 0 _ _ _ (keepBox HB10.out HXF.out)).trans rfl
          cases hvo : wtOp u FS k x with
          | true =>
            have HE := hid (HFAL.out (by rw [HWI.out, hvo]; rfl))
            clear hvo
            go_wp2
            go_ret
            exact ⟨ret_bool HE.out.symm, HBL.out.step HB10.out⟩
          | false =>
            rw [hvo] at HWI
            clear hvo
            have HPA := hid (place_any x.op b6 0 wc b0)
            have H98 : Hid (∀ (p : Nat), p < u.code.length → ∀ w', Below wc.heap.size wc w' → Calls Tryz.prog 98 #[.int .i64 p, .pointer (some ⟨bF, 0, none⟩)] w' (RetB (.bool (innerB FS p)) w')) := hid (fun p hp w' hb' => k98 p bF gF FS w' (by rw [HFL.out]; exact cell_later hb' kF) ((HFB.out.below HB10.out).below hb') (by rw [HFL.out]; exact hp) (by rw [HFL.out]; omega))
            have HPV : Hid (wtPlace FS x = match placeO x with | some p => innerB FS p | none => false) := hid rfl
            have HPO : Hid (placeO x = if x.op == 24 then some x.a else if x.op == 25 || x.op == 32 then some x.b else none) := hid rfl
            have HPD : Hid (placeA x.op b6 0 = if x.op == 24 then some ⟨b6, 0 + 1, none⟩ else if x.op == 25 || x.op == 32 then some ⟨b6, 0 + 2, none⟩ else none) := hid rfl
            obtain ⟨we, hwe⟩ : ∃ we : World, we = wc := ⟨_, rfl⟩
            rw [← hwe] at HB9 HB10 HX7 b0 b1 b2 b3 kF H98 HPA
            rw [← hwe]
            clear hwe
            go_upto_region 13 with (go_at_call 101; (with_reducible refine HPA.out.mono ?_); rintro e w' ⟨rfl, rfl⟩)
            generalize placeO x = po at *
            generalize placeA x.op b6 0 = pA at *
            go_cut [100] from 101 (fun s100 wx => s100 = .bool (wtPlace FS x) ∧ Hid (Below we.heap.size we wx))
            case first =>
              generalize wtPlace FS x = vp at *
              cases e24 : (x.op == 24) with
              | true =>
                rw [e24] at HPO HPD
                obtain rfl : po = some x.a := HPO.out
                obtain rfl : pA = some ⟨b6, 1, none⟩ := HPD.out
                obtain ⟨hp0, hp1⟩ := HPP.out _ rfl
                obtain ⟨p, hp⟩ : ∃ p : Nat, x.a = (p : Int) := ⟨x.a.toNat, by omega⟩
                have H9 := hid (H98.out p (by omega) _ (Below.refl _ _))
                rw [← hp] at H9
                replace HPV := hid (HPV.out.trans rfl : vp = innerB FS x.a)
                clear hp0 hp1 hp
                go_wp2_with (go_at_call 98; (with_reducible refine H9.out.mono ?_); rintro e w' ⟨rfl, hb⟩; have HB11 := hid hb; clear hb)
                go_meet
                exact ⟨by rw [HPV.out], HB11⟩
              | false =>
                rw [e24] at HPO HPD
                cases e25 : (x.op == 25 || x.op == 32) with
                | true =>
                  rw [e25] at HPO HPD
                  obtain rfl : po = some x.b := HPO.out
                  obtain rfl : pA = some ⟨b6, 2, none⟩ := HPD.out
                  obtain ⟨hp0, hp1⟩ := HPP.out _ rfl
                  obtain ⟨p, hp⟩ : ∃ p : Nat, x.b = (p : Int) := ⟨x.b.toNat, by omega⟩
                  have H9 := hid (H98.out p (by omega) _ (Below.refl _ _))
                  rw [← hp] at H9
                  replace HPV := hid (HPV.out.trans rfl : vp = innerB FS x.b)
                  clear hp0 hp1 hp e25
                  go_wp2_with (go_at_call 98; (with_reducible refine H9.out.mono ?_); rintro e w' ⟨rfl, hb⟩; have HB11 := hid hb; clear hb)
                  go_meet
                  exact ⟨by rw [HPV.out], HB11⟩
                | false =>
                  rw [e25] at HPO HPD
                  obtain rfl : po = none := HPO.out
                  obtain rfl : pA = none := HPD.out
                  replace HPV := hid (HPV.out.trans rfl : vp = false)
                  clear e25
                  go_wp2
                  go_meet
                  exact ⟨by rw [HPV.out], hid (Below.refl _ _)⟩
            case rest =>
              obtain ⟨rfl, HB11⟩ := hcut
              have HB12 := hid (HB10.out.step HB11.out)
              have HX8 := hid (keepBox HB11.out HX7.out)
              clear HPV HPO HPD HPA b0 b1 b2 b3 kF HX7
              cases hvp : wtPlace FS x with
              | true =>
                have HE := hid (HFAL.out (by rw [HWI.out, hvp]; rfl))
                clear hvp
                go_wp2
                go_ret
                exact ⟨ret_bool HE.out.symm, HBL.out.step HB12.out⟩
              | false =>
                rw [hvp] at HWI
                clear hvp
                obtain ⟨k0, k1, k2, k3, k4, k5, k6⟩ := box7 (keepBox HB12.out HXU.out)
                have HGW := hid (HGU.out k wc (HBL.out.step HB12.out))
                have HGV : Hid (wtGrd u FS k x = (decide (0 ≤ guardL u k) && raisesB x && innerB FS (u.guards.getD (guardL u k).toNat grd0).at')) := hid rfl
                have HGL2 := hid (And.intro (idxP_lt (guardIn k) u.guards).1 (idxP_lt (guardIn k) u.guards).2)
                have HGI : Hid (guardL u k = idxP (guardIn k) u.guards) := hid rfl
                rw [← HGI.out] at HGL2
                clear HGI
                generalize guardL u k = gl at *
                go_upto_region 16 with (go_at_call 102; (with_reducible refine HGW.out.mono ?_); rintro e w9 ⟨rfl, hb⟩; have HB13 := hid hb; clear hb)
                clear k0 k1 k2 k3 k4 k5 k6
                have HX9 := hid (keepBox HB13.out HX8.out)
                have HB14 := hid (HB12.out.step HB13.out)
                have HB15 := hid (HB11.out.step HB13.out)
                obtain ⟨b0, b1, b2, b3⟩ := box4 HX9.out
                have k6 := (cell_of_row _ _ 6 _ _ _ (keepBox HB14.out HXU.out)).trans rfl
                go_cut [119] from 120 (fun s119 wx => s119 = .bool (wtGrd u FS k x) ∧ Hid (Below w9.heap.size w9 wx))
                case first =>
                  generalize wtGrd u FS k x = vg at *
                  by_cases hg0 : 0 ≤ gl
                  · have dg : decide (0 ≤ gl) = true := decide_eq_true hg0
                    rw [dg] at HGV
                    cases hrz : raisesB x with
                    | false =>
                      rw [hrz] at HGV HRA
                      clear hrz
                      go_wp2_with (go_at_call 103; (with_reducible refine (HRA.out _).mono ?_); rintro e w' ⟨rfl, hb⟩; have HB16 := hid hb; clear hb)
                      go_meet
                      exact ⟨by rw [HGV.out]; rfl, HB16⟩
                    | true =>
                      rw [hrz] at HGV HRA
                      clear hrz
                      obtain ⟨gn, rfl⟩ : ∃ q : Nat, gl = (q : Int) := ⟨gl.toNat, by omega⟩
                      have hgl : gn < u.guards.length := by have := HGL2.out.2; omega
                      have ngl : (gn : Int) < (u.guards.length : Int) := by omega
                      obtain ⟨hat0, hat1, _⟩ := plain_at HH.out.pl hgl
                      obtain ⟨bg, og, hga, _, -, -, q2⟩ := (HM.out.rg.below (HBL.out.step HB14.out)) gn hgl
                      rw [show ((gn : Int)).toNat = gn from rfl, getD_in hgl] at HGV
                      subst hga
                      obtain ⟨p, hp⟩ : ∃ p : Nat, u.guards[gn].at' = (p : Int) := ⟨u.guards[gn].at'.toNat, by omega⟩
                      have H9 := hid (fun w' hb => H98.out p (by omega) w' (HB15.out.step hb))
                      rw [← hp] at H9
                      have HQ2 := hid (fun w' (hb : Below w9.heap.size w9 w') => cell_later hb q2)
                      have HQ6 := hid (fun w' (hb : Below w9.heap.size w9 w') => cell_later hb k6)
                      generalize u.guards[gn] = gd at *
                      clear hat0 hat1 hp q2
                      go_wp2_with (first
                        | (go_at_call 103; (with_reducible refine (HRA.out _).mono ?_); rintro e w' ⟨rfl, hb⟩; have HB16 := hid hb; have kk6 := HQ6.out _ hb; have qq2 := HQ2.out _ hb; clear hb)
                        | (go_at_call 98; (with_reducible refine (H9.out _ HB16.out).mono ?_); rintro e w' ⟨rfl, hb⟩; have HB17 := hid (HB16.out.step hb); clear hb))
                      go_meet
                      exact ⟨by rw [HGV.out]; rfl, HB17⟩
                  · have dg : decide (0 ≤ gl) = false := decide_eq_false hg0
                    rw [dg] at HGV
                    go_wp2
                    go_meet
                    exact ⟨by rw [HGV.out]; rfl, hid (Below.refl _ _)⟩
                case rest =>
                  obtain ⟨rfl, HB18⟩ := hcut
                  have HB19 := hid (HB14.out.step HB18.out)
                  clear HGV b0 b1 b2 b3 k6
                  cases hvg : wtGrd u FS k x with
                  | true =>
                    have HE := hid (HFAL.out (by rw [HWI.out, hvg]; rfl))
                    clear hvg
                    go_wp2
                    go_ret
                    exact ⟨ret_bool HE.out.symm, HBL.out.step HB19.out⟩
                  | false =>
                    have HE : Hid (writIns u FS k = true) := hid (by rw [HWI.out, hvg]; rfl)
                    clear hvg
                    go_wp2
                    go_roundg (u.code.length - (k + 1))
                    case measure => omega
                    case rel =>
                      refine ⟨k + 1, by omega, rfl, by go_num, hid (fun j hj => ?_), HB19⟩
                      by_cases hjk : j < k
                      · exact HQ.out j hjk
                      · obtain rfl : j = k := by omega
                        exact HE.out
    · obtain rfl : k = u.code.length := by omega
      have HT : Hid (writB u = true) := hid (by rw [HWB.out, List.all_eq_true]; exact fun j hj => HQ.out j (List.mem_range.1 hj))
      go_wp2
      go_ret
      exact ⟨ret_bool HT.out.symm, HBL.out.step HBR.out⟩
set_option maxRecDepth 100000 in
set_option maxHeartbeats 4000000 in
theorem writable_no (u : UntN) (ca : Option Addr) (cc : Nat) (ga : Option Addr) (gc : Nat) (w : World) (hm : UnM w u ca cc ga gc) (hlc : u.code.length ≤ 1000000) (hlg : u.guards.length ≤ 1000000) (h : ¬ WtPre u) :
    Calls Tryz.prog 42 #[vU u ca cc ga gc] w (RetB (.bool (writB u)) w) := by
  have HPL := hid (fun w' hb => plain_regs u ca cc ga gc w' (hm.below hb) hlc hlg)
  have HAR := hid (fun w => within_regs u.args 0 u.slots w)
  have HWB : Hid (writB u = (plainB u && u.frame == 0 && decide (1 ≤ u.slots) && inN u.args 0 u.slots && endsB (u.code.getD (u.code.length - 1) ins0) && (List.range u.code.length).all (writIns u (firstsL u.code)))) := hid rfl
  have HX1 := hid (heapn w (oU u ca cc ga gc) _ rfl)
  have HB := hid (bnew w (oU u ca cc ga gc))
  generalize writB u = r at *
  cases hp : plainB u with
  | false =>
    rw [hp] at HPL HWB
    go_enter Tryz.func42, Tryz.ntmps42
    go_wp2_with (go_at_call 76; (with_reducible refine (HPL.out _ HB.out).mono ?_); rintro e w1 ⟨rfl, hb⟩; have HB1 := hid (HB.out.step hb); clear hb)
    go_ret
    exact ⟨ret_bool (by rw [HWB.out]; rfl), HB1.out⟩
  | true =>
    obtain ⟨hn0, hn6, hg4, _⟩ := plain_leads hp
    obtain ⟨hs0, hs2⟩ := plain_slots hp
    rw [hp] at HPL HWB
    cases hf : (u.frame == 0) with
    | false =>
      rw [hf] at HWB
      have hf2 : (u.frame != 0) = true := by unfold bne; rw [hf]; rfl
      clear hf
      go_enter Tryz.func42, Tryz.ntmps42
      go_wp2_with (go_at_call 76; (with_reducible refine (HPL.out _ HB.out).mono ?_); rintro e w1 ⟨rfl, hb⟩; obtain ⟨k0, k1, k2, k3, k4, k5, k6⟩ := box7 (keepBox hb HX1.out); have HB1 := hid (HB.out.step hb); clear hb)
      go_ret
      exact ⟨ret_bool (by rw [HWB.out]; rfl), HB1.out⟩
    | true =>
      rw [hf] at HWB
      have hf2 : (u.frame != 0) = false := by unfold bne; rw [hf]; rfl
      have HF0 := hid (eq_of_beq hf)
      clear hf
      by_cases hs : u.slots < 1
      · have ds : decide (u.slots < 1) = true := decide_eq_true hs
        rw [decide_eq_false (show ¬ 1 ≤ u.slots by omega)] at HWB
        clear hs
        go_enter Tryz.func42, Tryz.ntmps42
        go_wp2_with (go_at_call 76; (with_reducible refine (HPL.out _ HB.out).mono ?_); rintro e w1 ⟨rfl, hb⟩; obtain ⟨k0, k1, k2, k3, k4, k5, k6⟩ := box7 (keepBox hb HX1.out); have HB1 := hid (HB.out.step hb); clear hb)
        go_ret
        exact ⟨ret_bool (by rw [HWB.out]; rfl), HB1.out⟩
      · have ds : decide (u.slots < 1) = false := decide_eq_false hs
        have hs1 : 1 ≤ u.slots := by omega
        rw [decide_eq_true hs1] at HWB
        clear hs
        cases ha : inN u.args 0 u.slots with
        | false =>
          rw [ha] at HWB HAR
          clear ha
          go_enter Tryz.func42, Tryz.ntmps42
          go_wp2_with (first
            | (go_at_call 76; (with_reducible refine (HPL.out _ HB.out).mono ?_); rintro e w1 ⟨rfl, hb⟩; obtain ⟨k0, k1, k2, k3, k4, k5, k6⟩ := box7 (keepBox hb HX1.out); have HB1 := hid (HB.out.step hb); clear hb)
            | (go_at_call 43; (with_reducible refine (HAR.out _).mono ?_); rintro e w' ⟨rfl, rfl⟩))
          go_ret
          exact ⟨ret_bool (by rw [HWB.out]; rfl), HB1.out⟩
        | true =>
          obtain ⟨m, hmm⟩ : ∃ m, u.code.length = m + 1 := ⟨u.code.length - 1, by omega⟩
          have hl1 : (u.code.length : Int) - 1 = (m : Int) := by omega
          have hml : m < u.code.length := by omega
          have nm : (m : Int) < (u.code.length : Int) := by omega
          have hel : u.code.getD (u.code.length - 1) ins0 = u.code[m] := by rw [show u.code.length - 1 = m by omega, getD_in hml]
          have hen : endsB u.code[m] = false := by
            cases he : endsB u.code[m] with
            | false => rfl
            | true => exact absurd ⟨hp, HF0.out, ⟨hs1, hs2⟩, ha, by rw [hel]; exact he⟩ h
          rw [ha] at HWB HAR
          rw [hel, hen] at HWB
          clear hel hmm
          obtain ⟨bc, oc, hca, hlt0, g0, g1, g2, g3⟩ := hm.rc m hml
          have HEN := hid (fun w => ends_any u.code[m] w)
          rw [hen] at HEN
          have HG0 := hid (fun w1 (hb : Below w.heap.size w w1) => cell_later hb g0)
          have HG1 := hid (fun w1 (hb : Below w.heap.size w w1) => cell_later hb g1)
          have HG2 := hid (fun w1 (hb : Below w.heap.size w w1) => cell_later hb g2)
          have HG3 := hid (fun w1 (hb : Below w.heap.size w w1) => cell_later hb g3)
          generalize u.code[m] = xl at *
          clear hen g0 g1 g2 g3 ha hp
          subst hca
          go_enter Tryz.func42, Tryz.ntmps42
          go_wp2_with (first
            | (go_at_call 76; (with_reducible refine (HPL.out _ HB.out).mono ?_); rintro e w1 ⟨rfl, hb⟩; obtain ⟨k0, k1, k2, k3, k4, k5, k6⟩ := box7 (keepBox hb HX1.out); have hb1 := HB.out.step hb; have y0 := HG0.out _ hb1; have y1 := HG1.out _ hb1; have y2 := HG2.out _ hb1; have y3 := HG3.out _ hb1; have HB1 := hid hb1; clear hb hb1)
            | (go_at_call 43; (with_reducible refine (HAR.out _).mono ?_); rintro e w' ⟨rfl, rfl⟩)
            | (go_at_call 97; (with_reducible refine (HEN.out _).mono ?_); rintro e w2 ⟨rfl, hb⟩; have HB2 := hid (HB1.out.step hb); clear hb))
          go_ret
          exact ⟨ret_bool (by rw [HWB.out]; rfl), HB2.out⟩
theorem writable_any (u : UntN) (ca : Option Addr) (cc : Nat) (ga : Option Addr) (gc : Nat) (w : World) (hm : UnM w u ca cc ga gc) (hlc : u.code.length ≤ 1000000) (hlg : u.guards.length ≤ 1000000) :
    Calls Tryz.prog 42 #[vU u ca cc ga gc] w (RetB (.bool (writB u)) w) := by
  by_cases h : WtPre u
  · exact writable_yes u ca cc ga gc w hm h
  · exact writable_no u ca cc ga gc w hm hlc hlg h
end Go.Proofs.YtgalekifgnecjaaGreat
