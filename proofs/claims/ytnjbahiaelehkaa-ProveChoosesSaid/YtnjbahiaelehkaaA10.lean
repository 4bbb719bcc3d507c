/- The contract of shut of package prove. -/
import Derived.Test.YtnjbahiaelehkaaA9
import Derived.Deep.RegionHeld3
namespace Go.Proofs.Ytnjbahiaelehkaa
open Go.RowKit

theorem Z147_eq : Try.zeroCells147 = (List.flatten (List.replicate 576 [Value.int .i64 0, Value.pointer none])).toArray := by kernel_rfl
theorem flat_get (v w : Value) : ∀ (k i : Nat), i < k → (List.flatten (List.replicate k [v, w]))[i * 2 + 1]? = some w
  | 0, i, h => absurd h (Nat.not_lt_zero i)
  | k + 1, 0, _ => by simp [List.replicate_succ]
  | k + 1, i + 1, h => by
    have e : (i + 1) * 2 + 1 = (i * 2 + 1) + 1 + 1 := by omega
    rw [List.replicate_succ, List.flatten_cons, e]
    simpa using flat_get v w k i (by omega)

theorem setRow_below {w : World} {B : Nat} {g : Nat} (cs : Array Value) (h : B ≤ g) : Below B w (w.setRow g cs) :=
  ⟨rfl, rfl, rfl, by simp, fun k hk => setRow_other w g k cs (by omega)⟩

set_option maxRecDepth 100000 in
set_option maxHeartbeats 4000000 in
theorem shut_any (n : Nat) (hn : n ≤ 12) (w : World) (l : List AM) (a : Option Addr) (cap : Nat) (Mx : Int) (ok : ∀ a, a ∈ l → Ok n Mx a) (hM : 0 ≤ Mx) (hF : 100 * Mx < FF) (hl : Rd w a l) (hlen : l.length ≤ 1000000) :
    Calls Try.prog 57 #[.int .i64 n, .slice a l.length cap] w (ShutPost l n Mx w) := by
  have HL := hid hl; clear hl
  have HOK := hid ok; clear ok
  have HMX := hid hM; clear hM
  have HF := hid hF; clear hF
  go_enter Try.func57, Try.ntmps57
  go_upto_region 0 with fail
  go_cut [4] (fun s4 wx => ∃ r R, s4 = .pointer (some ⟨r, 0, none⟩) ∧ Row51 wx r R ∧ w.heap.size ≤ r ∧ Below w.heap.size w wx)
  case first =>
    go_wp2_with fail
    go_meet
    exact ⟨_, _, rfl, ⟨heapn _ _ _ rfl, rfl⟩, Nat.le_refl _, bnew _ _⟩
  case rest =>
    obtain ⟨r, R, rfl, hr, hrw, hb0⟩ := hcut
    have HR := hid hr; clear hr
    have HB0 := hid hb0; clear hb0
    go_upto_region 1 with fail
    obtain ⟨w0, rfl⟩ : ∃ w0 : World, w0 = wc := ⟨_, rfl⟩
    go_cut [5] (fun s5 wx => ∃ c M : Nat, s5 = .pointer (some ⟨c, 0, none⟩) ∧ CS wx c n M none (fun _ => 0) (fun _ => none) ∧ w0.heap.size ≤ M ∧ M < c ∧ Below w0.heap.size w0 wx ∧ wx.heap[M]? = some (.cells Try.zeroCells147 147 (0, 0)))
    case first =>
      iterate 7 go_step
      refine wpList_built rfl 105 #[(0, .tmp 11), (1, .tmp 12)] rfl [(0, .int .i64 n), (1, .pointer (some ⟨w0.heap.size, 0, none⟩))] (by simp [Act.eval]) (C0 n (some ⟨w0.heap.size, 0, none⟩)) rfl (C0_some n (some ⟨w0.heap.size, 0, none⟩)) ?_
      have kv : CV (C0 n (some ⟨w0.heap.size, 0, none⟩)) n w0.heap.size none (fun _ => 0) (fun _ => none) := ⟨C0_size _ _, C0_n _ _, C0_by _ _, C0_no _ _, fun i hi => (C0_top _ _ i hi).1, fun i hi => (C0_top _ _ i hi).2⟩
      generalize C0 n (some ⟨w0.heap.size, 0, none⟩) = C at *
      have KV := hid kv; clear kv
      iterate 3 go_step
      refine wpList_store_row rfl 105 (.tmp 5) (.tmp 13) rfl (w0.heap.size + 1) C rfl rfl 105 _ (heapn _ _ _ (by simp)) (by rw [KV.out.size]; exact size105) (by rw [KV.out.size]; rfl) KV.out.one ?_
      go_wp2_with fail
      go_meet
      refine ⟨_, _, rfl, ⟨C, ⟨setRow_heap _ _ _ _ _ _ (heapn _ _ _ (by simp)), KV.out.size⟩, KV.out⟩, Nat.le_refl _, Nat.lt_succ_self _, ?_, ?_⟩
      · exact ((bnew _ _).alloc (by simp) _).trans (setRow_below C (Nat.le_succ _))
      · rw [setRow_other _ _ _ _ (by omega)]
        exact (heapo _ _ _ (by simp)).trans (heapn _ _ _ rfl)
    case rest =>
      obtain ⟨c, M, rfl, hcs, hM0, hMc, hb1, hz⟩ := hcut
      have HB1 := hid hb1; clear hb1
      have hrw0 := HR.out.lt
      have hbig : Big wc M := ⟨_, _, hz, by rw [Z147_eq]; rfl⟩
      have hwhy : ∀ a b, a < 24 → b < 24 → ∃ p, wc.cell? ⟨M, a * 48 + b * 2 + 1, none⟩ = some (.pointer p) := by
        intro a b ha hb
        refine ⟨none, ?_⟩
        rw [cell_of_row _ _ _ _ _ _ hz, Z147_eq]
        have := flat_get (.int .i64 0) (.pointer none) 576 (a * 24 + b) (by omega)
        rw [List.getElem?_toArray]
        rw [show a * 48 + b * 2 + 1 = (a * 24 + b) * 2 + 1 from by omega]
        exact this
      have HBIG := hid hbig; clear hbig
      have HWHY := hid hwhy; clear hwhy hz
      have hby := hcs.by'
      have HCS := hid hcs; clear hcs
      have hb01 : Below w.heap.size w wc := HB0.out.trans (HB1.out.mono HB0.out.size)
      have HB01 := hid hb01; clear hb01
      have hl2 : Rd wc a l := HL.out.below HB01.out
      have hsep : ∀ b off, a = some ⟨b, off, none⟩ → 0 < l.length → b ≠ M := by
        intro b off ha hl0
        obtain ⟨b', off', ha', hlt, _⟩ := HL.out 0 hl0
        rw [ha] at ha'; cases ha'
        have := HB0.out.size
        omega
      have HL2 := hid hl2; clear hl2
      have HSEP := hid hsep; clear hsep
      go_wp2_with (go_at_call 94; refine (lines_any n hn M _ l a cap Mx HOK.out HMX.out HF.out HL2.out hlen HSEP.out HBIG.out HWHY.out).mono ?_; rintro e w1 ⟨rfl, hb1, D0, T0, hm1, hst1⟩; have hcs1 := HCS.out.but hb1 (by omega); have hby1 := hcs1.by'; have HCS1 := hid hcs1; clear hcs1; have HBU1 := hid hb1; clear hb1; have HM1 := hid hm1; clear hm1; have HST1 := hid hst1; clear hst1)
      refine (walk_any n hn M _ l Mx HOK.out HMX.out HF.out D0 T0 HM1.out HST1.out).mono ?_
      rintro e w2 ⟨hb2, hres⟩
      have hcs2 := HCS1.out.but hb2 (by omega)
      have hno2 := hcs2.getNo
      have hfr2 := hcs2.frozen 50
      have hr2 : Row51 w2 r R := ((HR.out.below HB1.out).but (HBU1.out.trans hb2) (by omega))
      have HCS2 := hid hcs2; clear hcs2
      have HR2 := hid hr2; clear hr2
      have HBU2 := hid (HBU1.out.trans hb2); clear hb2
      rcases hres with ⟨d, X, rfl, hd, hring, D, T, hm2⟩ | ⟨rfl, D, T, hm2, hst2⟩
      · obtain ⟨C, ⟨hC, hCs⟩, cv⟩ := (HCS2.out.setNo (some ⟨d, 0, none⟩)).ex
        have hRr := (HR2.out.but (M := c) ((But.refl c _).set 50 (.pointer (some ⟨d, 0, none⟩))) (by omega)).1
        have HC := hid hC; clear hC
        have HRr := hid hRr; clear hRr
        have HCs := hid hCs; clear hCs
        have CVV := hid cv; clear cv
        go_wp2_with (first | (refine wpList_load_row rfl 105 (.tmp 5) rfl c rfl 105 C (0, 0) _ HC.out Try.underlying105 rfl (by rw [HCs.out]; exact size105) ?_) | (refine wpList_store_row rfl 105 (.tmp 4) (.tmp 26) rfl r C rfl rfl 105 _ HRr.out (by rw [HCs.out]; exact size105) (by rw [HCs.out]; exact HR2.out.2) CVV.out.one ?_))
        have hm3 : Mat ((w2.setCell ⟨c, 50, none⟩ (.pointer (some ⟨d, 0, none⟩))).setRow r C) M D T := by
          have := hm2.but HCS2.out.notD ((But.refl c _).set 50 (.pointer (some ⟨d, 0, none⟩))) (by omega)
          exact this.but (Row51.notD (R := R) ⟨HRr.out, HR2.out.2⟩) (butRow _ _ _) (by omega)
        have hd3 : IsD ((w2.setCell ⟨c, 50, none⟩ (.pointer (some ⟨d, 0, none⟩))).setRow r C) X d := by
          have := hd.but' HCS2.out.notD ((But.refl c _).set 50 (.pointer (some ⟨d, 0, none⟩)))
          exact this.but' (Row51.notD (R := R) ⟨HRr.out, HR2.out.2⟩) (butRow _ _ _)
        have hbl : Below w.heap.size w ((w2.setCell ⟨c, 50, none⟩ (.pointer (some ⟨d, 0, none⟩))).setRow r C) := by
          have h1 : Below w.heap.size w w2 := HB01.out.trans (HBU2.out.below (by have := HB0.out.size; omega) HB01.out.size)
          exact (h1.setCell (by have := HB0.out.size; show w.heap.size ≤ c; omega) _).trans (setRow_below C hrw)
        exact bodyPost_ret (v := .agg C) (results_cell_row rfl _ _ r 105 C (0, 0) _ rfl (setRow_heap _ _ _ _ _ _ HRr.out) Try.underlying105 rfl (by rw [HCs.out]; exact size105)) rfl
          ⟨hbl, C, M, _, _, _, D, T, rfl, CVV.out, hm3, fun i _ => by unfold FF; omega, .inl ⟨d, X, rfl, hd3, .ring hring⟩⟩
      · have hsl : SL l n w D T r c M 0 w2 := ⟨HB01.out.trans (HBU2.out.below (by have := HB0.out.size; omega) HB01.out.size), hm2, ⟨R, HR2.out⟩, _, _, HCS2.out, ⟨fun i hi => by unfold FF; omega, fun i hi => by omega, fun i hi => by omega⟩⟩
        have hsl2 : SL l n w D T r c M 0 (w2.setCell ⟨c, 50, none⟩ (.pointer none)) := by
          obtain ⟨h1, h2, ⟨R, h3⟩, tp, ty, h4, h5⟩ := hsl
          have hb : But c w2 (w2.setCell ⟨c, 50, none⟩ (.pointer none)) := (But.refl c w2).set _ _
          exact ⟨h1.setCell (by have := HB0.out.size; show w.heap.size ≤ c; omega) _, h2.but h4.notD hb (by omega), ⟨R, h3.but hb (by omega)⟩, tp, ty, h4.setNo none, h5.but h4.notD hb⟩
        have HSL := hid hsl2; clear hsl2 hsl
        have HST2 := hid hst2; clear hst2
        go_wp2_with fail
        go_loopg [29] (2 * n) (fun g s wx => ∃ i : Nat, i ≤ 2 * n ∧ g = 2 * n - i ∧ s = .int .i64 i ∧ SL l n w D T r c M i wx)
        case atStart => exact ⟨0, by omega, by omega, rfl, HSL.out⟩
        case round =>
          obtain ⟨i, hi, hgi, rfl, hsl⟩ := hrel
          have HGI := hid hgi; clear hgi
          have hcw : w.heap.size ≤ c := by have := HB0.out.size; omega
          by_cases hlt : i < 2 * n
          · obtain ⟨R1, hr1⟩ := hsl.row
            obtain ⟨tp, ty, hcs, htops⟩ := hsl.cs
            have hi24 : (i : Int) < 24 := by omega
            have hk1 := hcs.most (i := i) (by omega)
            have hk2 := hcs.why (i := i) (by omega)
            have hf1 := hcs.frozen (2 + i * 2)
            have hf2 := hcs.frozen (2 + i * 2 + 1)
            have hk2' : (wr.setCell ⟨c, 2 + i * 2, none⟩ (.int .i64 1152921504606846976)).cell? ⟨c, 2 + i * 2 + 1, none⟩ = some (.pointer (ty i)) := by rw [cset_other (by omega)]; exact hk2
            have HCS3 := hid hcs; clear hcs
            have HTO := hid htops; clear htops
            have HSL3 := hid hsl; clear hsl
            have HR3 := hid hr1; clear hr1
            go_upto_region 9 with fail
            go_cut [] (fun wx => SL l n w D T r c M i wx ∧ (D i (ot i) = FF → SL l n w D T r c M (i + 1) wx))
            case first =>
              go_wp2_with fail
              go_meet
              exact ⟨HSL3.out.top (by omega) hcw (by omega) (by omega) _ (by unfold FF; omega) _, fun h => HSL3.out.topDone (by omega) hcw (by omega) (by omega) _ (by unfold FF; omega) _ (by unfold topD; rw [if_pos h]) (fun h' => absurd h h')⟩
            case rest =>
              obtain ⟨wa, rfl⟩ : ∃ wa : World, wa = wc := ⟨_, rfl⟩
              obtain ⟨hsa, hda⟩ := hcut
              obtain ⟨tp2, ty2, hcs2, _⟩ := hsa.cs
              have hbya := hcs2.by'
              have hMa := hsa.mat.big.lt
              have hca := hcs2.lt
              have ho24 : ot i < 24 := by have := ot_lt (n := 12) (i := i) (by omega); exact this
              have hod : ((ot i : Nat) : Int) < 24 := by omega
              have hxa := hsa.mat.most i (ot i) (by omega) ho24
              obtain ⟨px, hpx, hqx⟩ := hsa.mat.why i (ot i) (by omega) ho24
              have HQX := hid hqx; clear hqx
              generalize hX : D i (ot i) = X at hxa
              have HX := hid hX; clear hX
              have HSA := hid hsa; clear hsa
              have HDA := hid hda; clear hda
              clear hcs2
              go_upto_region 10 with fail
              go_cut [7] (fun s7 wx => ∃ bx : Nat, s7 = .pointer (some ⟨bx, 0, none⟩) ∧ Below wa.heap.size wa wx ∧ wx.cell? ⟨bx, 0, none⟩ = some (.int .i64 X) ∧ wx.cell? ⟨bx, 1, none⟩ = some (.pointer px) ∧ bx < wx.heap.size ∧ wa.heap.size ≤ bx)
              case first =>
                go_region_with (go_at_call 96; refine (other_any i (by omega) _).mono ?_; rintro e w' ⟨rfl, rfl⟩)
                all_goals (go_wp2_with fail; go_meet)
                all_goals exact ⟨_, rfl, (bnew _ _).drew, by simp, by simp, by simp, Nat.le_refl _⟩
              case rest =>
                obtain ⟨bx, rfl, hbb, hx0, hx1, hbx, hbx'⟩ := hcut
                have hsb := HSA.out.below hbb
                have HSB := hid hsb; clear hsb
                have HBB := hid hbb; clear hbb
                by_cases hXF : X = FF
                · have HXF := hid hXF; clear hXF
                  have ht : decide (X < 1152921504606846976) = false := by rw [HXF.out]; rfl
                  go_wp2
                  go_roundg (2 * n - (i + 1))
                  case measure => have := HGI.out; omega
                  case rel => exact ⟨i + 1, by omega, by omega, by go_num, (HDA.out (HX.out.trans HXF.out)).below HBB.out⟩
                · have hXD : D i (ot i) ≠ FF := fun h => hXF (HX.out.symm.trans h)
                  have hbd := HST2.out.bound HOK.out HMX.out hn (Nat.le_refl _) hlt (ot_lt hlt) (Ne.symm (ot_ne i)) hXD
                  rw [HX.out] at hbd
                  have hF := HF.out
                  have hM0' := HMX.out
                  have ht : X < 1152921504606846976 := by unfold FF at hF; omega
                  have ht' : decide (X < 1152921504606846976) = true := decide_eq_true ht
                  obtain ⟨d, epx, isx⟩ := HQX.out (by rw [HX.out]; exact hXF)
                  subst epx
                  have ISX := hid (isx.below HBB.out); clear isx
                  have hxb : -FF ≤ X / 2 ∧ X / 2 ≤ FF := by unfold FF at hF ⊢; omega
                  have HXB := hid hxb; clear hxb
                  clear hF hM0' hbd
                  have HXF := hid hXF; clear hXF
                  have HXD := hid hXD; clear hXD
                  obtain ⟨tp3, ty3, hcs3, _⟩ := HSB.out.cs
                  have hk1 := hcs3.most (i := i) (by omega)
                  have hk2 := hcs3.why (i := i) (by omega)
                  have hf1 := hcs3.frozen (2 + i * 2)
                  have hf2 := hcs3.frozen (2 + i * 2 + 1)
                  have hcc := hcs3.lt
                  clear hcs3
                  go_upto_region 12 with fail
                  go_region_with (first | (go_at_call 97; refine (floor_any _ _).mono ?_; rintro e w' ⟨rfl, rfl⟩) | (go_at_call 98; refine (half_any _ _).mono ?_; rintro e w' ⟨rfl, rfl⟩))
                  all_goals
                    go_wp2
                    go_roundg (2 * n - (i + 1))
                    case measure => have := HGI.out; omega
                    case rel =>
                      refine ⟨i + 1, by omega, by omega, by go_num, ?_⟩
                      refine HSB.out.topNew (by omega) hcw (by omega) (by omega) (X / 2) HXB.out (some ⟨wc.heap.size, 0, none⟩) (bnew _ _).drew ?_ ?_
                      · unfold topD; rw [if_neg HXD.out, HX.out]
                      · intro _
                        refine ⟨_, rfl, d, heapn _ _ _ (by simp), ?_⟩
                        obtain ⟨_, _, h4, _⟩ := HSB.out.cs
                        exact (ISX.out.but' h4.notD (butTop wc c i (X / 2) (some ⟨wc.heap.size, 0, none⟩))).below (bnew _ _).drew
          · have hi2 : i = 2 * n := by omega
            have HI2 := hid hi2; clear hi2
            have HSL4 := hid hsl; clear hsl
            go_wp2_with fail
            go_loopg [61] (2 * n) (fun g s wx => ∃ i : Nat, i ≤ 2 * n ∧ g = 2 * n - i ∧ s = .int .i64 i ∧ SL l n w D T r c M (2 * n) wx ∧ ∀ j, j < i → D j (ot j) ≠ FF → D (ot j) j ≠ FF → 0 ≤ D j (ot j) / 2 + D (ot j) j / 2)
            case atStart => exact ⟨0, by omega, by omega, rfl, by have h := HSL4.out; rw [HI2.out] at h; exact h, fun j hj => by omega⟩
            case round =>
              obtain ⟨i2, hi2', hgi2, rfl, hsl5, hchk⟩ := hrel
              have HGI2 := hid hgi2; clear hgi2
              have HCHK := hid hchk; clear hchk
              by_cases hlt2 : i2 < 2 * n
              · obtain ⟨tp, ty, hcs, htops⟩ := hsl5.cs
                have hi24 : (i2 : Int) < 24 := by omega
                have hoL := ot_lt hlt2
                have ho24 : ((ot i2 : Nat) : Int) < 24 := by omega
                have hk1 := hcs.most (i := i2) (by omega)
                have hk2 := hcs.why (i := i2) (by omega)
                have hk3 := hcs.most (i := ot i2) (by omega)
                have hk4 := hcs.why (i := ot i2) (by omega)
                rw [htops.most _ hlt2] at hk1
                rw [htops.most _ hoL] at hk3
                have HW1 := hid (htops.why i2 hlt2)
                have HW2 := hid (htops.why (ot i2) hoL)
                generalize hpx : ty i2 = px at hk2 HW1
                generalize hpy : ty (ot i2) = py at hk4 HW2
                clear hpx hpy
                generalize hX : topD D i2 = X at hk1
                generalize hY : topD D (ot i2) = Y at hk3
                have HX := hid hX; clear hX
                have HY := hid hY; clear hY
                have hcc := hcs.lt
                have HCS5 := hid hcs; clear hcs
                have HT5 := hid htops; clear htops
                have HSL5 := hid hsl5; clear hsl5
                obtain ⟨wv, rfl⟩ : ∃ wv : World, wv = wr := ⟨_, rfl⟩
                go_upto_region 17 with fail
                go_cut [9, 10] (fun x y wx => TwoNew wv.heap.size wv X Y px py x y wx)
                case first =>
                  go_region_held3 (fun w' => w'.cell? ⟨c, 2 + i2 * 2, none⟩ = some (.int .i64 X) ∧ w'.cell? ⟨c, 2 + i2 * 2 + 1, none⟩ = some (.pointer px) ∧ w'.cell? ⟨c, 2 + ot i2 * 2, none⟩ = some (.int .i64 Y) ∧ w'.cell? ⟨c, 2 + ot i2 * 2 + 1, none⟩ = some (.pointer py)) (go_keep)
                    ((go_at_call 96; refine (other_any i2 (by omega) _).mono ?_; rintro e w' ⟨rfl, rfl⟩))
                  all_goals (go_wp2_with fail; go_meet)
                  all_goals first
                    | (refine ⟨_, _, rfl, rfl, Nat.le_refl _, Nat.le_succ _, ((bnew _ _).alloc (by simp) _).drew, ?_, ?_, ?_, ?_⟩ <;> simp; done)
                    | (refine ⟨_, _, rfl, rfl, Nat.le_succ _, Nat.le_refl _, ((bnew _ _).alloc (by simp) _).drew, ?_, ?_, ?_, ?_⟩ <;> simp; done)
                case rest =>
                  obtain ⟨bx, b2, rfl, rfl, hbx, hb2, hbw, c1, c2, c3, c4⟩ := hcut
                  have hsw := HSL5.out.below hbw
                  have HBW := hid hbw; clear hbw
                  have HSW := hid hsw; clear hsw
                  have hcw2 := (HCS5.out.below HBW.out)
                  have hfin : ∀ k, k < 2 * n → D k (ot k) ≠ FF → topD D k ≠ FF ∧ topD D k = D k (ot k) / 2 ∧ -576460752303423488 < topD D k ∧ topD D k < 576460752303423488 := by
                    intro k hk hne
                    have hbd := HST2.out.bound HOK.out HMX.out hn (Nat.le_refl _) hk (ot_lt hk) (Ne.symm (ot_ne k)) hne
                    have hF := HF.out
                    have hM0' := HMX.out
                    unfold topD
                    rw [if_neg hne]
                    unfold FF at hF ⊢
                    exact ⟨by omega, rfl, by omega, by omega⟩
                  have hinf : ∀ k, topD D k ≠ FF → D k (ot k) ≠ FF := fun k h h' => h (by unfold topD; rw [if_pos h'])
                  have HFIN := hid hfin; clear hfin
                  have HINF := hid hinf; clear hinf
                  have HOO := hid (ot_ot i2)
                  by_cases hXF : X = FF
                  · have HXF := hid hXF; clear hXF
                    have ht : decide (X < 1152921504606846976) = false := by rw [HXF.out]; rfl
                    go_wp2
                    go_roundg (2 * n - (i2 + 1))
                    case measure => have := HGI2.out; omega
                    case rel =>
                      refine ⟨i2 + 1, by omega, by omega, by go_num, HSW.out, fun j hj f1 f2 => ?_⟩
                      by_cases e : j = i2
                      · subst e
                        exact absurd (HX.out.trans HXF.out) (HFIN.out j hlt2 f1).1
                      · exact HCHK.out j (by omega) f1 f2
                  have hXD : D i2 (ot i2) ≠ FF := HINF.out i2 (fun h => hXF (HX.out.symm.trans h))
                  obtain ⟨_, hX2, hX3, hX4⟩ := HFIN.out i2 hlt2 hXD
                  rw [HX.out] at hX2 hX3 hX4
                  have htx : decide (X < 1152921504606846976) = true := decide_eq_true (by omega)
                  have HX2 := hid hX2; clear hX2
                  have HXD := hid hXD; clear hXD
                  have HXF := hid hXF; clear hXF
                  by_cases hYF : Y = FF
                  · have HYF := hid hYF; clear hYF
                    have ht : decide (Y < 1152921504606846976) = false := by rw [HYF.out]; rfl
                    go_wp2
                    go_roundg (2 * n - (i2 + 1))
                    case measure => have := HGI2.out; omega
                    case rel =>
                      refine ⟨i2 + 1, by omega, by omega, by go_num, HSW.out, fun j hj f1 f2 => ?_⟩
                      by_cases e : j = i2
                      · subst e
                        exact absurd (HY.out.trans HYF.out) (HFIN.out (ot j) hoL (by rw [ot_ot]; exact f2)).1
                      · exact HCHK.out j (by omega) f1 f2
                  have hYD : D (ot i2) (ot (ot i2)) ≠ FF := HINF.out (ot i2) (fun h => hYF (HY.out.symm.trans h))
                  obtain ⟨_, hY2, hY3, hY4⟩ := HFIN.out (ot i2) hoL hYD
                  rw [HY.out] at hY2 hY3 hY4
                  have hty : decide (Y < 1152921504606846976) = true := decide_eq_true (by omega)
                  have HY2 := hid hY2; clear hY2
                  have HYD := hid hYD; clear hYD
                  have HYF := hid hYF; clear hYF
                  by_cases hneg : X + Y < 0
                  · obtain ⟨dx, epx, isx⟩ := HW1.out HXD.out
                    obtain ⟨dy, epy, isy⟩ := HW2.out HYD.out
                    subst epx epy
                    have ISX := hid (isx.below HBW.out); clear isx
                    have ISY := hid (isy.below HBW.out); clear isy
                    have htn : decide (X + Y < 0) = true := decide_eq_true hneg
                    have hno := hcw2.getNo
                    have hfn := hcw2.frozen 50
                    have hclt := hcw2.lt
                    have HCW2 := hid hcw2; clear hcw2
                    go_upto_region 19 with fail
                    go_cut [] (fun wx => ∃ C M' R', Row51 wx c C ∧ CV C n M' (some ⟨wc.heap.size, 0, none⟩) tp ty ∧ M' = M ∧ Row51 wx r R' ∧ Mat wx M D T ∧ Below w.heap.size w wx ∧ IsD wx (.sum (.half (T i2 (ot i2))) (.half (T (ot i2) (ot (ot i2))))) wc.heap.size)
                    case first =>
                      go_wp2_with (go_at_call 99; refine (sum_any _ _ _).mono ?_; rintro e w' ⟨rfl, rfl⟩)
                      go_meet
                      have hb : But c wc (wc.setCell ⟨c, 50, none⟩ (.pointer (some ⟨wc.heap.size, 0, none⟩))) := (But.refl c wc).set _ _
                      have nd' := HCW2.out.notD
                      obtain ⟨C, hrow, cv⟩ := ((HCW2.out.setNo (some ⟨wc.heap.size, 0, none⟩)).below (bnew _ _)).ex
                      obtain ⟨R8, hr8⟩ := HSW.out.row
                      exact ⟨C, M, R8, hrow, cv, rfl, (hr8.but hb (by omega)).below (bnew _ _), (HSW.out.mat.but nd' hb (by omega)).below (bnew _ _), (HSW.out.bel.setCell hcw _).trans ((bnew _ _).mono (by have := HSW.out.bel.size; simp [World.setCell]; exact this)),
                        dx, dy, heapn _ _ _ (by simp), (ISX.out.but' nd' hb).below (bnew _ _), (ISY.out.but' nd' hb).below (bnew _ _)⟩
                    case rest =>
                      obtain ⟨C, M', R', hrow, cv, rfl, hr8, hm8, hb8, hd8⟩ := hcut
                      have HC := hid hrow; clear hrow
                      have HRr := hid hr8; clear hr8
                      have CVV := hid cv; clear cv
                      have HM8 := hid hm8; clear hm8
                      have HB8 := hid hb8; clear hb8
                      have HD8 := hid hd8; clear hd8
                      go_wp2_with (first | (refine wpList_load_row rfl 105 (.tmp 5) rfl c rfl 105 C (0, 0) _ HC.out.1 Try.underlying105 rfl (by rw [HC.out.2]; exact size105) ?_) | (refine wpList_store_row rfl 105 (.tmp 4) (.tmp 95) rfl r C rfl rfl 105 _ HRr.out.1 (by rw [HC.out.2]; exact size105) (by rw [HC.out.2]; exact HRr.out.2) CVV.out.one ?_))
                      refine bodyPost_ret (v := .agg C) (results_cell_row rfl _ _ r 105 C (0, 0) _ rfl (setRow_heap _ _ _ _ _ _ HRr.out.1) Try.underlying105 rfl (by rw [HC.out.2]; exact size105)) rfl
                        ⟨HB8.out.trans (setRow_below C hrw), C, M', _, _, _, D, T, rfl, CVV.out, HM8.out.but HRr.out.notD (butRow _ _ _) (by omega), HT5.out.bd, .inl ⟨_, _, rfl, HD8.out.but' HRr.out.notD (butRow _ _ _), ?_⟩⟩
                      obtain ⟨p1, hw1, hs1⟩ := HST2.out.why i2 (ot i2) hlt2 hoL (Ne.symm (ot_ne i2)) HXD.out
                      have hyd := HYD.out
                      rw [ot_ot] at hyd ⊢
                      obtain ⟨p2, hw2, hs2⟩ := HST2.out.why (ot i2) i2 hoL hlt2 (ot_ne i2) hyd
                      refine .wedge hlt2 hw1 hs1 hw2 hs2 ?_
                      have h1 := HX2.out
                      have h2 := HY2.out
                      rw [ot_ot] at h2
                      omega
                  · have htn : decide (X + Y < 0) = false := decide_eq_false hneg
                    go_wp2
                    go_roundg (2 * n - (i2 + 1))
                    case measure => have := HGI2.out; omega
                    case rel =>
                      refine ⟨i2 + 1, by omega, by omega, by go_num, HSW.out, fun j hj f1 f2 => ?_⟩
                      by_cases e : j = i2
                      · subst e
                        have h1 := HX2.out
                        have h2 := HY2.out
                        rw [ot_ot] at h2
                        omega
                      · exact HCHK.out j (by omega) f1 f2
              · have hi3 : i2 = 2 * n := by omega
                have HI3 := hid hi3; clear hi3
                obtain ⟨R9, hr9⟩ := hsl5.row
                obtain ⟨tp, ty, hcs, htops⟩ := hsl5.cs
                obtain ⟨C, ⟨hC, hCs⟩, cv⟩ := hcs.ex
                have HC := hid hC; clear hC
                have HRr := hid hr9; clear hr9
                have HCs := hid hCs; clear hCs
                have CVV := hid cv; clear cv
                have HTT := hid htops; clear htops
                have HCSS := hid hcs; clear hcs
                have HSL5 := hid hsl5; clear hsl5
                go_wp2_with (first | (refine wpList_load_row rfl 105 (.tmp 5) rfl c rfl 105 C (0, 0) _ HC.out Try.underlying105 rfl (by rw [HCs.out]; exact size105) ?_) | (refine wpList_store_row rfl 105 (.tmp 4) (.tmp 97) rfl r C rfl rfl 105 _ HRr.out.1 (by rw [HCs.out]; exact size105) (by rw [HCs.out]; exact HRr.out.2) CVV.out.one ?_))
                have hb9 : But r wr (wr.setRow r C) := butRow _ _ _
                refine bodyPost_ret (v := .agg C) (results_cell_row rfl _ _ r 105 C (0, 0) _ rfl (setRow_heap _ _ _ _ _ _ HRr.out.1) Try.underlying105 rfl (by rw [HCs.out]; exact size105)) rfl
                  ⟨HSL5.out.bel.trans (setRow_below C hrw), C, M, _, _, _, D, T, rfl, CVV.out, HSL5.out.mat.but HRr.out.notD hb9 (by omega), HTT.out.bd, .inr ⟨rfl, ⟨HOK.out, HST2.out⟩, ?_, HTT.out.but HRr.out.notD hb9⟩⟩
                intro j hj f1 f2
                exact HCHK.out j (by have := HI3.out; omega) f1 f2
end Go.Proofs.Ytnjbahiaelehkaa
