/- The reference of layer 8: GuardOf. The reference of layer 16: last. The reference of layer 16: reads (what a group reads). -/
import Derived.Test.YtgalekifgnecjaaGreatZ7
import Derived.Test.YtgalekifgnecjaaGreatT7
namespace Go.Proofs.YtgalekifgnecjaaGreat
open Go.RowKit

open Go.RowKit Go.Shelf
attribute [local go_sem] Oper.semAt_some
attribute [local irreducible] wpStill
set_option maxRecDepth 100000 in
set_option maxHeartbeats 4000000 in
theorem guardOf180 (u : UntN) (n : Int) (ca : Option Addr) (cc : Nat) (ga : Option Addr) (gc : Nat) (w : World) (hm : UnM w u ca cc ga gc) (hlc : u.code.length ≤ 1000000) (hlg : u.guards.length ≤ 1000000) :
    Calls Tryz.prog 180 #[vU u ca cc ga gc, .int .i64 n] w (RetB (.int .i64 (if plainB u = true then if inN n 0 ((u.code.length : Int) - 1) = true then guardL u n else -1 else -1)) w) := by
  have HX := hid (heapn w (oU u ca cc ga gc) _ rfl)
  have HB := hid (bnew w (oU u ca cc ga gc))
  have HP := hid (plain61 u ca cc ga gc (w.alloc (oU u ca cc ga gc)) (hm.below (bnew _ _)) hlc hlg)
  have HW := hid (fun w => in129 n 0 ((u.code.length : Int) - 1) w)
  have HG := hid (fun w' (hb : Below w.heap.size w w') => guard121 u n ca cc ga gc w' ((hm.below hb).rg) hlg)
  clear hm hlg
  obtain ⟨k0, k1, k2, k3, k4, k5, k6⟩ := box7 HX.out
  have nc : (u.code.length : Int) ≤ 1000000 := by omega
  have nc0 : (0 : Int) ≤ (u.code.length : Int) := by omega
  generalize inN n 0 ((u.code.length : Int) - 1) = bn at *
  generalize guardL u n = q at *
  cases hp : plainB u with
  | false =>
    rw [hp] at HP
    rw [if_neg (by simp)]
    go_enter Tryz.func180, Tryz.ntmps180
    go_wp2_with (go_at_call 61; refine HP.out.mono ?_; rintro e w3 ⟨rfl, hb⟩; have HB3 := hid (HB.out.step hb); clear hb)
    go_ret
    exact ⟨rfl, HB3.out⟩
  | true =>
    rw [hp] at HP
    rw [if_pos rfl]
    cases bn with
    | false =>
      rw [if_neg (by simp)]
      go_enter Tryz.func180, Tryz.ntmps180
      go_wp2_with (first
        | (go_at_call 61; refine HP.out.mono ?_; rintro e w3 ⟨rfl, hb⟩; have HB3 := hid (HB.out.step hb); obtain ⟨y0, y1, y2, y3, y4, y5, y6⟩ := box7 (keepBox hb HX.out); clear hb)
        | (go_at_call 129; refine (HW.out _).mono ?_; rintro e w5 ⟨rfl, rfl⟩))
      go_ret
      exact ⟨rfl, HB3.out⟩
    | true =>
      rw [if_pos rfl]
      go_enter Tryz.func180, Tryz.ntmps180
      go_wp2_with (first
        | (go_at_call 61; refine HP.out.mono ?_; rintro e w3 ⟨rfl, hb⟩; have HB3 := hid (HB.out.step hb); obtain ⟨y0, y1, y2, y3, y4, y5, y6⟩ := box7 (keepBox hb HX.out); clear hb)
        | (go_at_call 129; refine (HW.out _).mono ?_; rintro e w5 ⟨rfl, rfl⟩)
        | (go_at_call 121; refine (HG.out _ HB3.out).mono ?_; rintro e w6 ⟨rfl, hb⟩; have HB6 := hid (HB3.out.step hb); clear hb))
      go_ret
      exact ⟨rfl, HB6.out⟩

theorem tw_len {α : Type} {p : α → Bool} : ∀ (l : List α) (m : Nat), m ≤ l.length → (∀ k (h : k < l.length), k < m → p l[k] = true) → (∀ h : m < l.length, p l[m] = false) → (l.takeWhile p).length = m
  | [], m, hm, _, _ => by
    have : m = 0 := by simpa using hm
    subst this
    rfl
  | x :: l, 0, _, _, h => by
    have h0 := h (by simp)
    simp only [List.getElem_cons_zero] at h0
    simp [List.takeWhile, h0]
  | x :: l, m + 1, hm, h1, h2 => by
    have h0 := h1 0 (by simp) (by omega)
    simp only [List.getElem_cons_zero] at h0
    simp only [List.takeWhile, h0, List.length_cons]
    rw [tw_len l m (by simpa using hm) (fun k h hk => by have := h1 (k + 1) (by simpa using h) (by omega); simpa using this) (fun h => by have := h2 (by simpa using h); simpa using this)]
theorem grpEnd_at {fs : List Int} {i j : Nat} (hij : i ≤ j) (hj : j < fs.length) (h1 : ∀ k (h : k < fs.length), i < k → k ≤ j → fs[k] = (i : Int)) (h2 : ∀ h : j + 1 < fs.length, fs[j + 1] ≠ (i : Int)) : grpEnd fs i = j := by
  unfold grpEnd
  rw [tw_len (fs.drop (i + 1)) (j - i) (by rw [List.length_drop]; omega)]
  · omega
  · intro k h hk
    rw [List.length_drop] at h
    rw [List.getElem_drop]
    simpa using h1 (i + 1 + k) (by omega) (by omega) (by omega)
  · intro h
    rw [List.length_drop] at h
    rw [List.getElem_drop]
    have e : i + 1 + (j - i) = j + 1 := by omega
    have := h2 (by omega)
    simp only [e]
    simpa using this
theorem last118 (fs : List Int) (i : Nat) (a : Option Addr) (c : Nat) (w : World) (hr : RdI w a fs) (hi : i < fs.length) (hlen : fs.length ≤ 1000000) : Calls Tryz.prog 118 #[.slice a fs.length c, .int .i64 i] w (RetS (.int .i64 (grpEnd fs i)) w) := by
  have HR := hid hr; clear hr
  have HE := hid (fun j => grpEnd_at (fs := fs) (i := i) (j := j))
  generalize grpEnd fs i = q at *
  have ni : (i : Int) ≤ 1000000 := by omega
  go_enter Tryz.func118, Tryz.ntmps118
  go_wp2
  go_loopg [5] (fs.length - i) (fun gh s5 wr => ∃ j : Nat, i ≤ j ∧ j < fs.length ∧ gh = fs.length - j ∧ s5 = .int .i64 j ∧ Hid (wr = w ∧ ∀ k (h : k < fs.length), i < k → k ≤ j → fs[k] = (i : Int)))
  case atStart => exact ⟨i, Nat.le_refl _, hi, rfl, rfl, hid ⟨rfl, fun k _ h1 h2 => absurd h1 (by omega)⟩⟩
  case round =>
    obtain ⟨j, hij, hj, rfl, rfl, HK⟩ := hrel
    obtain ⟨rfl, hk⟩ := HK.out
    have HKJ := hid hk
    clear HK hk
    have HEJ := hid (HE.out j hij hj HKJ.out)
    have wj : IntKind.i64.wrap ((j : Int) + 1) = ((j + 1 : Nat) : Int) := by rw [wrapk ⟨by omega, by omega⟩]; omega
    by_cases hlj : j + 1 < fs.length
    · obtain ⟨b, off, ha, hlt, h0⟩ := HR.out (j + 1) hlj
      subst ha
      have nj : ((j + 1 : Nat) : Int) < (fs.length : Int) := by omega
      have nj0 : (0 : Int) ≤ ((j + 1 : Nat) : Int) := by omega
      have HT : Hid (fs[j + 1] = (i : Int) → ∀ k (h : k < fs.length), i < k → k ≤ j + 1 → fs[k] = (i : Int)) := hid (fun e k h h1 h2 => by
        by_cases hkj : k ≤ j
        · exact HKJ.out k h h1 hkj
        · obtain rfl : k = j + 1 := by omega
          exact e)
      have HX : Hid (fs[j + 1] ≠ (i : Int) → q = j) := hid (fun e => HEJ.out (fun _ => e))
      clear HE HEJ HKJ
      generalize fs[j + 1] = x at *
      cases hxn : (x == (i : Int)) with
      | true =>
        have HT2 := hid (HT.out (by simpa using hxn))
        clear HT HX
        go_wp2
        go_roundg (fs.length - (j + 1))
        case measure => omega
        case rel => exact ⟨j + 1, by omega, hlj, rfl, rfl, hid ⟨rfl, HT2.out⟩⟩
      | false =>
        have HX2 : Hid (q = j) := hid (HX.out (by simpa using hxn))
        clear HT HX
        go_wp2
        go_ret
        exact ⟨by rw [HX2.out]; rfl, rfl⟩
    · have nj : ¬ ((j + 1 : Nat) : Int) < (fs.length : Int) := by omega
      have HX2 : Hid (q = j) := hid (HEJ.out (fun h => absurd h hlj))
      clear HE HEJ HKJ
      go_wp2
      go_ret
      exact ⟨by rw [HX2.out]; rfl, rfl⟩

def gRd (code : List InsN) (i t : Nat) : List Int := ((code.drop i).take (t - i)).foldl (fun l x => addL l (readsL x)) []
theorem gRd_succ (code : List InsN) {i t : Nat} (h : i ≤ t) (ht : t < code.length) : gRd code i (t + 1) = addL (gRd code i t) (readsL code[t]) := by
  unfold gRd
  have e : t + 1 - i = (t - i) + 1 := by omega
  have hl : t - i < (code.drop i).length := by rw [List.length_drop]; omega
  have e2 : (code.drop i)[t - i] = code[t] := by
    rw [List.getElem_drop]
    congr 1
    omega
  rw [e, take_last hl, List.foldl_append, e2]
  rfl
theorem gRd_len (code : List InsN) (i : Nat) : ∀ n, (gRd code i (i + n)).length ≤ 2 * n
  | 0 => by simp [gRd]
  | n + 1 => by
    by_cases h : i + n < code.length
    · rw [← Nat.add_assoc, gRd_succ code (by omega) h]
      have h1 := addL_len (gRd code i (i + n)) (readsL code[i + n])
      have h2 := gRd_len code i n
      have h3 := readsL_len code[i + n]
      omega
    · have h2 := gRd_len code i n
      have e : gRd code i (i + (n + 1)) = gRd code i (i + n) := by
        unfold gRd
        rw [List.take_of_length_le (by rw [List.length_drop]; omega), List.take_of_length_le (by rw [List.length_drop]; omega)]
      rw [e]
      omega
set_option maxRecDepth 100000 in
set_option maxHeartbeats 8000000 in
theorem reads55 (u : UntN) (fs : List Int) (i : Nat) (fa : Option Addr) (fc : Nat) (ca : Option Addr) (cc : Nat) (ga : Option Addr) (gc : Nat) (w : World) (hm : RdC w ca u.code) (hf : RdI w fa fs) (hi : i < u.code.length) (hfl : fs.length = u.code.length) (hlen : u.code.length ≤ 600) :
    Calls Tryz.prog 55 #[vU u ca cc ga gc, .slice fa fs.length fc, .int .i64 i] w (OwnRet (grpReads u.code i (grpEnd fs i)) w) := by
  obtain ⟨J, hJ⟩ : ∃ J, J = grpEnd fs i := ⟨_, rfl⟩
  obtain ⟨GR, hGR⟩ : ∃ GR : Nat → List Int, GR = gRd u.code i := ⟨_, rfl⟩
  have hJ1 : i ≤ grpEnd fs i := Nat.le_add_right _ _
  have hJ2 := grpEnd_lt (fs := fs) (i := i) (by omega)
  rw [← hJ] at hJ1 hJ2
  have HFIN : Hid (grpReads u.code i J = GR (J + 1)) := hid (by rw [hGR]; rfl)
  have HG0 : Hid (GR i = []) := hid (by rw [hGR]; simp [gRd])
  have HGS := hid (fun t (h : i ≤ t) (ht : t < u.code.length) => (by rw [hGR]; exact gRd_succ u.code h ht : GR (t + 1) = addL (GR t) (readsL u.code[t])))
  have HGL := hid (fun t (h : i ≤ t) => (by rw [hGR]; have := gRd_len u.code i (t - i); rwa [show i + (t - i) = t by omega] at this : (GR t).length ≤ 2 * (t - i)))
  have HL := hid (fun wx (hb : Below w.heap.size w wx) => last118 fs i fa fc wx (hf.below hb) (by omega) (by omega))
  rw [← hJ] at HL ⊢
  have HX := hid (heapn w (oU u ca cc ga gc) _ rfl)
  have HB := hid (bnew w (oU u ca cc ga gc))
  have HM := hid hm
  clear hm hf hJ hGR
  rw [hfl] at hJ2
  clear hfl
  go_enter Tryz.func55, Tryz.ntmps55
  go_upto_region 3 with fail
  obtain ⟨w2, hw2⟩ : ∃ w2, w2 = w.alloc (oU u ca cc ga gc) := ⟨_, rfl⟩
  rw [← hw2] at HX HB
  rw [← hw2]
  clear hw2
  go_loopg [7, 8] (J + 1 - i) (fun gh s7 s8 wr => ∃ t : Nat, i ≤ t ∧ t ≤ J + 1 ∧ gh = J + 1 - t ∧ s8 = .int .i64 t ∧ Hid (OwnI wr w2.heap.size s7 (GR t) ∧ Below w2.heap.size w2 wr))
  case atStart => exact ⟨i, Nat.le_refl _, by omega, rfl, rfl, hid ⟨by rw [HG0.out]; exact World.ownsRow_nil _ _ _ _, Below.refl _ _⟩⟩
  case round =>
    obtain ⟨t, hit, htj, rfl, rfl, HK⟩ := hrel
    have hsz := HK.out.2.size
    have HLW := hid (HL.out wr (HB.out.step HK.out.2))
    by_cases hlt : t ≤ J
    · have nt : (t : Int) ≤ (J : Int) := by omega
      obtain ⟨b, off, hca, hltb, c0, c1, c2, c3⟩ := (HM.out.below (HB.out.step HK.out.2)) t (by omega)
      subst hca
      obtain ⟨k0, k1, k2, k3, k4, k5, k6⟩ := box7 (keepBox HK.out.2 HX.out)
      have nl : (t : Int) < (u.code.length : Int) := by omega
      have HN := hid (HGS.out t hit (by omega))
      have HLN := hid (HGL.out t hit)
      have HRD := hid (reads115 (u.code[t]'(by omega)))
      have HR2 := hid (readsL_len (u.code[t]'(by omega)))
      generalize (u.code[t]'(by omega)) = x at *
      generalize readsL x = R at *
      go_upto_region 6 with (first
        | (go_at_call 118; (with_reducible refine HLW.out.mono ?_); rintro e w3 ⟨rfl, rfl⟩)
        | (go_at_call 115; refine (HRD.out _).mono ?_; rintro e w3 ⟨hb3, v3, rfl, ho3⟩; have HB3 := hid hb3; have HO3 := hid ho3; clear hb3 ho3))
      have HB3W := hid (HK.out.2.step HB3.out)
      obtain ⟨ra, rc, rfl, hrr⟩ := HO3.out.rd
      have HRA : Hid (∀ b off, ra = some ⟨b, off, none⟩ → wr.heap.size ≤ b) := hid (fun b off e => own_ge HO3.out b (by subst e; rfl))
      have HRR := hid hrr
      have HO7 := hid (OwnI.later HK.out.1 HB3.out)
      have HO7L := hid (fun b (e : u7.ownBlock = some b) => own_ltR HK.out.1 b e)
      clear hrr
      go_wp2
      go_loopg [7, 10] R.length (fun gh s7 s10 w5 => ∃ k : Nat, k ≤ R.length ∧ gh = R.length - k ∧ s10 = .int .i64 k ∧ Hid (OwnI w5 w2.heap.size s7 (addL (GR t) (R.take k)) ∧ Below w2.heap.size w2 w5 ∧ RdI w5 ra R ∧ ∀ b off, ra = some ⟨b, off, none⟩ → some b ≠ s7.ownBlock))
      case atStart => exact ⟨0, Nat.zero_le _, rfl, rfl, hid ⟨HO7.out, HB3W.out, HRR.out, fun b off e h => by have h1 := HRA.out b off e; have h2 := HO7L.out b h.symm; omega⟩⟩
      case round =>
        clear HK HB3 HO3 HB3W HRA HRR HO7 HO7L
        obtain ⟨k, hk, rfl, rfl, HK⟩ := hrel
        have hln := addL_len (GR t) (R.take k)
        have hlr := HR2.out
        have hlg := HLN.out
        rw [List.length_take, Nat.min_eq_left hk] at hln
        have hsz5 := HK.out.2.1.size
        by_cases hlk : k < R.length
        · obtain ⟨rb, ro, hra, hltr, h0⟩ := HK.out.2.2.1 k hlk
          subst hra
          have nk : (k : Int) < (R.length : Int) := by omega
          have HT : Hid (R.take (k + 1) = R.take k ++ [R[k]]) := hid (take_last hlk)
          have HSN := hid (addL_snoc (GR t) (R.take k) R[k])
          rw [← HT.out] at HSN
          generalize R[k] = y at *
          obtain ⟨a7, c7, e7, hr7⟩ := HK.out.1.rd
          have HAS := hid (has85 (addL (GR t) (R.take k)) y a7 c7 wr hr7 (by omega))
          rw [← e7] at HAS
          clear e7 hr7
          obtain ⟨A', hA'⟩ : ∃ A', A' = addL (GR t) (R.take (k + 1)) := ⟨_, rfl⟩
          rw [← hA'] at HSN
          have HA' := hid hA'
          clear hA'
          generalize addL (GR t) (R.take k) = A at *
          cases hc : A.contains y with
          | true =>
            rw [hc, if_pos rfl] at HSN
            rw [hc] at HAS
            clear hc
            go_wp2_with (go_at_call 85; (with_reducible refine HAS.out.mono ?_); rintro e w6 ⟨rfl, rfl⟩)
            go_roundg (R.length - (k + 1))
            case measure => omega
            case rel => exact ⟨k + 1, by omega, rfl, by go_num, hid ⟨by rw [← HA'.out, HSN.out]; exact HK.out.1, HK.out.2⟩⟩
          | false =>
            rw [hc, if_neg (by simp)] at HSN
            rw [hc] at HAS
            clear hc
            go_wp2_with (first
              | (go_at_call 85; (with_reducible refine HAS.out.mono ?_); rintro e w6 ⟨rfl, rfl⟩)
              | (at_builtin; refine wpList_append_ints _ rfl _ _ rfl w2.heap.size _ A [y] rfl (OwnI.later HK.out.1 (bnew _ _)) (some ⟨_, 0, none⟩) 1 rfl (rd_one _ _ _) (by simp; omega) (by simp; omega) ?_; intro v' w8 hown' hgrow hat; have HOW := hid hown'; have HGR := hid hgrow; have HAT := hid hat; clear hown' hgrow hat))
            go_roundg (R.length - (k + 1))
            case measure => omega
            case rel => exact ⟨k + 1, by omega, rfl, by go_num, hid ⟨by rw [← HA'.out, HSN.out]; exact HOW.out, Below.grown (HK.out.2.1.step (bnew _ _)) HGR.out (by simp; omega) (own_ge HK.out.1), RdI.grown (HK.out.2.2.1.below (bnew _ _)) HGR.out HK.out.2.2.2, fun b' o' e h => by
              cases e
              rcases HAT.out with h2 | h2
              · exact HK.out.2.2.2 _ _ rfl (h.trans h2)
              · rw [h2] at h
                simp at h
                omega⟩⟩
        · obtain rfl : k = R.length := by omega
          have nk : ¬ (R.length : Int) < (R.length : Int) := by omega
          rw [List.take_length] at HK
          go_wp2
          go_roundg (J + 1 - (t + 1))
          case measure => omega
          case rel => exact ⟨t + 1, by omega, by omega, rfl, by go_num, hid ⟨by rw [HN.out]; exact HK.out.1, HK.out.2.1⟩⟩
    · obtain rfl : t = J + 1 := by omega
      have nt : ¬ ((J + 1 : Nat) : Int) ≤ (J : Int) := by omega
      go_wp2_with (go_at_call 118; (with_reducible refine HLW.out.mono ?_); rintro e w3 ⟨rfl, rfl⟩)
      go_ret
      exact ⟨HB.out.step HK.out.2, _, rfl, by rw [HFIN.out]; exact OwnI.mono HK.out.1 HB.out.size⟩
end Go.Proofs.YtgalekifgnecjaaGreat
