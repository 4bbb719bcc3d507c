/- The reference of layer 16: Clashes. The reference of layer 16: Colours. -/
import Derived.Test.YtgalekifgnecjaaGreatZP
import Derived.Test.YtgalekifgnecjaaGreatC2
import Derived.Test.YtgalekifgnecjaaGreatT4
namespace Go.Proofs.YtgalekifgnecjaaGreat
open Go.RowKit

open Go.RowKit Go.Shelf
attribute [local go_sem] Oper.semAt_some
attribute [local irreducible] wpStill
abbrev vPrs (v : Value) (e : Int) : Value := .agg #[v, .int .i64 e]
abbrev oPrs (v : Value) (e : Int) : Obj := .cells #[v, .int .i64 e] 62
theorem size62 : (Tryz.prog.info? 62).map (·.size) = some 2 := by kernel_rfl
theorem set2p {w : World} {g : Nat} {x0 x1 : Value} {T : TypeId} (h : w.heap[g]? = some (.cells #[x0, x1] T (0, 0))) (y0 y1 : Value) :
    ((w.setCell ⟨g, 0, none⟩ y0).setCell ⟨g, 1, none⟩ y1).heap[g]? = some (.cells #[y0, y1] T (0, 0)) := by
  have h0 : (w.setCell ⟨g, 0, none⟩ y0).heap[g]? = some (.cells #[y0, x1] T (0, 0)) := heap_setCell_same _ _ 0 _ _ _ h
  clear h
  generalize w.setCell ⟨g, 0, none⟩ y0 = w at h0 ⊢
  exact heap_setCell_same _ _ 1 _ _ _ h0
theorem set2p_below {B : Nat} {w0 w : World} {g : Nat} (h : Below B w0 w) (hg : B ≤ g) (y0 y1 : Value) : Below B w0 ((w.setCell ⟨g, 0, none⟩ y0).setCell ⟨g, 1, none⟩ y1) :=
  (h.setCell (p := ⟨g, 0, none⟩) hg _).setCell (p := ⟨g, 1, none⟩) hg _
theorem set2p_other {w : World} {g k : Nat} (hn : k ≠ g) (y0 y1 : Value) : ((w.setCell ⟨g, 0, none⟩ y0).setCell ⟨g, 1, none⟩ y1).heap[k]? = w.heap[k]? :=
  (heap_setCell_other _ _ _ _ hn).trans (heap_setCell_other _ _ _ _ hn)
/-- What Clashes keeps. -/
structure CsI (w4 : World) (b5 : Nat) (v : Value) (l : List (Int × Int)) (wr : World) : Prop where
  hb : Below w4.heap.size w4 wr
  hx : wr.heap[b5]? = some (oPrs v 0)
  ho : OwnX encP 48 wr (b5 + 1) v l
  ge : w4.heap.size ≤ b5
theorem CsI.push {w4 : World} {b5 : Nat} {v v' : Value} {l : List (Int × Int)} {p : Int × Int} {wr w8 : World} {o : Obj} (h : CsI w4 b5 v l wr) (ho : OwnX encP 48 w8 (b5 + 1) v' (l ++ [p])) (hg : (wr.alloc o).grownBy w8 v.ownBlock) :
    w8.heap[b5]? = some (oPrs v 0) ∧ CsI w4 b5 v' (l ++ [p]) (w8.setCell ⟨b5, 0, none⟩ v') := by
  have hlt := lt_of_heap h.hx
  have h8 : w8.heap[b5]? = some (oPrs v 0) := (hg.block b5 (by rw [World.size_alloc]; omega) (fun e => by have := own_ge h.ho b5 e.symm; omega)).trans (keepBox (bnew _ _) h.hx)
  refine ⟨h8, ⟨(Below.grown (h.hb.step (bnew wr o)) hg (by have := h.hb.size; rw [World.size_alloc]; omega) (fun r e => by have := own_ge h.ho r e; have := h.ge; omega)).setCell (p := ⟨b5, 0, none⟩) h.ge _, heap_setCell_same _ _ 0 _ _ _ h8, ?_, h.ge⟩⟩
  exact own_later ho (fun b e _ => heap_setCell_other _ _ _ _ (by have := own_ge ho b e; show b ≠ b5; omega))
theorem rowP_short {f : Int → Int → Bool} {n i : Nat} : ∀ k, k ≤ i + 1 → rowP f n i k = []
  | 0, _ => rfl
  | k + 1, h => by
    unfold rowP
    rw [rowP_short k (by omega), if_neg (by omega)]
    rfl
theorem rowP_len {f : Int → Int → Bool} {n i : Nat} : ∀ k, (rowP f n i k).length ≤ k
  | 0 => Nat.le_refl _
  | k + 1 => by
    unfold rowP
    rw [List.length_append]
    have := rowP_len (f := f) (n := n) (i := i) k
    split <;> simp <;> omega
theorem rowsP_len {f : Int → Int → Bool} {n : Nat} : ∀ k, (rowsP f n k).length ≤ k * n
  | 0 => by simp [rowsP]
  | k + 1 => by
    unfold rowsP
    rw [List.length_append]
    have h1 := rowsP_len (f := f) (n := n) k
    have h2 := rowP_len (f := f) (n := n) (i := k) n
    rw [Nat.succ_mul]
    omega
set_option maxRecDepth 100000 in
set_option maxHeartbeats 8000000 in
theorem clashes32_no (u : UntN) (ca : Option Addr) (cc : Nat) (ga : Option Addr) (gc : Nat) (w : World) (hm : UnM w u ca cc ga gc) (hlc : u.code.length ≤ 1000000) (hlg : u.guards.length ≤ 1000000) (hab : ∀ x ∈ u.code, -9223372036854775808 ≤ x.a ∧ x.a ≤ 9223372036854775807) (hw : writB u = false) :
    Calls Tryz.prog 32 #[vU u ca cc ga gc] w (RetB (vPrs (.slice none 0 0) 1) w) := by
  have HRT := hid (fun w' (hb : Below w.heap.size w w') => right53 u ca cc ga gc w' (hm.below hb) hlc hlg hab)
  rw [hw] at HRT
  have HM := hid hm
  have HX1 := hid (heapn w (oU u ca cc ga gc) _ rfl)
  have HB1 := hid (bnew w (oU u ca cc ga gc))
  clear hm hab hw
  go_enter Tryz.func32, Tryz.ntmps32
  go_upto_region 1 with fail
  obtain ⟨w2, hw2⟩ : ∃ w2, w2 = (w.alloc (oU u ca cc ga gc)).alloc (oPrs (.slice none 0 0) 0) := ⟨_, rfl⟩
  have HX2 : Hid (w2.heap[w.heap.size]? = some (oU u ca cc ga gc)) := hid (by rw [hw2]; exact keepBox (bnew _ _) HX1.out)
  have HN2 : Hid (w2.heap[w.heap.size + 1]? = some (oPrs (.slice none 0 0) 0)) := hid (by rw [hw2]; exact heapn _ _ _ (by simp))
  have HB2 : Hid (Below w.heap.size w w2) := hid (by rw [hw2]; exact HB1.out.step (bnew _ _))
  rw [← hw2]
  clear hw2 HX1 HB1
  have HUX := hid (fun wx (hb : Below w2.heap.size w2 wx) => keepBox hb HX2.out)
  have HUN := hid (fun wx (hb : Below w2.heap.size w2 wx) => keepBox hb HN2.out)
  obtain ⟨k0, k1, k2, k3, k4, k5, k6⟩ := box7 HX2.out
  go_wp2_with (first
    | (go_at_call 53; (with_reducible refine (HRT.out _ HB2.out).mono ?_); rintro e w3 ⟨rfl, hb3⟩; have HB3 := hid hb3; obtain ⟨j0, j1, j2, j3, j4, j5, j6⟩ := box7 (HUX.out _ hb3); obtain ⟨n0, n1, -, -⟩ := box2 (HUN.out _ hb3); have f0 := boxF 0 (HUN.out _ hb3); have f1 := boxF 1 (HUN.out _ hb3); clear hb3))
  exact bodyPost_ret (v := vPrs (.slice none 0 0) 1) (results_cell_row rfl _ _ (w.heap.size + 1) 62 _ (0, 0) _ rfl (set2p (HUN.out _ HB3.out) _ _) Tryz.underlying62 rfl size62) rfl ⟨rfl, set2p_below (HB2.out.step HB3.out) (by omega) _ _⟩
set_option maxRecDepth 100000 in
set_option maxHeartbeats 8000000 in
theorem clashes32_yes (u : UntN) (ca : Option Addr) (cc : Nat) (ga : Option Addr) (gc : Nat) (w : World) (hm : UnM w u ca cc ga gc) (hlc : u.code.length ≤ 1000000) (hlg : u.guards.length ≤ 1000000) (hab : ∀ x ∈ u.code, -9223372036854775808 ≤ x.a ∧ x.a ≤ 9223372036854775807) (hw : writB u = true) :
    Calls Tryz.prog 32 #[vU u ca cc ga gc] w (fun e w' => Below w.heap.size w w' ∧ ∃ a c, e = .returned (vPrs (.slice a (clashL u).length c) 0) ∧ RdX encP w' a (clashL u)) := by
  have HRT := hid (fun w' (hb : Below w.heap.size w w') => right53 u ca cc ga gc w' (hm.below hb) hlc hlg hab)
  rw [hw] at HRT
  have HM := hid hm
  have HX1 := hid (heapn w (oU u ca cc ga gc) _ rfl)
  have HB1 := hid (bnew w (oU u ca cc ga gc))
  have HCL := hid (fun w' (hb : Below w.heap.size w w') => clash84 u ca cc ga gc w' (hm.below hb) hw)
  obtain ⟨n, hn⟩ : ∃ n : Nat, u.slots.toNat = n := ⟨_, rfl⟩
  obtain ⟨ha0, ha1, hs1, hs2⟩ := writ_args hw
  have HSN : Hid (u.slots = (n : Int)) := hid (by omega)
  have hn200 : n ≤ 200 := by omega
  have HRC := hid (fun (F : Nat → Nat → Bool) (h : FM n F (clashL u)) => rows_clash hw (f := fun a c => F a.toNat c.toNat) (fun i j h1 h2 => by show F (i : Int).toNat (j : Int).toNat = _; rw [Int.toNat_natCast, Int.toNat_natCast]; rw [hn] at h2; exact h i j (by omega) h2))
  rw [hn] at HCL HRC
  clear hm hab hw hn ha0 ha1 hs1 hs2
  generalize clashL u = CL at *
  go_enter Tryz.func32, Tryz.ntmps32
  go_upto_region 1 with fail
  obtain ⟨w2, hw2⟩ : ∃ w2, w2 = (w.alloc (oU u ca cc ga gc)).alloc (oPrs (.slice none 0 0) 0) := ⟨_, rfl⟩
  have HX2 : Hid (w2.heap[w.heap.size]? = some (oU u ca cc ga gc)) := hid (by rw [hw2]; exact keepBox (bnew _ _) HX1.out)
  have HN2 : Hid (w2.heap[w.heap.size + 1]? = some (oPrs (.slice none 0 0) 0)) := hid (by rw [hw2]; exact heapn _ _ _ (by simp))
  have HB2 : Hid (Below w.heap.size w w2) := hid (by rw [hw2]; exact HB1.out.step (bnew _ _))
  rw [← hw2]
  clear hw2 HX1 HB1
  have HUX := hid (fun wx (hb : Below w2.heap.size w2 wx) => keepBox hb HX2.out)
  have HUN := hid (fun wx (hb : Below w2.heap.size w2 wx) => keepBox hb HN2.out)
  obtain ⟨k0, k1, k2, k3, k4, k5, k6⟩ := box7 HX2.out
  go_upto_region 5 with (first
    | (go_at_call 53; (with_reducible refine (HRT.out _ HB2.out).mono ?_); rintro e w3 ⟨rfl, hb3⟩; have HB3 := hid hb3; obtain ⟨j0, j1, j2, j3, j4, j5, j6⟩ := box7 (HUX.out _ hb3); obtain ⟨n0, n1, -, -⟩ := box2 (HUN.out _ hb3); have f0 := boxF 0 (HUN.out _ hb3); have f1 := boxF 1 (HUN.out _ hb3); clear hb3)
    | (go_at_call 84; (with_reducible refine (HCL.out _ (HB2.out.step HB3.out)).mono ?_); rintro e w4 ⟨hb4, bM, g, F, rfl, hmb, hfm, hge⟩; have HB4 := hid (HB3.out.step hb4); have HMB := hid hmb; have HFM := hid hfm; clear hb4 hmb hfm hge))
  clear k0 k1 k2 k3 k4 k5 k6 j0 j1 j2 j3 j4 j5 j6 n0 n1 f0 f1
  have HFIN := hid (HRC.out F HFM.out)
  obtain ⟨f, hf⟩ : ∃ f : Int → Int → Bool, f = fun a c => F a.toNat c.toNat := ⟨_, rfl⟩
  rw [← hf] at HFIN
  have HFF : Hid (∀ i k : Nat, f i k = F i k) := hid (fun i k => by rw [hf]; show F (i : Int).toNat (k : Int).toNat = _; rw [Int.toNat_natCast, Int.toNat_natCast])
  clear hf HFM HRC
  go_upto_region 6 with fail
  have HI0 : Hid (CsI w4 w4.heap.size (.slice none 0 0) [] (w4.alloc (oPrs (.slice none 0 0) 0))) := hid ⟨bnew _ _, heapn _ _ _ rfl, OwnX.nil _ _ _, Nat.le_refl _⟩
  obtain ⟨b5, hb5⟩ : ∃ b, b = w4.heap.size := ⟨_, rfl⟩
  have HB5 : Hid (w4.heap.size ≤ b5) := hid (by omega)
  obtain ⟨w5, hw5⟩ : ∃ W, W = w4.alloc (oPrs (.slice none 0 0) 0) := ⟨_, rfl⟩
  rw [← hb5, ← hw5] at HI0
  rw [← hb5, ← hw5]
  clear hb5 hw5
  go_wp2
  go_loopg [6] n (fun gh s6 wr => ∃ (i : Nat) (v : Value), i ≤ n ∧ gh = n - i ∧ s6 = .int .i64 i ∧ Hid (CsI w4 b5 v (rowsP f n i) wr))
  case atStart => exact ⟨0, _, Nat.zero_le _, rfl, rfl, HI0⟩
  case round =>
    obtain ⟨i, v, hi, rfl, rfl, HK⟩ := hrel
    obtain ⟨k0, k1, k2, k3, k4, k5, k6⟩ := box7 (HUX.out _ (HB4.out.step HK.out.hb))
    by_cases hin : i < n
    · have ni : (i : Int) < u.slots := by have := HSN.out; omega
      have nin : (i : Int) < (n : Int) := by omega
      have HRS : Hid (rowsP f n (i + 1) = rowsP f n i ++ rowP f n i n) := hid rfl
      have HRL := hid (rowsP_len (f := f) (n := n) i)
      have HRL2 : Hid (i * n ≤ 40000) := hid (by have := Nat.mul_le_mul (show i ≤ 200 by omega) (show n ≤ 200 by omega); omega)
      go_wp2
      go_loopg [7] (n - (i + 1)) (fun gh s7 wr => ∃ (k : Nat) (v : Value), (i + 1 ≤ k ∧ k ≤ n) ∧ gh = n - k ∧ s7 = .int .i64 k ∧ Hid (CsI w4 b5 v (rowsP f n i ++ rowP f n i k) wr))
      case atStart => exact ⟨i + 1, v, ⟨by omega, by omega⟩, rfl, by go_num, hid (by rw [rowP_short _ (Nat.le_refl _), List.append_nil]; exact HK.out)⟩
      case round =>
        clear HK k0 k1 k2 k3 k4 k5 k6
        obtain ⟨k, v, ⟨hk1, hk2⟩, rfl, rfl, HK⟩ := hrel
        obtain ⟨k0, k1, k2, k3, k4, k5, k6⟩ := box7 (HUX.out _ (HB4.out.step HK.out.hb))
        by_cases hkn : k < n
        · have nk : (k : Int) < u.slots := by have := HSN.out; omega
          have nkn : (k : Int) < (n : Int) := by omega
          have q0 := (HMB.out.below HK.out.hb).cellAt hin
          have q1 := (HMB.out.below HK.out.hb).at hin hkn
          have HRK : Hid (rowsP f n i ++ rowP f n i (k + 1) = if F i k = true then rowsP f n i ++ rowP f n i k ++ [((i : Int), (k : Int))] else rowsP f n i ++ rowP f n i k) := hid (by
            show rowsP f n i ++ (rowP f n i k ++ if i < k ∧ k < n ∧ f i k = true then [((i : Int), (k : Int))] else []) = _
            rw [HFF.out]
            by_cases hF : F i k = true
            · rw [if_pos ⟨by omega, hkn, hF⟩, if_pos hF, List.append_assoc]
            · rw [if_neg (fun h => hF h.2.2), if_neg hF, List.append_nil])
          have hlr := rowP_len (f := f) (n := n) (i := i) k
          have hls : (rowsP f n i ++ rowP f n i k).length ≤ 100000 := by rw [List.length_append]; have := HRL.out; have := HRL2.out; omega
          generalize rowsP f n i ++ rowP f n i k = L at *
          cases hF : F i k with
          | true =>
            rw [hF] at q1 HRK
            replace HRK := hid (HRK.out.trans (if_pos rfl))
            clear hF
            obtain ⟨x0, x1, -, -⟩ := box2 HK.out.hx
            have x2 := boxF 0 HK.out.hx
            go_wp2_with (at_builtin; refine wpList_append_x st43 _ rfl _ _ rfl (b5 + 1) _ L [((i : Int), (k : Int))] rfl (OwnX.later HK.out.ho (bnew _ _)) (some ⟨_, 0, none⟩) 1 rfl (rdx_one (E := encP) _ ((i : Int), (k : Int)) _) (by simp; omega) (by have := lt_of_heap HK.out.hx; simp; omega) ?_; intro v' w8 hown' hgrow hnil; obtain ⟨va8, vc8, rfl, -⟩ := hown'.rd; have hcp := HK.out.push hown' hgrow; rw [show (L ++ [((i : Int), (k : Int))]).length = L.length + 1 from by simp] at hcp; have HC8 := hid hcp.2; obtain ⟨y0, y1, -, -⟩ := box2 hcp.1; have y2 := boxF 0 hcp.1; clear hown' hgrow hnil hcp)
            go_roundg (n - (k + 1))
            case measure => omega
            case rel => exact ⟨k + 1, _, ⟨by omega, by omega⟩, rfl, by go_num, hid (by rw [HRK.out]; exact HC8.out)⟩
          | false =>
            rw [hF] at q1 HRK
            replace HRK := hid (HRK.out.trans (if_neg (by simp)))
            clear hF
            go_wp2
            go_roundg (n - (k + 1))
            case measure => omega
            case rel => exact ⟨k + 1, v, ⟨by omega, by omega⟩, rfl, by go_num, hid (by rw [HRK.out]; exact HK.out)⟩
        · obtain rfl : k = n := by omega
          have nk : ¬ (k : Int) < u.slots := by have := HSN.out; omega
          go_wp2
          go_roundg (k - (i + 1))
          case measure => omega
          case rel => exact ⟨i + 1, v, by omega, rfl, by go_num, hid (by rw [HRS.out]; exact HK.out)⟩
    · obtain rfl : i = n := by omega
      have ni : ¬ (i : Int) < u.slots := by have := HSN.out; omega
      rw [HFIN.out] at HK
      obtain ⟨va, vc, rfl, -⟩ := HK.out.ho.rd
      obtain ⟨x0, x1, -, -⟩ := box2 HK.out.hx
      obtain ⟨n0, n1, -, -⟩ := box2 (HUN.out _ (HB4.out.step HK.out.hb))
      have f0 := boxF 0 (HUN.out _ (HB4.out.step HK.out.hb)); have f1 := boxF 1 (HUN.out _ (HB4.out.step HK.out.hb))
      have HLT := hid (lt_of_heap (HUN.out _ HB4.out))
      go_wp2
      refine bodyPost_ret (v := vPrs (.slice va CL.length vc) 0) (results_cell_row rfl _ _ (w.heap.size + 1) 62 _ (0, 0) _ rfl (set2p (HUN.out _ (HB4.out.step HK.out.hb)) _ _) Tryz.underlying62 rfl size62) rfl ⟨set2p_below (HB2.out.step (HB4.out.step HK.out.hb)) (by omega) _ _, va, ⟨vc, rfl⟩, ?_⟩
      obtain ⟨va', vc', e', hr'⟩ := OwnX.rd (own_later HK.out.ho (fun b e _ => set2p_other (g := w.heap.size + 1) (by have h1 := own_ge HK.out.ho b e; have h2 := HLT.out; have h3 := HB5.out; omega) (.slice va CL.length vc) (.int .i64 0)))
      cases e'
      exact hr'

theorem pigN {l : List Int} {c : Nat} (h : ∀ m : Nat, m < c → (m : Int) ∈ l) : c ≤ l.length := by
  have h1 : ((List.range c).map Int.ofNat).Nodup := by
    exact List.pairwise_map.2 (List.nodup_range.imp (fun h e => h (Int.ofNat.inj e)))
  have h2 := nodup_sub_len h1 (m := l) (fun x hx => by
    obtain ⟨a, ha, rfl⟩ := List.mem_map.1 hx
    exact h a (List.mem_range.1 ha))
  rw [List.length_map, List.length_range] at h2
  exact h2
theorem colsI_atR (cl : List (Int × Int)) {i n : Nat} (h : i < n) : (colsI cl n)[i]'(by rw [colsI_length]; exact h) = (colN cl (colsTo cl i) i : Int) := by
  have e : ∀ n, i < n → (colsI cl n)[i]? = some (colN cl (colsTo cl i) i : Int) := by
    intro n
    induction n with
    | zero => intro h; omega
    | succ n ih =>
      intro h
      rw [colsI_succ]
      by_cases e : i < n
      · rw [List.getElem?_append_left (by rw [colsI_length]; exact e)]
        exact ih e
      · have e2 : i = n := by omega
        subst e2
        rw [List.getElem?_append_right (by rw [colsI_length]; exact Nat.le_refl _), colsI_length]
        simp
  have h1 := e n h
  rw [List.getElem?_eq_getElem (by rw [colsI_length]; exact h)] at h1
  exact Option.some.inj h1
theorem many_succR (cl : List (Int × Int)) (i : Nat) : manyL (colsTo cl (i + 1)) = max (manyL (colsTo cl i)) ((colN cl (colsTo cl i) i : Int) + 1) := manyL_snoc _ _
/-- What Colours keeps. -/
structure CoI (cl : List (Int × Int)) (w4 : World) (b5 : Nat) (v : Value) (i : Nat) (wr : World) : Prop where
  hb : Below w4.heap.size w4 wr
  hx : wr.heap[b5]? = some (oNum v (manyL (colsTo cl i)) 0)
  ho : OwnI wr (b5 + 1) v (colsI cl i)
  ge : w4.heap.size ≤ b5
theorem CoI.below {cl : List (Int × Int)} {w4 : World} {b5 : Nat} {v : Value} {i : Nat} {wr w' : World} (h : CoI cl w4 b5 v i wr) (hb : Below wr.heap.size wr w') : CoI cl w4 b5 v i w' :=
  ⟨h.hb.step hb, keepBox hb h.hx, h.ho.later hb, h.ge⟩
theorem CoI.push {cl : List (Int × Int)} {w4 : World} {b5 : Nat} {v v' : Value} {i : Nat} {wr w8 : World} {o : Obj} (h : CoI cl w4 b5 v i wr) (ho : OwnI w8 (b5 + 1) v' (colsI cl i ++ [(colN cl (colsTo cl i) i : Int)])) (hg : (wr.alloc o).grownBy w8 v.ownBlock) :
    w8.heap[b5]? = some (oNum v (manyL (colsTo cl i)) 0) ∧ (w8.setCell ⟨b5, 0, none⟩ v').heap[b5]? = some (oNum v' (manyL (colsTo cl i)) 0) ∧
      CoI cl w4 b5 v' (i + 1) ((w8.setCell ⟨b5, 0, none⟩ v').setCell ⟨b5, 1, none⟩ (.int .i64 (max (manyL (colsTo cl i)) ((colN cl (colsTo cl i) i : Int) + 1)))) := by
  have hlt := lt_of_heap h.hx
  have h8 : w8.heap[b5]? = some (oNum v (manyL (colsTo cl i)) 0) := (hg.block b5 (by rw [World.size_alloc]; omega) (fun e => by have := own_ge h.ho b5 e.symm; omega)).trans (keepBox (bnew _ _) h.hx)
  have h9 : (w8.setCell ⟨b5, 0, none⟩ v').heap[b5]? = some (oNum v' (manyL (colsTo cl i)) 0) := heap_setCell_same _ _ 0 _ _ _ h8
  refine ⟨h8, h9, ⟨((Below.grown (h.hb.step (bnew wr o)) hg (by have := h.hb.size; rw [World.size_alloc]; omega) (fun r e => by have := own_ge h.ho r e; have := h.ge; omega)).setCell (p := ⟨b5, 0, none⟩) h.ge _).setCell (p := ⟨b5, 1, none⟩) h.ge _, ?_, ?_, h.ge⟩⟩
  · rw [many_succR]
    exact heap_setCell_same _ _ 1 _ _ _ h9
  · rw [colsI_succ]
    exact own_later ho (fun b e _ => (heap_setCell_other _ _ _ _ (by have := own_ge ho b e; show b ≠ b5; omega)).trans (heap_setCell_other _ _ _ _ (by have := own_ge ho b e; show b ≠ b5; omega)))
set_option maxRecDepth 100000 in
set_option maxHeartbeats 8000000 in
theorem colours33_no (u : UntN) (ca : Option Addr) (cc : Nat) (ga : Option Addr) (gc : Nat) (w : World) (hm : UnM w u ca cc ga gc) (hlc : u.code.length ≤ 1000000) (hlg : u.guards.length ≤ 1000000) (hab : ∀ x ∈ u.code, -9223372036854775808 ≤ x.a ∧ x.a ≤ 9223372036854775807) (hw : writB u = false) :
    Calls Tryz.prog 33 #[vU u ca cc ga gc] w (RetB (vNum (.slice none 0 0) 0 1) w) := by
  have HRT := hid (fun w' (hb : Below w.heap.size w w') => right53 u ca cc ga gc w' (hm.below hb) hlc hlg hab)
  rw [hw] at HRT
  have HM := hid hm
  have HX1 := hid (heapn w (oU u ca cc ga gc) _ rfl)
  have HB1 := hid (bnew w (oU u ca cc ga gc))
  clear hm hab hw
  go_enter Tryz.func33, Tryz.ntmps33
  go_upto_region 1 with fail
  obtain ⟨w2, hw2⟩ : ∃ w2, w2 = (w.alloc (oU u ca cc ga gc)).alloc (oNum (.slice none 0 0) 0 0) := ⟨_, rfl⟩
  have HX2 : Hid (w2.heap[w.heap.size]? = some (oU u ca cc ga gc)) := hid (by rw [hw2]; exact keepBox (bnew _ _) HX1.out)
  have HN2 : Hid (w2.heap[w.heap.size + 1]? = some (oNum (.slice none 0 0) 0 0)) := hid (by rw [hw2]; exact heapn _ _ _ (by simp))
  have HB2 : Hid (Below w.heap.size w w2) := hid (by rw [hw2]; exact HB1.out.step (bnew _ _))
  rw [← hw2]
  clear hw2 HX1 HB1
  have HUX := hid (fun wx (hb : Below w2.heap.size w2 wx) => keepBox hb HX2.out)
  have HUN := hid (fun wx (hb : Below w2.heap.size w2 wx) => keepBox hb HN2.out)
  obtain ⟨k0, k1, k2, k3, k4, k5, k6⟩ := box7 HX2.out
  go_wp2_with (first
    | (go_at_call 53; (with_reducible refine (HRT.out _ HB2.out).mono ?_); rintro e w3 ⟨rfl, hb3⟩; have HB3 := hid hb3; obtain ⟨j0, j1, j2, j3, j4, j5, j6⟩ := box7 (HUX.out _ hb3); obtain ⟨n0, n1, n2⟩ := box3 (HUN.out _ hb3); have f0 := boxF 0 (HUN.out _ hb3); have f1 := boxF 1 (HUN.out _ hb3); have f2 := boxF 2 (HUN.out _ hb3); clear hb3))
  exact bodyPost_ret (v := vNum (.slice none 0 0) 0 1) (results_cell_row rfl _ _ (w.heap.size + 1) 35 _ (0, 0) _ rfl (set3 (HUN.out _ HB3.out) _ _ _) Tryz.underlying35 rfl size35) rfl ⟨rfl, set3_below (HB2.out.step HB3.out) (by omega) _ _ _⟩
set_option maxRecDepth 100000 in
set_option maxHeartbeats 8000000 in
theorem colours33_yes (u : UntN) (ca : Option Addr) (cc : Nat) (ga : Option Addr) (gc : Nat) (w : World) (hm : UnM w u ca cc ga gc) (hlc : u.code.length ≤ 1000000) (hlg : u.guards.length ≤ 1000000) (hab : ∀ x ∈ u.code, -9223372036854775808 ≤ x.a ∧ x.a ≤ 9223372036854775807) (hw : writB u = true) :
    Calls Tryz.prog 33 #[vU u ca cc ga gc] w (fun e w' => Below w.heap.size w w' ∧ ∃ a c, e = .returned (vNum (.slice a (colsI (clashL u) u.slots.toNat).length c) (manyL (colsTo (clashL u) u.slots.toNat)) 0) ∧ RdI w' a (colsI (clashL u) u.slots.toNat)) := by
  have HRT := hid (fun w' (hb : Below w.heap.size w w') => right53 u ca cc ga gc w' (hm.below hb) hlc hlg hab)
  rw [hw] at HRT
  have HM := hid hm
  have HX1 := hid (heapn w (oU u ca cc ga gc) _ rfl)
  have HB1 := hid (bnew w (oU u ca cc ga gc))
  have HCL := hid (fun w' (hb : Below w.heap.size w w') => clash84 u ca cc ga gc w' (hm.below hb) hw)
  obtain ⟨n, hn⟩ : ∃ n : Nat, u.slots.toNat = n := ⟨_, rfl⟩
  obtain ⟨ha0, ha1, hs1, hs2⟩ := writ_args hw
  have HSN : Hid (u.slots = (n : Int)) := hid (by omega)
  have hn200 : n ≤ 200 := by omega
  rw [hn] at HCL
  rw [hn]
  clear hm hab hw hn ha0 ha1 hs1 hs2
  generalize clashL u = CL at *
  go_enter Tryz.func33, Tryz.ntmps33
  go_upto_region 1 with fail
  obtain ⟨w2, hw2⟩ : ∃ w2, w2 = (w.alloc (oU u ca cc ga gc)).alloc (oNum (.slice none 0 0) 0 0) := ⟨_, rfl⟩
  have HX2 : Hid (w2.heap[w.heap.size]? = some (oU u ca cc ga gc)) := hid (by rw [hw2]; exact keepBox (bnew _ _) HX1.out)
  have HN2 : Hid (w2.heap[w.heap.size + 1]? = some (oNum (.slice none 0 0) 0 0)) := hid (by rw [hw2]; exact heapn _ _ _ (by simp))
  have HB2 : Hid (Below w.heap.size w w2) := hid (by rw [hw2]; exact HB1.out.step (bnew _ _))
  rw [← hw2]
  clear hw2 HX1 HB1
  have HUX := hid (fun wx (hb : Below w2.heap.size w2 wx) => keepBox hb HX2.out)
  have HUN := hid (fun wx (hb : Below w2.heap.size w2 wx) => keepBox hb HN2.out)
  obtain ⟨k0, k1, k2, k3, k4, k5, k6⟩ := box7 HX2.out
  go_upto_region 5 with (first
    | (go_at_call 53; (with_reducible refine (HRT.out _ HB2.out).mono ?_); rintro e w3 ⟨rfl, hb3⟩; have HB3 := hid hb3; obtain ⟨j0, j1, j2, j3, j4, j5, j6⟩ := box7 (HUX.out _ hb3); obtain ⟨n0, n1, n2⟩ := box3 (HUN.out _ hb3); have f0 := boxF 0 (HUN.out _ hb3); have f1 := boxF 1 (HUN.out _ hb3); have f2 := boxF 2 (HUN.out _ hb3); clear hb3)
    | (go_at_call 84; (with_reducible refine (HCL.out _ (HB2.out.step HB3.out)).mono ?_); rintro e w4 ⟨hb4, bM, g, F, rfl, hmb, hfm, hge⟩; have HB4 := hid (HB3.out.step hb4); have HMB := hid hmb; have HFM := hid hfm; clear hb4 hmb hfm hge))
  clear k0 k1 k2 k3 k4 k5 k6 j0 j1 j2 j3 j4 j5 j6 n0 n1 n2 f0 f1 f2
  go_upto_region 6 with fail
  have HI0 : Hid (CoI CL w4 w4.heap.size (.slice none 0 0) 0 (w4.alloc (oNum (.slice none 0 0) 0 0))) := hid ⟨bnew _ _, heapn _ _ _ rfl, World.ownsRow_nil _ _ _ _, Nat.le_refl _⟩
  obtain ⟨b5, hb5⟩ : ∃ b, b = w4.heap.size := ⟨_, rfl⟩
  have HB5 : Hid (w4.heap.size ≤ b5) := hid (by omega)
  obtain ⟨w5, hw5⟩ : ∃ W, W = w4.alloc (oNum (.slice none 0 0) 0 0) := ⟨_, rfl⟩
  rw [← hb5, ← hw5] at HI0
  rw [← hb5, ← hw5]
  clear hb5 hw5
  go_wp2
  go_loopg [6] n (fun gh s6 wr => ∃ (i : Nat) (v : Value), i ≤ n ∧ gh = n - i ∧ s6 = .int .i64 i ∧ Hid (CoI CL w4 b5 v i wr))
  case atStart => exact ⟨0, _, Nat.zero_le _, rfl, rfl, HI0⟩
  case round =>
    obtain ⟨i, v, hi, rfl, rfl, HK⟩ := hrel
    obtain ⟨k0, k1, k2, k3, k4, k5, k6⟩ := box7 (HUX.out _ (HB4.out.step HK.out.hb))
    by_cases hin : i < n
    · have ni : (i : Int) < u.slots := by have := HSN.out; omega
      have nin : (i : Int) < (n : Int) := by omega
      obtain ⟨w6, rfl⟩ : ∃ w6, w6 = wr := ⟨_, rfl⟩
      obtain ⟨va, vc, rfl, hrv⟩ := HK.out.ho.rd
      have HRV := hid hrv
      have HCL2 : Hid ((colsI CL i).length = i) := hid (colsI_length _ _)
      clear hrv
      go_wp2
      go_loopg [7, 8] i (fun gh s7 s8 wr => ∃ k : Nat, k ≤ i ∧ gh = i - k ∧ s8 = .int .i64 k ∧ Hid (OwnI wr w6.heap.size s7 (nearR CL i k) ∧ Below w6.heap.size w6 wr))
      case atStart => exact ⟨0, Nat.zero_le _, rfl, rfl, hid ⟨World.ownsRow_nil _ _ _ _, Below.refl _ _⟩⟩
      case round =>
        clear k0 k1 k2 k3 k4 k5 k6
        obtain ⟨k, hk, rfl, rfl, HQ⟩ := hrel
        have hnl := near_len CL i k
        by_cases hki : k < i
        · have nk : (k : Int) < (i : Int) := by omega
          have nkn : (k : Int) < (n : Int) := by omega
          have hkn : k < n := by omega
          have q0 := (HMB.out.below (HK.out.hb.step HQ.out.2)).cellAt hin
          have q1 := (HMB.out.below (HK.out.hb.step HQ.out.2)).at hin hkn
          have HNS : Hid (nearR CL i (k + 1) = nearR CL i k ++ if F i k = true then [(colN CL (colsTo CL k) k : Int)] else []) := hid (by rw [HFM.out i k hin hkn]; rfl)
          have hc0 := HCL2.out
          obtain ⟨rb, ro, hra, -, hx⟩ := (HRV.out.below HQ.out.2) k (by omega)
          subst hra
          rw [colsI_atR CL hki] at hx
          have nkl : (k : Int) < ((colsI CL i).length : Int) := by omega
          obtain ⟨x0, x1, x2⟩ := box3 (keepBox HQ.out.2 HK.out.hx)
          generalize (colN CL (colsTo CL k) k : Int) = C at *
          obtain ⟨A', hA'⟩ : ∃ A', A' = nearR CL i (k + 1) := ⟨_, rfl⟩
          rw [← hA'] at HNS
          have HA' := hid hA'
          clear hA'
          generalize nearR CL i k = A at *
          cases hF : F i k with
          | true =>
            rw [hF, if_pos rfl] at HNS
            rw [hF] at q1
            clear hF
            have x0a := cell_later (bnew wr (.cells #[.int .i64 C] 3)) x0
            go_wp2_with (at_builtin; refine wpList_append_ints _ rfl _ _ rfl w6.heap.size _ A [C] rfl (OwnI.later HQ.out.1 (bnew _ _)) (some ⟨_, 0, none⟩) 1 rfl (rd_one _ _ _) (by simp; omega) (by have := HQ.out.2.size; simp; omega) ?_; intro v' w8 hown' hgrow hat; have HOW := hid hown'; have HGR := hid hgrow; clear hown' hgrow hat)
            go_roundg (i - (k + 1))
            case measure => omega
            case rel => exact ⟨k + 1, by omega, rfl, by go_num, hid ⟨by rw [← HA'.out, HNS.out]; exact HOW.out, Below.grown (HQ.out.2.step (bnew _ _)) HGR.out (by have := HQ.out.2.size; simp; omega) (own_ge HQ.out.1)⟩⟩
          | false =>
            rw [hF, if_neg (by simp), List.append_nil] at HNS
            rw [hF] at q1
            clear hF
            go_wp2
            go_roundg (i - (k + 1))
            case measure => omega
            case rel => exact ⟨k + 1, by omega, rfl, by go_num, hid ⟨by rw [← HA'.out, HNS.out]; exact HQ.out.1, HQ.out.2⟩⟩
        · obtain rfl : k = i := by omega
          have nk : ¬ (k : Int) < (k : Int) := by omega
          obtain ⟨w7, rfl⟩ : ∃ w7, w7 = wr := ⟨_, rfl⟩
          obtain ⟨pa, pc, rfl, hpr⟩ := HQ.out.1.rd
          have HPR := hid hpr
          clear hpr
          have HNC := hid (fun (c : Nat) (h : ∀ m : Nat, m < c → (m : Int) ∈ nearR CL k k) (h2 : (c : Int) ∉ nearR CL k k) => near_colN h h2)
          have HPG := hid (fun (c : Nat) (h : ∀ m : Nat, m < c → (m : Int) ∈ nearR CL k k) => pigN h)
          generalize nearR CL k k = NR at *
          have HKB := hid (HK.out.below HQ.out.2)
          go_wp2
          go_loopg [9] (NR.length + 1) (fun gh s9 wr => ∃ c : Nat, gh = NR.length + 1 - c ∧ s9 = .int .i64 c ∧ Hid ((∀ m : Nat, m < c → (m : Int) ∈ NR) ∧ w7 = wr))
          case atStart => exact ⟨0, rfl, rfl, hid ⟨fun m h => absurd h (Nat.not_lt_zero m), rfl⟩⟩
          case round =>
            obtain ⟨c, rfl, rfl, HC⟩ := hrel
            obtain ⟨-, rfl⟩ := HC.out
            have hcl := HPG.out c HC.out.1
            have HHS := hid (has85 NR (c : Int) pa pc w7 HPR.out (by omega))
            cases hct : NR.contains (c : Int) with
            | true =>
              rw [hct] at HHS
              have HC2 : Hid (∀ m : Nat, m < c + 1 → (m : Int) ∈ NR) := hid (fun m h => by
                by_cases e : m = c
                · subst e; exact List.contains_iff_mem.1 hct
                · exact HC.out.1 m (by omega))
              have hcl2 := HPG.out (c + 1) HC2.out
              clear hct
              go_wp2_with (go_at_call 85; (with_reducible refine HHS.out.mono ?_); rintro e w8 ⟨rfl, rfl⟩)
              go_roundg (NR.length + 1 - (c + 1))
              case measure => omega
              case rel => exact ⟨c + 1, rfl, by go_num, hid ⟨HC2.out, rfl⟩⟩
            | false =>
              rw [hct] at HHS
              have HCN := hid (HNC.out c HC.out.1 (fun h => by rw [List.contains_iff_mem.2 h] at hct; cases hct))
              clear hct
              obtain ⟨x0, x1, x2⟩ := box3 HKB.out.hx
              have HPS := hid (fun v' w8 => CoI.push (v' := v') (w8 := w8) (o := .cells #[.int .i64 (c : Int)] 3) HKB.out)
              rw [← HCN.out] at HPS
              go_upto_region 19 with (first
                | (go_at_call 85; (with_reducible refine HHS.out.mono ?_); rintro e w8 ⟨rfl, rfl⟩)
                | (at_builtin; refine wpList_append_ints _ rfl _ _ rfl (b5 + 1) _ (colsI CL k) [(c : Int)] rfl (OwnI.later HKB.out.ho (bnew _ _)) (some ⟨_, 0, none⟩) 1 rfl (rd_one _ _ _) (by have h9 := HCL2.out; simp; omega) (by have := lt_of_heap HKB.out.hx; simp; omega) ?_; intro v' w8 hown' hgrow hat; have hps := HPS.out v' w8 hown' hgrow; obtain ⟨va8, vc8, rfl, -⟩ := hown'.rd; rw [show (colsI CL k ++ [(c : Int)]).length = (colsI CL k).length + 1 from by simp] at hps; have HP8 := hid hps; obtain ⟨y0, y1, y2⟩ := box3 hps.1; have y3 := boxF 0 hps.1; clear hown' hgrow hat hps))
              obtain ⟨z0, z1, z2⟩ := box3 HP8.out.2.1
              have z3 := boxF 1 HP8.out.2.1
              clear x0 x1 x2 y0 y1 y2 y3 HPS HCN
              go_wp2
              go_roundg (n - (k + 1))
              case measure => omega
              case rel => exact ⟨k + 1, _, by omega, rfl, by go_num, hid HP8.out.2.2⟩
    · obtain rfl : i = n := by omega
      have ni : ¬ (i : Int) < u.slots := by have := HSN.out; omega
      obtain ⟨va, vc, rfl, hrv⟩ := HK.out.ho.rd
      obtain ⟨x0, x1, x2⟩ := box3 HK.out.hx
      obtain ⟨n0, n1, n2⟩ := box3 (HUN.out _ (HB4.out.step HK.out.hb))
      have f0 := boxF 0 (HUN.out _ (HB4.out.step HK.out.hb)); have f1 := boxF 1 (HUN.out _ (HB4.out.step HK.out.hb)); have f2 := boxF 2 (HUN.out _ (HB4.out.step HK.out.hb))
      have HLT := hid (lt_of_heap (HUN.out _ HB4.out))
      have HO := hid HK.out.ho
      have HBB := hid HK.out.hb
      clear hrv HK
      go_wp2
      refine bodyPost_ret (v := vNum (.slice va (colsI CL i).length vc) (manyL (colsTo CL i)) 0) (results_cell_row rfl _ _ (w.heap.size + 1) 35 _ (0, 0) _ rfl (set3 (HUN.out _ (HB4.out.step HBB.out)) _ _ _) Tryz.underlying35 rfl size35) rfl ⟨set3_below (HB2.out.step (HB4.out.step HBB.out)) (by omega) _ _ _, va, ⟨vc, rfl⟩, ?_⟩
      obtain ⟨va', vc', e', hr'⟩ := OwnI.rd (own_later HO.out (fun b e _ => set3_other (g := w.heap.size + 1) (by have h1 := own_ge HO.out b e; have h2 := HLT.out; have h3 := HB5.out; omega) (.slice va (colsI CL i).length vc) (.int .i64 (manyL (colsTo CL i))) (.int .i64 0)))
      cases e'
      exact hr'
end Go.Proofs.YtgalekifgnecjaaGreat
