/- The reference's sum and Fits. -/
import Derived.Test.YtnjbahiaelehkaaD2
import Derived.Test.YtnjbahiaelehkaaD6
import Derived.Deep.RegionHeld3
namespace Go.Proofs.Ytnjbahiaelehkaa
open Go.RowKit

set_option maxRecDepth 100000 in
set_option maxHeartbeats 2000000 in
theorem rsum_any (x : List Int) (A B : Nat) (P Q M : Int) (b : Option Addr) (cb : Nat) (w : World) (hx : RdI w b x) (hA : A < x.length) (hB : B < x.length) (hlen : x.length ≤ 1000000) (s1 s2 : Int) (w1 : IntKind.i64.wrap (P * x[A]) = s1) (w2 : IntKind.i64.wrap (Q * x[B]) = s2) (w3 : IntKind.i64.wrap (s1 + s2) = s1 + s2) :
    Calls Try.prog 72 #[.agg #[.int .i64 A, .int .i64 P, .int .i64 B, .int .i64 Q, .int .i64 M], .slice b x.length cb] w (RetB (.int .i64 (s1 + s2)) w) := by
  have hx := hx.below (bnew w (.cells #[.int .i64 A, .int .i64 P, .int .i64 B, .int .i64 Q, .int .i64 M] 24))
  obtain ⟨bx, ox, rfl, hltx, cA⟩ := hx A hA
  obtain ⟨bx', ox', hbx', _, cB⟩ := hx B hB
  cases hbx'
  have HB := hid (bnew w (.cells #[.int .i64 A, .int .i64 P, .int .i64 B, .int .i64 Q, .int .i64 M] 24))
  obtain ⟨xa, hxa⟩ : ∃ M, M = x[A] := ⟨_, rfl⟩
  obtain ⟨xb, hxb⟩ : ∃ M, M = x[B] := ⟨_, rfl⟩
  rw [← hxa] at cA w1
  rw [← hxb] at cB w2
  have e1 : min (A : Int) ((x.length : Int) - 1) = A := by omega
  have e2 : min (B : Int) ((x.length : Int) - 1) = B := by omega
  have e3 : max 0 (A : Int) = A := by omega
  have e4 : max 0 (B : Int) = B := by omega
  have e5 : IntKind.i64.wrap ((x.length : Int) - 1) = (x.length : Int) - 1 := wrapk ⟨by omega, by omega⟩
  have nA : (0 : Int) ≤ A := by omega
  have nA2 : (A : Int) < (x.length : Int) := by omega
  have nB : (0 : Int) ≤ B := by omega
  have nB2 : (B : Int) < (x.length : Int) := by omega
  clear hxa hxb hx
  go_enter Try.func72, Try.ntmps72
  go_upto_region 1 with fail
  go_quiet (fail)
  clear w1 w2 w3 e5
  go_wp2
  go_ret
  exact ⟨rfl, below_drewN HB.out _⟩

/-- What a line comes to at numbers. -/
theorem line_facts {x : List Int} {c : AM} (o : Ok x.length 1000000 c) (hall : x.all inF = true) :
    ∃ (A B : Nat) (hA : A < x.length) (hB : B < x.length) (s1 s2 : Int), c.A = A ∧ c.B = B ∧ IntKind.i64.wrap (c.P * x[A]) = s1 ∧ IntKind.i64.wrap (c.Q * x[B]) = s2 ∧ IntKind.i64.wrap (s1 + s2) = s1 + s2 ∧ badB x c = decide (c.M < s1 + s2) := by
  have oA := o.a0
  have oA2 := o.an
  have oB1 : 0 ≤ c.B := by
    by_cases hq : c.Q = 0
    · have := o.b0 hq; omega
    · have := o.b1 hq; omega
  have oB2 : c.B < (x.length : Int) := by
    by_cases hq : c.Q = 0
    · have := o.b0 hq; omega
    · have := o.b1 hq; omega
  obtain ⟨A, hA⟩ : ∃ A : Nat, c.A = (A : Int) := ⟨c.A.toNat, by omega⟩
  obtain ⟨B, hB⟩ : ∃ B : Nat, c.B = (B : Int) := ⟨c.B.toNat, by omega⟩
  have hAx : A < x.length := by omega
  have hBx : B < x.length := by omega
  have iA : -1099511627776 ≤ x[A] ∧ x[A] ≤ 1099511627776 := by simpa [inF, inB] using List.all_eq_true.1 hall x[A] (List.getElem_mem hAx)
  have iB : -1099511627776 ≤ x[B] ∧ x[B] ≤ 1099511627776 := by simpa [inF, inB] using List.all_eq_true.1 hall x[B] (List.getElem_mem hBx)
  have i1 : -1099511627776 ≤ c.P * x[A] ∧ c.P * x[A] ≤ 1099511627776 := by
    rcases o.p with h | h <;> rw [h] <;> omega
  have i2 : -1099511627776 ≤ c.Q * x[B] ∧ c.Q * x[B] ≤ 1099511627776 := by
    rcases o.q with h | h | h <;> rw [h] <;> omega
  refine ⟨A, B, hAx, hBx, c.P * x[A], c.Q * x[B], hA, hB, wrapk ⟨by omega, by omega⟩, wrapk ⟨by omega, by omega⟩, wrapk ⟨by omega, by omega⟩, ?_⟩
  unfold badB lhs fn
  rw [hA, hB, Int.toNat_natCast, Int.toNat_natCast, List.getD_eq_getElem?_getD, List.getD_eq_getElem?_getD, List.getElem?_eq_getElem hAx, List.getElem?_eq_getElem hBx]
  rfl

/-- What the reference's Fits returns. -/
def FitP (n : Int) (l : List AM) (x : List Int) (w : World) (e : Ending) (w' : World) : Prop := e = .returned (.agg #[.int .i64 (fitAt n l x), .bool (fitIs n l x), .int .i64 (fitE n l x)]) ∧ Below w.heap.size w w'
theorem HB3 {w W : World} (h : Below w.heap.size w W) (a b c : Value) (p q r : Nat) : Below w.heap.size w (((W.setCell ⟨w.heap.size, p, none⟩ a).setCell ⟨w.heap.size, q, none⟩ b).setCell ⟨w.heap.size, r, none⟩ c) := ((h.setCell (Nat.le_refl _) _).setCell (Nat.le_refl _) _).setCell (Nat.le_refl _) _
theorem all_take {p : Int → Bool} {x : List Int} {k : Nat} (hk : k < x.length) (h : ∀ y, y ∈ x.take k → p y = true) (hp : p x[k] = true) : ∀ y, y ∈ x.take (k + 1) → p y = true := by
  intro y hy
  rw [List.take_succ_eq_append_getElem hk, List.mem_append] at hy
  rcases hy with hy | hy
  · exact h y hy
  · rw [List.mem_singleton.1 hy]; exact hp

set_option maxRecDepth 100000 in
set_option maxHeartbeats 4000000 in
theorem rfits_any (n : Int) (l : List AM) (x : List Int) (a : Option Addr) (ca : Nat) (b : Option Addr) (cb : Nat) (w : World) (hl : Rd w a l) (hlen : l.length ≤ 9223372036854775807) (hx : RdI w b x) (hxl : x.length ≤ 9223372036854775807) :
    Calls Try.prog 30 #[.int .i64 n, .slice a l.length ca, .slice b x.length cb] w (FitP n l x w) := by
  have HL := hid hl; clear hl
  have HX := hid hx; clear hx
  have HB := hid (bnew w (.cells #[.int .i64 0, .bool false, .int .i64 0] 56))
  have HR : Hid ((w.alloc (.cells #[.int .i64 0, .bool false, .int .i64 0] 56)).heap[w.heap.size]? = some (.cells #[.int .i64 0, .bool false, .int .i64 0] 56 (0, 0))) := hid (by simp only [heap_alloc_if] <;> simp)
  by_cases h0 : checkN n l = 0
  · obtain ⟨⟨hn1, hn2⟩, hl40, hrs⟩ := checkN_in h0
    obtain ⟨N, rfl⟩ : ∃ N : Nat, n = (N : Int) := ⟨n.toNat, by omega⟩
    have HOK := hid (rights_ok hrs)
    have H0 := hid h0
    clear h0 hrs
    by_cases hN : x.length = N
    · have HN := hid hN
      subst hN
      clear HN
      go_enter Try.func30, Try.ntmps30
      go_wp2_with (go_at_call 32; (with_reducible refine (rcheck_any _ l a ca _ (HL.out.below HB.out) (by omega)).mono ?_); rw [H0.out]; rintro e w1 ⟨rfl, hb⟩; have HB := hid (HB.out.step hb); have HR := hid (keepBox hb HR.out); clear hb)
      go_loopw [8] (fun s wr => ∃ k : Nat, k ≤ x.length ∧ s = .int .i64 k ∧ Hid (Below w.heap.size w wr ∧ wr.heap[w.heap.size]? = some (.cells #[.int .i64 0, .bool false, .int .i64 0] 56 (0, 0)) ∧ ∀ y, y ∈ x.take k → inF y = true)) (fun s _ => x.length - (intOf s).toNat)
      case atStart => exact ⟨0, Nat.zero_le _, rfl, hid ⟨HB.out, HR.out, by simp⟩⟩
      case round =>
        obtain ⟨k, hk, rfl, HK⟩ := hrel
        by_cases hlt : k < x.length
        · obtain ⟨bx, ox, hbx, hltx, cA⟩ := HX.out.below HK.out.1 k hlt
          subst hbx
          have nk : (k : Int) < (x.length : Int) := by omega
          obtain ⟨xk, hxk⟩ : ∃ y, y = x[k] := ⟨_, rfl⟩
          rw [← hxk] at cA
          have HXK := hid hxk
          clear hxk
          by_cases hin : inF xk = true
          · have HI := hid hin
            clear hin
            go_wp2_with (go_at_call 64; (with_reducible refine (in_any xk (-1099511627776) 1099511627776 _).mono ?_); rw [show inB xk (-1099511627776) 1099511627776 = true from HI.out]; rintro e w2 ⟨rfl, rfl⟩)
            go_roundw
            case rel => exact ⟨k + 1, by omega, by go_num, hid ⟨HK.out.1, HK.out.2.1, all_take hlt HK.out.2.2 (by rw [← HXK.out]; exact HI.out)⟩⟩
            case measure => simp [intOf]; omega
          · have hinf : inF xk = false := by simpa using hin
            have HI := hid hinf
            have hall : x.all inF ≠ true := fun h => by
              have := List.all_eq_true.1 h xk (by rw [HXK.out]; exact List.getElem_mem hlt)
              exact hin this
            have hE : fitE x.length l x = 1 := by unfold fitE; rw [if_pos H0.out, if_neg (fun h => hall h.2)]
            have HE := hid hE
            obtain ⟨r0, r1, r2, z0, z1, z2⟩ := box3 HK.out.2.1
            clear hin hinf hall hE
            go_wp2_with (go_at_call 64; (with_reducible refine (in_any xk (-1099511627776) 1099511627776 _).mono ?_); rw [show inB xk (-1099511627776) 1099511627776 = false from HI.out]; rintro e w2 ⟨rfl, rfl⟩)
            refine bodyPost_ret (v := .agg #[.int .i64 0, .bool false, .int .i64 1]) (by simp [results, Try.results30, go_sem, r0, r1, r2]) rfl ⟨?_, HB3 HK.out.1 _ _ _ _ _ _⟩
            simp [fitAt, fitIs, HE.out]
        · have hke : k = x.length := by omega
          have hall : x.all inF = true := by
            rw [List.all_eq_true]
            intro y hy
            exact HK.out.2.2 y (by rw [hke, List.take_length]; exact hy)
          have hE : fitE x.length l x = 0 := by unfold fitE; rw [if_pos H0.out, if_pos ⟨rfl, hall⟩]
          have HE := hid hE
          have HA := hid hall
          have HBK := hid HK.out.1
          have HRK := hid HK.out.2.1
          clear HK hke hall hE
          go_wp2
          go_loopw [10] (fun s wx => ∃ k : Nat, k ≤ l.length ∧ s = .int .i64 k ∧ Hid (Below w.heap.size w wx ∧ wx.heap[w.heap.size]? = some (.cells #[.int .i64 0, .bool false, .int .i64 0] 56 (0, 0)) ∧ ∀ y, y ∈ l.take k → badB x y = false)) (fun s _ => l.length - (intOf s).toNat)
          case atStart => exact ⟨0, Nat.zero_le _, rfl, hid ⟨HBK.out, HRK.out, by simp⟩⟩
          case round =>
            obtain ⟨k2, hk2, rfl, HK⟩ := hrel
            by_cases hlt2 : k2 < l.length
            · obtain ⟨b2, off, ha, hlt3, h1, h2, h3, h4, h5⟩ := HL.out.below HK.out.1 k2 hlt2
              subst ha
              have o := HOK.out l[k2] (List.getElem_mem hlt2)
              obtain ⟨A, B, hA, hB, s1, s2, eA, eB, w1, w2, w3, hbd⟩ := line_facts o HA.out
              have HBD := hid hbd
              rw [eA] at h1
              rw [eB] at h3
              obtain ⟨P, hP⟩ : ∃ P, P = l[k2].P := ⟨_, rfl⟩
              obtain ⟨Q, hQ⟩ : ∃ Q, Q = l[k2].Q := ⟨_, rfl⟩
              obtain ⟨M, hMe⟩ : ∃ M, M = l[k2].M := ⟨_, rfl⟩
              rw [← hP] at h2 w1
              rw [← hQ] at h4 w2
              rw [← hMe] at h5 hbd
              have HW := hid (And.intro w1 (And.intro w2 w3))
              have HBD := hid hbd
              have n1 : (0 : Int) ≤ (k2 : Int) := by omega
              have n2 : (k2 : Int) < (l.length : Int) := by omega
              have hrb := HK.out.2.1
              have hlr := lt_of_heap hrb
              clear w1 w2 w3 hbd hP hQ hMe eA eB o hrb
              by_cases hbad : M < s1 + s2
              · have d1 : decide (M < s1 + s2) = true := by simpa using hbad
                go_upto_region 15 with fail
                go_region_held3 (fun w' => w'.cell? ⟨b2, off + k2 * 5, none⟩ = some (.int .i64 A) ∧ w'.cell? ⟨b2, off + k2 * 5 + 1, none⟩ = some (.int .i64 P) ∧ w'.cell? ⟨b2, off + k2 * 5 + 2, none⟩ = some (.int .i64 B) ∧ w'.cell? ⟨b2, off + k2 * 5 + 3, none⟩ = some (.int .i64 Q) ∧ w'.cell? ⟨b2, off + k2 * 5 + 4, none⟩ = some (.int .i64 M)) (first | exact ⟨h1, h2, h3, h4, h5⟩ | exact ⟨cell_later hb h1, cell_later hb h2, cell_later hb h3, cell_later hb h4, cell_later hb h5⟩)
                  ((go_at_call 72; (with_reducible refine (rsum_any x A B P Q M b cb _ (HX.out.below (HK.out.1.drew)) hA hB (by omega) s1 s2 HW.out.1 HW.out.2.1 HW.out.2.2).mono ?_); rintro e w1 ⟨rfl, hb⟩))
                have HBW := hid (HK.out.1.drew.step hb)
                have HRW := hid (keepBox hb HK.out.2.1)
                clear hb h1 h2 h3 h4 h5
                obtain ⟨r0, r1, r2, z0, z1, z2⟩ := box3 HRW.out
                have HFI := hid (find_some hlt2 (by rw [HBD.out]; exact d1) HK.out.2.2)
                go_wp2
                refine bodyPost_ret (v := .agg #[.int .i64 k2, .bool false, .int .i64 0]) (by simp [results, Try.results30, go_sem, r0, r1, r2]) rfl ⟨?_, HB3 HBW.out _ _ _ _ _ _⟩
                simp [fitAt, fitIs, HE.out, HFI.out]
              · have d1 : decide (M < s1 + s2) = false := by simpa using hbad
                go_upto_region 15 with fail
                go_region_held3 (fun w' => w'.cell? ⟨b2, off + k2 * 5, none⟩ = some (.int .i64 A) ∧ w'.cell? ⟨b2, off + k2 * 5 + 1, none⟩ = some (.int .i64 P) ∧ w'.cell? ⟨b2, off + k2 * 5 + 2, none⟩ = some (.int .i64 B) ∧ w'.cell? ⟨b2, off + k2 * 5 + 3, none⟩ = some (.int .i64 Q) ∧ w'.cell? ⟨b2, off + k2 * 5 + 4, none⟩ = some (.int .i64 M)) (first | exact ⟨h1, h2, h3, h4, h5⟩ | exact ⟨cell_later hb h1, cell_later hb h2, cell_later hb h3, cell_later hb h4, cell_later hb h5⟩)
                  ((go_at_call 72; (with_reducible refine (rsum_any x A B P Q M b cb _ (HX.out.below (HK.out.1.drew)) hA hB (by omega) s1 s2 HW.out.1 HW.out.2.1 HW.out.2.2).mono ?_); rintro e w1 ⟨rfl, hb⟩))
                have HBW := hid (HK.out.1.drew.step hb)
                have HRW := hid (keepBox hb HK.out.2.1)
                clear hb h1 h2 h3 h4 h5
                go_wp2
                go_roundw
                case rel =>
                  refine ⟨k2 + 1, by omega, by go_num, hid ⟨HBW.out, HRW.out, fun y hy => ?_⟩⟩
                  rw [List.take_succ_eq_append_getElem hlt2, List.mem_append] at hy
                  rcases hy with hy | hy
                  · exact HK.out.2.2 y hy
                  · rw [List.mem_singleton.1 hy, HBD.out]; exact d1
                case measure => simp [intOf]; omega
            · have hke : k2 = l.length := by omega
              have hfi : l.findIdx? (badB x) = none := find_none fun y hy => HK.out.2.2 y (by rw [hke, List.take_length]; exact hy)
              have HFI := hid hfi
              obtain ⟨r0, r1, r2, z0, z1, z2⟩ := box3 HK.out.2.1
              clear hfi hke
              go_wp2
              refine bodyPost_ret (v := .agg #[.int .i64 0, .bool true, .int .i64 0]) (by simp [results, Try.results30, go_sem, r0, r1, r2]) rfl ⟨?_, HB3 HK.out.1 _ _ _ _ _ _⟩
              simp [fitAt, fitIs, HE.out, HFI.out]
    · have hne : ((x.length : Int) != (N : Int)) = true := by simp; omega
      have hE : fitE N l x = 1 := by unfold fitE; rw [if_pos H0.out, if_neg (fun h => hN (by omega))]
      have HE := hid hE
      clear hE
      go_enter Try.func30, Try.ntmps30
      go_wp2_with (go_at_call 32; (with_reducible refine (rcheck_any _ l a ca _ (HL.out.below HB.out) (by omega)).mono ?_); rw [H0.out]; rintro e w1 ⟨rfl, hb⟩; have HB := hid (HB.out.step hb); have HR := hid (keepBox hb HR.out); clear hb; obtain ⟨r0, r1, r2, z0, z1, z2⟩ := box3 HR.out)
      refine bodyPost_ret (v := .agg #[.int .i64 0, .bool false, .int .i64 1]) (by simp [results, Try.results30, go_sem, r0, r1, r2]) rfl ⟨?_, HB3 HB.out _ _ _ _ _ _⟩
      simp [fitAt, fitIs, HE.out]
  · have hne : (checkN n l != 0) = true := by simpa using h0
    have hE : fitE n l x = checkN n l := by unfold fitE; rw [if_neg h0]
    have HE := hid hE
    have H0 := hid h0
    clear hE h0
    go_enter Try.func30, Try.ntmps30
    go_wp2_with (go_at_call 32; (with_reducible refine (rcheck_any _ l a ca _ (HL.out.below HB.out) (by omega)).mono ?_); rintro e w1 ⟨rfl, hb⟩; have HB := hid (HB.out.step hb); have HR := hid (keepBox hb HR.out); clear hb; obtain ⟨r0, r1, r2, z0, z1, z2⟩ := box3 HR.out)
    refine bodyPost_ret (v := .agg #[.int .i64 0, .bool false, .int .i64 (checkN n l)]) (by simp [results, Try.results30, go_sem, r0, r1, r2]) rfl ⟨?_, HB3 HB.out _ _ _ _ _ _⟩
    simp [fitAt, fitIs, HE.out, H0.out]
end Go.Proofs.Ytnjbahiaelehkaa
