/- The contracts of Fits of package prove and of the law's fits. -/
import Derived.Test.YtnjbahiaelehkaaA16
import Derived.Test.YtnjbahiaelehkaaA15
import Derived.Deep.QuietTactic
import Derived.BigQuiet
import Derived.WalkSmall
namespace Go.Proofs.Ytnjbahiaelehkaa
open Go.RowKit

theorem find_some {α : Type} {p : α → Bool} {l : List α} {i : Nat} (h : i < l.length) (hp : p l[i] = true) (hn : ∀ x, x ∈ l.take i → p x = false) : l.findIdx? p = some i := by
  rw [List.findIdx?_eq_some_iff_getElem]
  refine ⟨h, hp, fun j hj => ?_⟩
  have hjl : j < l.length := Nat.lt_trans hj h
  have := hn l[j] (List.mem_iff_getElem.2 ⟨j, by rw [List.length_take]; omega, by rw [List.getElem_take]⟩)
  simp [this]
theorem find_none {α : Type} {p : α → Bool} {l : List α} (hn : ∀ x, x ∈ l → p x = false) : l.findIdx? p = none := by
  rw [List.findIdx?_eq_none_iff]
  exact hn

def fn (x : List Int) (k : Nat) : Int := x.getD k 0
def badB (x : List Int) (a : AM) : Bool := decide (a.M < lhs (fn x) a)
def fitE (n : Int) (l : List AM) (x : List Int) : Int := if checkN n l = 0 then (if (x.length : Int) = n ∧ x.all inF = true then 0 else 1) else checkN n l
def fitAt (n : Int) (l : List AM) (x : List Int) : Int := if fitE n l x = 0 then (match l.findIdx? (badB x) with | some i => (i : Int) | none => 0) else 0
def fitIs (n : Int) (l : List AM) (x : List Int) : Bool := if fitE n l x = 0 then (l.findIdx? (badB x)).isNone else false

theorem contains70 (x : List Int) (b : Option Addr) (cb : Nat) (w : World) (hx : RdI w b x) (hlen : x.length ≤ 1000000) :
    Calls Try.prog 69 #[.slice b x.length cb, .func (.func 70) #[] #[]] w (RetS (.bool (!(x.all inF))) w) := by
  go_enter Try.func69, Try.ntmps69
  go_wp2_with (go_at_call 108; refine (index70 x b cb _ hx hlen).mono ?_; rintro e w' ⟨rfl, rfl⟩)
  go_ret
  refine ⟨ret_bool ?_, rfl⟩
  by_cases h : x.all inF = true
  · have : idxB (fun x => !inF x) x = -1 := idxB_none fun y hy => by rw [List.all_eq_true.1 h y hy]; rfl
    rw [this, h]; rfl
  · have hf : ∃ y, y ∈ x ∧ inF y = false := by simpa using h
    have h' : x.all inF = false := by simpa using h
    rw [h']
    unfold idxB
    cases e : x.findIdx? (fun x => !inF x) with
    | none =>
      obtain ⟨y, hy, hyf⟩ := hf
      have := List.findIdx?_eq_none_iff.1 e y hy
      rw [hyf] at this
      cases this
    | some k => simp

theorem bdrewM {w W : World} (h : Below w.heap.size w W) (n : Nat) : Below w.heap.size w (W.drewN n) := below_drewN h n
theorem wrapk {x : Int} (h : -9223372036854775808 ≤ x ∧ x ≤ 9223372036854775807) : IntKind.i64.wrap x = x := IntWalk.i64_in _ h

set_option maxRecDepth 100000 in
set_option maxHeartbeats 2000000 in
theorem fits_any (n : Int) (l : List AM) (x : List Int) (a : Option Addr) (ca : Nat) (b : Option Addr) (cb : Nat) (w : World) (hl : Rd w a l) (hlen : l.length ≤ 9223372036854775807) (hx : RdI w b x) (hxl : x.length ≤ 9223372036854775807) :
    Calls Try.prog 29 #[.int .i64 n, .slice a l.length ca, .slice b x.length cb] w (Ret3 (.int .i64 (fitAt n l x)) (.bool (fitIs n l x)) (.int .i64 (fitE n l x)) w) := by
  have HL := hid hl; clear hl
  have HX := hid hx; clear hx
  by_cases h0 : checkN n l = 0
  · obtain ⟨⟨hn1, hn2⟩, hl40, hrs⟩ := checkN_in h0
    obtain ⟨N, rfl⟩ : ∃ N : Nat, n = (N : Int) := ⟨n.toNat, by omega⟩
    have HOK := hid (rights_ok hrs)
    have H0 := hid h0
    clear h0 hrs
    by_cases hN : x.length = N
    · by_cases hall : x.all inF = true
      · have hE : fitE N l x = 0 := by unfold fitE; rw [if_pos H0.out, if_pos ⟨by omega, hall⟩]
        have HE := hid hE
        have HA := hid hall
        have HN := hid hN
        clear hE hall
        subst hN
        go_enter Try.func29, Try.ntmps29
        go_wp2_with (first
          | (go_at_call 31; (with_reducible refine (check_any _ l a ca _ HL.out (by omega)).mono ?_); rw [H0.out]; rintro e w1 ⟨rfl, hb⟩; have HB := hid hb; clear hb)
          | (go_at_call 69; (with_reducible refine (contains70 x b cb _ (HX.out.below HB.out) (by omega)).mono ?_); rw [HA.out]; rintro e w2 ⟨rfl, rfl⟩))
        go_loopw [28] (fun s wr => ∃ k : Nat, k ≤ l.length ∧ s = .int .i64 k ∧ Below w.heap.size w wr ∧ Hid (∀ y, y ∈ l.take k → badB x y = false)) (fun s _ => l.length - (intOf s).toNat)
        case atStart => exact ⟨0, Nat.zero_le _, rfl, HB.out, hid (by simp)⟩
        case round =>
          obtain ⟨k, hk, rfl, hbw, HQ⟩ := hrel
          by_cases hlt : k < l.length
          · obtain ⟨b2, off, ha, hlt2, h1, h2, h3, h4, h5⟩ := HL.out.below hbw k hlt
            have o := HOK.out l[k] (List.getElem_mem hlt)
            have oA := o.a0
            have oA2 := o.an
            have oB1 : 0 ≤ l[k].B := by
              by_cases hq : l[k].Q = 0
              · have := o.b0 hq; omega
              · have := o.b1 hq; omega
            have oB2 : l[k].B < (x.length : Int) := by
              by_cases hq : l[k].Q = 0
              · have := o.b0 hq; omega
              · have := o.b1 hq; omega
            obtain ⟨A, hA⟩ : ∃ A : Nat, l[k].A = (A : Int) := ⟨l[k].A.toNat, by omega⟩
            obtain ⟨B, hB⟩ : ∃ B : Nat, l[k].B = (B : Int) := ⟨l[k].B.toNat, by omega⟩
            have hAx : A < x.length := by omega
            have hBx : B < x.length := by omega
            obtain ⟨bx, ox, hbx, hltx, cA⟩ := HX.out.below hbw A hAx
            obtain ⟨bx', ox', hbx', _, cB⟩ := HX.out.below hbw B hBx
            rw [hbx] at hbx'
            cases hbx'
            have iA : -1099511627776 ≤ x[A] ∧ x[A] ≤ 1099511627776 := by simpa [inF, inB] using List.all_eq_true.1 HA.out x[A] (List.getElem_mem hAx)
            have iB : -1099511627776 ≤ x[B] ∧ x[B] ≤ 1099511627776 := by simpa [inF, inB] using List.all_eq_true.1 HA.out x[B] (List.getElem_mem hBx)
            obtain ⟨s1, hs1⟩ : ∃ s, s = l[k].P * x[A] := ⟨_, rfl⟩
            obtain ⟨s2, hs2⟩ : ∃ s, s = l[k].Q * x[B] := ⟨_, rfl⟩
            have i1 : -1099511627776 ≤ s1 ∧ s1 ≤ 1099511627776 := by
              rcases o.p with h | h <;> rw [h] at hs1 <;> omega
            have i2 : -1099511627776 ≤ s2 ∧ s2 ≤ 1099511627776 := by
              rcases o.q with h | h | h <;> rw [h] at hs2 <;> omega
            have hbd : badB x l[k] = decide (l[k].M < s1 + s2) := by
              unfold badB lhs fn
              rw [hA, hB, Int.toNat_natCast, Int.toNat_natCast, List.getD_eq_getElem?_getD, List.getD_eq_getElem?_getD, List.getElem?_eq_getElem hAx, List.getElem?_eq_getElem hBx, hs1, hs2]
              rfl
            have hM := o.lo
            have hM2 := o.hi
            rw [hA] at h1
            rw [hB] at h3
            obtain ⟨P, hP⟩ : ∃ P, P = l[k].P := ⟨_, rfl⟩
            obtain ⟨Q, hQ⟩ : ∃ Q, Q = l[k].Q := ⟨_, rfl⟩
            obtain ⟨M, hMe⟩ : ∃ M, M = l[k].M := ⟨_, rfl⟩
            obtain ⟨xa, hxa⟩ : ∃ M, M = x[A] := ⟨_, rfl⟩
            obtain ⟨xb, hxb⟩ : ∃ M, M = x[B] := ⟨_, rfl⟩
            rw [← hP, ← hxa] at hs1
            rw [← hQ, ← hxb] at hs2
            rw [← hMe] at hbd hM hM2 h5
            rw [← hP] at h2
            rw [← hQ] at h4
            rw [← hxa] at cA
            rw [← hxb] at cB
            have w1 : IntKind.i64.wrap (P * xa) = s1 := by rw [← hs1]; exact wrapk ⟨by omega, by omega⟩
            have w2 : IntKind.i64.wrap (Q * xb) = s2 := by rw [← hs2]; exact wrapk ⟨by omega, by omega⟩
            have w3 : IntKind.i64.wrap (s1 + s2) = s1 + s2 := wrapk ⟨by omega, by omega⟩
            have HBD := hid hbd
            have nA : (0 : Int) ≤ A := by omega
            have nA2 : (A : Int) < (x.length : Int) := by omega
            have nB : (0 : Int) ≤ B := by omega
            have nB2 : (B : Int) < (x.length : Int) := by omega
            have W := hid (And.intro w1 (And.intro w2 w3))
            clear hs1 hs2 hbd hP hQ hMe hxa hxb w1 w2 w3 o hA hB iA iB
            subst ha
            subst hbx
            go_upto_region 9 with fail
            by_cases hbad : M < s1 + s2
            · have d1 : decide (M < s1 + s2) = true := by simpa using hbad
              obtain ⟨w1, w2, w3⟩ := W.out
              clear i1 i2
              go_quiet (fail)
              clear w1 w2 w3
              go_wp2
              go_ret3
              have hfi : l.findIdx? (badB x) = some k := find_some hlt (by rw [HBD.out]; exact d1) HQ.out
              exact ⟨by simp [fitAt, fitIs, HE.out, hfi], bdrewM (hbw.alloc hbw.size _) _⟩
            · have d1 : decide (M < s1 + s2) = false := by simpa using hbad
              obtain ⟨w1, w2, w3⟩ := W.out
              clear i1 i2
              go_quiet (fail)
              clear w1 w2 w3
              go_wp2
              go_roundw
              case rel =>
                refine ⟨k + 1, by omega, by go_num, bdrewM (hbw.alloc hbw.size _) _, hid fun y hy => ?_⟩
                rw [List.take_succ_eq_append_getElem hlt, List.mem_append] at hy
                rcases hy with hy | hy
                · exact HQ.out y hy
                · rw [List.mem_singleton.1 hy, HBD.out]; exact d1
              case measure => simp [intOf]; omega
          · have hke : k = l.length := by omega
            have hfi : l.findIdx? (badB x) = none := find_none fun y hy => HQ.out y (by rw [hke, List.take_length]; exact hy)
            have HFI := hid hfi
            clear hfi hke
            go_wp2
            go_ret3
            exact ⟨by simp [fitAt, fitIs, HE.out, HFI.out], hbw⟩
      · have hall' : x.all inF = false := by simpa using hall
        have hE : fitE N l x = 1 := by unfold fitE; rw [if_pos H0.out, if_neg (fun h => hall h.2)]
        have HE := hid hE
        have HA := hid hall'
        clear hE hall hall'
        subst hN
        go_enter Try.func29, Try.ntmps29
        go_wp2_with (first
          | (go_at_call 31; (with_reducible refine (check_any _ l a ca _ HL.out (by omega)).mono ?_); rw [H0.out]; rintro e w1 ⟨rfl, hb⟩; have HB := hid hb; clear hb)
          | (go_at_call 69; (with_reducible refine (contains70 x b cb _ (HX.out.below HB.out) (by omega)).mono ?_); rw [HA.out]; rintro e w2 ⟨rfl, rfl⟩))
        go_ret3
        exact ⟨by simp [fitAt, fitIs, HE.out], HB.out⟩
    · have hne : ((x.length : Int) != (N : Int)) = true := by simp; omega
      have hE : fitE N l x = 1 := by unfold fitE; rw [if_pos H0.out, if_neg (fun h => hN (by omega))]
      have HE := hid hE
      clear hE
      go_enter Try.func29, Try.ntmps29
      go_wp2_with (go_at_call 31; (with_reducible refine (check_any _ l a ca _ HL.out (by omega)).mono ?_); rw [H0.out]; rintro e w1 ⟨rfl, hb⟩; have HB := hid hb; clear hb)
      go_ret3
      exact ⟨by simp [fitAt, fitIs, HE.out], HB.out⟩
  · have hne : (checkN n l != 0) = true := by simpa using h0
    have hE : fitE n l x = checkN n l := by unfold fitE; rw [if_neg h0]
    have HE := hid hE
    have H0 := hid h0
    clear hE h0
    obtain ⟨c, hc⟩ : ∃ c, c = checkN n l := ⟨_, rfl⟩
    rw [← hc] at hne
    have HC := hid hc
    clear hc
    go_enter Try.func29, Try.ntmps29
    go_wp2_with (go_at_call 31; (with_reducible refine (check_any _ l a ca _ HL.out (by omega)).mono ?_); rw [← HC.out]; rintro e w1 ⟨rfl, hb⟩; have HB := hid hb; clear hb)
    go_ret3
    exact ⟨by rw [HE.out, ← HC.out]; simp [fitAt, fitIs, HE.out, H0.out], HB.out⟩
set_option maxHeartbeats 1000000 in
theorem lawfits_any (n : Int) (l : List AM) (x : List Int) (a : Option Addr) (ca : Nat) (b : Option Addr) (cb : Nat) (w : World) (hl : Rd w a l) (hlen : l.length ≤ 9223372036854775807) (hx : RdI w b x) (hxl : x.length ≤ 9223372036854775807) :
    Calls Try.prog 40 #[.int .i64 n, .slice a l.length ca, .slice b x.length cb] w (RetB (.bool (fitIs n l x)) w) := by
  by_cases h : fitE n l x = 0
  · have H := hid h
    obtain ⟨r, hr⟩ : ∃ r, r = fitIs n l x := ⟨_, rfl⟩
    rw [← hr]
    have HR := hid hr
    clear h hr
    cases r
    all_goals
      go_enter Try.func40, Try.ntmps40
      go_wp2_with (go_at_call 29; (with_reducible refine (fits_any n l x a ca b cb _ hl hlen hx hxl).mono ?_); rw [H.out, ← HR.out]; rintro e w1 ⟨rfl, hb⟩; have HB := hid hb; clear hb)
      go_ret
      exact ⟨rfl, HB.out⟩
  · have hf : fitIs n l x = false := by unfold fitIs; rw [if_neg h]
    rw [hf]
    have HF := hid hf
    clear h hf
    go_enter Try.func40, Try.ntmps40
    go_wp2_with (go_at_call 29; (with_reducible refine (fits_any n l x a ca b cb _ hl hlen hx hxl).mono ?_); rw [HF.out]; rintro e w1 ⟨rfl, hb⟩; have HB := hid hb; clear hb)
    go_ret
    exact ⟨rfl, HB.out⟩
end Go.Proofs.Ytnjbahiaelehkaa
