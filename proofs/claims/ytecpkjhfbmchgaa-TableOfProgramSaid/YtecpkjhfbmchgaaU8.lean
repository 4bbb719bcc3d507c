/- leads, change and called of package core. named of package core: every string. sizes of package core. Programs: plain, and in memory. fits of package core. -/
import Derived.Test.YtecpkjhfbmchgaaU7
import Derived.Laws.RangeAny
namespace Go.Proofs.Ytecpkjhfbmchgaa
open Go.RowKit


abbrev oU (u : UntN) (ca : Option Addr) (cc : Nat) (ga : Option Addr) (gc : Nat) : Obj := .cells #[.string u.cls, .string u.name, .int .i64 u.args, .int .i64 u.slots, .int .i64 u.frame, .slice ca u.code.length cc, .slice ga u.guards.length gc] 96
theorem leads_any (u : UntN) (t : Int) (ca : Option Addr) (cc : Nat) (ga : Option Addr) (gc : Nat) (w : World) :
    Calls Try.prog 64 #[vU u ca cc ga gc, .int .i64 t] w fun e w' => e = .returned (.func (.func 72) #[] #[.pointer (some ⟨w.heap.size, 0, none⟩), .pointer (some ⟨w.heap.size + 1, 0, none⟩)]) ∧ (w.alloc (oU u ca cc ga gc)).alloc (.cells #[.int .i64 t] 3) = w' := by
  go_enter Try.func64, Try.ntmps64
  go_wp2
  go_ret
  exact ⟨rfl, rfl⟩
/-- By how much the depth changes. -/
def changeN (i : InsN) (how : Int) : Int := if i.op = 30 ∧ how = 0 then 1 else if (i.op = 31 ∧ how = 0) ∨ (i.op = 32 ∧ how = 1) then -1 else 0
set_option maxHeartbeats 1000000 in
theorem change_any (i : InsN) (how : Int) (w : World) : Calls Try.prog 76 #[vI i, .int .i64 how] w (RetB (.int .i64 (changeN i how)) w) := by
  have HB := hid (bnew w (.cells #[.int .i64 i.op, .int .i64 i.a, .int .i64 i.b, .int .i64 i.c] 113))
  obtain ⟨v, hv⟩ : ∃ v, v = changeN i how := ⟨_, rfl⟩
  rw [← hv]
  unfold changeN at hv
  by_cases h0 : how = 0
  · have n1 : ¬ how = 1 := by omega
    have d0 : (how == 0) = true := by rw [h0]; rfl
    have d1 : (how == 1) = false := by rw [h0]; rfl
    by_cases h30 : i.op = 30
    · have e0 : (i.op == 30) = true := by rw [h30]; rfl
      have HV := hid (hv.trans (by rw [if_pos ⟨h30, h0⟩]))
      clear hv h0 h30
      go_enter Try.func76, Try.ntmps76
      go_wp2
      go_ret
      exact ⟨ret_int HV.out.symm, HB.out⟩
    · have e0 : (i.op == 30) = false := by rw [beq_eq_false_iff_ne]; exact h30
      by_cases h31 : i.op = 31
      · have e1 : (i.op == 31) = true := by rw [h31]; rfl
        have HV := hid (hv.trans (by rw [if_neg (by omega), if_pos (by omega)]))
        clear hv h0 h30 h31
        go_enter Try.func76, Try.ntmps76
        go_wp2
        go_ret
        exact ⟨ret_int HV.out.symm, HB.out⟩
      · have e1 : (i.op == 31) = false := by rw [beq_eq_false_iff_ne]; exact h31
        have HV := hid (hv.trans (by rw [if_neg (by omega), if_neg (by omega)]))
        by_cases h32 : i.op = 32
        · have e2 : (i.op == 32) = true := by rw [h32]; rfl
          clear hv h0 h30 h31 h32
          go_enter Try.func76, Try.ntmps76
          go_wp2
          go_ret
          exact ⟨ret_int HV.out.symm, HB.out⟩
        · have e2 : (i.op == 32) = false := by rw [beq_eq_false_iff_ne]; exact h32
          clear hv h0 h30 h31 h32
          go_enter Try.func76, Try.ntmps76
          go_wp2
          go_ret
          exact ⟨ret_int HV.out.symm, HB.out⟩
  · have d0 : (how == 0) = false := by rw [beq_eq_false_iff_ne]; exact h0
    by_cases h32 : i.op = 32
    · have e2 : (i.op == 32) = true := by rw [h32]; rfl
      have e0 : (i.op == 30) = false := by rw [h32]; rfl
      have e1 : (i.op == 31) = false := by rw [h32]; rfl
      by_cases h1 : how = 1
      · have d1 : (how == 1) = true := by rw [h1]; rfl
        have HV := hid (hv.trans (by rw [if_neg (by omega), if_pos (by omega)]))
        clear hv h0 h32 h1
        go_enter Try.func76, Try.ntmps76
        go_wp2
        go_ret
        exact ⟨ret_int HV.out.symm, HB.out⟩
      · have d1 : (how == 1) = false := by rw [beq_eq_false_iff_ne]; exact h1
        have HV := hid (hv.trans (by rw [if_neg (by omega), if_neg (by omega)]))
        clear hv h0 h32 h1
        go_enter Try.func76, Try.ntmps76
        go_wp2
        go_ret
        exact ⟨ret_int HV.out.symm, HB.out⟩
    · have e2 : (i.op == 32) = false := by rw [beq_eq_false_iff_ne]; exact h32
      have HV := hid (hv.trans (by rw [if_neg (by omega), if_neg (by omega)]))
      cases e0 : (i.op == 30) with
      | true =>
        have e1 : (i.op == 31) = false := by simp at e0; rw [e0]; rfl
        clear hv h0 h32
        go_enter Try.func76, Try.ntmps76
        go_wp2
        go_ret
        exact ⟨ret_int HV.out.symm, HB.out⟩
      | false =>
        cases e1 : (i.op == 31) with
        | true =>
          clear hv h0 h32
          go_enter Try.func76, Try.ntmps76
          go_wp2
          go_ret
          exact ⟨ret_int HV.out.symm, HB.out⟩
        | false =>
          clear hv h0 h32
          go_enter Try.func76, Try.ntmps76
          go_wp2
          go_ret
          exact ⟨ret_int HV.out.symm, HB.out⟩
/-- The selector that an instruction calls with arguments. -/
def callC (i : InsN) : Int := if i.op = 20 then i.c else if i.op = 22 then i.b else 0
def callB (i : InsN) : Bool := i.op == 20 || i.op == 22
theorem called_any (i : InsN) (w : World) : Calls Try.prog 71 #[vI i] w (Ret2 (.int .i64 (callC i)) (.bool (callB i)) w) := by
  have HB := hid (bnew w (.cells #[.int .i64 i.op, .int .i64 i.a, .int .i64 i.b, .int .i64 i.c] 113))
  obtain ⟨v, hv⟩ : ∃ v, v = callC i := ⟨_, rfl⟩
  obtain ⟨x, hx⟩ : ∃ x, x = callB i := ⟨_, rfl⟩
  rw [← hv, ← hx]
  unfold callC at hv
  unfold callB at hx
  cases e0 : (i.op == 20) with
  | true =>
    have h0 : i.op = 20 := by simpa using e0
    have HV := hid (hv.trans (if_pos h0))
    rw [e0] at hx
    have HX := hid (hx.trans (Bool.true_or _))
    clear hv hx h0
    go_enter Try.func71, Try.ntmps71
    go_wp2
    go_ret2
    exact ⟨by rw [HV.out, HX.out]; rfl, HB.out⟩
  | false =>
    have h0 : ¬ i.op = 20 := by simpa using e0
    have hv := hv.trans (if_neg h0)
    rw [e0] at hx
    cases e1 : (i.op == 22) with
    | true =>
      have h1 : i.op = 22 := by simpa using e1
      have HV := hid (hv.trans (if_pos h1))
      rw [e1] at hx
      have HX := hid (hx : x = true)
      clear hv hx h0 h1
      go_enter Try.func71, Try.ntmps71
      go_wp2
      go_ret2
      exact ⟨by rw [HV.out, HX.out]; rfl, HB.out⟩
    | false =>
      have h1 : ¬ i.op = 22 := by simpa using e1
      have HV := hid (hv.trans (if_neg h1))
      rw [e1] at hx
      have HX := hid (hx : x = false)
      clear hv hx h0 h1
      go_enter Try.func71, Try.ntmps71
      go_wp2
      go_ret2
      exact ⟨by rw [HV.out, HX.out]; rfl, HB.out⟩


theorem nameB_in (c : UInt8) : nameB c = (inN c.toNat 97 122 || inN c.toNat 65 90 || inN c.toNat 48 57 || ((c.toNat : Int) == 95)) := by
  unfold nameB inN
  rw [Bool.eq_iff_iff]
  simp only [Bool.or_eq_true, Bool.and_eq_true, decide_eq_true_eq, beq_iff_eq, UInt8.le_iff_toNat_le, ← UInt8.toNat_inj]
  simp
  omega
/-- The first k bytes are those of a name. -/
def nmU (s : ByteArray) (k : Nat) : Prop := ∀ c, c ∈ s.data.toList.take k → nameB c = true
theorem nmU_succ {s : ByteArray} {k : Nat} (h : nmU s k) (hk : k < s.size) (hc : nameB (s[k]'hk) = true) : nmU s (k + 1) := by
  have hk' : k < s.data.toList.length := by simpa using hk
  intro c hc'
  rw [take_last hk', List.mem_append] at hc'
  rcases hc' with h1 | h1
  · exact h c h1
  · rw [List.mem_singleton.1 h1]
    exact hc
theorem named_no {s : ByteArray} {k : Nat} (hk : k < s.size) (hc : nameB (s[k]'hk) = false) : namedB s = false := by
  unfold namedB
  have : s.data.toList.all nameB = false := by
    rw [List.all_eq_false]
    refine ⟨s[k]'hk, ?_, by rw [hc]; simp⟩
    have hk' : k < s.data.toList.length := by simpa using hk
    exact List.getElem_mem hk'
  rw [this]
  rfl
theorem named_end {s : ByteArray} (h : nmU s s.size) : namedB s = inN s.size 1 20 := by
  unfold namedB
  have : s.data.toList.all nameB = true := by
    rw [List.all_eq_true]
    intro c hc
    refine h c ?_
    rw [List.take_of_length_le (by simp)]
    exact hc
  rw [this]
  rfl
theorem iter_below (w : World) (s : ByteArray) (p : Nat) : Below w.heap.size w (w.iter s p) := bnew w _
set_option maxRecDepth 100000 in
set_option maxHeartbeats 2000000 in
theorem named_any (s : ByteArray) (w : World) (_hs : s.size ≤ 9223372036854775807) : Calls Try.prog 37 #[.string s] w (RetB (.bool (namedB s)) w) := by
  have HW := hid (fun (n lo hi : Int) (w : World) => within_any n lo hi w)
  go_enter Try.func37, Try.ntmps37
  go_wp2
  go_loopg [4] s.size (fun gh _s4 wr => ∃ p : Nat, p ≤ s.size ∧ gh = s.size - p ∧ wr = w.iter s p ∧ Hid (nmU s p))
  case atStart => exact ⟨0, Nat.zero_le _, rfl, rfl, hid (fun c hc => by simp at hc)⟩
  case round =>
    obtain ⟨p, hp, rfl, rfl, HN⟩ := hrel
    by_cases hlt : p < s.size
    · have HIN := hid (nameB_in (s[p]'hlt))
      have HNO := hid (fun h => named_no (s := s) hlt h)
      have HSU := hid (fun h => nmU_succ HN.out hlt h)
      by_cases ha : (s[p]'hlt).toNat < 128
      · have hnx := fun ty => run_next_ascii (P := Try.prog) w s p ty hlt ha
        have hc0 : (0 : Int) ≤ ((s[p]'hlt).toNat : Int) := by omega
        have hc1 : ((s[p]'hlt).toNat : Int) ≤ 127 := by omega
        generalize (s[p]'hlt) = c at *
        generalize hcn : c.toNat = n at *
        clear hcn
        cases b0 : inN n 97 122 with
        | true =>
          have HE := hid (by rw [HIN.out, b0]; simp : nameB c = true)
          have B0 := hid b0; 
          clear b0
          go_wp2_with (first | (go_at_call 38; (with_reducible refine (HW.out n 97 122 _).mono ?_); rw [B0.out]; rintro e w9 ⟨rfl, rfl⟩))
          go_roundg (s.size - (p + 1))
          case measure => omega
          case rel => exact ⟨p + 1, by omega, rfl, rfl, hid (HSU.out HE.out)⟩
        | false =>
          cases b1 : inN n 65 90 with
          | true =>
            have HE := hid (by rw [HIN.out, b0, b1]; simp : nameB c = true)
            have B0 := hid b0; have B1 := hid b1; 
            clear b0 b1
            go_wp2_with (first | (go_at_call 38; (with_reducible refine (HW.out n 97 122 _).mono ?_); rw [B0.out]; rintro e w9 ⟨rfl, rfl⟩) | (go_at_call 38; (with_reducible refine (HW.out n 65 90 _).mono ?_); rw [B1.out]; rintro e w9 ⟨rfl, rfl⟩))
            go_roundg (s.size - (p + 1))
            case measure => omega
            case rel => exact ⟨p + 1, by omega, rfl, rfl, hid (HSU.out HE.out)⟩
          | false =>
            cases b2 : inN n 48 57 with
            | true =>
              have HE := hid (by rw [HIN.out, b0, b1, b2]; simp : nameB c = true)
              have B0 := hid b0; have B1 := hid b1; have B2 := hid b2; 
              clear b0 b1 b2
              go_wp2_with (first | (go_at_call 38; (with_reducible refine (HW.out n 97 122 _).mono ?_); rw [B0.out]; rintro e w9 ⟨rfl, rfl⟩) | (go_at_call 38; (with_reducible refine (HW.out n 65 90 _).mono ?_); rw [B1.out]; rintro e w9 ⟨rfl, rfl⟩) | (go_at_call 38; (with_reducible refine (HW.out n 48 57 _).mono ?_); rw [B2.out]; rintro e w9 ⟨rfl, rfl⟩))
              go_roundg (s.size - (p + 1))
              case measure => omega
              case rel => exact ⟨p + 1, by omega, rfl, rfl, hid (HSU.out HE.out)⟩
            | false =>
              cases b3 : ((n : Int) == 95) with
              | true =>
                have HE := hid (by rw [HIN.out, b0, b1, b2, b3]; simp : nameB c = true)
                have B0 := hid b0; have B1 := hid b1; have B2 := hid b2; 
                clear b0 b1 b2
                go_wp2_with (first | (go_at_call 38; (with_reducible refine (HW.out n 97 122 _).mono ?_); rw [B0.out]; rintro e w9 ⟨rfl, rfl⟩) | (go_at_call 38; (with_reducible refine (HW.out n 65 90 _).mono ?_); rw [B1.out]; rintro e w9 ⟨rfl, rfl⟩) | (go_at_call 38; (with_reducible refine (HW.out n 48 57 _).mono ?_); rw [B2.out]; rintro e w9 ⟨rfl, rfl⟩))
                go_roundg (s.size - (p + 1))
                case measure => omega
                case rel => exact ⟨p + 1, by omega, rfl, rfl, hid (HSU.out HE.out)⟩
              | false =>
                have HE := hid (by rw [HIN.out, b0, b1, b2, b3]; rfl : nameB c = false)
                have B0 := hid b0; have B1 := hid b1; have B2 := hid b2; 
                have b4 : ((n : Int) != 95) = true := by rw [bne, b3]; rfl
                clear b0 b1 b2
                go_wp2_with (first | (go_at_call 38; (with_reducible refine (HW.out n 97 122 _).mono ?_); rw [B0.out]; rintro e w9 ⟨rfl, rfl⟩) | (go_at_call 38; (with_reducible refine (HW.out n 65 90 _).mono ?_); rw [B1.out]; rintro e w9 ⟨rfl, rfl⟩) | (go_at_call 38; (with_reducible refine (HW.out n 48 57 _).mono ?_); rw [B2.out]; rintro e w9 ⟨rfl, rfl⟩))
                go_ret
                exact ⟨ret_bool (HNO.out HE.out).symm, iter_below _ _ _⟩
      · have hhi := decode_high s p hlt (by omega)
        have hle := decode_le s p
        have hnx := fun ty => run_next_any (P := Try.prog) w s p ty hlt
        have HE := hid (by
          rw [HIN.out]
          have : 128 ≤ (s[p]'hlt).toNat := by omega
          unfold inN
          simp
          omega : nameB (s[p]'hlt) = false)
        obtain ⟨hhi, hst⟩ := hhi
        generalize (Utf8.decode s p).1 = r at *
        generalize (Utf8.decode s p).2 = d at *
        have B0 := hid (by unfold inN; simp; omega : inN r 97 122 = false)
        have B1 := hid (by unfold inN; simp; omega : inN r 65 90 = false)
        have B2 := hid (by unfold inN; simp; omega : inN r 48 57 = false)
        have b4 : ((r : Int) != 95) = true := by simp; omega
        clear hst
        go_wp2_with (first | (go_at_call 38; (with_reducible refine (HW.out r 97 122 _).mono ?_); rw [B0.out]; rintro e w9 ⟨rfl, rfl⟩) | (go_at_call 38; (with_reducible refine (HW.out r 65 90 _).mono ?_); rw [B1.out]; rintro e w9 ⟨rfl, rfl⟩) | (go_at_call 38; (with_reducible refine (HW.out r 48 57 _).mono ?_); rw [B2.out]; rintro e w9 ⟨rfl, rfl⟩))
        go_ret
        exact ⟨ret_bool (HNO.out HE.out).symm, iter_below _ _ _⟩
    · obtain rfl : p = s.size := by omega
      have hnx := fun ty => run_next_end (P := Try.prog) w s s.size ty (by omega)
      have HE := hid (named_end HN.out)
      go_wp2_with (go_at_call 38; (with_reducible refine (HW.out s.size 1 20 _).mono ?_); rintro e w9 ⟨rfl, rfl⟩)
      go_ret
      exact ⟨ret_bool HE.out.symm, iter_below _ _ _⟩


def roomN (u : UntN) : Int := if u.frame = 0 then u.slots else u.frame
/-- The error of the numbers of a unit. -/
def sizesN (u : UntN) : Int := if 16 < u.args ∨ 200 < u.slots ∨ 200 < u.frame ∨ 600 < u.code.length ∨ 40 < u.guards.length then 3 else if u.args < 0 ∨ u.slots < 1 ∨ u.frame < 0 ∨ roomN u < u.args ∨ u.code.length = 0 then 1 else 0
set_option maxHeartbeats 2000000 in
theorem sizes_any (u : UntN) (ca : Option Addr) (cc : Nat) (ga : Option Addr) (gc : Nat) (w : World) : Calls Try.prog 58 #[vU u ca cc ga gc] w (RetB (.int .i64 (sizesN u)) w) := by
  have HB := hid (bnew w (oU u ca cc ga gc))
  obtain ⟨k0, k1, k2, k3, k4, k5, k6⟩ := box7 (heapn w (oU u ca cc ga gc) _ rfl)
  obtain ⟨v, hv⟩ : ∃ v, v = sizesN u := ⟨_, rfl⟩
  rw [← hv]
  unfold sizesN at hv
  by_cases h0 : 16 < u.args
  · have d0 : decide ((16 : Int) < u.args) = true := decide_eq_true (by omega)
    have n0 : (16 : Int) < u.args := by omega
    have HV := hid (hv.trans (if_pos (by omega)))
    clear hv h0
    go_enter Try.func58, Try.ntmps58
    go_wp2
    go_ret
    exact ⟨ret_int HV.out.symm, HB.out⟩
  · have d0 : decide ((16 : Int) < u.args) = false := decide_eq_false (by omega)
    have n0 : ¬ (16 : Int) < u.args := by omega
    by_cases h1 : 200 < u.slots
    · have d1 : decide ((200 : Int) < u.slots) = true := decide_eq_true (by omega)
      have n1 : (200 : Int) < u.slots := by omega
      have HV := hid (hv.trans (if_pos (by omega)))
      clear hv h0 h1
      go_enter Try.func58, Try.ntmps58
      go_wp2
      go_ret
      exact ⟨ret_int HV.out.symm, HB.out⟩
    · have d1 : decide ((200 : Int) < u.slots) = false := decide_eq_false (by omega)
      have n1 : ¬ (200 : Int) < u.slots := by omega
      by_cases h2 : 200 < u.frame
      · have d2 : decide ((200 : Int) < u.frame) = true := decide_eq_true (by omega)
        have n2 : (200 : Int) < u.frame := by omega
        have HV := hid (hv.trans (if_pos (by omega)))
        clear hv h0 h1 h2
        go_enter Try.func58, Try.ntmps58
        go_wp2
        go_ret
        exact ⟨ret_int HV.out.symm, HB.out⟩
      · have d2 : decide ((200 : Int) < u.frame) = false := decide_eq_false (by omega)
        have n2 : ¬ (200 : Int) < u.frame := by omega
        by_cases h3 : 600 < u.code.length
        · have d3 : decide ((600 : Int) < (u.code.length : Int)) = true := decide_eq_true (by omega)
          have n3 : (600 : Int) < (u.code.length : Int) := by omega
          have HV := hid (hv.trans (if_pos (by omega)))
          clear hv h0 h1 h2 h3
          go_enter Try.func58, Try.ntmps58
          go_wp2
          go_ret
          exact ⟨ret_int HV.out.symm, HB.out⟩
        · have d3 : decide ((600 : Int) < (u.code.length : Int)) = false := decide_eq_false (by omega)
          have n3 : ¬ (600 : Int) < (u.code.length : Int) := by omega
          by_cases h4 : 40 < u.guards.length
          · have d4 : decide ((40 : Int) < (u.guards.length : Int)) = true := decide_eq_true (by omega)
            have n4 : (40 : Int) < (u.guards.length : Int) := by omega
            have HV := hid (hv.trans (if_pos (by omega)))
            clear hv h0 h1 h2 h3 h4
            go_enter Try.func58, Try.ntmps58
            go_wp2
            go_ret
            exact ⟨ret_int HV.out.symm, HB.out⟩
          · have d4 : decide ((40 : Int) < (u.guards.length : Int)) = false := decide_eq_false (by omega)
            have n4 : ¬ (40 : Int) < (u.guards.length : Int) := by omega
            replace hv := hv.trans (if_neg (by omega))
            clear h0 h1 h2 h3 h4
            obtain ⟨room, hroom⟩ : ∃ r, r = roomN u := ⟨_, rfl⟩
            rw [← hroom] at hv
            unfold roomN at hroom
            by_cases hf : u.frame = 0
            · have f0 : (u.frame == 0) = true := by rw [hf]; rfl
              have hrm := hroom.trans (if_pos hf)
              subst hrm
              clear hroom
              by_cases g0 : u.args < 0
              · have e0 : decide (u.args < 0) = true := decide_eq_true g0
                have HV := hid (hv.trans (if_pos (by omega)))
                clear hv hf
                go_enter Try.func58, Try.ntmps58
                go_wp2
                go_ret
                exact ⟨ret_int HV.out.symm, HB.out⟩
              · have e0 : decide (u.args < 0) = false := decide_eq_false g0
                by_cases g1 : u.slots < 1
                · have e1 : decide (u.slots < 1) = true := decide_eq_true g1
                  have HV := hid (hv.trans (if_pos (by omega)))
                  clear hv hf
                  go_enter Try.func58, Try.ntmps58
                  go_wp2
                  go_ret
                  exact ⟨ret_int HV.out.symm, HB.out⟩
                · have e1 : decide (u.slots < 1) = false := decide_eq_false g1
                  by_cases g2 : u.frame < 0
                  · have e2 : decide (u.frame < 0) = true := decide_eq_true g2
                    have HV := hid (hv.trans (if_pos (by omega)))
                    clear hv hf
                    go_enter Try.func58, Try.ntmps58
                    go_wp2
                    go_ret
                    exact ⟨ret_int HV.out.symm, HB.out⟩
                  · have e2 : decide (u.frame < 0) = false := decide_eq_false g2
                    by_cases g3 : u.slots < u.args
                    · have e3 : decide (u.slots < u.args) = true := decide_eq_true g3
                      have HV := hid (hv.trans (if_pos (by omega)))
                      clear hv hf
                      go_enter Try.func58, Try.ntmps58
                      go_wp2
                      go_ret
                      exact ⟨ret_int HV.out.symm, HB.out⟩
                    · have e3 : decide (u.slots < u.args) = false := decide_eq_false g3
                      by_cases g4 : u.code.length = 0
                      · have e4 : ((u.code.length : Int) == 0) = true := by rw [g4]; rfl
                        have HV := hid (hv.trans (if_pos (by omega)))
                        clear hv hf g4
                        go_enter Try.func58, Try.ntmps58
                        go_wp2
                        go_ret
                        exact ⟨ret_int HV.out.symm, HB.out⟩
                      · have e4 : ((u.code.length : Int) == 0) = false := by rw [beq_eq_false_iff_ne]; omega
                        have HV := hid (hv.trans (if_neg (by omega)))
                        clear hv hf g4
                        go_enter Try.func58, Try.ntmps58
                        go_wp2
                        go_ret
                        exact ⟨ret_int HV.out.symm, HB.out⟩
            · have f0 : (u.frame == 0) = false := by rw [beq_eq_false_iff_ne]; exact hf
              have hrm := hroom.trans (if_neg hf)
              subst hrm
              clear hroom
              by_cases g0 : u.args < 0
              · have e0 : decide (u.args < 0) = true := decide_eq_true g0
                have HV := hid (hv.trans (if_pos (by omega)))
                clear hv hf
                go_enter Try.func58, Try.ntmps58
                go_wp2
                go_ret
                exact ⟨ret_int HV.out.symm, HB.out⟩
              · have e0 : decide (u.args < 0) = false := decide_eq_false g0
                by_cases g1 : u.slots < 1
                · have e1 : decide (u.slots < 1) = true := decide_eq_true g1
                  have HV := hid (hv.trans (if_pos (by omega)))
                  clear hv hf
                  go_enter Try.func58, Try.ntmps58
                  go_wp2
                  go_ret
                  exact ⟨ret_int HV.out.symm, HB.out⟩
                · have e1 : decide (u.slots < 1) = false := decide_eq_false g1
                  by_cases g2 : u.frame < 0
                  · have e2 : decide (u.frame < 0) = true := decide_eq_true g2
                    have HV := hid (hv.trans (if_pos (by omega)))
                    clear hv hf
                    go_enter Try.func58, Try.ntmps58
                    go_wp2
                    go_ret
                    exact ⟨ret_int HV.out.symm, HB.out⟩
                  · have e2 : decide (u.frame < 0) = false := decide_eq_false g2
                    by_cases g3 : u.frame < u.args
                    · have e3 : decide (u.frame < u.args) = true := decide_eq_true g3
                      have HV := hid (hv.trans (if_pos (by omega)))
                      clear hv hf
                      go_enter Try.func58, Try.ntmps58
                      go_wp2
                      go_ret
                      exact ⟨ret_int HV.out.symm, HB.out⟩
                    · have e3 : decide (u.frame < u.args) = false := decide_eq_false g3
                      by_cases g4 : u.code.length = 0
                      · have e4 : ((u.code.length : Int) == 0) = true := by rw [g4]; rfl
                        have HV := hid (hv.trans (if_pos (by omega)))
                        clear hv hf g4
                        go_enter Try.func58, Try.ntmps58
                        go_wp2
                        go_ret
                        exact ⟨ret_int HV.out.symm, HB.out⟩
                      · have e4 : ((u.code.length : Int) == 0) = false := by rw [beq_eq_false_iff_ne]; omega
                        have HV := hid (hv.trans (if_neg (by omega)))
                        clear hv hf g4
                        go_enter Try.func58, Try.ntmps58
                        go_wp2
                        go_ret
                        exact ⟨ret_int HV.out.symm, HB.out⟩


/-- A selector. -/
structure SelN where
  cls : ByteArray
  name : ByteArray
  args : Int
  res : Bool
/-- A shape. -/
structure ShpN where
  name : ByteArray
  fields : List Int
  table : List Int
  inv : Int
/-- A program. -/
structure PrgN where
  shapes : List ShpN
  sels : List SelN
  units : List UntN
  main : Int
  mk' : Int
def sel0 : SelN := ⟨ByteArray.empty, ByteArray.empty, 0, false⟩
def shp0 : ShpN := ⟨ByteArray.empty, [], [], 0⟩
def unt0 : UntN := ⟨ByteArray.empty, ByteArray.empty, 0, 0, 0, [], []⟩
/-- Where a program's slices lie. -/
structure PlN where
  sa : Option Addr
  sc : Nat
  la : Option Addr
  lc : Nat
  ua : Option Addr
  uc : Nat
abbrev vS (s : SelN) : Value := .agg #[.string s.cls, .string s.name, .int .i64 s.args, .bool s.res]
abbrev vP (p : PrgN) (q : PlN) : Value := .agg #[.slice q.sa p.shapes.length q.sc, .slice q.la p.sels.length q.lc, .slice q.ua p.units.length q.uc, .int .i64 p.main, .int .i64 p.mk']
abbrev oP (p : PrgN) (q : PlN) : Obj := .cells #[.slice q.sa p.shapes.length q.sc, .slice q.la p.sels.length q.lc, .slice q.ua p.units.length q.uc, .int .i64 p.main, .int .i64 p.mk'] 26
/-- Selectors, read off a slice. -/
def RdS (w : World) (a : Option Addr) (l : List SelN) : Prop :=
  ∀ i (h : i < l.length), ∃ b off, a = some ⟨b, off, none⟩ ∧ b < w.heap.size ∧ w.cell? ⟨b, off + i * 4, none⟩ = some (.string l[i].cls) ∧ w.cell? ⟨b, off + i * 4 + 1, none⟩ = some (.string l[i].name) ∧ w.cell? ⟨b, off + i * 4 + 2, none⟩ = some (.int .i64 l[i].args) ∧ w.cell? ⟨b, off + i * 4 + 3, none⟩ = some (.bool l[i].res)
theorem RdS.below {w w' : World} {a : Option Addr} {l : List SelN} (h : RdS w a l) (hb : Below w.heap.size w w') : RdS w' a l := by
  intro i hi
  obtain ⟨b, off, ha, hlt, h0, h1, h2, h3⟩ := h i hi
  exact ⟨b, off, ha, Nat.lt_of_lt_of_le hlt hb.size, cell_later hb h0, cell_later hb h1, cell_later hb h2, cell_later hb h3⟩
/-- Shapes, read off a slice. -/
def RdH (w : World) (a : Option Addr) (l : List ShpN) : Prop :=
  ∀ i (h : i < l.length), ∃ b off fa fc ta tc, a = some ⟨b, off, none⟩ ∧ b < w.heap.size ∧ w.cell? ⟨b, off + i * 4, none⟩ = some (.string l[i].name) ∧ w.cell? ⟨b, off + i * 4 + 1, none⟩ = some (.slice fa l[i].fields.length fc) ∧ w.cell? ⟨b, off + i * 4 + 2, none⟩ = some (.slice ta l[i].table.length tc) ∧ w.cell? ⟨b, off + i * 4 + 3, none⟩ = some (.int .i64 l[i].inv) ∧ RdI w fa l[i].fields ∧ RdI w ta l[i].table ∧ l[i].table.length ≤ tc
theorem RdH.below {w w' : World} {a : Option Addr} {l : List ShpN} (h : RdH w a l) (hb : Below w.heap.size w w') : RdH w' a l := by
  intro i hi
  obtain ⟨b, off, fa, fc, ta, tc, ha, hlt, h0, h1, h2, h3, h4, h5, h6⟩ := h i hi
  exact ⟨b, off, fa, fc, ta, tc, ha, Nat.lt_of_lt_of_le hlt hb.size, cell_later hb h0, cell_later hb h1, cell_later hb h2, cell_later hb h3, h4.below hb, h5.below hb, h6⟩
/-- Units, read off a slice. -/
def RdU (w : World) (a : Option Addr) (l : List UntN) : Prop :=
  ∀ i (h : i < l.length), ∃ b off ca cc ga gc, a = some ⟨b, off, none⟩ ∧ b < w.heap.size ∧ w.cell? ⟨b, off + i * 7, none⟩ = some (.string l[i].cls) ∧ w.cell? ⟨b, off + i * 7 + 1, none⟩ = some (.string l[i].name) ∧ w.cell? ⟨b, off + i * 7 + 2, none⟩ = some (.int .i64 l[i].args) ∧ w.cell? ⟨b, off + i * 7 + 3, none⟩ = some (.int .i64 l[i].slots) ∧ w.cell? ⟨b, off + i * 7 + 4, none⟩ = some (.int .i64 l[i].frame) ∧ w.cell? ⟨b, off + i * 7 + 5, none⟩ = some (.slice ca l[i].code.length cc) ∧ w.cell? ⟨b, off + i * 7 + 6, none⟩ = some (.slice ga l[i].guards.length gc) ∧ UnM w l[i] ca cc ga gc
theorem RdU.below {w w' : World} {a : Option Addr} {l : List UntN} (h : RdU w a l) (hb : Below w.heap.size w w') : RdU w' a l := by
  intro i hi
  obtain ⟨b, off, ca, cc, ga, gc, ha, hlt, h0, h1, h2, h3, h4, h5, h6, h7⟩ := h i hi
  exact ⟨b, off, ca, cc, ga, gc, ha, Nat.lt_of_lt_of_le hlt hb.size, cell_later hb h0, cell_later hb h1, cell_later hb h2, cell_later hb h3, cell_later hb h4, cell_later hb h5, cell_later hb h6, h7.below hb⟩
/-- A program in memory. -/
structure PrM (w : World) (p : PrgN) (q : PlN) : Prop where
  rh : RdH w q.sa p.shapes
  rs : RdS w q.la p.sels
  ru : RdU w q.ua p.units
theorem PrM.below {w w' : World} {p : PrgN} {q : PlN} (h : PrM w p q) (hb : Below w.heap.size w w') : PrM w' p q := ⟨h.rh.below hb, h.rs.below hb, h.ru.below hb⟩
theorem box5' {W : World} {b : Nat} {x0 x1 x2 x3 x4 : Value} {T : TypeId} (h : W.heap[b]? = some (.cells #[x0, x1, x2, x3, x4] T (0, 0))) : W.cell? ⟨b, 0, none⟩ = some x0 ∧ W.cell? ⟨b, 1, none⟩ = some x1 ∧ W.cell? ⟨b, 2, none⟩ = some x2 ∧ W.cell? ⟨b, 3, none⟩ = some x3 ∧ W.cell? ⟨b, 4, none⟩ = some x4 :=
  ⟨(cell_of_row _ _ _ _ _ _ h).trans rfl, (cell_of_row _ _ _ _ _ _ h).trans rfl, (cell_of_row _ _ _ _ _ _ h).trans rfl, (cell_of_row _ _ _ _ _ _ h).trans rfl, (cell_of_row _ _ _ _ _ _ h).trans rfl⟩
/-- A number of an instruction that names a selector is what it must be. -/
def fitsS (s : SelN) (has : Int) : Bool := has == 8 || ((has == 7 && s.args == 0) && s.res) || (has == 9 && !s.res)
/-- A number of an instruction is what it must be. -/
def fitsN (p : PrgN) (u : UntN) (has n : Int) : Bool :=
  if has = 0 then n == 0 else if has = 1 then inN n 0 (u.slots - 1) else if has = 2 then inN n (-1) (u.slots - 1) else if has = 3 then inN n 0 ((u.code.length : Int) - 1) else
  if has = 4 then inN n (-1099511627776) 1099511627776 else if has = 5 then inN n 0 1 else if has = 6 then inN n 0 15 else if has = 10 then inN n 0 ((p.shapes.length : Int) - 1) else
  if has = 11 then inN n 1 199 else if has = 12 then inN n 0 (u.frame - 1) else if inN n 0 ((p.sels.length : Int) - 1) = true then fitsS (p.sels.getD n.toNat sel0) has else false


set_option maxRecDepth 100000 in
set_option maxHeartbeats 4000000 in
theorem ufits_any (p : PrgN) (q : PlN) (u : UntN) (ca : Option Addr) (cc : Nat) (ga : Option Addr) (gc : Nat) (has n : Int) (w : World) (hl : RdS w q.la p.sels) (h1 : p.shapes.length ≤ 1000000) (h2 : p.sels.length ≤ 1000000) (h3 : u.code.length ≤ 1000000) (h4 : 0 ≤ u.slots ∧ u.slots ≤ 1000000) (h5 : 0 ≤ u.frame ∧ u.frame ≤ 1000000) :
    Calls Try.prog 69 #[vP p q, vU u ca cc ga gc, .int .i64 has, .int .i64 n] w (RetB (.bool (fitsN p u has n)) w) := by
  obtain ⟨qsa, qsc, qla, qlc, qua, quc⟩ := q
  have HW := hid (fun (n lo hi : Int) (w : World) => within_any n lo hi w)
  have HB := hid ((bnew w (oP p ⟨qsa, qsc, qla, qlc, qua, quc⟩)).step (bnew _ (oU u ca cc ga gc)))
  have hx := hid (keepBox (bnew (w.alloc (oP p ⟨qsa, qsc, qla, qlc, qua, quc⟩)) (oU u ca cc ga gc)) (heapn w (oP p ⟨qsa, qsc, qla, qlc, qua, quc⟩) _ rfl))
  have hy := hid (heapn (w.alloc (oP p ⟨qsa, qsc, qla, qlc, qua, quc⟩)) (oU u ca cc ga gc) _ rfl)
  obtain ⟨a0, a1, a2, a3, a4⟩ := box5' hx.out
  obtain ⟨k0, k1, k2, k3, k4, k5, k6⟩ := box7 hy.out
  obtain ⟨h40, h41⟩ := h4
  obtain ⟨h50, h51⟩ := h5
  obtain ⟨v, hv⟩ : ∃ v, v = fitsN p u has n := ⟨_, rfl⟩
  rw [← hv]
  unfold fitsN at hv
  by_cases c0 : has = 0
  · subst c0
    have HV := hid (hv.trans (if_pos rfl))
    clear hv
    go_enter Try.func69, Try.ntmps69
    go_wp2
    go_ret
    exact ⟨ret_bool HV.out.symm, HB.out⟩
  · have e0 : (has == 0) = false := by rw [beq_eq_false_iff_ne]; exact c0
    by_cases c1 : has = 1
    · subst c1
      have HV := hid (hv.trans (by rw [if_neg (by decide), if_pos rfl]))
      clear hv c0
      go_enter Try.func69, Try.ntmps69
      go_wp2_with (go_at_call 38; (with_reducible refine (HW.out n 0 (u.slots - 1) _).mono ?_); rintro e w9 ⟨rfl, rfl⟩)
      go_ret
      exact ⟨ret_bool HV.out.symm, HB.out⟩
    · have e1 : (has == 1) = false := by rw [beq_eq_false_iff_ne]; exact c1
      by_cases c2 : has = 2
      · subst c2
        have HV := hid (hv.trans (by rw [if_neg (by decide), if_neg (by decide), if_pos rfl]))
        clear hv c0 c1
        go_enter Try.func69, Try.ntmps69
        go_wp2_with (go_at_call 38; (with_reducible refine (HW.out n (-1) (u.slots - 1) _).mono ?_); rintro e w9 ⟨rfl, rfl⟩)
        go_ret
        exact ⟨ret_bool HV.out.symm, HB.out⟩
      · have e2 : (has == 2) = false := by rw [beq_eq_false_iff_ne]; exact c2
        by_cases c3 : has = 3
        · subst c3
          have HV := hid (hv.trans (by rw [if_neg (by decide), if_neg (by decide), if_neg (by decide), if_pos rfl]))
          clear hv c0 c1 c2
          go_enter Try.func69, Try.ntmps69
          go_wp2_with (go_at_call 38; (with_reducible refine (HW.out n 0 ((u.code.length : Int) - 1) _).mono ?_); rintro e w9 ⟨rfl, rfl⟩)
          go_ret
          exact ⟨ret_bool HV.out.symm, HB.out⟩
        · have e3 : (has == 3) = false := by rw [beq_eq_false_iff_ne]; exact c3
          by_cases c4 : has = 4
          · subst c4
            have HV := hid (hv.trans (by rw [if_neg (by decide), if_neg (by decide), if_neg (by decide), if_neg (by decide), if_pos rfl]))
            clear hv c0 c1 c2 c3
            go_enter Try.func69, Try.ntmps69
            go_wp2_with (go_at_call 38; (with_reducible refine (HW.out n (-1099511627776) 1099511627776 _).mono ?_); rintro e w9 ⟨rfl, rfl⟩)
            go_ret
            exact ⟨ret_bool HV.out.symm, HB.out⟩
          · have e4 : (has == 4) = false := by rw [beq_eq_false_iff_ne]; exact c4
            by_cases c5 : has = 5
            · subst c5
              have HV := hid (hv.trans (by rw [if_neg (by decide), if_neg (by decide), if_neg (by decide), if_neg (by decide), if_neg (by decide), if_pos rfl]))
              clear hv c0 c1 c2 c3 c4
              go_enter Try.func69, Try.ntmps69
              go_wp2_with (go_at_call 38; (with_reducible refine (HW.out n 0 1 _).mono ?_); rintro e w9 ⟨rfl, rfl⟩)
              go_ret
              exact ⟨ret_bool HV.out.symm, HB.out⟩
            · have e5 : (has == 5) = false := by rw [beq_eq_false_iff_ne]; exact c5
              by_cases c6 : has = 6
              · subst c6
                have HV := hid (hv.trans (by rw [if_neg (by decide), if_neg (by decide), if_neg (by decide), if_neg (by decide), if_neg (by decide), if_neg (by decide), if_pos rfl]))
                clear hv c0 c1 c2 c3 c4 c5
                go_enter Try.func69, Try.ntmps69
                go_wp2_with (go_at_call 38; (with_reducible refine (HW.out n 0 15 _).mono ?_); rintro e w9 ⟨rfl, rfl⟩)
                go_ret
                exact ⟨ret_bool HV.out.symm, HB.out⟩
              · have e6 : (has == 6) = false := by rw [beq_eq_false_iff_ne]; exact c6
                by_cases c10 : has = 10
                · subst c10
                  have HV := hid (hv.trans (by rw [if_neg (by decide), if_neg (by decide), if_neg (by decide), if_neg (by decide), if_neg (by decide), if_neg (by decide), if_neg (by decide), if_pos rfl]))
                  clear hv c0 c1 c2 c3 c4 c5 c6
                  go_enter Try.func69, Try.ntmps69
                  go_wp2_with (go_at_call 38; (with_reducible refine (HW.out n 0 ((p.shapes.length : Int) - 1) _).mono ?_); rintro e w9 ⟨rfl, rfl⟩)
                  go_ret
                  exact ⟨ret_bool HV.out.symm, HB.out⟩
                · have e10 : (has == 10) = false := by rw [beq_eq_false_iff_ne]; exact c10
                  by_cases c11 : has = 11
                  · subst c11
                    have HV := hid (hv.trans (by rw [if_neg (by decide), if_neg (by decide), if_neg (by decide), if_neg (by decide), if_neg (by decide), if_neg (by decide), if_neg (by decide), if_neg (by decide), if_pos rfl]))
                    clear hv c0 c1 c2 c3 c4 c5 c6 c10
                    go_enter Try.func69, Try.ntmps69
                    go_wp2_with (go_at_call 38; (with_reducible refine (HW.out n 1 199 _).mono ?_); rintro e w9 ⟨rfl, rfl⟩)
                    go_ret
                    exact ⟨ret_bool HV.out.symm, HB.out⟩
                  · have e11 : (has == 11) = false := by rw [beq_eq_false_iff_ne]; exact c11
                    by_cases c12 : has = 12
                    · subst c12
                      have HV := hid (hv.trans (by rw [if_neg (by decide), if_neg (by decide), if_neg (by decide), if_neg (by decide), if_neg (by decide), if_neg (by decide), if_neg (by decide), if_neg (by decide), if_neg (by decide), if_pos rfl]))
                      clear hv c0 c1 c2 c3 c4 c5 c6 c10 c11
                      go_enter Try.func69, Try.ntmps69
                      go_wp2_with (go_at_call 38; (with_reducible refine (HW.out n 0 (u.frame - 1) _).mono ?_); rintro e w9 ⟨rfl, rfl⟩)
                      go_ret
                      exact ⟨ret_bool HV.out.symm, HB.out⟩
                    · have e12 : (has == 12) = false := by rw [beq_eq_false_iff_ne]; exact c12
                      replace hv := hv.trans (by rw [if_neg c0, if_neg c1, if_neg c2, if_neg c3, if_neg c4, if_neg c5, if_neg c6, if_neg c10, if_neg c11, if_neg c12] : _ = if inN n 0 ((p.sels.length : Int) - 1) = true then fitsS (p.sels.getD n.toNat sel0) has else false)
                      clear c0 c1 c2 c3 c4 c5 c6 c10 c11 c12
                      cases hin : inN n 0 ((p.sels.length : Int) - 1) with
                      | false =>
                        rw [hin] at hv
                        have HV := hid (hv.trans (if_neg (by simp)))
                        have HIN := hid hin
                        clear hv hin
                        go_enter Try.func69, Try.ntmps69
                        go_wp2_with (go_at_call 38; (with_reducible refine (HW.out n 0 ((p.sels.length : Int) - 1) _).mono ?_); rw [HIN.out]; rintro e w9 ⟨rfl, rfl⟩)
                        go_ret
                        exact ⟨ret_bool HV.out.symm, HB.out⟩
                      | true =>
                        rw [hin] at hv
                        replace hv := hv.trans (if_pos rfl)
                        have hb : 0 ≤ n ∧ n ≤ (p.sels.length : Int) - 1 := by unfold inN at hin; simpa using hin
                        have HIN := hid hin
                        obtain ⟨m, rfl⟩ : ∃ m : Nat, n = (m : Int) := ⟨n.toNat, by omega⟩
                        have hm : m < p.sels.length := by omega
                        have nm : (m : Int) < (p.sels.length : Int) := by omega
                        rw [show ((m : Int)).toNat = m from rfl, getD_in hm] at hv
                        obtain ⟨bs, os, hsa, _, s0, s1, s2, s3⟩ := (hl.below HB.out) m hm
                        have hsa' : qla = some ⟨bs, os, none⟩ := hsa
                        subst hsa'
                        generalize p.sels[m] = s at *
                        unfold fitsS at hv
                        clear hin hb hsa hl
                        cases g8 : (has == 8) with
                        | true =>
                          have HV := hid (by rw [hv, g8]; rfl : v = true)
                          clear hv
                          go_enter Try.func69, Try.ntmps69
                          go_wp2_with (go_at_call 38; (with_reducible refine (HW.out m 0 ((p.sels.length : Int) - 1) _).mono ?_); rw [HIN.out]; rintro e w9 ⟨rfl, rfl⟩)
                          go_ret
                          exact ⟨ret_bool HV.out.symm, HB.out.step (bnew _ _)⟩
                        | false =>
                          cases g7 : (has == 7) with
                          | true =>
                            have g9 : (has == 9) = false := by have : has = 7 := by simpa using g7
                                                               rw [this]; rfl
                            cases ga0 : (s.args == 0) with
                            | true =>
                              cases gr : s.res with
                              | true =>
                                have HV := hid (by rw [hv, g8, g7, g9, ga0, gr]; rfl : v = true)
                                clear hv
                                go_enter Try.func69, Try.ntmps69
                                go_wp2_with (go_at_call 38; (with_reducible refine (HW.out m 0 ((p.sels.length : Int) - 1) _).mono ?_); rw [HIN.out]; rintro e w9 ⟨rfl, rfl⟩)
                                go_ret
                                exact ⟨ret_bool HV.out.symm, HB.out.step (bnew _ _)⟩
                              | false =>
                                have HV := hid (by rw [hv, g8, g7, g9, ga0, gr]; rfl : v = false)
                                clear hv
                                go_enter Try.func69, Try.ntmps69
                                go_wp2_with (go_at_call 38; (with_reducible refine (HW.out m 0 ((p.sels.length : Int) - 1) _).mono ?_); rw [HIN.out]; rintro e w9 ⟨rfl, rfl⟩)
                                go_ret
                                exact ⟨ret_bool HV.out.symm, HB.out.step (bnew _ _)⟩
                            | false =>
                              have HV := hid (by rw [hv, g8, g7, g9, ga0]; simp : v = false)
                              clear hv
                              go_enter Try.func69, Try.ntmps69
                              go_wp2_with (go_at_call 38; (with_reducible refine (HW.out m 0 ((p.sels.length : Int) - 1) _).mono ?_); rw [HIN.out]; rintro e w9 ⟨rfl, rfl⟩)
                              go_ret
                              exact ⟨ret_bool HV.out.symm, HB.out.step (bnew _ _)⟩
                          | false =>
                            cases g9 : (has == 9) with
                            | true =>
                              cases gr : s.res with
                              | true =>
                                have HV := hid (by rw [hv, g8, g7, g9, gr]; rfl : v = false)
                                clear hv
                                go_enter Try.func69, Try.ntmps69
                                go_wp2_with (go_at_call 38; (with_reducible refine (HW.out m 0 ((p.sels.length : Int) - 1) _).mono ?_); rw [HIN.out]; rintro e w9 ⟨rfl, rfl⟩)
                                go_ret
                                exact ⟨ret_bool HV.out.symm, HB.out.step (bnew _ _)⟩
                              | false =>
                                have HV := hid (by rw [hv, g8, g7, g9, gr]; rfl : v = true)
                                clear hv
                                go_enter Try.func69, Try.ntmps69
                                go_wp2_with (go_at_call 38; (with_reducible refine (HW.out m 0 ((p.sels.length : Int) - 1) _).mono ?_); rw [HIN.out]; rintro e w9 ⟨rfl, rfl⟩)
                                go_ret
                                exact ⟨ret_bool HV.out.symm, HB.out.step (bnew _ _)⟩
                            | false =>
                              have HV := hid (by rw [hv, g8, g7, g9]; simp : v = false)
                              clear hv
                              go_enter Try.func69, Try.ntmps69
                              go_wp2_with (go_at_call 38; (with_reducible refine (HW.out m 0 ((p.sels.length : Int) - 1) _).mono ?_); rw [HIN.out]; rintro e w9 ⟨rfl, rfl⟩)
                              go_ret
                              exact ⟨ret_bool HV.out.symm, HB.out.step (bnew _ _)⟩
end Go.Proofs.Ytecpkjhfbmchgaa
