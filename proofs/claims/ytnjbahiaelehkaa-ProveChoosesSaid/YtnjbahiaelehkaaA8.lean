/- The contract of lines of package prove. -/
import Derived.Test.YtnjbahiaelehkaaA7
import Derived.Deep.RegionWith
namespace Go.Proofs.Ytnjbahiaelehkaa
open Go.RowKit

structure LL (l : List AM) (M m : Nat) (w wr : World) : Prop where
  but : But M w wr
  ex : ∃ D T, Mat wr M D T ∧ Cov l (Upto l m) D T

theorem nd_lt24 {n : Nat} (hn : n ≤ 12) {k s : Int} (h0 : 0 ≤ k) (h : k < n) : nd k s < 24 := by have := nd_lt (s := s) h0 h; omega

def LineCut (x : AM) (m : Nat) (wr : World) (s7 s8 s9 s45 : Value) (wx : World) : Prop :=
  ∃ b7 b8 d : Nat, s7 = .pointer (some ⟨b7, 0, none⟩) ∧ s8 = .pointer (some ⟨b8, 0, none⟩) ∧ s9 = .int .i64 (nd x.A x.P) ∧ s45 = .bool (x.Q == 0) ∧ Below wr.heap.size wr wx ∧ AMat wx b7 0 x ∧
    wx.cell? ⟨b8, 0, none⟩ = some (.pointer (some ⟨d, 0, none⟩)) ∧ IsD wx (.line m) d ∧ wr.heap.size ≤ b7 ∧ wr.heap.size ≤ b8 ∧ b7 < wx.heap.size ∧ b8 < wx.heap.size

theorem celln (w : World) (C : Array Value) (T : TypeId) (n i : Nat) (h : n = w.heap.size) : (w.alloc (.cells C T)).cell? ⟨n, i, none⟩ = C[i]? := by
  subst h; exact cell_of_row _ _ _ _ _ _ (heap_alloc_new _ _)
theorem heapo (w : World) (o : Obj) (k : Nat) (h : k < w.heap.size) : (w.alloc o).heap[k]? = w.heap[k]? := (bnew w o).block k h
theorem heapn (w : World) (o : Obj) (k : Nat) (h : k = w.heap.size) : (w.alloc o).heap[k]? = some o := by subst h; exact heap_alloc_new _ _
theorem cello (w : World) (o : Obj) (n i : Nat) (h : n < w.heap.size) : (w.alloc o).cell? ⟨n, i, none⟩ = w.cell? ⟨n, i, none⟩ := (bcell (bnew w o)).1 n i h

theorem bdrew (w : World) : Below w.heap.size w w.drew := (Below.refl _ _).drew
theorem lineCut_mk (x : AM) (m : Nat) (wr : World) : LineCut x m wr (.pointer (some ⟨wr.heap.size, 0, none⟩)) (.pointer (some ⟨wr.heap.size + 1 + 1, 0, none⟩)) (.int .i64 (nd x.A x.P)) (.bool (x.Q == 0))
    (((wr.alloc (.cells #[.int .i64 x.A, .int .i64 x.P, .int .i64 x.B, .int .i64 x.Q, .int .i64 x.M] 24)).alloc (.cells #[.int .i64 1, .int .i64 m, .pointer none, .pointer none] 164)).alloc (.cells #[.pointer (some ⟨wr.heap.size + 1, 0, none⟩)] 100)) := by
  refine ⟨wr.heap.size, wr.heap.size + 1 + 1, wr.heap.size + 1, rfl, rfl, rfl, rfl, ((bnew _ _).alloc (by simp) _).alloc (by simp; omega) _, ?_, ?_, ?_, ?_, ?_, ?_, ?_⟩
  · have e : ∀ j, (((wr.alloc (.cells #[.int .i64 x.A, .int .i64 x.P, .int .i64 x.B, .int .i64 x.Q, .int .i64 x.M] 24)).alloc (.cells #[.int .i64 1, .int .i64 m, .pointer none, .pointer none] 164)).alloc (.cells #[.pointer (some ⟨wr.heap.size + 1, 0, none⟩)] 100)).cell? ⟨wr.heap.size, j, none⟩ = (#[.int .i64 x.A, .int .i64 x.P, .int .i64 x.B, .int .i64 x.Q, .int .i64 x.M] : Array Value)[j]? := by
      intro j
      rw [cello _ _ _ _ (by simp; omega), cello _ _ _ _ (by simp), celln _ _ _ _ _ rfl]
    exact ⟨e 0, e 1, e 2, e 3, e 4⟩
  · exact (celln _ _ _ _ _ (by simp)).trans rfl
  · exact (heapo _ _ _ (by simp)).trans (heapn _ _ _ (by simp))
  all_goals first | omega | (simp only [World.size_alloc]; omega)

/-- What has been put in after j of the two edges of a line. -/
def LCov (l : List AM) (m : Nat) (x : AM) : Nat → (Nat → Nat → Int) → (Nat → Nat → Tr) → Prop
  | 0, D, T => Cov l (Upto l m) D T
  | 1, D, T => Cov l (fun i j c => Upto l m i j c ∨ (i = nd x.A x.P ∧ j = nd x.B (-x.Q) ∧ c = x.M)) D T
  | _, D, T => Cov l (Upto l (m + 1)) D T
structure LR (l : List AM) (M m : Nat) (x : AM) (j : Nat) (wc wx : World) : Prop where
  but : But M wc wx
  ex : ∃ D T, Mat wx M D T ∧ LCov l m x j D T

theorem edge_step {l : List AM} {m : Nat} (hm : m < l.length) {x : AM} (hx : l[m] = x) (hq : x.Q ≠ 0) (hc : x.M < FF) (j : Nat) (hj : j < 2) (h1 : nd x.A x.P < 24) (h2 : nd x.B (-x.Q) < 24) :
    ∃ e0 e1 : Nat, e0 < 24 ∧ e1 < 24 ∧ (∀ w, (Instr.index 171 (.agg #[.int .i64 (nd x.A x.P : Nat), .int .i64 (nd x.B (-x.Q) : Nat), .int .i64 (ot (nd x.B (-x.Q)) : Nat), .int .i64 (ot (nd x.A x.P) : Nat)]) (.int .i64 j)).run Try.prog w = .ok (.agg #[.int .i64 e0, .int .i64 e1]) w) ∧
      ∀ D T, LCov l m x j D T → LCov l m x (j + 1) (lessD D e0 e1 x.M) (lessT D T e0 e1 x.M (.line m)) := by
  subst hx
  have hj' : j = 0 ∨ j = 1 := by omega
  rcases hj' with rfl | rfl
  · exact ⟨_, _, h1, h2, fun w => by kernel_rfl, fun D T h => Cov.bi hm h hq hc⟩
  · exact ⟨_, _, ot_lt (n := 12) h2, ot_lt (n := 12) h1, fun w => by kernel_rfl, fun D T h => Cov.bj hm hq hc h⟩

set_option maxRecDepth 100000 in
set_option maxHeartbeats 4000000 in
theorem lines_any (n : Nat) (hn : n ≤ 12) (M : Nat) (w : World) (l : List AM) (a : Option Addr) (cap : Nat) (Mx : Int) (ok : ∀ a, a ∈ l → Ok n Mx a) (hM : 0 ≤ Mx) (hF : 100 * Mx < FF) (hl : Rd w a l) (hlen : l.length ≤ 1000000) (hsep : ∀ b off, a = some ⟨b, off, none⟩ → 0 < l.length → b ≠ M)
    (hbig : Big w M) (hwhy : ∀ a b, a < 24 → b < 24 → ∃ p, w.cell? ⟨M, a * 48 + b * 2 + 1, none⟩ = some (.pointer p)) :
    Calls Try.prog 94 #[.pointer (some ⟨M, 0, none⟩), .slice a l.length cap] w (LinesPost l n M w) := by
  have HL := hid hl; clear hl
  have HSEP := hid hsep; clear hsep
  have HBIG := hid hbig; clear hbig
  have HWHY := hid hwhy; clear hwhy
  have HOK := hid ok; clear ok
  have HMX := hid hM; clear hM
  have HF := hid hF; clear hF
  go_enter Try.func94, Try.ntmps94
  go_wp2
  go_loopg [13] 24 (fun g x wr => ∃ i : Nat, i ≤ 24 ∧ g = 24 - i ∧ x = .int .i64 i ∧ But M w wr ∧ Filling wr M i 0)
  case atStart => exact ⟨0, by omega, by omega, rfl, But.refl _ _, HBIG.out, fun a b _ _ h => by omega, HWHY.out⟩
  case round =>
    obtain ⟨i, hi, hgi, rfl, hb, hf⟩ := hrel
    have HB := hid hb; clear hb
    have HFI := hid hf; clear hf
    have HGI := hid hgi; clear hgi
    by_cases hlt : i < 24
    · obtain ⟨wo, rfl⟩ : ∃ wo : World, wo = wr := ⟨_, rfl⟩
      have hid' : decide ((i : Int) < 24) = true := decide_eq_true (by omega)
      go_wp2
      go_loopg [16] 24 (fun g x wr => ∃ j : Nat, j ≤ 24 ∧ g = 24 - j ∧ x = .int .i64 j ∧ But M wo wr ∧ Filling wr M i j)
      case atStart => exact ⟨0, by omega, by omega, rfl, But.refl _ _, HFI.out⟩
      case round =>
        obtain ⟨j, hj, hgj, rfl, hb, hf⟩ := hrel
        have HB2 := hid hb; clear hb
        have HGJ := hid hgj; clear hgj
        by_cases hlt2 : j < 24
        · have hi24 : (i : Int) < 24 := by omega
          have hj24 : (j : Int) < 24 := by omega
          have hfr := hf.big.frozen (i * 48 + j * 2)
          obtain ⟨x, hx⟩ := hf.big.cell (i * 48 + j * 2) (by omega)
          have HF2 := hid hf; clear hf
          go_wp2
          go_roundg (24 - (j + 1))
          case measure => have := HGJ.out; omega
          case rel => exact ⟨j + 1, by omega, by omega, by go_num, HB2.out.set _ _, HF2.out.step hlt hlt2⟩
        · have hj' : j = 24 := by omega
          have HJ := hid hj'; clear hj'
          have HF2 := hid hf; clear hf
          go_wp2
          go_roundg (24 - (i + 1))
          case measure => have := HGI.out; omega
          case rel => exact ⟨i + 1, by omega, by omega, by go_num, HB.out.trans HB2.out, by have h := HF2.out; rw [HJ.out] at h; exact h.next⟩
    · have hi' : i = 24 := by omega
      have HI := hid hi'; clear hi'
      obtain ⟨wo, rfl⟩ : ∃ wo : World, wo = wr := ⟨_, rfl⟩
      go_wp2
      go_loopg [30] l.length (fun g x wr => ∃ m : Nat, m ≤ l.length ∧ g = l.length - m ∧ x = .int .i64 m ∧ LL l M m wo wr)
      case atStart =>
        refine ⟨0, Nat.zero_le _, by omega, rfl, But.refl _ _, _, fun _ _ => .line 0, by have h := HFI.out; rw [HI.out] at h; exact h.mat, fun i j h => absurd rfl h, ?_⟩
        rintro i j c ⟨X, he⟩
        cases he <;> simp at *
      case round =>
        obtain ⟨m, hm, hgm, rfl, hll⟩ := hrel
        have HLL := hid hll; clear hll
        have HGM := hid hgm; clear hgm
        by_cases hlt2 : m < l.length
        · obtain ⟨b2, off, ha, hb2, hat⟩ := HL.out m hlt2
          have hne := HSEP.out b2 off ha (by omega)
          subst ha
          have hbb : But M w wr := HB.out.trans HLL.out.but
          have hcell : ∀ o, wr.cell? ⟨b2, o, none⟩ = w.cell? ⟨b2, o, none⟩ := fun o => hbb.cell (p := ⟨b2, o, none⟩) hb2 hne
          obtain ⟨h1, h2, h3, h4, h5⟩ := hat
          rw [← hcell] at h1 h2 h3 h4 h5
          have hb2' : b2 < wr.heap.size := Nat.lt_of_lt_of_le hb2 hbb.size
          clear hcell
          have hok := HOK.out _ (List.getElem_mem hlt2)
          obtain ⟨D, T, hmat, hcov⟩ := HLL.out.ex
          have HMAT := hid hmat; clear hmat
          have HCOV := hid hcov; clear hcov
          generalize hx : l[m] = x at h1 h2 h3 h4 h5 hok
          have HX := hid hx; clear hx
          have ha0 := hok.a0
          have han := hok.an
          have HOKX := hid hok; clear hok
          go_upto_region 14 with (go_at_call 63; refine (end_any _ _ (by omega) (by omega) _).mono ?_; rintro e w' ⟨rfl, rfl⟩)
          go_cut [7, 8, 9, 45] (fun s7 s8 s9 s45 wx => LineCut x m wr s7 s8 s9 s45 wx)
          case first =>
            go_wp2_with fail
            go_meet
            exact lineCut_mk x m wr
          case rest =>
            obtain ⟨b7, b8, d, rfl, rfl, rfl, rfl, hbw, hat, hv, hd, hb7, hb8, hb7', hb8'⟩ := hcut
            obtain ⟨q1, q2, q3, q4, q5⟩ := hat
            simp only [Nat.zero_add] at q1 q2 q3 q4 q5
            have HBW := hid hbw; clear hbw
            have HD := hid hd; clear hd
            by_cases hq : x.Q = 0
            · have hqb : (x.Q == 0) = true := by simpa using hq
              have HQ := hid hq; clear hq
              have hn24 : nd x.A x.P < 24 := nd_lt24 hn ha0 han
              generalize hi' : nd x.A x.P = i1 at hn24
              have HI1 := hid hi'; clear hi'
              have ho24 : ot i1 < 24 := by have := ot_lt (n := 12) hn24; exact this
              have hMb := HOKX.out.lo
              have hMb' := HOKX.out.hi
              have hF := HF.out
              have hM0 := HMX.out
              have b1 : -11529215046068470 < x.M := by unfold FF at hF; omega
              have b2' : x.M < 11529215046068470 := by unfold FF at hF; omega
              clear hMb hMb' hF hM0
              have hm2 := HMAT.out.below HBW.out
              have hcur := hm2.most i1 (ot i1) hn24 ho24
              have hbig2 := hm2.big
              have HM2 := hid hm2; clear hm2
              generalize hC : D i1 (ot i1) = C at hcur
              have HC := hid hC; clear hC
              have hi24 : (i1 : Int) < 24 := by omega
              have ho24' : ((ot i1 : Nat) : Int) < 24 := by omega
              go_upto_region 15 with fail
              refine wp_region_still_tail 11 (by kernel_rfl) (by kernel_rfl) ?_
              simp only [List.take_succ_cons, List.take_zero, List.drop_succ_cons, List.drop_zero]
              repeat still_step
              still_call (retS (other_any i1 hn24 _))
              repeat still_step
              refine wpStill_nil ?_
              change wpList _ _ _ _ _ wc.drew
              have hcd : wc.drew.cell? ⟨M, i1 * 48 + ot i1 * 2, none⟩ = some (.int .i64 C) := hcur
              by_cases hle : C ≤ 2 * x.M
              · go_wp2_with (go_at_call 100; refine (less_no M _ _ C _ _ hcd hle).mono ?_; rintro e w' ⟨rfl, rfl⟩)
                go_roundg (l.length - (m + 1))
                case measure => have := HGM.out; omega
                case rel =>
                  refine ⟨m + 1, by omega, by omega, by go_num, HLL.out.but.trans (But.of_below HBW.out.drew), D, T, HM2.out.below (bdrew _), ?_⟩
                  have hc := HCOV.out.un hlt2 (by rw [HX.out]; exact HQ.out) (by rw [HX.out]; unfold FF; omega)
                  rw [HX.out, HI1.out] at hc
                  obtain ⟨e1, e2⟩ := less_eq (D := D) (T := T) (i := i1) (j := ot i1) (c := 2 * x.M) (X := .sum (.line m) (.line m)) (by rw [HC.out]; omega)
                  rw [e1, e2] at hc
                  exact hc
              · have c8d : wc.drew.cell? ⟨b8, 0, none⟩ = some (.pointer (some ⟨d, 0, none⟩)) := hv
                have hwhy := why113 b8 _ _ c8d
                have hbig3 : Big wc.drew M := hbig2
                have hpost : ∀ v w1, NewSum wc.drew (some ⟨d, 0, none⟩) (some ⟨d, 0, none⟩) v w1 → (∃ p, v = .pointer p) ∧ (∃ x, w1.cell? ⟨M, i1 * 48 + ot i1 * 2, none⟩ = some x) ∧ (∃ x, w1.cell? ⟨M, i1 * 48 + ot i1 * 2 + 1, none⟩ = some x) ∧ w1.frozen? ⟨M, i1 * 48 + ot i1 * 2, none⟩ = false ∧ w1.frozen? ⟨M, i1 * 48 + ot i1 * 2 + 1, none⟩ = false := by
                  rintro v w1 ⟨rfl, rfl⟩
                  have hb3 := hbig3.below (bnew wc.drew (.cells #[.int .i64 2, .int .i64 0, .pointer (some ⟨d, 0, none⟩), .pointer (some ⟨d, 0, none⟩)] 164))
                  exact ⟨⟨_, rfl⟩, hb3.cell _ (by omega), hb3.cell _ (by omega), hb3.frozen _, hb3.frozen _⟩
                have HPOST := hid hpost; clear hpost
                have HWHY2 := hid hwhy; clear hwhy
                have HB3 := hid hbig3; clear hbig3 hbig2
                go_wp2_with (go_at_call 100; refine (less_yes113 M _ _ C _ _ _ hcd (by omega) HWHY2.out HPOST.out).mono ?_; rintro e w' ⟨rfl, v, w1, ⟨rfl, rfl⟩, rfl⟩)
                go_roundg (l.length - (m + 1))
                case measure => have := HGM.out; omega
                case rel =>
                  have hbl : Below wc.heap.size wc (wc.drew.alloc (.cells #[.int .i64 2, .int .i64 0, .pointer (some ⟨d, 0, none⟩), .pointer (some ⟨d, 0, none⟩)] 164)) := (bdrew wc).alloc (Nat.le_refl _) _
                  have hd2 := HD.out.below hbl
                  refine ⟨m + 1, by omega, by omega, by go_num, ((HLL.out.but.trans (But.of_below (HBW.out.step hbl))).set _ _).set _ _, _, _, (HM2.out.below hbl).less hn24 ho24 (2 * x.M) (by rw [HC.out]; omega) (.sum (.line m) (.line m)) wc.drew.heap.size ⟨d, d, heap_alloc_new _ _, hd2, hd2⟩, ?_⟩
                  have hc := HCOV.out.un hlt2 (by rw [HX.out]; exact HQ.out) (by rw [HX.out]; unfold FF; omega)
                  rw [HX.out, HI1.out] at hc
                  exact hc
            · have hqb : (x.Q == 0) = false := by simpa using hq
              have HQ := hid hq; clear hq
              obtain ⟨hb0, hb1, hb2x⟩ := HOKX.out.b1 HQ.out
              have hqr : -1 ≤ x.Q ∧ x.Q ≤ 1 := by have := HOKX.out.q; omega
              obtain ⟨hq0, hq1⟩ := hqr
              have hn24 : nd x.A x.P < 24 := nd_lt24 hn ha0 han
              have hm24 : nd x.B (-x.Q) < 24 := nd_lt24 hn hb0 hb1
              have hMb := HOKX.out.lo
              have hMb' := HOKX.out.hi
              have hF := HF.out
              have hM0 := HMX.out
              have b1 : -11529215046068470 < x.M := by unfold FF at hF; omega
              have b2' : x.M < 11529215046068470 := by unfold FF at hF; omega
              clear hMb hMb' hF hM0
              have hm2 := HMAT.out.below HBW.out
              have HM2 := hid hm2; clear hm2
              have hMwr : M < wr.heap.size := HMAT.out.big.lt
              obtain ⟨wq, rfl⟩ : ∃ wq : World, wq = wr := ⟨_, rfl⟩
              go_upto_region 17 with (go_at_call 63; refine (end_any _ _ (by omega) (by omega) _).mono ?_; rintro e w' ⟨rfl, rfl⟩)
              go_wp2_with (first | (go_at_call_of 96 (Value.int IntKind.i64 (nd x.A x.P : Nat)); refine (other_any _ hn24 _).mono ?_; rintro e w' ⟨rfl, rfl⟩) | (go_at_call_of 96 (Value.int IntKind.i64 (nd x.B (-x.Q) : Nat)); refine (other_any _ hm24 _).mono ?_; rintro e w' ⟨rfl, rfl⟩))
              go_loopg [73] 2 (fun g s wx => ∃ j : Nat, j ≤ 2 ∧ g = 2 - j ∧ s = .int .i64 j ∧ LR l M m x j wc wx)
              case atStart => exact ⟨0, by omega, by omega, rfl, But.refl _ _, D, T, HM2.out, HCOV.out⟩
              case round =>
                obtain ⟨j, hj, hgj, rfl, hlr⟩ := hrel
                have HLR := hid hlr; clear hlr
                have HGJ := hid hgj; clear hgj
                by_cases hlt3 : j < 2
                · obtain ⟨e0, e1, he0, he1, hidx, hstep⟩ := edge_step hlt2 HX.out HQ.out (by unfold FF; omega) j hlt3 hn24 hm24
                  have HSTEP := hid hstep; clear hstep
                  have n7 : b7 ≠ M := by omega
                  have n8 : b8 ≠ M := by omega
                  have hq5 := HLR.out.but.cell (p := ⟨b7, 4, none⟩) hb7' n7
                  rw [q5] at hq5
                  have hhv := HLR.out.but.cell (p := ⟨b8, 0, none⟩) hb8' n8
                  rw [hv] at hhv
                  obtain ⟨D1, T1, hmat1, hcov1⟩ := HLR.out.ex
                  have hMx : M < wr.heap.size := hmat1.big.lt
                  have hcur := hmat1.most e0 e1 he0 he1
                  have hbn := (bnew wr (.cells #[.int .i64 e0, .int .i64 e1] 170)).drew
                  have hmat2 := hmat1.below hbn
                  have hcd := hmat2.most e0 e1 he0 he1
                  have hbig4 := hmat2.big
                  generalize hC : D1 e0 e1 = C at hcur hcd
                  have HC := hid hC; clear hC
                  have HMAT1 := hid hmat2; clear hmat1 hmat2
                  have HCOV1 := hid hcov1; clear hcov1
                  have hd4 : IsD (wr.alloc (.cells #[.int .i64 e0, .int .i64 e1] 170)).drew (.line m) d := (HD.out.but HM2.out.big HLR.out.but).below hbn
                  have h8 : b8 < wr.heap.size := Nat.lt_of_lt_of_le hb8' HLR.out.but.size
                  have h7 : b7 < wr.heap.size := Nat.lt_of_lt_of_le hb7' HLR.out.but.size
                  have c8d : (wr.alloc (.cells #[.int .i64 e0, .int .i64 e1] 170)).drew.cell? ⟨b8, 0, none⟩ = some (.pointer (some ⟨d, 0, none⟩)) := cell_later hbn hhv
                  have he0' : (e0 : Int) < 24 := by omega
                  have he1' : (e1 : Int) < 24 := by omega
                  have HD4 := hid hd4; clear hd4
                  have HBN := hid hbn; clear hbn
                  have hwhy := why114 b8 _ _ c8d
                  have hpost : ∀ v w1, Same (wr.alloc (.cells #[.int .i64 e0, .int .i64 e1] 170)).drew (some ⟨d, 0, none⟩) v w1 → (∃ p, v = .pointer p) ∧ (∃ x, w1.cell? ⟨M, e0 * 48 + e1 * 2, none⟩ = some x) ∧ (∃ x, w1.cell? ⟨M, e0 * 48 + e1 * 2 + 1, none⟩ = some x) ∧ w1.frozen? ⟨M, e0 * 48 + e1 * 2, none⟩ = false ∧ w1.frozen? ⟨M, e0 * 48 + e1 * 2 + 1, none⟩ = false := by
                    rintro v w1 ⟨rfl, rfl⟩
                    exact ⟨⟨_, rfl⟩, hbig4.cell _ (by omega), hbig4.cell _ (by omega), hbig4.frozen _, hbig4.frozen _⟩
                  have HPOST := hid hpost; clear hpost
                  have HWHY2 := hid hwhy; clear hwhy
                  have HB4 := hid hbig4; clear hbig4
                  have HCD := hid hcd; clear hcd
                  clear c8d
                  go_upto_region 20 with fail
                  have k0 : (wr.alloc (.cells #[.int .i64 e0, .int .i64 e1] 170)).cell? ⟨wr.heap.size, 0, none⟩ = some (.int .i64 e0) := (celln _ _ _ _ _ rfl).trans rfl
                  have k1 : (wr.alloc (.cells #[.int .i64 e0, .int .i64 e1] 170)).cell? ⟨wr.heap.size, 1, none⟩ = some (.int .i64 e1) := (celln _ _ _ _ _ rfl).trans rfl
                  have k5 : (wr.alloc (.cells #[.int .i64 e0, .int .i64 e1] 170)).cell? ⟨b7, 4, none⟩ = some (.int .i64 x.M) := (cello _ _ _ _ h7).trans hq5
                  generalize wr.alloc (.cells #[.int .i64 e0, .int .i64 e1] 170) = W1 at *
                  go_still_tail 11, (by kernel_rfl)
                  change wpList _ _ _ _ _ W1.drew
                  by_cases hle : C ≤ x.M
                  · go_wp2_with (go_at_call 100; refine (less_no M _ _ C _ _ HCD.out hle).mono ?_; rintro e w' ⟨rfl, rfl⟩)
                    go_roundg (2 - (j + 1))
                    case measure => have := HGJ.out; omega
                    case rel =>
                      refine ⟨j + 1, by omega, by omega, by go_num, HLR.out.but.trans (But.of_below HBN.out), D1, T1, HMAT1.out, ?_⟩
                      have hc := HSTEP.out _ _ HCOV1.out
                      obtain ⟨f1, f2⟩ := less_eq (D := D1) (T := T1) (i := e0) (j := e1) (c := x.M) (X := .line m) (by rw [HC.out]; omega)
                      rw [f1, f2] at hc
                      exact hc
                  · go_wp2_with (go_at_call 100; refine (less_yes114 M _ _ C _ _ _ HCD.out (by omega) HWHY2.out HPOST.out).mono ?_; rintro e w' ⟨rfl, v, w1, ⟨rfl, rfl⟩, rfl⟩)
                    go_roundg (2 - (j + 1))
                    case measure => have := HGJ.out; omega
                    case rel =>
                      exact ⟨j + 1, by omega, by omega, by go_num, ((HLR.out.but.trans (But.of_below HBN.out)).set _ _).set _ _, _, _, HMAT1.out.less he0 he1 x.M (by rw [HC.out]; omega) (.line m) d HD4.out, HSTEP.out _ _ HCOV1.out⟩
                · have hj2 : j = 2 := by omega
                  have HJ2 := hid hj2; clear hj2
                  go_wp2
                  go_roundg (l.length - (m + 1))
                  case measure => have := HGM.out; omega
                  case rel =>
                    obtain ⟨D1, T1, hmat1, hcov1⟩ := HLR.out.ex
                    rw [HJ2.out] at hcov1
                    exact ⟨m + 1, by omega, by omega, by go_num, (HLL.out.but.trans (But.of_below HBW.out)).trans HLR.out.but, D1, T1, hmat1, hcov1⟩
        · go_wp2
          go_end0
          have hml : m = l.length := by omega
          obtain ⟨D, T, h1, h2⟩ := HLL.out.ex
          rw [hml] at h2
          exact ⟨rfl, HB.out.trans HLL.out.but, D, T, h1, h2.stage⟩
end Go.Proofs.Ytnjbahiaelehkaa
