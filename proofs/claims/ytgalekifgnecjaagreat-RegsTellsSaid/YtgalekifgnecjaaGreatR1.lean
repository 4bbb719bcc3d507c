/- must of the reader: it returns, or panics with the value of a wrong unit. Sets of numbers: the laws at a map of any named type. used of package regs: the slots that are read or written, or are arguments. -/
import Derived.Test.YtgalekifgnecjaaGreatN6
namespace Go.Proofs.YtgalekifgnecjaaGreat
open Go.RowKit

open Go.RowKit Go.Shelf
attribute [local go_sem] Oper.semAt_some
def wrongP : List PanicEntry := [{ v := .iface 175 (.agg #[]), recovered := false }]
def MustP (b : Bool) (w : World) (e : Ending) (w' : World) : Prop := w' = w ∧ e = if b = true then .returned (.tuple #[]) else .panicked wrongP
theorem must_any (b : Bool) (w : World) : Calls Tryz.prog 185 #[.bool b] w (MustP b w) := by
  cases b with
  | true =>
    go_enter Tryz.func185, Tryz.ntmps185
    go_wp2
    go_end0
    exact ⟨rfl, rfl⟩
  | false =>
    go_enter Tryz.func185, Tryz.ntmps185
    go_wp2
    exact ⟨rfl, rfl, rfl⟩
theorem must_yes (w : World) : Calls Tryz.prog 185 #[.bool true] w (fun e w' => w' = w ∧ e = .returned (.tuple #[])) := (must_any true w).mono fun _ _ h => ⟨h.1, h.2⟩
theorem must_no (w : World) : Calls Tryz.prog 185 #[.bool false] w (fun e w' => w' = w ∧ e = .panicked wrongP) := (must_any false w).mono fun _ _ h => ⟨h.1, h.2⟩

theorem SetAt.putT {T : TypeId} (hT : Tryz.prog.underlying T = some (.map 3 4)) {w : World} {b : Nat} {S : List Int} {k : Int} (h : SetAt w b S) (hk : 0 ≤ k ∧ k < 1000000) :
    ∃ w', (Instr.mapUpdate T (.map (some b)) (.int .i64 k) (.bool true)).run Tryz.prog w = .ok () w' ∧ SetAt w' b (insS k S) ∧ w.grownBy w' (some b) := by
  have hl := h.len
  obtain ⟨w', h1, h2, h3⟩ := h.own.update keyed3 hT (by unfold maxLen; omega) (key3 ⟨hk.1, by omega⟩) (elem4 true)
  rw [setD_put h.so] at h2
  exact ⟨w', h1, ⟨sorted_insS h.so, fun x hx => by rcases mem_insS.1 hx with rfl | hx; exact hk; exact h.bd x hx, own_len h2⟩, h3⟩
theorem zero4 (w : World) : (zeroValue 4).run Tryz.prog w = .ok (.bool false) w := by
  simp [zeroValue, go_sem]
  rfl
theorem SetAt.hasT {T : TypeId} (hT : Tryz.prog.underlying T = some (.map 3 4)) {w : World} {b : Nat} {S : List Int} {k : Int} (h : SetAt w b S) (hk : 0 ≤ k ∧ k ≤ 1000000) :
    (Instr.lookup T (.map (some b)) (.int .i64 k) false).run Tryz.prog w = .ok (.bool (S.contains k)) w := by
  obtain ⟨v, ps, h1, h2⟩ := h.own.lookup keyed3 hT (zero4 w) (elem4 false) (key3 hk)
  obtain ⟨c, rfl, h3⟩ := elem4_inv h2
  rw [setD_at] at h3
  rw [h1]
  by_cases hx : k ∈ S
  · rw [if_pos hx] at h3
    cases h3
    rw [List.contains_iff_mem.2 hx]
  · rw [if_neg hx] at h3
    cases h3
    rw [show S.contains k = false from by simpa using hx]
theorem wpList_set_putT {T : TypeId} (hT : Tryz.prog.underlying T = some (.map 3 4)) (w : World) {ops : Array Oper} {rest : List Oper} {o : Oper} {a : Act} {Q : Exit → Act → World → Prop} (hg : o.guard = none) (m x v : Operand) (hop : o.op = Op.mapUpdate T m x v) (b : Nat) (S : List Int) (k : Int) (hm : a.eval m = .map (some b)) (h : SetAt w b S) (hx : a.eval x = .int .i64 k) (hv : a.eval v = .bool true) (hk : 0 ≤ k ∧ k < 1000000)
    (hK : ∀ w', SetAt w' b (insS k S) → w.grownBy w' (some b) → wpList Tryz.prog ops Q rest (a.put o.dst undef) w') : wpList Tryz.prog ops Q (o :: rest) a w := by
  refine wpList_plain hg fun K' hK' => ?_
  obtain ⟨w', hrun, r1, r2⟩ := h.putT hT hk
  unfold Oper.wp
  simp [execOp, hop, hm, hx, hv, hrun, Result.andThen]
  exact hK' _ _ (hK w' r1 r2)
/-- The numbers from 0 on, so many, are a set. -/
def firstNs (n : Nat) : List Int := (List.range n).map Int.ofNat
theorem mem_firstNs {n : Nat} {x : Int} : x ∈ firstNs n ↔ 0 ≤ x ∧ x < n := by
  unfold firstNs
  rw [List.mem_map]
  constructor
  · rintro ⟨k, hk, rfl⟩
    have := List.mem_range.1 hk
    simp only [Int.ofNat_eq_natCast]
    omega
  · rintro ⟨h0, h1⟩
    exact ⟨x.toNat, List.mem_range.2 (by omega), by simp only [Int.ofNat_eq_natCast]; omega⟩
theorem firstNs_succ (n : Nat) : firstNs (n + 1) = firstNs n ++ [(n : Int)] := by
  unfold firstNs
  rw [List.range_succ, List.map_append]
  rfl
theorem sorted_snoc : ∀ {l : List Int} {x : Int}, SortedL l → (∀ y ∈ l, y < x) → SortedL (l ++ [x])
  | [], _, _, _ => by simp [SortedL]
  | y :: l, x, h, hx => by
    obtain ⟨h1, h2⟩ := List.pairwise_cons.1 h
    refine List.pairwise_cons.2 ⟨fun z hz => ?_, sorted_snoc h2 (fun z hz => hx z (by simp [hz]))⟩
    rcases List.mem_append.1 hz with hz | hz
    · exact h1 z hz
    · rw [List.mem_singleton.1 hz]
      exact hx y (by simp)
theorem sorted_firstNs : ∀ n, SortedL (firstNs n)
  | 0 => .nil
  | n + 1 => by
    rw [firstNs_succ]
    exact sorted_snoc (sorted_firstNs n) (fun y hy => (mem_firstNs.1 hy).2)
theorem ins_firstNs (n : Nat) : insS (n : Int) (firstNs n) = firstNs (n + 1) :=
  sorted_ext (sorted_insS (sorted_firstNs n)) (sorted_firstNs (n + 1)) fun x => by
    rw [mem_insS, mem_firstNs, mem_firstNs]
    omega

def usStep (l : List Int) (x : InsN) : List Int := if 0 ≤ writesI x then insS (writesI x) ((readsL x).foldl (fun l s => insS s l) l) else (readsL x).foldl (fun l s => insS s l) l
theorem usedL_eq (u : UntN) : usedL u = u.code.foldl usStep (firstNs u.args.toNat) := rfl
set_option maxRecDepth 100000 in
set_option maxHeartbeats 8000000 in
theorem used_any (u : UntN) (ca : Option Addr) (cc : Nat) (ga : Option Addr) (gc : Nat) (w : World) (hm : RdC w ca u.code) (hlc : u.code.length ≤ 600) (ha : 0 ≤ u.args ∧ u.args ≤ 200) (hr : ∀ t (ht : t < u.code.length), ∀ x ∈ readsL u.code[t], 0 ≤ x ∧ x < 1000000) (hws : ∀ t (ht : t < u.code.length), writesI u.code[t] < 1000000) :
    Calls Tryz.prog 104 #[vU u ca cc ga gc] w fun e w' => Below w.heap.size w w' ∧ ∃ b, e = .returned (.map (some b)) ∧ SetAt w' b (usedL u) ∧ w.heap.size ≤ b := by
  have HM := hid hm; clear hm
  have HUS := hid (usedL_eq u)
  have HRB := hid hr; clear hr
  have HWB := hid hws; clear hws
  have hmm := @run_makeMap Tryz.prog
  obtain ⟨n, hn⟩ : ∃ n : Nat, u.args = (n : Int) := ⟨u.args.toNat, by omega⟩
  have HN := hid hn
  have hx1 : ((w.alloc (oU u ca cc ga gc)).alloc (.map #[] 0)).heap[w.heap.size]? = some (oU u ca cc ga gc) := keepBox (bnew _ _) (heapn _ _ _ rfl)
  have hs1 : SetAt ((w.alloc (oU u ca cc ga gc)).alloc (.map #[] 0)) (w.heap.size + 1) [] := by
    have := setAt_made (w.alloc (oU u ca cc ga gc))
    rwa [World.size_alloc] at this
  have hb1 : Below w.heap.size w ((w.alloc (oU u ca cc ga gc)).alloc (.map #[] 0)) := (bnew w _).step (bnew _ _)
  have HX1 := hid (And.intro hx1 (And.intro hs1 hb1))
  clear hx1 hs1 hb1
  obtain ⟨k0, k1, k2, k3, k4, k5, k6⟩ := box7 HX1.out.1
  have hn2 : n ≤ 200 := by omega
  clear hn
  go_enter Tryz.func104, Tryz.ntmps104
  go_upto_region 3 with fail
  obtain ⟨bm, hbm⟩ : ∃ b, b = w.heap.size + 1 := ⟨_, rfl⟩
  have HBM := hid hbm
  obtain ⟨wa, hwa⟩ : ∃ wa, wa = (w.alloc (oU u ca cc ga gc)).alloc (.map #[] 0) := ⟨_, rfl⟩
  rw [← hwa, ← hbm] at HX1
  rw [← hwa, ← hbm]
  clear hwa hbm hmm k0 k1 k2 k3 k4 k5 k6
  go_loopg [13] n (fun gh s13 wr => ∃ k : Nat, k ≤ n ∧ gh = n - k ∧ s13 = .int .i64 k ∧ Hid (Below w.heap.size w wr ∧ wr.heap[w.heap.size]? = some (oU u ca cc ga gc) ∧ SetAt wr bm (firstNs k)))
  case atStart => exact ⟨0, Nat.zero_le _, rfl, rfl, hid ⟨HX1.out.2.2, HX1.out.1, HX1.out.2.1⟩⟩
  case round =>
    obtain ⟨k, hk, rfl, rfl, HQ⟩ := hrel
    by_cases hkn : k < n
    · have nk : (k : Int) < u.args := by have := HN.out; omega
      have nk0 : (0 : Int) ≤ (k : Int) ∧ (k : Int) < 1000000 := by omega
      have HS := hid HQ.out.2.2
      go_wp2_with (first
        | (at_mapUpdate; refine wpList_set_putT Tryz.underlying156 _ rfl _ _ _ rfl bm (firstNs k) k rfl HS.out rfl rfl nk0 ?_; intro w6 hs6 hg6; have HS6 := hid hs6; have HG6 := hid hg6; clear hs6 hg6))
      go_roundg (n - (k + 1))
      case measure => omega
      case rel => exact ⟨k + 1, by omega, rfl, by go_num, hid ⟨HQ.out.1.grown HG6.out HQ.out.1.size (fun r e => by cases e; rw [HBM.out]; omega), (HG6.out.block _ (lt_of_heap HQ.out.2.1) (fun e => by cases e; have := HBM.out; omega)).trans HQ.out.2.1, by rw [← ins_firstNs]; exact HS6.out⟩⟩
    · obtain rfl : k = n := by omega
      have nk : ¬ (k : Int) < u.args := by have := HN.out; omega
      obtain ⟨k0, k1, k2, k3, k4, k5, k6⟩ := box7 HQ.out.2.1
      go_upto_region 8 with fail
      clear k0 k1 k2 k3 k4 k5 k6
      go_loopg [22] u.code.length (fun gh s22 wr => ∃ t : Nat, t ≤ u.code.length ∧ gh = u.code.length - t ∧ s22 = .int .i64 t ∧ Hid (Below w.heap.size w wr ∧ SetAt wr bm ((u.code.take t).foldl usStep (firstNs k))))
      case atStart => exact ⟨0, Nat.zero_le _, rfl, rfl, hid ⟨HQ.out.1, HQ.out.2.2⟩⟩
      case round =>
        obtain ⟨t, ht, rfl, rfl, HT⟩ := hrel
        by_cases hlt : t < u.code.length
        · obtain ⟨bc, oc, hca, _, c0, c1, c2, c3⟩ := (HM.out.below HT.out.1) t hlt
          subst hca
          have ntt : (t : Int) < (u.code.length : Int) := by omega
          have HRR := hid (fun wx => reads_any u.code[t] wx)
          have HWW := hid (fun wx => writes_any u.code[t] wx)
          have HRX := hid (HRB.out t hlt)
          have HWX := hid (HWB.out t hlt)
          obtain ⟨S0, hS0⟩ : ∃ S, S = (u.code.take t).foldl usStep (firstNs k) := ⟨_, rfl⟩
          have HST : Hid ((u.code.take (t + 1)).foldl usStep (firstNs k) = usStep S0 u.code[t]) := hid (by rw [take_last hlt, List.foldl_append, hS0]; rfl)
          rw [← hS0] at HT
          clear hS0
          have hrl := readsL_len u.code[t]
          have HUE : Hid (usStep S0 u.code[t] = if 0 ≤ writesI u.code[t] then insS (writesI u.code[t]) ((readsL u.code[t]).foldl (fun l s => insS s l) S0) else (readsL u.code[t]).foldl (fun l s => insS s l) S0) := hid rfl
          generalize u.code[t] = y at *
          generalize readsL y = R at *
          generalize writesI y = wi at *
          go_upto_region 10 with fail
          obtain ⟨wx, hwx⟩ : ∃ wx, wx = wr.alloc (.cells #[.int .i64 y.op, .int .i64 y.a, .int .i64 y.b, .int .i64 y.c] 85) := ⟨_, rfl⟩
          obtain ⟨bx, hbx⟩ : ∃ b, b = wr.heap.size := ⟨_, rfl⟩
          have HXX : Hid (wx.heap[bx]? = some (.cells #[.int .i64 y.op, .int .i64 y.a, .int .i64 y.b, .int .i64 y.c] 85)) := hid (by rw [hwx]; exact heapn _ _ _ hbx)
          have HBX : Hid (Below w.heap.size w wx) := hid (by rw [hwx]; exact HT.out.1.step (bnew _ _))
          have HSX : Hid (SetAt wx bm S0) := hid (by rw [hwx]; exact HT.out.2.below (bnew _ _))
          have HNE : Hid (bx ≠ bm) := hid (by have := HT.out.2.lt; omega)
          rw [← hwx, ← hbx]
          clear hwx hbx c0 c1 c2 c3
          obtain ⟨q0, q1, q2, q3⟩ := box4 HXX.out
          go_upto_region 11 with (first
            | (go_at_call 70; (with_reducible refine (HRR.out _).mono ?_); rintro e9 w5 ⟨hb, v5, rfl, ho⟩; obtain ⟨ra, rc, rfl, hrp⟩ := ho.rd; have HB5 := hid hb; have HR5 := hid hrp; clear hb ho hrp))
          clear q0 q1 q2 q3
          go_loopg [29] R.length (fun gh s29 wr => ∃ j : Nat, j ≤ R.length ∧ gh = R.length - j ∧ s29 = .int .i64 j ∧ Hid (w5.grownBy wr (some bm) ∧ SetAt wr bm ((R.take j).foldl (fun l s => insS s l) S0)))
          case atStart => exact ⟨0, Nat.zero_le _, rfl, rfl, hid ⟨⟨rfl, rfl, rfl, Nat.le_refl _, fun _ _ _ => rfl⟩, HSX.out.below HB5.out⟩⟩
          case round =>
            obtain ⟨j, hj, rfl, rfl, HJ⟩ := hrel
            by_cases hlj : j < R.length
            · have hxb := HRX.out R[j] (List.getElem_mem hlj)
              obtain ⟨b2, off, ha2, hlt2, h0⟩ := HR5.out j hlj
              subst ha2
              have hne : b2 ≠ bm := fun e => by
                obtain ⟨es, clock, hmb, _⟩ := (HSX.out.below HB5.out).own
                rw [e] at h0
                unfold World.cell? at h0
                simp [hmb] at h0
              have h0r : wr.cell? ⟨b2, off + j, none⟩ = some (.int .i64 R[j]) := (World.cell?_of_block (w := w5) (w' := wr) (a := ⟨b2, off + j, none⟩) (HJ.out.1.block b2 hlt2 (fun e => hne (by cases e; rfl)))).trans h0
              clear h0
              have nj : (j : Int) < (R.length : Int) := by omega
              have HTJ : Hid ((R.take (j + 1)).foldl (fun l s => insS s l) S0 = insS R[j] ((R.take j).foldl (fun l s => insS s l) S0)) := hid (by rw [take_last hlj, List.foldl_append]; rfl)
              generalize R[j] = x at *
              have HS := hid HJ.out.2
              go_wp2_with (first
                | (at_mapUpdate; refine wpList_set_putT Tryz.underlying156 _ rfl _ _ _ rfl bm _ x rfl HS.out rfl rfl hxb ?_; intro w6 hs6 hg6; have HS6 := hid hs6; have HG6 := hid hg6; clear hs6 hg6))
              go_roundg (R.length - (j + 1))
              case measure => omega
              case rel => exact ⟨j + 1, by omega, rfl, by go_num, hid ⟨HJ.out.1.andThen HG6.out (fun j e => .inr e), by rw [HTJ.out]; exact HS6.out⟩⟩
            · obtain rfl : j = R.length := by omega
              have nj : ¬ (R.length : Int) < (R.length : Int) := by omega
              have hxr : wr.heap[bx]? = some (.cells #[.int .i64 y.op, .int .i64 y.a, .int .i64 y.b, .int .i64 y.c] 85) := (HJ.out.1.block bx (lt_of_heap (keepBox HB5.out HXX.out)) (fun e => HNE.out (by cases e; rfl))).trans (keepBox HB5.out HXX.out)
              obtain ⟨q0, q1, q2, q3⟩ := box4 hxr
              have HBR : Hid (Below w.heap.size w wr) := hid ((HBX.out.step HB5.out).grown HJ.out.1 (HBX.out.step HB5.out).size (fun r e => by cases e; rw [HBM.out]; omega))
              have HSR : Hid (SetAt wr bm (R.foldl (fun l s => insS s l) S0)) := hid (by have := HJ.out.2; rwa [List.take_length] at this)
              by_cases hwi : (0 : Int) ≤ wi
              · rw [if_pos hwi] at HUE
                have hwb : (0 : Int) ≤ wi ∧ wi < 1000000 := ⟨hwi, HWX.out⟩
                go_wp2_with (first
                  | (go_at_call 71; (with_reducible refine (HWW.out _).mono ?_); rintro e w7 ⟨rfl, hb⟩; have HB7 := hid (HBR.out.step hb); have HS7 := hid (HSR.out.below hb); clear hb)
                  | (at_mapUpdate; refine wpList_set_putT Tryz.underlying156 _ rfl _ _ _ rfl bm _ wi rfl HS7.out rfl rfl hwb ?_; intro w6 hs6 hg6; have HS6 := hid hs6; have HG6 := hid hg6; clear hs6 hg6))
                go_roundg (u.code.length - (t + 1))
                case measure => omega
                case rel => exact ⟨t + 1, by omega, rfl, by go_num, hid ⟨HB7.out.grown HG6.out HB7.out.size (fun r e => by cases e; rw [HBM.out]; omega), by rw [HST.out, HUE.out]; exact HS6.out⟩⟩
              · rw [if_neg hwi] at HUE
                go_wp2_with (first
                  | (go_at_call 71; (with_reducible refine (HWW.out _).mono ?_); rintro e w7 ⟨rfl, hb⟩; have HB7 := hid (HBR.out.step hb); have HS7 := hid (HSR.out.below hb); clear hb))
                go_roundg (u.code.length - (t + 1))
                case measure => omega
                case rel => exact ⟨t + 1, by omega, rfl, by go_num, hid ⟨HB7.out, by rw [HST.out, HUE.out]; exact HS7.out⟩⟩
        · obtain rfl : t = u.code.length := by omega
          have ntt : ¬ (u.code.length : Int) < (u.code.length : Int) := by omega
          have hE : (u.code.take u.code.length).foldl usStep (firstNs k) = usedL u := by rw [List.take_length, HUS.out, HN.out]; rfl
          go_wp2
          go_ret
          exact ⟨HT.out.1, bm, rfl, by have := HT.out.2; rwa [hE] at this, by rw [HBM.out]; omega⟩
end Go.Proofs.YtgalekifgnecjaaGreat
