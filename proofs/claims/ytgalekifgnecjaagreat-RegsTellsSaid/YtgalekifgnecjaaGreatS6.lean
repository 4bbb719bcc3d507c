/- Clashes of a unit that can be written anew: what they are made of. clashes of package regs. -/
import Derived.Test.YtgalekifgnecjaaGreatS3
import Derived.Test.YtgalekifgnecjaaGreatN1
import Derived.Test.YtgalekifgnecjaaGreatN6
namespace Go.Proofs.YtgalekifgnecjaaGreat
open Go.RowKit

open Go.RowKit Go.Shelf
theorem OwnI.kept {w w' : World} {base : Nat} {v : Value} {l : List Int} {row : Option Nat} (h : OwnI w base v l) (hg : w.grownBy w' row) (hn : ∀ b, v.ownBlock = some b → some b ≠ row) : OwnI w' base v l :=
  own_later h (fun b hb hlt => hg.block b hlt (hn b hb))
theorem writ_ins {u : UntN} (hw : writB u = true) {k : Nat} (hk : k < u.code.length) : writIns u (firstsL u.code) k = true := by
  simp only [writB, Bool.and_eq_true, List.all_eq_true] at hw
  exact hw.2 k (List.mem_range.2 hk)
theorem writ_readIn {u : UntN} (hw : writB u = true) {k : Nat} (hk : k < u.code.length) : ∀ x ∈ readsL u.code[k], 0 ≤ x ∧ x < u.slots := by
  intro x hx
  have h2 := writ_ins hw hk
  unfold writIns at h2
  simp only [Bool.and_eq_true, List.all_eq_true] at h2
  have h3 := h2.1.1.1.1.1.1 x (by rw [getD_in hk]; exact hx)
  simp only [inN, Bool.and_eq_true, decide_eq_true_eq] at h3
  omega
theorem writ_writeIn {u : UntN} (hw : writB u = true) {k : Nat} (hk : k < u.code.length) : -1 ≤ writesI u.code[k] ∧ writesI u.code[k] < u.slots := by
  have h2 := writ_ins hw hk
  have h0 : 1 ≤ u.slots := by
    simp only [writB, Bool.and_eq_true, decide_eq_true_eq] at hw
    exact hw.1.1.1.2
  unfold writIns at h2
  simp only [Bool.and_eq_true] at h2
  have h3 := h2.1.1.1.1.1.2
  rw [getD_in hk] at h3
  simp only [inN, Bool.or_eq_true, beq_iff_eq, Bool.and_eq_true, decide_eq_true_eq] at h3
  omega
theorem live_in {u : UntN} (hw : writB u = true) (t : Nat) : ∀ x ∈ (liveL u).getD t [], 0 ≤ x ∧ x < u.slots := by
  intro x hx
  have h1 := (live_good u).un t x hx
  unfold univL at h1
  rw [List.mem_flatMap] at h1
  obtain ⟨y, hy, hx2⟩ := h1
  obtain ⟨k, hk, rfl⟩ := List.getElem_of_mem hy
  exact writ_readIn hw hk x hx2
theorem needL_mem {L : List (List Int)} {x : Int} : ∀ {ps : List Int}, x ∈ needL L ps ↔ ∃ p ∈ ps, x ∈ L.getD p.toNat [] := by
  have h : ∀ (ps : List Int) (s : List Int), x ∈ ps.foldl (fun out p => addL out (L.getD p.toNat [])) s ↔ x ∈ s ∨ ∃ p ∈ ps, x ∈ L.getD p.toNat [] := by
    intro ps
    induction ps with
    | nil => intro s; simp
    | cons p ps ih =>
      intro s
      rw [List.foldl_cons, ih, addL_mem]
      simp only [List.mem_cons, exists_eq_or_imp]
      constructor
      · rintro ((h | h) | h)
        · exact .inl h
        · exact .inr (.inl h)
        · exact .inr (.inr h)
      · rintro (h | h | h)
        · exact .inl (.inl h)
        · exact .inl (.inr h)
        · exact .inr h
  intro ps
  unfold needL
  rw [h]
  simp
theorem need_in {u : UntN} (hw : writB u = true) (ps : List Int) : ∀ x ∈ needL (liveL u) ps, 0 ≤ x ∧ x < u.slots := by
  intro x hx
  obtain ⟨p, _, hx⟩ := needL_mem.1 hx
  exact live_in hw _ x hx
theorem writ_args {u : UntN} (hw : writB u = true) : 0 ≤ u.args ∧ u.args ≤ u.slots ∧ 1 ≤ u.slots ∧ u.slots ≤ 200 := by
  have hs := plain_slots (writ_plain hw)
  simp only [writB, inN, Bool.and_eq_true, decide_eq_true_eq] at hw
  omega
theorem clIns_good {u : UntN} (hw : writB u = true) {l : List (Int × Int)} (hl : GoodP u.slots l) {t : Nat} (ht : t < u.code.length) : GoodP u.slots (clIns u (liveL u) l t) := by
  unfold clIns
  split
  · rename_i h
    rw [getD_in ht] at *
    exact foldNote_good ⟨h, (writ_writeIn hw ht).2⟩ _ hl (need_in hw _)
  · exact hl
theorem clFold_good {u : UntN} (hw : writB u = true) {l : List (Int × Int)} (hl : GoodP u.slots l) : ∀ (k : Nat), k ≤ u.code.length → GoodP u.slots ((List.range k).foldl (clIns u (liveL u)) l)
  | 0, _ => hl
  | k + 1, h => by
    rw [List.range_succ, List.foldl_append]
    exact clIns_good hw (clFold_good hw hl k (by omega)) (by omega)
theorem clStart_good {u : UntN} (hw : writB u = true) : GoodP u.slots (clLive (clArgs [] u.args.toNat) ((liveL u).getD 0 []) u.args.toNat) := by
  have h := writ_args hw
  exact clLive_good (live_in hw 0) (clArgs_good _ (by omega)) _ (by omega)
theorem clashL_good {u : UntN} (hw : writB u = true) : GoodP u.slots (clashL u) := clFold_good hw (clStart_good hw) _ (Nat.le_refl _)

attribute [local go_sem] Oper.semAt_some
/-- The pairs so far, in memory. -/
structure ClI (w0 : World) (bu : Nat) (ou : Obj) (bx bm : Nat) (S : List (Int × Int)) (wr : World) : Prop where
  hb : Below w0.heap.size w0 wr
  hu : wr.heap[bu]? = some ou
  hx : wr.heap[bx]? = some (.cells #[.map (some bm)] 116)
  hs : PairAt wr bm S
theorem ClI.put {w0 : World} {bu : Nat} {ou : Obj} {bx bm : Nat} {S S' : List (Int × Int)} {wr w6 : World} (h : ClI w0 bu ou bx bm S wr) (hg : wr.grownBy w6 (some bm)) (hs : PairAt w6 bm S') (h1 : w0.heap.size ≤ bm) (h2 : bu ≠ bm) (h3 : bx ≠ bm) : ClI w0 bu ou bx bm S' w6 :=
  ⟨h.hb.grown hg h.hb.size (fun r e => by cases e; exact h1), (hg.block _ (lt_of_heap h.hu) (fun e => h2 (by cases e; rfl))).trans h.hu, (hg.block _ (lt_of_heap h.hx) (fun e => h3 (by cases e; rfl))).trans h.hx, hs⟩
theorem ClI.below {w0 : World} {bu : Nat} {ou : Obj} {bx bm : Nat} {S : List (Int × Int)} {wr w6 : World} (h : ClI w0 bu ou bx bm S wr) (hb : Below wr.heap.size wr w6) : ClI w0 bu ou bx bm S w6 :=
  ⟨h.hb.step hb, keepBox hb h.hu, keepBox hb h.hx, h.hs.below hb⟩
def IsMap (w : World) (b : Nat) : Prop := ∃ es c, w.heap[b]? = some (.map es c)
theorem PairAt.isMap {w : World} {b : Nat} {S : List (Int × Int)} (h : PairAt w b S) : IsMap w b := by
  obtain ⟨es, clock, hb, _⟩ := h.mp.own
  exact ⟨es, clock, hb⟩
theorem cell_but {w w' : World} {b : Nat} {p : Addr} {v : Value} (hm : IsMap w b) (hg : w.grownBy w' (some b)) (h : w.cell? p = some v) : w'.cell? p = some v := by
  have hlt : p.block < w.heap.size := by
    unfold World.cell? at h
    cases hh : w.heap[p.block]? with
    | none => simp [hh] at h
    | some o => exact lt_of_heap hh
  have hne : p.block ≠ b := fun e => by
    obtain ⟨es, c, hb⟩ := hm
    unfold World.cell? at h
    rw [e] at h
    simp [hb] at h
  exact (World.cell?_of_block (hg.block p.block hlt (fun e => hne (by cases e; rfl)))).trans h
theorem RdI.but {w w' : World} {b : Nat} {a : Option Addr} {l : List Int} (h : RdI w a l) (hm : IsMap w b) (hg : w.grownBy w' (some b)) : RdI w' a l := by
  intro i hi
  obtain ⟨b2, off, ha, hlt, hc⟩ := h i hi
  exact ⟨b2, off, ha, Nat.lt_of_lt_of_le hlt hg.size, cell_but hm hg hc⟩
theorem RdLL.but {w w' : World} {b : Nat} {a : Option Addr} {L : List (List Int)} (h : RdLL w a L) (hm : IsMap w b) (hg : w.grownBy w' (some b)) : RdLL w' a L := by
  intro i hi
  obtain ⟨b2, off, ai, ci, ha, hlt, hc, hr, hl, hn⟩ := h i hi
  exact ⟨b2, off, ai, ci, ha, Nat.lt_of_lt_of_le hlt hg.size, cell_but hm hg hc, hr.but hm hg, hl, fun b2 o2 e => Nat.lt_of_lt_of_le (hn b2 o2 e) hg.size⟩
theorem heap_but {w w' : World} {b k : Nat} {o : Obj} (hg : w.grownBy w' (some b)) (h : w.heap[k]? = some o) (hn : k ≠ b) : w'.heap[k]? = some o :=
  (hg.block _ (lt_of_heap h) (fun e => hn (by cases e; rfl))).trans h
def foldN (a : Int) (l : List (Int × Int)) (bs : List Int) : List (Int × Int) := bs.foldl (fun l b => noteP l a b) l
theorem foldN_take {a : Int} {l : List (Int × Int)} {bs : List Int} {j : Nat} (h : j < bs.length) : foldN a l (bs.take (j + 1)) = noteP (foldN a l (bs.take j)) a bs[j] := by
  unfold foldN
  rw [take_last h, List.foldl_append]
  rfl
theorem foldN_range (k : Nat) (l : List (Int × Int)) (j : Nat) : (List.range (j + 1)).foldl (fun l (b : Nat) => noteP l k b) l = noteP ((List.range j).foldl (fun l (b : Nat) => noteP l k b) l) k j := by
  rw [List.range_succ, List.foldl_append]
  rfl
set_option maxRecDepth 100000 in
set_option maxHeartbeats 8000000 in
theorem clashes_any (u : UntN) (ca : Option Addr) (cc : Nat) (ga : Option Addr) (gc : Nat) (w : World) (hm : UnM w u ca cc ga gc) (hw : writB u = true) :
    Calls Tryz.prog 63 #[vU u ca cc ga gc] w fun e w' => Below w.heap.size w w' ∧ ∃ b, e = .returned (.map (some b)) ∧ PairAt w' b (clashL u) ∧ w.heap.size ≤ b := by
  have hn6 := writ_len hw
  have hargs := writ_args hw
  have hgo := live_good u
  have hlen0 : 0 < u.code.length := by
    have := writ_plain hw
    simp only [plainB, inN, Bool.and_eq_true, decide_eq_true_eq] at this
    omega
  have HM := hid hm; clear hm
  have HFO := hid (fun w' (hb : Below w.heap.size w w') => flowOf_any u ca cc ga gc w' (HM.out.below hb) hw)
  obtain ⟨n, hn⟩ : ∃ n : Nat, u.args = (n : Int) := ⟨u.args.toNat, by omega⟩
  have HN := hid hn
  have hn2 : n ≤ 200 := by omega
  clear hn
  have hmm := @run_makeMap Tryz.prog
  obtain ⟨wa, hwa⟩ : ∃ wa, wa = ((w.alloc (oU u ca cc ga gc)).alloc (.map #[] 0)).alloc (.cells #[.map (some (w.heap.size + 1))] 116) := ⟨_, rfl⟩
  have HI : Hid (ClI w w.heap.size (oU u ca cc ga gc) (w.heap.size + 1 + 1) (w.heap.size + 1) [] wa) := hid (by
    have hs := pairAt_made (w.alloc (oU u ca cc ga gc))
    rw [World.size_alloc] at hs
    rw [hwa]
    exact ⟨((bnew w _).step (bnew _ _)).step (bnew _ _), keepBox (bnew _ _) (keepBox (bnew _ _) (heapn _ _ _ rfl)), heapn _ _ _ (by simp), hs.below (bnew _ _)⟩)
  obtain ⟨bm, hbm⟩ : ∃ b, b = w.heap.size + 1 := ⟨_, rfl⟩
  obtain ⟨bx, hbx⟩ : ∃ b, b = bm + 1 := ⟨_, rfl⟩
  have HBM := hid hbm
  have HBX := hid hbx
  rw [← hbm, ← hbx] at HI
  go_enter Tryz.func63, Tryz.ntmps63
  go_upto_region 3 with fail
  rw [← hwa, ← hbm, ← hbx]
  clear hwa hbm hbx hmm
  have HU : Hid (w.heap.size ≠ bm ∧ bx ≠ bm ∧ w.heap.size ≤ bm) := hid (by have := HBM.out; have := HBX.out; omega)
  obtain ⟨k0, k1, k2, k3, k4, k5, k6⟩ := box7 HI.out.hu
  rw [HN.out] at k2
  go_upto_region 4 with fail
  clear k0 k1 k2 k3 k4 k5 k6
  go_loopg [20] n (fun gh s20 wr => ∃ k : Nat, k ≤ n ∧ gh = n - k ∧ s20 = .int .i64 k ∧ Hid (ClI w w.heap.size (oU u ca cc ga gc) bx bm (clArgs [] k) wr))
  case atStart => exact ⟨0, Nat.zero_le _, rfl, rfl, HI⟩
  case round =>
    obtain ⟨k, hk, rfl, rfl, HQ⟩ := hrel
    by_cases hkn : k < n
    · have nk : (k : Int) < (n : Int) := by omega
      go_upto_region 7 with fail
      go_loopg [24] k (fun gh s24 wr => ∃ j : Nat, j ≤ k ∧ gh = k - j ∧ s24 = .int .i64 j ∧ Hid (ClI w w.heap.size (oU u ca cc ga gc) bx bm ((List.range j).foldl (fun l (b : Nat) => noteP l k b) (clArgs [] k)) wr))
      case atStart => exact ⟨0, Nat.zero_le _, rfl, rfl, HQ⟩
      case round =>
        obtain ⟨j, hj, rfl, rfl, HJ⟩ := hrel
        by_cases hjk : j < k
        · have nj : (j : Int) < (k : Int) := by omega
          have HNO := hid (note_any k j bx bm _ wr HJ.out.hx HJ.out.hs (by omega) (by omega))
          have HFR := hid (foldN_range k (clArgs [] k) j)
          generalize (List.range j).foldl (fun l (b : Nat) => noteP l k b) (clArgs [] k) = S0 at *
          go_wp2_with (first
            | (go_at_call 134; (with_reducible refine HNO.out.mono ?_); rintro e w6 ⟨rfl, hg6, hs6⟩; have HS6 := hid hs6; have HG6 := hid hg6; clear hs6 hg6))
          go_roundg (k - (j + 1))
          case measure => omega
          case rel => exact ⟨j + 1, by omega, rfl, by go_num, hid (by rw [HFR.out]; exact HJ.out.put HG6.out HS6.out HU.out.2.2 HU.out.1 HU.out.2.1)⟩
        · obtain rfl : j = k := by omega
          have nj : ¬ (j : Int) < (j : Int) := by omega
          go_wp2
          go_roundg (n - (j + 1))
          case measure => omega
          case rel => exact ⟨j + 1, by omega, rfl, by go_num, hid HJ.out⟩
    · obtain rfl : k = n := by omega
      have nk : ¬ (k : Int) < (k : Int) := by omega
      clear HI
      obtain ⟨k0, k1, k2, k3, k4, k5, k6⟩ := box7 HQ.out.hu
      go_upto_region 13 with (first
        | (go_at_call 48; (with_reducible refine (HFO.out _ HQ.out.hb).mono ?_); rintro e w3 ⟨hb, v3, rfl, ho⟩; obtain ⟨va, vc, rfl, hrl⟩ := ho.rd; have HI3 := hid (HQ.out.below hb); have HL3 := hid hrl; clear hb ho hrl))
      clear k0 k1 k2 k3 k4 k5 k6
      obtain ⟨bf, hbf⟩ : ∃ b, b = w3.heap.size := ⟨_, rfl⟩
      obtain ⟨wb, hwb⟩ : ∃ wb, wb = w3.alloc (oFl u ca cc ga gc (.slice va (liveL u).length vc)) := ⟨_, rfl⟩
      have HFB : Hid (wb.heap[bf]? = some (oFl u ca cc ga gc (.slice va (liveL u).length vc))) := hid (by rw [hwb]; exact heapn _ _ _ hbf)
      have HIB : Hid (ClI w w.heap.size (oU u ca cc ga gc) bx bm (clArgs [] k) wb) := hid (by rw [hwb]; exact HI3.out.below (bnew _ _))
      have HLB : Hid (RdLL wb va (liveL u)) := hid (by rw [hwb]; exact HL3.out.below (bnew _ _))
      have HUF : Hid (bf ≠ bm) := hid (by have := HI3.out.hs.lt; omega)
      rw [← hbf, ← hwb]
      clear hwb hbf HQ HI3 HL3 HFO
      have HLEN : Hid ((liveL u).length = u.code.length) := hid hgo.len
      have HL0 := hid (HLB.out 0 (by have := HLEN.out; omega))
      have HL0E : Hid ((liveL u).getD 0 [] = (liveL u)[0]'(by have := HLEN.out; omega)) := hid (getD_in (by have := HLEN.out; omega))
      have HS0 := hid (fun x hx => live_in hw 0 x hx)
      rw [HL0E.out] at HS0
      obtain ⟨r0, hr0⟩ : ∃ r, r = (liveL u)[0]'(by have := HLEN.out; omega) := ⟨_, rfl⟩
      have HR0 := hid hr0
      rw [← hr0] at HL0 HL0E HS0
      clear hr0
      have hr0l : r0.length ≤ 200 := by have := live_few hw 0; rw [HL0E.out] at this; exact this
      obtain ⟨b4, off4, ai, ci, hva, _, hc4, hr4, _, _⟩ := HL0.out
      subst hva
      have HC4 : Hid (wb.cell? ⟨b4, off4, none⟩ = some (.slice ai r0.length ci)) := hid (by simpa using hc4)
      have HR4 := hid hr4
      have nll : (0 : Int) < ((liveL u).length : Int) := by have := HLEN.out; omega
      clear hc4 hr4 HL0
      obtain ⟨k0, k1, k2, k3, k4, k5, k6⟩ := box7 HIB.out.hu
      rw [HN.out] at k2
      go_upto_region 14 with fail
      clear k0 k1 k2 k3 k4 k5 k6
      go_loopg [37] k (fun gh s37 wr => ∃ a : Nat, a ≤ k ∧ gh = k - a ∧ s37 = .int .i64 a ∧ Hid (wb.grownBy wr (some bm)) ∧ Hid (ClI w w.heap.size (oU u ca cc ga gc) bx bm (clLive (clArgs [] k) r0 a) wr))
      case atStart => exact ⟨0, Nat.zero_le _, rfl, rfl, hid ⟨rfl, rfl, rfl, Nat.le_refl _, fun _ _ _ => rfl⟩, HIB⟩
      case round =>
        obtain ⟨a, ha, rfl, rfl, HG, HQ⟩ := hrel
        by_cases hak : a < k
        · have na : (a : Int) < (k : Int) := by omega
          have c7 : wr.cell? ⟨bf, 7, none⟩ = some (.slice (some ⟨b4, off4, none⟩) (liveL u).length vc) := (cell_of_row _ _ 7 _ _ _ (heap_but HG.out HFB.out HUF.out)).trans rfl
          have c4 : wr.cell? ⟨b4, off4, none⟩ = some (.slice ai r0.length ci) := cell_but HIB.out.hs.isMap HG.out HC4.out
          have HRR := hid (HR4.out.but HIB.out.hs.isMap HG.out)
          go_upto_region 17 with fail
          clear c7 c4
          go_loopg [45] r0.length (fun gh s45 wy => ∃ j : Nat, j ≤ r0.length ∧ gh = r0.length - j ∧ s45 = .int .i64 j ∧ Hid (wr.grownBy wy (some bm)) ∧ Hid (ClI w w.heap.size (oU u ca cc ga gc) bx bm (foldN a (clLive (clArgs [] k) r0 a) (r0.take j)) wy))
          case atStart => exact ⟨0, Nat.zero_le _, rfl, rfl, hid ⟨rfl, rfl, rfl, Nat.le_refl _, fun _ _ _ => rfl⟩, HQ⟩
          case round =>
            obtain ⟨j, hj, rfl, rfl, HGJ, HJ⟩ := hrel
            by_cases hjr : j < r0.length
            · have nj : (j : Int) < (r0.length : Int) := by omega
              obtain ⟨b5, o5, ha5, _, h5⟩ := (HRR.out.but HQ.out.hs.isMap HGJ.out) j hjr
              subst ha5
              have hrb := HS0.out r0[j] (List.getElem_mem hjr)
              have HFR := hid (foldN_take (a := a) (l := clLive (clArgs [] k) r0 a) hjr)
              have HNO := hid (note_any a r0[j] bx bm _ wr HJ.out.hx HJ.out.hs (by omega) (by omega))
              generalize foldN a (clLive (clArgs [] k) r0 a) (r0.take j) = S0 at *
              generalize r0[j] = x at *
              go_wp2_with (first
                | (go_at_call 134; (with_reducible refine HNO.out.mono ?_); rintro e w6 ⟨rfl, hg6, hs6⟩; have HS6 := hid hs6; have HG6 := hid hg6; clear hs6 hg6))
              go_roundg (r0.length - (j + 1))
              case measure => omega
              case rel => exact ⟨j + 1, by omega, rfl, by go_num, hid (HGJ.out.andThen HG6.out (fun j e => .inr e)), hid (by rw [HFR.out]; exact HJ.out.put HG6.out HS6.out HU.out.2.2 HU.out.1 HU.out.2.1)⟩
            · obtain rfl : j = r0.length := by omega
              have nj : ¬ (r0.length : Int) < (r0.length : Int) := by omega
              have HE : Hid (foldN a (clLive (clArgs [] k) r0 a) (r0.take r0.length) = clLive (clArgs [] k) r0 (a + 1)) := hid (by rw [List.take_length]; rfl)
              go_wp2
              go_roundg (k - (a + 1))
              case measure => omega
              case rel => exact ⟨a + 1, by omega, rfl, by go_num, hid (HG.out.andThen HGJ.out (fun j e => .inr e)), hid (by rw [← HE.out]; exact HJ.out)⟩
        · obtain rfl : a = k := by omega
          have na : ¬ (a : Int) < (a : Int) := by omega
          obtain ⟨k0, k1, k2, k3, k4, k5, k6⟩ := box7 HQ.out.hu
          go_upto_region 23 with fail
          clear k0 k1 k2 k3 k4 k5 k6
          go_loopg [58] u.code.length (fun gh s58 wr => ∃ t : Nat, t ≤ u.code.length ∧ gh = u.code.length - t ∧ s58 = .int .i64 t ∧ Hid (wb.grownBy wr (some bm)) ∧ Hid (ClI w w.heap.size (oU u ca cc ga gc) bx bm ((List.range t).foldl (clIns u (liveL u)) (clLive (clArgs [] a) r0 a)) wr))
          case atStart => exact ⟨0, Nat.zero_le _, rfl, rfl, HG, HQ⟩
          case round =>
            obtain ⟨t, ht, rfl, rfl, HGT, HT⟩ := hrel
            by_cases htn : t < u.code.length
            · have nt : (t : Int) < (u.code.length : Int) := by omega
              obtain ⟨bc, oc, hca, _, c0, c1, c2, c3⟩ := (HM.out.rc.below HT.out.hb) t htn
              subst hca
              have HWI := hid (writ_writeIn hw htn)
              have HCI : Hid (∀ l, clIns u (liveL u) l t = if 0 ≤ writesI u.code[t] then foldN (writesI u.code[t]) l (needL (liveL u) (bySelf u t)) else l) := hid (fun l => by unfold clIns foldN; rw [getD_in htn])
              have HFR : Hid ((List.range (t + 1)).foldl (clIns u (liveL u)) (clLive (clArgs [] a) r0 a) = clIns u (liveL u) ((List.range t).foldl (clIns u (liveL u)) (clLive (clArgs [] a) r0 a)) t) := hid (by rw [List.range_succ, List.foldl_append]; rfl)
              have HWR := hid (fun wz => writes_any u.code[t] wz)
              go_upto_region 25 with fail
              obtain ⟨wx, hwx⟩ : ∃ wx, wx = wr.alloc (.cells #[.int .i64 u.code[t].op, .int .i64 u.code[t].a, .int .i64 u.code[t].b, .int .i64 u.code[t].c] 85) := ⟨_, rfl⟩
              obtain ⟨bi, hbi⟩ : ∃ b, b = wr.heap.size := ⟨_, rfl⟩
              have HXX : Hid (wx.heap[bi]? = some (.cells #[.int .i64 u.code[t].op, .int .i64 u.code[t].a, .int .i64 u.code[t].b, .int .i64 u.code[t].c] 85)) := hid (by rw [hwx]; exact heapn _ _ _ hbi)
              have HTX := hid (show ClI w w.heap.size (oU u (some ⟨bc, oc, none⟩) cc ga gc) bx bm ((List.range t).foldl (clIns u (liveL u)) (clLive (clArgs [] a) r0 a)) wx from by rw [hwx]; exact HT.out.below (bnew _ _))
              have HGX : Hid (wb.grownBy wx (some bm)) := hid (by rw [hwx]; exact HGT.out.andThen (World.grownBy_alloc _ _ none) (fun j e => by cases e))
              rw [← hwx, ← hbi]
              clear hwx hbi c0 c1 c2 c3
              obtain ⟨q0, q1, q2, q3⟩ := box4 HXX.out
              generalize (List.range t).foldl (clIns u (liveL u)) (clLive (clArgs [] a) r0 a) = S0 at *
              replace HCI := hid (HCI.out S0)
              generalize u.code[t] = y at *
              obtain ⟨wi, hwi⟩ : ∃ wi, wi = writesI y := ⟨_, rfl⟩
              rw [← hwi] at HWI HCI HWR
              clear hwi
              by_cases hw0 : (0 : Int) ≤ wi
              · rw [if_pos hw0] at HCI
                go_upto_region 27 with (first
                  | (go_at_call 71; (with_reducible refine (HWR.out _).mono ?_); rintro e w7 ⟨rfl, hb⟩; have HT7 := hid (HTX.out.below hb); have HG7 := hid (HGX.out.andThen (row' := none) ⟨hb.os, hb.tape, hb.output, hb.size, fun k hk _ => hb.block k hk⟩ (fun j e => by cases e)); clear hb))
                clear q0 q1 q2 q3
                have HF7 := hid (heap_but HG7.out HFB.out HUF.out)
                have HL7 := hid (HLB.out.but HIB.out.hs.isMap HG7.out)
                have HNL := hid (needL_len (liveL u) 200 (live_few hw) (bySelf u t))
                have HNB := hid (bySelf_len u t)
                have HNI := hid (need_in hw (bySelf u t))
                have HBY := hid (fun (w' : World) (hb : Below w.heap.size w w') => byItself_any u t htn hn6 (some ⟨bc, oc, none⟩) cc ga gc (some ⟨b4, off4, none⟩) (liveL u).length vc w' (HM.out.below hb).rc)
                have HND := hid (fun (pa : Option Addr) (pc : Nat) (w' : World) (hb : Below w7.heap.size w7 w') (hr : RdI w' pa (bySelf u t)) => neededF_any u (some ⟨bc, oc, none⟩) cc ga gc (liveL u) (some ⟨b4, off4, none⟩) vc (bySelf u t) pa pc w' (HL7.out.below hb) hr (by rw [HLEN.out]; exact bySelf_in (writ_plain hw) htn) (by have := HNB.out; omega) (live_few hw))
                obtain ⟨N, hNN⟩ : ∃ N, N = needL (liveL u) (bySelf u t) := ⟨_, rfl⟩
                rw [← hNN] at HCI HNL HNI HND
                clear hNN
                go_cut [71, 72, 73] from 67 to 73 (fun s71 s72 s73 wy => s72 = .int .i64 N.length ∧ s73 = .int .i64 0 ∧ Hid (OwnI wy w7.heap.size s71 N) ∧ Hid (Below w7.heap.size w7 wy))
                case first =>
                  have HF7d : Hid (w7.drew.heap[bf]? = some (oFl u (some ⟨bc, oc, none⟩) cc ga gc (.slice (some ⟨b4, off4, none⟩) (liveL u).length vc))) := HF7
                  obtain ⟨k0, k1, k2, k3, k4, k5, k6, k7⟩ := box8 HF7.out
                  have HBXd : Hid (Below w.heap.size w w7.drew) := hid (HT7.out.hb.step (bdrew _))
                  go_region_with (first
                    | (go_at_call 73; (with_reducible refine (HBY.out _ HBXd.out).mono ?_); rintro e w8 ⟨hb, v7, rfl, ho⟩; obtain ⟨pa, pc, rfl, hrp⟩ := ho.rd; obtain ⟨j0, j1, j2, j3, j4, j5, j6, j7⟩ := box8 (keepBox hb HF7d.out); have HB7 := hid hb; have HR7 := hid hrp; clear hb ho hrp)
                    | (go_at_call 72; (with_reducible refine (HND.out pa pc _ ((bdrew w7).step HB7.out) HR7.out).mono ?_); rintro e w9 ⟨hb, v8, rfl, ho8⟩; obtain ⟨sa, sc, rfl, hrs⟩ := ho8.rd; have HB8 := hid hb; have HO8 := hid (OwnI.mono ho8 HB7.out.size); clear hb ho8 hrs))
                  all_goals (go_wp2_with fail; go_meet; exact ⟨rfl, rfl, HO8, hid (((bdrew w7).step HB7.out).step HB8.out)⟩)
                case rest =>
                  obtain ⟨rfl, rfl, HO, HY⟩ := hcut
                  obtain ⟨sa, sc, rfl, hrs⟩ := HO.out.rd
                  have HRS := hid hrs
                  clear hrs
                  have HTY := hid (HT7.out.below HY.out)
                  have HGY := hid (HG7.out.andThen (row' := none) ⟨HY.out.os, HY.out.tape, HY.out.output, HY.out.size, fun k hk _ => HY.out.block k hk⟩ (fun j e => by cases e))
                  clear HO HY HT7 HG7 HF7 HL7 HBY HND
                  go_upto_region 28 with fail
                  go_loopg [73] N.length (fun gh s73 wz => ∃ j : Nat, j ≤ N.length ∧ gh = N.length - j ∧ s73 = .int .i64 j ∧ Hid (wc.grownBy wz (some bm)) ∧ Hid (ClI w w.heap.size (oU u (some ⟨bc, oc, none⟩) cc ga gc) bx bm (foldN wi S0 (N.take j)) wz))
                  case atStart => exact ⟨0, Nat.zero_le _, rfl, rfl, hid ⟨rfl, rfl, rfl, Nat.le_refl _, fun _ _ _ => rfl⟩, HTY⟩
                  case round =>
                    obtain ⟨j, hj, rfl, rfl, HGJ, HJ⟩ := hrel
                    by_cases hjr : j < N.length
                    · have nj : (j : Int) < (N.length : Int) := by omega
                      obtain ⟨b5, o5, ha5, _, h5⟩ := (HRS.out.but HTY.out.hs.isMap HGJ.out) j hjr
                      subst ha5
                      have hrb := HNI.out N[j] (List.getElem_mem hjr)
                      have HFJ := hid (foldN_take (a := wi) (l := S0) hjr)
                      have hwib := HWI.out
                      have hnlb : N.length ≤ 400 := by have h1 := HNL.out; have h2 := HNB.out; omega
                      have HNO := hid (note_any wi N[j] bx bm _ wr HJ.out.hx HJ.out.hs (by omega) (by omega))
                      generalize foldN wi S0 (N.take j) = S1 at *
                      generalize N[j] = x at *
                      go_wp2_with (first
                        | (go_at_call 134; (with_reducible refine HNO.out.mono ?_); rintro e w6 ⟨rfl, hg6, hs6⟩; have HS6 := hid hs6; have HG6 := hid hg6; clear hs6 hg6))
                      go_roundg (N.length - (j + 1))
                      case measure => omega
                      case rel => exact ⟨j + 1, by omega, rfl, by go_num, hid (HGJ.out.andThen HG6.out (fun j e => .inr e)), hid (by rw [HFJ.out]; exact HJ.out.put HG6.out HS6.out HU.out.2.2 HU.out.1 HU.out.2.1)⟩
                    · obtain rfl : j = N.length := by omega
                      have nj : ¬ (N.length : Int) < (N.length : Int) := by omega
                      have HE : Hid (foldN wi S0 (N.take N.length) = foldN wi S0 N) := hid (by rw [List.take_length])
                      go_wp2
                      go_roundg (u.code.length - (t + 1))
                      case measure => omega
                      case rel => exact ⟨t + 1, by omega, rfl, by go_num, hid (HGY.out.andThen HGJ.out (fun j e => .inr e)), hid (by rw [HFR.out, HCI.out, ← HE.out]; exact HJ.out)⟩
              · rw [if_neg hw0] at HCI
                go_wp2_with (first
                  | (go_at_call 71; (with_reducible refine (HWR.out _).mono ?_); rintro e w7 ⟨rfl, hb⟩; have HT7 := hid (HTX.out.below hb); have HG7 := hid (HGX.out.andThen (row' := none) ⟨hb.os, hb.tape, hb.output, hb.size, fun k hk _ => hb.block k hk⟩ (fun j e => by cases e)); clear hb))
                go_roundg (u.code.length - (t + 1))
                case measure => omega
                case rel => exact ⟨t + 1, by omega, rfl, by go_num, HG7, hid (by rw [HFR.out, HCI.out]; exact HT7.out)⟩
            · obtain rfl : t = u.code.length := by omega
              have nt : ¬ (u.code.length : Int) < (u.code.length : Int) := by omega
              have HE : Hid (clashL u = (List.range u.code.length).foldl (clIns u (liveL u)) (clLive (clArgs [] a) r0 a)) := hid (by unfold clashL; rw [HN.out, HL0E.out]; rfl)
              have c0 : wr.cell? ⟨bx, 0, none⟩ = some (.map (some bm)) := (cell_of_row _ _ 0 _ _ _ HT.out.hx).trans rfl
              go_wp2
              go_ret
              exact ⟨HT.out.hb, bm, rfl, by rw [HE.out]; exact HT.out.hs, HU.out.2.2⟩
end Go.Proofs.YtgalekifgnecjaaGreat
