/- The iterator groups of package regs: what it yields. -/
import Derived.Test.YtgalekifgnecjaaGreatC9
import Derived.Test.YtgalekifgnecjaaGreatD1
import Derived.Sort.CutIn
import Derived.Deep.RegionWith
namespace Go.Proofs.YtgalekifgnecjaaGreat
open Go.RowKit Go.Shelf
attribute [local go_sem] Oper.semAt_some

/-- A group, and where its list of slots lies. -/
structure GrX where
  g : GrpN
  a : Option Addr
  c : Nat
abbrev vGr (x : GrX) : Value := .agg #[.int .i64 x.g.frm, .int .i64 x.g.til, .slice x.a x.g.reads.length x.c, .int .i64 x.g.wr]
/-- What comes with a group. -/
def GrFact (Mi : World → Nat → Prop) (x : GrX) (w : World) : Prop := RdI w x.a x.g.reads ∧ x.g.reads.length ≤ x.c ∧ ∀ b off, x.a = some ⟨b, off, none⟩ → b < w.heap.size ∧ Mi w b
theorem grpEnd_ge (fs : List Int) (i : Nat) : i ≤ grpEnd fs i := Nat.le_add_right ..
theorem grpEnd_lt {fs : List Int} {i : Nat} (h : i < fs.length) : grpEnd fs i < fs.length := by
  unfold grpEnd
  have := takeW_le (· == (i : Int)) (fs.drop (i + 1))
  rw [List.length_drop] at this
  omega
theorem grpEnd_iff {fs : List Int} {i e : Nat} (h1 : i ≤ e) (h2 : e ≤ grpEnd fs i) (h3 : e + 1 < fs.length) : ((fs[e + 1] == (i : Int)) = true ↔ e < grpEnd fs i) := by
  unfold grpEnd at *
  have hl : e - i < (fs.drop (i + 1)).length := by rw [List.length_drop]; omega
  have := takeW_iff (p := (· == (i : Int))) (fs.drop (i + 1)) (e - i) (by omega) hl
  rw [List.getElem_drop] at this
  have e1 : i + 1 + (e - i) = e + 1 := by omega
  simp only [e1] at this
  rw [this]
  omega
theorem grpReads_step (code : List InsN) (i j k : Nat) (hk : k < j + 1 - i) (hl : j < code.length) :
    (((code.drop i).take (j + 1 - i)).take (k + 1)).foldl (fun l x => addL l (readsL x)) [] = addL ((((code.drop i).take (j + 1 - i)).take k).foldl (fun l x => addL l (readsL x)) []) (readsL (code.getD (i + k) ins0)) := by
  have hlt : k < ((code.drop i).take (j + 1 - i)).length := by rw [List.length_take, List.length_drop]; omega
  rw [take_last hlt, List.foldl_append, List.getElem_take, List.getElem_drop, getD_in (by omega)]
  rfl
theorem readsL_len (x : InsN) : (readsL x).length ≤ 2 := by
  unfold readsL
  rw [List.length_append]
  have := readPart_len x (formL x.op).r0
  have := readPart_len x (formL x.op).r1
  omega
theorem foldReads_len (l : List InsN) : ∀ s : List Int, (l.foldl (fun l x => addL l (readsL x)) s).length ≤ s.length + 2 * l.length := by
  induction l with
  | nil => intro s; simp
  | cons x l ih =>
    intro s
    rw [List.foldl_cons, List.length_cons]
    have h1 := ih (addL s (readsL x))
    have h2 := addL_len s (readsL x)
    have h3 := readsL_len x
    omega
/-- What stands in a group that is being read. -/
def GrNow (bG : Nat) (s e : Nat) (L : List Int) (wa wx : World) : Prop := ∃ v, wx.heap[bG]? = some (.cells #[.int .i64 s, .int .i64 e, v, .int .i64 0] 107) ∧ OwnI wx (bG + 1) v L ∧ Below wa.heap.size wa wx
theorem grNow_add {bG s e : Nat} {L : List Int} {wa w7 w8 w9 : World} {v v' : Value} {M : List Int} (hG : bG = wa.heap.size) (hX : w7.heap[bG]? = some (.cells #[.int .i64 s, .int .i64 e, v, .int .i64 0] 107)) (hO : OwnI w7 (bG + 1) v L) (hB : Below wa.heap.size wa w7) (h8 : Below w7.heap.size w7 w8)
    (ho : OwnI w9 (bG + 1) v' M) (hg : w8.grownBy w9 v.ownBlock) : GrNow bG s e M wa (w9.setCell ⟨bG, 2, none⟩ v') := by
  have hn : ∀ b, v.ownBlock = some b → bG + 1 ≤ b := own_ge hO
  have hn' : ∀ b, v'.ownBlock = some b → bG + 1 ≤ b := own_ge ho
  have x8 := keepBox h8 hX
  have x9 : w9.heap[bG]? = some (.cells #[.int .i64 s, .int .i64 e, v, .int .i64 0] 107) := (hg.block bG (lt_of_heap x8) (fun e => by have := hn bG e.symm; omega)).trans x8
  refine ⟨v', heap_setCell_same _ _ 2 _ _ _ x9, own_later ho (fun b hb _ => heap_setCell_other _ _ _ _ (by have := hn' b hb; show b ≠ bG; omega)), ?_⟩
  have hb8 := hB.step h8
  have hb9 : Below wa.heap.size wa w9 := below_grownF hb8 hg hb8.size (fun r e => by have := hn r e; omega)
  exact hb9.setCell (p := ⟨bG, 2, none⟩) (by show wa.heap.size ≤ bG; omega) _
theorem grNow_box {bG s e : Nat} {L : List Int} {w7 w8 w9 : World} {v : Value} (hX : w7.heap[bG]? = some (.cells #[.int .i64 s, .int .i64 e, v, .int .i64 0] 107)) (hO : OwnI w7 (bG + 1) v L) (h8 : Below w7.heap.size w7 w8) (hg : w8.grownBy w9 v.ownBlock) : w9.heap[bG]? = some (.cells #[.int .i64 s, .int .i64 e, v, .int .i64 0] 107) :=
  (hg.block bG (lt_of_heap (keepBox h8 hX)) (fun e => by have := own_ge hO bG e.symm; omega)).trans (keepBox h8 hX)
theorem own_new {w : World} {base b : Nat} {v : Value} {l : List Int} (h : OwnI w base v l) (hb : w.heap.size ≤ b) : some b ≠ v.ownBlock := by
  intro e
  rcases h.2 with ⟨rfl, _⟩ | ⟨g, cap, cur, rfl, _, hg, _⟩
  · cases e
  · cases e
    have h2 := lt_of_heap hg
    exact absurd h2 (Nat.not_lt.2 hb)
theorem groupsL_at (u : UntN) : groupsL u = grpsGo u.code (firstsL u.code) u.code.length 0 := rfl
theorem grpsGo_step {code : List InsN} {fs : List Int} {f s : Nat} (h : s < code.length) : grpsGo code fs (f + 1) s = grpAt code fs s :: grpsGo code fs f (grpEnd fs s + 1) := if_pos h
theorem grpsGo_end {code : List InsN} {fs : List Int} {f s : Nat} (h : ¬ s < code.length) : grpsGo code fs f s = [] := by
  cases f with
  | zero => rfl
  | succ f => exact if_neg h
/-- The groups from a place on. -/
def grpsFrom (code : List InsN) (fs : List Int) (s : Nat) : List GrpN := grpsGo code fs (code.length - s) s
theorem grpsGo_more (code : List InsN) (fs : List Int) : ∀ (f g s : Nat), code.length ≤ s + f → code.length ≤ s + g → grpsGo code fs f s = grpsGo code fs g s
  | 0, g, s, h1, _ => by rw [grpsGo_end (by omega), grpsGo_end (by omega)]
  | f + 1, 0, s, _, h2 => by rw [grpsGo_end (by omega), grpsGo_end (by omega)]
  | f + 1, g + 1, s, h1, h2 => by
    by_cases h : s < code.length
    · rw [grpsGo_step h, grpsGo_step h]
      have := grpEnd_ge fs s
      rw [grpsGo_more code fs f g (grpEnd fs s + 1) (by omega) (by omega)]
    · rw [grpsGo_end h, grpsGo_end h]
theorem grpsFrom_step {code : List InsN} {fs : List Int} {s : Nat} (h : s < code.length) : grpsFrom code fs s = grpAt code fs s :: grpsFrom code fs (grpEnd fs s + 1) := by
  unfold grpsFrom
  obtain ⟨f, hf⟩ : ∃ f, code.length - s = f + 1 := ⟨code.length - s - 1, by omega⟩
  rw [hf, grpsGo_step h]
  have := grpEnd_ge fs s
  rw [grpsGo_more code fs f (code.length - (grpEnd fs s + 1)) _ (by omega) (by omega)]
set_option maxRecDepth 100000 in
set_option maxHeartbeats 8000000 in
theorem groups1_in (n : Nat) (hn : 1 ≤ n) {Mi : World → Nat → Prop} {WF : World → Prop} (hFe : Fenc Mi WF) (l : Nat) (u : UntN) (hlen : u.code.length ≤ 600) (ca : Option Addr) (cc : Nat) (ga : Option Addr) (gc : Nat) (gu gf gb : Nat) (FS : List Int) (hfs : FS.length = u.code.length) (B : Nat) (J : List GrX → World → Prop) (Jp : List PanicEntry → List GrX → World → Prop) (hJ : AbidesFrom B J)
    (hY : ∀ pre x W1, J pre W1 → (pre ++ [x]).map GrX.g <+: grpsFrom u.code FS 0 → GrFact Mi x W1 → YieldAt Fence.wide (n - 1) Tryz.prog l #[vGr x] W1 fun e W' => (e = .returned (.bool true) ∧ J (pre ++ [x]) W' ∧ KeepK Mi WF W1 W') ∨ ∃ ch, e = .panicked ch ∧ Jp ch (pre ++ [x]) W')
    (W : World) (hU : W.heap[gu]? = some (oU u ca cc ga gc)) (hF : W.heap[gf]? = some (.cells #[.slice (some ⟨gb, 0, none⟩) u.code.length u.code.length] 28)) (hB : BI W gb FS) (hM : UnO Mi W u ca cc ga gc) (hOu : Mi W gu) (hOf : Mi W gf) (hOb : Mi W gb) (hw : WF W) (h0 : J [] W) :
    CallsIn Fence.wide n Tryz.prog 114 #[.func (.yield l) #[] #[], .pointer (some ⟨gu, 0, none⟩), .pointer (some ⟨gf, 0, none⟩)] W fun e W' => ((∃ v, e = .returned v) ∧ ∃ xs, xs.map GrX.g = grpsFrom u.code FS 0 ∧ J xs W') ∨ ∃ ch pre, e = .panicked ch ∧ pre.map GrX.g <+: grpsFrom u.code FS 0 ∧ Jp ch pre W' := by
  have HY := hid hY; clear hY
  have HJ := hid hJ; clear hJ
  have HU := hid (And.intro hU hOu); clear hU hOu
  have HFe := hid hFe; clear hFe
  have HF := hid (And.intro hF hOf); clear hF hOf
  obtain ⟨curB, hcB, hxB⟩ := hB
  have HBC := hid (And.intro hcB hOb); clear hcB hOb
  have HBX := hid hxB; clear hxB
  have HM := hid hM; clear hM
  have HWF := hid hw; clear hw
  have H0 := hid h0; clear h0
  have HFL := hid hfs; clear hfs
  have hlc := HM.out.m.lc
  refine callsIn_of_wp Tryz.func114 rfl trivial ?_ rfl
  simp only [Tryz.ntmps114, List.size_toArray, List.length_cons, List.length_nil, Nat.reduceAdd, Nat.reduceSub, Array.replicate_succ, Array.replicate_zero, List.push_toArray, List.append_toArray, List.nil_append, List.cons_append]
  gi_wp2
  gi_loopw [4] (fun s4 wr => ∃ (s : Nat) (pre : List GrX), s ≤ u.code.length ∧ s4 = .int .i64 s ∧ Hid (pre.map GrX.g ++ grpsFrom u.code FS s = grpsFrom u.code FS 0) ∧ Hid (J pre wr) ∧ Hid (KeepM Mi WF W wr))
    (fun s4 _ => u.code.length - (intOf s4).toNat)
  case atStart => exact ⟨0, [], Nat.zero_le _, rfl, hid rfl, H0, hid (KeepM.refl HWF.out)⟩
  case round =>
    obtain ⟨s, pre, hs, rfl, HP, HJ1, HK⟩ := hrel
    have HU1 := hid (HK.out.box HU.out)
    obtain ⟨k0, k1, k2, k3, k4, k5, k6⟩ := box7 HU1.out.1
    by_cases hsl : s < u.code.length
    · obtain ⟨bc, oc, hca, -⟩ := HM.out.m.rc s hsl
      subst hca
      have ns : (s : Int) < (u.code.length : Int) := by omega
      have ns0 : (0 : Int) ≤ (s : Int) := by omega
      obtain ⟨bG, hbG⟩ : ∃ b, b = wr.heap.size := ⟨_, rfl⟩
      gi_upto_region 3 with fail
      have HG0 := hid (heapn wr (.cells #[.int .i64 s, .int .i64 s, .slice none 0 0, .int .i64 0] 107) bG hbG)
      have HB0 := hid (bnew wr (.cells #[.int .i64 s, .int .i64 s, .slice none 0 0, .int .i64 0] 107))
      obtain ⟨wa, hwa⟩ : ∃ wa : World, wa = wr := ⟨_, rfl⟩
      rw [← hwa] at hbG HB0 HG0 HU1 HJ1 HK
      rw [← hwa, ← hbG]
      have HBG := hid hbG
      clear hwa hbG k0 k1 k2 k3 k4 k5 k6
      have hge := grpEnd_ge FS s
      have hgl := grpEnd_lt (fs := FS) (i := s) (by rw [HFL.out]; exact hsl)
      rw [HFL.out] at hgl
      gi_loopg [] (grpEnd FS s - s) (fun gh wr => ∃ e : Nat, (s ≤ e ∧ e ≤ grpEnd FS s) ∧ gh = grpEnd FS s - e ∧ Hid (wr.heap[bG]? = some (.cells #[.int .i64 s, .int .i64 e, .slice none 0 0, .int .i64 0] 107) ∧ Below wa.heap.size wa wr))
      case atStart => exact ⟨s, ⟨Nat.le_refl _, hge⟩, rfl, hid ⟨HG0.out, HB0.out⟩⟩
      case round =>
        obtain ⟨e, ⟨he1, he2⟩, rfl, HE⟩ := hrel
        obtain ⟨b0, b1, b2, b3⟩ := box4 HE.out.1
        have fb := boxF 1 HE.out.1
        have HKE := hid (KeepM.of_below HFe.out HK.out.wf HE.out.2)
        have k5 := (cell_of_row _ _ 5 _ _ _ (HKE.out.box HU1.out).1).trans rfl
        have kf := (cell_of_row _ _ 0 _ _ _ ((HK.out.trans HKE.out).box HF.out).1).trans rfl
        have nle : e + 1 ≤ u.code.length := by omega
        have eqi : ((e : Int) + 1).toNat = e + 1 := by omega
        have HCX : Hid (∀ h : e + 1 < FS.length, wr.cell? ⟨gb, e + 1, none⟩ = some (.int .i64 (FS[e + 1]'h))) := hid (fun h => (cell_of_row _ _ (e + 1) _ _ _ ((HK.out.trans HKE.out).box HBC.out).1).trans (HBX.out (e + 1) h))
        by_cases hlt : e < grpEnd FS s
        · have hel : e + 1 < u.code.length := by omega
          have hel2 : e + 1 < FS.length := by rw [HFL.out]; exact hel
          have ne1 : (e : Int) + 1 < (u.code.length : Int) := by omega
          have hfe := (grpEnd_iff (fs := FS) (i := s) (e := e) he1 he2 hel2).2 hlt
          have kx := HCX.out hel2
          generalize FS[e + 1]'hel2 = fe at *
          gi_wp2
          gi_roundg (grpEnd FS s - (e + 1))
          case measure => omega
          case rel => exact ⟨e + 1, ⟨by omega, by omega⟩, rfl, hid ⟨heap_setCell_same _ _ 1 _ _ _ HE.out.1, HE.out.2.setCell (p := ⟨bG, 1, none⟩) (by show wa.heap.size ≤ bG; rw [HBG.out]; exact Nat.le_refl _) _⟩⟩
        · have hsplit : e + 1 = u.code.length ∨ ∃ fe : Int, e + 1 < u.code.length ∧ (fe == (s : Int)) = false ∧ wr.cell? ⟨gb, e + 1, none⟩ = some (.int .i64 fe) := by
            by_cases hel : e + 1 < u.code.length
            · right
              have hel2 : e + 1 < FS.length := by rw [HFL.out]; exact hel
              refine ⟨FS[e + 1], hel, ?_, HCX.out hel2⟩
              cases hfe : (FS[e + 1] == (s : Int)) with
              | false => rfl
              | true => exact absurd ((grpEnd_iff (fs := FS) (i := s) (e := e) he1 he2 hel2).1 hfe) hlt
            · left
              omega
          have HEE : Hid (e = grpEnd FS s) := hid (by omega)
          have hse : s ≤ e := he1
          have hen : e < u.code.length := by omega
          clear hlt he1 he2 nle hge hgl
          rcases hsplit with h1 | ⟨fe, h1, hfe, kx⟩
          case' inl =>
            have ne1 : ¬ (e : Int) + 1 < (u.code.length : Int) := by omega
            clear h1
            gi_upto_region 5 with fail
          case' inr =>
            have ne1 : (e : Int) + 1 < (u.code.length : Int) := by omega
            gi_upto_region 5 with fail
          all_goals
            clear ne1
            try clear kx hfe h1
            clear eqi HCX
            have nse : (s : Int) ≤ (e : Int) + 1 := by omega
            have nec : (e : Int) + 1 ≤ (cc : Int) := by omega
            have nss : s ≤ e + 1 := by omega
            have nsc : e + 1 ≤ cc := by omega
            have ncs : ¬ cc = s := by omega
            have eqi : ((e : Int) + 1).toNat = e + 1 := by omega
            obtain ⟨m, hm⟩ : ∃ m, m = e + 1 - s := ⟨_, rfl⟩
            have HMM := hid hm
            have hml : m ≤ 600 := by omega
            clear hm
            have HSUB := hid (fun w' (hm' : RdC w' (some ⟨bc, oc, none⟩) u.code) => hm'.sub s m)
            gi_wp2
            clear b0 b1 b2 b3 fb k5 kf eqi
            obtain ⟨wb, hwb⟩ : ∃ wb : World, wb = wr := ⟨_, rfl⟩
            rw [← hwb] at HE HKE
            rw [← hwb]
            clear hwb
            have eqm : e + 1 - s = m := HMM.out.symm
            rw [eqm]
            clear eqm
            gi_loopg [46] m (fun gh s46 wr => ∃ k : Nat, k ≤ m ∧ gh = m - k ∧ s46 = .int .i64 k ∧ Hid (∃ v, wr.heap[bG]? = some (.cells #[.int .i64 s, .int .i64 e, v, .int .i64 0] 107) ∧ OwnI wr (bG + 1) v ((((u.code.drop s).take (e + 1 - s)).take k).foldl (fun l x => addL l (readsL x)) [])) ∧ Hid (Below wa.heap.size wa wr))
            case atStart => exact ⟨0, Nat.zero_le _, rfl, rfl, hid ⟨_, HE.out.1, World.ownsRow_nil _ _ _ _⟩, hid HE.out.2⟩
            case round =>
              obtain ⟨k, hk, rfl, rfl, HV, HB2⟩ := hrel
              by_cases hkm : k < m
              · obtain ⟨v, hvg, hvo⟩ := HV.out
                have HVG := hid hvg
                have HVO := hid hvo
                have HKB := hid (KeepM.of_below HFe.out HK.out.wf HB2.out)
                have hrd := HSUB.out wr (HM.out.m.rc.keep (HK.out.trans HKB.out) HM.out.oc)
                have hsk : s + k < u.code.length := by have := HMM.out; omega
                obtain ⟨b9, o9, e9, hl9, c0, c1, c2, c3⟩ := hrd k (by rw [List.length_take, List.length_drop]; have := HMM.out; omega)
                cases e9
                simp only [List.getElem_take, List.getElem_drop] at c0 c1 c2 c3
                have nkm : (k : Int) < (m : Int) := by omega
                have HST := hid (grpReads_step u.code s e k (by have := HMM.out; omega) hen)
                rw [getD_in hsk] at HST
                have HRL : Hid (((((u.code.drop s).take (e + 1 - s)).take k).foldl (fun l x => addL l (readsL x)) []).length ≤ 2 * k) := hid (by have h1 := foldReads_len (((u.code.drop s).take (e + 1 - s)).take k) []; have h2 : (((u.code.drop s).take (e + 1 - s)).take k).length ≤ k := List.length_take_le _ _; simp only [List.length_nil] at h1; omega)
                have HRR := hid (fun w => reads_any u.code[s + k] w)
                have HR2 := hid (readsL_len u.code[s + k])
                generalize hRD : ((((u.code.drop s).take (e + 1 - s)).take k).foldl (fun l x => addL l (readsL x)) []) = RD at *
                clear hRD hvg hvo
                generalize u.code[s + k] = y at *
                refine wpIn_wide.2 ?_
                go_upto_block 5 with fail
                go_cut [7] from 47 to 56 (fun s7 wx => GrNow bG s e (addL RD (readsL y)) wa wx)
                case first =>
                  go_upto_region 8 with fail
                  obtain ⟨w7, hw7⟩ : ∃ w7, w7 = wr.alloc (.cells #[.int .i64 y.op, .int .i64 y.a, .int .i64 y.b, .int .i64 y.c] 85) := ⟨_, rfl⟩
                  obtain ⟨b7, hb7⟩ : ∃ b, b = wr.heap.size := ⟨_, rfl⟩
                  have HX7 : Hid (w7.heap[b7]? = some (.cells #[.int .i64 y.op, .int .i64 y.a, .int .i64 y.b, .int .i64 y.c] 85)) := hid (by rw [hw7]; exact heapn _ _ _ hb7)
                  have HXG : Hid (w7.heap[bG]? = some (.cells #[.int .i64 s, .int .i64 e, v, .int .i64 0] 107)) := hid (by rw [hw7]; exact keepBox (bnew _ _) HVG.out)
                  have HO7 : Hid (OwnI w7 (bG + 1) v RD) := hid (by rw [hw7]; exact HVO.out.later (bnew _ _))
                  have HB7 : Hid (Below wa.heap.size wa w7) := hid (by rw [hw7]; exact HB2.out.step (bnew _ _))
                  rw [← hw7, ← hb7]
                  clear hw7 hb7 c0 c1 c2 c3
                  obtain ⟨q0, q1, q2, q3⟩ := box4 HX7.out
                  obtain ⟨b0, b1, b2, b3⟩ := box4 HXG.out
                  have HX7d : Hid (w7.drew.heap[bG]? = some (.cells #[.int .i64 s, .int .i64 e, v, .int .i64 0] 107)) := HXG
                  have HO7d : Hid (OwnI w7.drew (bG + 1) v RD) := hid (HO7.out.later (bdrew _))
                  have HB7d : Hid (Below wa.heap.size wa w7.drew) := hid (HB7.out.step (bdrew _))
                  have HAD := hid (fun (pa : Option Addr) (pc : Nat) (w8 : World) (h8 : Below w7.drew.heap.size w7.drew w8) (hr : RdI w8 pa (readsL y)) (hp : ∀ b off, pa = some ⟨b, off, none⟩ → w7.drew.heap.size ≤ b) => add_any (bG + 1) v RD (readsL y) pa pc w8 (HO7d.out.later h8) hr (by have := HRL.out; have := HR2.out; omega) (fun b off e => own_new HO7d.out (hp b off e)) (by have h3 := lt_of_heap (keepBox h8 HX7d.out); omega))
                  go_region_with (first
                    | (go_at_call 70; (with_reducible refine (HRR.out _).mono ?_); rintro e w8 ⟨hb, v2, rfl, ho⟩; obtain ⟨pa, pc, rfl, hrp, hpn⟩ := ho.rdN; have bb2 := (cell_of_row _ _ 2 _ _ _ (keepBox hb HX7d.out)).trans rfl; have HAW := hid (HAD.out pa pc w8 hb hrp hpn); have HB8 := hid hb; clear hb ho hrp hpn)
                    | (go_at_call 74; (with_reducible refine HAW.out.mono ?_); rintro e w9 ⟨v3, rfl, ho3, hg3, _⟩; obtain ⟨a3, c3, rfl, hr3⟩ := ho3.rd; clear hr3; have HNX := hid (grNow_add (s := s) (e := e) HBG.out HX7d.out HO7d.out HB7d.out HB8.out ho3 hg3); have xg := grNow_box HX7d.out HO7d.out HB8.out hg3; have fg := boxF 2 xg; have cg := (cell_of_row _ _ 2 _ _ _ xg).trans rfl; clear xg; clear ho3 hg3))
                  all_goals (go_wp2_with fail; go_meet; exact HNX.out)
                case rest =>
                  obtain ⟨v4, hx4, ho4, hb4⟩ := hcut
                  have HN4 := hid (And.intro hx4 (And.intro ho4 hb4))
                  clear hx4 ho4 hb4
                  go_wp2
                  go_roundg (m - (k + 1))
                  case measure => omega
                  case rel => exact ⟨k + 1, by omega, rfl, by go_num, hid ⟨v4, HN4.out.1, by rw [HST.out]; exact HN4.out.2.1⟩, hid HN4.out.2.2⟩
              · obtain rfl : k = m := by omega
                have nkm : ¬ (k : Int) < (k : Int) := by omega
                obtain ⟨v, hvg, hvo⟩ := HV.out
                have HRDF : Hid ((((u.code.drop s).take (e + 1 - s)).take k).foldl (fun l x => addL l (readsL x)) [] = grpReads u.code s e) := hid (by unfold grpReads; rw [List.take_of_length_le (by rw [List.length_take]; have := HMM.out; omega)])
                rw [HRDF.out] at hvo
                obtain ⟨a4, c4, rfl, hr4, hl4, hn4⟩ := (show ∃ a c, v = .slice a (grpReads u.code s e).length c ∧ RdI wr a (grpReads u.code s e) ∧ (grpReads u.code s e).length ≤ c ∧ ∀ b off, a = some ⟨b, off, none⟩ → bG + 1 ≤ b ∧ b < wr.heap.size from by
                  obtain ⟨a, c, hv, hrd⟩ := hvo.rd
                  refine ⟨a, c, hv, hrd, ?_, fun b off ea => ?_⟩
                  · rcases hvo.2 with ⟨e1, e2⟩ | ⟨g, cap, cur, e1, _, _, h1, _⟩
                    · rw [e2]; exact Nat.zero_le _
                    · rw [hv] at e1; cases e1; exact h1
                  · rcases hvo.2 with ⟨e1, e2⟩ | ⟨g, cap, cur, e1, hg, hh, _⟩
                    · rw [hv, ea] at e1; cases e1
                    · rw [hv, ea] at e1
                      injection e1 with e3 _ _
                      injection e3 with e4
                      injection e4 with e5 _ _
                      subst e5
                      exact ⟨hg, lt_of_heap hh⟩)
                have HR4 := hid (And.intro hr4 (And.intro hl4 hn4))
                have HVG := hid hvg
                clear hvg hvo hr4 hl4 hn4
                obtain ⟨RD, hRD⟩ : ∃ RD, RD = grpReads u.code s e := ⟨_, rfl⟩
                have HRE := hid hRD
                rw [← hRD] at HR4 HVG
                clear hRD
                have HKB := hid (KeepM.of_below HFe.out HK.out.wf HB2.out)
                obtain ⟨b9, o9, e9, hl9, c0, c1, c2, c3⟩ := (HM.out.m.rc.keep (HK.out.trans HKB.out) HM.out.oc) e hen
                cases e9
                have k5 := (cell_of_row _ _ 5 _ _ _ (HKB.out.box HU1.out).1).trans rfl
                obtain ⟨b0, b1, b2, b3⟩ := box4 HVG.out
                have nen : (e : Int) < (u.code.length : Int) := by omega
                have HWW := hid (fun w => writes_any u.code[e] w)
                have HGA : Hid (grpAt u.code FS s = ⟨s, e, RD, writesI u.code[e]⟩) := hid (by unfold grpAt; rw [← HEE.out, getD_in hen, HRE.out])
                generalize u.code[e] = y at *
                generalize writesI y = wy at *
                have HBW := hid (Nat.le_refl bG)
                gi_upto_region 11 with (first
                  | ((try refine ⟨trivial, ?_⟩); gi_at_call 71; (with_reducible refine (callsIn_wide.2 (HWW.out _)).mono ?_); rintro e9 w6 ⟨rfl, hb⟩; have HB6 := hid (HB2.out.step hb); have HG6 := hid (keepBox hb HVG.out); have HR6 := hid (HR4.out.1.below hb); have HS6 := hid hb.size; have f3 := boxF 3 (keepBox hb HVG.out); have g3 := (cell_of_row _ _ 3 _ _ _ (keepBox hb HVG.out)).trans rfl; clear hb))
                clear f3 g3 k5 b0 b1 b2 b3 c0 c1 c2 c3 nkm
                obtain ⟨wq, hwq⟩ : ∃ wq, wq = w6.setCell ⟨bG, 3, none⟩ (.int .i64 wy) := ⟨_, rfl⟩
                have HGQ : Hid (wq.heap[bG]? = some (.cells #[.int .i64 s, .int .i64 e, .slice a4 RD.length c4, .int .i64 wy] 107)) := hid (by rw [hwq]; exact heap_setCell_same _ _ 3 _ _ _ HG6.out)
                have HBQ : Hid (Below wa.heap.size wa wq) := hid (by rw [hwq]; exact HB6.out.setCell (p := ⟨bG, 3, none⟩) (by show wa.heap.size ≤ bG; rw [HBG.out]; exact Nat.le_refl _) _)
                have HSQ : Hid (wq.heap.size = w6.heap.size) := hid (by rw [hwq]; simp)
                have HRQ : Hid (RdI wq a4 RD) := hid (by
                  rw [hwq]
                  intro i hi
                  obtain ⟨b, off, ha, hlt, hc⟩ := HR6.out i hi
                  have hb1 := (HR4.out.2.2 b off ha).1
                  exact ⟨b, off, ha, by simpa using hlt, (World.cell?_of_block (heap_setCell_other _ _ _ _ (by show b ≠ bG; omega))).trans hc⟩)
                rw [← hwq]
                clear hwq
                have HKQ := hid (KeepM.of_below HFe.out HK.out.wf HBQ.out)
                have HXF : Hid (GrFact Mi ⟨⟨s, e, RD, wy⟩, a4, c4⟩ wq) := hid ⟨HRQ.out, HR4.out.2.1, fun b off ea => by
                  obtain ⟨h1, h2⟩ := HR4.out.2.2 b off ea
                  have h3 := HS6.out
                  have h4 := HSQ.out
                  have h5 := HBG.out
                  exact ⟨by omega, HFe.out.new HK.out.wf HBQ.out (by omega) (by omega)⟩⟩
                have HPF : Hid ((pre ++ [(⟨⟨s, e, RD, wy⟩, a4, c4⟩ : GrX)]).map GrX.g ++ grpsFrom u.code FS (e + 1) = grpsFrom u.code FS 0) := hid (by
                  rw [← HP.out, grpsFrom_step hsl, HGA.out, ← HEE.out]
                  simp)
                have HJQ := hid (abides_below HJ.out HJ1.out HBQ.out)
                obtain ⟨fn, tmps, assign, body, hy, hR⟩ := HY.out pre ⟨⟨s, e, RD, wy⟩, a4, c4⟩ wq HJQ.out ⟨_, HPF.out⟩ HXF.out
                have HMG : Hid (Mi wq bG) := hid (HFe.out.new HK.out.wf HBQ.out (Nat.le_of_eq HBG.out.symm) (lt_of_heap HGQ.out))
                obtain ⟨q0, q1, q2, q3⟩ := box4 HGQ.out
                try dsimp only at hy
                gi_wp2
                refine hR.mono ?_
                rintro e9 W3 (⟨rfl, hJ3, hk3⟩ | ⟨ch, rfl, hp3⟩)
                · have HK3 := hid (HKQ.out.trans (hk3 HKQ.out.wf))
                  obtain ⟨z0, z1, z2, z3⟩ := box4 ((hk3 HKQ.out.wf).box ⟨HGQ.out, HMG.out⟩).1
                  have HJ3 := hid hJ3
                  clear hJ3 hk3 q0 q1 q2 q3
                  gi_wp2
                  go_roundw
                  case rel => exact ⟨e + 1, pre ++ [⟨⟨s, e, RD, wy⟩, a4, c4⟩], by omega, by go_num, HPF, HJ3, hid (HK.out.trans HK3.out)⟩
                  case measure => simp [intOf]; omega
                · gi_wp2
                  exact ⟨rfl, .inr ⟨ch, pre ++ [_], rfl, ⟨_, HPF.out⟩, hp3⟩⟩
    · have ns : ¬ (s : Int) < (u.code.length : Int) := by omega
      have HE : Hid (pre.map GrX.g = grpsFrom u.code FS 0) := hid (by have := HP.out; rw [show grpsFrom u.code FS s = [] from grpsGo_end hsl, List.append_nil] at this; exact this)
      gi_wp2
      go_end0
      exact .inl ⟨⟨_, rfl⟩, pre, HE.out, HJ1.out⟩
end Go.Proofs.YtgalekifgnecjaaGreat
