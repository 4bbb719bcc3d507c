/- Model where no numbers fit; what it tells fits; the length of a proof. ProveEither: the walk. For every input the law ProveEither returns true, and each argument reads afterwards as it read before. No condition. -/
import Derived.Test.YtnjbahiaelehkaaD14
import Derived.Test.YtnjbahiaelehkaaD2
import Derived.Test.YtnjbahiaelehkaaE1
import Derived.Test.YtnjbahiaelehkaaD20
import Derived.Test.YtnjbahiaelehkaaA23
import Derived.OpenShut
import Derived.Test.YtnjbahiaelehkaaJ1
namespace Go.Proofs.Ytnjbahiaelehkaa
open Go.RowKit


set_option maxRecDepth 100000 in
set_option maxHeartbeats 4000000 in
theorem model_nil (N : Nat) (hN : N ≤ 12) (l : List AM) (a : Option Addr) (cap : Nat) (w : World) (hc : checkN N l = 0) (hp : possB l = false) (hl : Rd w a l) (hlen : l.length ≤ 40) :
    Calls Try.prog 37 #[.int .i64 N, .slice a l.length cap] w (Ret2 (.slice none 0 0) (.int .i64 5) w) := by
  have HL := hid hl; clear hl
  have HC := hid hc
  obtain ⟨_, _, hrs⟩ := checkN_in hc
  have HOK := hid (rights_ok hrs)
  have HP := hid hp
  clear hc hrs hp
  go_enter Try.func37, Try.ntmps37
  go_upto_region 4 with (go_at_call 31; (with_reducible refine (check_any _ l a cap _ HL.out (by omega)).mono ?_); rw [HC.out]; rintro e w1 ⟨rfl, hb⟩; have HB := hid hb; clear hb)
  go_wp2_with (go_at_call 57; (with_reducible refine (shut_any N hN _ l a cap 1000000 HOK.out hM6 hF6 (HL.out.below HB.out) (by omega)).mono ?_); rintro e w2 ⟨hb, C, M, no, tp, ty, D, T, rfl, cv, hm, hbd, hor⟩; obtain ⟨d, rfl⟩ := no_some HP.out hor; have hfd := field105 C (.pointer (some ⟨d, 0, none⟩)) cv.no; have HB := hid (HB.out.step hb); clear hb cv hm hbd hor)
  go_ret2
  exact ⟨rfl, HB.out⟩
theorem modelL_in (l : List AM) (N k : Nat) (h : k < N) : fn (modelL l N) k = modelX l k := by
  unfold fn modelL
  rw [List.getD_eq_getElem?_getD]
  simp [h]
theorem model_fit {N : Nat} (hN : N ≤ 12) {l : List AM} (hc : checkN N l = 0) (m : MdI l N N) : fitIs N l (modelL l N) = true := by
  obtain ⟨_, _, hrs⟩ := checkN_in hc
  have ok := rights_ok hrs
  have hs := m.fit ok
  have hall : (modelL l N).all inF = true := by
    rw [List.all_eq_true]
    intro y hy
    unfold modelL at hy
    obtain ⟨j, hj, rfl⟩ := List.mem_map.1 hy
    have := m.bd j (List.mem_range.1 hj)
    have := List.mem_range.1 hj
    simp [inF, inB]
    omega
  have hE : fitE N l (modelL l N) = 0 := by unfold fitE; rw [if_pos hc, if_pos ⟨by rw [modelL_len], hall⟩]
  have hfi : l.findIdx? (badB (modelL l N)) = none := find_none fun y hy => by
    have o := ok y hy
    have h1 := hs y hy
    unfold badB
    rw [decide_eq_false_iff_not]
    have o1 := o.a0
    have o2 := o.an
    have e1 := modelL_in l N y.A.toNat (by omega)
    unfold lhs at h1 ⊢
    rw [e1]
    by_cases hq : y.Q = 0
    · rw [hq] at h1 ⊢
      omega
    · obtain ⟨b0, b1, _⟩ := o.b1 hq
      rw [modelL_in l N y.B.toNat (by omega)]
      omega
  unfold fitIs
  rw [if_pos hE, hfi]
  rfl
theorem ref_len {N : Nat} {l : List AM} {p : List Stp} (h : refB N l p = true) : p.length ≤ 400 := by
  unfold refB sayS at h
  by_cases hl : 1 ≤ p.length ∧ p.length ≤ 400
  · exact hl.2
  · rw [if_neg hl] at h
    cases h


set_option maxRecDepth 100000 in
set_option maxHeartbeats 16000000 in
theorem either_any (n : Int) (l : List AM) (x : List Int) (p : List Stp) (a : Option Addr) (cap : Nat) (b : Option Addr) (cb : Nat) (c : Option Addr) (cc : Nat) (w : World) (hl : Rd w a l) (hlen : l.length ≤ 9223372036854775807) (hx : RdI w b x) (hxl : x.length ≤ 9223372036854775807) (hp : RdS w c p) (hpl : p.length ≤ 9223372036854775807) :
    Calls Try.prog 14 #[.int .i64 n, .slice a l.length cap, .slice b x.length cb, .slice c p.length cc] w (RetB (.bool true) w) := by
  have HL := hid hl; clear hl
  have HN := hid hx; clear hx
  have HS := hid hp; clear hp
  have HB := hid (Below.refl w.heap.size w)
  by_cases h1 : lawRight n l = true
  · have H1 := hid h1
    by_cases h2 : 20 < x.length
    · have dx : decide (20 < (x.length : Int)) = true := by simp; omega
      clear h1
      go_enter Try.func14, Try.ntmps14
      go_wp2_with (first
        | (go_at_call 22; (with_reducible refine (lawright_any n l a cap _ (HL.out.below HB.out) hlen).mono ?_); rw [H1.out]; rintro e w1 ⟨rfl, hb⟩; have HB := hid (HB.out.step hb); clear hb)
        | (go_at_call 17; refine (sanity_any _).mono ?_; rintro e w1 ⟨rfl, hb⟩; have HB := hid (HB.out.step hb); clear hb))
      go_ret
      exact ⟨rfl, HB.out⟩
    · have dx : decide (20 < (x.length : Int)) = false := by simp; omega
      by_cases h3 : 400 < p.length
      · have dp : decide (400 < (p.length : Int)) = true := by simp; omega
        clear h1
        go_enter Try.func14, Try.ntmps14
        go_wp2_with (first
          | (go_at_call 22; (with_reducible refine (lawright_any n l a cap _ (HL.out.below HB.out) hlen).mono ?_); rw [H1.out]; rintro e w1 ⟨rfl, hb⟩; have HB := hid (HB.out.step hb); clear hb)
          | (go_at_call 17; refine (sanity_any _).mono ?_; rintro e w1 ⟨rfl, hb⟩; have HB := hid (HB.out.step hb); clear hb))
        go_ret
        exact ⟨rfl, HB.out⟩
      · have dp : decide (400 < (p.length : Int)) = false := by simp; omega
        obtain ⟨hl40, hc⟩ := lawRight_one h1
        obtain ⟨⟨hn1, hn2⟩, _, hrs⟩ := checkN_in hc
        obtain ⟨N, rfl⟩ : ∃ N : Nat, n = (N : Int) := ⟨n.toNat, by omega⟩
        have hN : N ≤ 12 := by omega
        have hN1 : 1 ≤ N := by omega
        have HC := hid hc
        have hok := rights_ok hrs
        cases hp : possB l with
        | true =>
          have HPB := hid hp
          have HPV : Hid (possV N l = true) := hid (by unfold possV; rw [if_pos hc, hp])
          have HRV : Hid (refuV N l = false) := hid (by unfold refuV; rw [if_pos hc, hp]; rfl)
          have hrf : refN N l p = 11 := by
            unfold refN
            rw [if_pos hc, Int.toNat_natCast, if_neg]
            intro h
            have := refB_sound hok (Nat.le_refl N) h
            rw [hp] at this
            cases this
          have HRF := hid hrf
          clear h1 hc hrs hp hok hrf
          go_enter Try.func14, Try.ntmps14
          go_upto_region 3 with (go_at_call 22; (with_reducible refine (lawright_any N l a cap _ (HL.out.below HB.out) hlen).mono ?_); rw [H1.out]; rintro e w1 ⟨rfl, hb⟩; have HB := hid (HB.out.step hb); clear hb)
          go_upto_region 4 with (go_at_call 37; (with_reducible refine (model_yes N hN1 hN l a cap _ HC.out HPB.out (HL.out.below HB.out) hl40).mono ?_); rintro e w1 ⟨hb, v, rfl, hown, hmd⟩; have HB := hid (HB.out.step hb); have HOW := hid hown; have HMD := hid hmd; clear hown hmd; clear hb)
          obtain ⟨a8, c8, hv8, hr8⟩ := HOW.out.rd
          subst hv8
          have HM8 := hid hr8
          have HFI := hid (model_fit hN HC.out HMD.out)
          clear hr8 HOW
          go_upto_region 5 with (go_at_call 38; (with_reducible refine (refute_any _ l a cap _ (HL.out.below HB.out) (by omega)).mono ?_); rw [HRV.out, HC.out]; rintro e w1 ⟨hb, S, v, rfl, hown, hg1, hg2⟩; have HB := hid (HB.out.step hb); have HM8 := hid (HM8.out.below hb); clear hown hg1 hg2 hb)
          go_upto_region 6 with (go_at_call 24; (with_reducible refine (possible_any _ l a cap _ (HL.out.below HB.out) (by omega)).mono ?_); rw [HPV.out, HC.out]; rintro e w1 ⟨rfl, hb⟩; have HB := hid (HB.out.step hb); have HM8 := hid (HM8.out.below hb); clear hb)
          go_upto_region 8 with (go_at_call 40; (with_reducible refine (lawfits_any N l (modelL l N) a cap a8 c8 _ (HL.out.below HB.out) hlen HM8.out (by rw [modelL_len]; omega)).mono ?_); rw [HFI.out]; rintro e w1 ⟨rfl, hb⟩; have HB := hid (HB.out.step hb); clear hb)
          go_upto_region 9 with (go_at_call 52; (with_reducible refine (checkref_any N l p a c cap cc _ (HL.out.below HB.out) (HS.out.below HB.out) (by omega) (by omega)).mono ?_); rw [HRF.out]; rintro e w1 ⟨rfl, hb⟩; have HB := hid (HB.out.step hb); clear hb)
          cases hF : fitIs N l x
          all_goals
            have HF := hid hF
            clear hF
            go_wp2_with (first
              | (go_at_call 17; refine (sanity_any _).mono ?_; rintro e w1 ⟨rfl, hb⟩; have HB := hid (HB.out.step hb); clear hb)
              | (go_at_call 40; (with_reducible refine (lawfits_any N l x a cap b cb _ (HL.out.below HB.out) hlen (HN.out.below HB.out) hxl).mono ?_); rw [HF.out]; rintro e w1 ⟨rfl, hb⟩; have HB := hid (HB.out.step hb); clear hb))
            go_ret
            exact ⟨rfl, HB.out⟩
        | false =>
          have HPB := hid hp
          have HPV : Hid (possV N l = false) := hid (by unfold possV; rw [if_pos hc, hp])
          have HRV : Hid (refuV N l = true) := hid (by unfold refuV; rw [if_pos hc, hp]; rfl)
          have hF : fitIs N l x = false := by
            cases h : fitIs N l x with
            | false => rfl
            | true =>
              have := (fitIs_iff.1 h).2.2.2
              rw [possB_iff.2 ⟨_, this⟩] at hp
              cases hp
          have HF := hid hF
          have hT : refN N l p = 0 ∨ refN N l p = 11 := by
            unfold refN
            rw [if_pos hc]
            split
            · exact .inl rfl
            · exact .inr rfl
          obtain ⟨T, hTT⟩ : ∃ q, q = refN N l p := ⟨_, rfl⟩
          rw [← hTT] at hT
          have HT := hid hTT
          clear h1 hc hrs hp hok hF hTT
          go_enter Try.func14, Try.ntmps14
          go_upto_region 3 with (go_at_call 22; (with_reducible refine (lawright_any N l a cap _ (HL.out.below HB.out) hlen).mono ?_); rw [H1.out]; rintro e w1 ⟨rfl, hb⟩; have HB := hid (HB.out.step hb); clear hb)
          go_upto_region 4 with (go_at_call 37; (with_reducible refine (model_nil N hN l a cap _ HC.out HPB.out (HL.out.below HB.out) hl40).mono ?_); rintro e w1 ⟨rfl, hb⟩; have HB := hid (HB.out.step hb); clear hb)
          go_upto_region 5 with (go_at_call 38; (with_reducible refine (refute_any _ l a cap _ (HL.out.below HB.out) (by omega)).mono ?_); rw [HRV.out, HC.out]; rintro e w1 ⟨hb, S, v, rfl, hown, hg1, hg2⟩; have HB := hid (HB.out.step hb); have HOW := hid hown; have HG := hid (And.intro hg1 hg2); clear hown hg1 hg2 hb)
          have hg := HG.out.1 (by first | rfl | trivial) N
          have hrf : refN N l S = 0 := by unfold refN; rw [if_pos HC.out, Int.toNat_natCast, if_pos hg]
          have hsl := ref_len hg
          have HRF := hid hrf
          obtain ⟨a10, c10, hv10, hr10⟩ := HOW.out.rd
          subst hv10
          have HZ := hid hr10
          clear hr10 HOW hg hrf
          go_upto_region 6 with (go_at_call 24; (with_reducible refine (possible_any _ l a cap _ (HL.out.below HB.out) (by omega)).mono ?_); rw [HPV.out, HC.out]; rintro e w1 ⟨rfl, hb⟩; have HB := hid (HB.out.step hb); have HZ := hid (HZ.out.below hb); clear hb)
          go_upto_region 8 with (go_at_call 52; (with_reducible refine (checkref_any N l S a a10 cap c10 _ (HL.out.below HB.out) HZ.out (by omega) (by omega)).mono ?_); rw [HRF.out]; rintro e w1 ⟨rfl, hb⟩; have HB := hid (HB.out.step hb); clear hb)
          rcases hT with rfl | rfl
          all_goals
            go_wp2_with (first
              | (go_at_call 52; (with_reducible refine (checkref_any N l p a c cap cc _ (HL.out.below HB.out) (HS.out.below HB.out) (by omega) (by omega)).mono ?_); rw [← HT.out]; rintro e w1 ⟨rfl, hb⟩; have HB := hid (HB.out.step hb); clear hb)
              | (go_at_call 17; refine (sanity_any _).mono ?_; rintro e w1 ⟨rfl, hb⟩; have HB := hid (HB.out.step hb); clear hb)
              | (go_at_call 40; (with_reducible refine (lawfits_any N l x a cap b cb _ (HL.out.below HB.out) hlen (HN.out.below HB.out) hxl).mono ?_); rw [HF.out]; rintro e w1 ⟨rfl, hb⟩; have HB := hid (HB.out.step hb); clear hb))
            go_ret
            exact ⟨rfl, HB.out⟩
  · have h1' : lawRight n l = false := by simpa using h1
    have H1 := hid h1'
    clear h1 h1'
    go_enter Try.func14, Try.ntmps14
    go_wp2_with (first
      | (go_at_call 22; (with_reducible refine (lawright_any n l a cap _ (HL.out.below HB.out) hlen).mono ?_); rw [H1.out]; rintro e w1 ⟨rfl, hb⟩; have HB := hid (HB.out.step hb); clear hb)
      | (go_at_call 17; refine (sanity_any _).mono ?_; rintro e w1 ⟨rfl, hb⟩; have HB := hid (HB.out.step hb); clear hb))
    go_ret
    exact ⟨rfl, HB.out⟩

open Go.ChangeShapes Go.WideShapes Go.ChangeAt Go.RowKit

set_option maxRecDepth 100000 in
set_option maxHeartbeats 1000000 in
theorem either_lifted (os : Os) (started : os.Started) (H : Type) (enc : TypeId × Value → H) :
    ReturnsInHanded {} Try.checked os 14 .any (Rows.proveEitherSpec.pre6 enc Try.prog Try.f14 Rows.proveEitherRow.domain false) (Rows.proveEitherSpec.post enc Try.prog Try.f14 false true false false) := by
  refine returnsInHanded_of_change (C := Try.checked) Try.own started (by kernel_rfl) Try.func14
    (ChangeSpec.witness6 (enc := enc) (C := Try.checked) false ⟨#[], #[.int .i64 0, .slice none 0 0, .slice none 0 0, .slice none 0 0], []⟩ 8 (by kernel_rfl) (by kernel_rfl) (by kernel_rfl) (by kernel_rfl)) ?_
  intro W base args ds gs before hval0 hW hcnd _
  have hval : ∀ (j : Nat) t v, Try.f14.params[j]? = some t → args[j]? = some v → Value.okWide Try.prog W .any base t v := hval0
  have hW' := hW
  obtain ⟨p, q, hA0, hV, rfl, _, _⟩ := hW
  have hA : DataW.TrodAll enc Try.prog W 0 (fun _ => true) true Try.f14.params.toList args.toList ds p := hA0
  rw [Try.params14] at hA hval
  obtain ⟨args⟩ := args
  obtain ⟨v0, vs0, d0, ds0, p0, q0, rfl, rfl, rfl, h0, r0⟩ := trodAll_cons hA
  obtain ⟨v1, vs1, d1, ds1, p1, q1, rfl, rfl, rfl, h1, r1⟩ := trodAll_cons r0
  obtain ⟨v2, vs2, d2, ds2, p2, q2, rfl, rfl, rfl, h2, r2⟩ := trodAll_cons r1
  obtain ⟨v3, vs3, d3, ds3, p3, q3, rfl, rfl, rfl, h3, r3⟩ := trodAll_cons r2
  obtain ⟨rfl, rfl, rfl⟩ := trodAll_nil r3
  obtain ⟨rfl, rfl⟩ := trodVars_none hV
  obtain ⟨n, rfl, rfl, rfl, w0⟩ := open_int Try.underlying3 (hval 0 3 v0 rfl rfl) h0
  obtain ⟨l, sl1, c1, rfl, hr1, hl1⟩ := open_lines (hval 1 22 v1 rfl rfl) h1
  obtain ⟨x, sl2, c2, rfl, hr2, hl2⟩ := open_nums (hval 2 46 v2 rfl rfl) h2
  obtain ⟨p, sl3, c3, rfl, hr3, hl3⟩ := open_steps (hval 3 63 v3 rfl rfl) h3
  have hlt : ∀ x ∈ [] ++ (p1 ++ (p2 ++ (p3 ++ []))), x.block < W.heap.size := fun x hx => hW'.lt x (by simpa using hx)
  refine (either_any n l x p sl1 c1 sl2 c2 sl3 c3 W hr1 hl1 hr2 hl2 hr3 hl3).mono fun e W' ⟨he, hb⟩ => ?_
  subst he
  refine ⟨_, rfl, _, _, _, [], [] ++ (p1 ++ (p2 ++ (p3 ++ []))), [], hW', trodAll_mk1 (shut_bool Try.underlying4 true), ?_, rfl, hb.frame _, fun h => by cases h⟩
  exact (trodAll_cons_mk (stays read3 row3 h0 hb (fun x hx => by cases hx)) (trodAll_cons_mk (stays read22 row22 h1 hb (fun x hx => hlt x (by simp [hx]))) (trodAll_cons_mk (stays read46 row46 h2 hb (fun x hx => hlt x (by simp [hx]))) (trodAll_cons_mk (stays read63 row63 h3 hb (fun x hx => hlt x (by simp [hx]))) trodAll_mk0))))

theorem either_holds : Rows.ProveEitherSaid :=
  OpenClaim.holds_of_wide 14 Try.f14 rfl rfl rfl rfl rfl rfl rfl ⟨rfl, rfl, rfl, rfl, rfl⟩ rfl rfl rfl rfl rfl (by kernel_rfl) Try.func14 (by kernel_rfl)
    (of_decide_eq_true (by kernel_rfl)) (by unfold Func.isWrapper; first | (rw [if_pos (by decide +kernel)]; kernel_rfl) | (rw [if_neg (by decide +kernel)]; exact ⟨rfl, rfl⟩))
    (fun os started H enc _ => either_lifted os started H enc)
#print axioms either_holds
end Go.Proofs.Ytnjbahiaelehkaa
