/- RegsApart: for every input the law returns true, and each argument reads afterwards as it read before. No condition. -/
import Derived.OpenShut
import Derived.Test.YtgalekifgnecjaaGreatJ1
import Derived.Test.YtgalekifgnecjaaGreatL7
namespace Go.Proofs.YtgalekifgnecjaaGreat
open Go.ChangeShapes Go.WideShapes Go.ChangeAt Go.RowKit

set_option maxRecDepth 100000 in
set_option maxHeartbeats 1000000 in
theorem regsApart_lifted (os : Os) (started : os.Started) (H : Type) (enc : TypeId × Value → H) :
    ReturnsInHanded {} Tryz.checked os 5 .any (Rows.regsApartSpec.pre6 enc Tryz.prog Tryz.f5 Rows.regsApartRow.domain false) (Rows.regsApartSpec.post enc Tryz.prog Tryz.f5 false true false false) := by
  refine returnsInHanded_of_change (C := Tryz.checked) Tryz.own started (by kernel_rfl) Tryz.func5
    (ChangeSpec.witness6 (enc := enc) (C := Tryz.checked) false ⟨#[], #[.agg #[.string ⟨#[]⟩, .string ⟨#[]⟩, .int .i64 0, .int .i64 0, .int .i64 0, .slice none 0 0, .slice none 0 0], .agg #[.string ⟨#[]⟩, .string ⟨#[]⟩, .int .i64 0, .int .i64 0, .int .i64 0, .slice none 0 0, .slice none 0 0], .agg #[.slice none 0 0, .slice none 0 0]], []⟩ 8 (by kernel_rfl) (by kernel_rfl) (by kernel_rfl) (by kernel_rfl)) ?_
  intro W base args ds gs before hval0 hW hcnd _
  have hval : ∀ (j : Nat) t v, Tryz.f5.params[j]? = some t → args[j]? = some v → Value.okWide Tryz.prog W .any base t v := hval0
  have hW' := hW
  obtain ⟨p, q, hA0, hV, rfl, _, _⟩ := hW
  have hA : DataW.TrodAll enc Tryz.prog W 0 (fun _ => true) true Tryz.f5.params.toList args.toList ds p := hA0
  rw [Tryz.params5] at hA hval
  obtain ⟨args⟩ := args
  obtain ⟨v0, vs0, d0, ds0, p0, q0, rfl, rfl, rfl, h0, r0⟩ := trodAll_cons hA
  obtain ⟨v1, vs1, d1, ds1, p1, q1, rfl, rfl, rfl, h1, r1⟩ := trodAll_cons r0
  obtain ⟨v2, vs2, d2, ds2, p2, q2, rfl, rfl, rfl, h2, r2⟩ := trodAll_cons r1
  obtain ⟨rfl, rfl, rfl⟩ := trodAll_nil r2
  obtain ⟨rfl, rfl⟩ := trodVars_none hV
  obtain ⟨u, ca, cc, ga, gc, rfl, mu, _⟩ := open_unit (hval 0 25 v0 rfl rfl) h0
  obtain ⟨v, da, dc, ea, ec, rfl, mv, hvb⟩ := open_unit (hval 1 25 v1 rfl rfl) h1
  obtain ⟨h, t, ha, hc, ta, tc, rfl, mh, mt, hwf⟩ := open_homes (hval 2 30 v2 rfl rfl) h2
  have hlt : ∀ x ∈ p0 ++ (p1 ++ (p2 ++ [])), x.block < W.heap.size := fun x hx => hW'.lt x (by simpa using hx)
  refine (apart_any u v h t ca cc ga gc da dc ea ec ha hc ta tc W mu mv mh mt hvb hwf).mono fun e W' ⟨he, hb⟩ => ?_
  subst he
  refine ⟨_, rfl, _, _, _, [], p0 ++ (p1 ++ (p2 ++ [])), [], hW', trodAll_mk1 (shut_bool Tryz.underlying4 true), ?_, rfl, hb.frame _, fun h => by cases h⟩
  exact (trodAll_cons_mk (stays read25 row25 h0 hb (fun x hx => hlt x (by simp [hx]))) (trodAll_cons_mk (stays read25 row25 h1 hb (fun x hx => hlt x (by simp [hx]))) (trodAll_cons_mk (stays read30 row30 h2 hb (fun x hx => hlt x (by simp [hx]))) trodAll_mk0)))

theorem regsApart_holds : Rows.RegsApartSaid :=
  OpenClaim.holds_of_wide 5 Tryz.f5 rfl rfl rfl rfl rfl rfl rfl ⟨rfl, rfl, rfl, rfl, rfl⟩ rfl rfl rfl rfl rfl (by kernel_rfl) Tryz.func5 (by kernel_rfl)
    (of_decide_eq_true (by kernel_rfl)) (by unfold Func.isWrapper; first | (rw [if_pos (by decide +kernel)]; kernel_rfl) | (rw [if_neg (by decide +kernel)]; exact ⟨rfl, rfl⟩))
    (fun os started H enc _ => regsApart_lifted os started H enc)
#print axioms regsApart_holds
end Go.Proofs.YtgalekifgnecjaaGreat
