/- The statement of TableChanged: for rows that are laid over each other (at most 70 starts, 60 columns and 600 cells), a further row and three places, the program's TableChanged returns true. -/
import Derived.OpenShut
import Derived.Test.YtliajnflmddnoaaJ1
import Derived.Test.YtliajnflmddnoaaH9
namespace Go.Proofs.Ytliajnflmddnoaa
open Go.ChangeShapes Go.WideShapes Go.ChangeAt Go.RowKit

set_option maxRecDepth 100000 in
set_option maxHeartbeats 1000000 in
theorem tableChanged_lifted (os : Os) (started : os.Started) (H : Type) (enc : TypeId × Value → H) :
    ReturnsInHanded {} Try.checked os 7 .any (Rows.tableChangedSpec.pre6 enc Try.prog Try.f7 Rows.tableChangedRow.domain false) (Rows.tableChangedSpec.post enc Try.prog Try.f7 false true false false) := by
  refine returnsInHanded_of_change (C := Try.checked) Try.own started (by kernel_rfl) Try.func7
    (ChangeSpec.witness6 (enc := enc) (C := Try.checked) false ⟨#[], #[.agg #[.int .i64 0, .slice none 0 0, .slice none 0 0], .slice none 0 0, .int .u8 0, .int .u8 0, .int .u8 0], []⟩ 8 (by kernel_rfl) (by kernel_rfl) (by kernel_rfl) (by kernel_rfl)) ?_
  intro W base args ds gs before hval0 hW hcnd _
  have hval : ∀ (j : Nat) t v, Try.f7.params[j]? = some t → args[j]? = some v → Value.okWide Try.prog W .any base t v := hval0
  have hW' := hW
  obtain ⟨p, q, hA0, hV, rfl, _, _⟩ := hW
  have hA : DataW.TrodAll enc Try.prog W 0 (fun _ => true) true Try.f7.params.toList args.toList ds p := hA0
  rw [Try.params7] at hA hval
  obtain ⟨args⟩ := args
  obtain ⟨v0, vs0, d0, ds0, p0, q0, rfl, rfl, rfl, h0, r0⟩ := trodAll_cons hA
  obtain ⟨v1, vs1, d1, ds1, p1, q1, rfl, rfl, rfl, h1, r1⟩ := trodAll_cons r0
  obtain ⟨v2, vs2, d2, ds2, p2, q2, rfl, rfl, rfl, h2, r2⟩ := trodAll_cons r1
  obtain ⟨v3, vs3, d3, ds3, p3, q3, rfl, rfl, rfl, h3, r3⟩ := trodAll_cons r2
  obtain ⟨v4, vs4, d4, ds4, p4, q4, rfl, rfl, rfl, h4, r4⟩ := trodAll_cons r3
  obtain ⟨rfl, rfl, rfl⟩ := trodAll_nil r4
  obtain ⟨rfl, rfl⟩ := trodVars_none hV
  obtain ⟨l, sa0, sc0, ca0, cc0, rfl, hr0, hl0, hm0⟩ := open_laid (hval 0 44 v0 rfl rfl) h0
  obtain ⟨row, sl1, c1, rfl, hr1, hl1, hm1⟩ := open_nums (hval 1 23 v1 rfl rfl) h1
  obtain ⟨at', rfl, rfl, rfl, w2⟩ := open_int Try.underlying5 (hval 2 5 v2 rfl rfl) h2
  obtain ⟨i', rfl, rfl, rfl, w3⟩ := open_int Try.underlying5 (hval 3 5 v3 rfl rfl) h3
  obtain ⟨k', rfl, rfl, rfl, w4⟩ := open_int Try.underlying5 (hval 4 5 v4 rfl rfl) h4
  have hlt : ∀ x ∈ p0 ++ (p1 ++ ([] ++ ([] ++ ([] ++ [])))), x.block < W.heap.size := fun x hx => hW'.lt x (by simpa using hx)
  refine (changed_any l sa0 sc0 ca0 cc0 row sl1 c1 at' i' k' W hr0 hl0 hm0 hr1 hl1 (bounds_u8 w2) (bounds_u8 w3) (bounds_u8 w4)).mono fun e W' ⟨he, hb⟩ => ?_
  subst he
  refine ⟨_, rfl, _, _, _, [], p0 ++ (p1 ++ ([] ++ ([] ++ ([] ++ [])))), [], hW', trodAll_mk1 (shut_bool Try.underlying4 true), ?_, rfl, hb.frame _, fun h => by cases h⟩
  exact (trodAll_cons_mk (stays read44 row44 h0 hb (fun x hx => hlt x (by simp [hx]))) (trodAll_cons_mk (stays read23 row23 h1 hb (fun x hx => hlt x (by simp [hx]))) (trodAll_cons_mk (stays read5 row5 h2 hb (fun x hx => by cases hx)) (trodAll_cons_mk (stays read5 row5 h3 hb (fun x hx => by cases hx)) (trodAll_cons_mk (stays read5 row5 h4 hb (fun x hx => by cases hx)) trodAll_mk0)))))

theorem tableChanged_holds : Rows.TableChangedSaid :=
  OpenClaim.holds_of_wide 7 Try.f7 rfl rfl rfl rfl rfl rfl rfl ⟨rfl, rfl, rfl, rfl, rfl⟩ rfl rfl rfl rfl rfl (by kernel_rfl) Try.func7 (by kernel_rfl)
    (of_decide_eq_true (by kernel_rfl)) (by unfold Func.isWrapper; first | (rw [if_pos (by decide +kernel)]; kernel_rfl) | (rw [if_neg (by decide +kernel)]; exact ⟨rfl, rfl⟩))
    (fun os started H enc _ => tableChanged_lifted os started H enc)
#print axioms tableChanged_holds
end Go.Proofs.Ytliajnflmddnoaa
