/- Contracts of full and of order's comparison of package table. -/
import Derived.Test.YtliajnflmddnoaaG5
namespace Go.Proofs.Ytliajnflmddnoaa
open Go.RowKit

/-- What a call returns: numbers of its own. -/
def OwnRet (l : List Int) (w : World) (e : Ending) (w' : World) : Prop := Below w.heap.size w w' ∧ ∃ v, e = .returned v ∧ OwnI w' w.heap.size v l

set_option maxRecDepth 100000 in
set_option maxHeartbeats 1000000 in
theorem full_any (r : List Int) (a : Option Addr) (cap : Nat) (w : World) (hl : RdI w a r) (hok : ∀ e, e ∈ r → rightB e = true) (hlen : r.length ≤ 1000) :
    Calls Try.prog 51 #[.slice a r.length cap] w (OwnRet (asI (fullL r)) w) := by
  have HL := hid hl; clear hl
  have HOK := hid hok; clear hok
  go_enter Try.func51, Try.ntmps51
  go_wp2
  go_loopg [3, 8] r.length (fun gh s3 s8 wr => ∃ k : Nat, k ≤ r.length ∧ gh = r.length - k ∧ s8 = .int .i64 k ∧ Hid (OwnI wr w.heap.size s3 (asI (fullU r k)) ∧ Below w.heap.size w wr))
  case atStart => exact ⟨0, Nat.zero_le _, rfl, rfl, hid ⟨World.ownsRow_nil _ _ _ _, Below.refl _ _⟩⟩
  case round =>
    obtain ⟨k, hk, rfl, rfl, HB⟩ := hrel
    by_cases hlt : k < r.length
    · have hlt' : (k : Int) < (r.length : Int) := by omega
      obtain ⟨b2, off, ha, hlt2, h1⟩ := (HL.out.below HB.out.2).at hlt
      subst ha
      have hs := fullU_succ r k
      have hfl := fullU_length r k
      have ht := right_at HOK.out hlt
      generalize r.getD k (-1) = x at *
      have HS := hid hs
      have HT := hid ht
      clear hs ht
      have HOWN := hid HB.out.1
      cases hn : nz x with
      | true =>
        have HN := hid hn
        clear hn
        have hsz := HB.out.2.size
        go_wp2_with (first | (go_at_call 72; refine (k72 x _).mono ?_; rw [HT.out, HN.out]; rintro e w' ⟨rfl, rfl⟩) | (at_builtin; refine wpList_append_ints _ rfl _ _ rfl w.heap.size _ _ [(k : Int)] rfl (OwnI.later HOWN.out (bnew _ _)) (some ⟨wr.heap.size, 0, none⟩) 1 rfl (rd_one _ _ _) (by rw [asI_length]; simp; omega) (by simp; omega) ?_; intro v' w3 hown' hgrow hnil))
        go_roundg (r.length - (k + 1))
        case rel =>
          refine ⟨k + 1, by omega, rfl, by go_num, hid ⟨?_, ((HB.out.2).alloc hsz _).grown hgrow (by simp; omega) (own_ge HOWN.out)⟩⟩
          rw [HS.out, if_pos HN.out]
          unfold asI
          rw [List.map_append]
          exact hown'
        case measure => omega
      | false =>
        have HN := hid hn
        clear hn
        go_wp2_with ((go_at_call 72; refine (k72 x _).mono ?_; rw [HT.out, HN.out]; rintro e w' ⟨rfl, rfl⟩))
        go_roundg (r.length - (k + 1))
        case rel =>
          refine ⟨k + 1, by omega, rfl, by go_num, hid ⟨?_, HB.out.2⟩⟩
          rw [HS.out, if_neg (by rw [HN.out]; simp)]
          exact HB.out.1
        case measure => omega
    · have hkr : k = r.length := by omega
      subst hkr
      go_wp2
      go_ret
      exact ⟨HB.out.2, _, rfl, HB.out.1⟩

theorem RdM.row {w : World} {a : Option Addr} {m : List (List Int)} (h : RdM w a m) {i : Nat} (hi : i < m.length) : ∃ b off, a = some ⟨b, off, none⟩ ∧ b < w.heap.size ∧ ∃ ai ci, w.cell? ⟨b, off + i, none⟩ = some (.slice ai (m.getD i []).length ci) ∧ RdI w ai (m.getD i []) := by
  obtain ⟨b, off, ha, hlt, h1⟩ := h i hi
  exact ⟨b, off, ha, hlt, by rw [getD_in hi]; exact h1⟩
theorem RightM.row {m : List (List Int)} (h : RightM m) {i : Nat} (hi : i < m.length) : (m.getD i []).length = colsN m ∧ ∀ e, e ∈ m.getD i [] → rightB e = true := by
  rw [getD_in hi]
  exact ⟨h.len i hi, h.ent i hi⟩

set_option maxRecDepth 100000 in
set_option maxHeartbeats 1000000 in
theorem cmp_any (m : List (List Int)) (a : Option Addr) (cap x y g : Nat) (w : World) (hm : RightM m) (hl : RdM w a m) (hg : w.cell? ⟨g, 0, none⟩ = some (.slice a m.length cap)) (hx : x < m.length) (hy : y < m.length) :
    Calls Try.prog 80 #[.int .i64 x, .int .i64 y, .pointer (some ⟨g, 0, none⟩)] w (RetB (.int .i64 ((manyN (m.getD y []) : Int) - manyN (m.getD x []))) w) := by
  obtain ⟨bx, ox, rfl, hbx, ax, cx, hcx, hrx⟩ := hl.row hx
  obtain ⟨b2, oy, e, hby, ay, cy, hcy, hry⟩ := hl.row hy
  cases e
  have hxl := hm.row hx
  have hyl := hm.row hy
  have hc := hm.cols
  have KX := hid (fun w' (hw : RdI w' ax (m.getD x [])) => full_any (m.getD x []) ax cx w' hw hxl.2 (by omega))
  have KY := hid (fun w' (hw : RdI w' ay (m.getD y [])) => full_any (m.getD y []) ay cy w' hw hyl.2 (by omega))
  have bx1 := manyN_le (m.getD x [])
  have by1 := manyN_le (m.getD y [])
  have n1 : (x : Int) < (m.length : Int) := by omega
  have n2 : (y : Int) < (m.length : Int) := by omega
  rw [hxl.1] at bx1
  rw [hyl.1] at by1
  have HRX := hid hrx
  have HRY := hid hry
  clear hrx hry hl hxl hyl hm
  have MX : Hid (∀ q, (asI (fullL (m.getD q []))).length = manyN (m.getD q [])) := hid fun q => by rw [asI_length]; rfl
  have MXX := MX.out x
  have MXY := MX.out y
  generalize m.getD x [] = rx at *
  generalize m.getD y [] = ry at *
  have hw : IntKind.i64.wrap ((manyN ry : Int) - manyN rx) = (manyN ry : Int) - manyN rx := wrapk (by omega)
  go_enter Try.func80, Try.ntmps80
  go_wp2
  have hb := bdrew w
  go_region_held3 (fun w' => w'.cell? ⟨g, 0, none⟩ = some (.slice (some ⟨bx, ox, none⟩) m.length cap) ∧ w'.cell? ⟨bx, ox + x, none⟩ = some (.slice ax rx.length cx) ∧ w'.cell? ⟨bx, ox + y, none⟩ = some (.slice ay ry.length cy)) (first | exact ⟨hg, hcx, hcy⟩ | exact ⟨cell_later hb hg, cell_later hb hcx, cell_later hb hcy⟩)
    ((first
      | (go_at_call 51; (with_reducible refine (KX.out _ (HRX.out.below hb)).mono ?_); rintro e w9 ⟨hbb, v, rfl, hv⟩; obtain ⟨av, cv, rfl, _⟩ := hv.rd; have hb := hb.step hbb; clear hbb hv)
      | (go_at_call 51; (with_reducible refine (KY.out _ (HRY.out.below hb)).mono ?_); rintro e w9 ⟨hbb, v, rfl, hv⟩; obtain ⟨av, cv, rfl, _⟩ := hv.rd; have hb := hb.step hbb; clear hbb hv)))
  all_goals
    go_wp2
    go_ret
    exact ⟨rfl, hb⟩
end Go.Proofs.Ytliajnflmddnoaa
