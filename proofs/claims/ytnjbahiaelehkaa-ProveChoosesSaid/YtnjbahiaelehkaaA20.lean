/- A map keyed by pointers to derivations: what a look-up gives, what an update leaves. -/
import Derived.Test.YtnjbahiaelehkaaA19
import Derived.LaidEql
import Derived.Maps.RangeRun
namespace Go.Proofs.Ytnjbahiaelehkaa
open Go.RowKit

def Obj164 (w : World) (d : Nat) : Prop := ∃ c, w.heap[d]? = some (.cells c 164 (0, 0))
def pent (p : Nat × Nat) : Value × Value := (.pointer (some ⟨p.1, 0, none⟩), .int .i64 p.2)
def PM (w : World) (r : Nat) (m : List (Nat × Nat)) : Prop := ∃ es clock, w.heap[r]? = some (.map es clock) ∧ es.toList.map (fun e => (e.key, e.val)) = m.map pent
def look (m : List (Nat × Nat)) (d : Nat) : Option Nat := (m.find? fun p => p.1 == d).map fun p => p.2

theorem run_equalIn_ptr (n : Nat) (w : World) (c d : Nat) (hc : Obj164 w c) (hd : Obj164 w d) : (Op.equalIn (n + 1) 100 (.pointer (some ⟨d, 0, none⟩)) (.pointer (some ⟨c, 0, none⟩))).run Try.prog w = .ok (c == d) w := by
  obtain ⟨x, hc⟩ := hc
  obtain ⟨y, hd⟩ := hd
  by_cases h : c = d
  · subst h
    simp [Op.equalIn, run_underlying Try.underlying100, Try.sizeOf164, run_sameAddr_same]
  · have e : (c == d) = false := by simpa using h
    rw [e]
    have hne : (⟨d, 0, none⟩ : Addr) ≠ ⟨c, 0, none⟩ := fun h' => by
      injection h' with h' _ _
      exact h h'.symm
    simp [Op.equalIn, run_underlying Try.underlying100, Try.sizeOf164, run_sameAddr_other w hne hd hc]
theorem run_equal_ptr (w : World) (c d : Nat) (hc : Obj164 w c) (hd : Obj164 w d) : (Op.equal 100 (.pointer (some ⟨d, 0, none⟩)) (.pointer (some ⟨c, 0, none⟩))).run Try.prog w = .ok (c == d) w := run_equalIn_ptr 9999 w c d hc hd

theorem run_findAsking (w : World) (d : Nat) (hd : Obj164 w d) : ∀ (es : List MapEntry) (m : List (Nat × Nat)) (i : Nat), es.map (fun e => (e.key, e.val)) = m.map pent → (∀ p, p ∈ m → Obj164 w p.1) →
    ∃ j, (Instr.findAsking 100 (.pointer (some ⟨d, 0, none⟩)) es i).run Try.prog w = .ok ((look m d).map fun k => (j, Value.int .i64 k)) w
  | [], m, i, h, _ => by
    cases m with
    | nil => exact ⟨0, rfl⟩
    | cons p m => simp at h
  | e :: es, m, i, h, ho => by
    cases m with
    | nil => simp at h
    | cons p m =>
      simp only [List.map_cons, List.cons.injEq] at h
      obtain ⟨h0, h1⟩ := h
      unfold pent at h0
      simp only [Prod.mk.injEq] at h0
      have he := run_equal_ptr w p.1 d (ho p (List.mem_cons_self ..)) hd
      unfold Instr.findAsking
      rw [h0.1]
      cases hpd : (p.1 == d) with
      | true =>
        rw [hpd] at he
        refine ⟨i, ?_⟩
        simp [he, look, hpd, h0.2]
      | false =>
        rw [hpd] at he
        obtain ⟨j, hj⟩ := run_findAsking w d hd es m (i + 1) h1 (fun q hq => ho q (List.mem_cons_of_mem _ hq))
        refine ⟨j, ?_⟩
        have e2 : look (p :: m) d = look m d := by simp [look, hpd]
        rw [e2]
        simp [he, hj]
theorem run_checkKey_ptr (b : Bool) (n : Nat) (w : World) (a : Option Addr) : (Instr.checkKey b (n + 1) 100 (.pointer a)).run Try.prog w = .ok () w := by
  simp [Instr.checkKey, run_underlying Try.underlying100]
theorem run_checkKey_ptr' (b : Bool) (w : World) (a : Option Addr) : (Instr.checkKey b 10000 100 (.pointer a)).run Try.prog w = .ok () w := run_checkKey_ptr b 9999 w a
theorem run_findKey (w : World) (d : Nat) (hd : Obj164 w d) (es : List MapEntry) (m : List (Nat × Nat)) (h : es.map (fun e => (e.key, e.val)) = m.map pent) (ho : ∀ p, p ∈ m → Obj164 w p.1) :
    ∃ j, (Instr.findKey 100 (.pointer (some ⟨d, 0, none⟩)) es).run Try.prog w = .ok ((look m d).map fun k => (j, Value.int .i64 k)) w := by
  cases es with
  | nil =>
    cases m with
    | nil => exact ⟨0, by simp [Instr.findKey, run_underlying Try.underlying100, Instr.findNow, look]⟩
    | cons p m => simp at h
  | cons e es =>
    obtain ⟨j, hj⟩ := run_findAsking w d hd (e :: es) m 0 h ho
    refine ⟨j, ?_⟩
    have hn : ∀ k, Instr.findNow (.pointer k) (.pointer (some ⟨d, 0, none⟩)) (e :: es) 0 = none := fun k => by simp [Instr.findNow, Instr.sameNow]
    simp [Instr.findKey, run_underlying Try.underlying100, hn, hj]

theorem run_lookup_pm (w : World) (r d : Nat) (m : List (Nat × Nat)) (hm : PM w r m) (hd : Obj164 w d) (ho : ∀ p, p ∈ m → Obj164 w p.1) (b : Bool) :
    (Instr.lookup 159 (.map (some r)) (.pointer (some ⟨d, 0, none⟩)) b).run Try.prog w = .ok (if b then .tuple #[.int .i64 (((look m d).getD 0 : Nat) : Int), .bool (look m d).isSome] else .int .i64 (((look m d).getD 0 : Nat) : Int)) w := by
  obtain ⟨es, clock, hh, he⟩ := hm
  obtain ⟨j, hj⟩ := run_findKey w d hd es.toList m he ho
  unfold Instr.lookup
  cases hl : look m d with
  | none =>
    rw [hl] at hj
    simp [run_underlying Try.underlying159, getObj, Sem.run, hh, run_checkKey_ptr', hj, Try.zeroValue3]
  | some k =>
    rw [hl] at hj
    simp [run_underlying Try.underlying159, getObj, Sem.run, hh, run_checkKey_ptr', hj]
theorem run_update_pm (w : World) (r d k : Nat) (m : List (Nat × Nat)) (hm : PM w r m) (hd : Obj164 w d) (ho : ∀ p, p ∈ m → Obj164 w p.1) (hn : look m d = none) :
    ∃ w', (Instr.mapUpdate 159 (.map (some r)) (.pointer (some ⟨d, 0, none⟩)) (.int .i64 k)).run Try.prog w = .ok () w' ∧ PM w' r (m ++ [(d, k)]) ∧ w.grownBy w' (some r) := by
  obtain ⟨es, clock, hh, he⟩ := hm
  obtain ⟨j, hj⟩ := run_findKey w d hd es.toList m he ho
  rw [hn] at hj
  refine ⟨Go.ChangeMaps.setBlock w r (.map (es.push { key := .pointer (some ⟨d, 0, none⟩), val := .int .i64 k, born := clock }) (clock + 1)), ?_, ?_, ?_⟩
  · unfold Instr.mapUpdate
    simp [run_underlying Try.underlying159, getObj, setObj, Sem.run, hh, run_checkKey_ptr', hj, Go.ChangeMaps.setBlock]
  · refine ⟨es.push { key := .pointer (some ⟨d, 0, none⟩), val := .int .i64 k, born := clock }, clock + 1, ?_, ?_⟩
    · have := lt_of_heap hh
      simp [Go.ChangeMaps.setBlock, this]
    · simp [he, pent]
  · refine ⟨rfl, rfl, rfl, by simp [Go.ChangeMaps.setBlock], fun k hk hne => ?_⟩
    have hkr : r ≠ k := fun h => hne (by rw [h])
    simp [Go.ChangeMaps.setBlock, hkr]
end Go.Proofs.Ytnjbahiaelehkaa
