/- replaced of package regs, at any instruction. -/
import Derived.Test.YtgalekifgnecjaaGreatT15
namespace Go.Proofs.YtgalekifgnecjaaGreat
open Go.RowKit Go.Shelf
theorem read_a {x : InsN} (h : (formL x.op).r0 = 1) (h0 : 0 ≤ x.a) : x.a ∈ readsL x := by
  unfold readsL readPart
  rw [h]
  exact List.mem_append_left _ (by rw [if_pos ⟨by omega, by show x.a ≠ -1; omega⟩]; exact List.mem_singleton.2 rfl)
theorem read_b {x : InsN} (h : (formL x.op).r0 = 2) (h0 : 0 ≤ x.b) : x.b ∈ readsL x := by
  unfold readsL readPart
  rw [h]
  exact List.mem_append_left _ (by rw [if_pos ⟨by omega, by show x.b ≠ -1; omega⟩]; exact List.mem_singleton.2 rfl)
theorem read_c {x : InsN} (h : (formL x.op).r1 = 3) (h0 : 0 ≤ x.c) : x.c ∈ readsL x := by
  unfold readsL readPart
  rw [h]
  exact List.mem_append_right _ (by rw [if_pos ⟨by omega, by show x.c ≠ -1; omega⟩]; exact List.mem_singleton.2 rfl)
theorem writes_a {x : InsN} (h : 0 ≤ writesI x) : writesI x = x.a := by
  unfold writesI at *
  rcases (formL_shape x.op).2.2 with e | e
  · rw [if_pos e] at h; omega
  · rw [if_neg (by omega), e]; rfl
theorem replaced_any (x : InsN) (F1 F2 : Nat) (e1 : Enters F1) (e2 : Enters F2) (lb1 lb2 : Array Value) (rd wr : Int → Option Int) (D1 D2 : Int → Prop) (w : World) (hr : ToC F1 lb1 rd D1 w) (hw : ToC F2 lb2 wr D2 w) (hD1 : ∀ s ∈ readsL x, D1 s) (hD2 : 0 ≤ writesI x → D2 (writesI x)) :
    Calls Tryz.prog 113 #[vI x, .func (.func F1) #[] lb1, .func (.func F2) #[] lb2] w (ReplP (replO x rd wr) w) := by
  have h2 : 0 ≤ writesI x → 0 ≤ x.a → D2 x.a := fun h _ => by rw [← writes_a h]; exact hD2 h
  obtain ⟨op, A, B, C⟩ := x
  by_cases h22 : op = 22
  · subst h22
    exact repl_22 A B C F1 F2 e1 e2 lb1 lb2 rd wr D1 D2 w hr hw h2 (fun h0 => hD1 _ (read_a (x := ⟨22, A, B, C⟩) (show (formL 22).r0 = 1 from by decide) h0))
  by_cases h23 : op = 23
  · subst h23
    exact repl_23 A B C F1 F2 e1 e2 lb1 lb2 rd wr D1 D2 w hr hw h2 (fun h0 => hD1 _ (read_a (x := ⟨23, A, B, C⟩) (show (formL 23).r0 = 1 from by decide) h0))
  by_cases h28 : op = 28
  · subst h28
    exact repl_28 A B C F1 F2 e1 e2 lb1 lb2 rd wr D1 D2 w hr hw h2 (fun h0 => hD1 _ (read_a (x := ⟨28, A, B, C⟩) (show (formL 28).r0 = 1 from by decide) h0))
  by_cases h29 : op = 29
  · subst h29
    exact repl_29 A B C F1 F2 e1 e2 lb1 lb2 rd wr D1 D2 w hr hw h2 (fun h0 => hD1 _ (read_a (x := ⟨29, A, B, C⟩) (show (formL 29).r0 = 1 from by decide) h0))
  by_cases h25 : op = 25
  · subst h25
    exact repl_25 A B C F1 F2 e1 e2 lb1 lb2 rd wr D1 D2 w hr hw h2 (fun h0 => hD1 _ (read_a (x := ⟨25, A, B, C⟩) (show (formL 25).r0 = 1 from by decide) h0))
  by_cases h30 : op = 30
  · subst h30
    exact repl_30 A B C F1 F2 e1 e2 lb1 lb2 rd wr D1 D2 w hr hw h2 (fun h0 => hD1 _ (read_a (x := ⟨30, A, B, C⟩) (show (formL 30).r0 = 1 from by decide) h0))
  by_cases h32 : op = 32
  · subst h32
    exact repl_32 A B C F1 F2 e1 e2 lb1 lb2 rd wr D1 D2 w hr hw h2 (fun h0 => hD1 _ (read_a (x := ⟨32, A, B, C⟩) (show (formL 32).r0 = 1 from by decide) h0))
  by_cases h4 : op = 4
  · subst h4
    exact repl_4 A B C F1 F2 e1 e2 lb1 lb2 rd wr D1 D2 w hr hw h2 (fun h0 => hD1 _ (read_b (x := ⟨4, A, B, C⟩) (show (formL 4).r0 = 2 from by decide) h0))
  by_cases h11 : op = 11
  · subst h11
    exact repl_11 A B C F1 F2 e1 e2 lb1 lb2 rd wr D1 D2 w hr hw h2 (fun h0 => hD1 _ (read_b (x := ⟨11, A, B, C⟩) (show (formL 11).r0 = 2 from by decide) h0))
  by_cases h15 : op = 15
  · subst h15
    exact repl_15 A B C F1 F2 e1 e2 lb1 lb2 rd wr D1 D2 w hr hw h2 (fun h0 => hD1 _ (read_b (x := ⟨15, A, B, C⟩) (show (formL 15).r0 = 2 from by decide) h0))
  by_cases h16 : op = 16
  · subst h16
    exact repl_16 A B C F1 F2 e1 e2 lb1 lb2 rd wr D1 D2 w hr hw h2 (fun h0 => hD1 _ (read_b (x := ⟨16, A, B, C⟩) (show (formL 16).r0 = 2 from by decide) h0))
  by_cases h17 : op = 17
  · subst h17
    exact repl_17 A B C F1 F2 e1 e2 lb1 lb2 rd wr D1 D2 w hr hw h2 (fun h0 => hD1 _ (read_b (x := ⟨17, A, B, C⟩) (show (formL 17).r0 = 2 from by decide) h0))
  by_cases h18 : op = 18
  · subst h18
    exact repl_18 A B C F1 F2 e1 e2 lb1 lb2 rd wr D1 D2 w hr hw h2 (fun h0 => hD1 _ (read_b (x := ⟨18, A, B, C⟩) (show (formL 18).r0 = 2 from by decide) h0))
  by_cases h19 : op = 19
  · subst h19
    exact repl_19 A B C F1 F2 e1 e2 lb1 lb2 rd wr D1 D2 w hr hw h2 (fun h0 => hD1 _ (read_b (x := ⟨19, A, B, C⟩) (show (formL 19).r0 = 2 from by decide) h0))
  by_cases h20 : op = 20
  · subst h20
    exact repl_20 A B C F1 F2 e1 e2 lb1 lb2 rd wr D1 D2 w hr hw h2 (fun h0 => hD1 _ (read_b (x := ⟨20, A, B, C⟩) (show (formL 20).r0 = 2 from by decide) h0))
  by_cases h6 : op = 6
  · subst h6
    exact repl_6 A B C F1 F2 e1 e2 lb1 lb2 rd wr D1 D2 w hr hw h2 (fun h0 => hD1 _ (read_b (x := ⟨6, A, B, C⟩) (show (formL 6).r0 = 2 from by decide) h0)) (fun h0 => hD1 _ (read_c (x := ⟨6, A, B, C⟩) (show (formL 6).r1 = 3 from by decide) h0))
  by_cases h7 : op = 7
  · subst h7
    exact repl_7 A B C F1 F2 e1 e2 lb1 lb2 rd wr D1 D2 w hr hw h2 (fun h0 => hD1 _ (read_b (x := ⟨7, A, B, C⟩) (show (formL 7).r0 = 2 from by decide) h0)) (fun h0 => hD1 _ (read_c (x := ⟨7, A, B, C⟩) (show (formL 7).r1 = 3 from by decide) h0))
  by_cases h8 : op = 8
  · subst h8
    exact repl_8 A B C F1 F2 e1 e2 lb1 lb2 rd wr D1 D2 w hr hw h2 (fun h0 => hD1 _ (read_b (x := ⟨8, A, B, C⟩) (show (formL 8).r0 = 2 from by decide) h0)) (fun h0 => hD1 _ (read_c (x := ⟨8, A, B, C⟩) (show (formL 8).r1 = 3 from by decide) h0))
  by_cases h9 : op = 9
  · subst h9
    exact repl_9 A B C F1 F2 e1 e2 lb1 lb2 rd wr D1 D2 w hr hw h2 (fun h0 => hD1 _ (read_b (x := ⟨9, A, B, C⟩) (show (formL 9).r0 = 2 from by decide) h0)) (fun h0 => hD1 _ (read_c (x := ⟨9, A, B, C⟩) (show (formL 9).r1 = 3 from by decide) h0))
  by_cases h10 : op = 10
  · subst h10
    exact repl_10 A B C F1 F2 e1 e2 lb1 lb2 rd wr D1 D2 w hr hw h2 (fun h0 => hD1 _ (read_b (x := ⟨10, A, B, C⟩) (show (formL 10).r0 = 2 from by decide) h0)) (fun h0 => hD1 _ (read_c (x := ⟨10, A, B, C⟩) (show (formL 10).r1 = 3 from by decide) h0))
  by_cases h12 : op = 12
  · subst h12
    exact repl_12 A B C F1 F2 e1 e2 lb1 lb2 rd wr D1 D2 w hr hw h2 (fun h0 => hD1 _ (read_b (x := ⟨12, A, B, C⟩) (show (formL 12).r0 = 2 from by decide) h0)) (fun h0 => hD1 _ (read_c (x := ⟨12, A, B, C⟩) (show (formL 12).r1 = 3 from by decide) h0))
  by_cases h13 : op = 13
  · subst h13
    exact repl_13 A B C F1 F2 e1 e2 lb1 lb2 rd wr D1 D2 w hr hw h2 (fun h0 => hD1 _ (read_b (x := ⟨13, A, B, C⟩) (show (formL 13).r0 = 2 from by decide) h0)) (fun h0 => hD1 _ (read_c (x := ⟨13, A, B, C⟩) (show (formL 13).r1 = 3 from by decide) h0))
  by_cases h14 : op = 14
  · subst h14
    exact repl_14 A B C F1 F2 e1 e2 lb1 lb2 rd wr D1 D2 w hr hw h2 (fun h0 => hD1 _ (read_b (x := ⟨14, A, B, C⟩) (show (formL 14).r0 = 2 from by decide) h0)) (fun h0 => hD1 _ (read_c (x := ⟨14, A, B, C⟩) (show (formL 14).r1 = 3 from by decide) h0))
  exact repl_no op h4 h11 h15 h16 h17 h18 h19 h20 h6 h7 h8 h9 h10 h12 h13 h14 h22 h23 h28 h29 h25 h30 h32 A B C F1 F2 e1 e2 lb1 lb2 rd wr D1 D2 w hr hw h2
end Go.Proofs.YtgalekifgnecjaaGreat
