/- Structs by value as a law's arguments. -/
import Derived.Test.YtkbiggmkjbmgoaaA
namespace Go.Proofs.Ytkbiggmkjbmgoaa.Bk
open Go.ChangeShapes Go.WideShapes Go.ChangeAt Go.RowKit Go.Deep
open Go.Proofs.YtkbiggmkjbmgoaaW.PrintWords
set_option linter.unusedVariables false

theorem cells23 : Try.prog.cellsOf 23 = 2 := by kernel_rfl
theorem arg23 {H : Type} {enc : TypeId × Value → H} {w : World} {base : Nat} {spare : Nat → Bool} {held : Bool} {v : Value} {d : DataW H} {ps : List MemPlace} (hv : ∃ cs, v = .agg cs ∧ cs.size = Try.prog.cellsOf 23) (h : DataW.Trod enc Try.prog w base spare held 23 v d ps) :
    ∃ a b : Int, v = .agg #[.int .i64 a, .int .i64 b] ∧ In64 a ∧ In64 b := by
  obtain ⟨cs, rfl, hz⟩ := hv
  obtain ⟨fuel, hf⟩ := h
  obtain ⟨y0, y1, m, _, hl, h0, h1⟩ := trod_struct2 Try.underlying23 hf
  rw [cells23] at hz
  obtain ⟨l⟩ := cs
  obtain ⟨c0, c1, rfl⟩ : ∃ c0 c1, l = [c0, c1] := by
    rcases l with _ | ⟨c0, _ | ⟨c1, _ | ⟨c2, r⟩⟩⟩
    · simp at hz
    · simp at hz
    · exact ⟨c0, c1, rfl⟩
    · simp at hz
  rw [cells3] at h0 h1
  obtain ⟨a0, e0, _, b0⟩ := DataW.trod_int Try.underlying3 h0
  obtain ⟨a1, e1, _, b1⟩ := DataW.trod_int Try.underlying3 h1
  simp [Value.cells] at e0 e1
  subst e0 e1
  exact ⟨a0, a1, rfl, bounds_i64 b0, bounds_i64 b1⟩
theorem arg48 {H : Type} {enc : TypeId × Value → H} {w : World} {base : Nat} {spare : Nat → Bool} {held : Bool} {v : Value} {d : DataW H} {ps : List MemPlace} (hv : ∃ cs, v = .agg cs ∧ cs.size = Try.prog.cellsOf 48) (h : DataW.Trod enc Try.prog w base spare held 48 v d ps) :
    ∃ a b c : Int, v = .agg #[.int .i64 a, .int .i64 b, .int .i64 c] ∧ In64 a ∧ In64 b ∧ In64 c := by
  obtain ⟨cs, rfl, hz⟩ := hv
  obtain ⟨fuel, hf⟩ := h
  obtain ⟨y0, y1, y2, m, _, hl, h0, h1, h2⟩ := trod_struct3 Try.underlying48 hf
  rw [cells48] at hz
  obtain ⟨l⟩ := cs
  obtain ⟨c0, c1, c2, rfl⟩ : ∃ c0 c1 c2, l = [c0, c1, c2] := by
    rcases l with _ | ⟨c0, _ | ⟨c1, _ | ⟨c2, _ | ⟨c3, r⟩⟩⟩⟩
    · simp at hz
    · simp at hz
    · simp at hz
    · exact ⟨c0, c1, c2, rfl⟩
    · simp at hz
  rw [cells3] at h0 h1 h2
  obtain ⟨a0, e0, _, b0⟩ := DataW.trod_int Try.underlying3 h0
  obtain ⟨a1, e1, _, b1⟩ := DataW.trod_int Try.underlying3 h1
  obtain ⟨a2, e2, _, b2⟩ := DataW.trod_int Try.underlying3 h2
  simp [Value.cells] at e0 e1 e2
  subst e0 e1 e2
  exact ⟨a0, a1, a2, rfl, bounds_i64 b0, bounds_i64 b1, bounds_i64 b2⟩
end Go.Proofs.Ytkbiggmkjbmgoaa.Bk
