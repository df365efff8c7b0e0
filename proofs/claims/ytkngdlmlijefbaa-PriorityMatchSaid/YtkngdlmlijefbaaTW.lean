/- Arguments of the laws as they are read: tasks, slices of tasks. -/
import Derived.Test.YtkngdlmlijefbaaPPriorityOrderx0
import Derived.WalkKit
import Derived.ProofKit
import Derived.OpenShut
import Derived.ChangeOld
import Derived.Below
import Derived.Deep.Slices
import Derived.Deep.Strs
namespace Go.Proofs.Ytkngdlmlijefbaa.Pq
open Go.ChangeShapes Go.WideShapes Go.ChangeAt Go.RowKit Go.Deep
open Go.Proofs.YtkngdlmlijefbaaW.PrintWords
open Go.Proofs.Ytkngdlmlijefbaa.PPriorityOrder
set_option linter.unusedVariables false

/-- A slice whose elements are read as d's. -/
theorem opens_slice {α : Type} {H : Type} {enc : TypeId × Value → H} {P : Program} {w : World} {base : Nat} {spare : Nat → Bool} {held : Bool} {t e : TypeId} (d : Kd α) (Qp : α → Prop) (ht : P.underlying t = some (.slice e)) (hsz : P.cellsOf e = d.sz)
    (hO : ∀ n cs x, DataW.trod enc P w base spare held n e cs = some x → ∃ p, d.K w p cs ∧ Qp p) {fuel : Nat} {cs : List Value} {x : DataW H × List MemPlace} (h : DataW.trod enc P w base spare held fuel t cs = some x) :
    ∃ (A : Option Addr) (cap : Nat) (l : List α), cs = [.slice A l.length cap] ∧ l.length ≤ cap ∧ cap ≤ maxLen ∧ d.C w A l.length l ∧ ∀ p ∈ l, Qp p := by
  rcases open_slice ht h with ⟨rfl, _⟩ | ⟨a, len, cap, m, n, D, Pl, rfl, hb, hl, hm, hmm, rfl, hx⟩
  · exact ⟨none, 0, [], rfl, Nat.le_refl _, by simp [maxLen], ⟨rfl, by simp, fun h => absurd h (by simp)⟩, by simp⟩
  · have hlm : len ≤ m := by rw [hmm]; split <;> omega
    have hp : ∀ i, i < len → ∃ p cs', w.cells? base (a.add (i * P.cellsOf e)) (P.cellsOf e) = some cs' ∧ d.K w p cs' ∧ Qp p := fun i hi => by
      obtain ⟨cs', h1, h2⟩ := hx i (by omega)
      obtain ⟨p, h3, h4⟩ := hO _ _ _ h2
      exact ⟨p, cs', h1, h3, h4⟩
    have hl2 : ∃ l : List α, l.length = len ∧ ∀ i p, l[i]? = some p → ∃ cs', w.cells? base (a.add (i * P.cellsOf e)) (P.cellsOf e) = some cs' ∧ d.K w p cs' ∧ Qp p := by
      clear hmm hlm hx hl h
      induction len with
      | zero => exact ⟨[], rfl, by simp⟩
      | succ len ih =>
        obtain ⟨l, h1, h2⟩ := ih (fun i hi => hp i (by omega))
        obtain ⟨p, cs', h3⟩ := hp len (by omega)
        refine ⟨l ++ [p], by simp [h1], fun i q hq => ?_⟩
        rcases Nat.lt_or_ge i l.length with hi | hi
        · rw [List.getElem?_append_left hi] at hq
          exact h2 i q hq
        · rw [List.getElem?_append_right hi] at hq
          have h0 : i - l.length = 0 := by
            rcases Nat.eq_zero_or_pos (i - l.length) with h | h
            · exact h
            · rw [List.getElem?_eq_none (by simp; omega)] at hq
              cases hq
          rw [h0] at hq
          simp at hq
          subst hq
          rw [show i = len by omega]
          exact ⟨cs', h3⟩
    obtain ⟨l, hll, hl3⟩ := hl2
    subst hll
    refine ⟨some a, cap, l, rfl, hl, hm, ⟨rfl, by simp only [maxLen] at hm; omega, fun _ => ⟨a, rfl, fun j p hj => ?_⟩⟩, fun p hp' => ?_⟩
    · obtain ⟨cs', h1, h2, _⟩ := hl3 j p hj
      refine ⟨cs', d.K_len h2, h2, fun i u hu => ?_⟩
      obtain ⟨_, _, h4⟩ := World.cells?_some h1
      have hi : i < cs'.length := (List.getElem?_eq_some_iff.1 hu).1
      have := h4 i (by rw [d.K_len h2] at hi; rw [hsz]; exact hi)
      rw [← hsz, ← Go.Proofs.YtkngdlmlijefbaaW.PrintWords.add_add]
      rw [this]
      exact hu
    · obtain ⟨i, hi⟩ := List.mem_iff_getElem?.1 hp'
      obtain ⟨cs', _, _, h5⟩ := hl3 i p hi
      exact h5

theorem cells3 : Try.prog.cellsOf 3 = 1 := by kernel_rfl
theorem cells9 : Try.prog.cellsOf 9 = 1 := by kernel_rfl
theorem cells28 : Try.prog.cellsOf 28 = 2 := by kernel_rfl
theorem cells30 : Try.prog.cellsOf 30 = 2 := by kernel_rfl
theorem cells32 : Try.prog.cellsOf 32 = 7 := by kernel_rfl
section
variable {H : Type} {enc : TypeId × Value → H} {w : World} {base : Nat} {spare : Nat → Bool} {held : Bool}
theorem trod_struct5 {P : Program} {t : TypeId} {f0 f1 f2 f3 f4 : Field} {fuel : Nat} {cs : List Value} {x : DataW H × List MemPlace} (ht : P.underlying t = some (.struct #[f0, f1, f2, f3, f4])) (h : DataW.trod enc P w base spare held fuel t cs = some x) :
    ∃ y0 y1 y2 y3 y4 n, cs.length = P.cellsOf t ∧ DataW.trod enc P w base spare held n f0.type ((cs.drop f0.offset).take (P.cellsOf f0.type)) = some y0 ∧
      DataW.trod enc P w base spare held n f1.type ((cs.drop f1.offset).take (P.cellsOf f1.type)) = some y1 ∧ DataW.trod enc P w base spare held n f2.type ((cs.drop f2.offset).take (P.cellsOf f2.type)) = some y2 ∧
      DataW.trod enc P w base spare held n f3.type ((cs.drop f3.offset).take (P.cellsOf f3.type)) = some y3 ∧ DataW.trod enc P w base spare held n f4.type ((cs.drop f4.offset).take (P.cellsOf f4.type)) = some y4 := by
  obtain ⟨xs, n, _, rfl, hl, hlen, hf⟩ := DataW.trod_struct ht h
  match xs, hlen with
  | [y0, y1, y2, y3, y4], _ => exact ⟨y0, y1, y2, y3, y4, n, hl, by simpa using hf 0 f0 rfl, by simpa using hf 1 f1 rfl, by simpa using hf 2 f2 rfl, by simpa using hf 3 f3 rfl, by simpa using hf 4 f4 rfl⟩
theorem open28 (n : Nat) (c0 c1 : Value) (x : DataW H × List MemPlace) (h : DataW.trod enc Try.prog w base spare held n 28 [c0, c1] = some x) : ∃ (s : ByteArray) (i : Int), c0 = .string s ∧ c1 = .int .i64 i := by
  obtain ⟨y0, y1, m, rfl, hl, h0, h1⟩ := trod_struct2 Try.underlying28 h
  rw [cells9] at h0
  rw [cells3] at h1
  obtain ⟨a0, e0, _, b0⟩ := DataW.trod_string Try.underlying9 h0
  obtain ⟨a1, e1, _, b1⟩ := DataW.trod_int Try.underlying3 h1
  simp at e0 e1
  exact ⟨a0, a1, e0, e1⟩
theorem open30 (n : Nat) (c0 c1 : Value) (x : DataW H × List MemPlace) (h : DataW.trod enc Try.prog w base spare held n 30 [c0, c1] = some x) : ∃ (s : Int) (i : Int), c0 = .int .i64 s ∧ c1 = .int .i64 i := by
  obtain ⟨y0, y1, m, rfl, hl, h0, h1⟩ := trod_struct2 Try.underlying30 h
  rw [cells3] at h0 h1
  obtain ⟨a0, e0, _, b0⟩ := DataW.trod_int Try.underlying3 h0
  obtain ⟨a1, e1, _, b1⟩ := DataW.trod_int Try.underlying3 h1
  simp at e0 e1
  exact ⟨a0, a1, e0, e1⟩
theorem open32v (n : Nat) (cs : List Value) (x : DataW H × List MemPlace) (h : DataW.trod enc Try.prog w base spare held n 32 cs = some x) :
    ∃ p : S32, cs = [.string p.f0.f0, .int .i64 p.f0.f1, .int .i64 p.f1, .int .i64 p.f2, .int .i64 p.f3.f0, .int .i64 p.f3.f1, .int .i64 p.f4] := by
  obtain ⟨y0, y1, y2, y3, y4, m, hl, h0, h1, h2, h3, h4⟩ := trod_struct5 Try.underlying32 h
  rw [cells32] at hl
  obtain ⟨c0, c1, c2, c3, c4, c5, c6, rfl⟩ : ∃ c0 c1 c2 c3 c4 c5 c6, cs = [c0, c1, c2, c3, c4, c5, c6] := by
    rcases cs with _ | ⟨c0, _ | ⟨c1, _ | ⟨c2, _ | ⟨c3, _ | ⟨c4, _ | ⟨c5, _ | ⟨c6, _ | ⟨c7, r⟩⟩⟩⟩⟩⟩⟩⟩
    · exact absurd hl (by simp)
    · exact absurd hl (by simp)
    · exact absurd hl (by simp)
    · exact absurd hl (by simp)
    · exact absurd hl (by simp)
    · exact absurd hl (by simp)
    · exact absurd hl (by simp)
    · exact ⟨c0, c1, c2, c3, c4, c5, c6, rfl⟩
    · exact absurd hl (by simp)
  rw [cells28] at h0
  rw [cells3] at h1 h2 h4
  rw [cells30] at h3
  obtain ⟨s, i, rfl, rfl⟩ := open28 _ _ _ _ h0
  obtain ⟨a1, e1, _, b1⟩ := DataW.trod_int Try.underlying3 h1
  obtain ⟨a2, e2, _, b2⟩ := DataW.trod_int Try.underlying3 h2
  obtain ⟨a3, a4, rfl, rfl⟩ := open30 _ _ _ _ h3
  obtain ⟨a5, e5, _, b5⟩ := DataW.trod_int Try.underlying3 h4
  simp at e1 e2 e5
  subst e1 e2 e5
  exact ⟨⟨⟨s, i⟩, a1, a2, ⟨a3, a4⟩, a5⟩, rfl⟩
theorem arg47 {v : Value} {d : DataW H} {ps : List MemPlace} (hv : ∃ a n c, v = .slice a n c) (h : DataW.Trod enc Try.prog w base spare held 47 v d ps) :
    ∃ (A : Option Addr) (cap : Nat) (l : List S32), v = .slice A l.length cap ∧ (l.length ≤ cap ∧ Kd.C k32 w A l.length l) ∧ True := by
  obtain ⟨a, m, c, rfl⟩ := hv
  obtain ⟨fuel, hf⟩ := h
  obtain ⟨A, cap, l, he, hc, _, hC, hQ⟩ := opens_slice k32 (fun _ => True) Try.underlying47 cells32 (fun n cs x h => by
    obtain ⟨p, rfl⟩ := open32v n cs x h
    exact ⟨p, k32_mk w p, trivial⟩) hf
  simp [Value.cells] at he
  obtain ⟨rfl, rfl, rfl⟩ := he
  exact ⟨a, c, l, rfl, ⟨hc, hC⟩, trivial⟩
end
end Go.Proofs.Ytkngdlmlijefbaa.Pq
