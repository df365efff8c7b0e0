/- Comparisons one behind another: plain. -/
import Derived.Test.YtkngdlmlijefbaaTE
import Derived.Shelf.SlSortCmp.WholeK
namespace Go.Proofs.Ytkngdlmlijefbaa.Pq
open Go.RowKit
open Go.Proofs.Ytkngdlmlijefbaa.PPriorityOrder
set_option linter.unusedVariables false
set_option linter.unusedSimpArgs false

/-- A comparison: what stands the other way round has the other sign; 'at most' goes on. -/
structure Cmp {α : Type} (c : α → α → Int) : Prop where
  anti : ∀ x y, c y x = - c x y
  trans : ∀ x y z, c x y ≤ 0 → c y z ≤ 0 → c x z ≤ 0
theorem Cmp.refl {α : Type} {c : α → α → Int} (h : Cmp c) (x : α) : c x x = 0 := by have := h.anti x x; omega
def lex {α : Type} (c d : α → α → Int) (x y : α) : Int := if c x y = 0 then d x y else c x y
theorem Cmp.lex {α : Type} {c d : α → α → Int} (hc : Cmp c) (hd : Cmp d) : Cmp (lex c d) := by
  refine ⟨fun x y => ?_, fun x y z h1 h2 => ?_⟩
  · unfold Pq.lex
    have h1 := hc.anti x y
    have h2 := hd.anti x y
    by_cases h : c x y = 0
    · rw [if_pos h, if_pos (by omega), h2]
    · rw [if_neg h, if_neg (by omega), h1]
  · unfold Pq.lex at *
    have t1 := hc.trans x y z
    have t2 := hc.trans z x y
    have t3 := hc.trans y z x
    have a1 := hc.anti x y
    have a2 := hc.anti y z
    have a3 := hc.anti x z
    have a4 := hc.anti z x
    have d1 := hd.trans x y z
    by_cases hx : c x y = 0
    · rw [if_pos hx] at h1
      by_cases hy : c y z = 0
      · rw [if_pos hy] at h2
        have e : c x z = 0 := by
          have s1 := t1 (by omega) (by omega)
          have s2 := hc.trans z y x (by have := hc.anti y z; omega) (by have := hc.anti x y; omega)
          omega
        rw [if_pos e]
        exact d1 h1 h2
      · rw [if_neg hy] at h2
        have s1 := t1 (by omega) h2
        by_cases e : c x z = 0
        · have s2 := hc.trans z x y (by omega) (by omega)
          omega
        · rw [if_neg e]; exact s1
    · rw [if_neg hx] at h1
      have h2' : c y z ≤ 0 := by
        by_cases hy : c y z = 0
        · omega
        · rw [if_neg hy] at h2; exact h2
      have s1 := t1 h1 h2'
      by_cases e : c x z = 0
      · have s2 := hc.trans y z x h2' (by omega)
        omega
      · rw [if_neg e]; exact s1
theorem Cmp.swo {α : Type} {c : α → α → Int} (h : Cmp c) : Sort.SWO (ltOf c) where
  irrefl x := by have := h.refl x; simp [ltOf, this]
  trans x y z h1 h2 := by
    have h1 : c x y < 0 := by simpa [ltOf] using h1
    have h2 : c y z < 0 := by simpa [ltOf] using h2
    have s1 := h.trans x y z (by omega) (by omega)
    have a3 := h.anti x z
    have a1 := h.anti y z
    have : ¬ c x z = 0 := fun e => by
      have := h.trans z x y (by omega) (by omega)
      omega
    simp [ltOf]; omega
  ntrans x y z h1 h2 := by
    have h1 : 0 ≤ c x y := by simpa [ltOf] using h1
    have h2 : 0 ≤ c y z := by simpa [ltOf] using h2
    have a1 := h.anti x y
    have a2 := h.anti y z
    have a3 := h.anti x z
    have := h.trans z y x (by omega) (by omega)
    simp [ltOf]; omega
theorem Cmp.on {α β : Type} {c : β → β → Int} (h : Cmp c) (f : α → β) : Cmp (fun x y => c (f x) (f y)) := ⟨fun x y => h.anti _ _, fun x y z => h.trans _ _ _⟩
theorem Cmp.int : Cmp cmpI := by
  refine ⟨fun x y => ?_, fun x y z h1 h2 => ?_⟩
  · unfold cmpI; split <;> split <;> omega
  · unfold cmpI at *
    repeat' split at h1
    all_goals repeat' split at h2
    all_goals repeat' split
    all_goals omega
end Go.Proofs.Ytkngdlmlijefbaa.Pq
