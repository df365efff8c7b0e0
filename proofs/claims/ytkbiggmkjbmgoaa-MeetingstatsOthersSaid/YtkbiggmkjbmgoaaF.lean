/- Plain facts on signs of reduced fractions; struct equality of fractions. -/
import Derived.Test.YtkbiggmkjbmgoaaE
namespace Go.Proofs.Ytkbiggmkjbmgoaa.Bk
open Go.RowKit
set_option linter.unusedVariables false
theorem max_neg (x : Int) : max x (-x) = ab x := by unfold ab; split <;> omega
theorem ab_nonneg (x : Int) : 0 ≤ ab x := by unfold ab; split <;> omega
theorem ab_pos {x : Int} (h : x ≠ 0) : 0 < ab x := by unfold ab; split <;> omega
theorem redD_ab (n d : Int) (h : d ≠ 0) : redD (ab n) (ab d) = redD n d := by
  have e : ab (ab d) = ab d := by have := ab_nonneg d; generalize ab d = y at *; unfold ab; rw [if_neg (by omega)]
  unfold redD
  rw [ig_ab, e]
theorem redN_ab (n d : Int) (h : d ≠ 0) : redN (ab n) (ab d) = Int.tdiv (ab n) (ig n d) := by
  have h0 : ¬ ab d < 0 := by have := ab_nonneg d; omega
  unfold redN
  rw [ig_ab]
  unfold sgn
  rw [if_neg h0]
theorem redN_same (n d : Int) (h : d ≠ 0) (hs : (n < 0 ∧ d < 0) ∨ (0 ≤ n ∧ 0 ≤ d)) : redN n d = redN (ab n) (ab d) := by
  rw [redN_ab n d h]
  unfold redN sgn ab
  rcases hs with ⟨h1, h2⟩ | ⟨h1, h2⟩
  · rw [if_pos h2, if_pos h1]
  · rw [if_neg (by omega), if_neg (by omega)]
theorem redN_other (n d : Int) (h : d ≠ 0) (hs : (n < 0 ∧ 0 ≤ d) ∨ (0 ≤ n ∧ d < 0)) : redN n d = -redN (ab n) (ab d) := by
  rw [redN_ab n d h, ← Int.neg_tdiv]
  unfold redN sgn ab
  rcases hs with ⟨h1, h2⟩ | ⟨h1, h2⟩
  · rw [if_neg (by omega), if_pos h1, Int.neg_neg]
  · rw [if_pos h2, if_neg (by omega)]
theorem red_bd (n d : Int) (hn : NotLeast n) (hd : NotLeast d) (h : d ≠ 0) : NotLeast (redN n d) := by
  have hp := ig_pos (a := n) (b := d) (.inr h)
  have h1 : (Int.tdiv (sgn n d) (ig n d)).natAbs ≤ (sgn n d).natAbs := Int.natAbs_tdiv_le_natAbs _ _
  have h2 : (sgn n d).natAbs = n.natAbs := by unfold sgn; split <;> omega
  unfold NotLeast redN at *
  omega
end Go.Proofs.Ytkbiggmkjbmgoaa.Bk
