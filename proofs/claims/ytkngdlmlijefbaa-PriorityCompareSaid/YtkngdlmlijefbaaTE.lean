/- The plain comparison of two tasks. -/
import Derived.Test.YtkngdlmlijefbaaTA
namespace Go.Proofs.Ytkngdlmlijefbaa.Pq
open Go.RowKit Go.Proofs.YtkngdlmlijefbaaW.PrintWords
open Go.Proofs.Ytkngdlmlijefbaa.PPriorityOrder
set_option linter.unusedVariables false
set_option linter.unusedSimpArgs false

def cmpI (x y : Int) : Int := if x < y then -1 else if y < x then 1 else 0
def cmpS (a b : ByteArray) : Int := if Op.bytesLess a.toList b.toList = true then -1 else if Op.bytesLess b.toList a.toList = true then 1 else 0
def ors : List Int → Int
  | [] => 0
  | x :: r => if x = 0 then ors r else x
theorem cmp_int (x y : Int) : cmp_Compare_int.f x y = some (cmpI x y) := by
  unfold cmp_Compare_int.f cmp_isNaN_int.f cmpI
  simp
  split
  · rfl
  · split <;> rfl
theorem cmp_string (a b : ByteArray) : cmp_Compare_string.f a b = some (cmpS a b) := by
  unfold cmp_Compare_string.f cmp_isNaN_string.f cmpS
  simp
  split
  · rfl
  · split <;> rfl
theorem or_l0 (l : List Int) (hl : l.length ≤ 100) : ∀ (d i k : Nat), i + d = l.length → d < k → cmp_Or_int.l0 k 0 l (l.length : Int) i = some (ors (l.drop i)) := by
  intro d
  induction d with
  | zero =>
    intro i k hi hk
    obtain ⟨k, rfl⟩ : ∃ j, k = j + 1 := ⟨k - 1, by omega⟩
    rw [cmp_Or_int.l0, if_neg (by omega), List.drop_of_length_le (by omega)]
    rfl
  | succ d ih =>
    intro i k hi hk
    obtain ⟨k, rfl⟩ : ∃ j, k = j + 1 := ⟨k - 1, by omega⟩
    have hlt : i < l.length := by omega
    have hr : rd l (i : Int) = l[i] := by unfold rd; rw [Int.toNat_natCast, List.getD_eq_getElem?_getD, List.getElem?_eq_getElem hlt]; rfl
    have hw : wrap64 ((i : Int) + 1) = ((i + 1 : Nat) : Int) := by unfold wrap64; omega
    rw [cmp_Or_int.l0, if_pos (by omega), if_pos (by omega), if_pos (by omega), hr, hw, List.drop_eq_getElem_cons hlt]
    by_cases h0 : l[i] = 0
    · rw [if_pos h0, ih (i + 1) k (by omega) (by omega)]
      simp only [ors]
      rw [if_pos h0]
    · rw [if_neg h0]
      simp only [ors]
      rw [if_neg h0]
theorem cmp_or (l : List Int) (hl : l.length ≤ 100) : cmp_Or_int.f (l.length + 1) l = some (ors l) := by
  unfold cmp_Or_int.f
  have := or_l0 l hl l.length 0 (l.length + 1) (by omega) (by omega)
  simpa using this
/-- The order of tasks. -/
def cmpT (a b : S32) : Int := ors [cmpI a.f2 b.f2, cmpI (wrap64 (a.f3.f0 * b.f3.f1)) (wrap64 (b.f3.f0 * a.f3.f1)), cmpI a.f4 b.f4, cmpI a.f1 b.f1, cmpS a.f0.f0 b.f0.f0, cmpI a.f0.f1 b.f0.f1]
end Go.Proofs.Ytkngdlmlijefbaa.Pq
