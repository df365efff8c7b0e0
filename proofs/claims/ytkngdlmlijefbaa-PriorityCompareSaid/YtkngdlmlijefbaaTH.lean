/- The order of valid tasks is an order: plain. -/
import Derived.Test.YtkngdlmlijefbaaTG
namespace Go.Proofs.Ytkngdlmlijefbaa.Pq
open Go.RowKit
open Go.Proofs.Ytkngdlmlijefbaa.PPriorityOrder
set_option linter.unusedVariables false
set_option linter.unusedSimpArgs false

theorem less_trans : ∀ x y z : List UInt8, Op.bytesLess x y = true → Op.bytesLess y z = true → Op.bytesLess x z = true
  | [], [], z, h, _ => by simp [Op.bytesLess] at h
  | x, b :: y, [], _, h => by simp [Op.bytesLess] at h
  | a :: x, [], z, h, _ => by simp [Op.bytesLess] at h
  | [], b :: y, c :: z, _, _ => by simp [Op.bytesLess]
  | a :: x, b :: y, c :: z, h1, h2 => by
    have ih := less_trans x y z
    simp only [Op.bytesLess, Bool.or_eq_true, Bool.and_eq_true, decide_eq_true_eq, beq_iff_eq] at *
    rcases h1 with h1 | ⟨h1, k1⟩
    · rcases h2 with h2 | ⟨h2, k2⟩
      · exact .inl (UInt8.lt_trans h1 h2)
      · exact .inl (h2 ▸ h1)
    · rcases h2 with h2 | ⟨h2, k2⟩
      · exact .inl (h1 ▸ h2)
      · exact .inr ⟨h1.trans h2, ih k1 k2⟩
theorem less_iff (x y : List UInt8) : Op.bytesLess y x = true ↔ ¬ (Op.bytesLess x y = true) ∧ x ≠ y := by
  rw [← less_tri x y]
  simp
theorem Cmp.str : Cmp cmpS := by
  have hle : ∀ x y : ByteArray, cmpS x y ≤ 0 ↔ ¬ (Op.bytesLess y.toList x.toList = true) := fun x y => by
    have h1 := less_iff x.toList y.toList
    unfold cmpS
    by_cases h : Op.bytesLess x.toList y.toList = true
    · rw [if_pos h]
      exact ⟨fun _ h2 => (h1.1 h2).1 h, fun _ => by omega⟩
    · rw [if_neg h]
      by_cases k : Op.bytesLess y.toList x.toList = true
      · rw [if_pos k]; exact ⟨fun h => by omega, fun h => absurd k h⟩
      · rw [if_neg k]; exact ⟨fun _ => k, fun _ => by omega⟩
  refine ⟨fun x y => ?_, fun x y z h1 h2 => ?_⟩
  · have h1 := less_iff x.toList y.toList
    unfold cmpS
    by_cases h : Op.bytesLess x.toList y.toList = true
    · rw [if_pos h, if_neg (fun k => (h1.1 k).1 h), if_pos h]; rfl
    · rw [if_neg h]
      by_cases k : Op.bytesLess y.toList x.toList = true
      · rw [if_pos k, if_pos k, if_neg h]
      · rw [if_neg k, if_neg k, if_neg h]; rfl
  · rw [hle] at h1 h2 ⊢
    intro h
    have a1 := less_iff x.toList y.toList
    have a2 := less_iff y.toList z.toList
    by_cases e1 : x.toList = y.toList
    · exact h2 (e1 ▸ h)
    · by_cases e2 : y.toList = z.toList
      · exact h1 (e2 ▸ h)
      · have l1 : Op.bytesLess x.toList y.toList = true := Classical.byContradiction fun k => h1 (a1.2 ⟨k, e1⟩)
        have l2 : Op.bytesLess y.toList z.toList = true := Classical.byContradiction fun k => h2 (a2.2 ⟨k, e2⟩)
        have l3 := less_trans _ _ _ l1 l2
        exact ((less_iff x.toList z.toList).1 h).1 l3
/-- What the comparison needs of a task. -/
def Vc (t : S32) : Prop := (1 ≤ t.f3.f1 ∧ t.f3.f1 ≤ 1073741824) ∧ 0 ≤ t.f3.f0 ∧ t.f3.f0 ≤ t.f3.f1
abbrev VT := { t : S32 // Vc t }
theorem mul_in {a b : Int} (ha : 0 ≤ a) (ha2 : a ≤ 1073741824) (hb : 0 ≤ b) (hb2 : b ≤ 1073741824) : wrap64 (a * b) = a * b := by
  have h1 : 0 ≤ a * b := Int.mul_nonneg ha hb
  have h2 : a * b ≤ 1073741824 * 1073741824 := Int.mul_le_mul ha2 hb2 hb (by omega)
  unfold wrap64
  omega
theorem chance_eq (x y : VT) : cmpI (wrap64 (x.1.f3.f0 * y.1.f3.f1)) (wrap64 (y.1.f3.f0 * x.1.f3.f1)) = cmpI (x.1.f3.f0 * y.1.f3.f1) (y.1.f3.f0 * x.1.f3.f1) := by
  obtain ⟨⟨x1, x2⟩, x3, x4⟩ := x.2
  obtain ⟨⟨y1, y2⟩, y3, y4⟩ := y.2
  rw [mul_in (by omega) (by omega) (by omega) (by omega), mul_in (by omega) (by omega) (by omega) (by omega)]
theorem cmpI_le {x y : Int} : cmpI x y ≤ 0 ↔ x ≤ y := by
  unfold cmpI
  split
  · omega
  · split <;> omega
theorem Cmp.chance : Cmp (fun x y : VT => cmpI (wrap64 (x.1.f3.f0 * y.1.f3.f1)) (wrap64 (y.1.f3.f0 * x.1.f3.f1))) := by
  refine ⟨fun x y => Cmp.int.anti _ _, fun x y z h1 h2 => ?_⟩
  simp only [chance_eq, cmpI_le] at *
  have hx := x.2.1.1
  have hy := y.2.1.1
  have hz := z.2.1.1
  generalize x.1.f3.f0 = n1 at *
  generalize x.1.f3.f1 = d1 at *
  generalize y.1.f3.f0 = n2 at *
  generalize y.1.f3.f1 = d2 at *
  generalize z.1.f3.f0 = n3 at *
  generalize z.1.f3.f1 = d3 at *
  have e1 : n1 * d2 * d3 ≤ n2 * d1 * d3 := Int.mul_le_mul_of_nonneg_right h1 (by omega)
  have e2 : n2 * d3 * d1 ≤ n3 * d2 * d1 := Int.mul_le_mul_of_nonneg_right h2 (by omega)
  have e3 : n1 * d3 * d2 ≤ n3 * d1 * d2 := by
    have a1 : n1 * d3 * d2 = n1 * d2 * d3 := by rw [Int.mul_assoc, Int.mul_comm d3, ← Int.mul_assoc]
    have a2 : n2 * d1 * d3 = n2 * d3 * d1 := by rw [Int.mul_assoc, Int.mul_comm d1, ← Int.mul_assoc]
    have a3 : n3 * d2 * d1 = n3 * d1 * d2 := by rw [Int.mul_assoc, Int.mul_comm d2, ← Int.mul_assoc]
    omega
  exact Int.le_of_mul_le_mul_right e3 (by omega)
theorem cmpT_lex (x y : S32) : cmpT x y = lex (fun x y : S32 => cmpI x.f2 y.f2) (lex (fun x y => cmpI (wrap64 (x.f3.f0 * y.f3.f1)) (wrap64 (y.f3.f0 * x.f3.f1))) (lex (fun x y => cmpI x.f4 y.f4) (lex (fun x y => cmpI x.f1 y.f1) (lex (fun x y => cmpS x.f0.f0 y.f0.f0) (fun x y => cmpI x.f0.f1 y.f0.f1))))) x y := by
  unfold cmpT lex
  simp only [ors]
  repeat' split
  all_goals first | rfl | omega
theorem Cmp.task : Cmp (fun x y : VT => cmpT x.1 y.1) := by
  have h := (Cmp.int.on (fun x : VT => x.1.f2)).lex (Cmp.chance.lex ((Cmp.int.on (fun x : VT => x.1.f4)).lex ((Cmp.int.on (fun x : VT => x.1.f1)).lex ((Cmp.str.on (fun x : VT => x.1.f0.f0)).lex (Cmp.int.on (fun x : VT => x.1.f0.f1))))))
  have e : (fun x y : VT => cmpT x.1 y.1) = _ := funext fun x => funext fun y => cmpT_lex x.1 y.1
  rw [e]
  exact h
end Go.Proofs.Ytkngdlmlijefbaa.Pq
