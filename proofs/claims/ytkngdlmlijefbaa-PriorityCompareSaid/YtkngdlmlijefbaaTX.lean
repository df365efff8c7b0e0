/- The reference's comparison: plain, and as a contract. -/
import Derived.Test.YtkngdlmlijefbaaTM
import Derived.Test.YtkngdlmlijefbaaPPriorityOrderx5
namespace Go.Proofs.Ytkngdlmlijefbaa.Pq
open Go.RowKit Go.Proofs.YtkngdlmlijefbaaW.PrintWords
open Go.Proofs.Ytkngdlmlijefbaa.PPriorityOrder
set_option linter.unusedVariables false
set_option linter.unusedSimpArgs false

theorem sign_int (x y : Int) : kinkeepref41_sign.f (decide (x < y)) (x == y) = some (cmpI x y) := by
  unfold kinkeepref41_sign.f cmpI
  by_cases h1 : x < y
  · rw [decide_eq_true h1, if_pos rfl, if_pos h1]
  · rw [decide_eq_false h1, if_neg (by simp), if_neg h1]
    by_cases h2 : x = y
    · rw [beq_iff_eq.2 h2, if_pos rfl, if_neg (by omega)]
    · rw [beq_eq_false_iff_ne.2 h2, if_neg (by simp), if_pos (by omega)]
theorem sign_str (x y : ByteArray) : kinkeepref41_sign.f (Op.bytesLess x.toList y.toList) (x.toList == y.toList) = some (cmpS x y) := by
  unfold kinkeepref41_sign.f cmpS
  have h := less_iff x.toList y.toList
  by_cases h1 : Op.bytesLess x.toList y.toList = true
  · rw [if_pos h1, if_pos h1]
  · rw [if_neg h1, if_neg h1]
    by_cases h2 : x.toList = y.toList
    · rw [beq_iff_eq.2 h2, if_pos rfl, if_neg (fun k => (h.1 k).2 h2)]
    · rw [beq_eq_false_iff_ne.2 h2, if_neg (by simp), if_pos (h.2 ⟨h1, h2⟩)]
theorem ref_l0 (l : List Int) (hl : l.length ≤ 100) : ∀ (d i k : Nat), i + d = l.length → d < k → kinkeepref41_Compare.l0 k l (l.length : Int) (i : Int) = some (ors (l.drop i)) := by
  intro d
  induction d with
  | zero =>
    intro i k hi hk
    obtain ⟨k, rfl⟩ : ∃ j, k = j + 1 := ⟨k - 1, by omega⟩
    rw [kinkeepref41_Compare.l0, if_neg (by omega), List.drop_of_length_le (by omega)]
    rfl
  | succ d ih =>
    intro i k hi hk
    obtain ⟨k, rfl⟩ : ∃ j, k = j + 1 := ⟨k - 1, by omega⟩
    have hlt : i < l.length := by omega
    have hr : rd l (i : Int) = l[i] := by unfold rd; rw [Int.toNat_natCast, List.getD_eq_getElem?_getD, List.getElem?_eq_getElem hlt]; rfl
    have hw : wrap64 ((i : Int) + 1) = ((i + 1 : Nat) : Int) := by unfold wrap64; omega
    rw [kinkeepref41_Compare.l0, if_pos (by omega), if_pos (by omega), if_pos (by omega), hr, hw, List.drop_eq_getElem_cons hlt]
    by_cases h0 : l[i] = 0
    · rw [if_pos h0, ih (i + 1) k (by omega) (by omega)]
      simp only [ors]
      rw [if_pos h0]
    · rw [if_neg h0]
      simp only [ors]
      rw [if_neg h0]
theorem refcmp_f (a b : S32) : kinkeepref41_Compare.f 10 a.f0.f0 a.f0.f1 a.f1 a.f2 a.f3.f0 a.f3.f1 a.f4 b.f0.f0 b.f0.f1 b.f1 b.f2 b.f3.f0 b.f3.f1 b.f4 = some (cmpT a b) := by
  unfold kinkeepref41_Compare.f
  simp only [sign_int, sign_str, Option.bind_some]
  have := ref_l0 [cmpI a.f2 b.f2, cmpI (wrap64 (a.f3.f0 * b.f3.f1)) (wrap64 (b.f3.f0 * a.f3.f1)), cmpI a.f4 b.f4, cmpI a.f1 b.f1, cmpS a.f0.f0 b.f0.f0, cmpI a.f0.f1 b.f0.f1] (by simp) 6 0 10 rfl (by omega)
  exact this
theorem refcmp_c (a b : S32) (w : World) : Calls Try.prog 25 #[.agg #[.string a.f0.f0, .int .i64 a.f0.f1, .int .i64 a.f1, .int .i64 a.f2, .int .i64 a.f3.f0, .int .i64 a.f3.f1, .int .i64 a.f4], .agg #[.string b.f0.f0, .int .i64 b.f0.f1, .int .i64 b.f1, .int .i64 b.f2, .int .i64 b.f3.f0, .int .i64 b.f3.f1, .int .i64 b.f4]] w fun e w' => e = .returned (.int .i64 (cmpT a b)) ∧ Below w.heap.size w w' :=
  kinkeepref41_Compare.calls 10 _ _ _ _ _ _ _ _ _ _ _ _ _ _ _ w (refcmp_f a b)
end Go.Proofs.Ytkngdlmlijefbaa.Pq
