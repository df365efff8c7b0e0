/- Numbers in groups of 7 bits: the plain law. -/
import Derived.Test.YtkbiggmkjbmgoaaPMeetingstatsEncodesx1
import Derived.Test.YtkbiggmkjbmgoaaPMeetingstatsEncodesx2
import Derived.Test.YtkbiggmkjbmgoaaP
namespace Go.Proofs.Ytkbiggmkjbmgoaa.Bk
open Go.RowKit Go.Proofs.YtkbiggmkjbmgoaaW.PrintWords Go.Proofs.YtkbiggmkjbmgoaaW.PrintLast Go.Proofs.YtkbiggmkjbmgoaaW.PrintMore
set_option linter.unusedVariables false
set_option linter.unusedSimpArgs false

/-- The encoding of a number. -/
def enc7 (n : Nat) : List Int := if n < 128 then [(n : Int)] else ((n % 128 + 128 : Nat) : Int) :: enc7 (n / 128)
termination_by n
decreasing_by omega
theorem enc7_lt {n : Nat} (h : n < 128) : enc7 n = [(n : Int)] := by rw [enc7, if_pos h]
theorem enc7_ge {n : Nat} (h : ¬ n < 128) : enc7 n = ((n % 128 + 128 : Nat) : Int) :: enc7 (n / 128) := by rw [enc7, if_neg h]
theorem enc7_pos (n : Nat) : 0 < (enc7 n).length := by rw [enc7]; split <;> simp
theorem enc7_len : ∀ (k n : Nat), n < 128 ^ (k + 1) → (enc7 n).length ≤ k + 1 := by
  intro k
  induction k with
  | zero => intro n h; rw [enc7_lt (by simpa using h)]; simp
  | succ k ih =>
    intro n h
    by_cases h1 : n < 128
    · rw [enc7_lt h1]; simp
    · rw [enc7_ge h1]
      have : n / 128 < 128 ^ (k + 1) := by
        rw [Nat.pow_succ] at h
        exact Nat.div_lt_of_lt_mul (by rw [Nat.mul_comm]; exact h)
      have := ih _ this
      simp; omega
theorem enc7_len64 (n : Nat) (h : n < 18446744073709551616) : (enc7 n).length ≤ 10 := enc7_len 9 n (Nat.lt_of_lt_of_le h (by decide))
theorem or128 : ∀ a : Nat, a < 256 → bits .or .u8 (a : Int) 128 = ((a % 128 + 128 : Nat) : Int) := by decide +kernel
theorem appended_ok : ∀ (k n : Nat) (xs : List Int), n < 128 ^ (k + 1) → n < 18446744073709551616 → xs.length + k < 140737488355328 →
    PMeetingstatsEncodes.wire_appended.l0 (k + 1) xs (n : Int) = some (xs ++ enc7 n) := by
  intro k
  induction k with
  | zero =>
    intro n xs h _ hl
    have h1 : n < 128 := by simpa using h
    simp only [PMeetingstatsEncodes.wire_appended.l0]
    rw [if_neg (by omega), if_pos (by omega), enc7_lt h1, show ((n : Int)) % 256 = (n : Int) from by omega]
  | succ k ih =>
    intro n xs h h64 hl
    rw [PMeetingstatsEncodes.wire_appended.l0]
    by_cases h1 : n < 128
    · rw [if_neg (by omega), if_pos (by omega), enc7_lt h1, show ((n : Int)) % 256 = (n : Int) from by omega]
    · rw [if_pos (by omega), if_pos (by omega), enc7_ge h1]
      have e1 : ((n : Int)) % 256 = ((n % 256 : Nat) : Int) := by omega
      have e2 : ((n : Int)) / 128 = ((n / 128 : Nat) : Int) := by omega
      rw [e1, e2, or128 _ (by omega), ih (n / 128) _ (by
        rw [Nat.pow_succ] at h
        exact Nat.div_lt_of_lt_mul (by rw [Nat.mul_comm]; exact h)) (by omega) (by simp; omega)]
      rw [show n % 256 % 128 = n % 128 from by omega, List.append_assoc]
      rfl
theorem appended_yes (n : Nat) (h : n < 18446744073709551616) : PMeetingstatsEncodes.wire_appended.f 10 [] (n : Int) = some (enc7 n) :=
  appended_ok 9 n [] (Nat.lt_of_lt_of_le h (by decide)) h (by simp)
theorem refUint_ok : ∀ (k m n : Nat) (xs : List Int), n < 128 ^ (k + 1) → n < 9223372036854775808 → xs.length + k < 140737488355328 → k + 1 ≤ m →
    PMeetingstatsEncodes.kinkeepref28_Uint.l0 m (n : Int) xs = some (xs ++ enc7 n) := by
  intro k
  induction k with
  | zero =>
    intro m n xs h _ hl hm
    have h1 : n < 128 := by simpa using h
    obtain ⟨m, rfl⟩ : ∃ j, m = j + 1 := ⟨m - 1, by omega⟩
    simp only [PMeetingstatsEncodes.kinkeepref28_Uint.l0]
    rw [if_neg (by omega), if_pos (by omega), enc7_lt h1, show ((n : Int)) % 256 = (n : Int) from by omega]
  | succ k ih =>
    intro m n xs h h64 hl hm
    obtain ⟨m, rfl⟩ : ∃ j, m = j + 1 := ⟨m - 1, by omega⟩
    rw [PMeetingstatsEncodes.kinkeepref28_Uint.l0]
    by_cases h1 : n < 128
    · rw [if_neg (by omega), if_pos (by omega), enc7_lt h1, show ((n : Int)) % 256 = (n : Int) from by omega]
    · rw [if_pos (by omega), if_pos (by omega), enc7_ge h1]
      have e1 : Int.tmod (n : Int) 128 = ((n % 128 : Nat) : Int) := by rw [Int.tmod_eq_emod_of_nonneg (by omega)]; omega
      have e2 : Int.tdiv (n : Int) 128 = ((n / 128 : Nat) : Int) := by rw [Int.tdiv_eq_ediv_of_nonneg (by omega)]; omega
      rw [e1, e2, wrap_in (x := ((n / 128 : Nat) : Int)) (by unfold In64; omega), wrap_in (x := ((n % 128 : Nat) : Int) + 128) (by unfold In64; omega), ih m (n / 128) _ (by
        rw [Nat.pow_succ] at h
        exact Nat.div_lt_of_lt_mul (by rw [Nat.mul_comm]; exact h)) (by omega) (by simp; omega) (by omega)]
      rw [show (((n % 128 : Nat) : Int) + 128) % 256 = ((n % 128 + 128 : Nat) : Int) from by omega, List.append_assoc]
      rfl
theorem refUint_yes (n : Nat) (h : n < 9223372036854775808) (k : Nat) (hk : 10 ≤ k) : PMeetingstatsEncodes.kinkeepref28_Uint.f k (n : Int) = some (enc7 n) :=
  refUint_ok 9 k n [] (Nat.lt_of_lt_of_le h (by decide)) h (by simp) hk
end Go.Proofs.Ytkbiggmkjbmgoaa.Bk
