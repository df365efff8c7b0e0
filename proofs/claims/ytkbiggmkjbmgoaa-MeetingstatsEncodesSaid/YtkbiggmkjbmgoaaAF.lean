/- Reading numbers in groups of 7 bits: the plain law. -/
import Derived.Test.YtkbiggmkjbmgoaaAC
namespace Go.Proofs.Ytkbiggmkjbmgoaa.Bk
open Go.RowKit Go.Proofs.YtkbiggmkjbmgoaaW.PrintWords
set_option linter.unusedVariables false
set_option linter.unusedSimpArgs false

/-- Reading a number: the group i, what has come together so far. -/
def dec (i n : Nat) : List Int → Option (Nat × List Int)
  | [] => none
  | b :: t => if 10 ≤ i then none else if (i = 9 ∧ 1 < b) ∨ (0 < i ∧ b = 0) then none else if b < 128 then some (n + (b % 128).toNat * 2 ^ (7 * i), t) else dec (i + 1) (n + (b % 128).toNat * 2 ^ (7 * i)) t

theorem p7 (i : Nat) : 2 ^ (7 * (i + 1)) = 2 ^ (7 * i) * 128 := by rw [Nat.mul_add, Nat.pow_add]
theorem p7_ge (i : Nat) (h : 10 ≤ i) : 1180591620717411303424 ≤ 2 ^ (7 * i) := by
  have : 2 ^ (7 * 10) ≤ 2 ^ (7 * i) := Nat.pow_le_pow_right (by omega) (by omega)
  simpa using this
theorem p7_le (i : Nat) (h : i ≤ 9) : 2 ^ (7 * i) ≤ 9223372036854775808 := by
  have : 2 ^ (7 * i) ≤ 2 ^ (7 * 9) := Nat.pow_le_pow_right (by omega) (by omega)
  simpa using this
theorem p7_le8 (i : Nat) (h : i ≤ 8) : 2 ^ (7 * i) ≤ 72057594037927936 := by
  have : 2 ^ (7 * i) ≤ 2 ^ (7 * 8) := Nat.pow_le_pow_right (by omega) (by omega)
  simpa using this
theorem p7_pos (i : Nat) : 0 < 2 ^ (7 * i) := Nat.two_pow_pos _

theorem dec_enc : ∀ (m i n : Nat) (t : List Int), m * 2 ^ (7 * i) < 18446744073709551616 → (m ≠ 0 ∨ i = 0) → dec i n (enc7 m ++ t) = some (n + m * 2 ^ (7 * i), t) := by
  intro m
  induction m using Nat.strongRecOn with
  | _ m ih =>
  intro i n t h h0
  have h10 : i < 10 := by
    rcases Nat.lt_or_ge i 10 with h1 | h1
    · exact h1
    · exfalso
      have hm : 1 ≤ m := by omega
      have := Nat.mul_le_mul hm (p7_ge i h1)
      omega
  by_cases h1 : m < 128
  · rw [enc7_lt h1]
    simp only [List.cons_append, List.nil_append, dec]
    rw [if_neg (by omega), if_neg ?_, if_pos (by omega), show ((m : Int) % 128).toNat = m from by omega]
    rintro (⟨rfl, hb⟩ | ⟨hi, hb⟩)
    · have : 2 * 2 ^ (7 * 9) ≤ m * 2 ^ (7 * 9) := Nat.mul_le_mul_right _ (by omega)
      simp at this h
      omega
    · omega
  · rw [enc7_ge h1]
    simp only [List.cons_append, dec]
    have hd : m = m / 128 * 128 + m % 128 := by omega
    have hle : m / 128 * 2 ^ (7 * (i + 1)) ≤ m * 2 ^ (7 * i) := by
      rw [p7, Nat.mul_comm (2 ^ (7 * i)) 128, ← Nat.mul_assoc]
      exact Nat.mul_le_mul_right _ (by omega)
    rw [if_neg (by omega), if_neg ?_, if_neg (by omega), ih (m / 128) (by omega) (i + 1) _ t (by omega) (by omega)]
    · rw [show (((m % 128 + 128 : Nat) : Int) % 128).toNat = m % 128 from by omega, p7, Nat.add_assoc]
      congr 2
      have : m * 2 ^ (7 * i) = (m / 128 * 128 + m % 128) * 2 ^ (7 * i) := by rw [← hd]
      rw [this, Nat.add_mul, Nat.mul_comm (2 ^ (7 * i)) 128, Nat.mul_assoc]
      omega
    · rintro (⟨rfl, hb⟩ | ⟨hi, hb⟩)
      · have : 128 * 2 ^ (7 * 9) ≤ m * 2 ^ (7 * 9) := Nat.mul_le_mul_right _ (by omega)
        simp at this h
        omega
      · omega
theorem dec_some : ∀ (l : List Int) (i n v : Nat) (t : List Int), (∀ x ∈ l, 0 ≤ x ∧ x < 256) → dec i n l = some (v, t) → ∃ m, l = enc7 m ++ t ∧ v = n + m * 2 ^ (7 * i) ∧ m * 2 ^ (7 * i) < 18446744073709551616 ∧ (m ≠ 0 ∨ i = 0) := by
  intro l
  induction l with
  | nil => intro i n v t _ h; simp [dec] at h
  | cons b l ih =>
    intro i n v t hb h
    have hb0 := hb b (by simp)
    simp only [dec] at h
    split at h
    · simp at h
    · split at h
      · simp at h
      · rename_i h10 hbad
        split at h
        · rename_i hlt
          simp only [Option.some.injEq, Prod.mk.injEq] at h
          obtain ⟨rfl, rfl⟩ := h
          refine ⟨b.toNat, ?_, ?_, ?_, by omega⟩
          · rw [enc7_lt (by omega)]; simp; omega
          · rw [show (b % 128).toNat = b.toNat from by omega]
          · by_cases h9 : i = 9
            · subst h9
              have : b.toNat * 2 ^ (7 * 9) ≤ 1 * 2 ^ (7 * 9) := Nat.mul_le_mul_right _ (by omega)
              simp at this ⊢
              omega
            · have := p7_le8 i (by omega)
              have : b.toNat * 2 ^ (7 * i) ≤ 127 * 72057594037927936 := Nat.mul_le_mul (by omega) this
              omega
        · rename_i hge
          obtain ⟨m, rfl, rfl, h3, h4⟩ := ih (i + 1) _ v t (fun x hx => hb x (by simp [hx])) h
          have hm : m ≠ 0 := by omega
          have hmod : (b % 128).toNat = b.toNat - 128 := by omega
          refine ⟨m * 128 + (b.toNat - 128), ?_, ?_, ?_, .inl (by omega)⟩
          · rw [enc7_ge (n := m * 128 + (b.toNat - 128)) (by omega), show (m * 128 + (b.toNat - 128)) / 128 = m from by omega, show (m * 128 + (b.toNat - 128)) % 128 = b.toNat - 128 from by omega]
            simp; omega
          · rw [hmod, p7, Nat.add_mul, Nat.mul_comm (2 ^ (7 * i)) 128, ← Nat.mul_assoc]; omega
          · have e : (m * 128 + (b.toNat - 128)) * 2 ^ (7 * i) = m * 2 ^ (7 * (i + 1)) + (b.toNat - 128) * 2 ^ (7 * i) := by
              rw [p7, Nat.add_mul, Nat.mul_comm (2 ^ (7 * i)) 128, ← Nat.mul_assoc]
            have hp := p7_pos (i + 1)
            have hi8 : i ≤ 8 := by
              rcases Nat.lt_or_ge i 9 with h | h
              · omega
              · exfalso
                have := p7_ge (i + 1) (by omega)
                have := Nat.mul_le_mul (show 1 ≤ m from by omega) this
                omega
            -- both are below: the sum is below the next multiple of the group
            have hlt : (b.toNat - 128) * 2 ^ (7 * i) < 2 ^ (7 * (i + 1)) := by
              rw [p7, Nat.mul_comm (2 ^ (7 * i)) 128]
              exact Nat.mul_lt_mul_of_pos_right (by omega) (p7_pos i)
            have hdv : 18446744073709551616 = 2 ^ (64 - 7 * (i + 1)) * 2 ^ (7 * (i + 1)) := by
              rw [← Nat.pow_add, show 64 - 7 * (i + 1) + 7 * (i + 1) = 64 from by omega]
            rw [e]
            have h5 : m < 2 ^ (64 - 7 * (i + 1)) := by
              rw [hdv] at h3
              exact Nat.lt_of_mul_lt_mul_right h3
            have h6 : (m + 1) * 2 ^ (7 * (i + 1)) ≤ 2 ^ (64 - 7 * (i + 1)) * 2 ^ (7 * (i + 1)) := Nat.mul_le_mul_right _ h5
            rw [← hdv, Nat.add_mul] at h6
            omega
/-- what a number's reading says -/
theorem dec_iff {l : List Int} (hl : ∀ x ∈ l, 0 ≤ x ∧ x < 256) : (∃ v t, v < 18446744073709551616 ∧ l = enc7 v ++ t ∧ dec 0 0 l = some (v, t)) ∨ (dec 0 0 l = none ∧ ∀ v t, v < 18446744073709551616 → l ≠ enc7 v ++ t) := by
  cases h : dec 0 0 l with
  | none =>
    refine .inr ⟨rfl, fun v t hv e => ?_⟩
    have := dec_enc v 0 0 t (by simpa using hv) (.inr rfl)
    rw [← e, h] at this
    cases this
  | some p =>
    obtain ⟨v, t⟩ := p
    obtain ⟨m, h1, h2, h3, _⟩ := dec_some l 0 0 v t hl h
    simp at h2 h3
    subst h2
    exact .inl ⟨_, t, h3, h1, rfl⟩
theorem enc7_bytes : ∀ (n : Nat), ∀ x ∈ enc7 n, 0 ≤ x ∧ x < 256 := by
  intro n
  induction n using Nat.strongRecOn with
  | _ n ih =>
    intro x hx
    by_cases h : n < 128
    · rw [enc7_lt h] at hx; simp at hx; omega
    · rw [enc7_ge h] at hx
      rcases List.mem_cons.1 hx with rfl | hx
      · omega
      · exact ih (n / 128) (by omega) x hx
/-- the new group is put on top -/
theorem or_top (n g i : Nat) (h : n < 2 ^ (7 * i)) : n ||| (g <<< (7 * i)) = n + g * 2 ^ (7 * i) := by
  rw [Nat.or_comm, Nat.shiftLeft_eq, Nat.mul_comm g, ← Nat.two_pow_add_eq_or_of_lt h]; omega
end Go.Proofs.Ytkbiggmkjbmgoaa.Bk
