/- The chances grow: the plain law. -/
import Derived.Test.YtkbiggmkjbmgoaaU
import Derived.Test.YtkbiggmkjbmgoaaQ
import Derived.Test.YtkbiggmkjbmgoaaF
namespace Go.Proofs.Ytkbiggmkjbmgoaa.Bk
open Go.RowKit Go.Proofs.YtkbiggmkjbmgoaaW.PrintWords Go.Proofs.YtkbiggmkjbmgoaaW.PrintLast Go.Proofs.YtkbiggmkjbmgoaaW.PrintMore
set_option linter.unusedVariables false
set_option linter.unusedSimpArgs false

theorem ig_dvd_left (a b : Int) : ig a b ∣ a := by
  unfold ig
  rw [Int.ofNat_dvd_left]
  exact Nat.gcd_dvd_left _ _
theorem ig_dvd_right (a b : Int) : ig a b ∣ b := by
  unfold ig
  rw [Int.ofNat_dvd_left]
  exact Nat.gcd_dvd_right _ _
theorem red_eq (N D : Int) (h : 0 < D) : redN N D * ig N D = N ∧ redD N D * ig N D = D := by
  rw [redN_pos h, redD_pos h]
  exact ⟨Int.tdiv_mul_cancel (ig_dvd_left N D), Int.tdiv_mul_cancel (ig_dvd_right N D)⟩
theorem redD_gt (N D : Int) (h : 0 < D) : 0 < redD N D := by
  have h1 := (red_eq N D h).2
  have h2 := ig_pos (a := N) (b := D) (.inr (by omega))
  have h3 : 0 < redD N D * ig N D := by omega
  exact Int.pos_of_mul_pos_left h3 (by omega)
theorem redD_le (N D : Int) (h : 0 < D) : redD N D ≤ D := by
  have h1 := (red_eq N D h).2
  have h2 := ig_pos (a := N) (b := D) (.inr (by omega))
  have h3 := redD_gt N D h
  have : redD N D * 1 ≤ redD N D * ig N D := Int.mul_le_mul_of_nonneg_left h2 (by omega)
  omega
/-- what is less stays less in lowest terms -/
theorem red_le (N D N' D' : Int) (h : 0 < D) (h' : 0 < D') (hl : N * D' ≤ N' * D) : redN N D * redD N' D' ≤ redN N' D' * redD N D := by
  obtain ⟨e1, e2⟩ := red_eq N D h
  obtain ⟨e3, e4⟩ := red_eq N' D' h'
  have g1 := ig_pos (a := N) (b := D) (.inr (by omega))
  have g2 := ig_pos (a := N') (b := D') (.inr (by omega))
  have hc : (redN N D * redD N' D') * (ig N D * ig N' D') ≤ (redN N' D' * redD N D) * (ig N D * ig N' D') := by
    have l : redN N D * ig N D * (redD N' D' * ig N' D') = (redN N D * redD N' D') * (ig N D * ig N' D') := by ac_rfl
    have r : redN N' D' * ig N' D' * (redD N D * ig N D) = (redN N' D' * redD N D) * (ig N D * ig N' D') := by ac_rfl
    rw [← l, ← r, e1, e2, e3, e4]
    exact hl
  exact Int.le_of_mul_le_mul_right hc (Int.mul_pos (by omega) (by omega))

theorem pow_nn (y : Int) (h : 0 ≤ y) : ∀ e : Nat, 0 ≤ y ^ e
  | 0 => by simp
  | e + 1 => by rw [Int.pow_succ]; exact Int.mul_nonneg (pow_nn y h e) h
theorem pow_mono (y z : Int) (h : 0 ≤ y) (hl : y ≤ z) : ∀ e : Nat, y ^ e ≤ z ^ e
  | 0 => by simp
  | e + 1 => by
    rw [Int.pow_succ, Int.pow_succ]
    exact Int.mul_le_mul (pow_mono y z h hl e) hl h (pow_nn z (by omega) e)
theorem p32 : ∀ e : Nat, e ≤ 12 → (0 : Int) < 32 ^ e ∧ (32 : Int) ^ e ≤ 1152921504606846976 := by decide

theorem within_num (c : Int) (e : Nat) (h0 : 0 ≤ c) (h1 : c ≤ 32) (he : e ≤ 12) : 0 ≤ (32 : Int) ^ e - (32 - c) ^ e ∧ (32 : Int) ^ e - (32 - c) ^ e ≤ 32 ^ e := by
  have h2 := pow_mono (32 - c) 32 (by omega) (by omega) e
  have h3 := pow_nn (32 - c) (by omega) e
  omega
theorem within_in (c : Int) (e : Nat) (h0 : 0 ≤ c) (h1 : c ≤ 32) (he : e ≤ 12) : In64 (withinN c e) ∧ In64 (withinD c e) ∧ 0 < withinD c e := by
  obtain ⟨h2, h3⟩ := within_num c e h0 h1 he
  obtain ⟨h4, h5⟩ := p32 e he
  have h6 := redD_gt (32 ^ e - (32 - c) ^ e) (32 ^ e) h4
  have h7 := redD_le (32 ^ e - (32 - c) ^ e) (32 ^ e) h4
  have h8 := red_bd (32 ^ e - (32 - c) ^ e) (32 ^ e) (by unfold NotLeast; omega) (by unfold NotLeast; omega) (by omega)
  unfold NotLeast at h8
  unfold withinN withinD In64
  omega
theorem within_step (c : Int) (e : Nat) (h0 : 0 ≤ c) (h1 : c ≤ 32) (he : e + 1 ≤ 12) : withinN c e * withinD c (e + 1) ≤ withinN c (e + 1) * withinD c e := by
  refine red_le _ _ _ _ (p32 e (by omega)).1 (p32 (e + 1) he).1 ?_
  have h2 := pow_nn (32 - c) (by omega) e
  have h3 := (p32 e (by omega)).1
  have key : (32 - c) ^ e * (32 - c) ≤ (32 - c) ^ e * 32 := Int.mul_le_mul_of_nonneg_left (by omega) h2
  rw [Int.pow_succ, Int.pow_succ]
  generalize (32 - c) ^ e = y at *
  generalize (32 : Int) ^ e = z at *
  have k2 : z * (y * (32 - c)) ≤ z * (y * 32) := Int.mul_le_mul_of_nonneg_left key (by omega)
  have e1 : (z - y) * (z * 32) = z * (z * 32) - z * (y * 32) := by rw [Int.sub_mul]; congr 1; ac_rfl
  have e2 : (z * 32 - y * (32 - c)) * z = z * (z * 32) - z * (y * (32 - c)) := by rw [Int.sub_mul, Int.mul_comm (z * 32) z, Int.mul_comm (y * (32 - c)) z]
  rw [e1, e2]
  omega
theorem within_mono (c c' : Int) (e : Nat) (h0 : 0 ≤ c) (h1 : c ≤ c') (h2 : c' ≤ 32) (he : e ≤ 12) : withinN c e * withinD c' e ≤ withinN c' e * withinD c e := by
  refine red_le _ _ _ _ (p32 e he).1 (p32 e he).1 ?_
  have h3 := pow_mono (32 - c') (32 - c) (by omega) (by omega) e
  exact Int.mul_le_mul_of_nonneg_right (by omega) (by have := (p32 e he).1; omega)
theorem within_zero (c : Int) : withinN c 0 = 0 ∧ withinD c 0 = 1 := by
  unfold withinN withinD
  simp only [Int.pow_zero, Int.sub_self]
  exact ⟨by decide, by decide⟩
theorem within_one (c : Int) : withinN c 1 = redN c 32 ∧ withinD c 1 = redD c 32 := by
  unfold withinN withinD
  have : (32 : Int) ^ 1 - (32 - c) ^ 1 = c := by rw [Int.pow_succ, Int.pow_succ]; simp; omega
  rw [this]
  exact ⟨rfl, rfl⟩
theorem cmpI_le {x y : Int} (h : x ≤ y) : cmpI x y ≤ 0 := by
  rcases cmpI_cases x y with ⟨h1, e⟩ | ⟨h1, e⟩ | ⟨h1, e⟩ <;> rw [e] <;> omega
end Go.Proofs.Ytkbiggmkjbmgoaa.Bk
