/- Plain laws: what the fractions' functions compute. -/
import Derived.Test.YtkbiggmkjbmgoaaPMeetingstatsRatesx2
namespace Go.Proofs.Ytkbiggmkjbmgoaa.Bk
open Go.RowKit Go.Proofs.YtkbiggmkjbmgoaaW.PrintWords Go.Proofs.YtkbiggmkjbmgoaaW.PrintLast Go.Proofs.YtkbiggmkjbmgoaaW.PrintMore
open Go.Proofs.Ytkbiggmkjbmgoaa.PMeetingstatsRates
set_option linter.unusedVariables false
set_option linter.unusedSimpArgs false

def In64 (x : Int) : Prop := -9223372036854775808 ≤ x ∧ x ≤ 9223372036854775807
theorem wrap_in {x : Int} (h : In64 x) : wrap64 x = x := by
  unfold In64 at h
  unfold wrap64
  omega

def ig (a b : Int) : Int := (Nat.gcd a.natAbs b.natAbs : Int)
theorem ig_pos {a b : Int} (h : a ≠ 0 ∨ b ≠ 0) : 1 ≤ ig a b := by
  unfold ig
  have : 0 < Nat.gcd a.natAbs b.natAbs := by
    apply Nat.pos_of_ne_zero
    intro e
    have := Nat.gcd_eq_zero_iff.1 e
    omega
  omega
theorem ig_step {a b : Int} (ha : 0 ≤ a) (hb : 0 ≤ b) : ig b (Int.tmod a b) = ig a b := by
  unfold ig
  obtain ⟨m, rfl⟩ := Int.eq_ofNat_of_zero_le ha
  obtain ⟨n, rfl⟩ := Int.eq_ofNat_of_zero_le hb
  have : Int.tmod (m : Int) (n : Int) = ((m % n : Nat) : Int) := by
    rw [Int.tmod_eq_emod_of_nonneg (by omega)]; rfl
  rw [this]
  simp only [Int.natAbs_natCast]
  rw [Nat.gcd_comm m n]
  exact (Nat.gcd_rec n m ▸ Nat.gcd_comm (m % n) n ▸ rfl)
theorem ig_zero {a : Int} (ha : 0 ≤ a) : ig a 0 = a := by
  unfold ig
  simp
  omega

theorem red_loop (d : Nat) : ∀ (k : Nat) (x0 x1 a b : Int), 0 ≤ a → 0 ≤ b → b = d → (a ≠ 0 ∨ b ≠ 0) → d < k →
    meetingstats_Reduced.l0 k x0 x1 a b = some (wrap64 (Int.tdiv x0 (ig a b)), wrap64 (Int.tdiv x1 (ig a b)), 0) := by
  induction d using Nat.strongRecOn with
  | ind d ih =>
    intro k x0 x1 a b ha hb hd hn hk
    obtain ⟨k, rfl⟩ : ∃ m, k = m + 1 := ⟨k - 1, by omega⟩
    simp only [meetingstats_Reduced.l0]
    by_cases h0 : b = 0
    · rw [if_pos h0, if_neg (by omega), h0, ig_zero ha]
    · rw [if_neg h0]
      have h1 : 0 ≤ Int.tmod a b := Int.tmod_nonneg b ha
      have h2 : Int.tmod a b < b := Int.tmod_lt_of_pos a (by omega)
      rw [ih (Int.tmod a b).toNat (by omega) k x0 x1 b (Int.tmod a b) hb h1 (by omega) (by omega) (by omega), ig_step ha hb]
theorem low_loop (d : Nat) : ∀ (k : Nat) (x0 x1 a b : Int), 0 ≤ a → 0 ≤ b → b = d → (a ≠ 0 ∨ b ≠ 0) → d < k →
    kinkeepref32_Lowest.l0 k x0 x1 a b = some (wrap64 (Int.tdiv x0 (ig a b)), wrap64 (Int.tdiv x1 (ig a b))) := by
  induction d using Nat.strongRecOn with
  | ind d ih =>
    intro k x0 x1 a b ha hb hd hn hk
    obtain ⟨k, rfl⟩ : ∃ m, k = m + 1 := ⟨k - 1, by omega⟩
    simp only [kinkeepref32_Lowest.l0]
    by_cases h0 : b = 0
    · rw [if_pos h0, if_neg (by omega), h0, ig_zero ha]
    · rw [if_neg h0]
      have h1 : 0 ≤ Int.tmod a b := Int.tmod_nonneg b ha
      have h2 : Int.tmod a b < b := Int.tmod_lt_of_pos a (by omega)
      rw [ih (Int.tmod a b).toNat (by omega) k x0 x1 b (Int.tmod a b) hb h1 (by omega) (by omega) (by omega), ig_step ha hb]
theorem tdiv_in {x g : Int} (hx : In64 x) (hg : 1 ≤ g) : In64 (Int.tdiv x g) := by
  unfold In64 at *
  have h1 := Int.natAbs_tdiv_le_natAbs x g
  rcases Int.le_total 0 x with h0 | h0
  · have := Int.tdiv_nonneg h0 (by omega : 0 ≤ g)
    omega
  · have : Int.tdiv x g ≤ 0 := by
      have := Int.tdiv_nonneg (a := -x) (b := g) (by omega) (by omega)
      rw [Int.neg_tdiv] at this
      omega
    omega
def sgn (num den : Int) : Int := if den < 0 then -num else num
def ab (x : Int) : Int := if x < 0 then -x else x
def redN (num den : Int) : Int := Int.tdiv (sgn num den) (ig num den)
def redD (num den : Int) : Int := Int.tdiv (ab den) (ig num den)
theorem ig_ab (a b : Int) : ig (ab a) (ab b) = ig a b := by
  unfold ig ab
  split <;> split <;> simp
def NotLeast (x : Int) : Prop := -9223372036854775807 ≤ x ∧ x ≤ 9223372036854775807
theorem Reduced_ok (num den : Int) (hn : NotLeast num) (hd : NotLeast den) (h0 : den ≠ 0) : ∃ k, meetingstats_Reduced.f k num den = some (redN num den, redD num den, 0) := by
  unfold NotLeast at hn hd
  have key : ∀ (x y : Int), NotLeast x → NotLeast y → 0 < y → ∃ k, meetingstats_Reduced.j1 k x y = some (Int.tdiv x (ig x y), Int.tdiv y (ig x y), 0) := by
    intro x y hx hy hy0
    unfold NotLeast at hx hy
    refine ⟨y.toNat + 2, ?_⟩
    simp only [meetingstats_Reduced.j1]
    have hw : wrap64 (-x) = -x := wrap_in (by unfold In64; omega)
    have hm : mx x (wrap64 (-x)) = ab x := by rw [hw]; unfold mx ab; split <;> split <;> omega
    rw [hm, red_loop y.toNat _ _ _ _ _ (by unfold ab; split <;> omega) (by omega) (by omega) (by omega) (by omega)]
    have hi : ig (ab x) y = ig x y := by
      have := ig_ab x y
      rwa [show ab y = y from by unfold ab; rw [if_neg (by omega)]] at this
    have hp := ig_pos (a := x) (b := y) (.inr (by omega))
    rw [hi, wrap_in (tdiv_in (by unfold In64; omega) hp), wrap_in (tdiv_in (by unfold In64; omega) hp)]
  by_cases hneg : den < 0
  · obtain ⟨k, hk⟩ := key (-num) (-den) (by unfold NotLeast; omega) (by unfold NotLeast; omega) (by omega)
    refine ⟨k + 1, ?_⟩
    unfold meetingstats_Reduced.f
    rw [if_neg h0, if_neg (by omega), show (den == (-9223372036854775808)) = false from beq_eq_false_iff_ne.mpr (by omega)]
    simp only [meetingstats_Reduced.j0]
    rw [if_neg (by simp), if_pos hneg, wrap_in (by unfold In64; omega), wrap_in (by unfold In64; omega), hk]
    have hi : ig (-num) (-den) = ig num den := by unfold ig; simp
    rw [hi]
    unfold redN redD sgn ab
    rw [if_pos hneg, if_pos hneg]
  · obtain ⟨k, hk⟩ := key num den (by unfold NotLeast; omega) (by unfold NotLeast; omega) (by omega)
    refine ⟨k + 1, ?_⟩
    unfold meetingstats_Reduced.f
    rw [if_neg h0, if_neg (by omega), show (den == (-9223372036854775808)) = false from beq_eq_false_iff_ne.mpr (by omega)]
    simp only [meetingstats_Reduced.j0]
    rw [if_neg (by simp), if_neg hneg, hk]
    unfold redN redD sgn ab
    rw [if_neg hneg, if_neg hneg]
theorem Reduced_bad (num den : Int) (hn : In64 num) (hd : In64 den) (h : den = 0 ∨ num = -9223372036854775808 ∨ den = -9223372036854775808) : ∃ k, meetingstats_Reduced.f k num den = some (0, 0, 1) := by
  have h1 : meetingstats_Reduced.j0 1 num den true = some (0, 0, 1) := by simp [meetingstats_Reduced.j0]
  refine ⟨1, ?_⟩
  unfold meetingstats_Reduced.f
  by_cases h0 : den = 0
  · rw [if_pos h0, h1]
  · rw [if_neg h0]
    by_cases h2 : num = -9223372036854775808
    · rw [if_pos h2, h1]
    · rw [if_neg h2]
      have : den = -9223372036854775808 := by omega
      rw [show (den == (-9223372036854775808)) = true from beq_iff_eq.mpr this, h1]
theorem Lowest_ok (num den : Int) (hn : 0 ≤ num) (hn1 : In64 num) (hd : 0 < den) (hd1 : In64 den) : ∃ k, kinkeepref32_Lowest.f k num den = some (Int.tdiv num (ig num den), Int.tdiv den (ig num den)) := by
  have hp := ig_pos (a := num) (b := den) (.inr (by omega))
  refine ⟨den.toNat + 1, ?_⟩
  unfold kinkeepref32_Lowest.f
  rw [low_loop den.toNat _ _ _ _ _ hn (by omega) (by omega) (by omega) (by omega), wrap_in (tdiv_in hn1 hp), wrap_in (tdiv_in hd1 hp)]
theorem redN_pos {num den : Int} (h : 0 < den) : redN num den = Int.tdiv num (ig num den) := by unfold redN sgn; rw [if_neg (by omega)]
theorem redD_pos {num den : Int} (h : 0 < den) : redD num den = Int.tdiv den (ig num den) := by unfold redD ab; rw [if_neg (by omega)]

/-- The contracts of both, over numbers alone. -/
theorem Reduced_yes (num den : Int) (w : World) (hn : NotLeast num) (hd : NotLeast den) (h0 : den ≠ 0) :
    Calls Try.prog 12 #[.int .i64 num, .int .i64 den] w fun e w' => e = .returned (.tuple #[.agg #[.int .i64 (redN num den), .int .i64 (redD num den)], .int .i64 0]) ∧ Below w.heap.size w w' := by
  obtain ⟨k, hk⟩ := Reduced_ok num den hn hd h0
  exact meetingstats_Reduced.calls k num den _ _ _ w hk
theorem Reduced_no (num den : Int) (w : World) (hn : In64 num) (hd : In64 den) (h : den = 0 ∨ num = -9223372036854775808 ∨ den = -9223372036854775808) :
    Calls Try.prog 12 #[.int .i64 num, .int .i64 den] w fun e w' => e = .returned (.tuple #[.agg #[.int .i64 0, .int .i64 0], .int .i64 1]) ∧ Below w.heap.size w w' := by
  obtain ⟨k, hk⟩ := Reduced_bad num den hn hd h
  exact meetingstats_Reduced.calls k num den _ _ _ w hk
theorem Lowest_yes (num den : Int) (w : World) (hn : 0 ≤ num) (hn1 : In64 num) (hd : 0 < den) (hd1 : In64 den) :
    Calls Try.prog 14 #[.int .i64 num, .int .i64 den] w fun e w' => e = .returned (.agg #[.int .i64 (redN num den), .int .i64 (redD num den)]) ∧ Below w.heap.size w w' := by
  obtain ⟨k, hk⟩ := Lowest_ok num den hn hn1 hd hd1
  rw [redN_pos hd, redD_pos hd]
  exact kinkeepref32_Lowest.calls k num den _ _ w hk
end Go.Proofs.Ytkbiggmkjbmgoaa.Bk
