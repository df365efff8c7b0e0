import Derived.Test.YtkbiggmkjbmgoaaPMeetingstatsComparesx2
import Derived.Test.YtkbiggmkjbmgoaaPMeetingstatsComparesx1
import Derived.Test.YtkbiggmkjbmgoaaP
import Derived.Shelf.Bits.Mul64
namespace Go.Proofs.Ytkbiggmkjbmgoaa.Bk
open Go.RowKit Go.Proofs.YtkbiggmkjbmgoaaW.PrintWords Go.Proofs.YtkbiggmkjbmgoaaW.PrintLast Go.Proofs.YtkbiggmkjbmgoaaW.PrintMore
set_option linter.unusedVariables false
set_option linter.unusedSimpArgs false

/-- comparison of two numbers -/
def cmpI (x y : Int) : Int := if x < y then -1 else if y < x then 1 else 0

theorem cmpI_cases (x y : Int) : (x < y ∧ cmpI x y = -1) ∨ (x = y ∧ cmpI x y = 0) ∨ (y < x ∧ cmpI x y = 1) := by
  unfold cmpI; split
  · left; exact ⟨‹_›, rfl⟩
  · split
    · right; right; exact ⟨‹_›, rfl⟩
    · right; left; exact ⟨by omega, rfl⟩

theorem cmpI_anti (x y : Int) : cmpI y x = - cmpI x y := by
  rcases cmpI_cases x y with ⟨h, e⟩ | ⟨h, e⟩ | ⟨h, e⟩ <;> rcases cmpI_cases y x with ⟨h', e'⟩ | ⟨h', e'⟩ | ⟨h', e'⟩ <;> rw [e, e'] <;> omega

theorem cmpI_sub {x y x' y' : Int} (h : x - y = x' - y') : cmpI x y = cmpI x' y' := by
  rcases cmpI_cases x y with ⟨h1, e⟩ | ⟨h1, e⟩ | ⟨h1, e⟩ <;> rcases cmpI_cases x' y' with ⟨h', e'⟩ | ⟨h', e'⟩ | ⟨h', e'⟩ <;> rw [e, e'] <;> omega

theorem cmp_int (a b : Int) : PMeetingstatsCompares.cmp_Compare_int.f a b = some (cmpI a b) := by
  simp only [PMeetingstatsCompares.cmp_Compare_int.f, PMeetingstatsCompares.cmp_isNaN_int.f, Option.bind_some, bne_self_eq_false, Bool.false_eq_true, if_false, cmpI]
  repeat' split
  all_goals first | rfl | (exfalso; omega)

theorem cmp_u64 (a b : Int) : PMeetingstatsCompares.cmp_Compare_uint64.f a b = some (cmpI a b) := by
  simp only [PMeetingstatsCompares.cmp_Compare_uint64.f, PMeetingstatsCompares.cmp_isNaN_uint64.f, Option.bind_some, bne_self_eq_false, Bool.false_eq_true, if_false, cmpI]
  repeat' split
  all_goals first | rfl | (exfalso; omega)

/-- the two halves of a product -/
theorem mul64 (x y : Nat) (hx : x < 18446744073709551616) (hy : y < 18446744073709551616) :
    PMeetingstatsCompares.bits_Mul64.f x y = some (((x * y / 18446744073709551616 : Nat) : Int), ((x * y % 18446744073709551616 : Nat) : Int)) := by
  obtain ⟨bd, bt, bw, hhi⟩ := Lib.mul64_hi x y hx hy
  have ba := Lib.half_mul_le (a := x / 4294967296) (b := y / 4294967296) (by omega) (by omega)
  have bb := Lib.half_mul_le (a := x / 4294967296) (b := y % 4294967296) (by omega) (by omega)
  have bc := Lib.half_mul_le (a := x % 4294967296) (b := y / 4294967296) (by omega) (by omega)
  have ba' : x / 4294967296 * (y / 4294967296) < 18446744073709551616 := by omega
  have bb' : x / 4294967296 * (y % 4294967296) < 18446744073709551616 := by omega
  have bc' : x % 4294967296 * (y / 4294967296) < 18446744073709551616 := by omega
  have bh1 : x / 4294967296 * (y / 4294967296) + (x / 4294967296 * (y % 4294967296) + x % 4294967296 * (y % 4294967296) / 4294967296) / 4294967296 < 18446744073709551616 := by omega
  have bh : x / 4294967296 * (y / 4294967296) + (x / 4294967296 * (y % 4294967296) + x % 4294967296 * (y % 4294967296) / 4294967296) / 4294967296 + ((x / 4294967296 * (y % 4294967296) + x % 4294967296 * (y % 4294967296) / 4294967296) % 4294967296 + x % 4294967296 * (y / 4294967296)) / 4294967296 < 18446744073709551616 := by omega
  simp only [PMeetingstatsCompares.bits_Mul64.f, Mul64.maskN x hx, Mul64.maskN y hy, Mul64.divN, Mul64.mulN, Mul64.addN, Mul64.wrapN _ bd, Mul64.wrapN _ bb', Mul64.wrapN _ bt, Mul64.maskN _ bt, Mul64.wrapN _ bc', Mul64.wrapN _ bw, Mul64.wrapN _ ba', Mul64.wrapN _ bh1, Mul64.wrapN _ bh, Mul64.wrapM (x * y)]
  rw [hhi]

theorem slices2 (a b c d : Int) : PMeetingstatsCompares.slices_Compare_uint64_uint64.f 4 [a, b] [c, d] = some (if cmpI a c = 0 then cmpI b d else cmpI a c) := by
  have w1 : wrap64 (0 + 1) = 1 := wrap_in (x := 0 + 1) ⟨by decide, by decide⟩
  have w2 : wrap64 (1 + 1) = 2 := wrap_in (x := 1 + 1) ⟨by decide, by decide⟩
  have e0 : rd [a, b] 0 = a := rfl
  have e1 : rd [c, d] 0 = c := rfl
  have e2 : rd [a, b] 1 = b := rfl
  have e3 : rd [c, d] 1 = d := rfl
  simp (config := {decide := true}) only [PMeetingstatsCompares.slices_Compare_uint64_uint64.f, PMeetingstatsCompares.slices_Compare_uint64_uint64.l0, cmp_u64, List.length_cons, List.length_nil, Option.bind_some, if_true, if_false, w1, w2, e0, e1, e2, e3]
  by_cases h : cmpI a c = 0
  · by_cases h' : cmpI b d = 0
    · simp only [h, h', if_true]
    · simp only [h, h', if_true, if_false]
  · simp only [h, if_false]

theorem lexN (p q : Nat) : (if cmpI ((p / 18446744073709551616 : Nat) : Int) ((q / 18446744073709551616 : Nat) : Int) = 0 then cmpI ((p % 18446744073709551616 : Nat) : Int) ((q % 18446744073709551616 : Nat) : Int) else cmpI ((p / 18446744073709551616 : Nat) : Int) ((q / 18446744073709551616 : Nat) : Int)) = cmpI (p : Int) (q : Int) := by
  generalize hp : p / 18446744073709551616 = p1
  generalize hq : q / 18446744073709551616 = q1
  generalize hp2 : p % 18446744073709551616 = p2
  generalize hq2 : q % 18446744073709551616 = q2
  rcases cmpI_cases (p1 : Int) (q1 : Int) with ⟨h, e⟩ | ⟨h, e⟩ | ⟨h, e⟩ <;> rcases cmpI_cases (p2 : Int) (q2 : Int) with ⟨h', e'⟩ | ⟨h', e'⟩ | ⟨h', e'⟩ <;> rcases cmpI_cases (p : Int) (q : Int) with ⟨h3, e3⟩ | ⟨h3, e3⟩ | ⟨h3, e3⟩ <;> simp only [e, e', e3] <;> first | rfl | (exfalso; omega)

/-- the code's way: by the signs, then by the products of the absolute values -/
theorem byParts (an ad bn bd : Int) (ha : 0 < ad) (hb : 0 < bd) :
    (if cmpI an 0 ≠ cmpI bn 0 then cmpI (cmpI an 0) (cmpI bn 0) else cmpI an 0 * cmpI ((an.natAbs * bd.natAbs : Nat) : Int) ((bn.natAbs * ad.natAbs : Nat) : Int)) = cmpI (an * bd) (bn * ad) := by
  have ed : ((bd.natAbs : Nat) : Int) = bd := by omega
  have ea : ((ad.natAbs : Nat) : Int) = ad := by omega
  rw [Int.natCast_mul, Int.natCast_mul, ed, ea]
  have pos : ∀ x y : Int, 0 < x → 0 < y → 0 < x * y := fun x y hx hy => Int.mul_pos hx hy
  have neg : ∀ x y : Int, x < 0 → 0 < y → x * y < 0 := fun x y hx hy => Int.mul_neg_of_neg_of_pos hx hy
  have fin : ∀ P Q : Int, (P < Q → cmpI P Q = -1) ∧ (P = Q → cmpI P Q = 0) ∧ (Q < P → cmpI P Q = 1) := by
    intro P Q; unfold cmpI
    exact ⟨fun h => if_pos h, fun h => by rw [if_neg (by omega), if_neg (by omega)], fun h => by rw [if_neg (by omega), if_pos h]⟩
  rcases cmpI_cases an 0 with ⟨h, e⟩ | ⟨h, e⟩ | ⟨h, e⟩ <;> rcases cmpI_cases bn 0 with ⟨h', e'⟩ | ⟨h', e'⟩ | ⟨h', e'⟩ <;> rw [e, e']
  · rw [if_neg (by simp)]
    have e1 : ((an.natAbs : Nat) : Int) = -an := by omega
    have e2 : ((bn.natAbs : Nat) : Int) = -bn := by omega
    rw [e1, e2, Int.neg_mul, Int.one_mul, ← cmpI_anti]
    exact cmpI_sub (by rw [Int.neg_mul, Int.neg_mul]; omega)
  · have := neg _ _ h hb
    rw [h', Int.zero_mul, if_pos (by decide), (fin (an * bd) 0).1 this]; decide
  · have := neg _ _ h hb
    have := pos _ _ h' ha
    rw [if_pos (by decide), (fin (an * bd) (bn * ad)).1 (by omega)]; decide
  · have := neg _ _ h' ha
    rw [h, Int.zero_mul, Int.zero_mul, if_pos (by decide), (fin 0 (bn * ad)).2.2 this]; decide
  · rw [h, h']; simp [cmpI]
  · have := pos _ _ h' ha
    rw [h, Int.zero_mul, Int.zero_mul, if_pos (by decide), (fin 0 (bn * ad)).1 this]; decide
  · have := pos _ _ h hb
    have := neg _ _ h' ha
    rw [if_pos (by decide), (fin (an * bd) (bn * ad)).2.2 (by omega)]; decide
  · have := pos _ _ h hb
    rw [h', Int.zero_mul, if_pos (by decide), (fin (an * bd) 0).2.2 this]; decide
  · rw [if_neg (by simp)]
    have e1 : ((an.natAbs : Nat) : Int) = an := by omega
    have e2 : ((bn.natAbs : Nat) : Int) = bn := by omega
    rw [e1, e2, Int.one_mul]

/-- the reference's floor -/
theorem floor_yes (a b : Int) (ha : In64 a) (hb : 0 < b) (hb2 : In64 b) :
    ∃ p x, PMeetingstatsCompares.kinkeepref32_Floor.f a b = some (p, x) ∧ a = p * b + x ∧ 0 ≤ x ∧ x < b ∧ In64 x := by
  obtain ⟨ha1, ha2⟩ := ha
  obtain ⟨hb1, hb2⟩ := hb2
  have h1 := Int.mul_tdiv_add_tmod a b
  have h2 : Int.tmod a b < b := Int.tmod_lt_of_pos a hb
  have h3 : -b < Int.tmod a b := by
    have := Int.lt_tmod_of_pos a hb
    omega
  have hq : -9223372036854775808 ≤ Int.tdiv a b ∧ Int.tdiv a b ≤ 9223372036854775807 ∧ (Int.tmod a b < 0 → -9223372036854775808 < Int.tdiv a b) := by
    have hd := Int.natAbs_tdiv_le_natAbs a b
    refine ⟨?_, ?_, ?_⟩
    · omega
    · by_cases hz : a = -9223372036854775808
      · have : ¬ 1 ≤ Int.tdiv a b := by
          intro ht
          have : b * 1 ≤ b * Int.tdiv a b := Int.mul_le_mul_of_nonneg_left ht (by omega)
          omega
        omega
      · omega
    · intro hm
      by_cases hone : b = 1
      · subst hone; simp at hm
      · by_cases ht : Int.tdiv a b = -9223372036854775808
        · exfalso
          rw [ht] at h1
          have : b * -9223372036854775808 ≤ 2 * -9223372036854775808 := Int.mul_le_mul_of_nonpos_right (by omega) (by omega)
          omega
        · omega
  obtain ⟨q1, q2, q3⟩ := hq
  unfold PMeetingstatsCompares.kinkeepref32_Floor.f
  rw [if_neg (by omega), wrap_in ⟨q1, q2⟩]
  split
  · rename_i hm
    have := q3 hm
    rw [wrap_in ⟨by omega, by omega⟩, wrap_in ⟨by omega, by omega⟩]
    refine ⟨_, _, rfl, ?_, by omega, by omega, by omega, by omega⟩
    rw [Int.sub_mul, Int.one_mul, Int.mul_comm (a.tdiv b) b]; omega
  · refine ⟨_, _, rfl, ?_, by omega, by omega, by omega, by omega⟩
    rw [Int.mul_comm (a.tdiv b) b]; omega

/-- the reference's comparison -/
theorem refCompare_yes : ∀ k : Nat, ∀ a b c d : Int, In64 a → In64 b → In64 c → In64 d → 0 < b → 0 < d → b + d ≤ k →
    PMeetingstatsCompares.kinkeepref32_Compare.f (2 * k) a b c d = some (cmpI (a * d) (c * b)) := by
  intro k
  induction k with
  | zero => intro a b c d _ _ _ _ h1 h2 h3; omega
  | succ k ih =>
    intro a b c d ha hb hc hd h1 h2 h3
    obtain ⟨p, x, ep, ea, x0, xb, hx⟩ := floor_yes a b ha h1 hb
    obtain ⟨q, y, eq, ec, y0, yb, hy⟩ := floor_yes c d hc h2 hd
    rw [show 2 * (k + 1) = 2 * k + 1 + 1 from by omega]
    simp only [PMeetingstatsCompares.kinkeepref32_Compare.f, PMeetingstatsCompares.kinkeepref32_Compare.j0, ep, eq, Option.bind_some]
    have hsub : a * d - c * b = (p - q) * (b * d) + (x * d - y * b) := by
      rw [ea, ec]; simp only [Int.add_mul, Int.sub_mul]
      rw [Int.mul_assoc p b d, Int.mul_assoc q d b, Int.mul_comm d b]; omega
    have xd : x * d < b * d := Int.mul_lt_mul_of_pos_right xb h2
    have yd : y * b < b * d := by rw [Int.mul_comm b d]; exact Int.mul_lt_mul_of_pos_right yb h1
    have xd0 : 0 ≤ x * d := Int.mul_nonneg x0 (by omega)
    have yd0 : 0 ≤ y * b := Int.mul_nonneg y0 (by omega)
    split
    · have : (p - q) * (b * d) ≤ (-1) * (b * d) := Int.mul_le_mul_of_nonneg_right (by omega) (by omega)
      rw [cmpI, if_pos (by omega)]
    · split
      · have : 1 * (b * d) ≤ (p - q) * (b * d) := Int.mul_le_mul_of_nonneg_right (by omega) (by omega)
        rw [cmpI, if_neg (by omega), if_pos (by omega)]
      · have hpq : p = q := by omega
        subst hpq
        rw [Int.sub_self, Int.zero_mul, Int.zero_add] at hsub
        rw [cmpI_sub hsub]
        by_cases hx0 : x = 0
        · subst hx0
          by_cases hy0 : y = 0
          · subst hy0; simp [cmpI]
          · have : 0 < y * b := Int.mul_pos (by omega) h1
            simp only [if_true, Int.zero_mul, beq_iff_eq, hy0, if_false]
            rw [cmpI, if_pos this]
        · simp only [hx0, if_false, Bool.false_eq_true]
          by_cases hy0 : y = 0
          · subst hy0
            have : 0 < x * d := Int.mul_pos (by omega) h2
            simp only [if_true, Int.zero_mul]
            rw [cmpI, if_neg (by omega), if_pos this]
          · simp only [hy0, if_false]
            rw [ih d y b x hd hy hb hx (by omega) (by omega) (by omega), Option.bind_some, Int.mul_comm d x, Int.mul_comm b y]

end Go.Proofs.Ytkbiggmkjbmgoaa.Bk
