/- The reference's weight of a pair. -/
import Derived.Test.YtkbiggmkjbmgoaaR
import Derived.Test.YtkbiggmkjbmgoaaBP
namespace Go.Proofs.Ytkbiggmkjbmgoaa.Bk
open Go.RowKit Go.Proofs.YtkbiggmkjbmgoaaW.PrintWords Go.Proofs.YtkbiggmkjbmgoaaW.PrintLast Go.Proofs.YtkbiggmkjbmgoaaW.PrintMore Go.Proofs.Mp
open Go.Proofs.Ytkbiggmkjbmgoaa.PWI
set_option linter.unusedVariables false
set_option linter.unusedSimpArgs false

/-- With enough steps. -/
def Evw {α : Type} (F : Nat → Option α) (r : α) : Prop := ∃ k0, ∀ k, k0 ≤ k → F k = some r
theorem Evw.step {α : Type} {F G : Nat → Option α} {r : α} (h : Evw F r) (hs : ∀ k, G (k + 1) = F k) : Evw G r := by
  obtain ⟨k0, hk⟩ := h
  refine ⟨k0 + 1, fun k hk' => ?_⟩
  obtain ⟨j, rfl⟩ : ∃ j, k = j + 1 := ⟨k - 1, by omega⟩
  rw [hs j]
  exact hk j (by omega)
theorem rd_l (l : List Int) (i : Nat) (hi : i < l.length) : rd l (i : Int) = l[i] := by
  unfold rd
  rw [Int.toNat_natCast, List.getD_eq_getElem?_getD, List.getElem?_eq_getElem hi]; rfl
/-- The number of halvings. -/
def lim (d m : Int) : Nat := min ((d - m) / 8).toNat 21
theorem half_step (j : Nat) : wrap64 (Int.tdiv ((1048576 / 2 ^ j : Nat) : Int) 2) = ((1048576 / 2 ^ (j + 1) : Nat) : Int) := by
  rw [Nat.pow_succ, ← Nat.div_div_eq_div_mul]
  have h : (1048576 / 2 ^ j : Nat) ≤ 1048576 := Nat.div_le_self _ _
  generalize (1048576 / 2 ^ j : Nat) = q at h ⊢
  rw [Int.tdiv_eq_ediv_of_nonneg (by omega), wrap_in (by unfold In64; omega)]
  omega
theorem half_pos (j : Nat) (h : j ≤ 20) : 0 < 1048576 / 2 ^ j := Nat.div_pos (Nat.le_trans (Nat.pow_le_pow_right (by omega) h) (by decide)) (Nat.two_pow_pos j)
theorem half_lim {d m : Int} (h : m ≤ d) : ((1048576 / 2 ^ lim d m : Nat) : Int) = wt d m := by
  unfold wt lim
  by_cases h2 : (d - m) / 8 ≤ 20
  · rw [if_pos ⟨h, h2⟩, Nat.min_eq_left (by omega)]
    obtain ⟨q, hq⟩ : ∃ q : Nat, (d - m) / 8 = q := ⟨((d - m) / 8).toNat, by omega⟩
    rw [hq, Int.toNat_natCast, show ((20 : Int) - q).toNat = 20 - q from by omega]
    have hq20 : q ≤ 20 := by omega
    have : (1048576 : Nat) = 2 ^ (20 - q) * 2 ^ q := by rw [← Nat.pow_add, show 20 - q + q = 20 from by omega]
    rw [this, Nat.mul_div_cancel _ (Nat.two_pow_pos q)]
    simp
  · rw [if_neg (by omega), Nat.min_eq_right (by omega)]
    decide
theorem w_l1 (l : List Int) (d : Int) (hd : IsDay d) (s : Int) (hs : 0 ≤ s ∧ s ≤ 1000000000000) (i : Nat) (hi : i < l.length) (hil : l.length ≤ 1000) (hm : 0 ≤ l[i] ∧ l[i] ≤ 999999) (r : Int)
    (h : Evw (fun k => kinkeepref32_Weight.l0 k l d (s + wt d l[i]) ((i + 1 : Nat) : Int)) r) :
    ∀ t j : Nat, j + t = lim d l[i] → (d < l[i] → j = 0) → Evw (fun k => kinkeepref32_Weight.l1 k l d s i ((1048576 / 2 ^ j : Nat) : Int) j) r := by
  have hd1 := hd.1
  have hd2 := hd.2
  have hrd := rd_l l i hi
  have hw1 : wrap64 (d - l[i]) = d - l[i] := wrap_in (by unfold In64; omega)
  have hwi : wrap64 ((i : Int) + 1) = ((i + 1 : Nat) : Int) := by rw [wrap_in (by unfold In64; omega)]; omega
  have hq : wrap64 (Int.tdiv (d - l[i]) 8) = Int.tdiv (d - l[i]) 8 := by
    have : Int.tdiv (d - l[i]) 8 ≤ 1000000 ∧ -1000000 ≤ Int.tdiv (d - l[i]) 8 := by
      by_cases h1 : l[i] ≤ d
      · rw [Int.tdiv_eq_ediv_of_nonneg (by omega)]; omega
      · rw [show d - l[i] = -(l[i] - d) from by omega, Int.neg_tdiv, Int.tdiv_eq_ediv_of_nonneg (by omega)]; omega
    exact wrap_in (by unfold In64; omega)
  intro t
  induction t with
  | zero =>
    intro j hj hz
    refine Evw.step h (fun k => ?_)
    rw [kinkeepref32_Weight.l1, if_pos (by omega), if_pos (by omega), hrd, hw1, hq, hwi]
    have hx : (1048576 / 2 ^ j : Nat) ≤ 1048576 := Nat.div_le_self _ _
    have hw2 : wrap64 (s + ((1048576 / 2 ^ j : Nat) : Int)) = s + ((1048576 / 2 ^ j : Nat) : Int) := by
      generalize (1048576 / 2 ^ j : Nat) = q at hx ⊢
      exact wrap_in (by unfold In64; omega)
    by_cases h1 : l[i] ≤ d
    · have e := half_lim h1
      rw [show lim d l[i] = j from by omega] at e
      rw [if_pos h1, hw2, e]
      by_cases h2 : (j : Int) < Int.tdiv (d - l[i]) 8
      · rw [if_pos h2]
        rw [Int.tdiv_eq_ediv_of_nonneg (by omega)] at h2
        have hj21 : j = 21 := by unfold lim at hj; omega
        subst hj21
        rw [if_neg]
        rw [← e]
        decide
      · rw [if_neg h2]
    · have h0 := hz (by omega)
      subst h0
      have h2 : ¬ (((0 : Nat) : Int) < Int.tdiv (d - l[i]) 8) := by
        rw [show d - l[i] = -(l[i] - d) from by omega, Int.neg_tdiv, Int.tdiv_eq_ediv_of_nonneg (by omega)]; omega
      rw [if_neg h2, if_neg h1]
      have : wt d l[i] = 0 := by unfold wt; rw [if_neg (by omega)]
      rw [this, Int.add_zero]
  | succ t ih =>
    intro j hj hz
    have h1 : l[i] ≤ d := by
      unfold lim at hj
      apply Classical.byContradiction
      intro h1
      have := hz (by omega)
      omega
    refine Evw.step (ih (j + 1) (by omega) (fun hc => by omega)) (fun k => ?_)
    have hlt : (j : Int) < Int.tdiv (d - l[i]) 8 := by
      rw [Int.tdiv_eq_ediv_of_nonneg (by omega)]
      unfold lim at hj
      omega
    have hp := half_pos j (by unfold lim at hj; omega)
    rw [kinkeepref32_Weight.l1, if_pos (by omega), if_pos (by omega), hrd, hw1, hq, if_pos hlt, if_pos (by omega), half_step, wrap_in (x := (j : Int) + 1) (by unfold lim at hj; unfold In64; omega)]
    rfl
theorem w_l0 (l : List Int) (d : Int) (hd : IsDay d) (hil : l.length ≤ 1000) (hm : ∀ m ∈ l, 0 ≤ m ∧ m ≤ 999999) : ∀ (e i : Nat) (s : Int), i + e = l.length → 0 ≤ s → s ≤ 1048576 * i →
    Evw (fun k => kinkeepref32_Weight.l0 k l d s i) (s + weightL (l.drop i) d) := by
  intro e
  induction e with
  | zero =>
    intro i s hi _ _
    refine ⟨1, fun k hk => ?_⟩
    obtain ⟨k, rfl⟩ : ∃ j, k = j + 1 := ⟨k - 1, by omega⟩
    simp only [kinkeepref32_Weight.l0]
    rw [if_neg (by omega), List.drop_of_length_le (by omega)]
    simp [weightL]
  | succ e ih =>
    intro i s hi h0 h1
    have hlt : i < l.length := by omega
    have hb := wt_bd d l[i]
    have hdr : l.drop i = l[i] :: l.drop (i + 1) := List.drop_eq_getElem_cons hlt
    have h2 := ih (i + 1) (s + wt d l[i]) (by omega) (by omega) (by omega)
    have e1 : s + weightL (l.drop i) d = s + wt d l[i] + weightL (l.drop (i + 1)) d := by
      rw [hdr]
      unfold weightL
      simp only [List.map_cons, List.sum_cons]
      omega
    rw [e1]
    have h3 := w_l1 l d hd s ⟨h0, by omega⟩ i hlt hil (hm _ (List.getElem_mem hlt)) _ h2 (lim d l[i]) 0 (by omega) (fun _ => rfl)
    refine Evw.step h3 (fun k => ?_)
    simp only [kinkeepref32_Weight.l0]
    rw [if_pos (by omega)]
    rfl
theorem refWeight (A : Option Addr) (c : Nat) (l : List Int) (d : Int) (w : World) (hr : Kd.C (Kd.int .i64) w A l.length l) (hc : l.length ≤ c) (hl : l.length ≤ 1000) (hm : ∀ m ∈ l, 0 ≤ m ∧ m ≤ 999999) (hd : IsDay d) :
    Calls Try.prog 32 #[.slice A l.length c, .int .i64 d] w fun e w' => e = .returned (.int .i64 (weightL l d)) ∧ Below w.heap.size w w' := by
  obtain ⟨k0, hk⟩ := w_l0 l d hd hl hm l.length 0 0 (by omega) (by omega) (by omega)
  have h := hk k0 (Nat.le_refl _)
  rw [List.drop_zero, Int.zero_add] at h
  exact (kinkeepref32_Weight.calls k0 A c l d _ w hr hc h).mono fun e w' ⟨he, hd⟩ => ⟨he, hd.below⟩
theorem ints_l0 (l : List Int) (hl : l.length ≤ 1000) : ∀ (e i : Nat), i + e = l.length → Evw (fun k => kinkeepref04_Ints.l0 k l l i) true := by
  intro e
  induction e with
  | zero =>
    intro i hi
    refine ⟨1, fun k hk => ?_⟩
    obtain ⟨k, rfl⟩ : ∃ j, k = j + 1 := ⟨k - 1, by omega⟩
    simp only [kinkeepref04_Ints.l0]
    rw [if_neg (by omega)]
  | succ e ih =>
    intro i hi
    refine Evw.step (ih (i + 1) (by omega)) (fun k => ?_)
    simp only [kinkeepref04_Ints.l0]
    rw [if_pos (by omega), if_pos (by omega), if_pos (by omega), if_pos trivial, wrap_in (x := (i : Int) + 1) (by unfold In64; omega)]
    rfl
theorem refInts (A A' : Option Addr) (c c' : Nat) (l : List Int) (w : World) (hr : Kd.C (Kd.int .i64) w A l.length l) (hc : l.length ≤ c) (hr' : Kd.C (Kd.int .i64) w A' l.length l) (hc' : l.length ≤ c') (hl : l.length ≤ 1000) :
    Calls Try.prog 33 #[.slice A l.length c, .slice A' l.length c'] w fun e w' => e = .returned (.bool true) ∧ Below w.heap.size w w' := by
  obtain ⟨k0, hk⟩ := ints_l0 l hl l.length 0 (by omega)
  have h : kinkeepref04_Ints.f k0 l l = some true := by
    unfold kinkeepref04_Ints.f
    rw [if_pos rfl]
    exact hk k0 (Nat.le_refl _)
  exact (kinkeepref04_Ints.calls k0 A c l A' c' l _ w hr hc hr' hc' h).mono fun e w' ⟨he, hd⟩ => ⟨he, hd.below⟩
end Go.Proofs.Ytkbiggmkjbmgoaa.Bk
