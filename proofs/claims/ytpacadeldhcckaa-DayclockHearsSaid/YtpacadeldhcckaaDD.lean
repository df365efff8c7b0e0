/- The supported day: plain laws. -/
import Derived.Test.YtpacadeldhcckaaDB
namespace Go.Proofs.Ytpacadeldhcckaa.Dc
open Go.RowKit
set_option linter.unusedVariables false
set_option linter.unusedSimpArgs false

/-- How many devices have told a day that is at least d. -/
def cge (l : List (Bool × Int)) (d : Int) : Nat := l.countP (fun p => p.1 && decide (d ≤ p.2))
/-- What the supported day is. -/
def IsSupp (first quorum : Int) (l : List (Bool × Int)) (s : Int) : Prop := ∀ d : Int, d ≤ s ↔ (d ≤ first ∨ quorum ≤ (cge l d : Int))
theorem IsSupp.uniq {f q : Int} {l : List (Bool × Int)} {s t : Int} (hs : IsSupp f q l s) (ht : IsSupp f q l t) : s = t := by
  have h1 := (ht s).2 ((hs s).1 (Int.le_refl _))
  have h2 := (hs t).2 ((ht t).1 (Int.le_refl _))
  omega
theorem cge_filter (l : List (Bool × Int)) (d : Int) : cge l d = (l.filter (·.1)).countP (fun p => decide (d ≤ p.2)) := by
  unfold cge
  rw [List.countP_filter]
  congr 1
  funext p
  rw [Bool.and_comm]
theorem supp_few {f q : Int} {l : List (Bool × Int)} (h : ((l.filter (·.1)).length : Int) < q) : IsSupp f q l f := by
  intro d
  refine ⟨fun h => .inl h, fun h2 => ?_⟩
  rcases h2 with h2 | h2
  · exact h2
  · rw [cge_filter] at h2
    have := List.countP_le_length (p := fun p : Bool × Int => decide (d ≤ p.2)) (l := l.filter (·.1))
    omega
/-- The element at place q - 1 of a row that falls. -/
theorem supp_many {f : Int} {q : Nat} {l ys : List (Bool × Int)} (hp : ys.Perm (l.filter (·.1))) (hq : 1 ≤ q) (hql : q ≤ ys.length) (hs : ∀ i j : Nat, (hij : i < j) → (hj : j < ys.length) → (ys[j]).2 ≤ (ys[i]'(by omega)).2) :
    IsSupp f q l (max f (ys[q - 1]'(by omega)).2) := by
  have hle : ∀ i j : Nat, (hij : i ≤ j) → (hj : j < ys.length) → (ys[j]).2 ≤ (ys[i]'(by omega)).2 := fun i j hij hj => by
    rcases Nat.lt_or_ge i j with h | h
    · exact hs i j h hj
    · obtain rfl : i = j := by omega
      exact Int.le_refl _
  have key : ∀ d : Int, d ≤ (ys[q - 1]'(by omega)).2 ↔ (q : Int) ≤ (cge l d : Int) := fun d => by
    rw [cge_filter, ← hp.countP_eq]
    have hsplit : ∀ k, ys.countP (fun p => decide (d ≤ p.2)) = (ys.take k).countP (fun p => decide (d ≤ p.2)) + (ys.drop k).countP (fun p => decide (d ≤ p.2)) := fun k => by
      rw [← List.countP_append, List.take_append_drop]
    constructor
    · intro h
      have h1 : (ys.take q).countP (fun p => decide (d ≤ p.2)) = (ys.take q).length := List.countP_eq_length.2 (fun p hp => by
        obtain ⟨i, hi, rfl⟩ := List.mem_iff_getElem.1 hp
        rw [List.length_take] at hi
        rw [List.getElem_take]
        have := hle i (q - 1) (by omega) (by omega)
        exact decide_eq_true (by omega))
      have := hsplit q
      rw [h1, List.length_take] at this
      omega
    · intro h
      apply Classical.byContradiction
      intro hn
      have h1 : (ys.drop (q - 1)).countP (fun p => decide (d ≤ p.2)) = 0 := List.countP_eq_zero.2 (fun p hp => by
        obtain ⟨i, hi, rfl⟩ := List.mem_iff_getElem.1 hp
        rw [List.length_drop] at hi
        rw [List.getElem_drop]
        have := hle (q - 1) (q - 1 + i) (by omega) (by omega)
        simp
        omega)
      have h2 := hsplit (q - 1)
      have h3 := List.countP_le_length (p := fun p : Bool × Int => decide (d ≤ p.2)) (l := ys.take (q - 1))
      rw [List.length_take] at h3
      omega
  intro d
  rw [← key d]
  omega
theorem IsSupp.le {f q : Int} {l : List (Bool × Int)} {s : Int} (h : IsSupp f q l s) : f ≤ s := (h f).2 (.inl (Int.le_refl _))
theorem IsSupp.day {f q : Int} {l : List (Bool × Int)} {s : Int} (h : IsSupp f q l s) (hf : IsDay f) (hq : 1 ≤ q) (hl : ∀ p ∈ l, IsDay p.2) : IsDay s := by
  have h1 := h.le
  unfold IsDay at hf ⊢
  refine ⟨by omega, ?_⟩
  apply Classical.byContradiction
  intro hn
  rcases (h 1000000).1 (by omega) with h2 | h2
  · omega
  · have : cge l 1000000 = 0 := List.countP_eq_zero.2 (fun p hp => by
      have := hl p hp
      unfold IsDay at this
      simp
      intro _
      omega)
    omega
end Go.Proofs.Ytpacadeldhcckaa.Dc
