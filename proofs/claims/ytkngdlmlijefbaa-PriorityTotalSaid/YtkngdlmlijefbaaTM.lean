/- What the printed functions compute: validity, few, all, same. Plain. -/
import Derived.Test.YtkngdlmlijefbaaTL
import Derived.Test.YtkngdlmlijefbaaTB
import Derived.Test.YtkngdlmlijefbaaTC
namespace Go.Proofs.Ytkngdlmlijefbaa.Pq
open Go.RowKit Go.Proofs.YtkngdlmlijefbaaW.PrintWords
open Go.Proofs.Ytkngdlmlijefbaa.PPriorityOrder
set_option linter.unusedVariables false
set_option linter.unusedSimpArgs false

def ig (a b : Int) : Int := (Nat.gcd a.natAbs b.natAbs : Int)
theorem ig_step {a b : Int} (ha : 0 ≤ a) (hb : 0 ≤ b) : ig b (Int.tmod a b) = ig a b := by
  unfold ig
  obtain ⟨m, rfl⟩ := Int.eq_ofNat_of_zero_le ha
  obtain ⟨n, rfl⟩ := Int.eq_ofNat_of_zero_le hb
  have : Int.tmod (m : Int) (n : Int) = ((m % n : Nat) : Int) := by
    rw [Int.tmod_eq_emod_of_nonneg (by omega)]; rfl
  rw [this]
  simp only [Int.natAbs_natCast]
  rw [Nat.gcd_comm m n]
  exact (Nat.gcd_rec n m ▸ Nat.gcd_comm (m % n) n ▸ rfl)
theorem ig_zero {a : Int} (ha : 0 ≤ a) : ig a 0 = a := by
  unfold ig
  simp
  omega
def chB (n d : Int) : Bool := decide ((1 ≤ d ∧ d ≤ 1073741824) ∧ 0 ≤ n ∧ n ≤ d) && (ig n d == 1)
def vB (t : S32) : Bool := decide (t.f0.f0.size = 32) && (decide (0 ≤ t.f0.f1 ∧ t.f0.f1 ≤ 15) && (decide (0 ≤ t.f1 ∧ t.f1 ≤ 1048576) && (decide (-16 ≤ t.f2 ∧ t.f2 ≤ 16) && (chB t.f3.f0 t.f3.f1 && decide (0 ≤ t.f4 ∧ t.f4 ≤ 999999)))))
theorem vB_iff (t : S32) : vB t = true ↔ Vt t := by
  unfold vB chB
  simp only [Bool.and_eq_true, decide_eq_true_eq, beq_iff_eq]
  constructor
  · rintro ⟨h1, ⟨h2, h3⟩, ⟨h4, h5⟩, ⟨h6, h7⟩, ⟨⟨⟨h8, h9⟩, h10, h11⟩, h12⟩, h13, h14⟩
    exact ⟨h1, h2, by omega, h4, h5, h6, h7, h8, h9, h10, h11, by unfold ig at h12; omega, h13, h14⟩
  · intro h
    exact ⟨h.stripe, ⟨h.i0, by have := h.i1; omega⟩, ⟨h.s0, h.s1⟩, ⟨h.p0, h.p1⟩, ⟨⟨⟨h.d0, h.d1⟩, h.n0, h.n1⟩, by unfold ig; rw [h.low]; rfl⟩, h.y0, h.y1⟩
theorem chance_l0 (d : Nat) : ∀ (k : Nat) (a b : Int), 0 ≤ a → 0 ≤ b → b = d → d < k → priority_chance.l0 k a b = some (ig a b == 1) := by
  induction d using Nat.strongRecOn with
  | ind d ih =>
    intro k a b ha hb hd hk
    obtain ⟨k, rfl⟩ : ∃ m, k = m + 1 := ⟨k - 1, by omega⟩
    simp only [priority_chance.l0]
    by_cases h0 : b = 0
    · rw [if_pos h0, h0, ig_zero ha]
    · rw [if_neg h0]
      have h1 : 0 ≤ Int.tmod a b := Int.tmod_nonneg b ha
      have h2 : Int.tmod a b < b := Int.tmod_lt_of_pos a (by omega)
      rw [ih (Int.tmod a b).toNat (by omega) k b (Int.tmod a b) hb h1 (by omega) (by omega), ig_step ha hb]
theorem gcd_l0 (d : Nat) : ∀ (k : Nat) (a b : Int), 0 ≤ a → 0 ≤ b → b = d → d < k → kinkeepref41_gcd.l0 k a b = some (ig a b) := by
  induction d using Nat.strongRecOn with
  | ind d ih =>
    intro k a b ha hb hd hk
    obtain ⟨k, rfl⟩ : ∃ m, k = m + 1 := ⟨k - 1, by omega⟩
    simp only [kinkeepref41_gcd.l0]
    by_cases h0 : b = 0
    · rw [if_neg (by omega), h0, ig_zero ha]
    · rw [if_pos (by omega), if_neg h0]
      have h1 : 0 ≤ Int.tmod a b := Int.tmod_nonneg b ha
      have h2 : Int.tmod a b < b := Int.tmod_lt_of_pos a (by omega)
      rw [ih (Int.tmod a b).toNat (by omega) k b (Int.tmod a b) hb h1 (by omega) (by omega), ig_step ha hb]
theorem chance_f (k : Nat) (hk : 1073741830 ≤ k) (n d : Int) : priority_chance.f k n d = some (chB n d) := by
  obtain ⟨k, rfl⟩ : ∃ m, k = m + 1 := ⟨k - 1, by omega⟩
  unfold priority_chance.f
  simp only [priority_chance.j0, if_true]
  have hc : ¬ ((1 ≤ d ∧ d ≤ 1073741824) ∧ 0 ≤ n ∧ n ≤ d) → chB n d = false := fun h => by unfold chB; rw [decide_eq_false h]; rfl
  by_cases h1 : d < 1
  · rw [if_pos h1, hc (by omega)]
  rw [if_neg h1]
  by_cases h2 : d > 1073741824
  · rw [if_pos h2, hc (by omega)]
  rw [if_neg h2]
  by_cases h3 : n < 0
  · rw [if_pos h3, hc (by omega)]
  rw [if_neg h3]
  by_cases h4 : n > d
  · rw [decide_eq_true h4, if_pos rfl, hc (by omega)]
  · rw [decide_eq_false h4, if_neg (by simp), chance_l0 d.toNat k n d (by omega) (by omega) (by omega) (by omega)]
    unfold chB
    rw [decide_eq_true (show (1 ≤ d ∧ d ≤ 1073741824) ∧ 0 ≤ n ∧ n ≤ d from by omega)]
    rfl
theorem within_f (a lo hi : Int) : priority_within.f a lo hi = some (decide (lo ≤ a ∧ a ≤ hi)) := by
  unfold priority_within.f
  by_cases h : a ≥ lo
  · rw [if_pos h]
    have : lo ≤ a := h
    simp [this]
  · rw [if_neg h, decide_eq_false (by omega)]
theorem valid_f (k : Nat) (hk : 1073741830 ≤ k) (t : S32) : priority_valid.f k t.f0.f0 t.f0.f1 t.f1 t.f2 t.f3.f0 t.f3.f1 t.f4 = some (vB t) := by
  unfold priority_valid.f vB
  simp only [within_f, chance_f k hk, Option.bind_some]
  have hs : (t.f0.f0.size : Int) = 32 ↔ t.f0.f0.size = 32 := by omega
  simp only [hs]
  by_cases h1 : t.f0.f0.size = 32
  · rw [if_pos h1, decide_eq_true h1]
    cases decide (0 ≤ t.f0.f1 ∧ t.f0.f1 ≤ 15) <;> cases decide (0 ≤ t.f1 ∧ t.f1 ≤ 1048576) <;> cases decide (-16 ≤ t.f2 ∧ t.f2 ≤ 16) <;> cases chB t.f3.f0 t.f3.f1 <;> cases decide (0 ≤ t.f4 ∧ t.f4 ≤ 999999) <;> rfl
  · rw [if_neg h1, decide_eq_false h1]; rfl
/-- The task as the reference has it. -/
def p35 (t : S32) : S35 := ⟨t.f0, t.f1, t.f2, t.f3, t.f4⟩
theorem p35_inj {a b : S32} (h : p35 a = p35 b) : a = b := by
  obtain ⟨a0, a1, a2, a3, a4⟩ := a
  obtain ⟨b0, b1, b2, b3, b4⟩ := b
  unfold p35 at h
  simp only [S35.mk.injEq] at h
  obtain ⟨r0, r1, r2, r3, r4⟩ := h
  subst r0 r1 r2 r3 r4
  rfl
theorem Valid_f (k : Nat) (hk : 1073741830 ≤ k) (t : S32) : kinkeepref41_Valid.f k t.f0.f0 t.f0.f1 t.f1 t.f2 t.f3.f0 t.f3.f1 t.f4 = some (vB t) := by
  unfold kinkeepref41_Valid.f
  have hF : ¬ Vt t → vB t = false := fun h => Bool.eq_false_iff.2 (fun e => h ((vB_iff t).1 e))
  by_cases h1 : (t.f0.f0.size : Int) = 32
  · rw [if_pos h1]
    by_cases h2 : t.f0.f1 ≥ 0
    · rw [if_pos h2]
      by_cases h3 : t.f0.f1 < 16
      · rw [if_pos h3]
        by_cases h4 : t.f1 ≥ 0
        · rw [if_pos h4]
          by_cases h5 : t.f1 ≤ 1048576
          · rw [if_pos h5]
            by_cases h6 : t.f2 ≥ (-16)
            · rw [if_pos h6]
              by_cases h7 : t.f2 ≤ 16
              · rw [if_pos h7]
                by_cases h8 : t.f3.f1 ≥ 1
                · rw [if_pos h8]
                  by_cases h9 : t.f3.f1 ≤ 1073741824
                  · rw [if_pos h9]
                    by_cases h10 : t.f3.f0 ≥ 0
                    · rw [if_pos h10]
                      by_cases h11 : t.f3.f0 ≤ t.f3.f1
                      · rw [if_pos h11, show kinkeepref41_gcd.f k t.f3.f0 t.f3.f1 = some (ig t.f3.f0 t.f3.f1) from gcd_l0 t.f3.f1.toNat k _ _ (by omega) (by omega) (by omega) (by omega), Option.bind_some]
                        by_cases h12 : ig t.f3.f0 t.f3.f1 = 1
                        · rw [if_pos h12]
                          by_cases h13 : t.f4 ≥ 0
                          · rw [if_pos h13]
                            by_cases h14 : t.f4 ≤ 999999
                            · rw [decide_eq_true h14, (vB_iff t).2 ⟨by omega, h2, h3, h4, h5, h6, h7, h8, h9, h10, h11, by unfold ig at h12; omega, h13, h14⟩]
                            · rw [decide_eq_false h14, hF fun h => h14 h.y1]
                          · rw [if_neg h13, hF fun h => h13 h.y0]
                        · rw [if_neg h12, hF fun h => h12 (by unfold ig; rw [h.low]; rfl)]
                      · rw [if_neg h11, hF fun h => h11 h.n1]
                    · rw [if_neg h10, hF fun h => h10 h.n0]
                  · rw [if_neg h9, hF fun h => h9 h.d1]
                · rw [if_neg h8, hF fun h => h8 h.d0]
              · rw [if_neg h7, hF fun h => h7 h.p1]
            · rw [if_neg h6, hF fun h => h6 h.p0]
          · rw [if_neg h5, hF fun h => h5 h.s1]
        · rw [if_neg h4, hF fun h => h4 h.s0]
      · rw [if_neg h3, hF fun h => h3 h.i1]
    · rw [if_neg h2, hF fun h => h2 h.i0]
  · rw [if_neg h1, hF fun h => h1 (by have := h.stripe; omega)]
theorem rd35 {l : List S32} {i : Nat} (h : i < l.length) : rd_T35 (l.map p35) (i : Int) = p35 (l[i]) := by
  unfold rd_T35
  rw [Int.toNat_natCast, List.getD_eq_getElem?_getD, List.getElem?_eq_getElem (by simpa using h)]
  simp
theorem rd32 {l : List S32} {i : Nat} (h : i < l.length) : rd_T32 l (i : Int) = l[i] := by
  unfold rd_T32
  rw [Int.toNat_natCast, List.getD_eq_getElem?_getD, List.getElem?_eq_getElem h]
  rfl
theorem wrap_succ {i n : Nat} (h : i < n) (hn : n ≤ 9223372036854775807) : wrap64 ((i : Int) + 1) = ((i + 1 : Nat) : Int) := by unfold wrap64; omega
theorem valids_l0 (l : List S32) (hn : l.length ≤ 1000) : ∀ (d i k : Nat), i + d = l.length → d + 1073741831 < k → kinkeepref41_valid.l0 k (l.map p35) (l.length : Int) (i : Int) = some ((l.drop i).all vB) := by
  intro d
  induction d with
  | zero =>
    intro i k hi hk
    obtain ⟨k, rfl⟩ : ∃ m, k = m + 1 := ⟨k - 1, by omega⟩
    simp only [kinkeepref41_valid.l0]
    rw [if_neg (by omega), List.drop_of_length_le (by omega)]
    rfl
  | succ d ih =>
    intro i k hi hk
    obtain ⟨k, rfl⟩ : ∃ m, k = m + 1 := ⟨k - 1, by omega⟩
    have hlt : i < l.length := by omega
    simp only [kinkeepref41_valid.l0]
    rw [if_pos (by omega), if_pos (by omega), if_pos (by rw [List.length_map]; omega), rd35 hlt, wrap_succ hlt (by omega)]
    have hv := Valid_f k (by omega) l[i]
    rw [show kinkeepref41_Valid.f k (p35 l[i]).f0.f0 (p35 l[i]).f0.f1 (p35 l[i]).f1 (p35 l[i]).f2 (p35 l[i]).f3.f0 (p35 l[i]).f3.f1 (p35 l[i]).f4 = some (vB l[i]) from hv, Option.bind_some, List.drop_eq_getElem_cons hlt, List.all_cons]
    cases vB l[i] with
    | true => rw [if_pos rfl, ih (i + 1) k (by omega) (by omega)]; rfl
    | false => rw [if_neg (by simp)]; rfl
theorem valids_f (l : List S32) (hn : l.length ≤ 1000) (k : Nat) (hk : 1073742900 ≤ k) : kinkeepref41_valid.f k (l.map p35) = some (l.all vB) := by
  unfold kinkeepref41_valid.f
  have := valids_l0 l hn l.length 0 k (by omega) (by omega)
  simpa using this
theorem all_l0 (l : List S32) (hn : l.length ≤ 1000) : ∀ (d i k : Nat), i + d = l.length → d < k → kinkeeplaw41_all.l0 k ((l.take i).map p35) l (l.length : Int) (i : Int) = some (l.map p35) := by
  intro d
  induction d with
  | zero =>
    intro i k hi hk
    obtain ⟨k, rfl⟩ : ∃ m, k = m + 1 := ⟨k - 1, by omega⟩
    simp only [kinkeeplaw41_all.l0]
    rw [if_neg (by omega), List.take_of_length_le (by omega)]
  | succ d ih =>
    intro i k hi hk
    obtain ⟨k, rfl⟩ : ∃ m, k = m + 1 := ⟨k - 1, by omega⟩
    have hlt : i < l.length := by omega
    have hlen : ((l.take i).map p35).length ≤ 1000 := by rw [List.length_map, List.length_take]; omega
    simp only [kinkeeplaw41_all.l0]
    rw [if_pos (by omega), if_pos (by omega), if_pos (by omega), rd32 hlt, wrap_succ hlt (by omega)]
    unfold kinkeeplaw41_plain.f
    simp only [Option.bind_some]
    rw [if_pos (by omega)]
    have e : (l.take i).map p35 ++ [(⟨⟨l[i].f0.f0, l[i].f0.f1⟩, l[i].f1, l[i].f2, ⟨l[i].f3.f0, l[i].f3.f1⟩, l[i].f4⟩ : S35)] = (l.take (i + 1)).map p35 := by
      rw [List.take_succ_eq_append_getElem hlt, List.map_append]
      rfl
    rw [e]
    exact ih (i + 1) k (by omega) (by omega)
theorem all_f (l : List S32) (hn : l.length ≤ 1000) (k : Nat) (hk : 1001 ≤ k) : kinkeeplaw41_all.f k l = some (l.map p35) := by
  unfold kinkeeplaw41_all.f
  have := all_l0 l hn l.length 0 k (by omega) (by omega)
  simpa using this
theorem same_l0 (l : List S32) (hn : l.length ≤ 1000) : ∀ (d i k : Nat), i + d = l.length → d < k → kinkeeplaw41_same.l0 k l (l.map p35) (l.length : Int) (i : Int) = some true := by
  intro d
  induction d with
  | zero =>
    intro i k hi hk
    obtain ⟨k, rfl⟩ : ∃ m, k = m + 1 := ⟨k - 1, by omega⟩
    simp only [kinkeeplaw41_same.l0]
    rw [if_neg (by omega)]
  | succ d ih =>
    intro i k hi hk
    obtain ⟨k, rfl⟩ : ∃ m, k = m + 1 := ⟨k - 1, by omega⟩
    have hlt : i < l.length := by omega
    simp only [kinkeeplaw41_same.l0]
    rw [if_pos (by omega), if_pos (by omega), if_pos (by omega), rd32 hlt, rd35 hlt, wrap_succ hlt (by omega)]
    unfold kinkeeplaw41_plain.f
    simp only [Option.bind_some]
    rw [if_pos (by rw [List.length_map]; omega), if_neg (by simp [p35])]
    exact ih (i + 1) k (by omega) (by omega)
theorem same_f (l : List S32) (hn : l.length ≤ 1000) (k : Nat) (hk : 1001 ≤ k) : kinkeeplaw41_same.f k l (l.map p35) = some true := by
  unfold kinkeeplaw41_same.f
  rw [if_pos (by rw [List.length_map])]
  have := same_l0 l hn l.length 0 k (by omega) (by omega)
  simpa using this
/-- At most twenty tasks, with no long stripe. -/
def fewB (l : List S32) : Bool := decide (l.length ≤ 20) && l.all (fun t => decide (t.f0.f0.size ≤ 64))
theorem few_l1 (x7 : List (List S32)) (x8 x9 : Int) (l : List S32) (hn : l.length ≤ 20) (r : Option Bool) : ∀ (d i k m : Nat), i + d = l.length → k = d + 1 + m → (∀ j, kinkeeplaw41_few.l0 (m + j) x7 x8 (wrap64 (x9 + 1)) = r) →
    kinkeeplaw41_few.l1 k x7 x8 x9 l (l.length : Int) (i : Int) = if (l.drop i).all (fun t => decide (t.f0.f0.size ≤ 64)) = true then r else some false := by
  intro d
  induction d with
  | zero =>
    intro i k m hi hk hr
    subst hk
    rw [show 0 + 1 + m = m + 0 + 1 from by omega]
    simp only [kinkeeplaw41_few.l1]
    have h0 := hr 0
    rw [Nat.add_zero] at h0
    rw [if_neg (by omega), List.drop_of_length_le (by omega), h0]
    rfl
  | succ d ih =>
    intro i k m hi hk hr
    subst hk
    rw [show d + 1 + 1 + m = (d + 1 + m) + 1 from by omega]
    have hlt : i < l.length := by omega
    simp only [kinkeeplaw41_few.l1]
    rw [if_pos (by omega), if_pos (by omega), if_pos (by omega), rd32 hlt, wrap_succ hlt (by omega), List.drop_eq_getElem_cons hlt, List.all_cons]
    by_cases h : (l[i].f0.f0.size : Int) > 64
    · rw [if_pos h, decide_eq_false (by omega)]; rfl
    · rw [if_neg h, decide_eq_true (by omega), Bool.true_and]
      exact ih (i + 1) _ m (by omega) rfl hr
theorem few_step (x7 : List (List S32)) (n : Nat) (hn7 : x7.length ≤ 5) (i : Nat) (hi : i < x7.length) (r : Option Bool) (m k : Nat) (hk : 23 + m ≤ k) (hr : ∀ j, kinkeeplaw41_few.l0 (m + j) x7 (x7.length : Int) ((i + 1 : Nat) : Int) = r) :
    kinkeeplaw41_few.l0 k x7 (x7.length : Int) (i : Int) = if fewB (x7.getD i []) = true then r else some false := by
  obtain ⟨k, rfl⟩ : ∃ m, k = m + 1 := ⟨k - 1, by omega⟩
  simp only [kinkeeplaw41_few.l0]
  rw [if_pos (by omega), if_pos (by omega), if_pos (by omega)]
  have hrd : rd_L7 x7 (i : Int) = x7.getD i [] := by unfold rd_L7; rw [Int.toNat_natCast]
  rw [hrd]
  generalize x7.getD i [] = l
  by_cases h : (l.length : Int) > 20
  · rw [if_pos h]
    have : fewB l = false := by unfold fewB; rw [decide_eq_false (by omega)]; rfl
    rw [this]; rfl
  · rw [if_neg h]
    have := few_l1 x7 (x7.length : Int) (i : Int) l (by omega) r l.length 0 k (k - l.length - 1) (by omega) (by omega) (fun j => by
      rw [wrap_succ hi (by omega), show k - l.length - 1 + j = m + (k - l.length - 1 + j - m) from by omega]
      exact hr _)
    rw [show ((0 : Nat) : Int) = 0 from rfl] at this
    rw [this]
    unfold fewB
    rw [decide_eq_true (by omega), Bool.true_and, List.drop_zero]
theorem few_1 (l : List S32) (k : Nat) (hk : 100 ≤ k) : kinkeeplaw41_few.f k [l] = some (fewB l) := by
  unfold kinkeeplaw41_few.f
  have h1 := few_step [l] 0 (by simp) 0 (by simp) (some true) 1 k (by omega) (fun j => by
    rw [show 1 + j = j + 1 from by omega]
    simp only [kinkeeplaw41_few.l0]
    rw [if_neg (by simp)])
  rw [show ((0 : Nat) : Int) = 0 from rfl] at h1
  rw [h1]
  show (if fewB l = true then _ else _) = _
  cases fewB l <;> rfl
theorem few_2 (a b : List S32) (k : Nat) (hk : 100 ≤ k) : kinkeeplaw41_few.f k [a, b] = some (fewB a && fewB b) := by
  unfold kinkeeplaw41_few.f
  have h1 := few_step [a, b] 0 (by simp) 0 (by simp) (some (fewB b)) 30 k (by omega) (fun j => by
    have h2 := few_step [a, b] 0 (by simp) 1 (by simp) (some true) 1 (30 + j) (by omega) (fun j => by
      rw [show 1 + j = j + 1 from by omega]
      simp only [kinkeeplaw41_few.l0]
      rw [if_neg (by simp)])
    rw [show ((0 + 1 : Nat) : Int) = ((1 : Nat) : Int) from rfl, h2]
    show (if fewB b = true then _ else _) = _
    cases fewB b <;> rfl)
  rw [show ((0 : Nat) : Int) = 0 from rfl] at h1
  rw [h1]
  show (if fewB a = true then _ else _) = _
  cases fewB a <;> rfl
/-- The law's valid. -/
theorem lawvalid_f (t : S32) (k : Nat) (hk : 1073741840 ≤ k) : kinkeeplaw41_valid.f k t.f0.f0 t.f0.f1 t.f1 t.f2 t.f3.f0 t.f3.f1 t.f4 = some (vB t) := by
  unfold kinkeeplaw41_valid.f
  have e : (⟨⟨t.f0.f0, t.f0.f1⟩, t.f1, t.f2, ⟨t.f3.f0, t.f3.f1⟩, t.f4⟩ : S32) = t := rfl
  simp only [e, kinkeeplaw41_plain.f, Option.bind_some, few_1 [t] k (by omega), Valid_f k (by omega) t]
  have : vB t = true → fewB [t] = true := fun h => by
    have := ((vB_iff t).1 h).stripe
    simp [fewB, this]
  cases h : vB t with
  | true => rw [if_pos (this h)]
  | false => cases fewB [t] <;> rfl
end Go.Proofs.Ytkngdlmlijefbaa.Pq
