/- Plain laws: what the reference's days, recent days, powers and chances are; a book's days are the reference's. -/
import Derived.Test.YtkbiggmkjbmgoaaH
namespace Go.Proofs.Ytkbiggmkjbmgoaa.Bk
open Go.RowKit Go.Proofs.YtkbiggmkjbmgoaaW.PrintWords Go.Proofs.YtkbiggmkjbmgoaaW.PrintLast Go.Proofs.YtkbiggmkjbmgoaaW.PrintMore
open Go.Proofs.Ytkbiggmkjbmgoaa.PMeetingstatsRates
set_option linter.unusedVariables false
set_option linter.unusedSimpArgs false

theorem wrap_nat (i : Nat) (h : i ≤ 1000000000) : wrap64 ((i : Int) + 1) = ((i + 1 : Nat) : Int) := by
  rw [wrap_in (by unfold In64; omega)]
  omega

/-! ### Days -/
def isPair (a b : Int) (x : S65) : Prop := (x.f0 = a ∧ x.f1 = b) ∨ (x.f0 = b ∧ x.f1 = a)
instance (a b : Int) (x : S65) : Decidable (isPair a b x) := by unfold isPair; exact inferInstance
def daysStep (a b : Int) (out : List Int) (x : S65) : List Int := if isPair a b x then (if out = [] ∨ lastD out ≠ x.f2 then out ++ [x.f2] else out) else out
def daysL (l : List S65) (a b : Int) : List Int := l.foldl (daysStep a b) []
theorem daysStep_len (a b : Int) (out : List Int) (x : S65) : (daysStep a b out x).length ≤ out.length + 1 := by
  unfold daysStep
  split
  · split <;> simp
  · omega
theorem rd_at (l : List S65) (i : Nat) (h : i < l.length) : rd_T65 l (i : Int) = l[i] := by
  unfold rd_T65
  rw [Int.toNat_natCast, List.getD_eq_getElem?_getD, List.getElem?_eq_getElem h]
  rfl
theorem days_j1 (k : Nat) (l : List S65) (a b : Int) (out : List Int) (i : Nat) (hi : i < l.length) (hl : l.length ≤ 1000) (ho : out.length ≤ 1000) (t : Bool) (ht : t = decide (isPair a b l[i])) :
    kinkeepref32_Days.j1 (k + 1) l a b out i t = kinkeepref32_Days.l0 k l a b (daysStep a b out l[i]) ((i + 1 : Nat) : Int) := by
  simp only [kinkeepref32_Days.j1]
  subst ht
  rw [rd_at l i hi, wrap_nat i (by omega)]
  by_cases hp : isPair a b l[i]
  · rw [if_pos (decide_eq_true hp)]
    by_cases h0 : (out.length : Int) = 0
    · have h0' : out = [] := List.length_eq_zero_iff.1 (by omega)
      rw [if_pos h0, if_pos (by omega), if_pos (by omega), if_pos (by omega)]
      unfold daysStep
      rw [if_pos hp, if_pos (.inl h0')]
    · have h0' : out ≠ [] := fun e => h0 (by rw [e]; rfl)
      have hw : wrap64 ((out.length : Int) - 1) = ((out.length - 1 : Nat) : Int) := by rw [wrap_in (by unfold In64; omega)]; omega
      rw [if_neg h0, hw, if_pos (by omega), if_pos (by omega), if_pos (by omega), if_pos (by omega)]
      have hr : Go.Proofs.YtkbiggmkjbmgoaaW.PrintWords.rd out ((out.length - 1 : Nat) : Int) = lastD out := by
        unfold Go.Proofs.YtkbiggmkjbmgoaaW.PrintWords.rd lastD
        rw [Int.toNat_natCast]
      rw [hr]
      unfold daysStep
      rw [if_pos hp]
      by_cases hd : lastD out = l[i].f2
      · rw [if_pos hd, if_neg (by rintro (h | h); exact h0' h; exact h hd)]
      · rw [if_neg hd, if_pos (by omega), if_pos (.inr hd)]
  · rw [if_neg (by simpa using hp)]
    unfold daysStep
    rw [if_neg hp]
theorem days_loop (d : Nat) : ∀ (k : Nat) (l : List S65) (a b : Int) (out : List Int) (i : Nat), i + d = l.length → l.length ≤ 1000 → out.length ≤ i → 2 * d + 1 ≤ k →
    kinkeepref32_Days.l0 k l a b out i = some ((l.drop i).foldl (daysStep a b) out) := by
  induction d with
  | zero =>
    intro k l a b out i hi hl ho hk
    obtain ⟨k, rfl⟩ : ∃ m, k = m + 1 := ⟨k - 1, by omega⟩
    simp only [kinkeepref32_Days.l0]
    rw [if_neg (by omega), List.drop_of_length_le (by omega)]
    rfl
  | succ d ih =>
    intro k l a b out i hi hl ho hk
    obtain ⟨k, rfl⟩ : ∃ m, k = m + 2 := ⟨k - 2, by omega⟩
    have hlt : i < l.length := by omega
    have step : kinkeepref32_Days.l0 (k + 2) l a b out i = kinkeepref32_Days.j1 (k + 1) l a b out i (decide (isPair a b l[i])) := by
      simp only [kinkeepref32_Days.l0]
      rw [if_pos (by omega), if_pos (by omega), rd_at l i hlt]
      by_cases h1 : l[i].f0 = a
      · rw [if_pos h1]
        by_cases h2 : l[i].f1 = b
        · rw [if_pos h2]
          congr 1
          symm
          exact decide_eq_true (show isPair a b l[i] from .inl ⟨h1, h2⟩)
        · rw [if_neg h2]
          by_cases h3 : l[i].f0 = b
          · rw [if_pos h3]
            congr 1
            exact decide_eq_decide.2 (show l[i].f1 = a ↔ isPair a b l[i] from ⟨fun h => .inr ⟨h3, h⟩, fun h => by rcases h with h | h; exact absurd h.2 h2; exact h.2⟩)
          · rw [if_neg h3]
            congr 1
            symm
            refine decide_eq_false ?_
            rintro (h | h)
            · exact h2 h.2
            · exact h3 h.1
      · rw [if_neg h1]
        by_cases h3 : l[i].f0 = b
        · rw [if_pos h3]
          congr 1
          exact decide_eq_decide.2 (show l[i].f1 = a ↔ isPair a b l[i] from ⟨fun h => .inr ⟨h3, h⟩, fun h => by rcases h with h | h; exact absurd h.1 h1; exact h.2⟩)
        · rw [if_neg h3]
          congr 1
          symm
          refine decide_eq_false ?_
          rintro (h | h)
          · exact h1 h.1
          · exact h3 h.1
    rw [step, days_j1 k l a b out i hlt hl (by omega) _ rfl, ih k l a b _ (i + 1) (by omega) hl (by have := daysStep_len a b out l[i]; omega) (by omega)]
    congr 1
    rw [List.drop_eq_getElem_cons hlt, List.foldl_cons]
theorem days_ok (l : List S65) (a b : Int) (hl : l.length ≤ 1000) : kinkeepref32_Days.f (2 * l.length + 1) l a b = some (daysL l a b) := by
  unfold kinkeepref32_Days.f daysL
  have := days_loop l.length (2 * l.length + 1) l a b [] 0 (by omega) hl (by simp) (by omega)
  simpa using this

/-- A book's days are the reference's. -/
theorem lastD_snoc (l : List Int) (d : Int) : lastD (l ++ [d]) = d := by
  unfold lastD
  simp [List.getD_eq_getElem?_getD]
theorem pk_eq {a b x y : Int} (h : a ≠ b) : ((min a b, max a b) = (min x y, max x y)) ↔ (x = a ∧ y = b) ∨ (x = b ∧ y = a) := by
  simp only [Prod.mk.injEq]
  omega
theorem playP_inv (n : Int) (h2 : 2 ≤ n) (h12 : n ≤ 12) (l : List S65) : (playP n l).1.Ok ∧ ∀ a b, a ≠ b → (playP n l).1.D (min a b, max a b) = daysL (playP n l).2 a b := by
  unfold playP
  suffices H : ∀ (l : List S65) (st : Book × List S65), st.1.Ok → (∀ a b, a ≠ b → st.1.D (min a b, max a b) = daysL st.2 a b) → (l.foldl stepP st).1.Ok ∧ ∀ a b, a ≠ b → (l.foldl stepP st).1.D (min a b, max a b) = daysL (l.foldl stepP st).2 a b from
    H l _ (Book.empty_ok h2 h12) (fun a b _ => rfl)
  intro l
  induction l with
  | nil => intro st h1 h2; exact ⟨h1, h2⟩
  | cons x r ih =>
    intro st hok hd
    rw [List.foldl_cons]
    refine ih _ ?_ ?_
    · unfold stepP
      split
      · rename_i h; exact hok.meet h.2.1 h.2.2
      · exact hok
    · intro a b hab
      unfold stepP
      split
      · rename_i h
        simp only [Book.meet, upd]
        unfold daysL
        rw [List.foldl_append]
        show _ = daysStep a b (daysL st.2 a b) x
        rw [← hd a b hab]
        unfold daysStep
        have hne : x.f0 ≠ x.f1 := h.1.2.2
        by_cases hp : isPair a b x
        · have hp' : (min a b, max a b) = (min x.f0 x.f1, max x.f0 x.f1) := (pk_eq hab).2 hp
          rw [if_pos hp', if_pos hp, ← hp']
          unfold addDay
          by_cases h0 : st.1.D (min a b, max a b) = []
          · rw [if_pos h0, if_pos (.inl h0), h0]; rfl
          · rw [if_neg h0]
            have hle : lastD (st.1.D (min a b, max a b)) ≤ x.f2 := by
              have := hok.high _ _ (lastD_mem h0)
              have := h.2.2
              omega
            by_cases h1 : lastD (st.1.D (min a b, max a b)) < x.f2
            · rw [if_pos h1, if_pos (.inr (by omega))]
            · rw [if_neg h1, if_neg (by rintro (h | h); exact h0 h; omega)]
        · have hp' : (min a b, max a b) ≠ (min x.f0 x.f1, max x.f0 x.f1) := fun e => hp ((pk_eq hab).1 e)
          rw [if_neg hp', if_neg hp]
      · exact hd a b hab

/-! ### Recent -/
theorem recent_loop (d : Nat) : ∀ (k : Nat) (l : List Int) (day acc : Int) (i : Nat), i + d = l.length → l.length ≤ 1000000 → 0 ≤ acc → acc ≤ i → IsDay day → d < k →
    kinkeepref32_Recent.l0 k l day acc i = some (acc + recentL (l.drop i) day) := by
  induction d with
  | zero =>
    intro k l day acc i hi hl h0 h1 hd hk
    obtain ⟨k, rfl⟩ : ∃ m, k = m + 1 := ⟨k - 1, by omega⟩
    simp only [kinkeepref32_Recent.l0]
    rw [if_neg (by omega), List.drop_of_length_le (by omega)]
    simp [recentL]
  | succ d ih =>
    intro k l day acc i hi hl h0 h1 hd hk
    obtain ⟨k, rfl⟩ : ∃ m, k = m + 1 := ⟨k - 1, by omega⟩
    have hlt : i < l.length := by omega
    have hd' := hd
    unfold IsDay at hd'
    simp only [kinkeepref32_Recent.l0]
    have hr : Go.Proofs.YtkbiggmkjbmgoaaW.PrintWords.rd l (i : Int) = l[i] := by
      unfold Go.Proofs.YtkbiggmkjbmgoaaW.PrintWords.rd
      rw [Int.toNat_natCast, List.getD_eq_getElem?_getD, List.getElem?_eq_getElem hlt]
      rfl
    have hcons : recentL (l.drop i) day = (if recentB day l[i] = true then 1 else 0) + recentL (l.drop (i + 1)) day := by
      rw [List.drop_eq_getElem_cons hlt]
      unfold recentL
      rw [List.filter_cons]
      split <;> simp <;> omega
    rw [if_pos (by omega), if_pos (by omega), hr, wrap_nat i (by omega), wrap_in (x := day - 32) (by unfold In64; omega)]
    by_cases h2 : l[i] ≤ day
    · rw [if_pos h2]
      by_cases h3 : l[i] > day - 32
      · rw [if_pos h3, wrap_in (by unfold In64; omega), ih k l day (acc + 1) (i + 1) (by omega) hl (by omega) (by omega) hd (by omega), hcons, if_pos (by simp only [recentB, decide_eq_true_eq]; exact ⟨h3, h2⟩)]
        congr 1
        omega
      · rw [if_neg h3, ih k l day acc (i + 1) (by omega) hl (by omega) (by omega) hd (by omega), hcons, if_neg (by simp only [recentB, decide_eq_true_eq]; exact fun h => h3 h.1)]
        congr 1
        omega
    · rw [if_neg h2, ih k l day acc (i + 1) (by omega) hl (by omega) (by omega) hd (by omega), hcons, if_neg (by simp only [recentB, decide_eq_true_eq]; exact fun h => h2 h.2)]
      congr 1
      omega
theorem recent_ok (l : List Int) (day : Int) (hl : l.length ≤ 1000000) (hd : IsDay day) : kinkeepref32_Recent.f (l.length + 1) l day = some (recentL l day) := by
  unfold kinkeepref32_Recent.f
  have := recent_loop l.length (l.length + 1) l day 0 0 (by omega) hl (by omega) (by omega) hd (by omega)
  simpa using this

/-! ### Powers and chances -/
theorem pow_bd (c : Int) (hc0 : 0 ≤ c) (hc : c ≤ 32) : ∀ (e : Nat), e ≤ 12 → 0 ≤ c ^ e ∧ c ^ e ≤ 32 ^ e ∧ (32 : Int) ^ e ≤ 1152921504606846976 ∧ 1 ≤ (32 : Int) ^ e := by
  intro e he
  have h1 : (32 : Int) ^ e ≤ 32 ^ 12 := by
    have : (32 : Nat) ^ e ≤ 32 ^ 12 := Nat.pow_le_pow_right (by omega) he
    have e1 : ((32 ^ e : Nat) : Int) = (32 : Int) ^ e := by simp
    have e2 : ((32 ^ 12 : Nat) : Int) = (32 : Int) ^ 12 := by simp
    omega
  have h2 : 0 ≤ c ^ e := Int.pow_nonneg hc0
  have h3 : c ^ e ≤ 32 ^ e := by
    obtain ⟨m, rfl⟩ := Int.eq_ofNat_of_zero_le hc0
    have : m ^ e ≤ 32 ^ e := Nat.pow_le_pow_left (by omega) e
    have e1 : ((m ^ e : Nat) : Int) = (m : Int) ^ e := by simp
    have e2 : ((32 ^ e : Nat) : Int) = (32 : Int) ^ e := by simp
    omega
  have h4 : 1 ≤ (32 : Int) ^ e := by
    have : 1 ≤ (32 : Nat) ^ e := Nat.one_le_pow _ _ (by omega)
    have e2 : ((32 ^ e : Nat) : Int) = (32 : Int) ^ e := by simp
    omega
  exact ⟨h2, h3, by omega, h4⟩
theorem power_loop (d : Nat) : ∀ (k : Nat) (c : Int) (e i : Nat), 0 ≤ c → c ≤ 32 → e ≤ 12 → i + d = e → d < k → meetingstats_power.l0 k c (c ^ i) e i = some (c ^ e) := by
  induction d with
  | zero =>
    intro k c e i h0 h1 he hi hk
    obtain ⟨k, rfl⟩ : ∃ m, k = m + 1 := ⟨k - 1, by omega⟩
    simp only [meetingstats_power.l0]
    rw [if_neg (by omega), show i = e by omega]
  | succ d ih =>
    intro k c e i h0 h1 he hi hk
    obtain ⟨k, rfl⟩ : ∃ m, k = m + 1 := ⟨k - 1, by omega⟩
    simp only [meetingstats_power.l0]
    have hb := pow_bd c h0 h1 (i + 1) (by omega)
    rw [Int.pow_succ] at hb
    have e1 : (32 : Int) ^ i * 32 = 32 ^ (i + 1) := (Int.pow_succ _ _).symm
    rw [if_pos (by omega), wrap_nat i (by omega), wrap_in (by unfold In64; omega), ← Int.pow_succ]
    exact ih k c e (i + 1) h0 h1 he (by omega) (by omega)
theorem power_ok (c : Int) (e : Nat) (h0 : 0 ≤ c) (h1 : c ≤ 32) (he : e ≤ 12) : meetingstats_power.f (e + 1) c e = some (c ^ e) := by
  unfold meetingstats_power.f
  have := power_loop e (e + 1) c e 0 h0 h1 he (by omega) (by omega)
  simpa using this
def withinN (c : Int) (e : Nat) : Int := redN (32 ^ e - (32 - c) ^ e) (32 ^ e)
def withinD (c : Int) (e : Nat) : Int := redD (32 ^ e - (32 - c) ^ e) (32 ^ e)
theorem within_loop (d : Nat) (k0 : Nat) : ∀ (k : Nat) (c : Int) (e i : Nat), 0 ≤ c → c ≤ 32 → e ≤ 12 → i + d = e → d + k0 < k →
    (∀ k, k0 ≤ k → kinkeepref32_Lowest.f k (32 ^ e - (32 - c) ^ e) (32 ^ e) = some (withinN c e, withinD c e)) → kinkeepref32_Within.l0 k c e ((32 - c) ^ i) (32 ^ i) i = some (withinN c e, withinD c e) := by
  induction d with
  | zero =>
    intro k c e i h0 h1 he hi hk hL
    obtain ⟨k, rfl⟩ : ∃ m, k = m + 1 := ⟨k - 1, by omega⟩
    have hb := pow_bd (32 - c) (by omega) (by omega) e he
    simp only [kinkeepref32_Within.l0]
    rw [if_neg (by omega), show i = e by omega, wrap_in (by unfold In64; omega), hL k (by omega)]
    rfl
  | succ d ih =>
    intro k c e i h0 h1 he hi hk hL
    obtain ⟨k, rfl⟩ : ∃ m, k = m + 1 := ⟨k - 1, by omega⟩
    simp only [kinkeepref32_Within.l0]
    have hb := pow_bd (32 - c) (by omega) (by omega) (i + 1) (by omega)
    rw [Int.pow_succ] at hb
    have e1 : (32 : Int) ^ i * 32 = 32 ^ (i + 1) := (Int.pow_succ _ _).symm
    rw [if_pos (by omega), wrap_nat i (by omega), wrap_in (x := 32 - c) (by unfold In64; omega), wrap_in (x := (32 - c) ^ i * (32 - c)) (by unfold In64; omega), wrap_in (x := 32 ^ i * 32) (by unfold In64; omega), ← Int.pow_succ, ← Int.pow_succ]
    exact ih k c e (i + 1) h0 h1 he (by omega) (by omega) hL
theorem lowest_mono {k k' : Nat} {a b : Int} {r : Int × Int} (h : kinkeepref32_Lowest.f k a b = some r) (hk : k ≤ k') : kinkeepref32_Lowest.f k' a b = some r := by
  induction hk with
  | refl => exact h
  | step _ ih => exact kinkeepref32_Lowest.mono a b _ r ih
theorem refWithin_ok (c : Int) (e : Nat) (h0 : 0 ≤ c) (h1 : c ≤ 32) (he : e ≤ 12) : ∃ k, kinkeepref32_Within.f k c e = some (withinN c e, withinD c e) := by
  have hb := pow_bd (32 - c) (by omega) (by omega) e he
  obtain ⟨k0, hk0⟩ := Lowest_ok (32 ^ e - (32 - c) ^ e) (32 ^ e) (by omega) (by unfold In64; omega) (by omega) (by unfold In64; omega)
  rw [← redN_pos (by omega), ← redD_pos (by omega)] at hk0
  refine ⟨e + k0 + 1, ?_⟩
  unfold kinkeepref32_Within.f
  have := within_loop e k0 (e + k0 + 1) c e 0 h0 h1 he (by omega) (by omega) (fun k hk => lowest_mono hk0 hk)
  simpa using this
end Go.Proofs.Ytkbiggmkjbmgoaa.Bk
