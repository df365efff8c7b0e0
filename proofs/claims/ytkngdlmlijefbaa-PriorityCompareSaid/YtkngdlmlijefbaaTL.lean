/- Strictly ordered lists of valid tasks; what Compact leaves of a sorted list: plain. -/
import Derived.Test.YtkngdlmlijefbaaTH
import Derived.Test.YtkngdlmlijefbaaTJ
namespace Go.Proofs.Ytkngdlmlijefbaa.Pq
open Go.RowKit
open Go.Proofs.Ytkngdlmlijefbaa.PPriorityOrder
set_option linter.unusedVariables false
set_option linter.unusedSimpArgs false

/-- A valid task. -/
structure Vt (t : S32) : Prop where
  stripe : t.f0.f0.size = 32
  i0 : 0 ≤ t.f0.f1
  i1 : t.f0.f1 < 16
  s0 : 0 ≤ t.f1
  s1 : t.f1 ≤ 1048576
  p0 : -16 ≤ t.f2
  p1 : t.f2 ≤ 16
  d0 : 1 ≤ t.f3.f1
  d1 : t.f3.f1 ≤ 1073741824
  n0 : 0 ≤ t.f3.f0
  n1 : t.f3.f0 ≤ t.f3.f1
  low : Nat.gcd t.f3.f0.natAbs t.f3.f1.natAbs = 1
  y0 : 0 ≤ t.f4
  y1 : t.f4 ≤ 999999
theorem Vt.vc {t : S32} (h : Vt t) : Vc t := ⟨⟨h.d0, h.d1⟩, h.n0, h.n1⟩
theorem cmpI_zero {x y : Int} (h : cmpI x y = 0) : x = y := by
  unfold cmpI at h
  split at h
  · omega
  · split at h <;> omega
theorem cmpI_self (x : Int) : cmpI x x = 0 := by unfold cmpI; rw [if_neg (by omega), if_neg (by omega)]
theorem cmpS_zero {a b : ByteArray} (h : cmpS a b = 0) : a = b := by
  unfold cmpS at h
  split at h
  · omega
  · rename_i h1
    split at h
    · omega
    · rename_i h2
      apply ba_toList_inj
      apply Classical.byContradiction
      intro hne
      exact h2 ((less_iff a.toList b.toList).2 ⟨h1, hne⟩)
theorem low_uniq {a b c d : Nat} (h1 : Nat.gcd a b = 1) (h2 : Nat.gcd c d = 1) (hd : 0 < d) (hb : 0 < b) (h : a * d = c * b) : a = c ∧ b = d := by
  have e1 : b ∣ d := by
    have : b ∣ a * d := h ▸ Nat.dvd_mul_left b c
    exact Nat.Coprime.dvd_of_dvd_mul_left (Nat.Coprime.symm h1) this
  have e2 : d ∣ b := by
    have : d ∣ c * b := h ▸ Nat.dvd_mul_left d a
    exact Nat.Coprime.dvd_of_dvd_mul_left (Nat.Coprime.symm h2) this
  have e : b = d := Nat.dvd_antisymm e1 e2
  subst e
  exact ⟨Nat.eq_of_mul_eq_mul_right hb h, rfl⟩
theorem ors_zero : ∀ {l : List Int}, ors l = 0 → ∀ x ∈ l, x = 0
  | [], _, x, hx => by simp at hx
  | y :: l, h, x, hx => by
    simp only [ors] at h
    by_cases h0 : y = 0
    · rw [if_pos h0] at h
      rcases List.mem_cons.1 hx with rfl | hx
      · exact h0
      · exact ors_zero h x hx
    · rw [if_neg h0] at h
      exact absurd h h0
theorem cmpT_zero {a b : S32} (ha : Vt a) (hb : Vt b) (h : cmpT a b = 0) : a = b := by
  have hz := ors_zero h
  have h2 := hz (cmpI (wrap64 (a.f3.f0 * b.f3.f1)) (wrap64 (b.f3.f0 * a.f3.f1))) (by simp)
  have h3 := cmpI_zero (hz (cmpI a.f4 b.f4) (by simp))
  have h4 := cmpI_zero (hz (cmpI a.f1 b.f1) (by simp))
  have h5 := cmpS_zero (hz (cmpS a.f0.f0 b.f0.f0) (by simp))
  have h6 := cmpI_zero (hz (cmpI a.f0.f1 b.f0.f1) (by simp))
  have h0 : cmpI a.f2 b.f2 = 0 := hz _ (by simp)
  have h0 := cmpI_zero h0
  rw [chance_eq ⟨a, ha.vc⟩ ⟨b, hb.vc⟩] at h2
  have h2 := cmpI_zero h2
  simp only at h2
  have hlow : a.f3.f0 = b.f3.f0 ∧ a.f3.f1 = b.f3.f1 := by
    have a1 := ha.d0
    have a2 := ha.n0
    have a3 := ha.low
    have b1 := hb.d0
    have b2 := hb.n0
    have b3 := hb.low
    generalize a.f3.f0 = n at *
    generalize a.f3.f1 = d at *
    generalize b.f3.f0 = m at *
    generalize b.f3.f1 = e at *
    obtain ⟨n, rfl⟩ := Int.eq_ofNat_of_zero_le a2
    obtain ⟨m, rfl⟩ := Int.eq_ofNat_of_zero_le b2
    obtain ⟨d, rfl⟩ := Int.eq_ofNat_of_zero_le (show 0 ≤ d by omega)
    obtain ⟨e, rfl⟩ := Int.eq_ofNat_of_zero_le (show 0 ≤ e by omega)
    simp only [Int.natAbs_natCast] at a3 b3
    have h2 : n * e = m * d := by exact_mod_cast h2
    obtain ⟨r1, r2⟩ := low_uniq a3 b3 (by omega) (by omega) h2
    exact ⟨by rw [r1], by rw [r2]⟩
  obtain ⟨⟨a0, a1⟩, a2, a3, ⟨a4, a5⟩, a6⟩ := a
  obtain ⟨⟨b0, b1⟩, b2, b3, ⟨b4, b5⟩, b6⟩ := b
  simp only at h0 h3 h4 h5 h6 hlow
  obtain ⟨r1, r2⟩ := hlow
  subst h0 h3 h4 h5 h6 r1 r2
  rfl
theorem cmpT_anti {a b : S32} (ha : Vc a) (hb : Vc b) : cmpT b a = - cmpT a b := Cmp.task.anti ⟨a, ha⟩ ⟨b, hb⟩
theorem cmpT_trans {a b c : S32} (ha : Vc a) (hb : Vc b) (hc : Vc c) (h1 : cmpT a b ≤ 0) (h2 : cmpT b c ≤ 0) : cmpT a c ≤ 0 := Cmp.task.trans ⟨a, ha⟩ ⟨b, hb⟩ ⟨c, hc⟩ h1 h2
theorem cmpT_self {a : S32} (ha : Vc a) : cmpT a a = 0 := Cmp.task.refl ⟨a, ha⟩
theorem cmpT_ltr {a b c : S32} (ha : Vc a) (hb : Vc b) (hc : Vc c) (h1 : cmpT a b < 0) (h2 : cmpT b c ≤ 0) : cmpT a c < 0 := by
  have h3 := cmpT_trans ha hb hc (by omega) h2
  rcases (show cmpT a c < 0 ∨ cmpT a c = 0 from by omega) with h | h
  · exact h
  · have h4 := cmpT_anti ha hc
    have h5 := cmpT_trans hb hc ha h2 (by omega)
    have h6 := cmpT_anti ha hb
    omega
theorem cmpT_rtl {a b c : S32} (ha : Vc a) (hb : Vc b) (hc : Vc c) (h1 : cmpT a b ≤ 0) (h2 : cmpT b c < 0) : cmpT a c < 0 := by
  have h3 := cmpT_trans ha hb hc h1 (by omega)
  rcases (show cmpT a c < 0 ∨ cmpT a c = 0 from by omega) with h | h
  · exact h
  · have h4 := cmpT_anti ha hc
    have h5 := cmpT_trans hc ha hb (by omega) h1
    have h6 := cmpT_anti hb hc
    omega
/-- Strictly in order. -/
def Inc (l : List S32) : Prop := l.Pairwise fun a b => cmpT a b < 0
/-- One into a list in order, if it is not there. -/
def ins (t : S32) : List S32 → List S32
  | [] => [t]
  | x :: l => if cmpT x t < 0 then x :: ins t l else if cmpT x t = 0 then x :: l else t :: x :: l
/-- The tasks in order, equal ones once. -/
def ordT (l : List S32) : List S32 := l.foldl (fun acc t => ins t acc) []
theorem ins_mem {t : S32} (ht : Vt t) : ∀ {l : List S32}, (∀ x ∈ l, Vt x) → ∀ y, y ∈ ins t l ↔ y = t ∨ y ∈ l
  | [], _, y => by simp [ins]
  | x :: l, hl, y => by
    have ih := ins_mem ht (l := l) (fun x hx => hl x (List.mem_cons_of_mem _ hx)) y
    simp only [ins]
    split
    · rw [List.mem_cons, ih, List.mem_cons]
      constructor
      · rintro (h | h | h)
        · exact .inr (.inl h)
        · exact .inl h
        · exact .inr (.inr h)
      · rintro (h | h | h)
        · exact .inr (.inl h)
        · exact .inl h
        · exact .inr (.inr h)
    · split
      · rename_i h0
        have := cmpT_zero (hl x (by simp)) ht h0
        subst this
        simp
      · simp
theorem ins_inc {t : S32} (ht : Vt t) : ∀ {l : List S32}, (∀ x ∈ l, Vt x) → Inc l → Inc (ins t l)
  | [], _, _ => by simp [ins, Inc]
  | x :: l, hl, hI => by
    have hx := hl x (by simp)
    have hl' : ∀ y ∈ l, Vt y := fun y hy => hl y (List.mem_cons_of_mem _ hy)
    obtain ⟨h1, h2⟩ := List.pairwise_cons.1 hI
    simp only [ins]
    split
    · rename_i hlt
      refine List.pairwise_cons.2 ⟨fun y hy => ?_, ins_inc ht hl' h2⟩
      rcases (ins_mem ht hl' y).1 hy with rfl | hy
      · exact hlt
      · exact h1 y hy
    · split
      · exact hI
      · rename_i h3 h4
        have h5 := cmpT_anti hx.vc ht.vc
        refine List.pairwise_cons.2 ⟨fun y hy => ?_, hI⟩
        rcases List.mem_cons.1 hy with rfl | hy
        · omega
        · have := h1 y hy
          exact cmpT_ltr ht.vc hx.vc (hl' y hy).vc (by omega) (by omega)
theorem ordT_fold : ∀ (l : List S32) (acc : List S32), (∀ x ∈ l, Vt x) → (∀ x ∈ acc, Vt x) → Inc acc → Inc (l.foldl (fun acc t => ins t acc) acc) ∧ ∀ y, y ∈ l.foldl (fun acc t => ins t acc) acc ↔ y ∈ acc ∨ y ∈ l
  | [], acc, _, _, hI => ⟨hI, by simp⟩
  | x :: l, acc, hl, ha, hI => by
    have hx := hl x (by simp)
    have hm := ins_mem hx ha
    obtain ⟨h1, h2⟩ := ordT_fold l (ins x acc) (fun y hy => hl y (List.mem_cons_of_mem _ hy)) (fun y hy => by
      rcases (hm y).1 hy with rfl | hy
      · exact hx
      · exact ha y hy) (ins_inc hx ha hI)
    refine ⟨h1, fun y => ?_⟩
    rw [List.foldl_cons, h2 y, hm y, List.mem_cons]
    constructor
    · rintro ((h | h) | h)
      · exact .inr (.inl h)
      · exact .inl h
      · exact .inr (.inr h)
    · rintro (h | h | h)
      · exact .inl (.inr h)
      · exact .inl (.inl h)
      · exact .inr h
theorem ordT_inc {l : List S32} (h : ∀ x ∈ l, Vt x) : Inc (ordT l) := (ordT_fold l [] h (by simp) List.Pairwise.nil).1
theorem ordT_mem {l : List S32} (h : ∀ x ∈ l, Vt x) (y : S32) : y ∈ ordT l ↔ y ∈ l := by
  have := (ordT_fold l [] h (by simp) List.Pairwise.nil).2 y
  simpa [ordT] using this
theorem ordT_valid {l : List S32} (h : ∀ x ∈ l, Vt x) : ∀ x ∈ ordT l, Vt x := fun x hx => h x ((ordT_mem h x).1 hx)
theorem Inc.uniq : ∀ {l m : List S32}, (∀ x ∈ l, Vc x) → (∀ x ∈ m, Vc x) → Inc l → Inc m → (∀ y, y ∈ l ↔ y ∈ m) → l = m
  | [], [], _, _, _, _, _ => rfl
  | [], y :: m, _, _, _, _, h => absurd ((h y).2 (by simp)) (by simp)
  | x :: l, [], _, _, _, _, h => absurd ((h x).1 (by simp)) (by simp)
  | x :: l, y :: m, vl, vm, hl, hm, h => by
    obtain ⟨a1, a2⟩ := List.pairwise_cons.1 hl
    obtain ⟨b1, b2⟩ := List.pairwise_cons.1 hm
    have e : x = y := by
      rcases List.mem_cons.1 ((h x).1 (by simp)) with e | e
      · exact e
      · rcases List.mem_cons.1 ((h y).2 (by simp)) with e2 | e2
        · exact e2.symm
        · have c1 := b1 x e
          have c2 := a1 y e2
          have := cmpT_anti (vl x (by simp)) (vm y (by simp))
          omega
    subst e
    have : l = m := Inc.uniq (fun z hz => vl z (List.mem_cons_of_mem _ hz)) (fun z hz => vm z (List.mem_cons_of_mem _ hz)) a2 b2 fun z => by
      have hz := h z
      rw [List.mem_cons, List.mem_cons] at hz
      constructor
      · intro hzl
        rcases hz.1 (.inr hzl) with e | e
        · subst e
          have := a1 z hzl
          have := cmpT_self (vl z (by simp))
          omega
        · exact e
      · intro hzm
        rcases hz.2 (.inr hzm) with e | e
        · subst e
          have := b1 z hzm
          have := cmpT_self (vl z (by simp))
          omega
        · exact e
    rw [this]
/-- What stays of a sorted list. -/
theorem cp_inv {l : List S32} (hv : ∀ x ∈ l, Vt x) (hs : ∀ i j : Nat, i < j → j < l.length → cmpT (gt l i) (gt l j) ≤ 0) : ∀ j, j ≤ l.length → Inc (cp l j) ∧ (∀ y, y ∈ cp l j ↔ y ∈ l.take j)
  | 0, _ => by simp [cp, Inc]
  | 1, _ => by
    refine ⟨?_, fun y => by rfl⟩
    cases l with
    | nil => simp [cp, Inc]
    | cons x l => simp [cp, Inc]
  | j + 2, hj => by
    obtain ⟨h1, h2⟩ := cp_inv hv hs (j + 1) (by omega)
    have hmem : ∀ i, i < l.length → gt l i ∈ l := fun i hi => List.mem_of_getElem? (gt_some hi)
    have htk : l.take (j + 2) = l.take (j + 1) ++ [gt l (j + 1)] := by
      rw [List.take_succ_eq_append_getElem (by omega : j + 1 < l.length)]
      have := gt_some (l := l) (i := j + 1) (by omega)
      rw [List.getElem?_eq_getElem (by omega)] at this
      rw [Option.some.inj this]
    have hin : ∀ y ∈ l.take (j + 1), ∃ i, i < j + 1 ∧ y = gt l i := fun y hy => by
      obtain ⟨i, hi, e⟩ := List.mem_iff_getElem.1 hy
      rw [List.length_take] at hi
      refine ⟨i, by omega, ?_⟩
      have := gt_some (l := l) (i := i) (by omega)
      rw [List.getElem?_eq_getElem (by omega)] at this
      rw [← Option.some.inj this, ← e, List.getElem_take]
    simp only [cp]
    split
    · rename_i he
      have he := (eqS_iff _ _).1 he
      refine ⟨h1, fun y => ?_⟩
      rw [h2 y, htk, List.mem_append]
      refine ⟨.inl, fun h => ?_⟩
      rcases h with h | h
      · exact h
      · have : y = gt l (j + 1) := by simpa using h
        rw [this, he]
        refine List.mem_of_getElem? (i := j) ?_
        rw [List.getElem?_take, if_pos (by omega)]
        exact gt_some (by omega)
    · rename_i he
      have hne : gt l (j + 1) ≠ gt l j := fun e => he ((eqS_iff _ _).2 e)
      refine ⟨?_, fun y => ?_⟩
      · refine List.pairwise_append.2 ⟨h1, by simp, fun a ha b hb => ?_⟩
        obtain rfl : b = gt l (j + 1) := by simpa using hb
        obtain ⟨i, hi, rfl⟩ := hin a ((h2 a).1 ha)
        have vj := hv _ (hmem j (by omega))
        have vj1 := hv _ (hmem (j + 1) (by omega))
        have vi := hv _ (hmem i (by omega))
        have c1 := hs j (j + 1) (by omega) (by omega)
        have c2 : cmpT (gt l j) (gt l (j + 1)) < 0 := by
          rcases (show cmpT (gt l j) (gt l (j + 1)) < 0 ∨ cmpT (gt l j) (gt l (j + 1)) = 0 from by omega) with h | h
          · exact h
          · exact absurd (cmpT_zero vj vj1 h).symm hne
        rcases (show i < j ∨ i = j from by omega) with h | rfl
        · exact cmpT_rtl vi.vc vj.vc vj1.vc (hs i j h (by omega)) c2
        · exact c2
      · rw [List.mem_append, h2 y, htk, List.mem_append]
/-- Sorted, then equal neighbours once: the order. -/
theorem cp_ord {l ys : List S32} (hv : ∀ x ∈ l, Vt x) (hp : ys.Perm l) (hs : ∀ i j : Nat, (hij : i < j) → (hj : j < ys.length) → cmpT (ys[i]'(by omega)) (ys[j]) ≤ 0) : cp ys ys.length = ordT l := by
  have hvy : ∀ x ∈ ys, Vt x := fun x hx => hv x (hp.mem_iff.1 hx)
  have hg : ∀ i, (hi : i < ys.length) → gt ys i = ys[i] := fun i hi => by
    have := gt_some hi
    rw [List.getElem?_eq_getElem hi] at this
    exact (Option.some.inj this).symm
  obtain ⟨h1, h2⟩ := cp_inv hvy (fun i j hij hj => by rw [hg i (by omega), hg j hj]; exact hs i j hij hj) ys.length (Nat.le_refl _)
  rw [List.take_length] at h2
  refine Inc.uniq (fun x hx => (hvy x ((h2 x).1 hx)).vc) (fun x hx => (ordT_valid hv x hx).vc) h1 (ordT_inc hv) fun y => ?_
  rw [h2 y, ordT_mem hv y, hp.mem_iff]
theorem ins_len (t : S32) : ∀ l : List S32, (ins t l).length ≤ l.length + 1
  | [] => by simp [ins]
  | x :: l => by
    have := ins_len t l
    simp only [ins]
    split
    · simp; omega
    · split <;> simp
theorem ordT_len (l : List S32) : (ordT l).length ≤ l.length := by
  have : ∀ (l acc : List S32), (l.foldl (fun acc t => ins t acc) acc).length ≤ acc.length + l.length := by
    intro l
    induction l with
    | nil => simp
    | cons x l ih =>
      intro acc
      have h1 := ih (ins x acc)
      have h2 := ins_len x acc
      simp only [List.foldl_cons, List.length_cons]
      omega
  simpa [ordT] using this l []
end Go.Proofs.Ytkngdlmlijefbaa.Pq
