/- An encoding says what it encodes. -/
import Derived.Test.YtkbiggmkjbmgoaaAE
import Derived.Test.YtkbiggmkjbmgoaaAF
namespace Go.Proofs.Ytkbiggmkjbmgoaa.Bk
open Go.RowKit Go.Proofs.YtkbiggmkjbmgoaaW.PrintWords
set_option linter.unusedVariables false
set_option linter.unusedSimpArgs false

theorem dec0 (n : Nat) (s : List Int) (h : n < 18446744073709551616) : dec 0 0 (enc7 n ++ s) = some (n, s) := by
  have := dec_enc n 0 0 s (by simpa using h) (.inr rfl)
  simpa using this
theorem enc7_inj {n m : Nat} {s t : List Int} (hn : n < 18446744073709551616) (hm : m < 18446744073709551616) (h : enc7 n ++ s = enc7 m ++ t) : n = m ∧ s = t := by
  have h1 := dec0 n s hn
  rw [h, dec0 m t hm] at h1
  injection h1 with h1
  injection h1 with h1 h2
  exact ⟨h1.symm, h2.symm⟩
/-- A list of days. -/
def Good (l : List Int) : Prop := l.Pairwise (· < ·) ∧ ∀ m ∈ l, 0 ≤ m ∧ m ≤ 999999
theorem Good.len {l : List Int} (h : Good l) : l.length ≤ 1000000 := by
  have := asc_len l 0 1000000 h.1 (fun m hm => ⟨(h.2 m hm).1, by have := (h.2 m hm).2; omega⟩) (by omega)
  omega
theorem Book.Ok.good {B : Book} (h : B.Ok) (p : Int × Int) : Good (B.D p) := ⟨h.asc p, fun m hm => ⟨h.low p m hm, by have := h.high p m hm; have := h.nw1; omega⟩⟩
theorem deltas_inj : ∀ (l l0 : List Int) (a : Int) (s t : List Int), l.length = l0.length → (∀ m ∈ l, a ≤ m ∧ m ≤ 999999) → (∀ m ∈ l0, a ≤ m ∧ m ≤ 999999) → l.Pairwise (· < ·) → l0.Pairwise (· < ·) → 0 ≤ a →
    deltas a l ++ s = deltas a l0 ++ t → l = l0 ∧ s = t := by
  intro l
  induction l with
  | nil =>
    intro l0 a s t hl _ _ _ _ _ h
    cases l0 with
    | nil => exact ⟨rfl, by simpa [deltas] using h⟩
    | cons _ _ => simp at hl
  | cons x l ih =>
    intro l0 a s t hl h1 h2 h3 h4 ha h
    cases l0 with
    | nil => simp at hl
    | cons y l0 =>
      simp only [deltas, List.append_assoc] at h
      have hx := h1 x (by simp)
      have hy := h2 y (by simp)
      obtain ⟨e1, e2⟩ := enc7_inj (by omega) (by omega) h
      have hxy : x = y := by omega
      subst hxy
      rw [List.pairwise_cons] at h3 h4
      obtain ⟨e3, e4⟩ := ih l0 x s t (by simpa using hl) (fun m hm => ⟨Int.le_of_lt (h3.1 m hm), (h1 m (by simp [hm])).2⟩) (fun m hm => ⟨Int.le_of_lt (h4.1 m hm), (h2 m (by simp [hm])).2⟩) h3.2 h4.2 (by omega) e2
      exact ⟨by rw [e3], e4⟩
theorem encP_inj {l l0 : List Int} {s t : List Int} (hl : Good l) (hl0 : Good l0) (h : encP l ++ s = encP l0 ++ t) : l = l0 ∧ s = t := by
  unfold encP at h
  rw [List.append_assoc, List.append_assoc] at h
  have h1 := hl.len
  have h2 := hl0.len
  obtain ⟨e1, e2⟩ := enc7_inj (by omega) (by omega) h
  exact deltas_inj l l0 0 s t e1 hl.2 hl0.2 hl.1 hl0.1 (by omega) e2
theorem encs_inj {D D0 : Int × Int → List Int} : ∀ (ps : List (Int × Int)) (s t : List Int), (∀ p ∈ ps, Good (D p)) → (∀ p ∈ ps, Good (D0 p)) → ps.flatMap (fun p => encP (D p)) ++ s = ps.flatMap (fun p => encP (D0 p)) ++ t → (∀ p ∈ ps, D p = D0 p) ∧ s = t := by
  intro ps
  induction ps with
  | nil => intro s t _ _ h; exact ⟨by simp, by simpa using h⟩
  | cons p ps ih =>
    intro s t h1 h2 h
    simp only [List.flatMap_cons, List.append_assoc] at h
    obtain ⟨e1, e2⟩ := encP_inj (h1 p (by simp)) (h2 p (by simp)) h
    obtain ⟨e3, e4⟩ := ih s t (fun q hq => h1 q (by simp [hq])) (fun q hq => h2 q (by simp [hq])) e2
    exact ⟨fun q hq => by rcases List.mem_cons.1 hq with rfl | hq; exact e1; exact e3 q hq, e4⟩
/-- A book that may be an encoding's. -/
def Valid (B : Book) : Prop := 2 ≤ B.n ∧ B.n ≤ 12 ∧ ∀ p, Good (B.D p)
theorem Book.Ok.valid {B : Book} (h : B.Ok) : Valid B := ⟨h.n2, h.n12, h.good⟩
/-- What has been read of an encoding is that of the book that is encoded. -/
theorem encB_split {B B0 : Book} (h : Valid B) (h0 : Valid B0) (k : Nat) (rest : List Int) (he : encB B0 = encA B k ++ rest) :
    B0.n = B.n ∧ (∀ p ∈ (prs B.n).take k, B.D p = B0.D p) ∧ rest = ((prs B.n).drop k).flatMap (fun p => encP (B0.D p)) := by
  have h1 := h.1; have h2 := h.2.1; have h3 := h0.1; have h4 := h0.2.1
  unfold encB encA at he
  rw [List.append_assoc] at he
  obtain ⟨e1, e2⟩ := enc7_inj (by omega) (by omega) he
  have hn : B0.n = B.n := by omega
  rw [hn] at e2
  rw [← List.take_append_drop k (prs B.n), List.flatMap_append] at e2
  rw [List.take_append_drop] at e2
  obtain ⟨e3, e4⟩ := encs_inj ((prs B.n).take k) _ _ (fun p _ => h0.2.2 p) (fun p _ => h.2.2 p) e2
  exact ⟨hn, fun p hp => (e3 p hp).symm, e4.symm⟩
theorem prs_split (n : Int) (k : Nat) (p : Int × Int) (h : (prs n)[k]? = some p) : (prs n).drop k = p :: (prs n).drop (k + 1) := by
  have hk := (List.getElem?_eq_some_iff.1 h)
  obtain ⟨hk, e⟩ := hk
  rw [List.drop_eq_getElem_cons hk, e]
end Go.Proofs.Ytkbiggmkjbmgoaa.Bk
