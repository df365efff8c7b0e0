/- Reading a book: one more day. -/
import Derived.Test.YtkbiggmkjbmgoaaAK
namespace Go.Proofs.Ytkbiggmkjbmgoaa.Bk
open Go.RowKit Go.Proofs.YtkbiggmkjbmgoaaW.PrintWords
set_option linter.unusedVariables false
set_option linter.unusedSimpArgs false

/-- Nothing stands elsewhere, and the newest day is one of them. -/
def Tidy (B : Book) : Prop := (∀ p, p ∉ prs B.n → B.D p = []) ∧ (B.nw = -1 ∨ ∃ p, B.nw ∈ B.D p)
def Book.day (B : Book) (p : Int × Int) (cur : List Int) (d : Int) : Book := ⟨B.n, max B.nw d, upd B.D p (cur ++ [d])⟩
theorem getLastD_mem {l : List Int} (h : l ≠ []) : l.getLastD 0 ∈ l := by
  cases l with
  | nil => exact absurd rfl h
  | cons x l => rw [show (x :: l).getLastD 0 = (x :: l).getLast (by simp) from by cases l <;> rfl]; exact List.getLast_mem _
theorem getLastD_max {l : List Int} (h : l.Pairwise (· < ·)) {m : Int} (hm : m ∈ l) : m ≤ l.getLastD 0 := by
  induction l generalizing m with
  | nil => simp at hm
  | cons x l ih =>
    rw [List.pairwise_cons] at h
    cases l with
    | nil => simp at hm; subst hm; simp
    | cons y l =>
      have e : (x :: y :: l).getLastD 0 = (y :: l).getLastD 0 := by simp
      rw [e]
      rcases List.mem_cons.1 hm with rfl | hm
      · exact Int.le_trans (Int.le_of_lt (h.1 y (by simp))) (ih h.2 (m := y) (by simp))
      · exact ih h.2 hm
theorem Book.Ok.day {B : Book} (hB : B.Ok) {p : Int × Int} {cur : List Int} (hD : B.D p = cur) {d : Int} (h0 : 0 ≤ d) (h1 : d ≤ 999999) (hlast : cur ≠ [] → cur.getLastD 0 < d) : (B.day p cur d).Ok where
  n2 := hB.n2
  n12 := hB.n12
  nw0 := by have := hB.nw0; show -1 ≤ max B.nw d; omega
  nw1 := by have := hB.nw1; show max B.nw d ≤ 999999; omega
  asc := fun q => by
    show (upd B.D p (cur ++ [d]) q).Pairwise (· < ·)
    unfold upd
    split
    · rw [List.pairwise_append]
      have ha := hB.asc p
      rw [hD] at ha
      refine ⟨ha, by simp, fun a ha' b hb => ?_⟩
      simp at hb
      subst hb
      have hne : cur ≠ [] := fun e => by rw [e] at ha'; simp at ha'
      have := getLastD_max ha ha'
      have := hlast hne
      omega
    · exact hB.asc q
  low := fun q m hm => by
    have hm' : m ∈ upd B.D p (cur ++ [d]) q := hm
    unfold upd at hm'
    split at hm'
    · rcases List.mem_append.1 hm' with h | h
      · exact hB.low p m (by rw [hD]; exact h)
      · simp at h; omega
    · exact hB.low q m hm'
  high := fun q m hm => by
    have hm' : m ∈ upd B.D p (cur ++ [d]) q := hm
    show m ≤ max B.nw d
    unfold upd at hm'
    split at hm'
    · rcases List.mem_append.1 hm' with h | h
      · have := hB.high p m (by rw [hD]; exact h); omega
      · simp at h; omega
    · have := hB.high q m hm'; omega
theorem Tidy.day {B : Book} (hB : B.Ok) (ht : Tidy B) {p : Int × Int} (hp : p ∈ prs B.n) {cur : List Int} (hD : B.D p = cur) (d : Int) (h0 : 0 ≤ d) : Tidy (B.day p cur d) := by
  refine ⟨fun q hq => ?_, ?_⟩
  · show upd B.D p (cur ++ [d]) q = []
    unfold upd
    rw [if_neg (fun e => hq (by rw [e]; exact hp))]
    exact ht.1 q hq
  · right
    show ∃ q, max B.nw d ∈ upd B.D p (cur ++ [d]) q
    by_cases hd : B.nw ≤ d
    · exact ⟨p, by rw [show max B.nw d = d from by omega]; unfold upd; rw [if_pos rfl]; simp⟩
    · rw [show max B.nw d = B.nw from by omega]
      rcases ht.2 with h | ⟨q, hq⟩
      · omega
      · refine ⟨q, ?_⟩
        unfold upd
        split
        · rename_i e
          subst e
          rw [hD] at hq
          exact List.mem_append_left _ hq
        · exact hq
theorem upd_upd (D : Int × Int → List Int) (p : Int × Int) (l l' : List Int) : upd (upd D p l) p l' = upd D p l' := by
  funext q; unfold upd; split <;> rfl
theorem upd_at (D : Int × Int → List Int) (p : Int × Int) (l : List Int) : upd D p l p = l := by unfold upd; rw [if_pos rfl]
end Go.Proofs.Ytkbiggmkjbmgoaa.Bk
