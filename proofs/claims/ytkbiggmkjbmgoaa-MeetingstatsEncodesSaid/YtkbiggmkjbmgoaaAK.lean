/- Reading a book: the plain facts. -/
import Derived.Test.YtkbiggmkjbmgoaaAJ
namespace Go.Proofs.Ytkbiggmkjbmgoaa.Bk
open Go.RowKit Go.Proofs.YtkbiggmkjbmgoaaW.PrintWords
set_option linter.unusedVariables false
set_option linter.unusedSimpArgs false

theorem deltas_append (r : List Int) : ∀ (l : List Int) (a : Int), deltas a (l ++ r) = deltas a l ++ deltas (l.getLastD a) r := by
  intro l
  induction l with
  | nil => intro a; rfl
  | cons x l ih => intro a; simp only [List.cons_append, deltas, ih, List.append_assoc]; congr 2; cases l <;> rfl
theorem getLastD_bd {l : List Int} (h : Good l) : 0 ≤ l.getLastD 0 ∧ l.getLastD 0 ≤ 999999 := by
  cases l with
  | nil => simp
  | cons x l =>
    have : (x :: l).getLastD 0 ∈ x :: l := by
      rw [show (x :: l).getLastD 0 = (x :: l).getLast (by simp) from by cases l <;> rfl]
      exact List.getLast_mem _
    exact h.2 _ this
theorem Good.take {l : List Int} (h : Good l) (j : Nat) : Good (l.take j) := ⟨h.1.sublist (List.take_sublist j l), fun m hm => h.2 m (List.mem_of_mem_take hm)⟩
/-- What the next number is, where the bytes are an encoding. -/
theorem next_facts {B B0 : Book} (hB : Valid B) (h0 : Valid B0) (k : Nat) (p : Int × Int) (hp : (prs B.n)[k]? = some p) (c : Nat) (cur rest : List Int) (hcur : Good cur) (hc : c < 18446744073709551616) (hjc : cur.length < c)
    (he : encB B0 = encA B k ++ (enc7 c ++ (deltas 0 cur ++ rest))) :
    c = (B0.D p).length ∧ ∃ (v : Nat) (t : List Int), dec 0 0 rest = some (v, t) ∧ v ≤ 999999 ∧ cur.getLastD 0 + v ≤ 999999 ∧ (cur ≠ [] → v ≠ 0) := by
  obtain ⟨e1, e2, e3⟩ := encB_split hB h0 k _ he
  rw [prs_split _ k p hp, List.flatMap_cons] at e3
  have hg := h0.2.2 p
  have hl := hg.len
  unfold encP at e3
  rw [List.append_assoc] at e3
  obtain ⟨e4, e5⟩ := enc7_inj hc (by omega) e3
  refine ⟨e4, ?_⟩
  have hsp : B0.D p = (B0.D p).take cur.length ++ (B0.D p).drop cur.length := (List.take_append_drop _ _).symm
  have hj : cur.length < (B0.D p).length := by omega
  rw [hsp, deltas_append, List.append_assoc] at e5
  have hgt := hg.take cur.length
  obtain ⟨e6, e7⟩ := deltas_inj cur _ 0 _ _ (by rw [List.length_take]; omega) hcur.2 hgt.2 hcur.1 hgt.1 (by omega) e5
  rw [← e6] at e7
  have hdr : (B0.D p).drop cur.length = (B0.D p)[cur.length] :: (B0.D p).drop (cur.length + 1) := List.drop_eq_getElem_cons hj
  rw [hdr] at e7
  simp only [deltas, List.append_assoc] at e7
  have hd := hg.2 _ (List.getElem_mem hj)
  have hlb := getLastD_bd hcur
  have hle : cur.getLastD 0 ≤ (B0.D p)[cur.length] ∧ (cur ≠ [] → cur.getLastD 0 < (B0.D p)[cur.length]) := by
    by_cases hce : cur = []
    · have e9 : cur.getLastD 0 = 0 := by rw [hce]; rfl
      exact ⟨by omega, fun h => absurd hce h⟩
    · have hlt : cur.getLastD 0 < (B0.D p)[cur.length] := by
        have hm : cur.getLastD 0 ∈ cur := by
          cases cur with
          | nil => exact absurd rfl hce
          | cons x l => rw [show (x :: l).getLastD 0 = (x :: l).getLast (by simp) from by cases l <;> rfl]; exact List.getLast_mem _
        rw [e6] at hm
        obtain ⟨i, hi, hie⟩ := List.mem_iff_getElem.1 hm
        rw [List.length_take] at hi
        rw [List.getElem_take] at hie
        have e8 : ((B0.D p).take cur.length).getLastD 0 = cur.getLastD 0 := by rw [← e6]
        rw [e8] at hie
        rw [← hie]
        exact List.pairwise_iff_getElem.1 hg.1 i cur.length (by omega) hj (by omega)
      exact ⟨Int.le_of_lt hlt, fun _ => hlt⟩
  refine ⟨((B0.D p)[cur.length] - cur.getLastD 0).toNat, _, by rw [e7]; exact dec0 _ _ (by omega), by omega, by omega, fun hne => ?_⟩
  have := hle.2 hne
  omega
theorem count_facts {B B0 : Book} (hB : Valid B) (h0 : Valid B0) (k : Nat) (p : Int × Int) (hp : (prs B.n)[k]? = some p) (rest : List Int) (he : encB B0 = encA B k ++ rest) :
    ∃ (v : Nat) (t : List Int), dec 0 0 rest = some (v, t) ∧ v ≤ 1000000 := by
  obtain ⟨e1, e2, e3⟩ := encB_split hB h0 k _ he
  rw [prs_split _ k p hp, List.flatMap_cons] at e3
  have hl := (h0.2.2 p).len
  unfold encP at e3
  rw [List.append_assoc] at e3
  exact ⟨_, _, by rw [e3]; exact dec0 _ _ (by omega), hl⟩
theorem first_facts {B0 : Book} (h0 : Valid B0) (bs : List Int) (he : encB B0 = bs) : ∃ (v : Nat) (t : List Int), dec 0 0 bs = some (v, t) ∧ 2 ≤ v ∧ v ≤ 12 := by
  have h1 := h0.1; have h2 := h0.2.1
  refine ⟨B0.n.toNat, _, by rw [← he]; exact dec0 _ _ (by omega), by omega, by omega⟩
theorem end_facts {B B0 : Book} (hB : Valid B) (h0 : Valid B0) (rest : List Int) (he : encB B0 = encA B (prs B.n).length ++ rest) : rest = [] := by
  obtain ⟨_, _, e3⟩ := encB_split hB h0 _ _ he
  rw [List.drop_length] at e3
  exact e3
end Go.Proofs.Ytkbiggmkjbmgoaa.Bk
