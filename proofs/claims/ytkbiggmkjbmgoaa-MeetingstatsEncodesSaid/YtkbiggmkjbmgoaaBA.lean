/- The law MeetingstatsEncodes: its walk, for every number, list of meetings and further meeting, on the heap as it is. -/
import Derived.Test.YtkbiggmkjbmgoaaAM
import Derived.Test.YtkbiggmkjbmgoaaAK
import Derived.Test.YtkbiggmkjbmgoaaQ
import Derived.Test.YtkbiggmkjbmgoaaPMeetingstatsEncodesx3
import Derived.Test.YtkbiggmkjbmgoaaAN
import Derived.Test.YtkbiggmkjbmgoaaR
section
namespace Go.Proofs.Ytkbiggmkjbmgoaa.Bk
open Go.RowKit Go.Proofs.YtkbiggmkjbmgoaaW.PrintWords
open Go.Proofs.Ytkbiggmkjbmgoaa.PMeetingstatsRates (S65 k65)
set_option linter.unusedVariables false
set_option linter.unusedSimpArgs false

theorem mem_prs {n a b : Int} (h0 : 0 ≤ a) (h1 : a < b) (h2 : b < n) : (a, b) ∈ prs n := by
  unfold prs prsA
  rw [List.mem_flatMap]
  refine ⟨a.toNat, List.mem_range.2 (by omega), ?_⟩
  unfold rowP
  rw [List.mem_map]
  refine ⟨(b - a - 1).toNat, List.mem_range.2 (by omega), ?_⟩
  simp only [Prod.mk.injEq]
  omega
theorem addDay_len (l : List Int) (d : Int) : (addDay l d).length ≤ l.length + 1 := by
  unfold addDay; split
  · simp
  · split <;> simp
theorem addDay_has {l : List Int} {d : Int} (hm : ∀ m ∈ l, m ≤ d) : d ∈ addDay l d := by
  unfold addDay; split
  · simp
  · rename_i hne
    split
    · simp
    · rename_i h
      have h1 := lastD_mem hne
      have h2 := hm _ h1
      have : lastD l = d := by omega
      rw [← this]; exact h1
theorem Tidy.meet {B : Book} (hB : B.Ok) (ht : Tidy B) {x y d : Int} (h2 : Two B.n x y) (hd : IsDay d) (hlt : ¬ d < B.nw) : Tidy (B.meet x y d) := by
  have hp : (min x y, max x y) ∈ prs B.n := by unfold Two at h2; exact mem_prs (by omega) (by omega) (by omega)
  refine ⟨fun q hq => ?_, .inr ⟨(min x y, max x y), ?_⟩⟩
  · show upd B.D (min x y, max x y) _ q = []
    unfold upd
    rw [if_neg (show ¬ q = (min x y, max x y) from fun e => hq (e ▸ hp))]
    exact ht.1 q hq
  · show d ∈ upd B.D (min x y, max x y) _ (min x y, max x y)
    rw [upd_at]
    exact addDay_has (fun m hm => by have := hB.high _ m hm; omega)
/-- A day of a pair that meets: what the book says of all pairs. -/
theorem meet_len {B : Book} {x y d : Int} (p : Int × Int) : ((B.meet x y d).D p).length ≤ (B.D p).length + 1 := by
  show (upd B.D (min x y, max x y) _ p).length ≤ _
  unfold upd
  split
  · rename_i e; subst e; exact addDay_len _ _
  · omega
theorem playP_tidy (n : Int) (h2 : 2 ≤ n) (h12 : n ≤ 12) (l : List S65) : Tidy (playP n l).1 ∧ ∀ p, ((playP n l).1.D p).length ≤ l.length := by
  unfold playP
  suffices H : ∀ (l : List S65) (st : Book × List S65) (m : Nat), st.1.Ok → Tidy st.1 → (∀ p, (st.1.D p).length ≤ m) → Tidy (l.foldl stepP st).1 ∧ ∀ p, ((l.foldl stepP st).1.D p).length ≤ m + l.length from by
    have := H l (Book.empty n, []) 0 (Book.empty_ok h2 h12) ⟨fun p _ => rfl, .inl rfl⟩ (fun p => Nat.le_refl _)
    simpa using this
  intro l
  induction l with
  | nil => intro st m _ h1 h2; exact ⟨h1, fun p => by simpa using h2 p⟩
  | cons x r ih =>
    intro st m h0 h1 h2
    rw [List.foldl_cons]
    have key : (stepP st x).1.Ok ∧ Tidy (stepP st x).1 ∧ ∀ p, ((stepP st x).1.D p).length ≤ m + 1 := by
      unfold stepP
      split
      · rename_i hc
        exact ⟨h0.meet hc.2.1 hc.2.2, h1.meet h0 hc.1 hc.2.1 hc.2.2, fun p => Nat.le_trans (meet_len p) (Nat.succ_le_succ (h2 p))⟩
      · exact ⟨h0, h1, fun p => Nat.le_succ_of_le (h2 p)⟩
    obtain ⟨k1, k2, k3⟩ := key
    obtain ⟨e1, e2⟩ := ih (stepP st x) (m + 1) k1 k2 k3
    exact ⟨e1, fun p => by have := e2 p; simp only [List.length_cons]; omega⟩
theorem deltas_len : ∀ (l : List Int) (a : Int), (∀ m ∈ l, m ≤ 999999) → 0 ≤ a → (∀ m ∈ l, 0 ≤ m) → (deltas a l).length ≤ 10 * l.length := by
  intro l
  induction l with
  | nil => intro a _ _ _; simp [deltas]
  | cons x l ih =>
    intro a h1 h2 h3
    simp only [deltas, List.length_append, List.length_cons]
    have e1 := enc7_len64 (x - a).toNat (by have := h1 x (by simp); omega)
    have e2 := ih x (fun m hm => h1 m (by simp [hm])) (h3 x (by simp)) (fun m hm => h3 m (by simp [hm]))
    omega
theorem flat_len {m : Nat} {f : Int × Int → List Int} : ∀ (ps : List (Int × Int)), (∀ p, (f p).length ≤ m) → (ps.flatMap f).length ≤ ps.length * m
  | [], _ => by simp
  | p :: ps, h => by
    rw [List.flatMap_cons, List.length_append, List.length_cons]
    have h1 := h p
    have h2 := flat_len ps h
    have : (ps.length + 1) * m = ps.length * m + m := Nat.succ_mul _ _
    omega
theorem encB_len {B : Book} (hB : B.Ok) (m : Nat) (hm : m ≤ 100) (h : ∀ p, (B.D p).length ≤ m) : (encB B).length ≤ 1048576 := by
  have hn := hB.n2
  have hn2 := hB.n12
  unfold encB
  rw [List.length_append]
  have e1 := enc7_len64 B.n.toNat (by omega)
  have e2 := flat_len (m := 1010) (f := fun p => encP (B.D p)) (prs B.n) (fun p => by
    show (encP (B.D p)).length ≤ 1010
    unfold encP
    rw [List.length_append]
    have h1 := h p
    have h2 := enc7_len64 (B.D p).length (by omega)
    have h3 := deltas_len (B.D p) 0 (fun m hm => (hB.good p).2 m hm |>.2) (by omega) (fun m hm => (hB.good p).2 m hm |>.1)
    omega)
  have e3 : (prs B.n).length ≤ 144 := by
    have := prsA_len B.n.toNat (by omega) B.n.toNat (by omega)
    unfold prs; omega
  have e4 : (prs B.n).length * 1010 ≤ 144 * 1010 := Nat.mul_le_mul_right _ e3
  omega
/-- One encoding, one book. -/
theorem encB_same {B B0 : Book} (hB : B.Ok) (h0 : B0.Ok) (ht : Tidy B) (ht0 : Tidy B0) (h : encB B = encB B0) : B = B0 := by
  have h1 : encB B0 = encA B (prs B.n).length ++ [] := by rw [encA_all, List.append_nil]; exact h.symm
  obtain ⟨e1, e2, _⟩ := encB_split hB.valid h0.valid _ [] h1
  rw [List.take_length] at e2
  have hD : B.D = B0.D := by
    funext p
    by_cases hp : p ∈ prs B.n
    · exact e2 p hp
    · rw [ht.1 p hp, ht0.1 p (by rw [e1]; exact hp)]
  have hnw : B.nw = B0.nw := by
    have a1 := hB.nw0
    have a2 := h0.nw0
    rcases ht.2 with k1 | ⟨p, k1⟩
    · rcases ht0.2 with k2 | ⟨q, k2⟩
      · omega
      · have h3 := k2
        rw [← hD] at h3
        have := hB.high q _ h3
        omega
    · have h3 := k1
      rw [hD] at h3
      have := h0.high p _ h3
      rcases ht0.2 with k2 | ⟨q, k2⟩
      · omega
      · have h4 := k2
        rw [← hD] at h4
        have := hB.high q _ h4
        omega
  cases B
  cases B0
  simp only at e1 hD hnw
  rw [e1, hD, hnw]
end Go.Proofs.Ytkbiggmkjbmgoaa.Bk
end
section
namespace Go.Proofs.Ytkbiggmkjbmgoaa.Bk
open Go.RowKit Go.Proofs.YtkbiggmkjbmgoaaW.PrintWords
set_option linter.unusedVariables false
set_option linter.unusedSimpArgs false

def cv (p : PMeetingstatsRates.S65) : PMeetingstatsEncodes.S65 := ⟨p.f0, p.f1, p.f2⟩
theorem rd_cv (l : List PMeetingstatsRates.S65) (i : Int) : PMeetingstatsEncodes.rd_T65 (l.map cv) i = cv (PMeetingstatsRates.rd_T65 l i) := by
  unfold PMeetingstatsEncodes.rd_T65 PMeetingstatsRates.rd_T65
  rw [List.getD_eq_getElem?_getD, List.getD_eq_getElem?_getD, List.getElem?_map]
  cases l[i.toNat]? <;> rfl
theorem days_cv : ∀ (k : Nat) (l : List PMeetingstatsRates.S65) (a b : Int) (out : List Int) (i : Int),
    PMeetingstatsEncodes.kinkeepref32_Days.l0 k (l.map cv) a b out i = PMeetingstatsRates.kinkeepref32_Days.l0 k l a b out i ∧ ∀ t, PMeetingstatsEncodes.kinkeepref32_Days.j1 k (l.map cv) a b out i t = PMeetingstatsRates.kinkeepref32_Days.j1 k l a b out i t := by
  intro k
  induction k with
  | zero => intro l a b out i; exact ⟨by simp [PMeetingstatsEncodes.kinkeepref32_Days.l0, PMeetingstatsRates.kinkeepref32_Days.l0], fun t => by simp [PMeetingstatsEncodes.kinkeepref32_Days.j1, PMeetingstatsRates.kinkeepref32_Days.j1]⟩
  | succ k ih =>
    intro l a b out i
    refine ⟨?_, fun t => ?_⟩
    · rw [PMeetingstatsEncodes.kinkeepref32_Days.l0, PMeetingstatsRates.kinkeepref32_Days.l0]
      simp only [rd_cv, List.length_map, (ih l a b out i).2]
      rfl
    · rw [PMeetingstatsEncodes.kinkeepref32_Days.j1, PMeetingstatsRates.kinkeepref32_Days.j1]
      simp only [rd_cv, List.length_map, (ih l a b _ _).1]
      rfl
theorem daysf_cv (k : Nat) (l : List PMeetingstatsRates.S65) (a b : Int) : PMeetingstatsEncodes.kinkeepref32_Days.f k (l.map cv) a b = PMeetingstatsRates.kinkeepref32_Days.f k l a b := by
  unfold PMeetingstatsEncodes.kinkeepref32_Days.f PMeetingstatsRates.kinkeepref32_Days.f
  exact (days_cv k l a b _ _).1
/-- The same cells, read in the other structure. -/
theorem C_cv {w : World} {A : Option Addr} {n : Nat} {l : List PMeetingstatsRates.S65} (h : Kd.C PMeetingstatsRates.k65 w A n l) : Kd.C PMeetingstatsEncodes.k65 w A n (l.map cv) := by
  obtain ⟨h1, h2, h3⟩ := h
  refine ⟨by rw [List.length_map]; exact h1, h2, fun h0 => ?_⟩
  obtain ⟨ad, e, hc⟩ := h3 h0
  refine ⟨ad, e, fun j p hj => ?_⟩
  rw [List.getElem?_map] at hj
  obtain ⟨q, hq, rfl⟩ := Option.map_eq_some_iff.1 hj
  obtain ⟨c, k1, k2, k3⟩ := hc j q hq
  refine ⟨c, k1, ?_, k3⟩
  obtain rfl := PMeetingstatsRates.k65_open k2
  exact PMeetingstatsEncodes.k65_mk w (cv q)
end Go.Proofs.Ytkbiggmkjbmgoaa.Bk
end
section
namespace Go.Proofs.Ytkbiggmkjbmgoaa.Bk
open Go.RowKit Go.Proofs.YtkbiggmkjbmgoaaW.PrintWords
set_option linter.unusedVariables false
set_option linter.unusedSimpArgs false

/-- With enough steps. -/
def Ev {α : Type} (F : Nat → Option α) (r : α) : Prop := ∃ k0, ∀ k, k0 ≤ k → F k = some r
theorem Ev.step {α : Type} {F G : Nat → Option α} {r : α} (m : Nat) (h : Ev F r) (hs : ∀ k, m ≤ k → G (k + 1) = F k) : Ev G r := by
  obtain ⟨k0, hk⟩ := h
  refine ⟨max k0 m + 1, fun k hk' => ?_⟩
  obtain ⟨j, rfl⟩ : ∃ j, k = j + 1 := ⟨k - 1, by omega⟩
  rw [hs j (by omega)]
  exact hk j (by omega)

theorem ev_l2 (n : Int) (l : List PMeetingstatsEncodes.S65) (a b : Int) (days : List Int) (hg : Good days) (r : List Int) : ∀ (d j : Nat) (x : List Int), j + d = days.length → x.length ≤ 100000000 + 10 * j →
    Ev (fun k => PMeetingstatsEncodes.kinkeepref32_Encode.l1 k n l (x ++ deltas (lastOr days j) (days.drop j)) a (wrap64 (b + 1))) r →
    Ev (fun k => PMeetingstatsEncodes.kinkeepref32_Encode.l2 k n l x a b days j) r := by
  intro d
  induction d with
  | zero =>
    intro j x hj hx h
    refine Ev.step 0 h (fun k _ => ?_)
    rw [List.drop_of_length_le (by omega)]
    simp only [deltas, List.append_nil]
    rw [PMeetingstatsEncodes.kinkeepref32_Encode.l2, if_neg (by omega)]
  | succ d ih =>
    intro j x hj hx h
    have hlt : j < days.length := by omega
    have hgl := hg.len
    have hd := hg.2 _ (List.getElem_mem hlt)
    have hdr : days.drop j = days[j] :: days.drop (j + 1) := List.drop_eq_getElem_cons hlt
    have hlast : lastOr days (j + 1) = days[j] := by
      unfold lastOr
      rw [if_neg (by omega), List.getD_eq_getElem?_getD, show j + 1 - 1 = j from rfl, List.getElem?_eq_getElem hlt]; rfl
    have hl0 : 0 ≤ lastOr days j ∧ lastOr days j ≤ days[j] := by
      unfold lastOr
      split
      · exact ⟨by omega, hd.1⟩
      · have hj3 : j - 1 < days.length := by omega
        rw [List.getD_eq_getElem?_getD, List.getElem?_eq_getElem hj3]
        exact ⟨(hg.2 _ (List.getElem_mem hj3)).1, Int.le_of_lt (List.pairwise_iff_getElem.1 hg.1 (j - 1) j hj3 hlt (by omega))⟩
    have hlen := enc7_len64 (days[j] - lastOr days j).toNat (by omega)
    rw [hdr] at h
    simp only [deltas] at h
    rw [← List.append_assoc, ← hlast] at h
    rw [hlast] at h
    have h2 := ih (j + 1) (x ++ enc7 (days[j] - lastOr days j).toNat) (by omega) (by rw [List.length_append]; omega) (by rw [hlast]; exact h)
    refine Ev.step 10 h2 (fun k hk => ?_)
    rw [PMeetingstatsEncodes.kinkeepref32_Encode.l2, if_pos (by omega)]
    have hrd : ∀ i : Nat, (hi : i < days.length) → rd days (i : Int) = days[i] := fun i hi => by
      unfold rd
      rw [Int.toNat_natCast, List.getD_eq_getElem?_getD, List.getElem?_eq_getElem hi]; rfl
    have hw : wrap64 ((j : Int) + 1) = ((j + 1 : Nat) : Int) := by rw [wrap_in (by unfold In64; omega)]; omega
    by_cases hj0 : j = 0
    · subst hj0
      have e0 : lastOr days 0 = 0 := rfl
      rw [if_pos (show ((0 : Nat) : Int) = 0 from rfl), if_pos (by omega), show rd days 0 = days[0] from hrd 0 hlt, show days[0] = ((days[0].toNat : Nat) : Int) from by omega, refUint_yes _ (by omega) k hk, Option.bind_some, if_pos (by have := hlen; rw [e0, Int.sub_zero] at this; omega), hw, e0, Int.sub_zero]
      rfl
    · have hw1 : wrap64 ((j : Int) - 1) = ((j - 1 : Nat) : Int) := by rw [wrap_in (by unfold In64; omega)]; omega
      have elast : lastOr days j = days[j - 1] := by
        unfold lastOr
        rw [if_neg hj0, List.getD_eq_getElem?_getD, List.getElem?_eq_getElem (by omega)]; rfl
      rw [if_neg (by omega), if_pos (by omega), hw1, if_pos (by omega), if_pos (by omega), hrd j hlt, hrd (j - 1) (by omega), ← elast, wrap_in (x := days[j] - lastOr days j) (by unfold In64; omega), show days[j] - lastOr days j = (((days[j] - lastOr days j).toNat : Nat) : Int) from by omega, refUint_yes _ (by omega) k hk, Option.bind_some, if_pos (by omega), hw]
      rfl
theorem days_ev (l : List PMeetingstatsRates.S65) (a b : Int) (hl : l.length ≤ 1000) (k : Nat) (hk : 2 * l.length + 1 ≤ k) : PMeetingstatsEncodes.kinkeepref32_Days.f k (l.map cv) a b = some (daysL l a b) := by
  obtain ⟨d, rfl⟩ : ∃ d, k = 2 * l.length + 1 + d := ⟨k - (2 * l.length + 1), by omega⟩
  induction d with
  | zero => rw [daysf_cv]; exact days_ok l a b hl
  | succ d ih => exact PMeetingstatsEncodes.kinkeepref32_Days.mono _ _ _ _ _ (ih (by omega))
theorem ev_l1 (n a : Nat) (hn : n ≤ 12) (han : a < n) (l : List PMeetingstatsRates.S65) (hl : l.length ≤ 1000) (D : Int × Int → List Int) (hD : ∀ x y : Int, x < y → D (x, y) = daysL l x y) (hg : ∀ p, Good (D p)) (hsz : ∀ p, (D p).length ≤ 1000) (r : List Int) : ∀ (d b : Nat) (x : List Int), b + d = n → a < b → x.length ≤ 2000000 * b →
    Ev (fun k => PMeetingstatsEncodes.kinkeepref32_Encode.l0 k (n : Int) (l.map cv) (x ++ ((List.range d).map (fun i => ((a : Int), ((b + i : Nat) : Int)))).flatMap (fun p => encP (D p))) (wrap64 ((a : Int) + 1))) r →
    Ev (fun k => PMeetingstatsEncodes.kinkeepref32_Encode.l1 k (n : Int) (l.map cv) x a b) r := by
  intro d
  induction d with
  | zero =>
    intro b x hb hab hx h
    refine Ev.step 0 h (fun k _ => ?_)
    rw [PMeetingstatsEncodes.kinkeepref32_Encode.l1, if_neg (by omega)]
    simp
  | succ d ih =>
    intro b x hb hab hx h
    have hp := hg ((a : Int), (b : Int))
    have hdl : D ((a : Int), (b : Int)) = daysL l a b := hD _ _ (by omega)
    have hlen := hsz ((a : Int), (b : Int))
    have hm : (List.range (d + 1)).map (fun i => ((a : Int), ((b + i : Nat) : Int))) = ((a : Int), (b : Int)) :: (List.range d).map (fun i => ((a : Int), ((b + 1 + i : Nat) : Int))) := by
      rw [List.range_succ_eq_map, List.map_cons, List.map_map]
      congr 1
      apply List.map_congr_left
      intro i _
      simp only [Function.comp, Prod.mk.injEq, true_and]
      omega
    rw [hm, List.flatMap_cons, ← List.append_assoc] at h
    have hpl : (encP (D ((a : Int), (b : Int)))).length ≤ 100000 := by
      unfold encP
      rw [List.length_append]
      have h2 := enc7_len64 (D ((a : Int), (b : Int))).length (by omega)
      have h3 := deltas_len (D ((a : Int), (b : Int))) 0 (fun m hm => (hp.2 m hm).2) (by omega) (fun m hm => (hp.2 m hm).1)
      omega
    have h2 := ih (b + 1) (x ++ encP (D ((a : Int), (b : Int)))) (by omega) (by omega) (by rw [List.length_append]; omega) h
    have hw : wrap64 ((b : Int) + 1) = ((b + 1 : Nat) : Int) := by rw [wrap_in (by unfold In64; omega)]; omega
    have he7 := enc7_len64 (D ((a : Int), (b : Int))).length (by omega)
    have h3 := ev_l2 (n : Int) (l.map cv) a b (D ((a : Int), (b : Int))) hp r (D ((a : Int), (b : Int))).length 0 (x ++ enc7 (D ((a : Int), (b : Int))).length) (by omega) (by rw [List.length_append]; omega) (by
      rw [hw]
      have e : x ++ enc7 (D ((a : Int), (b : Int))).length ++ deltas (lastOr (D ((a : Int), (b : Int))) 0) (List.drop 0 (D ((a : Int), (b : Int)))) = x ++ encP (D ((a : Int), (b : Int))) := by
        unfold encP lastOr; simp
      rw [e]
      exact h2)
    refine Ev.step (2 * l.length + 10) h3 (fun k hk => ?_)
    rw [PMeetingstatsEncodes.kinkeepref32_Encode.l1, if_pos (by omega), days_ev l a b hl k (by omega), Option.bind_some, ← hdl, refUint_yes _ (by omega) k (by omega), Option.bind_some, if_pos (by omega)]
    rfl
theorem encs_len {D : Int × Int → List Int} (hg : ∀ p, Good (D p)) (hsz : ∀ p, (D p).length ≤ 1000) (ps : List (Int × Int)) : (ps.flatMap (fun p => encP (D p))).length ≤ ps.length * 100000 :=
  flat_len (m := 100000) (f := fun p => encP (D p)) ps (fun p => by
    show (encP (D p)).length ≤ 100000
    unfold encP
    rw [List.length_append]
    have h1 := hsz p
    have h2 := enc7_len64 (D p).length (by omega)
    have h3 := deltas_len (D p) 0 (fun m hm => ((hg p).2 m hm).2) (by omega) (fun m hm => ((hg p).2 m hm).1)
    omega)
theorem ev_l0 (n : Nat) (hn : n ≤ 12) (l : List PMeetingstatsRates.S65) (hl : l.length ≤ 1000) (D : Int × Int → List Int) (hD : ∀ x y : Int, x < y → D (x, y) = daysL l x y) (hg : ∀ p, Good (D p)) (hsz : ∀ p, (D p).length ≤ 1000) : ∀ (d a : Nat), a + d = n →
    Ev (fun k => PMeetingstatsEncodes.kinkeepref32_Encode.l0 k (n : Int) (l.map cv) (enc7 n ++ (prsA n a).flatMap (fun p => encP (D p))) a) (enc7 n ++ (prsA n n).flatMap (fun p => encP (D p))) := by
  intro d
  induction d with
  | zero =>
    intro a ha
    obtain rfl : a = n := by omega
    refine ⟨1, fun k hk => ?_⟩
    obtain ⟨k, rfl⟩ : ∃ j, k = j + 1 := ⟨k - 1, by omega⟩
    simp only [PMeetingstatsEncodes.kinkeepref32_Encode.l0]
    rw [if_neg (by omega)]
  | succ d ih =>
    intro a ha
    have h1 := ih (a + 1) (by omega)
    rw [prsA_succ, List.flatMap_append, ← List.append_assoc] at h1
    have hw : wrap64 ((a : Int) + 1) = ((a + 1 : Nat) : Int) := by rw [wrap_in (by unfold In64; omega)]; omega
    have hx : (enc7 n ++ (prsA n a).flatMap (fun p => encP (D p))).length ≤ 2000000 * (a + 1) := by
      rw [List.length_append]
      have e1 := enc7_len64 n (by omega)
      have e2 := encs_len hg hsz (prsA n a)
      have e3 := prsA_len n hn a (by omega)
      by_cases h0 : a = 0
      · subst h0; simp [prsA] at *; omega
      · have e4 : (prsA n a).length * 100000 ≤ (12 * a) * 100000 := Nat.mul_le_mul_right _ e3
        omega
    have h2 := ev_l1 n a hn (by omega) l hl D hD hg hsz _ (n - (a + 1)) (a + 1) _ (by omega) (by omega) hx (by rw [hw]; exact h1)
    refine Ev.step 0 h2 (fun k _ => ?_)
    simp only [PMeetingstatsEncodes.kinkeepref32_Encode.l0]
    rw [if_pos (by omega), hw]
end Go.Proofs.Ytkbiggmkjbmgoaa.Bk
end
section
namespace Go.Proofs.Ytkbiggmkjbmgoaa.Bk
open Go.RowKit Go.Proofs.YtkbiggmkjbmgoaaW.PrintWords Go.Proofs.YtkbiggmkjbmgoaaW.PrintLast Go.Proofs.YtkbiggmkjbmgoaaW.PrintMore Go.Proofs.Mp
open Go.Proofs.Ytkbiggmkjbmgoaa.PMeetingstatsRates (S65 k65)
set_option linter.unusedVariables false
set_option linter.unusedSimpArgs false

section
variable {P : Program} {ops : Array Oper} {Q : Exit → Act → World → Prop} {md : Region.Mode} {S S' : World → Prop}
/-- From here on more is kept. -/
theorem narrow_ (hsub : ∀ w, S' w → S w) : ∀ {fuel : Nat} {l : Array Bool} {a : Act} {w : World}, S' w → (S' w → wpAnyLast P md ops Q S' [] fuel l a w) → wpAnyLast P md ops Q S [] fuel l a w
  | 0, _, _, _, hw, h => h hw
  | fuel + 1, l, a, w, hw, h =>
    ⟨(h hw).1, fun i hi => wpOp_mono (fun a' w' h3 => ⟨fun _ _ => hsub _ (h3.1 (by simp) hw), narrow_ hsub (h3.1 (by simp) hw) (fun _ => h3.2)⟩) ((h hw).2 i hi)⟩
end

theorem playP_len (n : Int) (l : List S65) : (playP n l).2.length ≤ l.length := by
  unfold playP
  suffices H : ∀ (l : List S65) (st : Book × List S65), (l.foldl stepP st).2.length ≤ st.2.length + l.length from by
    have := H l (Book.empty n, []); simpa using this
  intro l
  induction l with
  | nil => intro st; simp
  | cons x r ih =>
    intro st
    rw [List.foldl_cons]
    have h1 := ih (stepP st x)
    have h2 := stepP_len st x
    simp only [List.length_cons]; omega

theorem ev_enc (n : Int) (h2 : 2 ≤ n) (h12 : n ≤ 12) (l : List S65) (hl : l.length ≤ 60) :
    ∃ k, PMeetingstatsEncodes.kinkeepref32_Encode.f k n ((playP n l).2.map cv) = some (encB (playP n l).1) := by
  obtain ⟨hok, hD⟩ := playP_inv n h2 h12 l
  obtain ⟨hti, hsz⟩ := playP_tidy n h2 h12 l
  have hpl := playP_len n l
  have hn := playP_n n l
  generalize playP n l = st at *
  obtain ⟨m, rfl⟩ : ∃ m : Nat, n = m := ⟨n.toNat, by omega⟩
  obtain ⟨k0, hk⟩ := ev_l0 m (by omega) st.2 (by omega) st.1.D (fun x y h => by have := hD x y (by omega); rwa [show min x y = x from by omega, show max x y = y from by omega] at this) hok.good (fun p => by have := hsz p; omega) m 0 (by omega)
  have e : enc7 m ++ (prsA m 0).flatMap (fun p => encP (st.1.D p)) = enc7 m := by simp [prsA]
  have e2 : enc7 m ++ (prsA m m).flatMap (fun p => encP (st.1.D p)) = encB st.1 := by unfold encB prs; rw [hn]; rfl
  rw [e, e2] at hk
  have e7 := enc7_len64 m (by omega)
  refine ⟨k0 + 10, ?_⟩
  have h1 := hk (k0 + 10) (by omega)
  unfold PMeetingstatsEncodes.kinkeepref32_Encode.f
  rw [refUint_yes m (by omega) (k0 + 10) (by omega), Option.bind_some]
  exact h1

theorem refEncode (n : Int) (A : Option Addr) (c : Nat) (l : List S65) (w : World) (h2 : 2 ≤ n) (h12 : n ≤ 12) (hl : l.length ≤ 60) (hc : (playP n l).2.length ≤ c) (hr : Kd.C k65 w A (playP n l).2.length (playP n l).2) :
    Calls Try.prog 30 #[.int .i64 n, .slice A (playP n l).2.length c] w fun e w' => ∃ v, e = .returned v ∧ Kd.R (Kd.int .u8) 5 w' w.heap.size (fun _ => True) v (encB (playP n l).1) ∧ Below w.heap.size w w' := by
  obtain ⟨k, hk⟩ := ev_enc n h2 h12 l hl
  have h := PMeetingstatsEncodes.kinkeepref32_Encode.calls k n A c ((playP n l).2.map cv) (encB (playP n l).1) w (by rw [List.length_map]; exact C_cv hr) (by rw [List.length_map]; exact hc) hk
  rw [List.length_map] at h
  exact h
theorem encP_bytes {l : List Int} : ∀ x ∈ encP l, 0 ≤ x ∧ x < 256 := by
  have hd : ∀ (l : List Int) (a : Int), ∀ x ∈ deltas a l, 0 ≤ x ∧ x < 256 := by
    intro l
    induction l with
    | nil => intro a x hx; simp [deltas] at hx
    | cons d t ih =>
      intro a x hx
      simp only [deltas, List.mem_append] at hx
      rcases hx with hx | hx
      · exact enc7_bytes _ x hx
      · exact ih d x hx
  intro x hx
  unfold encP at hx
  rcases List.mem_append.1 hx with hx | hx
  · exact enc7_bytes _ x hx
  · exact hd _ _ x hx
theorem encB_bytes (B : Book) : ∀ x ∈ encB B, 0 ≤ x ∧ x < 256 := by
  intro x hx
  unfold encB at hx
  rcases List.mem_append.1 hx with hx | hx
  · exact enc7_bytes _ x hx
  · obtain ⟨p, _, hp⟩ := List.mem_flatMap.1 hx
    exact encP_bytes x hp
/-- What a meeting answers, and the book behind it. -/
def meetR (B : Book) (x y d : Int) : Int × Book := if ¬ (Two B.n x y ∧ IsDay d) then (1, B) else if d < B.nw then (6, B) else (0, B.meet x y d)
theorem meetR_ok {B : Book} (hB : B.Ok) (x y d : Int) : (meetR B x y d).2.Ok ∧ (meetR B x y d).2.n = B.n ∧ ∀ p, ((meetR B x y d).2.D p).length ≤ (B.D p).length + 1 := by
  unfold meetR
  split
  · exact ⟨hB, rfl, fun p => Nat.le_succ _⟩
  · rename_i h
    have h := Classical.not_not.1 h
    split
    · exact ⟨hB, rfl, fun p => Nat.le_succ _⟩
    · rename_i h2
      exact ⟨hB.meet h.2 h2, rfl, fun p => meet_len p⟩
theorem Meet_any (b : Nat) (B : Book) (S : Nat → Prop) (x y d : Int) (w : World) (h : BookAt w b B S) (hB : B.Ok) :
    Calls Try.prog 25 #[.pointer (some ⟨b, 0, none⟩), .int .i64 x, .int .i64 y, .int .i64 d] w fun e w' => e = .returned (.int .i64 (meetR B x y d).1) ∧
      ∃ S', (∀ i, S' i → S i ∨ w.heap.size ≤ i) ∧ Fr S w w' ∧ BookAt w' b (meetR B x y d).2 S' := by
  unfold meetR
  by_cases h1 : Two B.n x y ∧ IsDay d
  · rw [if_neg (fun h => h h1)]
    by_cases h2 : d < B.nw
    · rw [if_pos h2]
      exact (Meet_state b B S x y d w h h1.1 h1.2 h2).mono fun e w' ⟨he, hb⟩ => ⟨he, S, fun i hi => .inl hi, Fr.of_below hb, h.below hb⟩
    · rw [if_neg h2]
      exact Meet_yes b B S x y d w h hB h1.1 h1.2 h2
  · rw [if_pos h1]
    exact (Meet_arg b B S x y d w h h1).mono fun e w' ⟨he, hb⟩ => ⟨he, S, fun i hi => .inl hi, Fr.of_below hb, h.below hb⟩
end Go.Proofs.Ytkbiggmkjbmgoaa.Bk
end
section
namespace Go.Proofs.Ytkbiggmkjbmgoaa.Bk
open Go.RowKit Go.Proofs.YtkbiggmkjbmgoaaW.PrintWords Go.Proofs.YtkbiggmkjbmgoaaW.PrintLast Go.Proofs.YtkbiggmkjbmgoaaW.PrintMore Go.Proofs.Mp
open Go.Proofs.Ytkbiggmkjbmgoaa.PMeetingstatsRates (S65 k65)
set_option linter.unusedVariables false
set_option linter.unusedSimpArgs false

set_option maxRecDepth 100000 in
theorem encodes_long (n : Int) (A : Option Addr) (c : Nat) (k : Nat) (x y d : Int) (w : World) (hk : 60 < k) (hm : k ≤ 9223372036854775807) :
    Calls Try.prog 8 #[.int .i64 n, .slice A k c, .agg #[.int .i64 x, .int .i64 y, .int .i64 d]] w fun e w' => e = .returned (.bool true) ∧ Below w.heap.size w w' := by
  have hbx := Lib.hid ((Below.refl w.heap.size w).alloc (Nat.le_refl _) (.cells #[.int .i64 x, .int .i64 y, .int .i64 d] 48))
  go_enter Try.func8, Try.ntmps8
  go_wp2_with fail
  refine (awake_calls _).mono ?_
  rintro e w1 ⟨rfl, hb⟩
  go_wp2_with fail
  go_ret
  exact ⟨rfl, hbx.out.trans (hb.mono hbx.out.size)⟩
set_option maxRecDepth 100000 in
theorem encodes_bad (n : Int) (A : Option Addr) (c : Nat) (k : Nat) (x y d : Int) (w : World) (hk : ¬ 60 < k) (hn : ¬ (2 ≤ n ∧ n ≤ 12)) :
    Calls Try.prog 8 #[.int .i64 n, .slice A k c, .agg #[.int .i64 x, .int .i64 y, .int .i64 d]] w fun e w' => e = .returned (.bool true) ∧ Below w.heap.size w w' := by
  have hbx := Lib.hid ((Below.refl w.heap.size w).alloc (Nat.le_refl _) (.cells #[.int .i64 x, .int .i64 y, .int .i64 d] 48))
  have Hp := Lib.hid (fun w => play_no n A k c w hn)
  clear hn
  go_enter Try.func8, Try.ntmps8
  go_wp2_with fail
  refine (Hp.out _).mono ?_
  rintro e w1 ⟨rfl, hb⟩
  have HB1 := Lib.hid (hbx.out.trans (hb.mono hbx.out.size))
  clear hb
  go_wp2_with fail
  refine (awake_calls _).mono ?_
  rintro e w3 ⟨rfl, hb3⟩
  have HB3 := Lib.hid (HB1.out.trans (hb3.mono HB1.out.size))
  clear hb3
  go_wp2_with fail
  go_ret
  exact ⟨rfl, HB3.out⟩

/-- What stands behind play, Encode and Decode. -/
structure Two2 (w wr : World) (bk bl : Nat) (B : Book) (Sk Sl : Nat → Prop) (x y d : Int) : Prop where
  k : BookAt wr bk B Sk
  l : BookAt wr bl B Sl
  apart : ∀ i, Sk i → ¬ Sl i
  lowk : ∀ i, i ≤ w.heap.size → ¬ Sk i
  lowl : ∀ i, i ≤ w.heap.size → ¬ Sl i
  arg : wr.heap[w.heap.size]? = some (.cells #[.int .i64 x, .int .i64 y, .int .i64 d] 48 (0, 0))
  below : Below w.heap.size w wr
theorem Two2.grow {w wr w' : World} {bk bl : Nat} {B : Book} {Sk Sl : Nat → Prop} {x y d : Int} (h : Two2 w wr bk bl B Sk Sl x y d) (hb : Below wr.heap.size wr w') : Two2 w w' bk bl B Sk Sl x y d :=
  ⟨h.k.below hb, h.l.below hb, h.apart, h.lowk, h.lowl, blk_below h.arg hb, h.below.trans (hb.mono h.below.size)⟩

theorem argc {W : World} {g : Nat} {x y d : Int} (h : W.heap[g]? = some (.cells #[.int .i64 x, .int .i64 y, .int .i64 d] 48 (0, 0))) :
    W.cell? ⟨g, 0, none⟩ = some (.int .i64 x) ∧ W.cell? ⟨g, 1, none⟩ = some (.int .i64 y) ∧ W.cell? ⟨g, 2, none⟩ = some (.int .i64 d) :=
  ⟨(blk_cell h 0).trans rfl, (blk_cell h 1).trans rfl, (blk_cell h 2).trans rfl⟩
set_option maxHeartbeats 8000000 in
set_option maxRecDepth 100000 in
theorem encodes_main (n : Int) (A : Option Addr) (c : Nat) (l : List S65) (x y d : Int) (w : World) (hk : ¬ 60 < l.length) (h2 : 2 ≤ n) (h12 : n ≤ 12) (hl : Kd.C k65 w A l.length l) :
    Calls Try.prog 8 #[.int .i64 n, .slice A l.length c, .agg #[.int .i64 x, .int .i64 y, .int .i64 d]] w fun e w' => e = .returned (.bool true) ∧ Below w.heap.size w w' := by
  have hbx := Lib.hid ((Below.refl w.heap.size w).alloc (Nat.le_refl _) (.cells #[.int .i64 x, .int .i64 y, .int .i64 d] 48))
  have hkx := Lib.hid (blk_new w (.cells #[.int .i64 x, .int .i64 y, .int .i64 d] 48))
  have hl' := Lib.hid (Kd.C_alloc hl (.cells #[.int .i64 x, .int .i64 y, .int .i64 d] 48))
  have hpl := Lib.hid (fun w hl => play_yes n A c l w h2 h12 hl (by omega))
  have hri := Lib.hid (fun A c w => refEncode n A c l w h2 h12 (by omega))
  have hti := Lib.hid (playP_tidy n h2 h12 l)
  have hlen := Lib.hid (show l.length ≤ 60 from by omega)
  clear hl
  go_enter Try.func8, Try.ntmps8
  go_wp2_with fail
  generalize hw0e : w.alloc (.cells #[.int .i64 x, .int .i64 y, .int .i64 d] 48) = w0 at *
  refine (hpl.out _ hl'.out).mono ?_
  rintro e w1 ⟨bk, v, rfl, nn, hinv⟩
  obtain ⟨Sk, hbk, hok, hSk, hR, hbw, hnw, hdl⟩ := hinv
  obtain ⟨Ad, cd, rfl, hcd, hCd⟩ := Kd.R_reads hR
  have hw0 : w0.heap.size = w.heap.size + 1 := by rw [← hw0e]; exact Array.size_push ..
  have HRef := Lib.hid (fun w' h => hri.out Ad cd w' hcd h)
  have HCd := Lib.hid hCd
  have HBl := Lib.hid hbw
  have Hbk := Lib.hid hbk
  have Hok := Lib.hid hok
  have Hsz := Lib.hid (fun p => Nat.le_trans (hti.out.2 p) hlen.out)
  have Hti := Lib.hid hti.out.1
  have HSk := Lib.hid (show ∀ i, i ≤ w.heap.size → ¬ Sk i from fun i hi h => by have := hSk i h; omega)
  have Hw0 := Lib.hid (hbx.out)
  have Hx1 := Lib.hid (blk_below hkx.out hbw)
  have HB1 := Lib.hid (hbx.out.trans (hbw.mono hbx.out.size))
  clear hbw hbk hok hSk hR hnw hdl hCd hpl hri hti hw0e hl' hkx hbx hlen Hw0 HBl
  generalize (playP n l).1 = B at *
  generalize (playP n l).2 = dn at *
  have Hlen := Lib.hid (encB_len Hok.out 60 (by omega) Hsz.out)
  have Hby := Lib.hid (encB_bytes B)
  have Hok2 := Lib.hid (meetR_ok Hok.out x y d)
  have Hlen2 := Lib.hid (encB_len Hok2.out.1 61 (by omega) (fun p => Nat.le_trans (Hok2.out.2.2 p) (Nat.succ_le_succ (Hsz.out p))))
  have HM := Lib.hid (fun b S w h => Meet_any b B S x y d w h Hok.out)
  clear hw0
  go_wp2_with fail
  refine (Encode_calls bk B Sk _ Hbk.out Hok.out Hlen.out).mono ?_
  rintro e w2 ⟨v2, rfl, hR2, hb2⟩
  obtain ⟨Ae, ce, rfl, hce, hCe⟩ := Kd.R_reads hR2
  have Hbk2 := Lib.hid (Hbk.out.below hb2)
  have HCd2 := Lib.hid (Kd.C_below HCd.out hb2)
  have HCe := Lib.hid hCe
  have Hx2 := Lib.hid (blk_below Hx1.out hb2)
  have HB2 := Lib.hid (HB1.out.trans (hb2.mono HB1.out.size))
  clear hR2 hb2 hCe hce Hbk HCd Hx1 HB1
  go_wp2_with fail
  refine (Decode_calls Ae ce (encB B) _ HCe.out (by have := Hlen.out; omega) Hby.out).mono ?_
  rintro e w3 (⟨bl, B', Sl, rfl, hbl, hok', hti', henc, hSl, hb3⟩ | ⟨rfl, hb3, hno⟩)
  · have hBB := encB_same hok' Hok.out hti' Hti.out henc
    rw [hBB] at hbl
    have HT := Lib.hid (show Two2 w w3 bk bl B Sk Sl x y d from ⟨Hbk2.out.below hb3, hbl, fun i hi hj => by
        have h1 := hSl i hj
        obtain ⟨_, _, _, _, _, _, _, _, _, h8⟩ := Hbk2.out
        have := h8 i hi
        omega, HSk.out, fun i hi hj => by
        have h1 := hSl i hj
        have := blk_lt Hx2.out
        omega, blk_below Hx2.out hb3, HB2.out.trans (hb3.mono HB2.out.size)⟩)
    have HCd3 := Lib.hid (Kd.C_below HCd2.out hb3)
    have HCe3 := Lib.hid (Kd.C_below HCe.out hb3)
    clear hbl hok' hti' henc hSl hb3 hBB Hbk2 HCd2 HCe Hx2 HB2 HSk
    go_wp2_with fail
    refine start_ (n := 23) (S := fun W => Two2 w W bk bl B Sk Sl x y d ∧ Kd.C k65 W Ad dn.length dn ∧ Kd.C (Kd.int .u8) W Ae (encB B).length (encB B) ∧ (convert 53 9 (.slice Ae (encB B).length ce)).run Try.prog W = .ok (.string (strOfNums (encB B))) W) (ds := []) #[false, false, false, false, false, false, false, false, false, false, false, false, false, false, false, false, false, false, false, false, false, false, false] (by kernel_rfl) rfl rfl ⟨HT.out.grow (Below.refl _ _).drew, Kd.C_drew HCd3.out, Kd.C_drew HCe3.out, conv_bytes (Kd.C_drew HCe3.out)⟩ (fun hHeld => ?_)
    generalize w3.drew = w4 at *
    clear HT HCd3 HCe3
    refine pure_ (i := 0) (N := some 41) (v := ?_) (a' := ?_) #[true, false, false, false, false, false, false, false, false, false, false, false, false, false, false, false, false, false, false, false, false, false, false] rfl rfl (by kernel_rfl) (fun _ _ _ h => h) (Or.inl ⟨by rfl, ?_⟩) ?_ ?_
    rotate_left
    · intro w'
      go_simp
      with_reducible rfl
    rotate_left
    · simp only [Act.put, List.setIfInBounds_toArray, List.set_cons_zero, List.set_cons_succ, i64_w, i32_w]
      rfl
    refine pure_ (i := 1) (N := some 42) (v := ?_) (a' := ?_) #[true, true, false, false, false, false, false, false, false, false, false, false, false, false, false, false, false, false, false, false, false, false, false] rfl rfl (by kernel_rfl) (fun _ _ _ h => h) (Or.inl ⟨by rfl, ?_⟩) ?_ ?_
    rotate_left
    · intro w'
      go_simp
      with_reducible rfl
    rotate_left
    · simp only [Act.put, List.setIfInBounds_toArray, List.set_cons_zero, List.set_cons_succ, i64_w, i32_w]
      rfl
    refine pure_ (i := 2) (N := some 43) (v := ?_) (a' := ?_) #[true, true, true, false, false, false, false, false, false, false, false, false, false, false, false, false, false, false, false, false, false, false, false] rfl rfl (by kernel_rfl) (fun _ _ _ h => h) (Or.inl ⟨by rfl, ?_⟩) ?_ ?_
    rotate_left
    · intro w'
      go_simp
      with_reducible rfl
    rotate_left
    · simp only [Act.put, List.setIfInBounds_toArray, List.set_cons_zero, List.set_cons_succ, i64_w, i32_w]
      rfl
    refine pure_ (i := 3) (N := some 44) (v := ?_) (a' := ?_) #[true, true, true, true, false, false, false, false, false, false, false, false, false, false, false, false, false, false, false, false, false, false, false] rfl rfl (by kernel_rfl) (fun _ _ _ h => h) (Or.inl ⟨by rfl, ?_⟩) ?_ ?_
    rotate_left
    · intro w'
      go_simp
      with_reducible rfl
    rotate_left
    · simp only [Act.put, List.setIfInBounds_toArray, List.set_cons_zero, List.set_cons_succ, i64_w, i32_w]
      rfl
    refine pure_ (i := 4) (N := some 45) (v := ?_) (a' := ?_) #[true, true, true, true, true, false, false, false, false, false, false, false, false, false, false, false, false, false, false, false, false, false, false] rfl rfl (by kernel_rfl) (fun _ _ _ h => h) (Or.inl ⟨by rfl, ?_⟩) ?_ ?_
    rotate_left
    · intro w'
      go_simp
      with_reducible rfl
    rotate_left
    · simp only [Act.put, List.setIfInBounds_toArray, List.set_cons_zero, List.set_cons_succ, i64_w, i32_w]
      rfl
    refine pure_ (i := 5) (N := some 46) (v := ?_) (a' := ?_) #[true, true, true, true, true, true, false, false, false, false, false, false, false, false, false, false, false, false, false, false, false, false, false] rfl rfl (by kernel_rfl) (fun _ _ _ h => h) (Or.inl ⟨by rfl, ?_⟩) ?_ ?_
    rotate_left
    · intro w'
      go_simp
      with_reducible rfl
    rotate_left
    · simp only [Act.put, List.setIfInBounds_toArray, List.set_cons_zero, List.set_cons_succ, i64_w, i32_w]
      rfl
    refine pure_ (i := 6) (N := some 47) (v := ?_) (a' := ?_) #[true, true, true, true, true, true, true, false, false, false, false, false, false, false, false, false, false, false, false, false, false, false, false] rfl rfl (by kernel_rfl) (fun _ _ _ h => h) (Or.inl ⟨by rfl, ?_⟩) ?_ ?_
    rotate_left
    · intro w'
      go_simp
      with_reducible rfl
    rotate_left
    · simp only [Act.put, List.setIfInBounds_toArray, List.set_cons_zero, List.set_cons_succ, i64_w, i32_w]
      rfl
    refine pure_ (i := 7) (N := some 48) (v := ?_) (a' := ?_) #[true, true, true, true, true, true, true, true, false, false, false, false, false, false, false, false, false, false, false, false, false, false, false] rfl rfl (by kernel_rfl) (fun _ _ _ h => h) (Or.inl ⟨by rfl, ?_⟩) ?_ ?_
    rotate_left
    · intro w'
      go_simp
      with_reducible rfl
    rotate_left
    · simp only [Act.put, List.setIfInBounds_toArray, List.set_cons_zero, List.set_cons_succ, i64_w, i32_w]
      rfl
    refine take_ (i := 8) (N := some 49) (v := ?_) (a' := ?_) #[true, true, true, true, true, true, true, true, true, false, false, false, false, false, false, false, false, false, false, false, false, false, false] rfl rfl (by kernel_rfl) (fun _ _ _ h => h) (Or.inl ⟨by rfl, ?_⟩) hHeld ?_ ?_
    rotate_left
    · rintro w' ⟨s0, s1, s2, s3⟩
      go_simp
      with_reducible rfl
    rotate_left
    · simp only [Act.put, List.setIfInBounds_toArray, List.set_cons_zero, List.set_cons_succ, i64_w, i32_w]
      rfl
    refine pure_ (i := 9) (N := some 50) (v := ?_) (a' := ?_) #[true, true, true, true, true, true, true, true, true, true, false, false, false, false, false, false, false, false, false, false, false, false, false] rfl rfl (by kernel_rfl) (fun _ _ _ h => h) (Or.inl ⟨by rfl, ?_⟩) ?_ ?_
    rotate_left
    · intro w'
      go_simp
      with_reducible rfl
    rotate_left
    · simp only [Act.put, List.setIfInBounds_toArray, List.set_cons_zero, List.set_cons_succ, i64_w, i32_w]
      rfl
    refine pure_ (i := 10) (N := some 51) (v := ?_) (a' := ?_) #[true, true, true, true, true, true, true, true, true, true, true, false, false, false, false, false, false, false, false, false, false, false, false] rfl rfl (by kernel_rfl) (fun _ _ _ h => h) (Or.inl ⟨by rfl, ?_⟩) ?_ ?_
    rotate_left
    · intro w'
      go_simp
      with_reducible rfl
    rotate_left
    · simp only [Act.put, List.setIfInBounds_toArray, List.set_cons_zero, List.set_cons_succ, i64_w, i32_w]
      rfl
    refine one_ (i := 11) (N := some 52) #[true, true, true, true, true, true, true, true, true, true, true, true, false, false, false, false, false, false, false, false, false, false, false] rfl rfl (by kernel_rfl) (by decide) (fun K hK => ?_)
    refine goes_ Try.func30 (by kernel_rfl) rfl #[.int .i64 n, .slice Ad dn.length cd] (by rfl) rfl rfl (by (try simp only [List.map_toArray, List.map_cons, List.map_nil]); first | done | rfl) ?_
    refine (HRef.out _ hHeld.2.1).mono ?_
    rintro e w5 ⟨v5, rfl, hR5, hb5⟩
    obtain ⟨A5, c5, rfl, _, hC5⟩ := Kd.R_reads hR5
    have hc5 := conv_bytes (c := c5) hC5
    refine ⟨_, rfl, hK.out _ _ ⟨hHeld.1.grow hb5, Kd.C_below hHeld.2.1 hb5, Kd.C_below hHeld.2.2.1 hb5, conv_bytes (Kd.C_below hHeld.2.2.1 hb5)⟩ (fun hHeld => ?_)⟩
    clear hK K hb5 hR5
    refine norm_ (a' := ?_) ?_ ?_
    rotate_left
    · simp only [Act.put, List.setIfInBounds_toArray, List.set_cons_zero, List.set_cons_succ, i64_w, i32_w]
      rfl
    refine one_ (i := 12) (N := some 53) #[true, true, true, true, true, true, true, true, true, true, true, true, true, false, false, false, false, false, false, false, false, false, false] rfl rfl (by kernel_rfl) (by decide) (fun K hK => ?_)
    refine value_ (v := .string (strOfNums (encB B))) (w1 := w5) (by rfl) rfl ?_ ?_
    · go_simp
    refine hK.out _ _ hHeld (fun hHeld => ?_)
    clear hK K
    refine norm_ (a' := ?_) ?_ ?_
    rotate_left
    · simp only [Act.put, List.setIfInBounds_toArray, List.set_cons_zero, List.set_cons_succ, i64_w, i32_w]
      rfl
    refine pure_ (i := 13) (N := some 54) (v := ?_) (a' := ?_) #[true, true, true, true, true, true, true, true, true, true, true, true, true, true, false, false, false, false, false, false, false, false, false] rfl rfl (by kernel_rfl) (fun _ _ _ h => h) (Or.inl ⟨by rfl, ?_⟩) ?_ ?_
    rotate_left
    · intro w'
      go_simp
      with_reducible rfl
    rotate_left
    · simp only [Act.put, List.setIfInBounds_toArray, List.set_cons_zero, List.set_cons_succ, i64_w, i32_w]
      rfl
    refine pure_ (i := 14) (N := some 55) (v := ?_) (a' := ?_) #[true, true, true, true, true, true, true, true, true, true, true, true, true, true, true, false, false, false, false, false, false, false, false] rfl rfl (by kernel_rfl) (fun _ _ _ h => h) (Or.inl ⟨by rfl, ?_⟩) ?_ ?_
    rotate_left
    · intro w'
      go_simp
      with_reducible rfl
    rotate_left
    · simp only [Act.put, List.setIfInBounds_toArray, List.set_cons_zero, List.set_cons_succ, i64_w, i32_w]
      rfl
    refine pure_ (i := 15) (N := some 56) (v := ?_) (a' := ?_) #[true, true, true, true, true, true, true, true, true, true, true, true, true, true, true, true, false, false, false, false, false, false, false] rfl rfl (by kernel_rfl) (fun _ _ _ h => h) (Or.inl ⟨by rfl, ?_⟩) ?_ ?_
    rotate_left
    · intro w'
      go_simp
      with_reducible rfl
    rotate_left
    · simp only [Act.put, List.setIfInBounds_toArray, List.set_cons_zero, List.set_cons_succ, i64_w, i32_w]
      rfl
    refine pure_ (i := 16) (N := some 57) (v := ?_) (a' := ?_) #[true, true, true, true, true, true, true, true, true, true, true, true, true, true, true, true, true, false, false, false, false, false, false] rfl rfl (by kernel_rfl) (fun _ _ _ h => h) (Or.inl ⟨by rfl, ?_⟩) ?_ ?_
    rotate_left
    · intro w'
      go_simp
      with_reducible rfl
    rotate_left
    · simp only [Act.put, List.setIfInBounds_toArray, List.set_cons_zero, List.set_cons_succ, i64_w, i32_w]
      rfl
    refine pure_ (i := 19) (N := some 60) (v := ?_) (a' := ?_) #[true, true, true, true, true, true, true, true, true, true, true, true, true, true, true, true, true, false, false, true, false, false, false] rfl rfl (by kernel_rfl) (fun _ _ _ h => h) (Or.inl ⟨by rfl, ?_⟩) ?_ ?_
    rotate_left
    · intro w'
      go_simp
      with_reducible rfl
    rotate_left
    · simp only [Act.put, List.setIfInBounds_toArray, List.set_cons_zero, List.set_cons_succ, i64_w, i32_w]
      rfl
    refine take_ (i := 20) (N := some 61) (v := ?_) (a' := ?_) #[true, true, true, true, true, true, true, true, true, true, true, true, true, true, true, true, true, false, false, true, true, false, false] rfl rfl (by kernel_rfl) (fun _ _ _ h => h) (Or.inl ⟨by rfl, ?_⟩) hHeld ?_ ?_
    rotate_left
    · rintro w' ⟨s0, s1, s2, s3⟩
      go_simp
      with_reducible rfl
    rotate_left
    · simp only [Act.put, List.setIfInBounds_toArray, List.set_cons_zero, List.set_cons_succ, i64_w, i32_w]
      rfl
    refine one_ (i := 17) (N := some 58) #[true, true, true, true, true, true, true, true, true, true, true, true, true, true, true, true, true, true, false, true, true, false, false] rfl rfl (by kernel_rfl) (by decide) (fun K hK => ?_)
    refine goes_ Try.func28 (by kernel_rfl) rfl #[.pointer (some ⟨bl, 0, none⟩)] (by rfl) rfl rfl (by (try simp only [List.map_toArray, List.map_cons, List.map_nil]); first | done | rfl) ?_
    refine (Encode_calls bl B Sl _ hHeld.1.l Hok.out Hlen.out).mono ?_
    rintro e w6 ⟨v6, rfl, hR6, hb6⟩
    obtain ⟨A6, c6, rfl, _, hC6⟩ := Kd.R_reads hR6
    have hc6 := conv_bytes (c := c6) hC6
    refine ⟨_, rfl, hK.out _ _ ⟨hHeld.1.grow hb6, Kd.C_below hHeld.2.1 hb6, Kd.C_below hHeld.2.2.1 hb6, conv_bytes (Kd.C_below hHeld.2.2.1 hb6)⟩ (fun hHeld => ?_)⟩
    clear hK K hb6 hR6
    refine norm_ (a' := ?_) ?_ ?_
    rotate_left
    · simp only [Act.put, List.setIfInBounds_toArray, List.set_cons_zero, List.set_cons_succ, i64_w, i32_w]
      rfl
    refine one_ (i := 18) (N := some 59) #[true, true, true, true, true, true, true, true, true, true, true, true, true, true, true, true, true, true, true, true, true, false, false] rfl rfl (by kernel_rfl) (by decide) (fun K hK => ?_)
    refine value_ (v := .string (strOfNums (encB B))) (w1 := w6) (by rfl) rfl ?_ ?_
    · go_simp
    refine hK.out _ _ hHeld (fun hHeld => ?_)
    clear hK K
    refine norm_ (a' := ?_) ?_ ?_
    rotate_left
    · simp only [Act.put, List.setIfInBounds_toArray, List.set_cons_zero, List.set_cons_succ, i64_w, i32_w]
      rfl
    refine pure_ (i := 21) (N := some 62) (v := ?_) (a' := ?_) #[true, true, true, true, true, true, true, true, true, true, true, true, true, true, true, true, true, true, true, true, true, true, false] rfl rfl (by kernel_rfl) (fun _ _ _ h => h) (Or.inl ⟨by rfl, ?_⟩) ?_ ?_
    rotate_left
    · intro w'
      go_simp
      with_reducible rfl
    rotate_left
    · simp only [Act.put, List.setIfInBounds_toArray, List.set_cons_zero, List.set_cons_succ, i64_w, i32_w]
      rfl
    refine pure_ (i := 22) (N := some 63) (v := ?_) (a' := ?_) #[true, true, true, true, true, true, true, true, true, true, true, true, true, true, true, true, true, true, true, true, true, true, true] rfl rfl (by kernel_rfl) (fun _ _ _ h => h) (Or.inl ⟨by rfl, ?_⟩) ?_ ?_
    rotate_left
    · intro w'
      go_simp
      with_reducible rfl
    rotate_left
    · simp only [Act.put, List.setIfInBounds_toArray, List.set_cons_zero, List.set_cons_succ, i64_w, i32_w]
      rfl
    have HT := Lib.hid hHeld.1
    clear hHeld HRef
    refine done_ (by kernel_rfl) ?_
    go_wp2_with fail
    refine start_ (n := 30) (S := fun W => W.cell? ⟨w.heap.size, 0, none⟩ = some (.int .i64 x) ∧ W.cell? ⟨w.heap.size, 1, none⟩ = some (.int .i64 y) ∧ W.cell? ⟨w.heap.size, 2, none⟩ = some (.int .i64 d)) (ds := []) #[false, false, false, false, false, false, false, false, false, false, false, false, false, false, false, false, false, false, false, false, false, false, false, false, false, false, false, false, false, false] (by kernel_rfl) rfl rfl (argc (HT.out.grow (Below.refl _ _).drew).arg) (fun hHeld => ?_)
    have HT7 := Lib.hid (HT.out.grow (Below.refl _ _).drew)
    generalize w6.drew = w7 at *
    clear HT
    refine one_ (i := 0) (N := some 64) #[true, false, false, false, false, false, false, false, false, false, false, false, false, false, false, false, false, false, false, false, false, false, false, false, false, false, false, false, false, false] rfl rfl (by kernel_rfl) (by decide) (fun K hK => ?_)
    refine goes_ Try.func13 (by kernel_rfl) rfl #[] (by rfl) rfl rfl (by (try simp only [List.map_toArray, List.map_cons, List.map_nil]); first | done | rfl) ?_
    refine (awake_calls _).mono ?_
    rintro e w8 ⟨rfl, hb8⟩
    have HT8 := Lib.hid (HT7.out.grow hb8)
    refine ⟨_, rfl, hK.out _ _ (argc HT8.out.arg) (fun hHeld => ?_)⟩
    clear hK K hb8 HT7
    refine norm_ (a' := ?_) ?_ ?_
    rotate_left
    · simp only [Act.put, List.setIfInBounds_toArray, List.set_cons_zero, List.set_cons_succ, i64_w, i32_w]
      rfl
    refine pure_ (i := 1) (N := some 65) (v := ?_) (a' := ?_) #[true, true, false, false, false, false, false, false, false, false, false, false, false, false, false, false, false, false, false, false, false, false, false, false, false, false, false, false, false, false] rfl rfl (by kernel_rfl) (fun _ _ _ h => h) (Or.inl ⟨by rfl, ?_⟩) ?_ ?_
    rotate_left
    · intro w'
      go_simp
      with_reducible rfl
    rotate_left
    · simp only [Act.put, List.setIfInBounds_toArray, List.set_cons_zero, List.set_cons_succ, i64_w, i32_w]
      rfl
    refine pure_ (i := 2) (N := some 66) (v := ?_) (a' := ?_) #[true, true, true, false, false, false, false, false, false, false, false, false, false, false, false, false, false, false, false, false, false, false, false, false, false, false, false, false, false, false] rfl rfl (by kernel_rfl) (fun _ _ _ h => h) (Or.inl ⟨by rfl, ?_⟩) ?_ ?_
    rotate_left
    · intro w'
      go_simp
      with_reducible rfl
    rotate_left
    · simp only [Act.put, List.setIfInBounds_toArray, List.set_cons_zero, List.set_cons_succ, i64_w, i32_w]
      rfl
    refine pure_ (i := 3) (N := some 67) (v := ?_) (a' := ?_) #[true, true, true, true, false, false, false, false, false, false, false, false, false, false, false, false, false, false, false, false, false, false, false, false, false, false, false, false, false, false] rfl rfl (by kernel_rfl) (fun _ _ _ h => h) (Or.inl ⟨by rfl, ?_⟩) ?_ ?_
    rotate_left
    · intro w'
      go_simp
      with_reducible rfl
    rotate_left
    · simp only [Act.put, List.setIfInBounds_toArray, List.set_cons_zero, List.set_cons_succ, i64_w, i32_w]
      rfl
    refine take_ (i := 4) (N := some 68) (v := ?_) (a' := ?_) #[true, true, true, true, true, false, false, false, false, false, false, false, false, false, false, false, false, false, false, false, false, false, false, false, false, false, false, false, false, false] rfl rfl (by kernel_rfl) (fun _ _ _ h => h) (Or.inl ⟨by rfl, ?_⟩) hHeld ?_ ?_
    rotate_left
    · rintro w' ⟨s0, s1, s2⟩
      go_simp
      with_reducible rfl
    rotate_left
    · simp only [Act.put, List.setIfInBounds_toArray, List.set_cons_zero, List.set_cons_succ, i64_w, i32_w]
      rfl
    refine pure_ (i := 5) (N := some 69) (v := ?_) (a' := ?_) #[true, true, true, true, true, true, false, false, false, false, false, false, false, false, false, false, false, false, false, false, false, false, false, false, false, false, false, false, false, false] rfl rfl (by kernel_rfl) (fun _ _ _ h => h) (Or.inl ⟨by rfl, ?_⟩) ?_ ?_
    rotate_left
    · intro w'
      go_simp
      with_reducible rfl
    rotate_left
    · simp only [Act.put, List.setIfInBounds_toArray, List.set_cons_zero, List.set_cons_succ, i64_w, i32_w]
      rfl
    refine take_ (i := 6) (N := some 70) (v := ?_) (a' := ?_) #[true, true, true, true, true, true, true, false, false, false, false, false, false, false, false, false, false, false, false, false, false, false, false, false, false, false, false, false, false, false] rfl rfl (by kernel_rfl) (fun _ _ _ h => h) (Or.inl ⟨by rfl, ?_⟩) hHeld ?_ ?_
    rotate_left
    · rintro w' ⟨s0, s1, s2⟩
      go_simp
      with_reducible rfl
    rotate_left
    · simp only [Act.put, List.setIfInBounds_toArray, List.set_cons_zero, List.set_cons_succ, i64_w, i32_w]
      rfl
    refine pure_ (i := 7) (N := some 71) (v := ?_) (a' := ?_) #[true, true, true, true, true, true, true, true, false, false, false, false, false, false, false, false, false, false, false, false, false, false, false, false, false, false, false, false, false, false] rfl rfl (by kernel_rfl) (fun _ _ _ h => h) (Or.inl ⟨by rfl, ?_⟩) ?_ ?_
    rotate_left
    · intro w'
      go_simp
      with_reducible rfl
    rotate_left
    · simp only [Act.put, List.setIfInBounds_toArray, List.set_cons_zero, List.set_cons_succ, i64_w, i32_w]
      rfl
    refine take_ (i := 8) (N := some 72) (v := ?_) (a' := ?_) #[true, true, true, true, true, true, true, true, true, false, false, false, false, false, false, false, false, false, false, false, false, false, false, false, false, false, false, false, false, false] rfl rfl (by kernel_rfl) (fun _ _ _ h => h) (Or.inl ⟨by rfl, ?_⟩) hHeld ?_ ?_
    rotate_left
    · rintro w' ⟨s0, s1, s2⟩
      go_simp
      with_reducible rfl
    rotate_left
    · simp only [Act.put, List.setIfInBounds_toArray, List.set_cons_zero, List.set_cons_succ, i64_w, i32_w]
      rfl
    refine pure_ (i := 10) (N := some 74) (v := ?_) (a' := ?_) #[true, true, true, true, true, true, true, true, true, false, true, false, false, false, false, false, false, false, false, false, false, false, false, false, false, false, false, false, false, false] rfl rfl (by kernel_rfl) (fun _ _ _ h => h) (Or.inl ⟨by rfl, ?_⟩) ?_ ?_
    rotate_left
    · intro w'
      go_simp
      with_reducible rfl
    rotate_left
    · simp only [Act.put, List.setIfInBounds_toArray, List.set_cons_zero, List.set_cons_succ, i64_w, i32_w]
      rfl
    refine pure_ (i := 11) (N := some 75) (v := ?_) (a' := ?_) #[true, true, true, true, true, true, true, true, true, false, true, true, false, false, false, false, false, false, false, false, false, false, false, false, false, false, false, false, false, false] rfl rfl (by kernel_rfl) (fun _ _ _ h => h) (Or.inl ⟨by rfl, ?_⟩) ?_ ?_
    rotate_left
    · intro w'
      go_simp
      with_reducible rfl
    rotate_left
    · simp only [Act.put, List.setIfInBounds_toArray, List.set_cons_zero, List.set_cons_succ, i64_w, i32_w]
      rfl
    refine take_ (i := 12) (N := some 76) (v := ?_) (a' := ?_) #[true, true, true, true, true, true, true, true, true, false, true, true, true, false, false, false, false, false, false, false, false, false, false, false, false, false, false, false, false, false] rfl rfl (by kernel_rfl) (fun _ _ _ h => h) (Or.inl ⟨by rfl, ?_⟩) hHeld ?_ ?_
    rotate_left
    · rintro w' ⟨s0, s1, s2⟩
      go_simp
      with_reducible rfl
    rotate_left
    · simp only [Act.put, List.setIfInBounds_toArray, List.set_cons_zero, List.set_cons_succ, i64_w, i32_w]
      rfl
    refine pure_ (i := 13) (N := some 77) (v := ?_) (a' := ?_) #[true, true, true, true, true, true, true, true, true, false, true, true, true, true, false, false, false, false, false, false, false, false, false, false, false, false, false, false, false, false] rfl rfl (by kernel_rfl) (fun _ _ _ h => h) (Or.inl ⟨by rfl, ?_⟩) ?_ ?_
    rotate_left
    · intro w'
      go_simp
      with_reducible rfl
    rotate_left
    · simp only [Act.put, List.setIfInBounds_toArray, List.set_cons_zero, List.set_cons_succ, i64_w, i32_w]
      rfl
    refine take_ (i := 14) (N := some 78) (v := ?_) (a' := ?_) #[true, true, true, true, true, true, true, true, true, false, true, true, true, true, true, false, false, false, false, false, false, false, false, false, false, false, false, false, false, false] rfl rfl (by kernel_rfl) (fun _ _ _ h => h) (Or.inl ⟨by rfl, ?_⟩) hHeld ?_ ?_
    rotate_left
    · rintro w' ⟨s0, s1, s2⟩
      go_simp
      with_reducible rfl
    rotate_left
    · simp only [Act.put, List.setIfInBounds_toArray, List.set_cons_zero, List.set_cons_succ, i64_w, i32_w]
      rfl
    refine pure_ (i := 15) (N := some 79) (v := ?_) (a' := ?_) #[true, true, true, true, true, true, true, true, true, false, true, true, true, true, true, true, false, false, false, false, false, false, false, false, false, false, false, false, false, false] rfl rfl (by kernel_rfl) (fun _ _ _ h => h) (Or.inl ⟨by rfl, ?_⟩) ?_ ?_
    rotate_left
    · intro w'
      go_simp
      with_reducible rfl
    rotate_left
    · simp only [Act.put, List.setIfInBounds_toArray, List.set_cons_zero, List.set_cons_succ, i64_w, i32_w]
      rfl
    refine take_ (i := 16) (N := some 80) (v := ?_) (a' := ?_) #[true, true, true, true, true, true, true, true, true, false, true, true, true, true, true, true, true, false, false, false, false, false, false, false, false, false, false, false, false, false] rfl rfl (by kernel_rfl) (fun _ _ _ h => h) (Or.inl ⟨by rfl, ?_⟩) hHeld ?_ ?_
    rotate_left
    · rintro w' ⟨s0, s1, s2⟩
      go_simp
      with_reducible rfl
    rotate_left
    · simp only [Act.put, List.setIfInBounds_toArray, List.set_cons_zero, List.set_cons_succ, i64_w, i32_w]
      rfl
    refine one_ (i := 9) (N := some 73) #[true, true, true, true, true, true, true, true, true, true, true, true, true, true, true, true, true, false, false, false, false, false, false, false, false, false, false, false, false, false] rfl rfl (by kernel_rfl) (by decide) (fun K hK => ?_)
    refine goes_ Try.func25 (by kernel_rfl) rfl #[.pointer (some ⟨bk, 0, none⟩), .int .i64 x, .int .i64 y, .int .i64 d] (by rfl) rfl rfl (by (try simp only [List.map_toArray, List.map_cons, List.map_nil]); first | done | rfl) ?_
    refine (HM.out bk Sk _ HT8.out.k).mono ?_
    rintro e w9 ⟨rfl, Sk', hk1, hk2, hk3⟩
    have HB9 := Lib.hid (HT8.out.below.trans (hk2.below HT8.out.below.size (fun i hi => HT8.out.lowk i (by omega))))
    have Ha9 := Lib.hid (hk2.heap HT8.out.arg (HT8.out.lowk _ (Nat.le_refl _)))
    have Hl9 := Lib.hid (HT8.out.l.keep hk2 (fun i hi hi' => HT8.out.apart i hi' hi))
    have Hap := Lib.hid (show ∀ i, Sk' i → ¬ Sl i from fun i hi hj => by
      rcases hk1 i hi with h | h
      · exact HT8.out.apart i h hj
      · obtain ⟨_, _, _, _, _, _, _, _, _, h8⟩ := HT8.out.l
        have := h8 i hj
        omega)
    have Hll := Lib.hid HT8.out.lowl
    have Hk9 := Lib.hid hk3
    refine ⟨_, rfl, hK.out _ _ (argc Ha9.out) (fun hHeld => ?_)⟩
    clear hK K hk1 hk2 hk3 HT8
    refine norm_ (a' := ?_) ?_ ?_
    rotate_left
    · simp only [Act.put, List.setIfInBounds_toArray, List.set_cons_zero, List.set_cons_succ, i64_w, i32_w]
      rfl
    refine one_ (i := 17) (N := some 81) #[true, true, true, true, true, true, true, true, true, true, true, true, true, true, true, true, true, true, false, false, false, false, false, false, false, false, false, false, false, false] rfl rfl (by kernel_rfl) (by decide) (fun K hK => ?_)
    refine goes_ Try.func25 (by kernel_rfl) rfl #[.pointer (some ⟨bl, 0, none⟩), .int .i64 x, .int .i64 y, .int .i64 d] (by rfl) rfl rfl (by (try simp only [List.map_toArray, List.map_cons, List.map_nil]); first | done | rfl) ?_
    refine (HM.out bl Sl _ Hl9.out).mono ?_
    rintro e w10 ⟨rfl, Sl', hk1, hk2, hk3⟩
    have HB10 := Lib.hid (HB9.out.trans (hk2.below HB9.out.size (fun i hi => Hll.out i (by omega))))
    have Ha10 := Lib.hid (hk2.heap Ha9.out (Hll.out _ (Nat.le_refl _)))
    have Hk10 := Lib.hid (Hk9.out.keep hk2 Hap.out)
    have Hl10 := Lib.hid hk3
    refine ⟨_, rfl, hK.out _ _ (argc Ha10.out) (fun hHeld => ?_)⟩
    clear hK K hk1 hk2 hk3 HB9 Ha9 Hl9 Hap Hll Hk9 HM
    generalize (meetR B x y d).1 = mr at *
    generalize (meetR B x y d).2 = B2 at *
    refine norm_ (a' := ?_) ?_ ?_
    rotate_left
    · simp only [Act.put, List.setIfInBounds_toArray, List.set_cons_zero, List.set_cons_succ, i64_w, i32_w]
      rfl
    refine pure_ (i := 18) (N := some 82) (v := ?_) (a' := ?_) #[true, true, true, true, true, true, true, true, true, true, true, true, true, true, true, true, true, true, true, false, false, false, false, false, false, false, false, false, false, false] rfl rfl (by kernel_rfl) (fun _ _ _ h => h) (Or.inl ⟨by rfl, ?_⟩) ?_ ?_
    rotate_left
    · intro w'
      go_simp
      with_reducible rfl
    rotate_left
    · simp only [Act.put, List.setIfInBounds_toArray, List.set_cons_zero, List.set_cons_succ, i64_w, i32_w]
      rfl
    refine pure_ (i := 19) (N := some 83) (v := ?_) (a' := ?_) #[true, true, true, true, true, true, true, true, true, true, true, true, true, true, true, true, true, true, true, true, false, false, false, false, false, false, false, false, false, false] rfl rfl (by kernel_rfl) (fun _ _ _ h => h) (Or.inl ⟨by rfl, ?_⟩) ?_ ?_
    rotate_left
    · intro w'
      go_simp
      with_reducible rfl
    rotate_left
    · simp only [Act.put, List.setIfInBounds_toArray, List.set_cons_zero, List.set_cons_succ, i64_w, i32_w]
      rfl
    refine pure_ (i := 20) (N := some 84) (v := ?_) (a' := ?_) #[true, true, true, true, true, true, true, true, true, true, true, true, true, true, true, true, true, true, true, true, true, false, false, false, false, false, false, false, false, false] rfl rfl (by kernel_rfl) (fun _ _ _ h => h) (Or.inl ⟨by rfl, ?_⟩) ?_ ?_
    rotate_left
    · intro w'
      go_simp
      with_reducible rfl
    rotate_left
    · simp only [Act.put, List.setIfInBounds_toArray, List.set_cons_zero, List.set_cons_succ, i64_w, i32_w]
      rfl
    refine pure_ (i := 21) (N := some 85) (v := ?_) (a' := ?_) #[true, true, true, true, true, true, true, true, true, true, true, true, true, true, true, true, true, true, true, true, true, true, false, false, false, false, false, false, false, false] rfl rfl (by kernel_rfl) (fun _ _ _ h => h) (Or.inl ⟨by rfl, ?_⟩) ?_ ?_
    rotate_left
    · intro w'
      go_simp
      with_reducible rfl
    rotate_left
    · simp only [Act.put, List.setIfInBounds_toArray, List.set_cons_zero, List.set_cons_succ, i64_w, i32_w]
      rfl
    refine pure_ (i := 24) (N := some 88) (v := ?_) (a' := ?_) #[true, true, true, true, true, true, true, true, true, true, true, true, true, true, true, true, true, true, true, true, true, true, false, false, true, false, false, false, false, false] rfl rfl (by kernel_rfl) (fun _ _ _ h => h) (Or.inl ⟨by rfl, ?_⟩) ?_ ?_
    rotate_left
    · intro w'
      go_simp
      with_reducible rfl
    rotate_left
    · simp only [Act.put, List.setIfInBounds_toArray, List.set_cons_zero, List.set_cons_succ, i64_w, i32_w]
      rfl
    refine one_ (i := 22) (N := some 86) #[true, true, true, true, true, true, true, true, true, true, true, true, true, true, true, true, true, true, true, true, true, true, true, false, true, false, false, false, false, false] rfl rfl (by kernel_rfl) (by decide) (fun K hK => ?_)
    refine goes_ Try.func28 (by kernel_rfl) rfl #[.pointer (some ⟨bk, 0, none⟩)] (by rfl) rfl rfl (by (try simp only [List.map_toArray, List.map_cons, List.map_nil]); first | done | rfl) ?_
    refine (Encode_calls bk B2 Sk' _ Hk10.out Hok2.out.1 Hlen2.out).mono ?_
    rintro e w11 ⟨v11, rfl, hR11, hb11⟩
    obtain ⟨A11, c11, rfl, _, hC11⟩ := Kd.R_reads hR11
    have Ha11 := Lib.hid (blk_below Ha10.out hb11)
    have Hl11 := Lib.hid (Hl10.out.below hb11)
    have HB11 := Lib.hid (HB10.out.trans (hb11.mono HB10.out.size))
    have HC11 := Lib.hid hC11
    refine ⟨_, rfl, hK.out _ _ (argc Ha11.out) (fun hHeld => ?_)⟩
    clear hK K hR11 hb11 hC11 Ha10 Hk10 Hl10 HB10
    refine norm_ (a' := ?_) ?_ ?_
    rotate_left
    · simp only [Act.put, List.setIfInBounds_toArray, List.set_cons_zero, List.set_cons_succ, i64_w, i32_w]
      rfl
    refine narrow_ (S' := fun W => (W.cell? ⟨w.heap.size, 0, none⟩ = some (.int .i64 x) ∧ W.cell? ⟨w.heap.size, 1, none⟩ = some (.int .i64 y) ∧ W.cell? ⟨w.heap.size, 2, none⟩ = some (.int .i64 d)) ∧ (convert 53 9 (.slice A11 (encB B2).length c11)).run Try.prog W = .ok (.string (strOfNums (encB B2))) W) (fun _ h => h.1) ⟨hHeld, conv_bytes HC11.out⟩ (fun hHeld => ?_)
    refine take_ (i := 23) (N := some 87) (v := ?_) (a' := ?_) #[true, true, true, true, true, true, true, true, true, true, true, true, true, true, true, true, true, true, true, true, true, true, true, true, true, false, false, false, false, false] rfl rfl (by kernel_rfl) (fun _ _ _ h => h) (Or.inl ⟨by rfl, ?_⟩) hHeld ?_ ?_
    rotate_left
    · rintro w' ⟨⟨s0, s1, s2⟩, s3⟩
      go_simp
      with_reducible rfl
    rotate_left
    · simp only [Act.put, List.setIfInBounds_toArray, List.set_cons_zero, List.set_cons_succ, i64_w, i32_w]
      rfl
    refine one_ (i := 25) (N := some 89) #[true, true, true, true, true, true, true, true, true, true, true, true, true, true, true, true, true, true, true, true, true, true, true, true, true, true, false, false, false, false] rfl rfl (by kernel_rfl) (by decide) (fun K hK => ?_)
    refine goes_ Try.func28 (by kernel_rfl) rfl #[.pointer (some ⟨bl, 0, none⟩)] (by rfl) rfl rfl (by (try simp only [List.map_toArray, List.map_cons, List.map_nil]); first | done | rfl) ?_
    refine (Encode_calls bl B2 Sl' _ Hl11.out Hok2.out.1 Hlen2.out).mono ?_
    rintro e w12 ⟨v12, rfl, hR12, hb12⟩
    obtain ⟨A12, c12, rfl, _, hC12⟩ := Kd.R_reads hR12
    have hc12 := conv_bytes (c := c12) hC12
    have HB12 := Lib.hid (HB11.out.trans (hb12.mono HB11.out.size))
    refine ⟨_, rfl, hK.out _ _ ⟨argc (blk_below Ha11.out hb12), conv_bytes (Kd.C_below HC11.out hb12)⟩ (fun hHeld => ?_)⟩
    clear hK K hR12 hb12
    refine norm_ (a' := ?_) ?_ ?_
    rotate_left
    · simp only [Act.put, List.setIfInBounds_toArray, List.set_cons_zero, List.set_cons_succ, i64_w, i32_w]
      rfl
    refine one_ (i := 26) (N := some 90) #[true, true, true, true, true, true, true, true, true, true, true, true, true, true, true, true, true, true, true, true, true, true, true, true, true, true, true, false, false, false] rfl rfl (by kernel_rfl) (by decide) (fun K hK => ?_)
    refine value_ (v := .string (strOfNums (encB B2))) (w1 := w12) (by rfl) rfl ?_ ?_
    · go_simp
    refine hK.out _ _ hHeld (fun hHeld => ?_)
    clear hK K
    refine norm_ (a' := ?_) ?_ ?_
    rotate_left
    · simp only [Act.put, List.setIfInBounds_toArray, List.set_cons_zero, List.set_cons_succ, i64_w, i32_w]
      rfl
    refine pure_ (i := 27) (N := some 91) (v := ?_) (a' := ?_) #[true, true, true, true, true, true, true, true, true, true, true, true, true, true, true, true, true, true, true, true, true, true, true, true, true, true, true, true, false, false] rfl rfl (by kernel_rfl) (fun _ _ _ h => h) (Or.inl ⟨by rfl, ?_⟩) ?_ ?_
    rotate_left
    · intro w'
      go_simp
      with_reducible rfl
    rotate_left
    · simp only [Act.put, List.setIfInBounds_toArray, List.set_cons_zero, List.set_cons_succ, i64_w, i32_w]
      rfl
    refine pure_ (i := 28) (N := some 92) (v := ?_) (a' := ?_) #[true, true, true, true, true, true, true, true, true, true, true, true, true, true, true, true, true, true, true, true, true, true, true, true, true, true, true, true, true, false] rfl rfl (by kernel_rfl) (fun _ _ _ h => h) (Or.inl ⟨by rfl, ?_⟩) ?_ ?_
    rotate_left
    · intro w'
      go_simp
      with_reducible rfl
    rotate_left
    · simp only [Act.put, List.setIfInBounds_toArray, List.set_cons_zero, List.set_cons_succ, i64_w, i32_w]
      rfl
    refine pure_ (i := 29) (N := some 6) (v := ?_) (a' := ?_) #[true, true, true, true, true, true, true, true, true, true, true, true, true, true, true, true, true, true, true, true, true, true, true, true, true, true, true, true, true, true] rfl rfl (by kernel_rfl) (fun _ _ _ h => h) (Or.inl ⟨by rfl, ?_⟩) ?_ ?_
    rotate_left
    · intro w'
      go_simp
      with_reducible rfl
    rotate_left
    · simp only [Act.put, List.setIfInBounds_toArray, List.set_cons_zero, List.set_cons_succ, i64_w, i32_w]
      rfl
    refine done_ (by kernel_rfl) ?_
    go_wp2_with fail
    go_ret
    exact ⟨rfl, HB12.out⟩
  · exact absurd rfl (hno B Hok.out.valid)
/-- The law, as the statement's frame takes it. -/
theorem Encodes_walk (n : Int) (A : Option Addr) (c : Nat) (l : List S65) (x y d : Int) {w : World} (_ : (Lit.int .i64 n).wf = true) (hl : Kd.C k65 w A l.length l) (_ : ∀ p ∈ l, Q65 p)
    (_ : In64 x) (_ : In64 y) (_ : In64 d) :
    Calls Try.prog 8 #[.int .i64 n, .slice A l.length c, .agg #[.int .i64 x, .int .i64 y, .int .i64 d]] w fun e w' => e = .returned (.bool true) ∧ Below w.heap.size w w' := by
  by_cases hk : 60 < l.length
  · exact encodes_long n A c l.length x y d w hk hl.2.1
  · by_cases hn : 2 ≤ n ∧ n ≤ 12
    · exact encodes_main n A c l x y d w hk hn.1 hn.2 hl
    · exact encodes_bad n A c l.length x y d w hk hn
end Go.Proofs.Ytkbiggmkjbmgoaa.Bk
end
