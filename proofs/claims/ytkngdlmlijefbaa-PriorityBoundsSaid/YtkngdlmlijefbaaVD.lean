/- The law PriorityBounds: its walk. -/
import Derived.Test.YtkngdlmlijefbaaVC
namespace Go.Proofs.Ytkngdlmlijefbaa.Pq
open Go.RowKit Go.Proofs.YtkngdlmlijefbaaW.PrintWords Go.Proofs.YtkngdlmlijefbaaW.PrintLast Go.Proofs.YtkngdlmlijefbaaW.PrintMore Go.Proofs.Mp
open Go.Proofs.Ytkngdlmlijefbaa.PPriorityOrder
set_option linter.unusedVariables false
set_option linter.unusedSimpArgs false

theorem cmpT_bd' (a b : S32) : -1 ≤ cmpT a b := by
  have h : ∀ (l : List Int), (∀ x ∈ l, -1 ≤ x) → -1 ≤ ors l := by
    intro l
    induction l with
    | nil => intro _; simp [ors]
    | cons x l ih =>
      intro h
      simp only [ors]
      split
      · exact ih (fun y hy => h y (List.mem_cons_of_mem _ hy))
      · exact h x (by simp)
  have hi : ∀ x y : Int, -1 ≤ cmpI x y := fun x y => by
    unfold cmpI
    split
    · omega
    · split <;> omega
  have hs : ∀ x y : ByteArray, -1 ≤ cmpS x y := fun x y => by
    unfold cmpS
    split
    · omega
    · split <;> omega
  unfold cmpT
  refine h _ (fun x hx => ?_)
  simp only [List.mem_cons, List.not_mem_nil, or_false] at hx
  rcases hx with rfl | rfl | rfl | rfl | rfl | rfl
  · exact hi _ _
  · exact hi _ _
  · exact hi _ _
  · exact hi _ _
  · exact hs _ _
  · exact hi _ _
def hasB (l : List S32) (t : S32) : Bool := l.any (fun x => eqS x t)
theorem hasB_iff (l : List S32) (t : S32) : hasB l t = true ↔ t ∈ l := by
  unfold hasB
  rw [List.any_eq_true]
  constructor
  · rintro ⟨x, hx, h⟩
    rw [← (eqS_iff x t).1 h]
    exact hx
  · exact fun h => ⟨t, h, eqS_self t⟩
theorem has_l0 (l : List S32) (t : S32) (hn : l.length ≤ 1000) : ∀ (d i k : Nat), i + d = l.length → d < k → kinkeeplaw41_has.l0 k l (l.length : Int) (i : Int) t.f0.f0 t.f0.f1 t.f1 t.f2 t.f3.f0 t.f3.f1 t.f4 = some (hasB (l.drop i) t) := by
  intro d
  induction d with
  | zero =>
    intro i k hi hk
    obtain ⟨k, rfl⟩ : ∃ j, k = j + 1 := ⟨k - 1, by omega⟩
    rw [kinkeeplaw41_has.l0, if_neg (by omega), List.drop_of_length_le (by omega)]
    rfl
  | succ d ih =>
    intro i k hi hk
    obtain ⟨k, rfl⟩ : ∃ j, k = j + 1 := ⟨k - 1, by omega⟩
    have hlt : i < l.length := by omega
    rw [kinkeeplaw41_has.l0, if_pos (by omega), if_pos (by omega), if_pos (by omega), rd32 hlt, wrap_succ hlt (by omega), List.drop_eq_getElem_cons hlt]
    have e : hasB (l[i] :: l.drop (i + 1)) t = (eqS l[i] t || hasB (l.drop (i + 1)) t) := rfl
    rw [e]
    show (if eqS l[i] t = true then some true else _) = _
    cases eqS l[i] t with
    | true => rfl
    | false => rw [if_neg (by simp), ih (i + 1) k (by omega) (by omega)]; rfl
theorem has_c (b : Bool) (A : Option Addr) (c : Nat) (l : List S32) (t : S32) (hb : hasB l t = b) (w : World) (h : Kd.C k32 w A l.length l) (hc : l.length ≤ c) (hl : l.length ≤ 1000) :
    Calls Try.prog 29 #[.slice A l.length c, .agg (tcells t)] w fun e w' => e = .returned (.bool b) ∧ Below w.heap.size w w' := by
  have hf : kinkeeplaw41_has.f 1001 l t.f0.f0 t.f0.f1 t.f1 t.f2 t.f3.f0 t.f3.f1 t.f4 = some b := by
    have := has_l0 l t hl l.length 0 1001 (by omega) (by omega)
    rw [List.drop_zero, hb] at this
    exact this
  exact kinkeeplaw41_has.calls 1001 A c l _ _ _ _ _ _ _ b w h hc hf
theorem tkn_mem : ∀ (m : List S32) (left : Int) (x : S32), x ∈ tkn m left → x ∈ m
  | [], left, x, h => by simp [tkn] at h
  | t :: m, left, x, h => by
    simp only [tkn] at h
    split at h
    · rcases List.mem_cons.1 h with rfl | h
      · simp
      · exact List.mem_cons_of_mem _ (tkn_mem m _ x h)
    · exact List.mem_cons_of_mem _ (tkn_mem m _ x h)
theorem tkn_inc : ∀ (m : List S32) (left : Int), Inc m → Inc (tkn m left)
  | [], left, _ => List.Pairwise.nil
  | t :: m, left, h => by
    obtain ⟨h1, h2⟩ := List.pairwise_cons.1 h
    simp only [tkn]
    split
    · exact List.pairwise_cons.2 ⟨fun y hy => h1 y (tkn_mem m _ y hy), tkn_inc m _ h2⟩
    · exact tkn_inc m _ h2
theorem tkn_sum : ∀ (m : List S32) (left : Int), (∀ x ∈ m, 0 ≤ x.f1) → 0 ≤ left → 0 ≤ sum (tkn m left) ∧ sum (tkn m left) ≤ left
  | [], left, _, h => by simp [tkn, sum]; exact h
  | t :: m, left, hv, h => by
    have ht := hv t (by simp)
    have hv' : ∀ x ∈ m, 0 ≤ x.f1 := fun x hx => hv x (List.mem_cons_of_mem _ hx)
    simp only [tkn]
    split
    · have := tkn_sum m (left - t.f1) hv' (by omega)
      rw [sum_cons]
      omega
    · exact tkn_sum m left hv' h
theorem tkn_passed : ∀ (m : List S32) (left : Int) (x : S32), (∀ x ∈ m, 0 ≤ x.f1) → 0 ≤ left → x ∈ m → x ∉ tkn m left → left - sum (tkn m left) < x.f1
  | [], left, x, _, _, h, _ => by simp at h
  | t :: m, left, x, hv, h0, hx, hn => by
    have ht := hv t (by simp)
    have hv' : ∀ x ∈ m, 0 ≤ x.f1 := fun x hx => hv x (List.mem_cons_of_mem _ hx)
    simp only [tkn] at hn ⊢
    split at hn
    · rename_i hl
      rw [if_pos hl]
      have hxt : x ≠ t := fun e => hn (by rw [e]; simp)
      have hxm : x ∈ m := by
        rcases List.mem_cons.1 hx with e | e
        · exact absurd e hxt
        · exact e
      have := tkn_passed m (left - t.f1) x hv' (by omega) hxm (fun e => hn (List.mem_cons_of_mem _ e))
      rw [sum_cons]
      omega
    · rename_i hl
      rw [if_neg hl]
      have hs := tkn_sum m left hv' h0
      rcases List.mem_cons.1 hx with rfl | hxm
      · omega
      · exact tkn_passed m left x hv' h0 hxm hn
/-- What the law says of what is taken. -/
structure Bnd (l : List S32) (b : Int) (L : List S32) : Prop where
  mem : ∀ x ∈ L, hasB l x = true
  ord : ∀ i, (hi : i + 1 < L.length) → cmpT (L[i]'(by omega)) L[i + 1] = -1
  s0 : 0 ≤ sum L
  sb : sum L ≤ b
  v0 : ∀ x ∈ L, 0 ≤ x.f1
  pass : ∀ x ∈ l, hasB L x = false → decide (x.f1 ≤ b - sum L) = false
  first : ∀ x ∈ l, (decide (x.f1 ≤ b) && l.all (fun u => decide (cmpT x u ≤ 0))) = true → hasB L x = true
theorem bnd {l : List S32} {b : Int} (h : okCut l b = true) : Bnd l b (tkn (ordT l) b) := by
  unfold okCut at h
  simp only [Bool.and_eq_true, decide_eq_true_eq] at h
  have hv : ∀ x ∈ l, Vt x := fun x hx => (vB_iff x).1 (List.all_eq_true.1 h.1 x hx)
  have hov := ordT_valid hv
  have hinc := ordT_inc hv
  have hov0 : ∀ x ∈ ordT l, 0 ≤ x.f1 := fun x hx => (hov x hx).s0
  have hs := tkn_sum (ordT l) b hov0 h.2
  refine ⟨fun x hx => (hasB_iff _ _).2 ((ordT_mem hv x).1 (tkn_mem _ _ _ hx)), fun i hi => ?_, hs.1, hs.2, fun x hx => hov0 x (tkn_mem _ _ _ hx), fun x hx hn => ?_, fun x hx hf => ?_⟩
  · have := List.pairwise_iff_getElem.1 (tkn_inc _ b hinc) i (i + 1) (by omega) hi (by omega)
    have := cmpT_bd' ((tkn (ordT l) b)[i]) ((tkn (ordT l) b)[i + 1])
    omega
  · have := tkn_passed (ordT l) b x hov0 h.2 ((ordT_mem hv x).2 hx) (fun e => by rw [(hasB_iff _ _).2 e] at hn; cases hn)
    exact decide_eq_false (by omega)
  · rw [Bool.and_eq_true, decide_eq_true_eq, List.all_eq_true] at hf
    have hxo := (ordT_mem hv x).2 hx
    rw [hasB_iff]
    cases ho : ordT l with
    | nil => rw [ho] at hxo; simp at hxo
    | cons y m =>
      rw [ho] at hxo hinc
      have hy : y ∈ l := (ordT_mem hv y).1 (by rw [ho]; simp)
      have h1 : cmpT x y ≤ 0 := of_decide_eq_true (hf.2 y hy)
      have e : x = y := by
        rcases List.mem_cons.1 hxo with e | e
        · exact e
        · have := (List.pairwise_cons.1 hinc).1 x e
          have := cmpT_anti (hv x hx).vc (hv y hy).vc
          omega
      subst e
      simp only [tkn]
      rw [if_pos hf.1]
      simp
end Go.Proofs.Ytkngdlmlijefbaa.Pq
