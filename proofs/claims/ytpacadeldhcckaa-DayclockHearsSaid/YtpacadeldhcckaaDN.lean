/- Hearing the same days in another order: plain. -/
import Derived.Test.YtpacadeldhcckaaDL
namespace Go.Proofs.Ytpacadeldhcckaa.Dc
open Go.RowKit
set_option linter.unusedVariables false
set_option linter.unusedSimpArgs false

/-- x is heard by place i. -/
def Val (x : Op3) (i : Nat) : Prop := x.f1 = i ∧ i < 12 ∧ IsDay x.f2
structure TI (l : List Op3) (i : Nat) (p : Bool × Int) : Prop where
  is : p.1 = true ↔ ∃ x ∈ l, Val x i
  up : ∀ x ∈ l, Val x i → x.f2 ≤ p.2
  at_ : p.2 = 0 ∨ ∃ x ∈ l, Val x i ∧ p.2 = x.f2
  nn : 0 ≤ p.2
theorem TI.uniq {l l' : List Op3} {i : Nat} {p p' : Bool × Int} (h : TI l i p) (h' : TI l' i p') (hm : ∀ x, x ∈ l ↔ x ∈ l') : p = p' := by
  have h1 : p.1 = p'.1 := by
    rw [Bool.eq_iff_iff, h.is, h'.is]
    exact ⟨fun ⟨x, hx, k⟩ => ⟨x, (hm x).1 hx, k⟩, fun ⟨x, hx, k⟩ => ⟨x, (hm x).2 hx, k⟩⟩
  have h2 : p.2 ≤ p'.2 := by
    rcases h.at_ with e | ⟨x, hx, k, e⟩
    · have := h'.nn; omega
    · have := h'.up x ((hm x).1 hx) k; omega
  have h3 : p'.2 ≤ p.2 := by
    rcases h'.at_ with e | ⟨x, hx, k, e⟩
    · have := h.nn; omega
    · have := h.up x ((hm x).2 hx) k; omega
  exact Prod.ext h1 (by omega)
theorem TI.snoc_off {l : List Op3} {i : Nat} {p : Bool × Int} (h : TI l i p) {x : Op3} (hx : ¬ Val x i) : TI (l ++ [x]) i p := by
  refine ⟨?_, fun y hy k => ?_, ?_, h.nn⟩
  · rw [h.is]
    refine ⟨fun ⟨y, hy, k⟩ => ⟨y, by simp [hy], k⟩, fun ⟨y, hy, k⟩ => ?_⟩
    rcases List.mem_append.1 hy with hy | hy
    · exact ⟨y, hy, k⟩
    · simp at hy; subst hy; exact absurd k hx
  · rcases List.mem_append.1 hy with hy | hy
    · exact h.up y hy k
    · simp at hy; subst hy; exact absurd k hx
  · rcases h.at_ with e | ⟨y, hy, k, e⟩
    · exact .inl e
    · exact .inr ⟨y, by simp [hy], k, e⟩
theorem TI.snoc_on {l : List Op3} {i : Nat} {p : Bool × Int} (h : TI l i p) {x : Op3} (hx : Val x i) : TI (l ++ [x]) i (true, max p.2 x.f2) := by
  have hd := hx.2.2.1
  have hn := h.nn
  refine ⟨⟨fun _ => ⟨x, by simp, hx⟩, fun _ => rfl⟩, fun y hy k => ?_, ?_, by simp only; omega⟩
  · simp only
    rcases List.mem_append.1 hy with hy | hy
    · have := h.up y hy k; omega
    · simp at hy; subst hy; omega
  · simp only
    by_cases hc : p.2 ≤ x.f2
    · exact .inr ⟨x, by simp, hx, by omega⟩
    · rcases h.at_ with e | ⟨y, hy, k, e⟩
      · omega
      · exact .inr ⟨y, by simp [hy], k, by omega⟩
/-- Only days have been heard. -/
structure Heard (l : List Op3) (C : Ck) : Prop where
  len : C.told.length = 12
  all : ∀ (i : Nat) (p : Bool × Int), C.told[i]? = some p → TI l i p
  supp : IsSupp C.first C.quorum C.told C.day
  own : C.own = 0
theorem Heard.step {l : List Op3} {C C' : Ck} {x : Op3} (h : Heard l C) (hk : x.f0 ≠ 1) (hs : Step1 x C C') : Heard (l ++ [x]) C' := by
  cases hs with
  | read h1 => exact absurd h1 hk
  | none h1 hn =>
    refine ⟨h.len, fun i p hp => (h.all i p hp).snoc_off (fun hv => hn ?_), h.supp, h.own⟩
    obtain ⟨e, hi, hd⟩ := hv
    exact ⟨⟨by omega, by omega⟩, hd⟩
  | hear h1 i hi he hd s hsup =>
    have hle := supp_mono h.supp hsup
    have ht : (C.heard i x.f2 s).told = tell C.told i x.f2 := by unfold Ck.heard; split <;> rfl
    refine ⟨by rw [ht, tell_len]; exact h.len, fun j p hp => ?_, ?_, ?_⟩
    · rw [ht] at hp
      unfold tell at hp
      rw [List.getElem?_set] at hp
      split at hp
      · rename_i hij
        subst hij
        split at hp
        · rename_i hlen
          injection hp with hp
          subst hp
          have hg : C.told[i]? = some C.told[i] := List.getElem?_eq_getElem hlen
          have := (h.all i _ hg).snoc_on (x := x) ⟨he, hi, hd⟩
          rw [List.getD_eq_getElem?_getD, hg]
          exact this
        · cases hp
      · rename_i hij
        exact (h.all j p hp).snoc_off (fun hv => hij (by have := hv.1; omega))
    · unfold Ck.heard
      split
      · exact hsup
      · rename_i hc
        have e : C.day = s := by omega
        show IsSupp C.first C.quorum (tell C.told i x.f2) C.day
        rw [e]; exact hsup
    · unfold Ck.heard
      split
      · rfl
      · exact h.own
theorem Heard.runs {C0 C : Ck} {l : List Op3} (h0 : Heard [] C0) (h : Runs C0 l C) (hk : ∀ x ∈ l, x.f0 ≠ 1) : Heard l C := by
  induction h with
  | nil => exact h0
  | snoc h hs ih => exact (ih (fun x hx => hk x (by simp [hx]))).step (hk _ (by simp)) hs
theorem Heard.new {day leap q : Int} (h : Args day leap q) : Heard [] (Ck.new day leap q) := by
  refine ⟨by simp [Ck.new], fun i p hp => ?_, (CInv.new h).supp, rfl⟩
  obtain rfl := List.eq_of_mem_replicate (List.mem_of_getElem? hp)
  exact ⟨by simp, by simp, .inl rfl, Int.le_refl _⟩
/-- The same days heard: the same clock, but for what is left of the order. -/
theorem Heard.same {l l' : List Op3} {C C' : Ck} (h : Heard l C) (h' : Heard l' C') (hm : ∀ x, x ∈ l ↔ x ∈ l') (hf : C.first = C'.first) (hq : C.quorum = C'.quorum) : C.day = C'.day := by
  have ht : C.told = C'.told := by
    apply List.ext_getElem
    · rw [h.len, h'.len]
    · intro i h1 h2
      exact (h.all i _ (List.getElem?_eq_getElem h1)).uniq (h'.all i _ (List.getElem?_eq_getElem h2)) hm
  have h1 := h.supp
  rw [ht, hf, hq] at h1
  exact h1.uniq h'.supp
end Go.Proofs.Ytpacadeldhcckaa.Dc
