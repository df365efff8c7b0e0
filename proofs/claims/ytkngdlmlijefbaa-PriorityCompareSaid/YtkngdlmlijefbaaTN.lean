/- order of package priority: its walk. -/
import Derived.Test.YtkngdlmlijefbaaTL
import Derived.Test.YtkngdlmlijefbaaTK
import Derived.Shelf.SlSortCmp.NoneTotal
namespace Go.Proofs.Ytkngdlmlijefbaa.Pq
open Go.RowKit Go.Proofs.YtkngdlmlijefbaaW.PrintWords Go.Proofs.YtkngdlmlijefbaaW.PrintLast Go.Proofs.YtkngdlmlijefbaaW.PrintMore Go.Proofs.Mp
open Go.Proofs.Ytkngdlmlijefbaa.PPriorityOrder
set_option linter.unusedVariables false
set_option linter.unusedSimpArgs false

theorem sort_none (cap : Nat) (w : World) : Calls Try.prog 49 #[.slice none 0 cap, .func (.func 23) #[] #[]] w fun e w' => e = .returned (.tuple #[]) ∧ w = w' := by
  have := AnyF.slices_SortFunc_none Ytkngdlmlijefbaa.sortL none cap (.func (.func 23) #[] #[]) w
  change Calls Try.prog 49 _ _ _ at this
  exact this.mono (by rintro e w' ⟨rfl, rfl⟩; exact ⟨rfl, rfl⟩)
theorem compact_none (cap : Nat) (w : World) : Calls Try.prog 50 #[.slice none 0 cap] w fun e w' => e = .returned (.slice none 0 cap) ∧ w = w' := by
  go_enter Try.func50, Try.ntmps50
  go_wp2_with fail
  go_ret
  exact ⟨rfl, rfl⟩
def SomeR (w : World) (l : List S32) (e : Ending) (w' : World) : Prop := ∃ v, e = .returned v ∧ Kd.R k32 32 w' w.heap.size (fun _ => True) v l ∧ Below w.heap.size w w'
theorem maps_val (l : List S32) (h : ∀ x ∈ l, Vt x) : ∃ L : List VT, L.map (·.1) = l := by
  induction l with
  | nil => exact ⟨[], rfl⟩
  | cons x l ih =>
    obtain ⟨L, hL⟩ := ih (fun y hy => h y (List.mem_cons_of_mem _ hy))
    exact ⟨⟨x, (h x (by simp)).vc⟩ :: L, by rw [List.map_cons, hL]⟩
theorem below_of_fr {S : Nat → Prop} {w w1 w2 : World} (h : Below w.heap.size w w1) (hf : Fr S w1 w2) (hS : ∀ i, i < w.heap.size → ¬ S i) : Below w.heap.size w w2 :=
  h.trans (hf.below h.size hS)
set_option maxHeartbeats 400000 in
set_option maxRecDepth 100000 in
/-- order: valid tasks in their order, equal ones once. -/
theorem order_calls (A : Option Addr) (c : Nat) (l : List S32) (w : World) (h : Kd.C k32 w A l.length l) (hl : l.length ≤ 1000) (hv : ∀ x ∈ l, Vt x) :
    Calls Try.prog 37 #[.slice A l.length c] w (SomeR w (ordT l)) := by
  have H := Lib.hid (Clone_calls A c l w h hl)
  have HV := Lib.hid hv
  clear h hv
  go_enter Try.func37, Try.ntmps37
  go_wp2_with fail
  refine H.out.mono ?_
  rintro e w1 ⟨v, rfl, hR, hB⟩
  have HB := Lib.hid hB
  by_cases hv0 : v = .slice none 0 0
  · subst hv0
    have h0 : Hid (l = []) := Lib.hid (by
      obtain ⟨_, inner, ho, hr⟩ := hR
      rcases ho.2 with ⟨_, h0⟩ | ⟨g, cap, cur, hv, _⟩
      · exact List.length_eq_zero_iff.1 h0
      · exact absurd hv (by simp))
    clear hR hB H
    go_wp2_with fail
    refine (sort_none _ _).mono ?_
    rintro e w2 ⟨rfl, rfl⟩
    go_wp2_with fail
    refine (compact_none _ _).mono ?_
    rintro e w2 ⟨rfl, rfl⟩
    go_wp2_with fail
    go_ret
    refine ⟨_, rfl, ?_, HB.out⟩
    rw [h0.out]
    exact Kd.R_nil _ _ _ _ _
  · obtain ⟨g, cap, rfl, hg, hO⟩ := OwnT.of_R hR hv0
    obtain ⟨L, hL⟩ := maps_val l HV.out
    have hLl : L.length = l.length := by rw [← hL, List.length_map]
    have HS := sortT g cap L w1 (by rw [hL]; exact hO) (by omega)
    rw [hLl] at HS
    have HS := Lib.hid HS
    have HL := Lib.hid hL
    have HG := Lib.hid hg
    clear hR hB hO hL hg hLl hv0 H
    go_wp2_with fail
    refine HS.out.mono ?_
    rintro e w2 ⟨rfl, ys, hp, hs, hO2, hF2⟩
    have hyl : (ys.map (·.1)).length = l.length := by rw [List.length_map, hp.length_eq, ← HL.out, List.length_map]
    have HC := Compact_calls g cap (ys.map (·.1)) w2 hO2 (by omega)
    have hcp : cp (ys.map (·.1)) (ys.map (·.1)).length = ordT l := cp_ord HV.out (by rw [← HL.out]; exact hp.map _) (fun i j hij hj => by
      rw [List.getElem_map, List.getElem_map]
      exact hs i j hij (by simpa using hj))
    rw [hcp, hyl] at HC
    have HC := Lib.hid HC
    have HF2 := Lib.hid hF2
    clear hp hs hO2 hF2 hyl hcp HS
    go_wp2_with fail
    refine HC.out.mono ?_
    rintro e w3 ⟨rfl, hO3, hF3⟩
    have HO3 := Lib.hid hO3
    have HF3 := Lib.hid hF3
    clear hO3 hF3 HC
    go_wp2_with fail
    go_ret
    refine ⟨_, rfl, OwnT.to_R HO3.out HG.out trivial, ?_⟩
    have hne : ∀ i, i < w.heap.size → ¬ (i = g) := fun i hi e => by have := HG.out; omega
    exact below_of_fr (below_of_fr HB.out HF2.out hne) HF3.out hne
end Go.Proofs.Ytkngdlmlijefbaa.Pq
