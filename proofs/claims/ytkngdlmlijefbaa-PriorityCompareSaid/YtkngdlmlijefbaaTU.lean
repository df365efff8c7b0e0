/- Cut of package priority: its walk. -/
import Derived.Test.YtkngdlmlijefbaaTR
namespace Go.Proofs.Ytkngdlmlijefbaa.Pq
open Go.RowKit Go.Proofs.YtkngdlmlijefbaaW.PrintWords Go.Proofs.YtkngdlmlijefbaaW.PrintLast Go.Proofs.YtkngdlmlijefbaaW.PrintMore Go.Proofs.Mp
open Go.Proofs.Ytkngdlmlijefbaa.PPriorityOrder
set_option linter.unusedVariables false
set_option linter.unusedSimpArgs false

theorem Match_calls (A : Option Addr) (ca : Nat) (a : List S32) (B : Option Addr) (cb : Nat) (b : List S32) (budget : Int) (w : World) (ha : Kd.C k32 w A a.length a) (hb : Kd.C k32 w B b.length b) (hla : a.length ≤ 1000) (hlb : b.length ≤ 1000) (hbu : budget ≤ 9223372036854775807) :
    Calls Try.prog 30 #[.slice A a.length ca, .slice B b.length cb, .int .i64 budget] w (MatR w a b budget) := by
  cases h : okAll a b budget with
  | true => exact (match_yes A ca a B cb b budget w ha hb hla hlb h hbu).mono fun e w' he => ⟨fun _ => he, fun h2 => absurd h2 (by rw [h]; simp)⟩
  | false => exact (match_no A ca a B cb b budget w ha hb hla hlb h).mono fun e w' he => ⟨fun h2 => absurd h2 (by rw [h]; simp), fun _ => he⟩
def sum (l : List S32) : Int := (l.map (·.f1)).foldr (· + ·) 0
theorem sum_cons (t : S32) (l : List S32) : sum (t :: l) = t.f1 + sum l := rfl
theorem sum_nil : sum [] = 0 := rfl
theorem sum_snoc : ∀ (l : List S32) (t : S32), sum (l ++ [t]) = sum l + t.f1
  | [], t => by simp [sum]
  | x :: l, t => by rw [List.cons_append, sum_cons, sum_snoc l t, sum_cons]; omega
/-- What is taken: valid tasks of the sides, which cost no more than the budget. -/
theorem mt_facts : ∀ (n : Nat) (x y : List S32) (left : Int), (∀ t ∈ x, Vt t) → (∀ t ∈ y, Vt t) → 0 ≤ left → (∀ p ∈ mt n x y left, Vt p.2) ∧ 0 ≤ sum ((mt n x y left).map (·.2)) ∧ sum ((mt n x y left).map (·.2)) ≤ left ∧ (mt n x y left).length ≤ n
  | 0, x, y, left, _, _, h0 => by simp [mt, sum]; exact h0
  | n + 1, x, y, left, vx, vy, h0 => by
    cases hp : pick x y with
    | none => simp only [mt, hp]; simp [sum]; exact h0
    | some q =>
      obtain ⟨s, t, x', y'⟩ := q
      have hv : Vt t ∧ (∀ u ∈ x', Vt u) ∧ (∀ u ∈ y', Vt u) := by
        cases x with
        | nil =>
          cases y with
          | nil => simp [pick] at hp
          | cons b y =>
            simp only [pick, Option.some.injEq, Prod.mk.injEq] at hp
            obtain ⟨_, rfl, rfl, rfl⟩ := hp
            exact ⟨vy _ (by simp), by simp, fun u hu => vy u (List.mem_cons_of_mem _ hu)⟩
        | cons a x =>
          cases y with
          | nil =>
            simp only [pick, Option.some.injEq, Prod.mk.injEq] at hp
            obtain ⟨_, rfl, rfl, rfl⟩ := hp
            exact ⟨vx _ (by simp), fun u hu => vx u (List.mem_cons_of_mem _ hu), by simp⟩
          | cons b y =>
            simp only [pick] at hp
            split at hp
            · simp only [Option.some.injEq, Prod.mk.injEq] at hp
              obtain ⟨_, rfl, rfl, rfl⟩ := hp
              exact ⟨vx _ (by simp), fun u hu => vx u (List.mem_cons_of_mem _ hu), vy⟩
            · simp only [Option.some.injEq, Prod.mk.injEq] at hp
              obtain ⟨_, rfl, rfl, rfl⟩ := hp
              exact ⟨vy _ (by simp), vx, fun u hu => vy u (List.mem_cons_of_mem _ hu)⟩
      by_cases hl : t.f1 ≤ left
      · rw [mt_yes hp hl]
        obtain ⟨h1, h2, h3, h4⟩ := mt_facts n x' y' (left - t.f1) hv.2.1 hv.2.2 (by omega)
        have := hv.1.s0
        refine ⟨fun p hp => ?_, ?_, ?_, by simp; omega⟩
        · rcases List.mem_cons.1 hp with rfl | hp
          · exact hv.1
          · exact h1 p hp
        · rw [List.map_cons, sum_cons]; simp only; omega
        · rw [List.map_cons, sum_cons]; simp only; omega
      · rw [mt_no hp hl]
        obtain ⟨h1, h2, h3, h4⟩ := mt_facts n x' y' left hv.2.1 hv.2.2 h0
        exact ⟨h1, h2, h3, by omega⟩
/-- What Cut takes. -/
def cutT (l : List S32) (budget : Int) : List S32 := (res l [] budget).map (·.2)
def okCut (l : List S32) (budget : Int) : Bool := l.all vB && decide (0 ≤ budget)
theorem okAll_nil (l : List S32) (budget : Int) : okAll l [] budget = okCut l budget := by simp [okAll, okCut]
def CutR (w : World) (l : List S32) (budget : Int) (e : Ending) (w' : World) : Prop :=
  (okCut l budget = true → ∃ u, e = .returned (.tuple #[u, .int .i64 (sum (cutT l budget)), .int .i64 0]) ∧ Kd.R k32 32 w' w.heap.size (fun _ => True) u (cutT l budget) ∧ Below w.heap.size w w') ∧
  (okCut l budget = false → e = .returned (.tuple #[.slice none 0 0, .int .i64 0, .int .i64 1]) ∧ Below w.heap.size w w')
theorem sum_take_le : ∀ (l : List S32) (k : Nat), (∀ t ∈ l, 0 ≤ t.f1) → 0 ≤ sum (l.take k) ∧ sum (l.take k) ≤ sum l
  | [], k, _ => by simp [sum]
  | t :: l, 0, h => by
    have := (sum_take_le l 0 (fun u hu => h u (List.mem_cons_of_mem _ hu))).2
    have h0 := h t (by simp)
    simp only [List.take_zero] at *
    rw [sum_cons, sum_nil] at *
    omega
  | t :: l, k + 1, h => by
    have := sum_take_le l k (fun u hu => h u (List.mem_cons_of_mem _ hu))
    have h0 := h t (by simp)
    rw [List.take_succ_cons, sum_cons, sum_cons]
    omega
set_option maxHeartbeats 1000000 in
set_option maxRecDepth 100000 in
theorem Cut_calls (A : Option Addr) (c : Nat) (l : List S32) (budget : Int) (w : World) (h : Kd.C k32 w A l.length l) (hl : l.length ≤ 1000) (hbu : budget ≤ 9223372036854775807) :
    Calls Try.prog 28 #[.slice A l.length c, .int .i64 budget] w (CutR w l budget) := by
  have HM := Lib.hid (Match_calls A c l none 0 [] budget w h (Kd.C_nil k32 w) hl (by simp) hbu)
  clear h
  cases hok : okCut l budget with
  | false =>
    have Hok := Lib.hid hok
    clear hok
    go_enter Try.func28, Try.ntmps28
    go_wp2_with fail
    refine HM.out.mono ?_
    rintro e w1 ⟨-, h2⟩
    obtain ⟨rfl, hB⟩ := h2 ((okAll_nil l budget).trans Hok.out)
    have B1 := Lib.hid hB
    clear h2 hB HM
    go_wp2_with fail
    go_loopw [10, 22] (fun v10 v22 wr => v10 = .int .i64 0 ∧ v22 = .int .i64 0 ∧ Hid (wr = w1)) (fun _ _ _ => 0)
    case atStart => exact ⟨rfl, rfl, Lib.hid rfl⟩
    case round =>
      obtain ⟨rfl, rfl, hw⟩ := hrel
      have Hw := Lib.hid hw.out
      clear hw
      go_wp2_with fail
      refine bodyPost_ret (v := .tuple #[.slice none 0 0, .int .i64 0, .int .i64 1]) (by simp [results, Try.results28, go_sem]) rfl ⟨fun h => absurd h (by rw [Hok.out]; simp), fun _ => ⟨rfl, by rw [Hw.out]; exact B1.out⟩⟩
  | true =>
    have Hok := Lib.hid hok
    have Hf : Hid ((∀ p ∈ res l [] budget, Vt p.2) ∧ 0 ≤ sum (cutT l budget) ∧ sum (cutT l budget) ≤ budget ∧ (res l [] budget).length ≤ 1000) := Lib.hid (by
      have hk := hok
      unfold okCut at hk
      simp only [Bool.and_eq_true, decide_eq_true_eq] at hk
      have hv : ∀ x ∈ ordT l, Vt x := ordT_valid (fun x hx => (vB_iff x).1 (List.all_eq_true.1 hk.1 x hx))
      obtain ⟨h1, h2, h3, h4⟩ := mt_facts ((ordT l).length + (ordT []).length) (ordT l) (ordT []) budget hv (by simp [ordT]) hk.2
      refine ⟨h1, h2, h3, Nat.le_trans h4 ?_⟩
      have := ordT_len l
      have e : (ordT []).length = 0 := rfl
      omega)
    clear hok
    go_enter Try.func28, Try.ntmps28
    go_wp2_with fail
    refine HM.out.mono ?_
    rintro e w1 ⟨h1, -⟩
    obtain ⟨v, u, rfl, hR1, hR2, hB⟩ := h1 ((okAll_nil l budget).trans Hok.out)
    have B1 := Lib.hid hB
    have R2 : Hid (Kd.R k32 32 w1 w.heap.size (fun _ => True) u (cutT l budget)) := Lib.hid hR2
    have hv0 : Hid (∀ t ∈ cutT l budget, 0 ≤ t.f1) := Lib.hid (fun t ht => by
      obtain ⟨p, hp, rfl⟩ := List.mem_map.1 ht
      exact (Hf.out.1 p hp).s0)
    have hsb : sum (cutT l budget) ≤ budget := Hf.out.2.2.1
    have hn : (cutT l budget).length ≤ 1000 := by unfold cutT; rw [List.length_map]; exact Hf.out.2.2.2
    clear h1 hB HM hR1 hR2 Hf
    generalize hL : cutT l budget = L at *
    have HL := Lib.hid hL
    clear hL
    obtain ⟨Au, cu, rfl, hcu, hCu⟩ := Kd.R_reads R2.out
    have HCu := Lib.hid hCu
    clear hcu hCu
    go_wp2_with fail
    go_loopw [10, 22] (fun v10 v22 wr => ∃ k : Nat, k ≤ L.length ∧ v22 = .int .i64 k ∧ v10 = .int .i64 (sum (L.take k)) ∧ Hid (Below w1.heap.size w1 wr)) (fun _ v _ => L.length - (intOf v).toNat)
    case atStart => exact ⟨0, by omega, rfl, rfl, Lib.hid (Below.refl _ _)⟩
    case round =>
      obtain ⟨k, hk, rfl, rfl, hB⟩ := hrel
      have HB := Lib.hid hB.out
      clear hB
      by_cases hlt : k < L.length
      · have hdec : decide ((k : Int) < (L.length : Int)) = true := decide_eq_true (by omega)
        obtain ⟨ad, rfl, ha0, ha1, ha2, ha3, ha4, ha5, ha6⟩ := at_T32 (Kd.C_below HCu.out HB.out) k (by omega) (by omega)
        rw [Int.toNat_natCast] at ha0 ha1 ha2 ha3 ha4 ha5 ha6
        rw [rd32 hlt] at ha0 ha1 ha2 ha3 ha4 ha5 ha6
        have hs1 := sum_take_le L (k + 1) hv0.out
        have hs0 := sum_take_le L k hv0.out
        have hsn : Hid (sum (L.take (k + 1)) = sum (L.take k) + L[k].f1) := Lib.hid (by rw [List.take_succ_eq_append_getElem hlt, sum_snoc])
        have hsr : 0 ≤ sum (L.take k) + L[k].f1 ∧ sum (L.take k) + L[k].f1 ≤ 9223372036854775807 := by have := hsn.out; omega
        have hsr0 := hsr.1
        have hsr1 := hsr.2
        clear hs1 hs0 hsr
        generalize L[k] = t at *
        generalize sum (L.take k) = sk at *
        go_wp2_with fail
        go_roundw
        case rel => exact ⟨k + 1, by omega, by go_num, by rw [hsn.out], Lib.hid (HB.out.alloc HB.out.size _)⟩
        case measure => simp [intOf]; omega
      · have hdec : decide ((k : Int) < (L.length : Int)) = false := decide_eq_false (by omega)
        obtain rfl : k = L.length := by omega
        have hsf : Hid (sum (L.take L.length) = sum L) := Lib.hid (by rw [List.take_length])
        generalize sum (L.take L.length) = sf at *
        go_wp2_with fail
        refine bodyPost_ret (v := .tuple #[.slice Au L.length cu, .int .i64 sf, .int .i64 0]) (by simp [results, Try.results28, go_sem]) rfl ⟨fun _ => ⟨.slice Au L.length cu, ?_, ?_, B1.out.trans (HB.out.mono B1.out.size)⟩, fun h => absurd Hok.out (by rw [h]; simp)⟩
        · rw [HL.out, hsf.out]
        · rw [HL.out]; exact Kd.R_below R2.out HB.out
end Go.Proofs.Ytkngdlmlijefbaa.Pq
