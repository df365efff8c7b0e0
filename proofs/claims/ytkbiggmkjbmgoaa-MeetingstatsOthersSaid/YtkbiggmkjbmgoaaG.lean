/- The law MeetingstatsReduces: its walk. -/
import Derived.Test.YtkbiggmkjbmgoaaF
import Derived.OpenShut
namespace Go.Proofs.Ytkbiggmkjbmgoaa.Bk
open Go.RowKit Go.Proofs.YtkbiggmkjbmgoaaW.PrintWords Go.Proofs.YtkbiggmkjbmgoaaW.PrintLast Go.Proofs.YtkbiggmkjbmgoaaW.PrintMore Go.Proofs.Mp
set_option linter.unusedVariables false
set_option linter.unusedSimpArgs false
attribute [local go_sem] eq23 max_ii min_ii

set_option maxRecDepth 100000 in
theorem reduces_bad (num den : Int) (w : World) (hn : In64 num) (hd : In64 den) (h : den = 0 ∨ num = -9223372036854775808 ∨ den = -9223372036854775808) :
    Calls Try.prog 3 #[.int .i64 num, .int .i64 den] w fun e w' => e = .returned (.bool true) ∧ Below w.heap.size w w' := by
  have hred := Reduced_no num den w hn hd h
  go_enter Try.func3, Try.ntmps3
  go_wp2_with fail
  refine hred.mono ?_
  rintro e w1 ⟨rfl, hb⟩
  clear hred
  have HB := Lib.hid hb
  have hb1 := Lib.hid (hb.alloc hb.size (.cells #[.int .i64 0, .int .i64 0] 23))
  have hk1 := Lib.hid (blk_new w1 (.cells #[.int .i64 0, .int .i64 0] 23))
  clear hb
  go_upto_region 3 with (fail)
  generalize w1.alloc (.cells #[.int .i64 0, .int .i64 0] 23) = w2 at *
  go_cut [26] (fun v wc => v = .bool true ∧ wc = w2)
  case first =>
    by_cases h1 : den = 0
    · have e1 : (den == 0) = true := beq_iff_eq.2 h1
      clear h h1
      go_wp2
      go_meet
      case rel => exact ⟨rfl, rfl⟩
    · have e1 : (den == 0) = false := beq_eq_false_iff_ne.2 h1
      by_cases h2 : num = -9223372036854775808
      · have e2 : (num == -9223372036854775808) = true := beq_iff_eq.2 h2
        clear h h2 h1
        go_wp2
        go_meet
        case rel => exact ⟨rfl, rfl⟩
      · have e2 : (num == -9223372036854775808) = false := beq_eq_false_iff_ne.2 h2
        have e3 : (den == -9223372036854775808) = true := beq_iff_eq.2 (by omega)
        clear h h2 h1
        go_wp2
        go_meet
        case rel => exact ⟨rfl, rfl⟩
  case rest =>
    obtain ⟨rfl, rfl⟩ := hcut
    go_wp2_with fail
    refine (awake_calls _).mono ?_
    rintro e w3 ⟨rfl, hb3⟩
    have hk3 := blk_below hk1.out hb3
    have hc0 : w3.cell? ⟨w1.heap.size, 0, none⟩ = some (.int .i64 0) := (blk_cell hk3 0).trans rfl
    have hc1 : w3.cell? ⟨w1.heap.size, 1, none⟩ = some (.int .i64 0) := (blk_cell hk3 1).trans rfl
    have HB3 := Lib.hid (hb1.out.trans (hb3.mono hb1.out.size))
    clear hk3 hb3
    go_wp2_with fail
    go_ret
    exact ⟨rfl, HB3.out⟩

set_option maxRecDepth 100000 in
theorem reduces_good (num den : Int) (w : World) (hn : NotLeast num) (hd : NotLeast den) (h0 : den ≠ 0) :
    Calls Try.prog 3 #[.int .i64 num, .int .i64 den] w fun e w' => e = .returned (.bool true) ∧ Below w.heap.size w w' := by
  have hred := Reduced_yes num den w hn hd h0
  have hbN := red_bd num den hn hd h0
  have hbA := red_bd (ab num) (ab den) (by unfold NotLeast ab at *; split <;> omega) (by unfold NotLeast ab at *; split <;> omega) (by have := ab_pos h0; omega)
  unfold NotLeast at hbN hbA hn hd
  obtain ⟨hn1, hn2⟩ := hn
  obtain ⟨hd1, hd2⟩ := hd
  obtain ⟨hA1, hA2⟩ := hbA
  have e1 : (den == 0) = false := beq_eq_false_iff_ne.2 h0
  have e2 : (num == -9223372036854775808) = false := beq_eq_false_iff_ne.2 (by omega)
  have e3 : (den == -9223372036854775808) = false := beq_eq_false_iff_ne.2 (by omega)
  have hfin : Hid (((num < 0 ∧ den < 0) ∨ (0 ≤ num ∧ 0 ≤ den) → redN num den = redN (ab num) (ab den)) ∧ ((num < 0 ∧ 0 ≤ den) ∨ (0 ≤ num ∧ den < 0) → redN num den = -redN (ab num) (ab den)) ∧ redD (ab num) (ab den) = redD num den) := ⟨redN_same num den h0, redN_other num den h0, redD_ab num den h0⟩
  have HM : Hid (max num (-num) = ab num ∧ max den (-den) = ab den) := ⟨max_neg num, max_neg den⟩
  have Hab : Hid (0 < ab den ∧ 0 ≤ ab num) := ⟨ab_pos h0, ab_nonneg num⟩
  have Hab2 : Hid (ab den ≤ 9223372036854775807 ∧ ab num ≤ 9223372036854775807) := by unfold Hid ab; split <;> split <;> omega
  clear hbN h0
  go_enter Try.func3, Try.ntmps3
  go_wp2_with fail
  refine hred.mono ?_
  rintro e w1 ⟨rfl, hb⟩
  clear hred
  have hb1 := Lib.hid (hb.alloc hb.size (.cells #[.int .i64 (redN num den), .int .i64 (redD num den)] 23))
  have hk1 := Lib.hid (blk_new w1 (.cells #[.int .i64 (redN num den), .int .i64 (redD num den)] 23))
  clear hb
  go_wp2_with fail
  generalize w1.alloc (.cells #[.int .i64 (redN num den), .int .i64 (redD num den)] 23) = w2 at *
  rw [HM.out.1, HM.out.2]
  refine (Lowest_yes (ab num) (ab den) _ Hab.out.2 (by have := Hab.out; have := Hab2.out; unfold In64; omega) Hab.out.1 (by have := Hab.out; have := Hab2.out; unfold In64; omega)).mono ?_
  rintro e w3 ⟨rfl, hb3⟩
  have Hb3 := Lib.hid (hb1.out.trans (hb3.mono hb1.out.size))
  have Hk3 := Lib.hid (blk_below hk1.out hb3)
  clear hb3
  generalize redN (ab num) (ab den) = rn at *
  generalize redD (ab num) (ab den) = rd at *
  go_upto_region 6 with (fail)
  have Hb4 := Lib.hid (Hb3.out.alloc Hb3.out.size (.cells #[.int .i64 rn, .int .i64 rd] 23))
  have Hk4 := Lib.hid (blk_alloc Hk3.out (.cells #[.int .i64 rn, .int .i64 rd] 23))
  have Hn4 := Lib.hid (blk_new w3 (.cells #[.int .i64 rn, .int .i64 rd] 23))
  have hlt : w1.heap.size < w3.heap.size := blk_lt Hk3.out
  have hle : w.heap.size ≤ w3.heap.size := Hb3.out.size
  have hrd : Hid (rd = redD num den) := hfin.out.2.2
  generalize w3.alloc (.cells #[.int .i64 rn, .int .i64 rd] 23) = w4 at *
  have hc0 : w4.cell? ⟨w3.heap.size, 0, none⟩ = some (.int .i64 rn) := (blk_cell Hn4.out 0).trans rfl
  have hf0 := blk_frozen Hn4.out 0
  go_cut [46, 47, 48, 49, 50] (fun v46 v47 v48 v49 v50 wc => ∃ q : Bool, v50 = .bool q ∧ wc = w4 ∧ Hid (q = (decide (num < 0) != decide (den < 0))))
  case first =>
    go_wp2
    go_meet
    case rel => exact ⟨_, rfl, rfl, rfl⟩
  case rest =>
    obtain ⟨q, rfl, rfl, hq⟩ := hcut
    have tail : ∀ (w5 : World), Hid (Below w.heap.size w w5) → Hid (w5.heap[w1.heap.size]? = some (.cells #[.int .i64 (redN num den), .int .i64 (redD num den)] 23 (0, 0))) → Hid (w5.heap[w3.heap.size]? = some (.cells #[.int .i64 (redN num den), .int .i64 rd] 23 (0, 0))) →
        Calls Try.prog 13 #[] w5 fun e w' => e = .returned (.bool true) ∧ Hid (Below w.heap.size w w') ∧ w'.cell? ⟨w1.heap.size, 0, none⟩ = some (.int .i64 (redN num den)) ∧ w'.cell? ⟨w1.heap.size, 1, none⟩ = some (.int .i64 (redD num den)) ∧ w'.cell? ⟨w3.heap.size, 0, none⟩ = some (.int .i64 (redN num den)) ∧ w'.cell? ⟨w3.heap.size, 1, none⟩ = some (.int .i64 rd) := by
      intro w5 h1 h2 h3
      refine (awake_calls w5).mono fun e w' ⟨he, hb⟩ => ⟨he, h1.out.trans (hb.mono h1.out.size), ?_, ?_, ?_, ?_⟩
      · exact (blk_cell (blk_below h2.out hb) 0).trans rfl
      · exact (blk_cell (blk_below h2.out hb) 1).trans rfl
      · exact (blk_cell (blk_below h3.out hb) 0).trans rfl
      · exact (blk_cell (blk_below h3.out hb) 1).trans rfl
    have Tail := Lib.hid tail
    clear tail
    by_cases hs1 : num < 0 <;> by_cases hs2 : den < 0
    · have hE : Hid (rn = redN num den) := (hfin.out.1 (.inl ⟨hs1, hs2⟩)).symm
      have hq2 : Hid (q = false) := Lib.hid (by have := hq.out; simpa [hs1, hs2] using this)
      rw [hq2.out]
      clear hfin HM Hab Hab2 e1 e2 e3 hs1 hs2 hq
      go_wp2_with fail
      rw [hE.out] at Hn4
      refine (Tail.out _ Hb4 Hk4 Hn4).mono ?_
      rintro e w6 ⟨rfl, hb6, h1, h2, h3, h4⟩
      rw [hrd.out] at h4
      go_wp2_with fail
      go_ret
      exact ⟨rfl, hb6.out⟩
    · have hE : Hid (redN num den = -rn) := hfin.out.2.1 (.inl ⟨hs1, by omega⟩)
      have hq2 : Hid (q = true) := Lib.hid (by have := hq.out; simpa [hs1, hs2] using this)
      rw [hq2.out]
      clear hfin HM Hab Hab2 e1 e2 e3 hs1 hs2 hq
      go_wp2_with fail
      have hn5 := blk_put Hn4.out 0 (.int .i64 (-rn)) rfl
      rw [← hE.out] at hn5 ⊢
      refine (Tail.out _ (below_set Hb4.out hle) ?_ hn5).mono ?_
      · exact (Below.heap_setCell _ _ _ _ (by simp only; omega)).trans Hk4.out
      rintro e w6 ⟨rfl, hb6, h1, h2, h3, h4⟩
      rw [hrd.out] at h4
      go_wp2_with fail
      go_ret
      exact ⟨rfl, hb6.out⟩
    · have hE : Hid (redN num den = -rn) := hfin.out.2.1 (.inr ⟨by omega, hs2⟩)
      have hq2 : Hid (q = true) := Lib.hid (by have := hq.out; simpa [hs1, hs2] using this)
      rw [hq2.out]
      clear hfin HM Hab Hab2 e1 e2 e3 hs1 hs2 hq
      go_wp2_with fail
      have hn5 := blk_put Hn4.out 0 (.int .i64 (-rn)) rfl
      rw [← hE.out] at hn5 ⊢
      refine (Tail.out _ (below_set Hb4.out hle) ?_ hn5).mono ?_
      · exact (Below.heap_setCell _ _ _ _ (by simp only; omega)).trans Hk4.out
      rintro e w6 ⟨rfl, hb6, h1, h2, h3, h4⟩
      rw [hrd.out] at h4
      go_wp2_with fail
      go_ret
      exact ⟨rfl, hb6.out⟩
    · have hE : Hid (rn = redN num den) := (hfin.out.1 (.inr ⟨by omega, by omega⟩)).symm
      have hq2 : Hid (q = false) := Lib.hid (by have := hq.out; simpa [hs1, hs2] using this)
      rw [hq2.out]
      clear hfin HM Hab Hab2 e1 e2 e3 hs1 hs2 hq
      go_wp2_with fail
      rw [hE.out] at Hn4
      refine (Tail.out _ Hb4 Hk4 Hn4).mono ?_
      rintro e w6 ⟨rfl, hb6, h1, h2, h3, h4⟩
      rw [hrd.out] at h4
      go_wp2_with fail
      go_ret
      exact ⟨rfl, hb6.out⟩

theorem in64_of {x : Int} (h : (Lit.int .i64 x).wf = true) : In64 x := bounds_i64 h
/-- The law, over numbers. -/
theorem Reduces_walk (num den : Int) (w0 : (Lit.int .i64 num).wf = true) (w1 : (Lit.int .i64 den).wf = true) (w : World) :
    Calls Try.prog 3 #[.int .i64 num, .int .i64 den] w fun e w' => e = .returned (.bool true) ∧ Below w.heap.size w w' := by
  have hn : In64 num := in64_of w0
  have hd : In64 den := in64_of w1
  by_cases h : den = 0 ∨ num = -9223372036854775808 ∨ den = -9223372036854775808
  · exact reduces_bad num den w hn hd h
  · unfold In64 at hn hd
    exact reduces_good num den w (by unfold NotLeast; omega) (by unfold NotLeast; omega) (by omega)
end Go.Proofs.Ytkbiggmkjbmgoaa.Bk
