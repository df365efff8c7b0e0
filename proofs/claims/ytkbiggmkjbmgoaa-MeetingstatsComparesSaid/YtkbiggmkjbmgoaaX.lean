/- The statement MeetingstatsCompares, walked. -/
import Derived.Test.YtkbiggmkjbmgoaaV
namespace Go.Proofs.Ytkbiggmkjbmgoaa.Bk
open Go.RowKit Go.Proofs.YtkbiggmkjbmgoaaW.PrintWords Go.Proofs.YtkbiggmkjbmgoaaW.PrintLast Go.Proofs.YtkbiggmkjbmgoaaW.PrintMore Go.Proofs.Mp
set_option linter.unusedVariables false
set_option linter.unusedSimpArgs false

theorem refCmp_calls (a b c d : Int) (w : World) (ha : In64 a) (hb : In64 b) (hc : In64 c) (hd : In64 d) (h1 : 0 < b) (h2 : 0 < d) :
    Calls Try.prog 24 #[.int .i64 a, .int .i64 b, .int .i64 c, .int .i64 d] w fun e w' => e = .returned (.int .i64 (cmpI (a * d) (c * b))) ∧ Below w.heap.size w w' :=
  (PMeetingstatsCompares.kinkeepref32_Compare.calls _ a b c d _ w (refCompare_yes (b + d).toNat a b c d ha hb hc hd h1 h2 (by omega))).mono (by rintro e w' ⟨rfl, ⟨m, rfl⟩⟩; exact ⟨rfl, pw_below_drewN (Below.refl _ _) m⟩)

set_option maxHeartbeats 8000000 in
set_option maxRecDepth 100000 in
theorem Compares_walk (an ad bn bd : Int) (w : World) (h1 : In64 an) (h2 : In64 ad) (h3 : In64 bn) (h4 : In64 bd) :
    Calls Try.prog 5 #[.agg #[.int .i64 an, .int .i64 ad], .agg #[.int .i64 bn, .int .i64 bd]] w fun e w' => e = .returned (.bool true) ∧ Below w.heap.size w w' := by
  have H1 := Lib.hid h1
  have H2 := Lib.hid h2
  have H3 := Lib.hid h3
  have H4 := Lib.hid h4
  have hbx := ((Below.refl w.heap.size w).alloc (Nat.le_refl _) (.cells #[.int .i64 an, .int .i64 ad] 23))
  have HB := Lib.hid (hbx.alloc hbx.size (.cells #[.int .i64 bn, .int .i64 bd] 23))
  have HA0 := Lib.hid (blk_alloc (blk_new w (.cells #[.int .i64 an, .int .i64 ad] 23)) (.cells #[.int .i64 bn, .int .i64 bd] 23))
  have hz : (w.alloc (.cells #[.int .i64 an, .int .i64 ad] 23)).heap.size = w.heap.size + 1 := Array.size_push ..
  have hB0 := blk_new (w.alloc (.cells #[.int .i64 an, .int .i64 ad] 23)) (.cells #[.int .i64 bn, .int .i64 bd] 23)
  rw [hz] at hB0
  have HB0 := Lib.hid hB0
  clear hbx hz hB0 h1 h2 h3 h4
  by_cases hg : 0 < ad ∧ 0 < bd
  · have hdec : decide (ad ≤ 0) = false := decide_eq_false (by omega)
    have hdec2 : decide (bd ≤ 0) = false := decide_eq_false (by omega)
    have Hg := Lib.hid hg
    clear hg
    have HN : Hid (cmpI (bn * ad) (an * bd) = wrap64 (-(cmpI (an * bd) (bn * ad)))) := Lib.hid (by
      rw [cmpI_anti (an * bd) (bn * ad)]
      exact (wrap_in (by rcases cmpI_cases (an * bd) (bn * ad) with ⟨_, e⟩ | ⟨_, e⟩ | ⟨_, e⟩ <;> rw [e] <;> unfold In64 <;> omega)).symm)
    go_enter Try.func5, Try.ntmps5
    go_wp2_with fail
    generalize (w.alloc (.cells #[.int .i64 an, .int .i64 ad] 23)).alloc (.cells #[.int .i64 bn, .int .i64 bd] 23) = w0 at *
    generalize w.heap.size + 1 = gb at *
    refine (Compare_yes an ad bn bd _ H1.out H2.out H3.out H4.out Hg.out.1 Hg.out.2).mono ?_
    rintro e w1 ⟨rfl, hb1⟩
    have HA1 := Lib.hid (blk_below HA0.out hb1)
    have HB1 := Lib.hid (blk_below HB0.out hb1)
    have HBw1 := Lib.hid (HB.out.trans (hb1.mono HB.out.size))
    have hc0 : w1.cell? ⟨w.heap.size, 0, none⟩ = some (.int .i64 an) := (blk_cell HA1.out 0).trans rfl
    have hc1 : w1.cell? ⟨w.heap.size, 1, none⟩ = some (.int .i64 ad) := (blk_cell HA1.out 1).trans rfl
    have hc2 : w1.cell? ⟨gb, 0, none⟩ = some (.int .i64 bn) := (blk_cell HB1.out 0).trans rfl
    have hc3 : w1.cell? ⟨gb, 1, none⟩ = some (.int .i64 bd) := (blk_cell HB1.out 1).trans rfl
    clear hb1 HA0 HB0 HB
    go_wp2_with fail
    refine (Compare_yes bn bd an ad _ H3.out H4.out H1.out H2.out Hg.out.2 Hg.out.1).mono ?_
    rintro e w2 ⟨rfl, hb2⟩
    rw [HN.out]
    have HA2 := Lib.hid (blk_below HA1.out hb2)
    have HB2 := Lib.hid (blk_below HB1.out hb2)
    have HBw2 := Lib.hid (HBw1.out.trans (hb2.mono HBw1.out.size))
    clear hb2 HA1 HB1 HBw1 hc0 hc1 hc2 hc3
    go_wp2_with fail
    refine (awake_calls _).mono ?_
    rintro e w3 ⟨rfl, hb3⟩
    have HA3 := Lib.hid (blk_below HA2.out hb3)
    have HB3 := Lib.hid (blk_below HB2.out hb3)
    have HBw3 := Lib.hid (HBw2.out.trans (hb3.mono HBw2.out.size))
    have hc0 : w3.cell? ⟨w.heap.size, 0, none⟩ = some (.int .i64 an) := (blk_cell HA3.out 0).trans rfl
    have hc1 : w3.cell? ⟨w.heap.size, 1, none⟩ = some (.int .i64 ad) := (blk_cell HA3.out 1).trans rfl
    have hc2 : w3.cell? ⟨gb, 0, none⟩ = some (.int .i64 bn) := (blk_cell HB3.out 0).trans rfl
    have hc3 : w3.cell? ⟨gb, 1, none⟩ = some (.int .i64 bd) := (blk_cell HB3.out 1).trans rfl
    clear hb3 HA2 HB2 HBw2
    go_wp2_with fail
    refine (refCmp_calls an ad bn bd _ H1.out H2.out H3.out H4.out Hg.out.1 Hg.out.2).mono ?_
    rintro e w4 ⟨rfl, hb4⟩
    have HBw4 := Lib.hid (HBw3.out.trans (hb4.mono HBw3.out.size))
    clear hb4
    go_wp2_with fail
    go_ret
    exact ⟨rfl, HBw4.out⟩
  · have Hg := Lib.hid hg
    have fin : ∀ w1, Below (w.alloc (.cells #[.int .i64 an, .int .i64 ad] 23) |>.alloc (.cells #[.int .i64 bn, .int .i64 bd] 23)).heap.size (w.alloc (.cells #[.int .i64 an, .int .i64 ad] 23) |>.alloc (.cells #[.int .i64 bn, .int .i64 bd] 23)) w1 → Below w.heap.size w w1 := fun w1 h => HB.out.trans (h.mono HB.out.size)
    have hk1 : ∀ w1, Below (w.alloc (.cells #[.int .i64 an, .int .i64 ad] 23) |>.alloc (.cells #[.int .i64 bn, .int .i64 bd] 23)).heap.size (w.alloc (.cells #[.int .i64 an, .int .i64 ad] 23) |>.alloc (.cells #[.int .i64 bn, .int .i64 bd] 23)) w1 → w1.cell? ⟨w.heap.size, 1, none⟩ = some (.int .i64 ad) := fun w1 h => (blk_cell (blk_below HA0.out h) 1).trans rfl
    have hk2 : ∀ w1, Below (w.alloc (.cells #[.int .i64 an, .int .i64 ad] 23) |>.alloc (.cells #[.int .i64 bn, .int .i64 bd] 23)).heap.size (w.alloc (.cells #[.int .i64 an, .int .i64 ad] 23) |>.alloc (.cells #[.int .i64 bn, .int .i64 bd] 23)) w1 → w1.cell? ⟨w.heap.size + 1, 1, none⟩ = some (.int .i64 bd) := fun w1 h => (blk_cell (blk_below HB0.out h) 1).trans rfl
    have Fin := Lib.hid fin
    have Hk1 := Lib.hid hk1
    have Hk2 := Lib.hid hk2
    clear fin hk1 hk2 hg
    by_cases hs : ad ≤ 0
    · have hdec : decide (ad ≤ 0) = true := decide_eq_true hs
      go_enter Try.func5, Try.ntmps5
      go_wp2_with fail
      refine (Compare_no an ad bn bd _ Hg.out).mono ?_
      rintro e w1 ⟨rfl, hb1⟩
      have HBw1 := Lib.hid (Fin.out w1 hb1)
      have hc1 := Hk1.out w1 hb1
      have hc2 := Hk2.out w1 hb1
      clear hb1
      go_wp2_with fail
      refine (awake_calls _).mono ?_
      rintro e w3 ⟨rfl, hb3⟩
      have HB3 := Lib.hid (HBw1.out.trans (hb3.mono HBw1.out.size))
      clear hb3
      go_wp2_with fail
      go_ret
      exact ⟨rfl, HB3.out⟩
    · have hdec : decide (ad ≤ 0) = false := decide_eq_false hs
      have hdec2 : decide (bd ≤ 0) = true := decide_eq_true (by have := Hg.out; omega)
      go_enter Try.func5, Try.ntmps5
      go_wp2_with fail
      refine (Compare_no an ad bn bd _ Hg.out).mono ?_
      rintro e w1 ⟨rfl, hb1⟩
      have HBw1 := Lib.hid (Fin.out w1 hb1)
      have hc1 := Hk1.out w1 hb1
      have hc2 := Hk2.out w1 hb1
      clear hb1
      go_wp2_with fail
      refine (awake_calls _).mono ?_
      rintro e w3 ⟨rfl, hb3⟩
      have HB3 := Lib.hid (HBw1.out.trans (hb3.mono HBw1.out.size))
      clear hb3
      go_wp2_with fail
      go_ret
      exact ⟨rfl, HB3.out⟩
theorem Compares_row {w : World} (an ad bn bd : Int) (h1 : In64 an) (h2 : In64 ad) (h3 : In64 bn) (h4 : In64 bd) :
    Calls Try.prog 5 #[.agg #[.int .i64 an, .int .i64 ad], .agg #[.int .i64 bn, .int .i64 bd]] w fun e w' => e = .returned (.bool true) ∧ Below w.heap.size w w' := Compares_walk an ad bn bd w h1 h2 h3 h4
end Go.Proofs.Ytkbiggmkjbmgoaa.Bk
