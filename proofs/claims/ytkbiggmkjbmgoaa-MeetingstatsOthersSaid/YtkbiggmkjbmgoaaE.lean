/- The chapter's example, which every statement asks first, holds in every world. -/
import Derived.Test.YtkbiggmkjbmgoaaD
namespace Go.Proofs.Ytkbiggmkjbmgoaa.Bk
open Go.RowKit Go.Proofs.YtkbiggmkjbmgoaaW.PrintWords Go.Proofs.YtkbiggmkjbmgoaaW.PrintLast Go.Proofs.YtkbiggmkjbmgoaaW.PrintMore Go.Proofs.Mp
set_option linter.unusedVariables false
set_option linter.unusedSimpArgs false

def exB : Nat → Book
  | 0 => Book.empty 2
  | 1 => (Book.empty 2).meet 1 0 0
  | 2 => ((Book.empty 2).meet 1 0 0).meet 1 0 0
  | 3 => (((Book.empty 2).meet 1 0 0).meet 1 0 0).meet 1 0 8
  | _ => ((((Book.empty 2).meet 1 0 0).meet 1 0 0).meet 1 0 8).meet 1 0 40
theorem exB_ok : ∀ k, (exB k).Ok
  | 0 => Book.empty_ok (by omega) (by omega)
  | 1 => (Book.empty_ok (n := 2) (by omega) (by omega)).meet (by decide) (by decide)
  | 2 => ((Book.empty_ok (n := 2) (by omega) (by omega)).meet (by decide) (by decide)).meet (by decide) (by decide)
  | 3 => (((Book.empty_ok (n := 2) (by omega) (by omega)).meet (by decide) (by decide)).meet (by decide) (by decide)).meet (by decide) (by decide)
  | _ + 4 => ((((Book.empty_ok (n := 2) (by omega) (by omega)).meet (x := 1) (y := 0) (d := 0) (by decide) (by decide)).meet (x := 1) (y := 0) (d := 0) (by decide) (by decide)).meet (x := 1) (y := 0) (d := 8) (by decide) (by decide)).meet (by decide) (by decide)
theorem ex_days : (exB 4).D (0, 1) = [0, 8, 40] := by decide
theorem ex_n : ∀ k, (exB k).n = 2
  | 0 => rfl
  | 1 => rfl
  | 2 => rfl
  | 3 => rfl
  | _ + 4 => rfl

theorem eq23 (a b c d : Int) (w : World) : (Op.equalIn 10000 23 (.agg #[.int .i64 a, .int .i64 b]) (.agg #[.int .i64 c, .int .i64 d])).run Try.prog w = .ok (a == c && b == d) w := by
  have u3 := Try.underlying3
  have a3 := Try.isAgg3
  have z3 := Try.sizeOf3
  have hS : Try.prog.underlying 23 = some (.struct (Try.prog.fieldsOf 23)) := by kernel_rfl
  have hp : Try.prog.stoodInHeld 23 = false := by kernel_rfl
  rw [show (10000 : Nat) = 9999 + 1 from rfl, run_equalIn_agg w 9999 23 _ _ hS hp]
  simp only [Program.fieldsOf, Try.underlying23]
  go_simp
  by_cases h1 : a = c <;> by_cases h2 : b = d <;> simp [h1, h2]
theorem rate_ex (b : Nat) (S : Nat → Prop) (w : World) (h : BookAt w b (exB 4) S) :
    Calls Try.prog 16 #[.pointer (some ⟨b, 0, none⟩), .int .i64 0, .int .i64 1, .int .i64 40] w fun e w' => e = .returned (.tuple #[.agg #[.int .i64 1, .int .i64 32], .int .i64 0]) ∧ Below w.heap.size w w' := by
  have := Rate_yes b (exB 4) S 0 1 40 w h (exB_ok 4) (by decide) (by decide)
  rwa [show redN (recentL ((exB 4).D (min 0 1, max 0 1)) 40) 32 = 1 from by decide, show redD (recentL ((exB 4).D (min 0 1, max 0 1)) 40) 32 = 32 from by decide] at this
theorem weight_ex (b : Nat) (S : Nat → Prop) (w : World) (h : BookAt w b (exB 4) S) :
    Calls Try.prog 26 #[.pointer (some ⟨b, 0, none⟩), .int .i64 0, .int .i64 1, .int .i64 40] w fun e w' => e = .returned (.tuple #[.int .i64 1146880, .int .i64 0]) ∧ Below w.heap.size w w' := by
  have := Weight_yes b (exB 4) S 0 1 40 w h (exB_ok 4) (by decide) (by decide)
  rwa [show weightL ((exB 4).D (min 0 1, max 0 1)) 40 = 1146880 from by decide] at this
theorem count_ex (b : Nat) (S : Nat → Prop) (w : World) (h : BookAt w b (exB 4) S) :
    Calls Try.prog 27 #[.pointer (some ⟨b, 0, none⟩), .int .i64 0, .int .i64 1] w fun e w' => e = .returned (.int .i64 3) ∧ Below w.heap.size w w' := by
  have := Count_calls b (exB 4) S 0 1 w h
  rwa [show (((exB 4).D (min 0 1, max 0 1)).length : Int) = 3 from by decide] at this
theorem reduced_ex (w : World) :
    Calls Try.prog 12 #[.int .i64 (-4), .int .i64 (-6)] w fun e w' => e = .returned (.tuple #[.agg #[.int .i64 2, .int .i64 3], .int .i64 0]) ∧ Below w.heap.size w w' := by
  have := Reduced_yes (-4) (-6) w (by unfold NotLeast; omega) (by unfold NotLeast; omega) (by omega)
  rwa [show redN (-4) (-6) = 2 from by decide, show redD (-4) (-6) = 3 from by decide] at this

attribute [local go_sem] eq23
set_option maxRecDepth 100000 in
theorem awake_calls (w : World) : Calls Try.prog 13 #[] w fun e w' => e = .returned (.bool true) ∧ Below w.heap.size w w' := by
  go_enter Try.func13, Try.ntmps13
  go_wp2_with fail
  refine (New_yes 2 w (by omega) (by omega)).mono ?_
  rintro e w1 ⟨b, rfl, hb, hbk⟩
  go_wp2_with fail
  have HB0 := Lib.hid hb
  have hb1 := Below.alloc (Below.refl w1.heap.size w1) (Nat.le_refl _) (.cells #[.int .i64 0, .int .i64 0, .int .i64 8, .int .i64 40] 3)
  have H0 : Hid (∃ S : Nat → Prop, BookAt (w1.alloc (.cells #[.int .i64 0, .int .i64 0, .int .i64 8, .int .i64 40] 3)) b (exB 0) S ∧ (∀ i, S i → w.heap.size ≤ i) ∧ (¬ S w1.heap.size)) :=
    ⟨_, hbk.below hb1, fun i hi => hi.1, fun h => absurd h.2 (by omega)⟩
  have HBB := Lib.hid (hb.alloc hb.size (.cells #[.int .i64 0, .int .i64 0, .int .i64 8, .int .i64 40] 3))
  have HSl := Lib.hid (blk_new w1 (.cells #[.int .i64 0, .int .i64 0, .int .i64 8, .int .i64 40] 3))
  clear hb hb1 hbk
  generalize w1.alloc (.cells #[.int .i64 0, .int .i64 0, .int .i64 8, .int .i64 40] 3) = w2 at *
  generalize w1.heap.size = gs at *
  go_loopw [23] (fun i wr => ∃ k : Nat, k ≤ 4 ∧ i = .int .i64 k ∧ Hid (∃ S : Nat → Prop, BookAt wr b (exB k) S ∧ (∀ i, S i → w.heap.size ≤ i) ∧ (¬ S gs)) ∧ Hid (Below w.heap.size w wr) ∧ Hid (wr.heap[gs]? = some (.cells #[.int .i64 0, .int .i64 0, .int .i64 8, .int .i64 40] 3 (0, 0)))) (fun i _ => 4 - (intOf i).toNat)
  case atStart => exact ⟨0, by omega, rfl, H0, HBB, HSl⟩
  case round =>
    obtain ⟨k, hk, rfl, hbk, hbw, hsl⟩ := hrel
    by_cases h4 : k = 4
    · subst h4
      obtain ⟨S, hb4, hS4, _⟩ := hbk.out
      have Hb4 := Lib.hid hb4
      clear hbk hb4
      go_wp2_with fail
      refine (rate_ex b S _ Hb4.out).mono ?_
      rintro e w3 ⟨rfl, hb3⟩
      have Hb3 := Lib.hid hb3
      clear hb3
      go_wp2_with fail
      have hbx := Hb3.out.alloc Hb3.out.size (.cells #[.int .i64 1, .int .i64 32] 23)
      refine (weight_ex b S _ (Hb4.out.below hbx)).mono ?_
      rintro e w4 ⟨rfl, hb4⟩
      have hbk4 := (blk_below (blk_new w3 (.cells #[.int .i64 1, .int .i64 32] 23)) hb4)
      have HB4 := Lib.hid (hbx.trans (hb4.mono hbx.size))
      have Hk4 := Lib.hid hbk4
      clear hbx hb4 hbk4
      go_wp2_with fail
      refine (reduced_ex _).mono ?_
      rintro e w5 ⟨rfl, hb5⟩
      have HB5 := Lib.hid (HB4.out.trans (hb5.mono HB4.out.size))
      have Hk5 := Lib.hid (blk_below Hk4.out hb5)
      clear hb5
      go_wp2_with fail
      have hbx := HB5.out.alloc HB5.out.size (.cells #[.int .i64 2, .int .i64 3] 23)
      refine (count_ex b S _ (Hb4.out.below hbx)).mono ?_
      rintro e w6 ⟨rfl, hb6⟩
      have hbk6 := (blk_below (blk_new w5 (.cells #[.int .i64 2, .int .i64 3] 23)) hb6)
      have hbk5 := blk_below (blk_alloc Hk5.out (.cells #[.int .i64 2, .int .i64 3] 23)) hb6
      have HB6 := Lib.hid (hbx.trans (hb6.mono hbx.size))
      have hc1 : w6.cell? ⟨w3.heap.size, 0, none⟩ = some (.int .i64 1) := (blk_cell hbk5 0).trans rfl
      have hc2 : w6.cell? ⟨w3.heap.size, 1, none⟩ = some (.int .i64 32) := (blk_cell hbk5 1).trans rfl
      have hc3 : w6.cell? ⟨w5.heap.size, 0, none⟩ = some (.int .i64 2) := (blk_cell hbk6 0).trans rfl
      have hc4 : w6.cell? ⟨w5.heap.size, 1, none⟩ = some (.int .i64 3) := (blk_cell hbk6 1).trans rfl
      clear hbx hb6 hbk6 hbk5
      go_wp2_with fail
      go_ret
      exact ⟨rfl, hbw.out.trans (HB6.out.mono hbw.out.size)⟩
    · have hk' : k = 0 ∨ k = 1 ∨ k = 2 ∨ k = 3 := by omega
      obtain ⟨S, hbS, hS4, hnS⟩ := hbk.out
      have hs0 : wr.cell? ⟨gs, 0, none⟩ = some (.int .i64 0) := (blk_cell hsl.out 0).trans rfl
      have hs1 : wr.cell? ⟨gs, 1, none⟩ = some (.int .i64 0) := (blk_cell hsl.out 1).trans rfl
      have hs2 : wr.cell? ⟨gs, 2, none⟩ = some (.int .i64 8) := (blk_cell hsl.out 2).trans rfl
      have hs3 : wr.cell? ⟨gs, 3, none⟩ = some (.int .i64 40) := (blk_cell hsl.out 3).trans rfl
      have fin : ∀ (w' : World) (k : Nat), (∃ S', (∀ i, S' i → S i ∨ wr.heap.size ≤ i) ∧ Fr S wr w' ∧ BookAt w' b (exB (k + 1)) S') → Hid (∃ S : Nat → Prop, BookAt w' b (exB (k + 1)) S ∧ (∀ i, S i → w.heap.size ≤ i) ∧ (¬ S gs)) ∧ Hid (Below w.heap.size w w') ∧ Hid (w'.heap[gs]? = some (.cells #[.int .i64 0, .int .i64 0, .int .i64 8, .int .i64 40] 3 (0, 0))) := by
        rintro w' k ⟨S', h1, h2, h3⟩
        have hlt : gs < wr.heap.size := blk_lt hsl.out
        refine ⟨⟨S', h3, fun i hi => ?_, fun hi => ?_⟩, hbw.out.trans (h2.below hbw.out.size (fun i hi hs => by have := hS4 i hs; omega)), h2.heap hsl.out hnS⟩
        · rcases h1 i hi with h | h
          · exact hS4 i h
          · exact Nat.le_trans hbw.out.size h
        · rcases h1 gs hi with h | h
          · exact hnS h
          · omega
      have HbS := Lib.hid hbS
      have Fin := Lib.hid fin
      have HnS := Lib.hid hnS
      have HS4 := Lib.hid hS4
      clear hbS hnS fin hbk hS4
      rcases hk' with rfl | rfl | rfl | rfl
      · go_wp2_with fail
        refine (Meet_yes b (exB 0) S 1 0 0 _ HbS.out (exB_ok 0) (by decide) (by decide) (by decide)).mono ?_
        rintro e w' ⟨rfl, hw'⟩
        have HF := Lib.hid (Fin.out w' 0 hw')
        clear hw'
        go_wp2_with fail
        go_roundw
        case rel => exact ⟨1, by omega, rfl, HF.out.1, HF.out.2.1, HF.out.2.2⟩
        case measure => simp [intOf]
      · go_wp2_with fail
        refine (Meet_yes b (exB 1) S 1 0 0 _ HbS.out (exB_ok 1) (by decide) (by decide) (by decide)).mono ?_
        rintro e w' ⟨rfl, hw'⟩
        have HF := Lib.hid (Fin.out w' 1 hw')
        clear hw'
        go_wp2_with fail
        go_roundw
        case rel => exact ⟨2, by omega, rfl, HF.out.1, HF.out.2.1, HF.out.2.2⟩
        case measure => simp [intOf]
      · go_wp2_with fail
        refine (Meet_yes b (exB 2) S 1 0 8 _ HbS.out (exB_ok 2) (by decide) (by decide) (by decide)).mono ?_
        rintro e w' ⟨rfl, hw'⟩
        have HF := Lib.hid (Fin.out w' 2 hw')
        clear hw'
        go_wp2_with fail
        go_roundw
        case rel => exact ⟨3, by omega, rfl, HF.out.1, HF.out.2.1, HF.out.2.2⟩
        case measure => simp [intOf]
      · go_wp2_with fail
        refine (Meet_yes b (exB 3) S 1 0 40 _ HbS.out (exB_ok 3) (by decide) (by decide) (by decide)).mono ?_
        rintro e w' ⟨rfl, hw'⟩
        have HF := Lib.hid (Fin.out w' 3 hw')
        clear hw'
        go_wp2_with fail
        go_roundw
        case rel => exact ⟨4, by omega, rfl, HF.out.1, HF.out.2.1, HF.out.2.2⟩
        case measure => simp [intOf]
end Go.Proofs.Ytkbiggmkjbmgoaa.Bk
