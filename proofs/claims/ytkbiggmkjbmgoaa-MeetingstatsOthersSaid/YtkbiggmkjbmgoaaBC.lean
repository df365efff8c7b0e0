/- The comparison of Rank: its closure over a map of weights. -/
import Derived.Test.YtkbiggmkjbmgoaaV
import Derived.Shelf.SlSortCmp.Whole1
namespace Go.Proofs.Ytkbiggmkjbmgoaa.Bk
open Go.RowKit Go.Proofs.YtkbiggmkjbmgoaaW.PrintWords Go.Proofs.YtkbiggmkjbmgoaaW.PrintLast Go.Proofs.YtkbiggmkjbmgoaaW.PrintMore Go.Proofs.Mp
set_option linter.unusedVariables false
set_option linter.unusedSimpArgs false

theorem findNow_int (a : Int) : ∀ (es : List MapEntry) (i : Nat), (∀ e ∈ es, ∃ b, e.key = .int .i64 b) →
    (Instr.findNow (.int .i64) (.int .i64 a) es i = some none ∧ ∀ e ∈ es, e.key ≠ .int .i64 a) ∨ ∃ j e, Instr.findNow (.int .i64) (.int .i64 a) es i = some (some (i + j, e.val)) ∧ es[j]? = some e ∧ e.key = .int .i64 a := by
  intro es
  induction es with
  | nil => intro i _; exact .inl ⟨rfl, by simp⟩
  | cons e r ih =>
    intro i h
    obtain ⟨b, hb⟩ := h e (by simp)
    by_cases hab : a = b
    · subst hab
      exact .inr ⟨0, e, by simp [Instr.findNow, hb, Instr.sameNow], rfl, hb⟩
    · have hn : ∀ j, Instr.findNow (.int .i64) (.int .i64 a) (e :: r) j = Instr.findNow (.int .i64) (.int .i64 a) r (j + 1) := fun j => by
        have : (a == b) = false := beq_eq_false_iff_ne.2 hab
        simp [Instr.findNow, hb, Instr.sameNow, this]
      rw [hn]
      rcases ih (i + 1) (fun e he => h e (by simp [he])) with ⟨h1, h2⟩ | ⟨j, e', h1, h2, h3⟩
      · refine .inl ⟨h1, fun x hx => ?_⟩
        rcases List.mem_cons.1 hx with rfl | hx
        · rw [hb]; simp; exact fun h => hab h.symm
        · exact h2 x hx
      · exact .inr ⟨j + 1, e', by rw [h1, show i + 1 + j = i + (j + 1) from by omega], by simpa using h2, h3⟩
theorem key3 : KeyT Try.prog 3 Int (Value.int .i64) where
  inj h := by injection h
  check em w a := by kernel_rfl
  stays w a := by simp [Instr.keyThatStays, Instr.sameBits]
  find w a es h := by
    rcases findNow_int a es 0 h with ⟨h1, h2⟩ | ⟨j, e, h1, h2, h3⟩
    · exact .inl ⟨by simp [Instr.findKey, run_underlying Try.underlying3, Result.andThen, h1], h2⟩
    · exact .inr ⟨j, e, by simp [Instr.findKey, run_underlying Try.underlying3, Result.andThen, h1], h2, h3⟩

set_option maxRecDepth 100000 in
theorem or_calls (g : Nat) (p q : Int) (w : World) (h0 : w.cell? ⟨g, 0, none⟩ = some (.int .i64 p)) (h1 : w.cell? ⟨g, 1, none⟩ = some (.int .i64 q)) :
    Calls Try.prog 56 #[.slice (some ⟨g, 0, none⟩) 2 2] w fun e w' => e = .returned (.int .i64 (if p ≠ 0 then p else q)) ∧ ∃ n, w' = w.drewN n := by
  by_cases hp : p = 0
  · subst hp
    by_cases hq : q = 0
    · subst hq
      go_enter Try.func56, Try.ntmps56
      go_wp2
      refine wp_loop_rounds 3 ?_
      rw [rounds_succ]
      go_wp2
      rw [rounds_succ]
      go_wp2
      rw [rounds_succ]
      go_wp2
      go_ret
      exact ⟨rfl, 0, rfl⟩
    · have hd : (q == 0) = false := beq_eq_false_iff_ne.2 hq
      go_enter Try.func56, Try.ntmps56
      go_wp2
      refine wp_loop_rounds 3 ?_
      rw [rounds_succ]
      go_wp2
      rw [rounds_succ]
      go_wp2
      go_ret
      exact ⟨rfl, 0, rfl⟩
  · have hd : (p == 0) = false := beq_eq_false_iff_ne.2 hp
    go_enter Try.func56, Try.ntmps56
    go_wp2
    refine wp_loop_rounds 3 ?_
    rw [rounds_succ]
    go_wp2
    go_ret
    exact ⟨rfl, 0, rfl⟩
/-- The comparison of two devices by their weights. -/
def cfW (f : Int → Int) (x y : Int) : Int := if cmpI (f y) (f x) ≠ 0 then cmpI (f y) (f x) else cmpI x y
theorem cmpi_calls' (a b : Int) (w : World) : Calls Try.prog 38 #[.int .i64 a, .int .i64 b] w fun e w' => e = .returned (.int .i64 (cmpI a b)) ∧ ∃ m, w' = w.drewN m :=
  (PMeetingstatsCompares.cmp_Compare_int.calls a b _ w (cmp_int a b)).mono (by rintro e w' ⟨rfl, ⟨m, rfl⟩⟩; exact ⟨rfl, m, rfl⟩)
set_option maxRecDepth 100000 in
theorem closure_calls (f : Int → Int) (gw mb : Nat) (x y : Int) (W : World) (hc : W.cell? ⟨gw, 0, none⟩ = some (.map (some mb)))
    (hx : (Instr.lookup 96 (.map (some mb)) (.int .i64 x) false).run Try.prog W = .ok (.int .i64 (f x)) W) (hy : (Instr.lookup 96 (.map (some mb)) (.int .i64 y) false).run Try.prog W = .ok (.int .i64 (f y)) W) :
    Calls Try.prog 55 #[.int .i64 x, .int .i64 y, .pointer (some ⟨gw, 0, none⟩)] W fun e w' => e = .returned (.int .i64 (cfW f x y)) ∧ ∃ q os', w' = Sort.grow (W.drewN q) os' := by
  have hp := cmpi_calls' (f y) (f x)
  have hq := cmpi_calls' x y
  unfold cfW
  generalize cmpI (f y) (f x) = p at hp ⊢
  generalize cmpI x y = q at hq ⊢
  have hor := fun g w h0 h1 => or_calls g p q w h0 h1
  generalize (if p ≠ 0 then p else q) = r at hor ⊢
  have hp := Lib.hid hp
  have hq := Lib.hid hq
  have hor := Lib.hid hor
  go_enter Try.func55, Try.ntmps55
  go_wp2_with fail
  refine (hp.out _).mono ?_
  rintro e w1 ⟨rfl, m1, rfl⟩
  go_wp2_with fail
  refine (hq.out _).mono ?_
  rintro e w2 ⟨rfl, m2, rfl⟩
  go_wp2_with fail
  refine (hor.out _ _ ((blk_cell (blk_new _ _) 0).trans rfl) ((blk_cell (blk_new _ _) 1).trans rfl)).mono ?_
  rintro e w3 ⟨rfl, m3, rfl⟩
  go_wp2_with fail
  go_ret
  refine ⟨rfl, m1 + m2 + m3, #[.cells #[.int .i64 p, .int .i64 q] 3], ?_⟩
  rw [← Sort.alloc_eq_grow]
  simp [World.drewN, World.alloc, Nat.add_assoc]
end Go.Proofs.Ytkbiggmkjbmgoaa.Bk
