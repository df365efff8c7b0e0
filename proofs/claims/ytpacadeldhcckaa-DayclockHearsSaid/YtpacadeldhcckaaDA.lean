/- A clock in memory, and what its small functions compute. -/
import Derived.Test.YtpacadeldhcckaaM
import Derived.Test.YtpacadeldhcckaaO
import Derived.Test.YtpacadeldhcckaaWMore
import Derived.Test.YtpacadeldhcckaaWLast
import Derived.Test.YtpacadeldhcckaaChecked
import Derived.Lib.Hide
namespace Go.Proofs.Ytpacadeldhcckaa.Dc
open Go.RowKit Go.Proofs.YtpacadeldhcckaaW.PrintWords Go.Proofs.YtpacadeldhcckaaW.PrintLast Go.Proofs.YtpacadeldhcckaaW.PrintMore Go.Proofs.Mp
set_option linter.unusedVariables false
set_option linter.unusedSimpArgs false

theorem max_ii (ats : Array TypeId) (ty : TypeId) (k k' : IntKind) (x y : Int) : Builtin.max_ ats ty #[.int k x, .int k' y] = pure (.int k (max x y)) := by
  rw [max_two, max2_int]
  have : (if x < y then y else x) = max x y := by split <;> omega
  rw [this]; rfl
theorem min_ii (ats : Array TypeId) (ty : TypeId) (k k' : IntKind) (x y : Int) : Builtin.min_ ats ty #[.int k x, .int k' y] = pure (.int k (min x y)) := by
  rw [min_two, min2_int]
  have : (if y < x then y else x) = min x y := by split <;> omega
  rw [this]; rfl
attribute [local go_sem] max_ii min_ii

def In64 (x : Int) : Prop := -9223372036854775808 ≤ x ∧ x ≤ 9223372036854775807
theorem wrap_in {x : Int} (h : In64 x) : wrap64 x = x := by
  unfold In64 at h
  unfold wrap64
  omega
structure Ck where
  first : Int
  day : Int
  own : Int
  leap : Int
  quorum : Int
  known : Bool
  ref : Int
  told : List (Bool × Int)
def flat (l : List (Bool × Int)) : List Value := l.flatMap (fun p => [.bool p.1, .int .i64 p.2])
def Ck.cells (C : Ck) : List Value := .int .i64 C.first :: .int .i64 C.day :: .int .i64 C.own :: .int .i64 C.leap :: .int .i64 C.quorum :: .bool C.known :: .int .i64 C.ref :: flat C.told
def ClkAt (w : World) (g : Nat) (C : Ck) : Prop := w.heap[g]? = some (.cells C.cells.toArray 51 (0, 0))
theorem ClkAt.below {w w' : World} {g : Nat} {C : Ck} (h : ClkAt w g C) (hb : Below w.heap.size w w') : ClkAt w' g C := blk_below h hb
def IsDay (d : Int) : Prop := 0 ≤ d ∧ d ≤ 999999
instance (d : Int) : Decidable (IsDay d) := by unfold IsDay; exact inferInstance
/-- What holds of a clock. -/
structure Ck.Ok (C : Ck) : Prop where
  first : IsDay C.first
  day : IsDay C.day
  own0 : 0 ≤ C.own
  own1 : C.own ≤ C.day
  leap0 : 0 ≤ C.leap
  leap1 : C.leap ≤ 1000
  q0 : 1 ≤ C.quorum
  q1 : C.quorum ≤ 12
  ref : In64 C.ref
  len : C.told.length = 12
  days : ∀ p ∈ C.told, IsDay p.2

theorem isDay_yes (d : Int) (w : World) (h : IsDay d) : Calls Try.prog 17 #[.int .i64 d] w fun e w' => e = .returned (.bool true) ∧ w' = w := by
  obtain ⟨h0, h1⟩ := h
  go_enter Try.func17, Try.ntmps17
  go_wp2
  go_ret
  exact ⟨rfl, rfl⟩
theorem isDay_no (d : Int) (w : World) (h : ¬ IsDay d) : Calls Try.prog 17 #[.int .i64 d] w fun e w' => e = .returned (.bool false) ∧ w' = w := by
  unfold IsDay at h
  by_cases h0 : 0 ≤ d
  · have h1 : ¬ d ≤ 999999 := by omega
    go_enter Try.func17, Try.ntmps17
    go_wp2
    go_ret
    exact ⟨rfl, rfl⟩
  · go_enter Try.func17, Try.ntmps17
    go_wp2
    go_ret
    exact ⟨rfl, rfl⟩
theorem Day_calls (g : Nat) (C : Ck) (w : World) (h : ClkAt w g C) : Calls Try.prog 11 #[.pointer (some ⟨g, 0, none⟩)] w fun e w' => e = .returned (.int .i64 C.day) ∧ w' = w := by
  have hc : w.cell? ⟨g, 1, none⟩ = some (.int .i64 C.day) := (blk_cell h 1).trans rfl
  go_enter Try.func11, Try.ntmps11
  go_wp2
  go_ret
  exact ⟨rfl, rfl⟩
theorem Own_calls (g : Nat) (C : Ck) (w : World) (h : ClkAt w g C) : Calls Try.prog 13 #[.pointer (some ⟨g, 0, none⟩)] w fun e w' => e = .returned (.int .i64 C.own) ∧ w' = w := by
  have hc : w.cell? ⟨g, 2, none⟩ = some (.int .i64 C.own) := (blk_cell h 2).trans rfl
  go_enter Try.func13, Try.ntmps13
  go_wp2
  go_ret
  exact ⟨rfl, rfl⟩
/-- Valid arguments of New. -/
def Args (day leap quorum : Int) : Prop := IsDay day ∧ (0 ≤ leap ∧ leap ≤ 1000) ∧ (1 ≤ quorum ∧ quorum ≤ 12)
def Ck.new (day leap quorum : Int) : Ck := ⟨day, day, 0, leap, quorum, false, 0, List.replicate 12 (false, 0)⟩
theorem Ck.new_ok {day leap quorum : Int} (h : Args day leap quorum) : (Ck.new day leap quorum).Ok := by
  obtain ⟨h1, h2, h3⟩ := h
  refine ⟨h1, h1, Int.le_refl _, h1.1, h2.1, h2.2, h3.1, h3.2, ?_, by simp [Ck.new], fun p hp => ?_⟩
  · show In64 0
    unfold In64; omega
  · obtain rfl := List.eq_of_mem_replicate hp
    unfold IsDay; omega
set_option maxRecDepth 100000 in
theorem New_yes (day leap quorum : Int) (w : World) (h : Args day leap quorum) :
    Calls Try.prog 8 #[.int .i64 day, .int .i64 leap, .int .i64 quorum] w fun e w' => e = .returned (.tuple #[.pointer (some ⟨w.heap.size, 0, none⟩), .int .i64 0]) ∧ ClkAt w' w.heap.size (Ck.new day leap quorum) ∧ Below w.heap.size w w' := by
  obtain ⟨h1, ⟨h2, h3⟩, h4, h5⟩ := h
  have H1 := Lib.hid (isDay_yes day w h1)
  clear h1
  go_enter Try.func8, Try.ntmps8
  go_wp2_with fail
  refine H1.out.mono ?_
  rintro e w1 ⟨rfl, rfl⟩
  go_wp2_with fail
  refine bodyPost_ret (results_list (rs := [.tmp 6, .tmp 7]) rfl (by simp) (.tmp (.tmp .nil))) rfl ⟨rfl, blk_new w1 _, (Below.refl _ _).alloc (Nat.le_refl _) _⟩
set_option maxRecDepth 100000 in
theorem New_no (day leap quorum : Int) (w : World) (h : ¬ Args day leap quorum) :
    Calls Try.prog 8 #[.int .i64 day, .int .i64 leap, .int .i64 quorum] w fun e w' => e = .returned (.tuple #[.pointer none, .int .i64 1]) ∧ Below w.heap.size w w' := by
  by_cases h1 : IsDay day
  · have H1 := Lib.hid (isDay_yes day w h1)
    have h2 : leap < 0 ∨ 1000 < leap ∨ quorum < 1 ∨ 12 < quorum := by
      apply Classical.byContradiction
      intro hc
      exact h ⟨h1, by omega, by omega⟩
    clear h h1
    by_cases q1 : leap < 0
    · clear h2
      go_enter Try.func8, Try.ntmps8
      go_wp2_with fail
      refine H1.out.mono ?_
      rintro e w1 ⟨rfl, rfl⟩
      go_wp2_with fail
      refine bodyPost_ret (results_list (rs := [.tmp 6, .tmp 7]) rfl (by simp) (.tmp (.tmp .nil))) rfl ⟨rfl, Below.refl _ _⟩
    · by_cases q2 : 1000 < leap
      · clear h2
        go_enter Try.func8, Try.ntmps8
        go_wp2_with fail
        refine H1.out.mono ?_
        rintro e w1 ⟨rfl, rfl⟩
        go_wp2_with fail
        refine bodyPost_ret (results_list (rs := [.tmp 6, .tmp 7]) rfl (by simp) (.tmp (.tmp .nil))) rfl ⟨rfl, Below.refl _ _⟩
      · by_cases q3 : quorum < 1
        · clear h2
          go_enter Try.func8, Try.ntmps8
          go_wp2_with fail
          refine H1.out.mono ?_
          rintro e w1 ⟨rfl, rfl⟩
          go_wp2_with fail
          refine bodyPost_ret (results_list (rs := [.tmp 6, .tmp 7]) rfl (by simp) (.tmp (.tmp .nil))) rfl ⟨rfl, Below.refl _ _⟩
        · have q4 : 12 < quorum := by omega
          clear h2
          go_enter Try.func8, Try.ntmps8
          go_wp2_with fail
          refine H1.out.mono ?_
          rintro e w1 ⟨rfl, rfl⟩
          go_wp2_with fail
          refine bodyPost_ret (results_list (rs := [.tmp 6, .tmp 7]) rfl (by simp) (.tmp (.tmp .nil))) rfl ⟨rfl, Below.refl _ _⟩
  · have H1 := Lib.hid (isDay_no day w h1)
    clear h h1
    go_enter Try.func8, Try.ntmps8
    go_wp2_with fail
    refine H1.out.mono ?_
    rintro e w1 ⟨rfl, rfl⟩
    go_wp2_with fail
    refine bodyPost_ret (results_list (rs := [.tmp 6, .tmp 7]) rfl (by simp) (.tmp (.tmp .nil))) rfl ⟨rfl, Below.refl _ _⟩
set_option maxRecDepth 100000 in
theorem refNew_yes (day leap quorum : Int) (w : World) (h : Args day leap quorum) :
    Calls Try.prog 9 #[.int .i64 day, .int .i64 leap, .int .i64 quorum] w fun e w' => ∃ v, e = .returned (.tuple #[v, .int .i64 0]) ∧ Below w.heap.size w w' := by
  obtain ⟨⟨h0, h1⟩, ⟨h2, h3⟩, h4, h5⟩ := h
  go_enter Try.func9, Try.ntmps9
  go_wp2_with fail
  refine bodyPost_ret (results_ct rfl _ _ w.heap.size 28 _ (0, 0) _ rfl (blk_new w _) Try.underlying28 rfl (by kernel_rfl)) rfl (by first | exact ⟨_, rfl, (Below.refl _ _).alloc (Nat.le_refl _) _⟩ | exact ⟨⟨_, rfl⟩, (Below.refl _ _).alloc (Nat.le_refl _) _⟩ | exact ⟨rfl, (Below.refl _ _).alloc (Nat.le_refl _) _⟩)
set_option maxHeartbeats 1000000 in
set_option maxRecDepth 100000 in
theorem refNew_no (day leap quorum : Int) (w : World) (h : ¬ Args day leap quorum) :
    Calls Try.prog 9 #[.int .i64 day, .int .i64 leap, .int .i64 quorum] w fun e w' => ∃ v, e = .returned (.tuple #[v, .int .i64 1]) ∧ Below w.heap.size w w' := by
  have h2 : day < 0 ∨ 999999 < day ∨ leap < 0 ∨ 1000 < leap ∨ quorum < 1 ∨ 12 < quorum := by unfold Args IsDay at h; omega
  clear h
  by_cases p1 : day < 0
  · clear h2
    go_enter Try.func9, Try.ntmps9
    go_wp2_with fail
    refine bodyPost_ret (results_ct rfl _ _ w.heap.size 28 _ (0, 0) _ rfl (blk_new w _) Try.underlying28 rfl (by kernel_rfl)) rfl (by first | exact ⟨_, rfl, (Below.refl _ _).alloc (Nat.le_refl _) _⟩ | exact ⟨⟨_, rfl⟩, (Below.refl _ _).alloc (Nat.le_refl _) _⟩ | exact ⟨rfl, (Below.refl _ _).alloc (Nat.le_refl _) _⟩)
  · by_cases p2 : 999999 < day
    · clear h2
      go_enter Try.func9, Try.ntmps9
      go_wp2_with fail
      refine bodyPost_ret (results_ct rfl _ _ w.heap.size 28 _ (0, 0) _ rfl (blk_new w _) Try.underlying28 rfl (by kernel_rfl)) rfl (by first | exact ⟨_, rfl, (Below.refl _ _).alloc (Nat.le_refl _) _⟩ | exact ⟨⟨_, rfl⟩, (Below.refl _ _).alloc (Nat.le_refl _) _⟩ | exact ⟨rfl, (Below.refl _ _).alloc (Nat.le_refl _) _⟩)
    · by_cases q1 : leap < 0
      · clear h2
        go_enter Try.func9, Try.ntmps9
        go_wp2_with fail
        refine bodyPost_ret (results_ct rfl _ _ w.heap.size 28 _ (0, 0) _ rfl (blk_new w _) Try.underlying28 rfl (by kernel_rfl)) rfl (by first | exact ⟨_, rfl, (Below.refl _ _).alloc (Nat.le_refl _) _⟩ | exact ⟨⟨_, rfl⟩, (Below.refl _ _).alloc (Nat.le_refl _) _⟩ | exact ⟨rfl, (Below.refl _ _).alloc (Nat.le_refl _) _⟩)
      · by_cases q2 : 1000 < leap
        · clear h2
          go_enter Try.func9, Try.ntmps9
          go_wp2_with fail
          refine bodyPost_ret (results_ct rfl _ _ w.heap.size 28 _ (0, 0) _ rfl (blk_new w _) Try.underlying28 rfl (by kernel_rfl)) rfl (by first | exact ⟨_, rfl, (Below.refl _ _).alloc (Nat.le_refl _) _⟩ | exact ⟨⟨_, rfl⟩, (Below.refl _ _).alloc (Nat.le_refl _) _⟩ | exact ⟨rfl, (Below.refl _ _).alloc (Nat.le_refl _) _⟩)
        · by_cases q3 : quorum < 1
          · clear h2
            go_enter Try.func9, Try.ntmps9
            go_wp2_with fail
            refine bodyPost_ret (results_ct rfl _ _ w.heap.size 28 _ (0, 0) _ rfl (blk_new w _) Try.underlying28 rfl (by kernel_rfl)) rfl (by first | exact ⟨_, rfl, (Below.refl _ _).alloc (Nat.le_refl _) _⟩ | exact ⟨⟨_, rfl⟩, (Below.refl _ _).alloc (Nat.le_refl _) _⟩ | exact ⟨rfl, (Below.refl _ _).alloc (Nat.le_refl _) _⟩)
          · have q4 : 12 < quorum := by omega
            clear h2
            go_enter Try.func9, Try.ntmps9
            go_wp2_with fail
            refine bodyPost_ret (results_ct rfl _ _ w.heap.size 28 _ (0, 0) _ rfl (blk_new w _) Try.underlying28 rfl (by kernel_rfl)) rfl (by first | exact ⟨_, rfl, (Below.refl _ _).alloc (Nat.le_refl _) _⟩ | exact ⟨⟨_, rfl⟩, (Below.refl _ _).alloc (Nat.le_refl _) _⟩ | exact ⟨rfl, (Below.refl _ _).alloc (Nat.le_refl _) _⟩)
end Go.Proofs.Ytpacadeldhcckaa.Dc
