/- A book in memory, and what the small functions of package meetingstats compute of it. -/
import Derived.Test.YtkbiggmkjbmgoaaM
import Derived.Lib.Hide
import Derived.Test.YtkbiggmkjbmgoaaPMeetingstatsRatesx2
namespace Go.Proofs.Ytkbiggmkjbmgoaa.Bk
open Go.RowKit Go.Proofs.YtkbiggmkjbmgoaaW.PrintWords Go.Proofs.YtkbiggmkjbmgoaaW.PrintLast Go.Proofs.YtkbiggmkjbmgoaaW.PrintMore Go.Proofs.Mp
set_option linter.unusedVariables false
set_option linter.unusedSimpArgs false

theorem max_ii (ats : Array TypeId) (ty : TypeId) (k k' : IntKind) (x y : Int) : Builtin.max_ ats ty #[.int k x, .int k' y] = pure (.int k (max x y)) := by
  rw [max_two, max2_int]
  have : (if x < y then y else x) = max x y := by split <;> omega
  rw [this]; rfl
theorem min_ii (ats : Array TypeId) (ty : TypeId) (k k' : IntKind) (x y : Int) : Builtin.min_ ats ty #[.int k x, .int k' y] = pure (.int k (min x y)) := by
  rw [min_two, min2_int]
  have : (if y < x then y else x) = min x y := by split <;> omega
  rw [this]; rfl
attribute [local go_sem] max_ii min_ii

/-! ### 1. The key -/
def pk (p : Int × Int) : Value := .agg #[.int .i64 p.1, .int .i64 p.2]
theorem pk_inj {a b : Int × Int} (h : pk a = pk b) : a = b := by
  unfold pk at h
  injection h with h
  obtain ⟨x, y⟩ := a
  obtain ⟨z, u⟩ := b
  simp at h
  rw [h.1, h.2]
theorem eq75 (w : World) (a b : Int × Int) : ∃ r, (Op.equal 75 (pk a) (pk b)).run Try.prog w = .ok r w ∧ (r = true ↔ a = b) := by
  obtain ⟨a, c⟩ := a
  obtain ⟨b, d⟩ := b
  refine ⟨a == b && c == d, ?_, by simp⟩
  have u3 := Try.underlying3
  have a3 := Try.isAgg3
  have z3 := Try.sizeOf3
  unfold Op.equal Op.maxDepth pk
  rw [show (10000 : Nat) = 9999 + 1 from rfl, Op.equalIn]
  simp only [Sem.run_bind, run_underlying Try.underlying75, Result.andThen_ok]
  simp only [Std.Legacy.Range.forIn_eq_forIn_range', Std.Legacy.Range.size, Nat.sub_zero, Nat.add_sub_cancel, Nat.div_one, List.range'_succ, List.range'_zero, List.forIn_cons, List.forIn_nil]
  go_simp
  by_cases h1 : a = b <;> by_cases h2 : c = d <;> simp [h1, h2]
theorem check75 (em : Bool) (w : World) (a : Int × Int) : (Instr.checkKey em 10000 75 (pk a)).run Try.prog w = .ok () w := by kernel_rfl
theorem key75 : KeyT Try.prog 75 (Int × Int) pk :=
  KeyT.of_eq (fun d hd a b => by rw [Try.underlying75] at hd; injection hd with hd; subst hd; rfl) ⟨_, Try.underlying75⟩ pk_inj check75
    (fun a => by simp [pk, Instr.sameBits]) eq75

/-! ### 2. device, pair -/
theorem device_yes (b : Nat) (n x : Int) (w : World) (hc : w.cell? ⟨b, 0, none⟩ = some (.int .i64 n)) (h0 : 0 ≤ x) (h1 : x < n) :
    Calls Try.prog 53 #[.pointer (some ⟨b, 0, none⟩), .int .i64 x] w fun e w' => e = .returned (.bool true) ∧ w' = w := by
  go_enter Try.func53, Try.ntmps53
  go_wp2
  go_ret
  exact ⟨rfl, rfl⟩
theorem device_no (b : Nat) (n x : Int) (w : World) (hc : w.cell? ⟨b, 0, none⟩ = some (.int .i64 n)) (h : ¬ (0 ≤ x ∧ x < n)) :
    Calls Try.prog 53 #[.pointer (some ⟨b, 0, none⟩), .int .i64 x] w fun e w' => e = .returned (.bool false) ∧ w' = w := by
  by_cases h0 : 0 ≤ x
  · have h1 : ¬ (x < n) := fun h1 => h ⟨h0, h1⟩
    go_enter Try.func53, Try.ntmps53
    go_wp2
    go_ret
    exact ⟨rfl, rfl⟩
  · go_enter Try.func53, Try.ntmps53
    go_wp2
    go_ret
    exact ⟨rfl, rfl⟩

/-- Two different devices of a book of n. -/
def Two (n x y : Int) : Prop := (0 ≤ x ∧ x < n) ∧ (0 ≤ y ∧ y < n) ∧ x ≠ y
instance (n x y : Int) : Decidable (Two n x y) := by unfold Two; exact inferInstance

theorem pair_calls (b : Nat) (n x y : Int) (w : World) (hc : w.cell? ⟨b, 0, none⟩ = some (.int .i64 n)) :
    Calls Try.prog 41 #[.pointer (some ⟨b, 0, none⟩), .int .i64 x, .int .i64 y] w fun e w' => e = .returned (.tuple #[.agg #[.int .i64 (min x y), .int .i64 (max x y)], .bool (decide (Two n x y))]) ∧ Below w.heap.size w w' := by
  have hblt := World.block_lt_of_cell? w _ hc
  simp only at hblt
  by_cases hx : 0 ≤ x ∧ x < n
  · by_cases hy : 0 ≤ y ∧ y < n
    · have hd : decide (Two n x y) = (x != y) := by
        rw [Bool.eq_iff_iff]; simp [Two, hx, hy]
      rw [hd]
      go_enter Try.func41, Try.ntmps41
      go_wp2_with fail
      refine (device_yes b n x _ ?h1 hx.1 hx.2).mono ?_
      case h1 => go_simp
      rintro e w' ⟨rfl, rfl⟩
      go_wp2_with fail
      refine (device_yes b n y _ ?h1 hy.1 hy.2).mono ?_
      case h1 => go_simp
      rintro e w' ⟨rfl, rfl⟩
      go_wp2_with fail
      refine bodyPost_ret (v := .tuple #[.agg #[.int .i64 (min x y), .int .i64 (max x y)], .bool (x != y)]) (by simp [results, Try.results41, go_sem]) rfl ⟨rfl, ?_⟩
      exact (Below.refl _ _).alloc (Nat.le_refl _) _
    · have hd : decide (Two n x y) = false := by simp [Two, hy]
      rw [hd]
      go_enter Try.func41, Try.ntmps41
      go_wp2_with fail
      refine (device_yes b n x _ ?h1 hx.1 hx.2).mono ?_
      case h1 => go_simp
      rintro e w' ⟨rfl, rfl⟩
      go_wp2_with fail
      refine (device_no b n y _ ?h1 hy).mono ?_
      case h1 => go_simp
      rintro e w' ⟨rfl, rfl⟩
      go_wp2_with fail
      refine bodyPost_ret (v := .tuple #[.agg #[.int .i64 (min x y), .int .i64 (max x y)], .bool false]) (by simp [results, Try.results41, go_sem]) rfl ⟨rfl, ?_⟩
      exact (Below.refl _ _).alloc (Nat.le_refl _) _
  · have hd : decide (Two n x y) = false := by simp [Two, hx]
    rw [hd]
    go_enter Try.func41, Try.ntmps41
    go_wp2_with fail
    refine (device_no b n x _ ?h1 hx).mono ?_
    case h1 => go_simp
    rintro e w' ⟨rfl, rfl⟩
    go_wp2_with fail
    refine bodyPost_ret (v := .tuple #[.agg #[.int .i64 (min x y), .int .i64 (max x y)], .bool false]) (by simp [results, Try.results41, go_sem]) rfl ⟨rfl, ?_⟩
    exact (Below.refl _ _).alloc (Nat.le_refl _) _

/-! ### 3. A book -/
structure Book where
  n : Int
  nw : Int
  D : Int × Int → List Int
/-- What New, Meet and Decode keep. -/
structure Book.Ok (B : Book) : Prop where
  n2 : 2 ≤ B.n
  n12 : B.n ≤ 12
  nw0 : -1 ≤ B.nw
  nw1 : B.nw ≤ 999999
  asc : ∀ p, (B.D p).Pairwise (· < ·)
  low : ∀ p, ∀ m ∈ B.D p, 0 ≤ m
  high : ∀ p, ∀ m ∈ B.D p, m ≤ B.nw
theorem asc_len (l : List Int) : ∀ a b : Int, l.Pairwise (· < ·) → (∀ m ∈ l, a ≤ m ∧ m < b) → a ≤ b → (l.length : Int) ≤ b - a := by
  induction l with
  | nil => intro a b _ _ h; simp; omega
  | cons x r ih =>
    intro a b h hm hab
    obtain ⟨h1, h2⟩ := List.pairwise_cons.1 h
    have hx := hm x (by simp)
    have := ih (x + 1) b h2 (fun m hm' => ⟨by have := h1 m hm'; omega, (hm m (by simp [hm'])).2⟩) (by omega)
    simp only [List.length_cons]
    omega
theorem Book.Ok.len {B : Book} (h : B.Ok) (p : Int × Int) : (B.D p).length ≤ 1000000 := by
  have := asc_len (B.D p) 0 1000000 (h.asc p) (fun m hm => ⟨h.low p m hm, by have := h.high p m hm; have := h.nw1; omega⟩) (by omega)
  omega

/-- BLOCK b IS THE BOOK B; ITS MEMORY IS S. -/
def BookAt (w : World) (b : Nat) (B : Book) (S : Nat → Prop) : Prop :=
  ∃ mb L, w.heap[b]? = some (.cells #[.int .i64 B.n, .map (some mb), .int .i64 B.nw] 81 (0, 0)) ∧ IsMap pk w mb L ∧ S b ∧ S mb ∧
    (∀ p v, mget p L = some v → w.ownsRow 0 3 1 v (B.D p).length (nums .i64 (B.D p)) ∧ ∀ g, v.ownBlock = some g → S g) ∧
    (∀ p, mget p L = none → B.D p = []) ∧
    (∀ p q v u, mget p L = some v → mget q L = some u → p ≠ q → v.ownBlock = none ∨ v.ownBlock ≠ u.ownBlock) ∧
    ∀ i, S i → i < w.heap.size

theorem own_grown {w w' : World} {v : Value} {n : Nat} {xs : List Value} {S : Nat → Prop} (h : w.ownsRow 0 3 1 v n xs) (hf : Fr S w w') (hS : ∀ g, v.ownBlock = some g → ¬ S g) : w'.ownsRow 0 3 1 v n xs := by
  obtain ⟨h1, h2⟩ := h
  refine ⟨h1, ?_⟩
  rcases h2 with h2 | ⟨g, cap, cur, rfl, hg, hh, r⟩
  · exact .inl h2
  · exact .inr ⟨g, cap, cur, rfl, hg, hf.heap hh (hS g rfl), r⟩
theorem own_lt' {w : World} {v : Value} {n : Nat} {xs : List Value} (h : w.ownsRow 0 3 1 v n xs) {g : Nat} (hg : v.ownBlock = some g) : g < w.heap.size := own_lt h g hg

theorem BookAt.keep {w w' : World} {b : Nat} {B : Book} {S T : Nat → Prop} (h : BookAt w b B S) (hf : Fr T w w') (hd : ∀ i, S i → ¬ T i) : BookAt w' b B S := by
  obtain ⟨mb, L, h1, h2, h3, h4, h5, h6, h7, h8⟩ := h
  exact ⟨mb, L, hf.heap h1 (hd b h3), h2.of_block (hf.block mb (h8 mb h4) (hd mb h4)), h3, h4,
    fun p v hv => ⟨own_grown (h5 p v hv).1 hf (fun g hg => hd g ((h5 p v hv).2 g hg)), (h5 p v hv).2⟩, h6, h7, fun i hi => Nat.lt_of_lt_of_le (h8 i hi) hf.size⟩
theorem BookAt.below {w w' : World} {b : Nat} {B : Book} {S : Nat → Prop} (h : BookAt w b B S) (hb : Below w.heap.size w w') : BookAt w' b B S :=
  h.keep (T := fun _ => False) (Fr.of_below hb) (fun _ _ h => h)
theorem BookAt.cell0 {w : World} {b : Nat} {B : Book} {S : Nat → Prop} (h : BookAt w b B S) : w.cell? ⟨b, 0, none⟩ = some (.int .i64 B.n) := by
  obtain ⟨mb, L, h1, _⟩ := h
  exact (blk_cell h1 0).trans rfl
theorem BookAt.cell2 {w : World} {b : Nat} {B : Book} {S : Nat → Prop} (h : BookAt w b B S) : w.cell? ⟨b, 2, none⟩ = some (.int .i64 B.nw) := by
  obtain ⟨mb, L, h1, _⟩ := h
  exact (blk_cell h1 2).trans rfl

theorem zero39 (w : World) : (zeroValue 39).run Try.prog w = .ok (.slice none 0 0) w := by kernel_rfl
/-- A slice of whole numbers that begins at its block's head. -/
def Reads0 (w : World) (A : Option Addr) (l : List Int) : Prop := 0 < l.length → ∃ g, A = some ⟨g, 0, none⟩ ∧ g < w.heap.size ∧ ∀ j, j < l.length → w.cell? ⟨g, j, none⟩ = some (.int .i64 (l.getD j 0))
theorem Reads0.below {w w' : World} {A : Option Addr} {l : List Int} (h : Reads0 w A l) (hb : Below w.heap.size w w') : Reads0 w' A l := fun h0 => by
  obtain ⟨g, e, hg, hc⟩ := h h0
  exact ⟨g, e, Nat.lt_of_lt_of_le hg hb.size, fun j hj => (hb.cell (p := ⟨g, j, none⟩) hg).trans (hc j hj)⟩
theorem Reads0.keep {w w' : World} {S : Nat → Prop} {A : Option Addr} {l : List Int} (h : Reads0 w A l) (hf : Fr S w w') (hS : ∀ g, A = some ⟨g, 0, none⟩ → ¬ S g) : Reads0 w' A l := fun h0 => by
  obtain ⟨g, e, hg, hc⟩ := h h0
  exact ⟨g, e, Nat.lt_of_lt_of_le hg hf.size, fun j hj => (hf.cell (p := ⟨g, j, none⟩) hg (hS g e)).trans (hc j hj)⟩
theorem own_reads0 {w : World} {v : Value} {l : List Int} (h : w.ownsRow 0 3 1 v l.length (nums .i64 l)) : ∃ A c, v = .slice A l.length c ∧ Reads0 w A l := by
  rcases Nat.eq_zero_or_pos l.length with h0 | h0
  · obtain ⟨A, c, hv⟩ := own_slice h
    exact ⟨A, c, hv, fun h => absurd h (by omega)⟩
  · obtain ⟨g, cap, rfl, _, _⟩ := h.form h0
    refine ⟨_, cap, rfl, fun _ => ⟨g, rfl, own_lt' h rfl, fun j hj => ?_⟩⟩
    have := h.cells (g := g) rfl j (.int .i64 (l.getD j 0)) (by simp [nums, List.getElem?_eq_getElem hj, List.getD_eq_getElem?_getD])
    rwa [add_plain] at this
/-- What is read of a pair's days. -/
theorem BookAt.days {w : World} {b : Nat} {B : Book} {S : Nat → Prop} (h : BookAt w b B S) (i j : Int) :
    ∃ mb A c, w.cell? ⟨b, 1, none⟩ = some (.map (some mb)) ∧ (∀ W : World, W.heap[mb]? = w.heap[mb]? → (Instr.lookup 79 (.map (some mb)) (.agg #[.int .i64 i, .int .i64 j]) false).run Try.prog W = .ok (.slice A (B.D (i, j)).length c) W) ∧ Reads0 w A (B.D (i, j)) ∧ mb < w.heap.size := by
  obtain ⟨mb, L, h1, h2, h3, h4, h5, h6, h7, h8⟩ := h
  have hl := fun (W : World) (hW : W.heap[mb]? = w.heap[mb]?) => IsMap.lookup key75 Try.underlying79 (zero39 W) (h2.of_block (w' := W) hW) (i, j) false
  cases hg : mget (i, j) L with
  | none =>
    refine ⟨mb, none, 0, (blk_cell h1 1).trans rfl, fun W hW => ?_, ?_, h8 mb h4⟩
    · have := hl W hW
      rw [hg] at this
      rw [h6 _ hg]
      exact this
    · rw [h6 _ hg]
      exact fun h => absurd h (by simp)
  | some v =>
    obtain ⟨A, c, hv, hr⟩ := own_reads0 (h5 _ v hg).1
    subst hv
    refine ⟨mb, A, c, (blk_cell h1 1).trans rfl, fun W hW => ?_, hr, h8 mb h4⟩
    have := hl W hW
    rw [hg] at this
    exact this

theorem Count_calls (b : Nat) (B : Book) (S : Nat → Prop) (x y : Int) (w : World) (h : BookAt w b B S) :
    Calls Try.prog 27 #[.pointer (some ⟨b, 0, none⟩), .int .i64 x, .int .i64 y] w fun e w' => e = .returned (.int .i64 ((B.D (min x y, max x y)).length : Int)) ∧ Below w.heap.size w w' := by
  go_enter Try.func27, Try.ntmps27
  go_wp2_with fail
  refine (pair_calls b B.n x y _ h.cell0).mono ?_
  rintro e w1 ⟨rfl, hb⟩
  go_wp2_with fail
  obtain ⟨mb, A, c, hc, hl, hr, hm⟩ := (h.below hb).days (min x y) (max x y)
  have hbl := World.block_lt_of_cell? _ _ hc
  simp only at hbl
  have hl2 := fun k => hl ((w1.alloc (.cells #[.int .i64 (min x y), .int .i64 (max x y)] 75)).drewN k) (Below.heap_alloc _ _ _ hm)
  clear hl
  go_quiet (fail)
  go_wp2_with fail
  go_ret
  exact ⟨rfl, pw_below_drewN (hb.alloc hb.size _) _⟩

theorem isDay_calls (d : Int) (w : World) : Calls Try.prog 42 #[.int .i64 d] w fun e w' => e = .returned (.bool (decide (0 ≤ d ∧ d ≤ 999999))) ∧ w' = w := by
  by_cases h : 0 ≤ d
  · have hd : decide (0 ≤ d ∧ d ≤ 999999) = decide (d ≤ 999999) := by simp [h]
    rw [hd]
    go_enter Try.func42, Try.ntmps42
    go_wp2
    go_ret
    exact ⟨rfl, rfl⟩
  · have hd : decide (0 ≤ d ∧ d ≤ 999999) = false := by simp [h]
    rw [hd]
    go_enter Try.func42, Try.ntmps42
    go_wp2
    go_ret
    exact ⟨rfl, rfl⟩
def IsDay (d : Int) : Prop := 0 ≤ d ∧ d ≤ 999999
instance (d : Int) : Decidable (IsDay d) := by unfold IsDay; exact inferInstance
theorem isDay_yes (d : Int) (w : World) (h : IsDay d) : Calls Try.prog 42 #[.int .i64 d] w fun e w' => e = .returned (.bool true) ∧ w' = w := by
  have := isDay_calls d w
  rwa [show decide (0 ≤ d ∧ d ≤ 999999) = true from decide_eq_true h] at this
theorem isDay_no (d : Int) (w : World) (h : ¬ IsDay d) : Calls Try.prog 42 #[.int .i64 d] w fun e w' => e = .returned (.bool false) ∧ w' = w := by
  have := isDay_calls d w
  rwa [show decide (0 ≤ d ∧ d ≤ 999999) = false from decide_eq_false h] at this

theorem pair_yes (b : Nat) (n x y : Int) (w : World) (hc : w.cell? ⟨b, 0, none⟩ = some (.int .i64 n)) (h : Two n x y) :
    Calls Try.prog 41 #[.pointer (some ⟨b, 0, none⟩), .int .i64 x, .int .i64 y] w fun e w' => e = .returned (.tuple #[.agg #[.int .i64 (min x y), .int .i64 (max x y)], .bool true]) ∧ Below w.heap.size w w' := by
  have := pair_calls b n x y w hc
  rwa [decide_eq_true h] at this
theorem pair_no (b : Nat) (n x y : Int) (w : World) (hc : w.cell? ⟨b, 0, none⟩ = some (.int .i64 n)) (h : ¬ Two n x y) :
    Calls Try.prog 41 #[.pointer (some ⟨b, 0, none⟩), .int .i64 x, .int .i64 y] w fun e w' => e = .returned (.tuple #[.agg #[.int .i64 (min x y), .int .i64 (max x y)], .bool false]) ∧ Below w.heap.size w w' := by
  have := pair_calls b n x y w hc
  rwa [decide_eq_false h] at this

def recentB (d m : Int) : Bool := decide (d - 32 < m ∧ m ≤ d)
def recentL (l : List Int) (d : Int) : Int := ((l.filter (recentB d)).length : Int)
theorem recentL_bd (l : List Int) (d : Int) : 0 ≤ recentL l d ∧ recentL l d ≤ l.length := by
  unfold recentL
  have := List.length_filter_le (recentB d) l
  omega
theorem recentL_snoc (l : List Int) (d : Int) (k : Nat) (hk : k < l.length) : recentL (l.take (k + 1)) d = recentL (l.take k) d + if recentB d (l.getD k 0) = true then 1 else 0 := by
  unfold recentL
  rw [List.take_succ_eq_append_getElem hk, List.filter_append, List.length_append, List.filter_cons]
  have e : l.getD k 0 = l[k] := by simp [List.getD_eq_getElem?_getD, List.getElem?_eq_getElem hk]
  rw [e]
  split <;> simp

theorem recent_yes (b : Nat) (B : Book) (S : Nat → Prop) (x y d : Int) (w : World) (h : BookAt w b B S) (hB : B.Ok) (ht : Two B.n x y) (hd : IsDay d) :
    Calls Try.prog 35 #[.pointer (some ⟨b, 0, none⟩), .int .i64 x, .int .i64 y, .int .i64 d] w fun e w' => e = .returned (.tuple #[.int .i64 (recentL (B.D (min x y, max x y)) d), .int .i64 0]) ∧ Below w.heap.size w w' := by
  have hlen := hB.len (min x y, max x y)
  have hlow := hB.low (min x y, max x y)
  have hhigh := hB.high (min x y, max x y)
  have hnw := hB.nw1
  have hd0 := hd.1
  have hd1 := hd.2
  go_enter Try.func35, Try.ntmps35
  go_wp2_with fail
  refine (pair_yes b B.n x y _ h.cell0 ht).mono ?_
  rintro e w1 ⟨rfl, hb⟩
  go_wp2_with fail
  refine (isDay_yes d _ hd).mono ?_
  rintro e w' ⟨rfl, rfl⟩
  go_wp2_with fail
  obtain ⟨mb, A, c, hc, hl, hr, hm⟩ := (h.below hb).days (min x y) (max x y)
  have hbl := World.block_lt_of_cell? _ _ hc
  simp only at hbl
  have hl2 := fun k => hl ((w1.alloc (.cells #[.int .i64 (min x y), .int .i64 (max x y)] 75)).drewN k) (Below.heap_alloc _ _ _ hm)
  clear hl
  go_quiet (fail)
  clear hl2
  have HB := Lib.hid (pw_below_drewN (hb.alloc hb.size (.cells #[.int .i64 (min x y), .int .i64 (max x y)] 75)) nq)
  have hr2 := hr.below (pw_below_drewN (Below.alloc (Below.refl w1.heap.size w1) (Nat.le_refl _) (.cells #[.int .i64 (min x y), .int .i64 (max x y)] 75)) nq)
  generalize (w1.alloc (.cells #[.int .i64 (min x y), .int .i64 (max x y)] 75)).drewN nq = w2 at *
  generalize hlD : B.D (min x y, max x y) = l at *
  have HLD := Lib.hid hlD
  clear hlD
  go_wp2_with fail
  go_loop [12, 36] (fun n i => ∃ k : Nat, k ≤ l.length ∧ i = .int .i64 k ∧ n = .int .i64 (recentL (l.take k) d)) (fun _ i => l.length - (intOf i).toNat)
  case atStart => exact ⟨0, Nat.zero_le _, rfl, rfl⟩
  case round =>
    obtain ⟨k, hk, rfl, rfl⟩ := hrel
    by_cases hlt : k < l.length
    · obtain ⟨g, rfl, hg, hcell⟩ := hr2 (by omega)
      have hck := hcell k hlt
      have hbd := recentL_bd (l.take k) d
      have hl0 : (l.take k).length ≤ k := List.length_take_le _ _
      have hm0 := hlow (l.getD k 0) (by rw [List.getD_eq_getElem?_getD, List.getElem?_eq_getElem hlt]; exact List.getElem_mem hlt)
      have hm1 := hhigh (l.getD k 0) (by rw [List.getD_eq_getElem?_getD, List.getElem?_eq_getElem hlt]; exact List.getElem_mem hlt)
      have HS := Lib.hid (recentL_snoc l d k hlt)
      clear hcell hr2 hlow hhigh
      by_cases h1 : d - 32 < l.getD k 0
      · by_cases h2 : l.getD k 0 ≤ d
        · have HE : Hid (recentB d (l.getD k 0) = true) := by unfold Hid; simp only [recentB, decide_eq_true_eq]; exact ⟨h1, h2⟩
          generalize l.getD k 0 = m at *
          go_wp2
          go_round
          case rel => exact ⟨k + 1, by omega, by go_num, by rw [HS.out, HE.out]; rfl⟩
          case measure => simp [intOf]; omega
        · have HE : Hid (recentB d (l.getD k 0) = false) := by unfold Hid; simp only [recentB, decide_eq_false_iff_not]; exact fun h => h2 h.2
          generalize l.getD k 0 = m at *
          go_wp2
          go_round
          case rel => exact ⟨k + 1, by omega, by go_num, by rw [HS.out, HE.out]; simp⟩
          case measure => simp [intOf]; omega
      · have HE : Hid (recentB d (l.getD k 0) = false) := by unfold Hid; simp only [recentB, decide_eq_false_iff_not]; exact fun h => h1 h.1
        generalize l.getD k 0 = m at *
        go_wp2
        go_round
        case rel => exact ⟨k + 1, by omega, by go_num, by rw [HS.out, HE.out]; simp⟩
        case measure => simp [intOf]; omega
    · go_wp2
      go_ret2
      exact ⟨by rw [List.take_of_length_le (by omega), HLD.out]; rfl, HB.out⟩
end Go.Proofs.Ytkbiggmkjbmgoaa.Bk
