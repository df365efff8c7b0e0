/- What the reading functions of package meetingstats compute of a book: rate, weight. -/
import Derived.Test.YtkbiggmkjbmgoaaB
import Derived.Test.YtkbiggmkjbmgoaaP
namespace Go.Proofs.Ytkbiggmkjbmgoaa.Bk
open Go.RowKit Go.Proofs.YtkbiggmkjbmgoaaW.PrintWords Go.Proofs.YtkbiggmkjbmgoaaW.PrintLast Go.Proofs.YtkbiggmkjbmgoaaW.PrintMore Go.Proofs.Mp
open Go.Proofs.Ytkbiggmkjbmgoaa.PMeetingstatsRates
set_option linter.unusedVariables false
set_option linter.unusedSimpArgs false

theorem recent_no (b : Nat) (B : Book) (S : Nat → Prop) (x y d : Int) (w : World) (h : BookAt w b B S) (hn : ¬ (Two B.n x y ∧ IsDay d)) :
    Calls Try.prog 35 #[.pointer (some ⟨b, 0, none⟩), .int .i64 x, .int .i64 y, .int .i64 d] w fun e w' => e = .returned (.tuple #[.int .i64 0, .int .i64 1]) ∧ Below w.heap.size w w' := by
  by_cases ht : Two B.n x y
  · have hd : ¬ IsDay d := fun hd => hn ⟨ht, hd⟩
    go_enter Try.func35, Try.ntmps35
    go_wp2_with fail
    refine (pair_yes b B.n x y _ h.cell0 ht).mono ?_
    rintro e w1 ⟨rfl, hb⟩
    go_wp2_with fail
    refine (isDay_no d _ hd).mono ?_
    rintro e w' ⟨rfl, rfl⟩
    go_wp2_with fail
    go_ret2
    exact ⟨rfl, hb.alloc hb.size _⟩
  · go_enter Try.func35, Try.ntmps35
    go_wp2_with fail
    refine (pair_no b B.n x y _ h.cell0 ht).mono ?_
    rintro e w1 ⟨rfl, hb⟩
    go_wp2_with fail
    go_ret2
    exact ⟨rfl, hb.alloc hb.size _⟩

theorem below_new {w w1 : World} {O : Obj} (h : Below (w.alloc O).heap.size (w.alloc O) w1) : Below w.heap.size w w1 ∧ w1.heap[w.heap.size]? = some O ∧ w.heap.size < w1.heap.size := by
  have hs : (w.alloc O).heap.size = w.heap.size + 1 := by simp
  refine ⟨(Below.alloc (Below.refl _ _) (Nat.le_refl _) O).trans (h.mono (by omega)), (h.block _ (by omega)).trans (blk_new w O), by have := h.size; omega⟩

theorem Rate_yes (b : Nat) (B : Book) (S : Nat → Prop) (x y d : Int) (w : World) (h : BookAt w b B S) (hB : B.Ok) (ht : Two B.n x y) (hd : IsDay d) :
    Calls Try.prog 16 #[.pointer (some ⟨b, 0, none⟩), .int .i64 x, .int .i64 y, .int .i64 d] w fun e w' =>
      e = .returned (.tuple #[.agg #[.int .i64 (redN (recentL (B.D (min x y, max x y)) d) 32), .int .i64 (redD (recentL (B.D (min x y, max x y)) d) 32)], .int .i64 0]) ∧ Below w.heap.size w w' := by
  have hlen := hB.len (min x y, max x y)
  have hbd := recentL_bd (B.D (min x y, max x y)) d
  go_enter Try.func16, Try.ntmps16
  go_wp2_with fail
  refine (recent_yes b B S x y d _ (h.below (Below.alloc (Below.refl _ _) (Nat.le_refl _) _)) hB ht hd).mono ?_
  rintro e w1 ⟨rfl, hb⟩
  obtain ⟨hb0, hk, hg⟩ := below_new hb
  go_wp2_with fail
  refine (Reduced_yes _ 32 _ (by unfold NotLeast; omega) (by unfold NotLeast; omega) (by omega)).mono ?_
  rintro e w2 ⟨rfl, hb2⟩
  have hk2 := blk_below hk hb2
  have HB := Lib.hid (hb0.trans (hb2.mono (by omega)))
  have hz0 : w2.cell? ⟨w.heap.size, 0, none⟩ = some (.int .i64 0) := (blk_cell hk2 0).trans rfl
  have hz1 : w2.cell? ⟨w.heap.size, 1, none⟩ = some (.int .i64 0) := (blk_cell hk2 1).trans rfl
  have hf0 := blk_frozen hk2 0
  have hf1 := blk_frozen hk2 1
  have HK := Lib.hid hk2
  clear hk2 hk hb0 hb hb2
  go_wp2_with fail
  refine bodyPost_ret (results_ct rfl _ _ w.heap.size 23 #[.int .i64 (redN (recentL (B.D (min x y, max x y)) d) 32), .int .i64 (redD (recentL (B.D (min x y, max x y)) d) 32)] (0, 0) _ rfl (blk_put (blk_put HK.out 0 _ rfl) 1 _ rfl) Try.underlying23 rfl (by kernel_rfl)) rfl ⟨rfl, below_set (below_set HB.out (Nat.le_refl _)) (Nat.le_refl _)⟩

theorem Rate_no (b : Nat) (B : Book) (S : Nat → Prop) (x y d : Int) (w : World) (h : BookAt w b B S) (hn : ¬ (Two B.n x y ∧ IsDay d)) :
    Calls Try.prog 16 #[.pointer (some ⟨b, 0, none⟩), .int .i64 x, .int .i64 y, .int .i64 d] w fun e w' =>
      e = .returned (.tuple #[.agg #[.int .i64 0, .int .i64 0], .int .i64 1]) ∧ Below w.heap.size w w' := by
  go_enter Try.func16, Try.ntmps16
  go_wp2_with fail
  refine (recent_no b B S x y d _ (h.below (Below.alloc (Below.refl _ _) (Nat.le_refl _) _)) hn).mono ?_
  rintro e w1 ⟨rfl, hb⟩
  obtain ⟨hb0, hk, hg⟩ := below_new hb
  have HB := Lib.hid hb0
  have hz0 : w1.cell? ⟨w.heap.size, 0, none⟩ = some (.int .i64 0) := (blk_cell hk 0).trans rfl
  have hz1 : w1.cell? ⟨w.heap.size, 1, none⟩ = some (.int .i64 0) := (blk_cell hk 1).trans rfl
  have hf0 := blk_frozen hk 0
  have hf1 := blk_frozen hk 1
  have HK := Lib.hid hk
  clear hk hb0 hb
  go_wp2_with fail
  refine bodyPost_ret (results_ct rfl _ _ w.heap.size 23 #[.int .i64 0, .int .i64 0] (0, 0) _ rfl (blk_put (blk_put HK.out 0 _ rfl) 1 _ rfl) Try.underlying23 rfl (by kernel_rfl)) rfl ⟨rfl, below_set (below_set HB.out (Nat.le_refl _)) (Nat.le_refl _)⟩

/-! ### weight -/
def wt (d m : Int) : Int := if m ≤ d ∧ (d - m) / 8 ≤ 20 then 2 ^ (20 - (d - m) / 8).toNat else 0
def weightL (l : List Int) (d : Int) : Int := (l.map (wt d)).sum
theorem pow_le20 (n : Nat) (h : n ≤ 20) : (1 : Int) ≤ 2 ^ n ∧ (2 : Int) ^ n ≤ 1048576 := by
  have h1 : (2 : Nat) ^ n ≤ 2 ^ 20 := Nat.pow_le_pow_right (by omega) h
  have h2 : 1 ≤ (2 : Nat) ^ n := Nat.one_le_two_pow
  have e : ((2 ^ n : Nat) : Int) = (2 : Int) ^ n := by simp
  omega
theorem wt_bd (d m : Int) : 0 ≤ wt d m ∧ wt d m ≤ 1048576 := by
  unfold wt
  split
  · rename_i h
    have := pow_le20 (20 - (d - m) / 8).toNat (by omega)
    omega
  · omega
theorem weightL_bd (l : List Int) (d : Int) : 0 ≤ weightL l d ∧ weightL l d ≤ 1048576 * l.length := by
  unfold weightL
  induction l with
  | nil => simp
  | cons x r ih =>
    have := wt_bd d x
    simp only [List.map_cons, List.sum_cons, List.length_cons]
    omega
theorem weightL_snoc (l : List Int) (d : Int) (k : Nat) (hk : k < l.length) : weightL (l.take (k + 1)) d = weightL (l.take k) d + wt d (l.getD k 0) := by
  unfold weightL
  have e : l.getD k 0 = l[k] := by simp [List.getD_eq_getElem?_getD, List.getElem?_eq_getElem hk]
  rw [List.take_succ_eq_append_getElem hk, e, List.map_append, List.sum_append]
  simp

theorem weight_calls (b : Nat) (B : Book) (S : Nat → Prop) (i j d : Int) (w : World) (h : BookAt w b B S) (hB : B.Ok) (hd : IsDay d) :
    Calls Try.prog 43 #[.pointer (some ⟨b, 0, none⟩), .agg #[.int .i64 i, .int .i64 j], .int .i64 d] w fun e w' => e = .returned (.int .i64 (weightL (B.D (i, j)) d)) ∧ Below w.heap.size w w' := by
  have hlen := hB.len (i, j)
  have hlow := hB.low (i, j)
  have hhigh := hB.high (i, j)
  have hnw := hB.nw1
  have hd0 := hd.1
  have hd1 := hd.2
  obtain ⟨mb, A, c, hc, hl, hr, hm⟩ := h.days i j
  have hbl := World.block_lt_of_cell? _ _ hc
  simp only at hbl
  go_enter Try.func43, Try.ntmps43
  go_wp2_with fail
  have hl2 := fun k => hl ((w.alloc (.cells #[.int .i64 i, .int .i64 j] 75)).drewN k) (Below.heap_alloc _ _ _ hm)
  clear hl
  go_quiet (fail)
  clear hl2
  have HB := Lib.hid (pw_below_drewN (Below.alloc (Below.refl w.heap.size w) (Nat.le_refl _) (.cells #[.int .i64 i, .int .i64 j] 75)) nq)
  have hr2 := hr.below HB.out
  generalize (w.alloc (.cells #[.int .i64 i, .int .i64 j] 75)).drewN nq = w2 at *
  generalize hlD : B.D (i, j) = l at *
  have HLD := Lib.hid hlD
  clear hlD
  go_wp2_with fail
  go_loop [7, 18] (fun n i => ∃ k : Nat, k ≤ l.length ∧ i = .int .i64 k ∧ n = .int .i64 (weightL (l.take k) d)) (fun _ i => l.length - (intOf i).toNat)
  case atStart => exact ⟨0, Nat.zero_le _, rfl, rfl⟩
  case round =>
    obtain ⟨k, hk, rfl, rfl⟩ := hrel
    by_cases hlt : k < l.length
    · obtain ⟨g, rfl, hg, hcell⟩ := hr2 (by omega)
      have hck := hcell k hlt
      have hbd := weightL_bd (l.take k) d
      have hl0 : (l.take k).length ≤ k := List.length_take_le _ _
      have hm0 := hlow (l.getD k 0) (by rw [List.getD_eq_getElem?_getD, List.getElem?_eq_getElem hlt]; exact List.getElem_mem hlt)
      have hm1 := hhigh (l.getD k 0) (by rw [List.getD_eq_getElem?_getD, List.getElem?_eq_getElem hlt]; exact List.getElem_mem hlt)
      have HS := Lib.hid (weightL_snoc l d k hlt)
      clear hcell hr2 hlow hhigh
      by_cases h1 : l.getD k 0 ≤ d
      · by_cases h2 : (d - l.getD k 0) / 8 ≤ 20
        · have HE : Hid (wt d (l.getD k 0) = 2 ^ (20 - (d - l.getD k 0) / 8).toNat) := by unfold Hid wt; rw [if_pos ⟨h1, h2⟩]
          generalize l.getD k 0 = m at *
          have hp := pow_le20 (20 - (d - m) / 8).toNat (by omega)
          go_wp2
          go_round
          case rel => exact ⟨k + 1, by omega, by go_num, by rw [HS.out, HE.out]⟩
          case measure => simp [intOf]; omega
        · have HE : Hid (wt d (l.getD k 0) = 0) := by unfold Hid wt; rw [if_neg (fun h => h2 h.2)]
          generalize l.getD k 0 = m at *
          go_wp2
          go_round
          case rel => exact ⟨k + 1, by omega, by go_num, by rw [HS.out, HE.out]; simp⟩
          case measure => simp [intOf]; omega
      · have HE : Hid (wt d (l.getD k 0) = 0) := by unfold Hid wt; rw [if_neg (fun h => h1 h.1)]
        generalize l.getD k 0 = m at *
        go_wp2
        go_round
        case rel => exact ⟨k + 1, by omega, by go_num, by rw [HS.out, HE.out]; simp⟩
        case measure => simp [intOf]; omega
    · go_wp2
      go_ret
      exact ⟨by rw [List.take_of_length_le (by omega), HLD.out]; rfl, HB.out⟩

theorem Weight_yes (b : Nat) (B : Book) (S : Nat → Prop) (x y d : Int) (w : World) (h : BookAt w b B S) (hB : B.Ok) (ht : Two B.n x y) (hd : IsDay d) :
    Calls Try.prog 26 #[.pointer (some ⟨b, 0, none⟩), .int .i64 x, .int .i64 y, .int .i64 d] w fun e w' =>
      e = .returned (.tuple #[.int .i64 (weightL (B.D (min x y, max x y)) d), .int .i64 0]) ∧ Below w.heap.size w w' := by
  go_enter Try.func26, Try.ntmps26
  go_wp2_with fail
  refine (pair_yes b B.n x y _ h.cell0 ht).mono ?_
  rintro e w1 ⟨rfl, hb⟩
  go_wp2_with fail
  refine (isDay_yes d _ hd).mono ?_
  rintro e w' ⟨rfl, rfl⟩
  go_wp2_with fail
  have hb1 := hb.alloc hb.size (.cells #[.int .i64 (min x y), .int .i64 (max x y)] 75)
  refine (weight_calls b B S (min x y) (max x y) d _ (h.below hb1) hB hd).mono ?_
  rintro e w2 ⟨rfl, hb2⟩
  go_wp2_with fail
  go_ret2
  exact ⟨rfl, hb1.trans (hb2.mono hb1.size)⟩

theorem Weight_no (b : Nat) (B : Book) (S : Nat → Prop) (x y d : Int) (w : World) (h : BookAt w b B S) (hn : ¬ (Two B.n x y ∧ IsDay d)) :
    Calls Try.prog 26 #[.pointer (some ⟨b, 0, none⟩), .int .i64 x, .int .i64 y, .int .i64 d] w fun e w' =>
      e = .returned (.tuple #[.int .i64 0, .int .i64 1]) ∧ Below w.heap.size w w' := by
  by_cases ht : Two B.n x y
  · have hd : ¬ IsDay d := fun hd => hn ⟨ht, hd⟩
    go_enter Try.func26, Try.ntmps26
    go_wp2_with fail
    refine (pair_yes b B.n x y _ h.cell0 ht).mono ?_
    rintro e w1 ⟨rfl, hb⟩
    go_wp2_with fail
    refine (isDay_no d _ hd).mono ?_
    rintro e w' ⟨rfl, rfl⟩
    go_wp2_with fail
    go_ret2
    exact ⟨rfl, hb.alloc hb.size _⟩
  · go_enter Try.func26, Try.ntmps26
    go_wp2_with fail
    refine (pair_no b B.n x y _ h.cell0 ht).mono ?_
    rintro e w1 ⟨rfl, hb⟩
    go_wp2_with fail
    go_ret2
    exact ⟨rfl, hb.alloc hb.size _⟩

/-! ### New -/
def Book.empty (n : Int) : Book := ⟨n, -1, fun _ => []⟩
theorem Book.empty_ok {n : Int} (h : 2 ≤ n) (h' : n ≤ 12) : (Book.empty n).Ok where
  n2 := h
  n12 := h'
  nw0 := by simp [Book.empty]
  nw1 := by simp [Book.empty]
  asc := by simp [Book.empty]
  low := by simp [Book.empty]
  high := by simp [Book.empty]

theorem New_no (n : Int) (w : World) (h : ¬ (2 ≤ n ∧ n ≤ 12)) :
    Calls Try.prog 34 #[.int .i64 n] w fun e w' => e = .returned (.tuple #[.pointer none, .int .i64 1]) ∧ w' = w := by
  by_cases h1 : n < 2
  · go_enter Try.func34, Try.ntmps34
    go_wp2
    go_ret2
    exact ⟨rfl, rfl⟩
  · have h2 : 12 < n := by omega
    go_enter Try.func34, Try.ntmps34
    go_wp2
    go_ret2
    exact ⟨rfl, rfl⟩

theorem New_yes (n : Int) (w : World) (h : 2 ≤ n) (h' : n ≤ 12) :
    Calls Try.prog 34 #[.int .i64 n] w fun e w' => ∃ b, e = .returned (.tuple #[.pointer (some ⟨b, 0, none⟩), .int .i64 0]) ∧ Below w.heap.size w w' ∧ BookAt w' b (Book.empty n) (fun i => w.heap.size ≤ i ∧ i < w'.heap.size) := by
  have hmm := @run_makeMap Try.prog
  go_enter Try.func34, Try.ntmps34
  go_wp2
  go_ret2
  have hs1 : (w.alloc (.map #[] 0)).heap.size = w.heap.size + 1 := by simp
  have hb : Below w.heap.size w ((w.alloc (.map #[] 0)).alloc (.cells #[.int .i64 n, .map (some w.heap.size), .int .i64 (-1)] 81)) :=
    ((Below.refl _ _).alloc (Nat.le_refl _) _).alloc (by omega) _
  refine ⟨w.heap.size + 1, rfl, hb, w.heap.size, [], ?_, ?_, ?_, ?_, ?_, ?_, ?_, ?_⟩
  · have := blk_new (w.alloc (.map #[] 0)) (.cells #[.int .i64 n, .map (some w.heap.size), .int .i64 (-1)] 81)
    rw [hs1] at this
    exact this
  · exact (IsMap.made w).of_block (Below.heap_alloc _ _ _ (by omega))
  · simp
  · simp; omega
  · intro p v hv; simp [mget] at hv
  · intro p _; rfl
  · intro p q v u hv; simp [mget] at hv
  · intro i hi; exact hi.2

end Go.Proofs.Ytkbiggmkjbmgoaa.Bk
