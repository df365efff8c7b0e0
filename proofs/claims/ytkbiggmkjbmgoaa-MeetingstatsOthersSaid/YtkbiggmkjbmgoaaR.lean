/- Expected and Within of a book; the reference's functions as contracts; play without a book. -/
import Derived.Test.YtkbiggmkjbmgoaaQ
namespace Go.Proofs.Ytkbiggmkjbmgoaa.Bk
open Go.RowKit Go.Proofs.YtkbiggmkjbmgoaaW.PrintWords Go.Proofs.YtkbiggmkjbmgoaaW.PrintLast Go.Proofs.YtkbiggmkjbmgoaaW.PrintMore Go.Proofs.Mp
open Go.Proofs.Ytkbiggmkjbmgoaa.PMeetingstatsRates
set_option linter.unusedVariables false
set_option linter.unusedSimpArgs false

theorem refDays (A : Option Addr) (c : Nat) (l : List S65) (a b : Int) (w : World) (hr : Kd.C k65 w A l.length l) (hc : l.length ≤ c) (hl : l.length ≤ 1000) :
    Calls Try.prog 21 #[.slice A l.length c, .int .i64 a, .int .i64 b] w fun e w' => ∃ v, e = .returned v ∧ Kd.R (Kd.int .i64) 3 w' w.heap.size (fun _ => True) v (daysL l a b) ∧ Below w.heap.size w w' :=
  kinkeepref32_Days.calls _ A c l a b _ w hr hc (days_ok l a b hl)
theorem refRecent (A : Option Addr) (c : Nat) (l : List Int) (d : Int) (w : World) (hr : Kd.C (Kd.int .i64) w A l.length l) (hc : l.length ≤ c) (hl : l.length ≤ 1000000) (hd : IsDay d) :
    Calls Try.prog 20 #[.slice A l.length c, .int .i64 d] w fun e w' => e = .returned (.int .i64 (recentL l d)) ∧ Below w.heap.size w w' :=
  (kinkeepref32_Recent.calls _ A c l d _ w hr hc (recent_ok l d hl hd)).mono fun e w' ⟨he, hd⟩ => ⟨he, hd.below⟩
theorem refWithin (c : Int) (e : Nat) (w : World) (h0 : 0 ≤ c) (h1 : c ≤ 32) (he : e ≤ 12) :
    Calls Try.prog 22 #[.int .i64 c, .int .i64 (e : Int)] w fun r w' => r = .returned (.agg #[.int .i64 (withinN c e), .int .i64 (withinD c e)]) ∧ Below w.heap.size w w' := by
  obtain ⟨k, hk⟩ := refWithin_ok c e h0 h1 he
  exact kinkeepref32_Within.calls k c e _ _ w hk
theorem power_calls (c : Int) (e : Nat) (w : World) (h0 : 0 ≤ c) (h1 : c ≤ 32) (he : e ≤ 12) :
    Calls Try.prog 36 #[.int .i64 c, .int .i64 (e : Int)] w fun r w' => r = .returned (.int .i64 (c ^ e)) ∧ Below w.heap.size w w' :=
  (meetingstats_power.calls _ c e _ w (power_ok c e h0 h1 he)).mono fun e w' ⟨he, hd⟩ => ⟨he, hd.below⟩

/-- Of days that rise, at most 32 are recent. -/
theorem recentL_32 (l : List Int) (d : Int) (h : l.Pairwise (· < ·)) : recentL l d ≤ 32 := by
  unfold recentL
  have h1 := asc_len (l.filter (recentB d)) (d - 31) (d + 1) (h.sublist List.filter_sublist) (fun m hm => by
    have := (List.mem_filter.1 hm).2
    simp only [recentB, decide_eq_true_eq] at this
    omega) (by omega)
  omega

theorem Expected_no (b : Nat) (B : Book) (S : Nat → Prop) (x y d : Int) (w : World) (h : BookAt w b B S) (hn : ¬ (Two B.n x y ∧ IsDay d)) :
    Calls Try.prog 17 #[.pointer (some ⟨b, 0, none⟩), .int .i64 x, .int .i64 y, .int .i64 d] w fun e w' =>
      e = .returned (.tuple #[.agg #[.int .i64 0, .int .i64 0], .int .i64 1]) ∧ Below w.heap.size w w' := by
  go_enter Try.func17, Try.ntmps17
  go_wp2_with fail
  refine (recent_no b B S x y d _ (h.below (Below.alloc (Below.refl _ _) (Nat.le_refl _) _)) hn).mono ?_
  rintro e w1 ⟨rfl, hb⟩
  obtain ⟨hb0, hk, hg⟩ := below_new hb
  have HB := Lib.hid hb0
  have hz0 : w1.cell? ⟨w.heap.size, 0, none⟩ = some (.int .i64 0) := (blk_cell hk 0).trans rfl
  have hz1 : w1.cell? ⟨w.heap.size, 1, none⟩ = some (.int .i64 0) := (blk_cell hk 1).trans rfl
  have hf0 := blk_frozen hk 0
  have hf1 := blk_frozen hk 1
  have HK := Lib.hid hk
  clear hk hb0 hb
  go_wp2_with fail
  refine bodyPost_ret (results_ct rfl _ _ w.heap.size 23 #[.int .i64 0, .int .i64 0] (0, 0) _ rfl (blk_put (blk_put HK.out 0 _ rfl) 1 _ rfl) Try.underlying23 rfl (by kernel_rfl)) rfl ⟨rfl, below_set (below_set HB.out (Nat.le_refl _)) (Nat.le_refl _)⟩

theorem Expected_zero (b : Nat) (B : Book) (S : Nat → Prop) (x y d : Int) (w : World) (h : BookAt w b B S) (hB : B.Ok) (ht : Two B.n x y) (hd : IsDay d) (h0 : recentL (B.D (min x y, max x y)) d = 0) :
    Calls Try.prog 17 #[.pointer (some ⟨b, 0, none⟩), .int .i64 x, .int .i64 y, .int .i64 d] w fun e w' =>
      e = .returned (.tuple #[.agg #[.int .i64 0, .int .i64 0], .int .i64 4]) ∧ Below w.heap.size w w' := by
  have hrec := fun W h => recent_yes b B S x y d W h hB ht hd
  rw [h0] at hrec
  go_enter Try.func17, Try.ntmps17
  go_wp2_with fail
  refine (hrec _ (h.below (Below.alloc (Below.refl _ _) (Nat.le_refl _) _))).mono ?_
  rintro e w1 ⟨rfl, hb⟩
  obtain ⟨hb0, hk, hg⟩ := below_new hb
  have HB := Lib.hid hb0
  have hz0 : w1.cell? ⟨w.heap.size, 0, none⟩ = some (.int .i64 0) := (blk_cell hk 0).trans rfl
  have hz1 : w1.cell? ⟨w.heap.size, 1, none⟩ = some (.int .i64 0) := (blk_cell hk 1).trans rfl
  have hf0 := blk_frozen hk 0
  have hf1 := blk_frozen hk 1
  have HK := Lib.hid hk
  clear hk hb0 hb hrec h0
  go_wp2_with fail
  refine bodyPost_ret (results_ct rfl _ _ w.heap.size 23 #[.int .i64 0, .int .i64 0] (0, 0) _ rfl (blk_put (blk_put HK.out 0 _ rfl) 1 _ rfl) Try.underlying23 rfl (by kernel_rfl)) rfl ⟨rfl, below_set (below_set HB.out (Nat.le_refl _)) (Nat.le_refl _)⟩

theorem Expected_yes (b : Nat) (B : Book) (S : Nat → Prop) (x y d : Int) (w : World) (h : BookAt w b B S) (hB : B.Ok) (ht : Two B.n x y) (hd : IsDay d) (h0 : 0 < recentL (B.D (min x y, max x y)) d) :
    Calls Try.prog 17 #[.pointer (some ⟨b, 0, none⟩), .int .i64 x, .int .i64 y, .int .i64 d] w fun e w' =>
      e = .returned (.tuple #[.agg #[.int .i64 (redN 32 (recentL (B.D (min x y, max x y)) d)), .int .i64 (redD 32 (recentL (B.D (min x y, max x y)) d))], .int .i64 0]) ∧ Below w.heap.size w w' := by
  have h32 := recentL_32 _ d (hB.asc (min x y, max x y))
  have hrec := fun W h => recent_yes b B S x y d W h hB ht hd
  generalize recentL (B.D (min x y, max x y)) d = c at *
  have hz : (c == 0) = false := beq_eq_false_iff_ne.2 (by omega)
  go_enter Try.func17, Try.ntmps17
  go_wp2_with fail
  refine (hrec _ (h.below (Below.alloc (Below.refl _ _) (Nat.le_refl _) _))).mono ?_
  rintro e w1 ⟨rfl, hb⟩
  obtain ⟨hb0, hk, hg⟩ := below_new hb
  clear hrec
  go_wp2_with fail
  refine (Reduced_yes 32 c _ (by unfold NotLeast; omega) (by unfold NotLeast; omega) (by omega)).mono ?_
  rintro e w2 ⟨rfl, hb2⟩
  have hk2 := blk_below hk hb2
  have HB := Lib.hid (hb0.trans (hb2.mono (by omega)))
  have hz0 : w2.cell? ⟨w.heap.size, 0, none⟩ = some (.int .i64 0) := (blk_cell hk2 0).trans rfl
  have hz1 : w2.cell? ⟨w.heap.size, 1, none⟩ = some (.int .i64 0) := (blk_cell hk2 1).trans rfl
  have hf0 := blk_frozen hk2 0
  have hf1 := blk_frozen hk2 1
  have HK := Lib.hid hk2
  clear hk2 hk hb0 hb hb2
  go_wp2_with fail
  refine bodyPost_ret (results_ct rfl _ _ w.heap.size 23 #[.int .i64 (redN 32 c), .int .i64 (redD 32 c)] (0, 0) _ rfl (blk_put (blk_put HK.out 0 _ rfl) 1 _ rfl) Try.underlying23 rfl (by kernel_rfl)) rfl ⟨rfl, below_set (below_set HB.out (Nat.le_refl _)) (Nat.le_refl _)⟩

theorem Within_no (b : Nat) (B : Book) (S : Nat → Prop) (x y d e0 : Int) (w : World) (h : BookAt w b B S) (hn : ¬ (Two B.n x y ∧ IsDay d)) :
    Calls Try.prog 18 #[.pointer (some ⟨b, 0, none⟩), .int .i64 x, .int .i64 y, .int .i64 d, .int .i64 e0] w fun e w' =>
      e = .returned (.tuple #[.agg #[.int .i64 0, .int .i64 0], .int .i64 1]) ∧ Below w.heap.size w w' := by
  go_enter Try.func18, Try.ntmps18
  go_wp2_with fail
  refine (recent_no b B S x y d _ (h.below (Below.alloc (Below.refl _ _) (Nat.le_refl _) _)) hn).mono ?_
  rintro e w1 ⟨rfl, hb⟩
  obtain ⟨hb0, hk, hg⟩ := below_new hb
  have HB := Lib.hid hb0
  have hz0 : w1.cell? ⟨w.heap.size, 0, none⟩ = some (.int .i64 0) := (blk_cell hk 0).trans rfl
  have hz1 : w1.cell? ⟨w.heap.size, 1, none⟩ = some (.int .i64 0) := (blk_cell hk 1).trans rfl
  have hf0 := blk_frozen hk 0
  have hf1 := blk_frozen hk 1
  have HK := Lib.hid hk
  clear hk hb0 hb
  go_wp2_with fail
  refine bodyPost_ret (results_ct rfl _ _ w.heap.size 23 #[.int .i64 0, .int .i64 0] (0, 0) _ rfl (blk_put (blk_put HK.out 0 _ rfl) 1 _ rfl) Try.underlying23 rfl (by kernel_rfl)) rfl ⟨rfl, below_set (below_set HB.out (Nat.le_refl _)) (Nat.le_refl _)⟩
theorem Within_out (b : Nat) (B : Book) (S : Nat → Prop) (x y d e0 : Int) (w : World) (h : BookAt w b B S) (hB : B.Ok) (ht : Two B.n x y) (hd : IsDay d) (he : e0 < 0 ∨ 12 < e0) :
    Calls Try.prog 18 #[.pointer (some ⟨b, 0, none⟩), .int .i64 x, .int .i64 y, .int .i64 d, .int .i64 e0] w fun e w' =>
      e = .returned (.tuple #[.agg #[.int .i64 0, .int .i64 0], .int .i64 1]) ∧ Below w.heap.size w w' := by
  rcases he with he | he
  · go_enter Try.func18, Try.ntmps18
    go_wp2_with fail
    refine (recent_yes b B S x y d _ (h.below (Below.alloc (Below.refl _ _) (Nat.le_refl _) _)) hB ht hd).mono ?_
    rintro e w1 ⟨rfl, hb⟩
    obtain ⟨hb0, hk, hg⟩ := below_new hb
    have HB := Lib.hid hb0
    have hz0 : w1.cell? ⟨w.heap.size, 0, none⟩ = some (.int .i64 0) := (blk_cell hk 0).trans rfl
    have hz1 : w1.cell? ⟨w.heap.size, 1, none⟩ = some (.int .i64 0) := (blk_cell hk 1).trans rfl
    have hf0 := blk_frozen hk 0
    have hf1 := blk_frozen hk 1
    have HK := Lib.hid hk
    clear hk hb0 hb
    go_wp2_with fail
    refine bodyPost_ret (results_ct rfl _ _ w.heap.size 23 #[.int .i64 0, .int .i64 0] (0, 0) _ rfl (blk_put (blk_put HK.out 0 _ rfl) 1 _ rfl) Try.underlying23 rfl (by kernel_rfl)) rfl ⟨rfl, below_set (below_set HB.out (Nat.le_refl _)) (Nat.le_refl _)⟩
  · have he0 : ¬ e0 < 0 := by omega
    go_enter Try.func18, Try.ntmps18
    go_wp2_with fail
    refine (recent_yes b B S x y d _ (h.below (Below.alloc (Below.refl _ _) (Nat.le_refl _) _)) hB ht hd).mono ?_
    rintro e w1 ⟨rfl, hb⟩
    obtain ⟨hb0, hk, hg⟩ := below_new hb
    have HB := Lib.hid hb0
    have hz0 : w1.cell? ⟨w.heap.size, 0, none⟩ = some (.int .i64 0) := (blk_cell hk 0).trans rfl
    have hz1 : w1.cell? ⟨w.heap.size, 1, none⟩ = some (.int .i64 0) := (blk_cell hk 1).trans rfl
    have hf0 := blk_frozen hk 0
    have hf1 := blk_frozen hk 1
    have HK := Lib.hid hk
    clear hk hb0 hb
    go_wp2_with fail
    refine bodyPost_ret (results_ct rfl _ _ w.heap.size 23 #[.int .i64 0, .int .i64 0] (0, 0) _ rfl (blk_put (blk_put HK.out 0 _ rfl) 1 _ rfl) Try.underlying23 rfl (by kernel_rfl)) rfl ⟨rfl, below_set (below_set HB.out (Nat.le_refl _)) (Nat.le_refl _)⟩

theorem Within_yes (b : Nat) (B : Book) (S : Nat → Prop) (x y d : Int) (e0 : Nat) (w : World) (h : BookAt w b B S) (hB : B.Ok) (ht : Two B.n x y) (hd : IsDay d) (he : e0 ≤ 12) :
    Calls Try.prog 18 #[.pointer (some ⟨b, 0, none⟩), .int .i64 x, .int .i64 y, .int .i64 d, .int .i64 (e0 : Int)] w fun e w' =>
      e = .returned (.tuple #[.agg #[.int .i64 (withinN (recentL (B.D (min x y, max x y)) d) e0), .int .i64 (withinD (recentL (B.D (min x y, max x y)) d) e0)], .int .i64 0]) ∧ Below w.heap.size w w' := by
  have h32 := recentL_32 _ d (hB.asc (min x y, max x y))
  have h00 := (recentL_bd (B.D (min x y, max x y)) d).1
  have hrec := fun W h => recent_yes b B S x y d W h hB ht hd
  generalize recentL (B.D (min x y, max x y)) d = c at *
  have hbd := pow_bd (32 - c) (by omega) (by omega) e0 he
  have hin : IntKind.i64.wrap (32 ^ e0 - (32 - c) ^ e0) = 32 ^ e0 - (32 - c) ^ e0 := by rw [i64_w]; exact wrap_in (by unfold In64; omega)
  have hnl : Hid (NotLeast (32 ^ e0 - (32 - c) ^ e0) ∧ NotLeast (32 ^ e0) ∧ (32 : Int) ^ e0 ≠ 0) := ⟨by unfold NotLeast; omega, by unfold NotLeast; omega, by omega⟩
  have hwn : Hid (withinN c e0 = redN (32 ^ e0 - (32 - c) ^ e0) (32 ^ e0) ∧ withinD c e0 = redD (32 ^ e0 - (32 - c) ^ e0) (32 ^ e0)) := ⟨rfl, rfl⟩
  clear hbd
  go_enter Try.func18, Try.ntmps18
  go_wp2_with fail
  refine (hrec _ (h.below (Below.alloc (Below.refl _ _) (Nat.le_refl _) _))).mono ?_
  rintro e w1 ⟨rfl, hb⟩
  obtain ⟨hb0, hk, hg⟩ := below_new hb
  clear hrec
  go_wp2_with fail
  refine (power_calls 32 e0 _ (by omega) (by omega) he).mono ?_
  rintro e w2 ⟨rfl, hb2⟩
  have hk2 := blk_below hk hb2
  have HB2 := Lib.hid (hb0.trans (hb2.mono (by omega)))
  go_wp2_with fail
  refine (power_calls (32 - c) e0 _ (by omega) (by omega) he).mono ?_
  rintro e w3 ⟨rfl, hb3⟩
  have hk3 := blk_below hk2 hb3
  have HB3 := Lib.hid (HB2.out.trans (hb3.mono HB2.out.size))
  go_wp2_with fail
  refine (Reduced_yes (32 ^ e0 - (32 - c) ^ e0) (32 ^ e0) _ hnl.out.1 hnl.out.2.1 hnl.out.2.2).mono ?_
  rintro e w4 ⟨rfl, hb4⟩
  have hk4 := blk_below hk3 hb4
  have HB := Lib.hid (HB3.out.trans (hb4.mono HB3.out.size))
  have hz0 : w4.cell? ⟨w.heap.size, 0, none⟩ = some (.int .i64 0) := (blk_cell hk4 0).trans rfl
  have hz1 : w4.cell? ⟨w.heap.size, 1, none⟩ = some (.int .i64 0) := (blk_cell hk4 1).trans rfl
  have hf0 := blk_frozen hk4 0
  have hf1 := blk_frozen hk4 1
  have HK := Lib.hid hk4
  clear hk4 hk3 hk2 hk hb0 hb hb2 hb3 hb4 hin
  go_wp2_with fail
  rw [← hwn.out.1, ← hwn.out.2]
  refine bodyPost_ret (results_ct rfl _ _ w.heap.size 23 #[.int .i64 (withinN c e0), .int .i64 (withinD c e0)] (0, 0) _ rfl (blk_put (blk_put HK.out 0 _ rfl) 1 _ rfl) Try.underlying23 rfl (by kernel_rfl)) rfl ⟨rfl, below_set (below_set HB.out (Nat.le_refl _)) (Nat.le_refl _)⟩

/-! ### play without a book -/
theorem play_no (n : Int) (A : Option Addr) (k c : Nat) (w : World) (h : ¬ (2 ≤ n ∧ n ≤ 12)) :
    Calls Try.prog 15 #[.int .i64 n, .slice A k c] w fun e w' => e = .returned (.tuple #[.pointer none, .slice none 0 0, .bool true]) ∧ Below w.heap.size w w' := by
  have hnew := fun w => New_no n w h
  by_cases h1 : n < 2
  · clear h
    go_enter Try.func15, Try.ntmps15
    go_wp2_with fail
    refine (hnew _).mono ?_
    rintro e w1 ⟨rfl, rfl⟩
    clear hnew
    go_wp2_with fail
    refine bodyPost_ret (results_list (rs := [.tmp 4, .tmp 5, .tmp 6]) rfl (by simp) (.tmp (.tmp (.tmp .nil)))) rfl ⟨rfl, Below.refl _ _⟩
  · have h2 : 12 < n := by omega
    clear h
    go_enter Try.func15, Try.ntmps15
    go_wp2_with fail
    refine (hnew _).mono ?_
    rintro e w1 ⟨rfl, rfl⟩
    clear hnew
    go_wp2_with fail
    refine bodyPost_ret (results_list (rs := [.tmp 4, .tmp 5, .tmp 6]) rfl (by simp) (.tmp (.tmp (.tmp .nil)))) rfl ⟨rfl, Below.refl _ _⟩
end Go.Proofs.Ytkbiggmkjbmgoaa.Bk
