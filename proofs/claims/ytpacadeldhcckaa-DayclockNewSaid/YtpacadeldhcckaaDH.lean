/- The law DayclockNew: its walk, for every day, leap and quorum, on the heap as it is. -/
import Derived.Test.YtpacadeldhcckaaDG
namespace Go.Proofs.Ytpacadeldhcckaa.Dc
open Go.RowKit Go.Proofs.YtpacadeldhcckaaW.PrintWords Go.Proofs.YtpacadeldhcckaaW.PrintLast Go.Proofs.YtpacadeldhcckaaW.PrintMore Go.Proofs.Mp
set_option linter.unusedVariables false
set_option linter.unusedSimpArgs false

set_option maxRecDepth 100000 in
theorem refNewV_yes (day leap quorum : Int) (w : World) (h : Args day leap quorum) :
    Calls Try.prog 9 #[.int .i64 day, .int .i64 leap, .int .i64 quorum] w fun e w' => e = .returned (.tuple #[.agg #[.int .i64 day, .int .i64 day, .int .i64 leap, .int .i64 quorum, .int .i64 0, .bool false, .int .i64 0, .slice none 0 0], .int .i64 0]) ∧ Below w.heap.size w w' := by
  obtain ⟨⟨h0, h1⟩, ⟨h2, h3⟩, h4, h5⟩ := h
  go_enter Try.func9, Try.ntmps9
  go_wp2_with fail
  refine bodyPost_ret (results_ct rfl _ _ w.heap.size 28 _ (0, 0) _ rfl (blk_new w _) Try.underlying28 rfl (by kernel_rfl)) rfl (by first | exact ⟨_, rfl, (Below.refl _ _).alloc (Nat.le_refl _) _⟩ | exact ⟨⟨_, rfl⟩, (Below.refl _ _).alloc (Nat.le_refl _) _⟩ | exact ⟨rfl, (Below.refl _ _).alloc (Nat.le_refl _) _⟩)
set_option maxHeartbeats 1000000 in
set_option maxRecDepth 100000 in
theorem refNewV_no (day leap quorum : Int) (w : World) (h : ¬ Args day leap quorum) :
    Calls Try.prog 9 #[.int .i64 day, .int .i64 leap, .int .i64 quorum] w fun e w' => e = .returned (.tuple #[.agg #[.int .i64 0, .int .i64 0, .int .i64 0, .int .i64 0, .int .i64 0, .bool false, .int .i64 0, .slice none 0 0], .int .i64 1]) ∧ Below w.heap.size w w' := by
  have h2 : day < 0 ∨ 999999 < day ∨ leap < 0 ∨ 1000 < leap ∨ quorum < 1 ∨ 12 < quorum := by unfold Args IsDay at h; omega
  clear h
  by_cases p1 : day < 0
  · clear h2
    go_enter Try.func9, Try.ntmps9
    go_wp2_with fail
    refine bodyPost_ret (results_ct rfl _ _ w.heap.size 28 _ (0, 0) _ rfl (blk_new w _) Try.underlying28 rfl (by kernel_rfl)) rfl (by first | exact ⟨_, rfl, (Below.refl _ _).alloc (Nat.le_refl _) _⟩ | exact ⟨⟨_, rfl⟩, (Below.refl _ _).alloc (Nat.le_refl _) _⟩ | exact ⟨rfl, (Below.refl _ _).alloc (Nat.le_refl _) _⟩)
  · by_cases p2 : 999999 < day
    · clear h2
      go_enter Try.func9, Try.ntmps9
      go_wp2_with fail
      refine bodyPost_ret (results_ct rfl _ _ w.heap.size 28 _ (0, 0) _ rfl (blk_new w _) Try.underlying28 rfl (by kernel_rfl)) rfl (by first | exact ⟨_, rfl, (Below.refl _ _).alloc (Nat.le_refl _) _⟩ | exact ⟨⟨_, rfl⟩, (Below.refl _ _).alloc (Nat.le_refl _) _⟩ | exact ⟨rfl, (Below.refl _ _).alloc (Nat.le_refl _) _⟩)
    · by_cases q1 : leap < 0
      · clear h2
        go_enter Try.func9, Try.ntmps9
        go_wp2_with fail
        refine bodyPost_ret (results_ct rfl _ _ w.heap.size 28 _ (0, 0) _ rfl (blk_new w _) Try.underlying28 rfl (by kernel_rfl)) rfl (by first | exact ⟨_, rfl, (Below.refl _ _).alloc (Nat.le_refl _) _⟩ | exact ⟨⟨_, rfl⟩, (Below.refl _ _).alloc (Nat.le_refl _) _⟩ | exact ⟨rfl, (Below.refl _ _).alloc (Nat.le_refl _) _⟩)
      · by_cases q2 : 1000 < leap
        · clear h2
          go_enter Try.func9, Try.ntmps9
          go_wp2_with fail
          refine bodyPost_ret (results_ct rfl _ _ w.heap.size 28 _ (0, 0) _ rfl (blk_new w _) Try.underlying28 rfl (by kernel_rfl)) rfl (by first | exact ⟨_, rfl, (Below.refl _ _).alloc (Nat.le_refl _) _⟩ | exact ⟨⟨_, rfl⟩, (Below.refl _ _).alloc (Nat.le_refl _) _⟩ | exact ⟨rfl, (Below.refl _ _).alloc (Nat.le_refl _) _⟩)
        · by_cases q3 : quorum < 1
          · clear h2
            go_enter Try.func9, Try.ntmps9
            go_wp2_with fail
            refine bodyPost_ret (results_ct rfl _ _ w.heap.size 28 _ (0, 0) _ rfl (blk_new w _) Try.underlying28 rfl (by kernel_rfl)) rfl (by first | exact ⟨_, rfl, (Below.refl _ _).alloc (Nat.le_refl _) _⟩ | exact ⟨⟨_, rfl⟩, (Below.refl _ _).alloc (Nat.le_refl _) _⟩ | exact ⟨rfl, (Below.refl _ _).alloc (Nat.le_refl _) _⟩)
          · have q4 : 12 < quorum := by omega
            clear h2
            go_enter Try.func9, Try.ntmps9
            go_wp2_with fail
            refine bodyPost_ret (results_ct rfl _ _ w.heap.size 28 _ (0, 0) _ rfl (blk_new w _) Try.underlying28 rfl (by kernel_rfl)) rfl (by first | exact ⟨_, rfl, (Below.refl _ _).alloc (Nat.le_refl _) _⟩ | exact ⟨⟨_, rfl⟩, (Below.refl _ _).alloc (Nat.le_refl _) _⟩ | exact ⟨rfl, (Below.refl _ _).alloc (Nat.le_refl _) _⟩)
theorem supp_new (day leap q : Int) (hq : 1 ≤ q) : IsSupp day q (Ck.new day leap q).told day := fun d => by
  have : cge (Ck.new day leap q).told d = 0 := by simp [cge, Ck.new, List.replicate, List.countP_cons]
  rw [this]
  omega
set_option maxHeartbeats 400000 in
set_option maxRecDepth 100000 in
theorem New_yes_walk (day leap q : Int) (h : Args day leap q) (w : World) : Calls Try.prog 3 #[.int .i64 day, .int .i64 leap, .int .i64 q] w fun e w' => e = .returned (.bool true) ∧ Below w.heap.size w w' := by
  have HN := Lib.hid (New_yes day leap q w h)
  have HRf := Lib.hid (fun w => refNewV_yes day leap q w h)
  have HOk := Lib.hid (Ck.new_ok h)
  have HS := Lib.hid (fun w g hc => sp_step g (Ck.new day leap q) day (supp_new day leap q h.2.2.1) (Ck.new_ok h) w hc)
  have HD := Lib.hid (fun w g hc => Day_calls g (Ck.new day leap q) w hc)
  have HO := Lib.hid (fun w g hc => Own_calls g (Ck.new day leap q) w hc)
  simp only [Ck.new] at HD HO
  clear h
  go_enter Try.func3, Try.ntmps3
  go_wp2_with fail
  refine HN.out.mono ?_
  rintro e w1 ⟨rfl, hc, hb⟩
  have H1 := Lib.hid hc
  have B1 := Lib.hid hb
  clear hc hb
  go_wp2_with fail
  refine (HRf.out _).mono ?_
  rintro e w2 ⟨rfl, hb⟩
  have H2 := Lib.hid (H1.out.below hb)
  have B2 := Lib.hid (B1.out.trans (hb.mono B1.out.size))
  clear hb
  have A3 := Lib.hid ((Below.refl w2.heap.size w2).alloc (Nat.le_refl _) (.cells #[.int .i64 day, .int .i64 day, .int .i64 leap, .int .i64 q, .int .i64 0, .bool false, .int .i64 0, .slice none 0 0] 28))
  go_wp2_with fail
  refine (awake_calls _).mono ?_
  rintro e w3 ⟨rfl, hb⟩
  have hb2 := A3.out.trans (hb.mono A3.out.size)
  have H3 := Lib.hid (H2.out.below hb2)
  have B3 := Lib.hid (B2.out.trans (hb2.mono B2.out.size))
  clear hb hb2 A3
  go_wp2_with fail
  refine (HD.out _ _ H3.out).mono ?_
  rintro e w4 ⟨rfl, rfl⟩
  go_wp2_with fail
  refine (HS.out _ _ H3.out).mono ?_
  rintro e w5 ⟨rfl, hb⟩
  have H5 := Lib.hid (H3.out.below hb)
  have B5 := Lib.hid (B3.out.trans (hb.mono B3.out.size))
  clear hb
  go_wp2_with fail
  refine (HO.out _ _ H5.out).mono ?_
  rintro e w6 ⟨rfl, rfl⟩
  go_wp2_with fail
  go_ret
  exact ⟨rfl, B5.out⟩
set_option maxHeartbeats 400000 in
set_option maxRecDepth 100000 in
theorem New_no_walk (day leap q : Int) (h : ¬ Args day leap q) (w : World) : Calls Try.prog 3 #[.int .i64 day, .int .i64 leap, .int .i64 q] w fun e w' => e = .returned (.bool true) ∧ Below w.heap.size w w' := by
  have HN := Lib.hid (New_no day leap q w h)
  have HRf := Lib.hid (fun w => refNewV_no day leap q w h)
  clear h
  go_enter Try.func3, Try.ntmps3
  go_wp2_with fail
  refine HN.out.mono ?_
  rintro e w1 ⟨rfl, hb⟩
  have B1 := Lib.hid hb
  clear hb
  go_wp2_with fail
  refine (HRf.out _).mono ?_
  rintro e w2 ⟨rfl, hb⟩
  have B2 := Lib.hid (B1.out.trans (hb.mono B1.out.size))
  clear hb
  have A3 := Lib.hid ((Below.refl w2.heap.size w2).alloc (Nat.le_refl _) (.cells #[.int .i64 0, .int .i64 0, .int .i64 0, .int .i64 0, .int .i64 0, .bool false, .int .i64 0, .slice none 0 0] 28))
  go_wp2_with fail
  refine (awake_calls _).mono ?_
  rintro e w3 ⟨rfl, hb⟩
  have hb2 := A3.out.trans (hb.mono A3.out.size)
  have B3 := Lib.hid (B2.out.trans (hb2.mono B2.out.size))
  clear hb hb2 A3
  go_wp2_with fail
  go_ret
  exact ⟨rfl, B3.out⟩
theorem New_walk (day leap q : Int) (_ : (Lit.int .i64 day).wf = true) (_ : (Lit.int .i64 leap).wf = true) (_ : (Lit.int .i64 q).wf = true) (w : World) : Calls Try.prog 3 #[.int .i64 day, .int .i64 leap, .int .i64 q] w fun e w' => e = .returned (.bool true) ∧ Below w.heap.size w w' := by
  by_cases h : Args day leap q
  · exact New_yes_walk day leap q h w
  · exact New_no_walk day leap q h w
end Go.Proofs.Ytpacadeldhcckaa.Dc
