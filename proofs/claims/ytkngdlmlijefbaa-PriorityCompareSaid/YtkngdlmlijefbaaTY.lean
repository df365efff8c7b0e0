/- The law PriorityCompare: its walk over what awake answers. -/
import Derived.Test.YtkngdlmlijefbaaTX
import Derived.Test.YtkngdlmlijefbaaTS
namespace Go.Proofs.Ytkngdlmlijefbaa.Pq
open Go.RowKit Go.Proofs.YtkngdlmlijefbaaW.PrintWords Go.Proofs.YtkngdlmlijefbaaW.PrintLast Go.Proofs.YtkngdlmlijefbaaW.PrintMore Go.Proofs.Mp
open Go.Proofs.Ytkngdlmlijefbaa.PPriorityOrder
set_option linter.unusedVariables false
set_option linter.unusedSimpArgs false

def Yes (w : World) (e : Ending) (w' : World) : Prop := e = .returned (.bool true) ∧ Below w.heap.size w w'
def Awake : Prop := ∀ w : World, Calls Try.prog 11 #[] w (Yes w)
theorem lawvalid_yes (t : S32) (h : vB t = true) (w : World) : Calls Try.prog 24 #[.agg #[.string t.f0.f0, .int .i64 t.f0.f1, .int .i64 t.f1, .int .i64 t.f2, .int .i64 t.f3.f0, .int .i64 t.f3.f1, .int .i64 t.f4]] w fun e w' => e = .returned (.bool true) ∧ Below w.heap.size w w' :=
  h ▸ kinkeeplaw41_valid.calls 1073741840 _ _ _ _ _ _ _ _ w (lawvalid_f t _ (Nat.le_refl _))
theorem lawvalid_no (t : S32) (h : vB t = false) (w : World) : Calls Try.prog 24 #[.agg #[.string t.f0.f0, .int .i64 t.f0.f1, .int .i64 t.f1, .int .i64 t.f2, .int .i64 t.f3.f0, .int .i64 t.f3.f1, .int .i64 t.f4]] w fun e w' => e = .returned (.bool false) ∧ Below w.heap.size w w' :=
  h ▸ kinkeeplaw41_valid.calls 1073741840 _ _ _ _ _ _ _ _ w (lawvalid_f t _ (Nat.le_refl _))
theorem plain_c (t : S32) (w : World) : Calls Try.prog 15 #[.agg (tcells t)] w fun e w' => e = .returned (.agg (tcells t)) ∧ Below w.heap.size w w' :=
  kinkeeplaw41_plain.calls _ _ _ _ _ _ _ _ _ _ _ _ _ _ w rfl
theorem refcmp_c' (a b : S32) (w : World) : Calls Try.prog 25 #[.agg (tcells a), .agg (tcells b)] w fun e w' => e = .returned (.int .i64 (cmpT a b)) ∧ Below w.heap.size w w' := refcmp_c a b w
theorem thn {w w1 w2 : World} {g : Nat} (hg : w.heap.size = g) (h : Below g w w1) (k : Below w1.heap.size w1 w2) : Below g w w2 := by
  subst hg
  exact h.trans (k.mono h.size)
set_option maxHeartbeats 1000000 in
set_option maxRecDepth 100000 in
theorem compare_walk (aw : Awake) (a b : S32) (w : World) : Calls Try.prog 5 #[.agg (tcells a), .agg (tcells b)] w (Yes w) := by
  have AW := Lib.hid aw
  clear aw
  have hb1 := (Below.refl w.heap.size w).alloc (Nat.le_refl _) (.cells (tcells a) 32)
  have hb2 : Below (w.alloc (.cells (tcells a) 32)).heap.size (w.alloc (.cells (tcells a) 32)) ((w.alloc (.cells (tcells a) 32)).alloc (.cells (tcells b) 32)) := (Below.refl _ _).alloc (Nat.le_refl _) _
  have HA := Lib.hid (blk_below (blk_new w (.cells (tcells a) 32)) hb2)
  have HB := Lib.hid (blk_new (w.alloc (.cells (tcells a) 32)) (.cells (tcells b) 32))
  rw [show (w.alloc (.cells (tcells a) 32)).heap.size = w.heap.size + 1 from Array.size_push ..] at HB
  have B0 := Lib.hid (hb1.trans (hb2.mono hb1.size))
  clear hb1 hb2
  obtain ⟨W0, hW0⟩ : ∃ W0, W0 = (w.alloc (.cells (tcells a) 32)).alloc (.cells (tcells b) 32) := ⟨_, rfl⟩
  rw [← hW0] at HA HB B0
  have HW0 := Lib.hid hW0
  clear hW0
  go_enter Try.func5, Try.ntmps5
  go_wp2_with fail
  rw [← HW0.out]
  clear HW0
  generalize w.heap.size + 1 = g2 at *
  generalize hg1 : w.heap.size = g1 at *
  have Hg1 := Lib.hid hg1
  clear hg1
  refine (AW.out _).mono ?_
  rintro e w1 ⟨rfl, hb⟩
  have HA := Lib.hid (blk_below HA.out hb)
  have HB := Lib.hid (blk_below HB.out hb)
  have B1 := Lib.hid (thn Hg1.out B0.out hb)
  clear hb B0
  obtain ⟨ha0, ha1, ha2, ha3, ha4, ha5, ha6⟩ := C7.of HA.out
  cases qa : vB a with
  | false =>
    have Qa := Lib.hid qa
    clear qa
    go_wp2_with fail
    refine (lawvalid_no a Qa.out _).mono ?_
    rintro e w2 ⟨rfl, hb⟩
    have B2 := Lib.hid (thn Hg1.out B1.out hb)
    clear hb ha0 ha1 ha2 ha3 ha4 ha5 ha6
    go_wp2_with fail
    refine (AW.out _).mono ?_
    rintro e w3 ⟨rfl, hb⟩
    have B3 := Lib.hid (thn Hg1.out B2.out hb)
    clear hb
    go_wp2_with fail
    go_ret
    exact ⟨rfl, Hg1.out ▸ B3.out⟩
  | true =>
    have Qa := Lib.hid qa
    clear qa
    go_wp2_with fail
    refine (lawvalid_yes a Qa.out _).mono ?_
    rintro e w2 ⟨rfl, hb⟩
    have B2 := Lib.hid (thn Hg1.out B1.out hb)
    have HA2 := Lib.hid (blk_below HA.out hb)
    have HB2 := Lib.hid (blk_below HB.out hb)
    clear hb ha0 ha1 ha2 ha3 ha4 ha5 ha6 HA HB B1
    obtain ⟨ha0, ha1, ha2, ha3, ha4, ha5, ha6⟩ := C7.of HB2.out
    cases qb : vB b with
    | false =>
      have Qb := Lib.hid qb
      clear qb
      go_wp2_with fail
      refine (lawvalid_no b Qb.out _).mono ?_
      rintro e w3 ⟨rfl, hb⟩
      have B3 := Lib.hid (thn Hg1.out B2.out hb)
      clear hb ha0 ha1 ha2 ha3 ha4 ha5 ha6
      go_wp2_with fail
      refine (AW.out _).mono ?_
      rintro e w4 ⟨rfl, hb⟩
      have B4 := Lib.hid (thn Hg1.out B3.out hb)
      clear hb
      go_wp2_with fail
      go_ret
      exact ⟨rfl, Hg1.out ▸ B4.out⟩
    | true =>
      have Qb := Lib.hid qb
      clear qb
      go_wp2_with fail
      refine (lawvalid_yes b Qb.out _).mono ?_
      rintro e w3 ⟨rfl, hb⟩
      have B3 := Lib.hid (thn Hg1.out B2.out hb)
      have HA3 := Lib.hid (blk_below HA2.out hb)
      have HB3 := Lib.hid (blk_below HB2.out hb)
      clear hb ha0 ha1 ha2 ha3 ha4 ha5 ha6 HA2 HB2 B2
      go_wp2_with fail
      have HC : Hid (∀ W, Below w3.heap.size w3 W → C7 W g1 a ∧ C7 W g2 b) := Lib.hid (fun W hW => ⟨C7.of (blk_below HA3.out hW), C7.of (blk_below HB3.out hW)⟩)
      have HD0 := Lib.hid (below_drew (Below.refl w3.heap.size w3))
      clear HA3 HB3
      refine start_ (n := 10) (S := fun W => C7 W g1 a ∧ C7 W g2 b) (ds := []) #[false, false, false, false, false, false, false, false, false, false] (by kernel_rfl) rfl rfl (HC.out _ HD0.out) (fun hHeld => ?_)
      generalize w3.drew = w4 at *
      refine take_ (i := 0) (N := some 18) (v := ?_) (a' := ?_) #[true, false, false, false, false, false, false, false, false, false] rfl rfl (by kernel_rfl) (fun _ _ _ h => h) (Or.inl ⟨by rfl, ?_⟩) hHeld ?_ ?_
      rotate_left
      · rintro w' ⟨⟨s0, s1, s2, s3, s4, s5, s6⟩, ⟨t0, t1, t2, t3, t4, t5, t6⟩⟩
        go_simp
        with_reducible rfl
      rotate_left
      · simp only [Act.put, List.setIfInBounds_toArray, List.set_cons_zero, List.set_cons_succ, i64_w, i32_w]
        rfl
      refine take_ (i := 1) (N := some 19) (v := ?_) (a' := ?_) #[true, true, false, false, false, false, false, false, false, false] rfl rfl (by kernel_rfl) (fun _ _ _ h => h) (Or.inl ⟨by rfl, ?_⟩) hHeld ?_ ?_
      rotate_left
      · rintro w' ⟨⟨s0, s1, s2, s3, s4, s5, s6⟩, ⟨t0, t1, t2, t3, t4, t5, t6⟩⟩
        go_simp
        with_reducible rfl
      rotate_left
      · simp only [Act.put, List.setIfInBounds_toArray, List.set_cons_zero, List.set_cons_succ, i64_w, i32_w]
        rfl
      refine take_ (i := 3) (N := some 21) (v := ?_) (a' := ?_) #[true, true, false, true, false, false, false, false, false, false] rfl rfl (by kernel_rfl) (fun _ _ _ h => h) (Or.inl ⟨by rfl, ?_⟩) hHeld ?_ ?_
      rotate_left
      · rintro w' ⟨⟨s0, s1, s2, s3, s4, s5, s6⟩, ⟨t0, t1, t2, t3, t4, t5, t6⟩⟩
        go_simp
        with_reducible rfl
      rotate_left
      · simp only [Act.put, List.setIfInBounds_toArray, List.set_cons_zero, List.set_cons_succ, i64_w, i32_w]
        rfl
      refine take_ (i := 5) (N := some 23) (v := ?_) (a' := ?_) #[true, true, false, true, false, true, false, false, false, false] rfl rfl (by kernel_rfl) (fun _ _ _ h => h) (Or.inl ⟨by rfl, ?_⟩) hHeld ?_ ?_
      rotate_left
      · rintro w' ⟨⟨s0, s1, s2, s3, s4, s5, s6⟩, ⟨t0, t1, t2, t3, t4, t5, t6⟩⟩
        go_simp
        with_reducible rfl
      rotate_left
      · simp only [Act.put, List.setIfInBounds_toArray, List.set_cons_zero, List.set_cons_succ, i64_w, i32_w]
        rfl
      refine one_ (i := 2) (N := some 20) #[true, true, true, true, false, true, false, false, false, false] rfl rfl (by kernel_rfl) (by decide) (fun K hK => ?_)
      refine goes_ Try.func23 (by kernel_rfl) rfl #[.agg (tcells a), .agg (tcells b)] (by rfl) rfl rfl (by (try simp only [List.map_toArray, List.map_cons, List.map_nil]); first | done | rfl) ?_
      refine (Compare_calls a b _).mono ?_
      rintro e w5 ⟨rfl, hb⟩
      have HD1 := Lib.hid (HD0.out.trans (hb.mono HD0.out.size))
      refine ⟨_, rfl, hK.out _ _ (HC.out _ HD1.out) (fun hHeld => ?_)⟩
      clear hK K hb HD0
      refine norm_ (a' := ?_) ?_ ?_
      rotate_left
      · simp only [Act.put, List.setIfInBounds_toArray, List.set_cons_zero, List.set_cons_succ, i64_w, i32_w]
        rfl
      refine one_ (i := 4) (N := some 22) #[true, true, true, true, true, true, false, false, false, false] rfl rfl (by kernel_rfl) (by decide) (fun K hK => ?_)
      refine goes_ Try.func15 (by kernel_rfl) rfl #[.agg (tcells a)] (by rfl) rfl rfl (by (try simp only [List.map_toArray, List.map_cons, List.map_nil]); first | done | rfl) ?_
      refine (plain_c a _).mono ?_
      rintro e w6 ⟨rfl, hb⟩
      have HD2 := Lib.hid (HD1.out.trans (hb.mono HD1.out.size))
      refine ⟨_, rfl, hK.out _ _ (HC.out _ HD2.out) (fun hHeld => ?_)⟩
      clear hK K hb HD1
      refine norm_ (a' := ?_) ?_ ?_
      rotate_left
      · simp only [Act.put, List.setIfInBounds_toArray, List.set_cons_zero, List.set_cons_succ, i64_w, i32_w]
        rfl
      refine one_ (i := 6) (N := some 24) #[true, true, true, true, true, true, true, false, false, false] rfl rfl (by kernel_rfl) (by decide) (fun K hK => ?_)
      refine goes_ Try.func15 (by kernel_rfl) rfl #[.agg (tcells b)] (by rfl) rfl rfl (by (try simp only [List.map_toArray, List.map_cons, List.map_nil]); first | done | rfl) ?_
      refine (plain_c b _).mono ?_
      rintro e w7 ⟨rfl, hb⟩
      have HD3 := Lib.hid (HD2.out.trans (hb.mono HD2.out.size))
      refine ⟨_, rfl, hK.out _ _ (HC.out _ HD3.out) (fun hHeld => ?_)⟩
      clear hK K hb HD2
      refine norm_ (a' := ?_) ?_ ?_
      rotate_left
      · simp only [Act.put, List.setIfInBounds_toArray, List.set_cons_zero, List.set_cons_succ, i64_w, i32_w]
        rfl
      refine one_ (i := 7) (N := some 25) #[true, true, true, true, true, true, true, true, false, false] rfl rfl (by kernel_rfl) (by decide) (fun K hK => ?_)
      refine goes_ Try.func25 (by kernel_rfl) rfl #[.agg (tcells a), .agg (tcells b)] (by rfl) rfl rfl (by (try simp only [List.map_toArray, List.map_cons, List.map_nil]); first | done | rfl) ?_
      refine (refcmp_c' a b _).mono ?_
      rintro e w8 ⟨rfl, hb⟩
      have HD4 := Lib.hid (HD3.out.trans (hb.mono HD3.out.size))
      refine ⟨_, rfl, hK.out _ _ (HC.out _ HD4.out) (fun hHeld => ?_)⟩
      clear hK K hb HD3
      generalize cmpT a b = cab at *
      refine norm_ (a' := ?_) ?_ ?_
      rotate_left
      · simp only [Act.put, List.setIfInBounds_toArray, List.set_cons_zero, List.set_cons_succ, i64_w, i32_w]
        rfl
      have hbeq : (cab == cab) = true := beq_self_eq_true cab
      refine pure_ (i := 8) (N := some 26) (v := ?_) (a' := ?_) #[true, true, true, true, true, true, true, true, true, false] rfl rfl (by kernel_rfl) (fun _ _ _ h => h) (Or.inl ⟨by rfl, ?_⟩) ?_ ?_
      rotate_left
      · intro w'
        go_simp
        with_reducible rfl
      rotate_left
      · simp only [Act.put, List.setIfInBounds_toArray, List.set_cons_zero, List.set_cons_succ, i64_w, i32_w]
        rfl
      refine pure_ (i := 9) (N := some 4) (v := ?_) (a' := ?_) #[true, true, true, true, true, true, true, true, true, true] rfl rfl (by kernel_rfl) (fun _ _ _ h => h) (Or.inl ⟨by rfl, ?_⟩) ?_ ?_
      rotate_left
      · intro w'
        go_simp
        with_reducible rfl
      rotate_left
      · simp only [Act.put, List.setIfInBounds_toArray, List.set_cons_zero, List.set_cons_succ, i64_w, i32_w]
        rfl
      refine done_ (by kernel_rfl) ?_
      clear hHeld
      go_wp2_with fail
      go_ret
      exact ⟨rfl, Hg1.out ▸ thn Hg1.out B3.out HD4.out⟩
end Go.Proofs.Ytkngdlmlijefbaa.Pq
