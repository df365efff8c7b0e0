/- The law PriorityTotal: its walk over what awake answers. -/
import Derived.Test.YtkngdlmlijefbaaTY
import Derived.Test.YtkngdlmlijefbaaTK
namespace Go.Proofs.Ytkngdlmlijefbaa.Pq
open Go.RowKit Go.Proofs.YtkngdlmlijefbaaW.PrintWords Go.Proofs.YtkngdlmlijefbaaW.PrintLast Go.Proofs.YtkngdlmlijefbaaW.PrintMore Go.Proofs.Mp
open Go.Proofs.Ytkngdlmlijefbaa.PPriorityOrder
set_option linter.unusedVariables false
set_option linter.unusedSimpArgs false
attribute [local go_sem high] eqV

theorem cmpI_bd (x y : Int) : -1 ≤ cmpI x y ∧ cmpI x y ≤ 1 := by
  unfold cmpI
  split
  · omega
  · split <;> omega
theorem cmpS_bd (x y : ByteArray) : -1 ≤ cmpS x y ∧ cmpS x y ≤ 1 := by
  unfold cmpS
  split
  · omega
  · split <;> omega
theorem ors_bd : ∀ (l : List Int), (∀ x ∈ l, -1 ≤ x ∧ x ≤ 1) → -1 ≤ ors l ∧ ors l ≤ 1
  | [], _ => by simp [ors]
  | x :: l, h => by
    simp only [ors]
    split
    · exact ors_bd l (fun y hy => h y (List.mem_cons_of_mem _ hy))
    · exact h x (by simp)
theorem cmpT_bd (a b : S32) : -1 ≤ cmpT a b ∧ cmpT a b ≤ 1 := by
  unfold cmpT
  refine ors_bd _ (fun x hx => ?_)
  simp only [List.mem_cons, List.not_mem_nil, or_false] at hx
  rcases hx with rfl | rfl | rfl | rfl | rfl | rfl
  · exact cmpI_bd _ _
  · exact cmpI_bd _ _
  · exact cmpI_bd _ _
  · exact cmpI_bd _ _
  · exact cmpS_bd _ _
  · exact cmpI_bd _ _
/-- What the law says of three results. -/
structure Tot (x y z : Int) (e : Bool) : Prop where
  x0 : x = -1 ∨ x = 0 ∨ x = 1
  eq : e = decide (x = 0)
  tr : x > 0 ∨ y > 0 ∨ z < 0 ∨ (z = 0 ∧ x = 0 ∧ y = 0)
theorem tot {a b c : S32} (ha : Vt a) (hb : Vt b) (hc : Vt c) : Tot (cmpT a b) (cmpT b c) (cmpT a c) (eqS a b) := by
  have h1 := cmpT_bd a b
  refine ⟨by omega, ?_, ?_⟩
  · by_cases h : cmpT a b = 0
    · rw [decide_eq_true h]
      exact (eqS_iff a b).2 (cmpT_zero ha hb h)
    · rw [decide_eq_false h, Bool.eq_false_iff]
      intro e
      have := (eqS_iff a b).1 e
      subst this
      exact h (cmpT_self ha.vc)
  · by_cases hx : cmpT a b ≤ 0
    · by_cases hy : cmpT b c ≤ 0
      · have hz := cmpT_trans ha.vc hb.vc hc.vc hx hy
        by_cases h0 : cmpT a b < 0
        · have := cmpT_ltr ha.vc hb.vc hc.vc h0 hy
          omega
        · by_cases h2 : cmpT b c < 0
          · have := cmpT_rtl ha.vc hb.vc hc.vc hx h2
            omega
          · by_cases h3 : cmpT a c < 0
            · omega
            · omega
      · omega
    · omega
set_option maxHeartbeats 4000000 in
set_option maxRecDepth 100000 in
theorem total_walk (aw : Awake) (a b c : S32) (w : World) : Calls Try.prog 6 #[.agg (tcells a), .agg (tcells b), .agg (tcells c)] w (Yes w) := by
  have AW := Lib.hid aw
  clear aw
  have hb1 := (Below.refl w.heap.size w).alloc (Nat.le_refl _) (.cells (tcells a) 32)
  have hb2 : Below (w.alloc (.cells (tcells a) 32)).heap.size (w.alloc (.cells (tcells a) 32)) ((w.alloc (.cells (tcells a) 32)).alloc (.cells (tcells b) 32)) := (Below.refl _ _).alloc (Nat.le_refl _) _
  have hb3 : Below ((w.alloc (.cells (tcells a) 32)).alloc (.cells (tcells b) 32)).heap.size ((w.alloc (.cells (tcells a) 32)).alloc (.cells (tcells b) 32)) (((w.alloc (.cells (tcells a) 32)).alloc (.cells (tcells b) 32)).alloc (.cells (tcells c) 32)) := (Below.refl _ _).alloc (Nat.le_refl _) _
  have HA := Lib.hid (blk_below (blk_below (blk_new w (.cells (tcells a) 32)) hb2) hb3)
  have HB := Lib.hid (blk_below (blk_new (w.alloc (.cells (tcells a) 32)) (.cells (tcells b) 32)) hb3)
  have HC := Lib.hid (blk_new ((w.alloc (.cells (tcells a) 32)).alloc (.cells (tcells b) 32)) (.cells (tcells c) 32))
  have e1 : (w.alloc (.cells (tcells a) 32)).heap.size = w.heap.size + 1 := Array.size_push ..
  have e2 : ((w.alloc (.cells (tcells a) 32)).alloc (.cells (tcells b) 32)).heap.size = w.heap.size + 1 + 1 := (Array.size_push ..).trans (by rw [show (w.alloc (.cells (tcells a) 32)).heap.size = w.heap.size + 1 from Array.size_push ..])
  rw [e1] at HB
  rw [e2] at HC
  clear e1 e2
  have B0 := Lib.hid ((hb1.trans (hb2.mono hb1.size)).trans (hb3.mono (hb1.trans (hb2.mono hb1.size)).size))
  clear hb1 hb2 hb3
  obtain ⟨W0, hW0⟩ : ∃ W0, W0 = ((w.alloc (.cells (tcells a) 32)).alloc (.cells (tcells b) 32)).alloc (.cells (tcells c) 32) := ⟨_, rfl⟩
  rw [← hW0] at HA HB HC B0
  have HW0 := Lib.hid hW0
  clear hW0
  go_enter Try.func6, Try.ntmps6
  go_wp2_with fail
  rw [← HW0.out]
  clear HW0
  generalize w.heap.size + 1 + 1 = g3 at *
  generalize w.heap.size + 1 = g2 at *
  generalize hg1 : w.heap.size = g1 at *
  have Hg1 := Lib.hid hg1
  clear hg1
  refine (AW.out _).mono ?_
  rintro e w1 ⟨rfl, hb⟩
  have HS : Hid (∀ W, Below w1.heap.size w1 W → C7 W g1 a ∧ C7 W g2 b ∧ C7 W g3 c) := Lib.hid (fun W hW => ⟨C7.of (blk_below (blk_below HA.out hb) hW), C7.of (blk_below (blk_below HB.out hb) hW), C7.of (blk_below (blk_below HC.out hb) hW)⟩)
  have B1 := Lib.hid (thn Hg1.out B0.out hb)
  clear hb B0 HA HB HC
  obtain ⟨ha0, ha1, ha2, ha3, ha4, ha5, ha6⟩ := (HS.out _ (Below.refl _ _)).1
  cases qa : vB a with
  | false =>
    have Qa := Lib.hid qa
    clear qa
    go_wp2_with fail
    refine (lawvalid_no a Qa.out _).mono ?_
    rintro e w2 ⟨rfl, hb⟩
    have B2 := Lib.hid (thn Hg1.out B1.out hb)
    clear hb ha0 ha1 ha2 ha3 ha4 ha5 ha6
    go_wp2_with fail
    refine (AW.out _).mono ?_
    rintro e wz ⟨rfl, hb⟩
    have BZ := Lib.hid (thn Hg1.out B2.out hb)
    clear hb
    go_wp2_with fail
    go_ret
    exact ⟨rfl, Hg1.out ▸ BZ.out⟩
  | true =>
    have Qa := Lib.hid qa
    clear qa
    go_wp2_with fail
    refine (lawvalid_yes a Qa.out _).mono ?_
    rintro e w2 ⟨rfl, hb⟩
    have B2 := Lib.hid (thn Hg1.out B1.out hb)
    have D2 := Lib.hid hb
    clear hb ha0 ha1 ha2 ha3 ha4 ha5 ha6 B1
    obtain ⟨ha0, ha1, ha2, ha3, ha4, ha5, ha6⟩ := (HS.out _ D2.out).2.1
    cases qb : vB b with
    | false =>
      have Qb := Lib.hid qb
      clear qb
      go_wp2_with fail
      refine (lawvalid_no b Qb.out _).mono ?_
      rintro e w3 ⟨rfl, hb⟩
      have B3 := Lib.hid (thn Hg1.out B2.out hb)
      clear hb ha0 ha1 ha2 ha3 ha4 ha5 ha6
      go_wp2_with fail
      refine (AW.out _).mono ?_
      rintro e wz ⟨rfl, hb⟩
      have BZ := Lib.hid (thn Hg1.out B3.out hb)
      clear hb
      go_wp2_with fail
      go_ret
      exact ⟨rfl, Hg1.out ▸ BZ.out⟩
    | true =>
      have Qb := Lib.hid qb
      clear qb
      go_wp2_with fail
      refine (lawvalid_yes b Qb.out _).mono ?_
      rintro e w3 ⟨rfl, hb⟩
      have B3 := Lib.hid (thn Hg1.out B2.out hb)
      have D3 := Lib.hid (D2.out.trans (hb.mono D2.out.size))
      clear hb ha0 ha1 ha2 ha3 ha4 ha5 ha6 B2 D2
      obtain ⟨ha0, ha1, ha2, ha3, ha4, ha5, ha6⟩ := (HS.out _ D3.out).2.2
      cases qc : vB c with
      | false =>
        have Qc := Lib.hid qc
        clear qc
        go_wp2_with fail
        refine (lawvalid_no c Qc.out _).mono ?_
        rintro e w4 ⟨rfl, hb⟩
        have B4 := Lib.hid (thn Hg1.out B3.out hb)
        clear hb ha0 ha1 ha2 ha3 ha4 ha5 ha6
        go_wp2_with fail
        refine (AW.out _).mono ?_
        rintro e wz ⟨rfl, hb⟩
        have BZ := Lib.hid (thn Hg1.out B4.out hb)
        clear hb
        go_wp2_with fail
        go_ret
        exact ⟨rfl, Hg1.out ▸ BZ.out⟩
      | true =>
        have Qc := Lib.hid qc
        clear qc
        go_wp2_with fail
        refine (lawvalid_yes c Qc.out _).mono ?_
        rintro e w4 ⟨rfl, hb⟩
        have B4 := Lib.hid (thn Hg1.out B3.out hb)
        have D4 := Lib.hid (D3.out.trans (hb.mono D3.out.size))
        have HTot := Lib.hid (tot ((vB_iff a).1 Qa.out) ((vB_iff b).1 Qb.out) ((vB_iff c).1 Qc.out))
        have Hanti := Lib.hid (cmpT_anti ((vB_iff a).1 Qa.out).vc ((vB_iff b).1 Qb.out).vc)
        clear hb ha0 ha1 ha2 ha3 ha4 ha5 ha6 B3 D3 Qa Qb Qc
        go_wp2_with fail
        have HD0 := Lib.hid (below_drew D4.out)
        have HB0 := Lib.hid (thn Hg1.out B4.out (below_drew (Below.refl w4.heap.size w4)))
        clear D4 B4
        refine start_ (n := 12) (S := fun W => C7 W g1 a ∧ C7 W g2 b ∧ C7 W g3 c) (ds := []) #[false, false, false, false, false, false, false, false, false, false, false, false] (by kernel_rfl) rfl rfl (HS.out _ HD0.out) (fun hHeld => ?_)
        generalize w4.drew = w5 at *
        refine take_ (i := 0) (N := some 28) (v := ?_) (a' := ?_) #[true, false, false, false, false, false, false, false, false, false, false, false] rfl rfl (by kernel_rfl) (fun _ _ _ h => h) (Or.inl ⟨by rfl, ?_⟩) hHeld ?_ ?_
        rotate_left
        · rintro w' ⟨⟨s0, s1, s2, s3, s4, s5, s6⟩, ⟨t0, t1, t2, t3, t4, t5, t6⟩, ⟨u0, u1, u2, u3, u4, u5, u6⟩⟩
          go_simp
          with_reducible rfl
        rotate_left
        · simp only [Act.put, List.setIfInBounds_toArray, List.set_cons_zero, List.set_cons_succ, i64_w, i32_w]
          rfl
        refine take_ (i := 1) (N := some 29) (v := ?_) (a' := ?_) #[true, true, false, false, false, false, false, false, false, false, false, false] rfl rfl (by kernel_rfl) (fun _ _ _ h => h) (Or.inl ⟨by rfl, ?_⟩) hHeld ?_ ?_
        rotate_left
        · rintro w' ⟨⟨s0, s1, s2, s3, s4, s5, s6⟩, ⟨t0, t1, t2, t3, t4, t5, t6⟩, ⟨u0, u1, u2, u3, u4, u5, u6⟩⟩
          go_simp
          with_reducible rfl
        rotate_left
        · simp only [Act.put, List.setIfInBounds_toArray, List.set_cons_zero, List.set_cons_succ, i64_w, i32_w]
          rfl
        refine take_ (i := 3) (N := some 31) (v := ?_) (a' := ?_) #[true, true, false, true, false, false, false, false, false, false, false, false] rfl rfl (by kernel_rfl) (fun _ _ _ h => h) (Or.inl ⟨by rfl, ?_⟩) hHeld ?_ ?_
        rotate_left
        · rintro w' ⟨⟨s0, s1, s2, s3, s4, s5, s6⟩, ⟨t0, t1, t2, t3, t4, t5, t6⟩, ⟨u0, u1, u2, u3, u4, u5, u6⟩⟩
          go_simp
          with_reducible rfl
        rotate_left
        · simp only [Act.put, List.setIfInBounds_toArray, List.set_cons_zero, List.set_cons_succ, i64_w, i32_w]
          rfl
        refine take_ (i := 4) (N := some 32) (v := ?_) (a' := ?_) #[true, true, false, true, true, false, false, false, false, false, false, false] rfl rfl (by kernel_rfl) (fun _ _ _ h => h) (Or.inl ⟨by rfl, ?_⟩) hHeld ?_ ?_
        rotate_left
        · rintro w' ⟨⟨s0, s1, s2, s3, s4, s5, s6⟩, ⟨t0, t1, t2, t3, t4, t5, t6⟩, ⟨u0, u1, u2, u3, u4, u5, u6⟩⟩
          go_simp
          with_reducible rfl
        rotate_left
        · simp only [Act.put, List.setIfInBounds_toArray, List.set_cons_zero, List.set_cons_succ, i64_w, i32_w]
          rfl
        refine take_ (i := 6) (N := some 34) (v := ?_) (a' := ?_) #[true, true, false, true, true, false, true, false, false, false, false, false] rfl rfl (by kernel_rfl) (fun _ _ _ h => h) (Or.inl ⟨by rfl, ?_⟩) hHeld ?_ ?_
        rotate_left
        · rintro w' ⟨⟨s0, s1, s2, s3, s4, s5, s6⟩, ⟨t0, t1, t2, t3, t4, t5, t6⟩, ⟨u0, u1, u2, u3, u4, u5, u6⟩⟩
          go_simp
          with_reducible rfl
        rotate_left
        · simp only [Act.put, List.setIfInBounds_toArray, List.set_cons_zero, List.set_cons_succ, i64_w, i32_w]
          rfl
        refine take_ (i := 7) (N := some 35) (v := ?_) (a' := ?_) #[true, true, false, true, true, false, true, true, false, false, false, false] rfl rfl (by kernel_rfl) (fun _ _ _ h => h) (Or.inl ⟨by rfl, ?_⟩) hHeld ?_ ?_
        rotate_left
        · rintro w' ⟨⟨s0, s1, s2, s3, s4, s5, s6⟩, ⟨t0, t1, t2, t3, t4, t5, t6⟩, ⟨u0, u1, u2, u3, u4, u5, u6⟩⟩
          go_simp
          with_reducible rfl
        rotate_left
        · simp only [Act.put, List.setIfInBounds_toArray, List.set_cons_zero, List.set_cons_succ, i64_w, i32_w]
          rfl
        refine one_ (i := 2) (N := some 30) #[true, true, true, true, true, false, true, true, false, false, false, false] rfl rfl (by kernel_rfl) (by decide) (fun K hK => ?_)
        refine goes_ Try.func23 (by kernel_rfl) rfl #[.agg (tcells a), .agg (tcells b)] (by rfl) rfl rfl (by (try simp only [List.map_toArray, List.map_cons, List.map_nil]); first | done | rfl) ?_
        refine (Compare_calls a b _).mono ?_
        rintro e w6 ⟨rfl, hb⟩
        have HD1 := Lib.hid (HD0.out.trans (hb.mono HD0.out.size))
        have HB1 := Lib.hid (thn Hg1.out HB0.out hb)
        refine ⟨_, rfl, hK.out _ _ (HS.out _ HD1.out) (fun hHeld => ?_)⟩
        clear hK K hb HD0 HB0
        refine norm_ (a' := ?_) ?_ ?_
        rotate_left
        · simp only [Act.put, List.setIfInBounds_toArray, List.set_cons_zero, List.set_cons_succ, i64_w, i32_w]
          rfl
        refine one_ (i := 5) (N := some 33) #[true, true, true, true, true, true, true, true, false, false, false, false] rfl rfl (by kernel_rfl) (by decide) (fun K hK => ?_)
        refine goes_ Try.func23 (by kernel_rfl) rfl #[.agg (tcells b), .agg (tcells c)] (by rfl) rfl rfl (by (try simp only [List.map_toArray, List.map_cons, List.map_nil]); first | done | rfl) ?_
        refine (Compare_calls b c _).mono ?_
        rintro e w7 ⟨rfl, hb⟩
        have HD2 := Lib.hid (HD1.out.trans (hb.mono HD1.out.size))
        have HB2 := Lib.hid (thn Hg1.out HB1.out hb)
        refine ⟨_, rfl, hK.out _ _ (HS.out _ HD2.out) (fun hHeld => ?_)⟩
        clear hK K hb HD1 HB1
        refine norm_ (a' := ?_) ?_ ?_
        rotate_left
        · simp only [Act.put, List.setIfInBounds_toArray, List.set_cons_zero, List.set_cons_succ, i64_w, i32_w]
          rfl
        refine one_ (i := 8) (N := some 36) #[true, true, true, true, true, true, true, true, true, false, false, false] rfl rfl (by kernel_rfl) (by decide) (fun K hK => ?_)
        refine goes_ Try.func23 (by kernel_rfl) rfl #[.agg (tcells a), .agg (tcells c)] (by rfl) rfl rfl (by (try simp only [List.map_toArray, List.map_cons, List.map_nil]); first | done | rfl) ?_
        refine (Compare_calls a c _).mono ?_
        rintro e w8 ⟨rfl, hb⟩
        have HD3 := Lib.hid (HD2.out.trans (hb.mono HD2.out.size))
        have HB3 := Lib.hid (thn Hg1.out HB2.out hb)
        refine ⟨_, rfl, hK.out _ _ (HS.out _ HD3.out) (fun hHeld => ?_)⟩
        clear hK K hb HD2 HB2
        refine norm_ (a' := ?_) ?_ ?_
        rotate_left
        · simp only [Act.put, List.setIfInBounds_toArray, List.set_cons_zero, List.set_cons_succ, i64_w, i32_w]
          rfl
        refine pure_ (i := 9) (N := some 7) (v := ?_) (a' := ?_) #[true, true, true, true, true, true, true, true, true, true, false, false] rfl rfl (by kernel_rfl) (fun _ _ _ h => h) (Or.inl ⟨by rfl, ?_⟩) ?_ ?_
        rotate_left
        · intro w'
          go_simp
          with_reducible rfl
        rotate_left
        · simp only [Act.put, List.setIfInBounds_toArray, List.set_cons_zero, List.set_cons_succ, i64_w, i32_w]
          rfl
        refine pure_ (i := 10) (N := some 8) (v := ?_) (a' := ?_) #[true, true, true, true, true, true, true, true, true, true, true, false] rfl rfl (by kernel_rfl) (fun _ _ _ h => h) (Or.inl ⟨by rfl, ?_⟩) ?_ ?_
        rotate_left
        · intro w'
          go_simp
          with_reducible rfl
        rotate_left
        · simp only [Act.put, List.setIfInBounds_toArray, List.set_cons_zero, List.set_cons_succ, i64_w, i32_w]
          rfl
        refine pure_ (i := 11) (N := some 9) (v := ?_) (a' := ?_) #[true, true, true, true, true, true, true, true, true, true, true, true] rfl rfl (by kernel_rfl) (fun _ _ _ h => h) (Or.inl ⟨by rfl, ?_⟩) ?_ ?_
        rotate_left
        · intro w'
          go_simp
          with_reducible rfl
        rotate_left
        · simp only [Act.put, List.setIfInBounds_toArray, List.set_cons_zero, List.set_cons_succ, i64_w, i32_w]
          rfl
        refine done_ (by kernel_rfl) ?_
        clear hHeld
        obtain ⟨⟨ha0, ha1, ha2, ha3, ha4, ha5, ha6⟩, ⟨hc0, hc1, hc2, hc3, hc4, hc5, hc6⟩, -⟩ := HS.out _ HD3.out
        have HCM := Lib.hid (Compare_calls b a w8)
        rw [Hanti.out] at HCM
        generalize cmpT a b = x at *
        generalize cmpT b c = y at *
        generalize cmpT a c = z at *
        go_wp2_with fail
        refine HCM.out.mono ?_
        rintro e w9 ⟨rfl, hb⟩
        have HS9 := HS.out _ (HD3.out.trans (hb.mono HD3.out.size))
        have B7 := Lib.hid (thn Hg1.out HB3.out hb)
        clear ha0 ha1 ha2 ha3 ha4 ha5 ha6 hc0 hc1 hc2 hc3 hc4 hc5 hc6 hb HD3 HB3 HCM
        obtain ⟨⟨ha0, ha1, ha2, ha3, ha4, ha5, ha6⟩, ⟨hc0, hc1, hc2, hc3, hc4, hc5, hc6⟩, -⟩ := HS9
        have hE := HTot.out.eq
        have hT := HTot.out.tr
        rcases HTot.out.x0 with rfl | rfl | rfl
        · have hE : eqS a b = false := hE
          by_cases hy : 0 < y
          · have d1 : decide (0 < y) = true := decide_eq_true hy
            clear hT
            go_wp2_with fail
            go_ret
            exact ⟨rfl, Hg1.out ▸ B7.out⟩
          · have d1 : decide (0 < y) = false := decide_eq_false hy
            have d2 : decide (z < 0) = true := decide_eq_true (by omega)
            clear hT
            go_wp2_with fail
            go_ret
            exact ⟨rfl, Hg1.out ▸ B7.out⟩
        · have hE : eqS a b = true := hE
          by_cases hy : 0 < y
          · have d1 : decide (0 < y) = true := decide_eq_true hy
            clear hT
            go_wp2_with fail
            go_ret
            exact ⟨rfl, Hg1.out ▸ B7.out⟩
          · have d1 : decide (0 < y) = false := decide_eq_false hy
            by_cases hz : z < 0
            · have d2 : decide (z < 0) = true := decide_eq_true hz
              clear hT
              go_wp2_with fail
              go_ret
              exact ⟨rfl, Hg1.out ▸ B7.out⟩
            · obtain rfl : z = 0 := by omega
              obtain rfl : y = 0 := by omega
              clear hT d1 hy hz
              go_wp2_with fail
              go_ret
              exact ⟨rfl, Hg1.out ▸ B7.out⟩
        · have hE : eqS a b = false := hE
          clear hT
          go_wp2_with fail
          go_ret
          exact ⟨rfl, Hg1.out ▸ B7.out⟩
end Go.Proofs.Ytkngdlmlijefbaa.Pq
