/- Comparing two fractions. -/
import Derived.Test.YtkbiggmkjbmgoaaU
import Derived.Test.YtkbiggmkjbmgoaaE
import Derived.Test.YtkbiggmkjbmgoaaG
namespace Go.Proofs.Ytkbiggmkjbmgoaa.Bk
open Go.RowKit Go.Proofs.YtkbiggmkjbmgoaaW.PrintWords Go.Proofs.YtkbiggmkjbmgoaaW.PrintLast Go.Proofs.YtkbiggmkjbmgoaaW.PrintMore Go.Proofs.Mp
set_option linter.unusedVariables false
set_option linter.unusedSimpArgs false

theorem cmpi_calls (a b : Int) (w : World) : Calls Try.prog 38 #[.int .i64 a, .int .i64 b] w fun e w' => e = .returned (.int .i64 (cmpI a b)) ∧ Below w.heap.size w w' :=
  (PMeetingstatsCompares.cmp_Compare_int.calls a b _ w (cmp_int a b)).mono (by rintro e w' ⟨rfl, ⟨m, rfl⟩⟩; exact ⟨rfl, pw_below_drewN (Below.refl _ _) m⟩)
theorem mul_calls (a b : Nat) (w : World) (ha : a < 18446744073709551616) (hb : b < 18446744073709551616) : Calls Try.prog 57 #[.int .u64 a, .int .u64 b] w fun e w' => e = .returned (.tuple #[.int .u64 ((a * b / 18446744073709551616 : Nat) : Int), .int .u64 ((a * b % 18446744073709551616 : Nat) : Int)]) ∧ Below w.heap.size w w' :=
  (PMeetingstatsCompares.bits_Mul64.calls a b _ _ w (mul64 a b ha hb)).mono (by rintro e w' ⟨rfl, ⟨m, rfl⟩⟩; exact ⟨rfl, pw_below_drewN (Below.refl _ _) m⟩)

def hi64 (n d : Int) : Int := ((n.natAbs * d.natAbs / 18446744073709551616 : Nat) : Int)
def lo64 (n d : Int) : Int := ((n.natAbs * d.natAbs % 18446744073709551616 : Nat) : Int)
theorem u64_neg (n : Int) (h : In64 n) (hn : n < 0) : IntKind.u64.wrap (-(IntKind.u64.wrap n)) = ((n.natAbs : Nat) : Int) := by
  obtain ⟨h1, h2⟩ := h
  rw [IntKind.wrap_u64, IntKind.wrap_u64]; omega
theorem u64_pos (n : Int) (h : In64 n) (hn : ¬ n < 0) : IntKind.u64.wrap n = ((n.natAbs : Nat) : Int) := by
  obtain ⟨h1, h2⟩ := h
  rw [IntKind.wrap_u64]; omega

set_option maxRecDepth 100000 in
theorem product_calls (n d : Int) (w : World) (hn : In64 n) (hd : In64 d) (hd0 : 0 < d) :
    Calls Try.prog 37 #[.int .i64 n, .int .i64 d] w fun e w' => e = .returned (.tuple #[.int .i64 (cmpI n 0), .agg #[.int .u64 (hi64 n d), .int .u64 (lo64 n d)]]) ∧ Below w.heap.size w w' := by
  have hlt : n.natAbs < 18446744073709551616 := by have := hn.1; have := hn.2; omega
  have hltd : d.natAbs < 18446744073709551616 := by have := hd.1; have := hd.2; omega
  have ed := u64_pos d hd (by omega)
  go_enter Try.func37, Try.ntmps37
  go_wp2_with fail
  refine (cmpi_calls n 0 _).mono ?_
  rintro e w1 ⟨rfl, hb⟩
  by_cases h0 : n < 0
  · have en := u64_neg n hn h0
    have hdec : decide (n < 0) = true := decide_eq_true h0
    go_wp2_with fail
    refine (mul_calls n.natAbs d.natAbs _ hlt hltd).mono ?_
    rintro e w2 ⟨rfl, hb2⟩
    have hk1 := blk_below (blk_new w _) hb
    have hk2 := blk_below hk1 hb2
    have hc0 : w2.cell? ⟨w.heap.size, 0, none⟩ = some (.int .u64 0) := (blk_cell hk2 0).trans rfl
    have hc1 : w2.cell? ⟨w.heap.size, 1, none⟩ = some (.int .u64 0) := (blk_cell hk2 1).trans rfl
    have hf0 := blk_frozen hk2 0
    have hf1 := blk_frozen hk2 1
    have hbx := (Below.refl w.heap.size w).alloc (Nat.le_refl _) (.cells #[.int .u64 0, .int .u64 0] 67)
    have HB := Lib.hid ((hbx.trans (hb.mono hbx.size)).trans (hb2.mono (Nat.le_trans hbx.size hb.size)))
    have HK := Lib.hid hk2
    clear hk1 hk2 hb hb2 hbx
    go_wp2_with fail
    refine bodyPost_ret (results_tc rfl _ _ w.heap.size 67 #[.int .u64 (hi64 n d), .int .u64 (lo64 n d)] (0, 0) _ rfl (blk_put (blk_put HK.out 0 _ rfl) 1 _ rfl) Try.underlying67 rfl (by kernel_rfl)) rfl ⟨rfl, below_set (below_set HB.out (Nat.le_refl _)) (Nat.le_refl _)⟩
  · have en := u64_pos n hn h0
    have hdec : decide (n < 0) = false := decide_eq_false h0
    go_wp2_with fail
    refine (mul_calls n.natAbs d.natAbs _ hlt hltd).mono ?_
    rintro e w2 ⟨rfl, hb2⟩
    have hk1 := blk_below (blk_new w _) hb
    have hk2 := blk_below hk1 hb2
    have hc0 : w2.cell? ⟨w.heap.size, 0, none⟩ = some (.int .u64 0) := (blk_cell hk2 0).trans rfl
    have hc1 : w2.cell? ⟨w.heap.size, 1, none⟩ = some (.int .u64 0) := (blk_cell hk2 1).trans rfl
    have hf0 := blk_frozen hk2 0
    have hf1 := blk_frozen hk2 1
    have hbx := (Below.refl w.heap.size w).alloc (Nat.le_refl _) (.cells #[.int .u64 0, .int .u64 0] 67)
    have HB := Lib.hid ((hbx.trans (hb.mono hbx.size)).trans (hb2.mono (Nat.le_trans hbx.size hb.size)))
    have HK := Lib.hid hk2
    clear hk1 hk2 hb hb2 hbx
    go_wp2_with fail
    refine bodyPost_ret (results_tc rfl _ _ w.heap.size 67 #[.int .u64 (hi64 n d), .int .u64 (lo64 n d)] (0, 0) _ rfl (blk_put (blk_put HK.out 0 _ rfl) 1 _ rfl) Try.underlying67 rfl (by kernel_rfl)) rfl ⟨rfl, below_set (below_set HB.out (Nat.le_refl _)) (Nat.le_refl _)⟩

theorem arr2 {w : World} {g t : Nat} {a b : Int} (h : w.heap[g]? = some (.cells #[.int .u64 a, .int .u64 b] t)) : Kd.C (Kd.int .u64) w (some ⟨g, 0, none⟩) 2 [a, b] := by
  refine Kd.C_of_reads (d := 0) ⟨rfl, by omega, fun _ => ⟨_, rfl, fun j hj => ?_⟩⟩
  have : j = 0 ∨ j = 1 := by omega
  rcases this with rfl | rfl
  · have := blk_cell h 0; exact this.trans rfl
  · have := blk_cell h 1; exact this.trans rfl
theorem slices_calls {w : World} {g t g' t' : Nat} {a b c d : Int} (h : w.heap[g]? = some (.cells #[.int .u64 a, .int .u64 b] t)) (h' : w.heap[g']? = some (.cells #[.int .u64 c, .int .u64 d] t')) :
    Calls Try.prog 39 #[.slice (some ⟨g, 0, none⟩) 2 2, .slice (some ⟨g', 0, none⟩) 2 2] w fun e w' => e = .returned (.int .i64 (if cmpI a c = 0 then cmpI b d else cmpI a c)) ∧ Below w.heap.size w w' :=
  (PMeetingstatsCompares.slices_Compare_uint64_uint64.calls 4 _ 2 [a, b] _ 2 [c, d] _ w (arr2 h) (Nat.le_refl _) (arr2 h') (Nat.le_refl _) (slices2 a b c d)).mono (by rintro e w' ⟨rfl, ⟨m, rfl⟩⟩; exact ⟨rfl, pw_below_drewN (Below.refl _ _) m⟩)

set_option maxRecDepth 100000 in
theorem Compare_no (an ad bn bd : Int) (w : World) (h : ¬ (0 < ad ∧ 0 < bd)) :
    Calls Try.prog 23 #[.agg #[.int .i64 an, .int .i64 ad], .agg #[.int .i64 bn, .int .i64 bd]] w fun e w' => e = .returned (.tuple #[.int .i64 0, .int .i64 1]) ∧ Below w.heap.size w w' := by
  have hbx := ((Below.refl w.heap.size w).alloc (Nat.le_refl _) (.cells #[.int .i64 an, .int .i64 ad] 23))
  have HB := Lib.hid (hbx.alloc hbx.size (.cells #[.int .i64 bn, .int .i64 bd] 23))
  clear hbx
  by_cases ha : ad ≤ 0
  · have hdec : decide (ad ≤ 0) = true := decide_eq_true ha
    go_enter Try.func23, Try.ntmps23
    go_wp2_with fail
    refine bodyPost_ret (results_list (rs := [.tmp 4, .tmp 5]) rfl (by simp) (.tmp (.tmp .nil))) rfl ⟨rfl, HB.out⟩
  · have hdec : decide (ad ≤ 0) = false := decide_eq_false ha
    have hdec2 : decide (bd ≤ 0) = true := decide_eq_true (by omega)
    go_enter Try.func23, Try.ntmps23
    go_wp2_with fail
    refine bodyPost_ret (results_list (rs := [.tmp 4, .tmp 5]) rfl (by simp) (.tmp (.tmp .nil))) rfl ⟨rfl, HB.out⟩

set_option maxHeartbeats 8000000 in
set_option maxRecDepth 100000 in
theorem Compare_yes (an ad bn bd : Int) (w : World) (h1 : In64 an) (h2 : In64 ad) (h3 : In64 bn) (h4 : In64 bd) (ha : 0 < ad) (hb : 0 < bd) :
    Calls Try.prog 23 #[.agg #[.int .i64 an, .int .i64 ad], .agg #[.int .i64 bn, .int .i64 bd]] w fun e w' => e = .returned (.tuple #[.int .i64 (cmpI (an * bd) (bn * ad)), .int .i64 0]) ∧ Below w.heap.size w w' := by
  have hdec : decide (ad ≤ 0) = false := decide_eq_false (by omega)
  have hdec2 : decide (bd ≤ 0) = false := decide_eq_false (by omega)
  have HP := Lib.hid (byParts an ad bn bd ha hb)
  have HL := Lib.hid (lexN (an.natAbs * bd.natAbs) (bn.natAbs * ad.natAbs))
  have H1 := Lib.hid h1
  have H2 := Lib.hid h2
  have H3 := Lib.hid h3
  have H4 := Lib.hid h4
  have Ha := Lib.hid ha
  have Hb := Lib.hid hb
  have hbx := ((Below.refl w.heap.size w).alloc (Nat.le_refl _) (.cells #[.int .i64 an, .int .i64 ad] 23))
  have HB := Lib.hid (hbx.alloc hbx.size (.cells #[.int .i64 bn, .int .i64 bd] 23))
  have HA0 := Lib.hid (blk_alloc (blk_new w (.cells #[.int .i64 an, .int .i64 ad] 23)) (.cells #[.int .i64 bn, .int .i64 bd] 23))
  have hz : (w.alloc (.cells #[.int .i64 an, .int .i64 ad] 23)).heap.size = w.heap.size + 1 := Array.size_push ..
  have hB0 := blk_new (w.alloc (.cells #[.int .i64 an, .int .i64 ad] 23)) (.cells #[.int .i64 bn, .int .i64 bd] 23)
  rw [hz] at hB0
  have HB0 := Lib.hid hB0
  clear hbx hz hB0 h1 h2 h3 h4 ha hb
  go_enter Try.func23, Try.ntmps23
  go_wp2_with fail
  generalize (w.alloc (.cells #[.int .i64 an, .int .i64 ad] 23)).alloc (.cells #[.int .i64 bn, .int .i64 bd] 23) = w0 at *
  generalize w.heap.size + 1 = gb at *
  have hga := blk_lt HA0.out
  have hgb := blk_lt HB0.out
  have Hw : Hid (w.heap.size ≤ w0.heap.size) := Lib.hid HB.out.size
  refine (product_calls an bd _ H1.out H4.out Hb.out).mono ?_
  rintro e w1 ⟨rfl, hb1⟩
  have hA1 := blk_below HA0.out hb1
  have hB1 := blk_below HB0.out hb1
  have HA1 := Lib.hid hA1
  have HB1 := Lib.hid hB1
  have HBw1 := Lib.hid (HB.out.trans (hb1.mono HB.out.size))
  have hc0 : w1.cell? ⟨w.heap.size, 0, none⟩ = some (.int .i64 an) := (blk_cell hA1 0).trans rfl
  have hc1 : w1.cell? ⟨w.heap.size, 1, none⟩ = some (.int .i64 ad) := (blk_cell hA1 1).trans rfl
  have hc2 : w1.cell? ⟨gb, 0, none⟩ = some (.int .i64 bn) := (blk_cell hB1 0).trans rfl
  have hc3 : w1.cell? ⟨gb, 1, none⟩ = some (.int .i64 bd) := (blk_cell hB1 1).trans rfl
  have hg1 : w.heap.size < w1.heap.size := by have := hb1.size; omega
  have hg2 : gb < w1.heap.size := by have := hb1.size; omega
  clear hb1 hA1 hB1 hga hgb
  go_wp2_with fail
  refine (product_calls bn ad _ H3.out H2.out Ha.out).mono ?_
  rintro e w2 ⟨rfl, hb2⟩
  have hx2 := blk_below (blk_new w1 (.cells #[.int .u64 (hi64 an bd), .int .u64 (lo64 an bd)] 67)) hb2
  have hx3 := blk_alloc hx2 (.cells #[.int .u64 (hi64 bn ad), .int .u64 (lo64 bn ad)] 67)
  have hy3 := blk_new w2 (.cells #[.int .u64 (hi64 bn ad), .int .u64 (lo64 bn ad)] 67)
  have HX3 := Lib.hid hx3
  have HY3 := Lib.hid hy3
  have hbz := (HBw1.out.alloc HBw1.out.size (.cells #[.int .u64 (hi64 an bd), .int .u64 (lo64 an bd)] 67))
  have hbz2 := hbz.trans (hb2.mono hbz.size)
  have HB3 := Lib.hid (hbz2.alloc hbz2.size (.cells #[.int .u64 (hi64 bn ad), .int .u64 (lo64 bn ad)] 67))
  clear hx2 hx3 hy3 hbz hbz2 hc0 hc1 hc2 hc3 hg1 hg2 hb2 HA0 HB0 HB
  have HP2 := HP.out
  by_cases hs : cmpI an 0 = cmpI bn 0
  · have hs1 : (cmpI an 0 != cmpI bn 0) = false := bne_eq_false_iff_eq.mpr hs
    rw [if_neg (by simp [hs])] at HP2
    have HF : Hid (wrap64 (cmpI bn 0 * cmpI ((an.natAbs : Int) * (bd.natAbs : Int)) ((bn.natAbs : Int) * (ad.natAbs : Int))) = cmpI (an * bd) (bn * ad)) := Lib.hid (by
      rw [hs, Int.natCast_mul, Int.natCast_mul] at HP2
      rw [HP2]
      exact wrap_in (by rcases cmpI_cases (an * bd) (bn * ad) with ⟨_, e⟩ | ⟨_, e⟩ | ⟨_, e⟩ <;> rw [e] <;> unfold In64 <;> omega))
    clear HP2
    go_wp2_with fail
    generalize w2.alloc (.cells #[.int .u64 (hi64 bn ad), .int .u64 (lo64 bn ad)] 67) = w3 at *
    generalize w2.heap.size = g2 at *
    generalize w1.heap.size = g1 at *
    have Hbd := Lib.hid HB3.out.drew
    refine start_ (n := 7) (S := fun W => W.heap[g1]? = some (.cells #[.int .u64 (hi64 an bd), .int .u64 (lo64 an bd)] 67 (0, 0)) ∧ W.heap[g2]? = some (.cells #[.int .u64 (hi64 bn ad), .int .u64 (lo64 bn ad)] 67 (0, 0))) (ds := []) #[false, false, false, false, false, false, false] (by kernel_rfl) rfl rfl ⟨blk_drew HX3.out, blk_drew HY3.out⟩ (fun hHeld => ?_)
    generalize w3.drew = w4 at *
    refine pure_ (i := 0) (N := some 40) (v := ?_) (a' := ?_) #[true, false, false, false, false, false, false] rfl rfl (by kernel_rfl) (fun _ _ _ h => h) (Or.inl ⟨by rfl, ?_⟩) ?_ ?_
    rotate_left
    · intro w'
      go_simp
      with_reducible rfl
    rotate_left
    · simp only [Act.put, List.setIfInBounds_toArray, List.set_cons_zero, List.set_cons_succ, i64_w, i32_w]
      rfl
    refine pure_ (i := 1) (N := some 41) (v := ?_) (a' := ?_) #[true, true, false, false, false, false, false] rfl rfl (by kernel_rfl) (fun _ _ _ h => h) (Or.inl ⟨by rfl, ?_⟩) ?_ ?_
    rotate_left
    · intro w'
      go_simp
      with_reducible rfl
    rotate_left
    · simp only [Act.put, List.setIfInBounds_toArray, List.set_cons_zero, List.set_cons_succ, i64_w, i32_w]
      rfl
    refine pure_ (i := 2) (N := some 42) (v := ?_) (a' := ?_) #[true, true, true, false, false, false, false] rfl rfl (by kernel_rfl) (fun _ _ _ h => h) (Or.inl ⟨by rfl, ?_⟩) ?_ ?_
    rotate_left
    · intro w'
      go_simp
      with_reducible rfl
    rotate_left
    · simp only [Act.put, List.setIfInBounds_toArray, List.set_cons_zero, List.set_cons_succ, i64_w, i32_w]
      rfl
    refine one_ (i := 3) (N := some 43) #[true, true, true, true, false, false, false] rfl rfl (by kernel_rfl) (by decide) (fun K hK => ?_)
    refine goes_ Try.func39 (by kernel_rfl) rfl #[.slice (some ⟨g1, 0, none⟩) 2 2, .slice (some ⟨g2, 0, none⟩) 2 2] (by rfl) rfl rfl (by (try simp only [List.map_toArray, List.map_cons, List.map_nil]); first | done | rfl) ?_
    refine (slices_calls hHeld.1 hHeld.2).mono ?_
    rintro e w5 ⟨rfl, hb5⟩
    have hlex : (if cmpI (hi64 an bd) (hi64 bn ad) = 0 then cmpI (lo64 an bd) (lo64 bn ad) else cmpI (hi64 an bd) (hi64 bn ad)) = cmpI ((an.natAbs * bd.natAbs : Nat) : Int) ((bn.natAbs * ad.natAbs : Nat) : Int) := HL.out
    rw [hlex]
    have HB5 := Lib.hid (Hbd.out.trans (hb5.mono Hbd.out.size))
    refine ⟨_, rfl, hK.out _ _ ⟨blk_below hHeld.1 hb5, blk_below hHeld.2 hb5⟩ (fun hHeld => ?_)⟩
    clear hK K hb5
    refine norm_ (a' := ?_) ?_ ?_
    rotate_left
    · simp only [Act.put, List.setIfInBounds_toArray, List.set_cons_zero, List.set_cons_succ, i64_w, i32_w]
      rfl
    refine pure_ (i := 4) (N := some 44) (v := ?_) (a' := ?_) #[true, true, true, true, true, false, false] rfl rfl (by kernel_rfl) (fun _ _ _ h => h) (Or.inl ⟨by rfl, ?_⟩) ?_ ?_
    rotate_left
    · intro w'
      go_simp
      with_reducible rfl
    rotate_left
    · simp only [Act.put, List.setIfInBounds_toArray, List.set_cons_zero, List.set_cons_succ, i64_w, i32_w]
      rfl
    refine pure_ (i := 5) (N := some 4) (v := ?_) (a' := ?_) #[true, true, true, true, true, true, false] rfl rfl (by kernel_rfl) (fun _ _ _ h => h) (Or.inl ⟨by rfl, ?_⟩) ?_ ?_
    rotate_left
    · intro w'
      go_simp
      with_reducible rfl
    rotate_left
    · simp only [Act.put, List.setIfInBounds_toArray, List.set_cons_zero, List.set_cons_succ, i64_w, i32_w]
      rfl
    refine pure_ (i := 6) (N := some 5) (v := ?_) (a' := ?_) #[true, true, true, true, true, true, true] rfl rfl (by kernel_rfl) (fun _ _ _ h => h) (Or.inl ⟨by rfl, ?_⟩) ?_ ?_
    rotate_left
    · intro w'
      go_simp
      with_reducible rfl
    rotate_left
    · simp only [Act.put, List.setIfInBounds_toArray, List.set_cons_zero, List.set_cons_succ, i64_w, i32_w]
      rfl
    refine done_ (by kernel_rfl) ?_
    go_wp2_with fail
    rw [HF.out]
    refine bodyPost_ret (results_list (rs := [.tmp 4, .tmp 5]) rfl (by simp) (.tmp (.tmp .nil))) rfl ⟨rfl, HB5.out⟩
  · have hs1 : (cmpI an 0 != cmpI bn 0) = true := bne_iff_ne.mpr hs
    rw [if_pos hs] at HP2
    have HP3 := Lib.hid HP2
    clear HP2
    go_wp2_with fail
    refine (cmpi_calls _ _ _).mono ?_
    rintro e w4 ⟨rfl, hb4⟩
    rw [HP3.out]
    go_wp2_with fail
    refine bodyPost_ret (results_list (rs := [.tmp 4, .tmp 5]) rfl (by simp) (.tmp (.tmp .nil))) rfl ⟨rfl, HB3.out.trans (hb4.mono HB3.out.size)⟩
end Go.Proofs.Ytkbiggmkjbmgoaa.Bk
