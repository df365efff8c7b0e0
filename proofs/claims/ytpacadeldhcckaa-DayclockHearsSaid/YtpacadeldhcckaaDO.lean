/- The law DayclockHears: its walk, for every day, leap, quorum and list of calls, on the heap as it is. -/
import Derived.Test.YtpacadeldhcckaaDN
namespace Go.Proofs.Ytpacadeldhcckaa.Dc
open Go.RowKit Go.Proofs.YtpacadeldhcckaaW.PrintWords Go.Proofs.YtpacadeldhcckaaW.PrintLast Go.Proofs.YtpacadeldhcckaaW.PrintMore Go.Proofs.Mp
set_option linter.unusedVariables false
set_option linter.unusedSimpArgs false
attribute [local go_sem] max_ii min_ii

theorem info36 : (Try.prog.info? 36).map (fun i => (i.zero, i.size, i.bytes)) = some (some (.agg #[.int .i64 0, .int .i64 0, .int .i64 0]), 3, 24) := by kernel_rfl
theorem R_none3 (W : World) (base : Nat) (hb : base ≤ W.heap.size) (ok : Nat → Prop) (hok : ok W.heap.size) : Kd.R k3 36 (W.alloc (.cells #[] 36)) base ok (.slice (some ⟨W.heap.size, 0, none⟩) 0 0) [] := by
  refine ⟨fun k hk => ?_, [], ?_, by simp, fun i p hp => by simp at hp⟩
  · have : W.heap.size = k := by simpa [Value.ownBlock] using hk
    exact this ▸ hok
  · exact World.ownsRow_lit (base := base) (e := 36) (size := 3) W #[] 0 hb (by simp [maxLen]) (by simp)
theorem R_one3 (W : World) (base : Nat) (hb : base ≤ W.heap.size) (ok : Nat → Prop) (hok : ok W.heap.size) (x : Op3) : Kd.R k3 36 (W.alloc (.cells #[.int .i64 x.f0, .int .i64 x.f1, .int .i64 x.f2] 36)) base ok (.slice (some ⟨W.heap.size, 0, none⟩) 1 1) [x] := by
  refine ⟨fun k hk => ?_, [.int .i64 x.f0, .int .i64 x.f1, .int .i64 x.f2], ?_, by rfl, fun i p hp => ?_⟩
  · have : W.heap.size = k := by simpa [Value.ownBlock] using hk
    exact this ▸ hok
  · exact World.ownsRow_lit (base := base) (e := 36) (size := 3) W #[.int .i64 x.f0, .int .i64 x.f1, .int .i64 x.f2] 1 hb (by simp [maxLen]) (by simp)
  · cases i with
    | zero => simp at hp; subst hp; exact k3_mkM _ _ _ _
    | succ i => simp at hp
def tw (x : Op3) : Op3 := ⟨2, x.f1, x.f2⟩
/-- The two lists that are built. -/
structure Lists (w wr : World) (vT vB : Value) (lt lb : List Op3) : Prop where
  t : Kd.R k3 36 wr w.heap.size (fun k => True ∧ some k ≠ vB.ownBlock) vT lt
  b : Kd.R k3 36 wr w.heap.size (fun k => True ∧ some k ≠ vT.ownBlock) vB lb
  below : Below w.heap.size w wr
set_option maxHeartbeats 400000 in
set_option maxRecDepth 100000 in
theorem hears_long (day leap q : Int) (A : Option Addr) (c k : Nat) (hk : k ≤ 9223372036854775807) (ho : 12 < k) (w : World) : Calls Try.prog 6 #[.int .i64 day, .int .i64 leap, .int .i64 q, .slice A k c] w fun e w' => e = .returned (.bool true) ∧ Below w.heap.size w w' := by
  have q1 : (12 : Int) < k := by omega
  go_enter Try.func6, Try.ntmps6
  go_wp2_with fail
  refine (awake_calls _).mono ?_
  rintro e w1 ⟨rfl, hb⟩
  have B1 := Lib.hid hb
  clear hb
  go_wp2_with fail
  refine (awake_calls _).mono ?_
  rintro e w2 ⟨rfl, hb⟩
  have B2 := Lib.hid (B1.out.trans (hb.mono B1.out.size))
  clear hb
  go_wp2_with fail
  go_ret
  exact ⟨rfl, B2.out⟩
set_option maxHeartbeats 400000 in
set_option maxRecDepth 100000 in
theorem hears_main (day leap q : Int) (A : Option Addr) (c : Nat) (l : List Op3) (hk : l.length ≤ 12) (w : World) (hl : Kd.C k3 w A l.length l) (hq : ∀ p ∈ l, Q3 p) :
    Calls Try.prog 6 #[.int .i64 day, .int .i64 leap, .int .i64 q, .slice A l.length c] w fun e w' => e = .returned (.bool true) ∧ Below w.heap.size w w' := by
  have Hl := Lib.hid hl
  have Hq := Lib.hid hq
  have hkk : ¬ (12 : Int) < (l.length : Int) := by omega
  clear hl hq
  go_enter Try.func6, Try.ntmps6
  go_wp2_with fail
  refine (awake_calls _).mono ?_
  rintro e w1 ⟨rfl, hb⟩
  have HL := Lib.hid (show Lists w ((w1.alloc (.cells #[] 36)).alloc (.cells #[] 36)) (.slice (some ⟨w1.heap.size, 0, none⟩) 0 0) (.slice (some ⟨w1.heap.size + 1, 0, none⟩) 0 0) [] [] from by
    have e1 : (w1.alloc (.cells #[] 36)).heap.size = w1.heap.size + 1 := by simp
    have b1 := hb.alloc hb.size (.cells #[] 36)
    refine ⟨Kd.R_below (R_none3 w1 _ hb.size _ ⟨trivial, by simp [Value.ownBlock]⟩) ((Below.refl _ _).alloc (Nat.le_refl _) _), ?_, b1.alloc b1.size _⟩
    have := R_none3 (w1.alloc (.cells #[] 36)) w.heap.size b1.size (fun k => True ∧ some k ≠ (Value.slice (some ⟨w1.heap.size, 0, none⟩) 0 0).ownBlock) ⟨trivial, by simp [Value.ownBlock]⟩
    rw [e1] at this
    exact this)
  clear hb
  go_wp2_with fail
  generalize (w1.alloc (.cells #[] 36)).alloc (.cells #[] 36) = w2 at *
  go_loopw [9, 10, 11] (fun vT vB vi wr => ∃ i : Nat, i ≤ l.length ∧ vi = .int .i64 i ∧ Hid (Lists w wr vT vB ((l.take i).map tw) ((l.take i).map tw).reverse)) (fun _ _ vi _ => l.length - (intOf vi).toNat)
  case atStart => exact ⟨0, by omega, rfl, HL⟩
  case round =>
    obtain ⟨i, hi, rfl, hL⟩ := hrel
    have HLr := Lib.hid hL.out
    clear hL HL
    by_cases hlt : i < l.length
    · have hdec : decide ((i : Int) < (l.length : Int)) = true := decide_eq_true (by omega)
      obtain ⟨ad, hadr, ha0, ha1, ha2⟩ := at3 Hl.out i (by omega) (by omega)
      subst hadr
      rw [Int.toNat_natCast] at ha0 ha1 ha2
      have hxi : rd3 l (i : Int) = l[i] := by unfold rd3; rw [Int.toNat_natCast, List.getD_eq_getElem?_getD, List.getElem?_eq_getElem hlt]; rfl
      have Htk : Hid ((l.take (i + 1)).map tw = (l.take i).map tw ++ [tw (rd3 l i)]) := Lib.hid (by rw [List.take_succ_eq_append_getElem hlt, ← hxi, List.map_append]; rfl)
      have Hlen : Hid (((l.take i).map tw).length ≤ 12) := Lib.hid (by rw [List.length_map, List.length_take]; omega)
      clear hxi
      generalize rd3 l (i : Int) = x at *
      obtain ⟨xk, xv, xd⟩ := x
      simp only at ha0 ha1 ha2
      have Hc : Hid (∀ W, Below w.heap.size w W → W.cell? ⟨(ad.add (i * 3)).block, (ad.add (i * 3)).off + 1, none⟩ = some (.int .i64 xv) ∧ W.cell? ⟨(ad.add (i * 3)).block, (ad.add (i * 3)).off + 2, none⟩ = some (.int .i64 xd) ∧ Below w.heap.size w W) := Lib.hid (fun W hW =>
        ⟨(hW.cell (p := ⟨(ad.add (i * 3)).block, (ad.add (i * 3)).off + 1, none⟩) (World.block_lt_of_cell? _ _ ha1)).trans ha1, (hW.cell (p := ⟨(ad.add (i * 3)).block, (ad.add (i * 3)).off + 2, none⟩) (World.block_lt_of_cell? _ _ ha2)).trans ha2, hW⟩)
      clear ha0 ha1 ha2
      generalize (l.take i).map tw = lt at *
      go_wp2_with fail
      have HT := Lib.hid (show Kd.R k3 36 wr.drew w.heap.size (fun k => True ∧ some k ≠ u10.ownBlock) u9 lt from Kd.R_drew HLr.out.t)
      have HBk := Lib.hid (show Kd.R k3 36 wr.drew w.heap.size (fun k => True ∧ some k ≠ u9.ownBlock) u10 lt.reverse from Kd.R_drew HLr.out.b)
      have HB := Lib.hid HLr.out.below.drew
      clear HLr
      refine start_ (n := 15) (S := fun W => W.cell? ⟨(ad.add (i * 3)).block, (ad.add (i * 3)).off + 1, none⟩ = some (.int .i64 xv) ∧ W.cell? ⟨(ad.add (i * 3)).block, (ad.add (i * 3)).off + 2, none⟩ = some (.int .i64 xd) ∧ Below w.heap.size w W) (ds := []) #[false, false, false, false, false, false, false, false, false, false, false, false, false, false, false] (by kernel_rfl) rfl rfl (Hc.out _ HB.out) (fun hHeld => ?_)
      generalize wr.drew = w3 at *
      refine pure_ (i := 0) (N := some 30) (v := ?_) (a' := ?_) #[true, false, false, false, false, false, false, false, false, false, false, false, false, false, false] rfl rfl (by kernel_rfl) (fun _ _ _ h => h) (Or.inl ⟨by rfl, ?_⟩) ?_ ?_
      rotate_left
      · intro w'
        go_simp
        with_reducible rfl
      rotate_left
      · simp only [Act.put, List.setIfInBounds_toArray, List.set_cons_zero, List.set_cons_succ, i64_w, i32_w]
        rfl
      refine pure_ (i := 1) (N := some 31) (v := ?_) (a' := ?_) #[true, true, false, false, false, false, false, false, false, false, false, false, false, false, false] rfl rfl (by kernel_rfl) (fun _ _ _ h => h) (Or.inl ⟨by rfl, ?_⟩) ?_ ?_
      rotate_left
      · intro w'
        go_simp
        with_reducible rfl
      rotate_left
      · simp only [Act.put, List.setIfInBounds_toArray, List.set_cons_zero, List.set_cons_succ, i64_w, i32_w]
        rfl
      refine pure_ (i := 2) (N := some 32) (v := ?_) (a' := ?_) #[true, true, true, false, false, false, false, false, false, false, false, false, false, false, false] rfl rfl (by kernel_rfl) (fun _ _ _ h => h) (Or.inl ⟨by rfl, ?_⟩) ?_ ?_
      rotate_left
      · intro w'
        go_simp
        with_reducible rfl
      rotate_left
      · simp only [Act.put, List.setIfInBounds_toArray, List.set_cons_zero, List.set_cons_succ, i64_w, i32_w]
        rfl
      refine pure_ (i := 3) (N := some 33) (v := ?_) (a' := ?_) #[true, true, true, true, false, false, false, false, false, false, false, false, false, false, false] rfl rfl (by kernel_rfl) (fun _ _ _ h => h) (Or.inl ⟨by rfl, ?_⟩) ?_ ?_
      rotate_left
      · intro w'
        go_simp
        with_reducible rfl
      rotate_left
      · simp only [Act.put, List.setIfInBounds_toArray, List.set_cons_zero, List.set_cons_succ, i64_w, i32_w]
        rfl
      refine pure_ (i := 4) (N := some 34) (v := ?_) (a' := ?_) #[true, true, true, true, true, false, false, false, false, false, false, false, false, false, false] rfl rfl (by kernel_rfl) (fun _ _ _ h => h) (Or.inl ⟨by rfl, ?_⟩) ?_ ?_
      rotate_left
      · intro w'
        go_simp
        with_reducible rfl
      rotate_left
      · simp only [Act.put, List.setIfInBounds_toArray, List.set_cons_zero, List.set_cons_succ, i64_w, i32_w]
        rfl
      refine take_ (i := 5) (N := some 35) (v := ?_) (a' := ?_) #[true, true, true, true, true, true, false, false, false, false, false, false, false, false, false] rfl rfl (by kernel_rfl) (fun _ _ _ h => h) (Or.inl ⟨by rfl, ?_⟩) hHeld ?_ ?_
      rotate_left
      · rintro w' ⟨s0, s1, s2⟩
        go_simp
        with_reducible rfl
      rotate_left
      · simp only [Act.put, List.setIfInBounds_toArray, List.set_cons_zero, List.set_cons_succ, i64_w, i32_w]
        rfl
      refine pure_ (i := 6) (N := some 36) (v := ?_) (a' := ?_) #[true, true, true, true, true, true, true, false, false, false, false, false, false, false, false] rfl rfl (by kernel_rfl) (fun _ _ _ h => h) (Or.inl ⟨by rfl, ?_⟩) ?_ ?_
      rotate_left
      · intro w'
        go_simp
        with_reducible rfl
      rotate_left
      · simp only [Act.put, List.setIfInBounds_toArray, List.set_cons_zero, List.set_cons_succ, i64_w, i32_w]
        rfl
      refine pure_ (i := 7) (N := some 37) (v := ?_) (a' := ?_) #[true, true, true, true, true, true, true, true, false, false, false, false, false, false, false] rfl rfl (by kernel_rfl) (fun _ _ _ h => h) (Or.inl ⟨by rfl, ?_⟩) ?_ ?_
      rotate_left
      · intro w'
        go_simp
        with_reducible rfl
      rotate_left
      · simp only [Act.put, List.setIfInBounds_toArray, List.set_cons_zero, List.set_cons_succ, i64_w, i32_w]
        rfl
      refine pure_ (i := 8) (N := some 38) (v := ?_) (a' := ?_) #[true, true, true, true, true, true, true, true, true, false, false, false, false, false, false] rfl rfl (by kernel_rfl) (fun _ _ _ h => h) (Or.inl ⟨by rfl, ?_⟩) ?_ ?_
      rotate_left
      · intro w'
        go_simp
        with_reducible rfl
      rotate_left
      · simp only [Act.put, List.setIfInBounds_toArray, List.set_cons_zero, List.set_cons_succ, i64_w, i32_w]
        rfl
      refine pure_ (i := 9) (N := some 39) (v := ?_) (a' := ?_) #[true, true, true, true, true, true, true, true, true, true, false, false, false, false, false] rfl rfl (by kernel_rfl) (fun _ _ _ h => h) (Or.inl ⟨by rfl, ?_⟩) ?_ ?_
      rotate_left
      · intro w'
        go_simp
        with_reducible rfl
      rotate_left
      · simp only [Act.put, List.setIfInBounds_toArray, List.set_cons_zero, List.set_cons_succ, i64_w, i32_w]
        rfl
      refine take_ (i := 10) (N := some 40) (v := ?_) (a' := ?_) #[true, true, true, true, true, true, true, true, true, true, true, false, false, false, false] rfl rfl (by kernel_rfl) (fun _ _ _ h => h) (Or.inl ⟨by rfl, ?_⟩) hHeld ?_ ?_
      rotate_left
      · rintro w' ⟨s0, s1, s2⟩
        go_simp
        with_reducible rfl
      rotate_left
      · simp only [Act.put, List.setIfInBounds_toArray, List.set_cons_zero, List.set_cons_succ, i64_w, i32_w]
        rfl
      refine pure_ (i := 11) (N := some 41) (v := ?_) (a' := ?_) #[true, true, true, true, true, true, true, true, true, true, true, true, false, false, false] rfl rfl (by kernel_rfl) (fun _ _ _ h => h) (Or.inl ⟨by rfl, ?_⟩) ?_ ?_
      rotate_left
      · intro w'
        go_simp
        with_reducible rfl
      rotate_left
      · simp only [Act.put, List.setIfInBounds_toArray, List.set_cons_zero, List.set_cons_succ, i64_w, i32_w]
        rfl
      refine one_ (i := 12) (N := some 42) #[true, true, true, true, true, true, true, true, true, true, true, true, true, false, false] rfl rfl (by kernel_rfl) (by decide) (fun K hK => ?_)
      refine value_ (v := .slice (some ⟨w3.heap.size, 0, none⟩) 1 1) (w1 := w3.alloc (.cells #[.int .i64 2, .int .i64 xv, .int .i64 xd] 36)) (by rfl) rfl ?_ ?_
      · go_simp
      refine hK.out _ _ (Hc.out _ (HB.out.alloc HB.out.size _)) (fun hHeld => ?_)
      clear hK K
      refine norm_ (a' := ?_) ?_ ?_
      rotate_left
      · simp only [Act.put, List.setIfInBounds_toArray, List.set_cons_zero, List.set_cons_succ, i64_w, i32_w]
        rfl
      refine one_ (i := 13) (N := some 43) #[true, true, true, true, true, true, true, true, true, true, true, true, true, true, false] rfl rfl (by kernel_rfl) (by decide) (fun K hK => ?_)
      refine Kd.R_append_step k3 (w0 := w) w.heap.size (by rfl) (.tmp 30) (.tmp 42) 34 36 (.agg #[.int .i64 0, .int .i64 0, .int .i64 0]) 24 rfl Try.underlying34 info36 rfl (by decide) (by omega) u9 lt (tw ⟨xk, xv, xd⟩) [.int .i64 2, .int .i64 xv, .int .i64 xd] (fun k => True ∧ some k ≠ u10.ownBlock) (fun _ => False) rfl rfl ?aP (fun _ hk => hk.elim) ?aF HT.out HB.out HB.out.size (by have := Hlen.out; omega) ?_
      case aP => exact k3_mkM _ _ _ (tw ⟨xk, xv, xd⟩)
      case aF => exact fun k hk => ⟨trivial, fun e => by have := Kd.R_lt HBk.out k e.symm; omega⟩
      intro v1 w5 ho1 hB1 hg1 hat1
      show K (Act.put _ (some 43) v1) w5
      refine hK.out _ _ (Hc.out _ hB1) (fun hHeld => ?_)
      have HT5 := Lib.hid ho1
      have HB5 := Lib.hid hB1
      have HBk5 := Lib.hid (Kd.R_after (ok := fun _ => True) HBk.out hg1 hat1)
      clear hK K ho1 hB1 hg1 hat1 HT HBk HB
      refine norm_ (a' := ?_) ?_ ?_
      rotate_left
      · simp only [Act.put, List.setIfInBounds_toArray, List.set_cons_zero, List.set_cons_succ, i64_w, i32_w]
        rfl
      refine pure_ (i := 14) (N := some 9) (v := ?_) (a' := ?_) #[true, true, true, true, true, true, true, true, true, true, true, true, true, true, true] rfl rfl (by kernel_rfl) (fun _ _ _ h => h) (Or.inl ⟨by rfl, ?_⟩) ?_ ?_
      rotate_left
      · intro w'
        go_simp
        with_reducible rfl
      rotate_left
      · simp only [Act.put, List.setIfInBounds_toArray, List.set_cons_zero, List.set_cons_succ, i64_w, i32_w]
        rfl
      clear hHeld
      refine done_ (by kernel_rfl) ?_
      go_wp2_with fail
      obtain ⟨Ab, cb, rfl, hcb, hCb⟩ := Kd.R_reads HBk5.out
      have HT6 := Lib.hid (show Kd.R k3 36 w5.drew w.heap.size _ v1 (lt ++ [tw ⟨xk, xv, xd⟩]) from Kd.R_drew HT5.out)
      have HCb := Lib.hid (show Kd.C k3 w5.drew Ab lt.reverse.length lt.reverse from Kd.C_drew hCb)
      have HB6 := Lib.hid HB5.out.drew
      clear HT5 HBk5 HB5 hcb hCb
      refine start_ (n := 15) (S := fun W => W.cell? ⟨(ad.add (i * 3)).block, (ad.add (i * 3)).off + 1, none⟩ = some (.int .i64 xv) ∧ W.cell? ⟨(ad.add (i * 3)).block, (ad.add (i * 3)).off + 2, none⟩ = some (.int .i64 xd) ∧ Below w.heap.size w W) (ds := []) #[false, false, false, false, false, false, false, false, false, false, false, false, false, false, false] (by kernel_rfl) rfl rfl (Hc.out _ HB6.out) (fun hHeld => ?_)
      generalize w5.drew = w6 at *
      refine pure_ (i := 0) (N := some 44) (v := ?_) (a' := ?_) #[true, false, false, false, false, false, false, false, false, false, false, false, false, false, false] rfl rfl (by kernel_rfl) (fun _ _ _ h => h) (Or.inl ⟨by rfl, ?_⟩) ?_ ?_
      rotate_left
      · intro w'
        go_simp
        with_reducible rfl
      rotate_left
      · simp only [Act.put, List.setIfInBounds_toArray, List.set_cons_zero, List.set_cons_succ, i64_w, i32_w]
        rfl
      refine pure_ (i := 1) (N := some 45) (v := ?_) (a' := ?_) #[true, true, false, false, false, false, false, false, false, false, false, false, false, false, false] rfl rfl (by kernel_rfl) (fun _ _ _ h => h) (Or.inl ⟨by rfl, ?_⟩) ?_ ?_
      rotate_left
      · intro w'
        go_simp
        with_reducible rfl
      rotate_left
      · simp only [Act.put, List.setIfInBounds_toArray, List.set_cons_zero, List.set_cons_succ, i64_w, i32_w]
        rfl
      refine pure_ (i := 2) (N := some 46) (v := ?_) (a' := ?_) #[true, true, true, false, false, false, false, false, false, false, false, false, false, false, false] rfl rfl (by kernel_rfl) (fun _ _ _ h => h) (Or.inl ⟨by rfl, ?_⟩) ?_ ?_
      rotate_left
      · intro w'
        go_simp
        with_reducible rfl
      rotate_left
      · simp only [Act.put, List.setIfInBounds_toArray, List.set_cons_zero, List.set_cons_succ, i64_w, i32_w]
        rfl
      refine pure_ (i := 3) (N := some 47) (v := ?_) (a' := ?_) #[true, true, true, true, false, false, false, false, false, false, false, false, false, false, false] rfl rfl (by kernel_rfl) (fun _ _ _ h => h) (Or.inl ⟨by rfl, ?_⟩) ?_ ?_
      rotate_left
      · intro w'
        go_simp
        with_reducible rfl
      rotate_left
      · simp only [Act.put, List.setIfInBounds_toArray, List.set_cons_zero, List.set_cons_succ, i64_w, i32_w]
        rfl
      refine take_ (i := 4) (N := some 48) (v := ?_) (a' := ?_) #[true, true, true, true, true, false, false, false, false, false, false, false, false, false, false] rfl rfl (by kernel_rfl) (fun _ _ _ h => h) (Or.inl ⟨by rfl, ?_⟩) hHeld ?_ ?_
      rotate_left
      · rintro w' ⟨s0, s1, s2⟩
        go_simp
        with_reducible rfl
      rotate_left
      · simp only [Act.put, List.setIfInBounds_toArray, List.set_cons_zero, List.set_cons_succ, i64_w, i32_w]
        rfl
      refine pure_ (i := 5) (N := some 49) (v := ?_) (a' := ?_) #[true, true, true, true, true, true, false, false, false, false, false, false, false, false, false] rfl rfl (by kernel_rfl) (fun _ _ _ h => h) (Or.inl ⟨by rfl, ?_⟩) ?_ ?_
      rotate_left
      · intro w'
        go_simp
        with_reducible rfl
      rotate_left
      · simp only [Act.put, List.setIfInBounds_toArray, List.set_cons_zero, List.set_cons_succ, i64_w, i32_w]
        rfl
      refine pure_ (i := 6) (N := some 50) (v := ?_) (a' := ?_) #[true, true, true, true, true, true, true, false, false, false, false, false, false, false, false] rfl rfl (by kernel_rfl) (fun _ _ _ h => h) (Or.inl ⟨by rfl, ?_⟩) ?_ ?_
      rotate_left
      · intro w'
        go_simp
        with_reducible rfl
      rotate_left
      · simp only [Act.put, List.setIfInBounds_toArray, List.set_cons_zero, List.set_cons_succ, i64_w, i32_w]
        rfl
      refine pure_ (i := 7) (N := some 51) (v := ?_) (a' := ?_) #[true, true, true, true, true, true, true, true, false, false, false, false, false, false, false] rfl rfl (by kernel_rfl) (fun _ _ _ h => h) (Or.inl ⟨by rfl, ?_⟩) ?_ ?_
      rotate_left
      · intro w'
        go_simp
        with_reducible rfl
      rotate_left
      · simp only [Act.put, List.setIfInBounds_toArray, List.set_cons_zero, List.set_cons_succ, i64_w, i32_w]
        rfl
      refine pure_ (i := 8) (N := some 52) (v := ?_) (a' := ?_) #[true, true, true, true, true, true, true, true, true, false, false, false, false, false, false] rfl rfl (by kernel_rfl) (fun _ _ _ h => h) (Or.inl ⟨by rfl, ?_⟩) ?_ ?_
      rotate_left
      · intro w'
        go_simp
        with_reducible rfl
      rotate_left
      · simp only [Act.put, List.setIfInBounds_toArray, List.set_cons_zero, List.set_cons_succ, i64_w, i32_w]
        rfl
      refine take_ (i := 9) (N := some 53) (v := ?_) (a' := ?_) #[true, true, true, true, true, true, true, true, true, true, false, false, false, false, false] rfl rfl (by kernel_rfl) (fun _ _ _ h => h) (Or.inl ⟨by rfl, ?_⟩) hHeld ?_ ?_
      rotate_left
      · rintro w' ⟨s0, s1, s2⟩
        go_simp
        with_reducible rfl
      rotate_left
      · simp only [Act.put, List.setIfInBounds_toArray, List.set_cons_zero, List.set_cons_succ, i64_w, i32_w]
        rfl
      refine pure_ (i := 10) (N := some 54) (v := ?_) (a' := ?_) #[true, true, true, true, true, true, true, true, true, true, true, false, false, false, false] rfl rfl (by kernel_rfl) (fun _ _ _ h => h) (Or.inl ⟨by rfl, ?_⟩) ?_ ?_
      rotate_left
      · intro w'
        go_simp
        with_reducible rfl
      rotate_left
      · simp only [Act.put, List.setIfInBounds_toArray, List.set_cons_zero, List.set_cons_succ, i64_w, i32_w]
        rfl
      refine pure_ (i := 12) (N := some 56) (v := ?_) (a' := ?_) #[true, true, true, true, true, true, true, true, true, true, true, false, true, false, false] rfl rfl (by kernel_rfl) (fun _ _ _ h => h) (Or.inl ⟨by rfl, ?_⟩) ?_ ?_
      rotate_left
      · intro w'
        go_simp
        with_reducible rfl
      rotate_left
      · simp only [Act.put, List.setIfInBounds_toArray, List.set_cons_zero, List.set_cons_succ, i64_w, i32_w]
        rfl
      have HBa := Lib.hid (HB6.out.alloc HB6.out.size (.cells #[.int .i64 2, .int .i64 xv, .int .i64 xd] 36))
      have HF := Lib.hid (show Kd.R k3 36 (w6.alloc (.cells #[.int .i64 2, .int .i64 xv, .int .i64 xd] 36)) w.heap.size (fun k => True ∧ some k ≠ v1.ownBlock) (.slice (some ⟨w6.heap.size, 0, none⟩) 1 1) [tw ⟨xk, xv, xd⟩] from R_one3 w6 w.heap.size HB6.out.size (fun k => True ∧ some k ≠ v1.ownBlock) ⟨trivial, fun e => by have := Kd.R_lt HT6.out _ e.symm; omega⟩ (tw ⟨xk, xv, xd⟩))
      have HT7 : Hid (Kd.R k3 36 (w6.alloc (.cells #[.int .i64 2, .int .i64 xv, .int .i64 xd] 36)) w.heap.size (fun k => True ∧ some k ≠ (Value.slice (some ⟨w6.heap.size, 0, none⟩) 1 1).ownBlock) v1 (lt ++ [tw ⟨xk, xv, xd⟩])) := Lib.hid
        (Kd.R_below (Kd.R_mono (Kd.R_bound HT6.out) (fun k hk => ⟨trivial, fun e => by have := hk.2.2.1; simp only [Value.ownBlock, Option.some.injEq] at e; omega⟩)) ((Below.refl _ _).alloc (Nat.le_refl _) _))
      have HCb7 := Lib.hid (Kd.C_below (show Kd.C k3 w6 Ab lt.length lt.reverse from by have := HCb.out; rwa [List.length_reverse] at this) ((Below.refl w6.heap.size w6).alloc (Nat.le_refl _) (.cells #[.int .i64 2, .int .i64 xv, .int .i64 xd] 36)))
      have Hfr : Hid (∀ k, (w6.alloc (.cells #[.int .i64 2, .int .i64 xv, .int .i64 xd] 36)).heap.size ≤ k → True ∧ some k ≠ v1.ownBlock) := Lib.hid (fun k hk => ⟨trivial, fun e => by
        have := Kd.R_lt HT7.out k e.symm; omega⟩)
      refine one_ (i := 11) (N := some 55) #[true, true, true, true, true, true, true, true, true, true, true, true, true, false, false] rfl rfl (by kernel_rfl) (by decide) (fun K hK => ?_)
      refine value_ (v := .slice (some ⟨w6.heap.size, 0, none⟩) 1 1) (w1 := w6.alloc (.cells #[.int .i64 2, .int .i64 xv, .int .i64 xd] 36)) (by rfl) rfl ?_ ?_
      · go_simp
      refine hK.out _ _ (Hc.out _ HBa.out) (fun hHeld => ?_)
      clear hK K
      generalize w6.alloc (.cells #[.int .i64 2, .int .i64 xv, .int .i64 xd] 36) = w7 at *
      refine norm_ (a' := ?_) ?_ ?_
      rotate_left
      · simp only [Act.put, List.setIfInBounds_toArray, List.set_cons_zero, List.set_cons_succ, i64_w, i32_w]
        rfl
      refine one_ (i := 13) (N := some 57) #[true, true, true, true, true, true, true, true, true, true, true, true, true, true, false] rfl rfl (by kernel_rfl) (by decide) (fun K hK => ?_)
      refine Kd.R_append_rows_step k3 (Rr := k3.K w7) (w0 := w) w.heap.size (by rfl) (.tmp 55) (.tmp 56) 34 36 (.agg #[.int .i64 0, .int .i64 0, .int .i64 0]) 24 rfl Try.underlying34 info36 rfl (by decide) (by omega) (.slice (some ⟨w6.heap.size, 0, none⟩) 1 1) [tw ⟨xk, xv, xd⟩] lt.reverse Ab lt.length cb (fun k => True ∧ some k ≠ v1.ownBlock) (fun _ => False) rfl rfl HF.out HCb7.out ?aK (fun _ hk => hk.elim) Hfr.out HBa.out HBa.out.size (by have := Hlen.out; simp only [List.length_cons, List.length_nil]; omega) ?_
      case aK => exact fun y cs h => by obtain rfl := k3_open h; exact k3_mkM _ _ _ y
      intro v2 w8 ho1 hB1 hg1 hat1
      show K (Act.put _ (some 57) v2) w8
      refine hK.out _ _ (Hc.out _ hB1) (fun hHeld => ?_)
      have HL2 : Hid (Lists w w8 v1 v2 ((l.take (i + 1)).map tw) ((l.take (i + 1)).map tw).reverse) := Lib.hid (by
        rw [Htk.out, List.reverse_append]
        exact ⟨Kd.R_after (ok := fun _ => True) HT7.out hg1 hat1, ho1, hB1⟩)
      clear hK K ho1 hB1 hg1 hat1 HT7 HF HCb7 Hfr HBa HT6 HCb HB6
      refine norm_ (a' := ?_) ?_ ?_
      rotate_left
      · simp only [Act.put, List.setIfInBounds_toArray, List.set_cons_zero, List.set_cons_succ, i64_w, i32_w]
        rfl
      refine pure_ (i := 14) (N := some 10) (v := ?_) (a' := ?_) #[true, true, true, true, true, true, true, true, true, true, true, true, true, true, true] rfl rfl (by kernel_rfl) (fun _ _ _ h => h) (Or.inl ⟨by rfl, ?_⟩) ?_ ?_
      rotate_left
      · intro w'
        go_simp
        with_reducible rfl
      rotate_left
      · simp only [Act.put, List.setIfInBounds_toArray, List.set_cons_zero, List.set_cons_succ, i64_w, i32_w]
        rfl
      clear hHeld
      refine done_ (by kernel_rfl) ?_
      go_wp2_with fail
      go_roundw
      case rel => exact ⟨i + 1, by omega, by go_num, HL2⟩
      case measure => simp [intOf]; omega
    · have hdec : decide ((i : Int) < (l.length : Int)) = false := decide_eq_false (by omega)
      obtain rfl : i = l.length := by omega
      obtain ⟨At, ct, rfl, hct, hCt⟩ := Kd.R_reads HLr.out.t
      obtain ⟨Ab, cb, rfl, hcb, hCb⟩ := Kd.R_reads HLr.out.b
      have HB := Lib.hid HLr.out.below
      have HCt := Lib.hid hCt
      have HCb := Lib.hid hCb
      clear HLr hCt hCb hct hcb
      rw [List.take_length] at HCt HCb ⊢
      have HQt : Hid (∀ p ∈ l.map tw, Q3 p) := Lib.hid (fun p hp => by
        obtain ⟨x, hx, rfl⟩ := List.mem_map.1 hp
        exact ⟨by show In64 2; unfold In64; omega, (Hq.out x hx).2⟩)
      have HKt : Hid (∀ p ∈ l.map tw, p.f0 ≠ 1) := Lib.hid (fun p hp => by
        obtain ⟨x, hx, rfl⟩ := List.mem_map.1 hp
        show (2 : Int) ≠ 1
        omega)
      have Htl : Hid ((l.map tw).length ≤ 12) := Lib.hid (by rw [List.length_map]; omega)
      have HBt0 := Lib.hid HB.out
      generalize l.map tw = ts at *
      by_cases ha : Args day leap q
      · have HRun := Lib.hid (run_yes day leap q At ct ts ha (by have := Htl.out; omega) wr HCt.out HQt.out)
        have HNew := Lib.hid (Heard.new ha)
        have HRun2 := Lib.hid (fun (A : Option Addr) (c : Nat) (w : World) h => run_yes day leap q A c (ts.reverse ++ ts) ha (by have := Htl.out; simp only [List.length_append, List.length_reverse]; omega) w h (fun p hp => by
          rcases List.mem_append.1 hp with hp | hp
          · exact HQt.out p (List.mem_reverse.1 hp)
          · exact HQt.out p hp))
        clear ha
        go_wp2_with fail
        refine HRun.out.mono ?_
        rintro e w4 ⟨rfl, Ca, sa, hr, hC, hf, hqq, hc, hb⟩
        have HHa := Lib.hid (Heard.runs HNew.out hr HKt.out)
        have HIa := Lib.hid hC
        have Hfa := Lib.hid hf
        have Hqa := Lib.hid hqq
        have HCa := Lib.hid hc
        have B4 := Lib.hid (HB.out.trans (hb.mono HB.out.size))
        have HCt4 := Lib.hid (Kd.C_below HCt.out hb)
        have HCb4 := Lib.hid (Kd.C_below HCb.out hb)
        clear hr hC hf hqq hc hb HRun HCt HCb
        generalize wr.heap.size = ga at *
        have e2 : (ts.reverse ++ ts).length = ts.length + ts.length := by simp
        have HR2 : Hid (∀ (A : Option Addr) (c : Nat) (w : World), Kd.C k3 w A (ts.length + ts.length) (ts.reverse ++ ts) → Calls Try.prog 16 #[.int .i64 day, .int .i64 leap, .int .i64 q, .slice A (ts.length + ts.length) c] w fun e w' => e = .returned (.pointer (some ⟨w.heap.size, 0, none⟩)) ∧ ∃ C s, Runs (Ck.new day leap q) (ts.reverse ++ ts) C ∧ CInv C s ∧ C.first = day ∧ C.quorum = q ∧ ClkAt w' w.heap.size C ∧ Below w.heap.size w w') := Lib.hid (by
          have := HRun2.out
          rw [e2] at this
          exact this)
        have HCb5 := Lib.hid (show Kd.C k3 (w4.alloc (.cells #[] 36)) Ab ts.length ts.reverse from Kd.C_below (by have := HCb4.out; rwa [List.length_reverse] at this) ((Below.refl _ _).alloc (Nat.le_refl _) _))
        have HE := Lib.hid (R_none3 w4 w4.heap.size (Nat.le_refl _) (fun _ => True) trivial)
        have HB5 := Lib.hid ((Below.refl w4.heap.size w4).alloc (Nat.le_refl _) (.cells #[] 36))
        have HL24 : Hid ((0 + ts.length) * 24 ≤ 140737488355328 ∧ (ts.length + ts.length) * 24 ≤ 140737488355328) := Lib.hid (by have := Htl.out; omega)
        clear HRun2 HCb4
        go_wp2_with (first
          | (at_builtin; refine Kd.R_append_rows k3 (w0 := w4) w4.heap.size rfl (.tmp 66) (.tmp 67) 34 36 (.agg #[.int .i64 0, .int .i64 0, .int .i64 0]) 24 rfl Try.underlying34 info36 rfl (by decide) (by omega) (.slice (some ⟨w4.heap.size, 0, none⟩) 0 0) [] ts.reverse Ab ts.length cb (fun _ => True) (fun _ => False) rfl rfl HE.out HCb5.out ?aK (fun _ hk => hk.elim) (fun _ _ => trivial) HB5.out HB5.out.size HL24.out.1 ?_; (case aK => exact fun y cs h => by obtain rfl := k3_open h; exact k3_mkM _ _ _ y); intro v1 w5 ho1 hB1 hg1 hat1; rw [List.nil_append] at ho1; have HO1 := Lib.hid ho1; have HB1 := Lib.hid hB1; have HCt5 := Lib.hid (Kd.C_below HCt4.out hB1); clear ho1 hB1 hg1 hat1)
          | (at_builtin; refine Kd.R_append_rows k3 (w0 := w4) w4.heap.size rfl (.tmp 68) (.tmp 69) 34 36 (.agg #[.int .i64 0, .int .i64 0, .int .i64 0]) 24 rfl Try.underlying34 info36 rfl (by decide) (by omega) v1 ts.reverse ts At ts.length ct (fun _ => True) (fun _ => False) rfl rfl HO1.out HCt5.out ?aK (fun _ hk => hk.elim) (fun _ _ => trivial) HB1.out HB1.out.size (by rw [List.length_reverse]; exact HL24.out.2) ?_; (case aK => exact fun y cs h => by obtain rfl := k3_open h; exact k3_mkM _ _ _ y); intro v2 w6 ho1 hB1 hg1 hat1; obtain ⟨A2, c2, rfl, hc2, hC2⟩ := Kd.R_reads ho1; rw [e2] at hC2 ⊢; have HC2 := Lib.hid hC2; have HB2 := Lib.hid hB1; clear ho1 hB1 hg1 hat1 hc2 hC2))
        refine (HR2.out A2 c2 _ HC2.out).mono ?_
        rintro e w7 ⟨rfl, Cb, sb, hr, hC, hf, hqq, hc, hb⟩
        have HHb := Lib.hid (Heard.runs HNew.out hr (fun p hp => by
          rcases List.mem_append.1 hp with hp | hp
          · exact HKt.out p (List.mem_reverse.1 hp)
          · exact HKt.out p hp))
        have HIb := Lib.hid hC
        have HCb7 := Lib.hid hc
        have B47 := Lib.hid (HB2.out.trans (hb.mono HB2.out.size))
        have HCa7 := Lib.hid (HCa.out.below B47.out)
        have B7 := Lib.hid (B4.out.trans (B47.out.mono B4.out.size))
        have hday : Ca.day = Cb.day := HHa.out.same HHb.out (fun x => by simp) (by rw [Hfa.out, hf]) (by rw [Hqa.out, hqq])
        have HSa := Lib.hid (fun w h => sp_step ga Ca Ca.day HHa.out.supp HIa.out.ok w h)
        have HSb := Lib.hid (fun w g h => sp_step g Cb Cb.day HHb.out.supp HIb.out.ok w h)
        have HDa := Lib.hid (fun w h => Day_calls ga Ca w h)
        have HDb := Lib.hid (fun w g h => Day_calls g Cb w h)
        have HOa := Lib.hid (fun w h => Own_calls ga Ca w h)
        rw [HHa.out.own] at HOa
        rw [hday] at HSa HDa
        generalize Cb.day = dd at *
        clear hr hC hf hqq hc hb hday HR2 HC2 HB2 HO1 HB1 HCt5 HCb5 HE HB5
        generalize w6.heap.size = gb at *
        go_wp2_with fail
        refine (HSa.out _ HCa7.out).mono ?_
        rintro e w8 ⟨rfl, hb⟩
        have HCa8 := Lib.hid (HCa7.out.below hb)
        have HCb8 := Lib.hid (HCb7.out.below hb)
        have B8 := Lib.hid (B7.out.trans (hb.mono B7.out.size))
        clear hb
        go_wp2_with fail
        refine (HSb.out _ gb HCb8.out).mono ?_
        rintro e w9 ⟨rfl, hb⟩
        have HCa9 := Lib.hid (HCa8.out.below hb)
        have HCb9 := Lib.hid (HCb8.out.below hb)
        have B9 := Lib.hid (B8.out.trans (hb.mono B8.out.size))
        clear hb
        go_wp2_with fail
        refine (HDa.out _ HCa9.out).mono ?_
        rintro e w10 ⟨rfl, rfl⟩
        go_wp2_with fail
        refine (HDb.out _ gb HCb9.out).mono ?_
        rintro e w10 ⟨rfl, rfl⟩
        go_wp2_with fail
        refine (HOa.out _ HCa9.out).mono ?_
        rintro e w10 ⟨rfl, rfl⟩
        go_wp2_with fail
        go_ret
        exact ⟨rfl, B9.out⟩
      · have HRun := Lib.hid (fun A c k w => run_no day leap q A c k ha w)
        clear ha
        go_wp2_with fail
        refine (HRun.out _ _ _ _).mono ?_
        rintro e w4 ⟨rfl, hb⟩
        have B4 := Lib.hid (HB.out.trans (hb.mono HB.out.size))
        have HCt4 := Lib.hid (Kd.C_below HCt.out hb)
        have HCb4 := Lib.hid (Kd.C_below HCb.out hb)
        have e2 : (ts.reverse ++ ts).length = ts.length + ts.length := by simp
        have HCb5 := Lib.hid (show Kd.C k3 (w4.alloc (.cells #[] 36)) Ab ts.length ts.reverse from Kd.C_below (by have := HCb4.out; rwa [List.length_reverse] at this) ((Below.refl _ _).alloc (Nat.le_refl _) _))
        have HE := Lib.hid (R_none3 w4 w4.heap.size (Nat.le_refl _) (fun _ => True) trivial)
        have HB5 := Lib.hid ((Below.refl w4.heap.size w4).alloc (Nat.le_refl _) (.cells #[] 36))
        have HL24 : Hid ((0 + ts.length) * 24 ≤ 140737488355328 ∧ (ts.length + ts.length) * 24 ≤ 140737488355328) := Lib.hid (by have := Htl.out; omega)
        clear hb HCt HCb HCb4
        go_wp2_with (first
          | (at_builtin; refine Kd.R_append_rows k3 (w0 := w4) w4.heap.size rfl (.tmp 66) (.tmp 67) 34 36 (.agg #[.int .i64 0, .int .i64 0, .int .i64 0]) 24 rfl Try.underlying34 info36 rfl (by decide) (by omega) (.slice (some ⟨w4.heap.size, 0, none⟩) 0 0) [] ts.reverse Ab ts.length cb (fun _ => True) (fun _ => False) rfl rfl HE.out HCb5.out ?aK (fun _ hk => hk.elim) (fun _ _ => trivial) HB5.out HB5.out.size HL24.out.1 ?_; (case aK => exact fun y cs h => by obtain rfl := k3_open h; exact k3_mkM _ _ _ y); intro v1 w5 ho1 hB1 hg1 hat1; rw [List.nil_append] at ho1; have HO1 := Lib.hid ho1; have HB1 := Lib.hid hB1; have HCt5 := Lib.hid (Kd.C_below HCt4.out hB1); clear ho1 hB1 hg1 hat1)
          | (at_builtin; refine Kd.R_append_rows k3 (w0 := w4) w4.heap.size rfl (.tmp 68) (.tmp 69) 34 36 (.agg #[.int .i64 0, .int .i64 0, .int .i64 0]) 24 rfl Try.underlying34 info36 rfl (by decide) (by omega) v1 ts.reverse ts At ts.length ct (fun _ => True) (fun _ => False) rfl rfl HO1.out HCt5.out ?aK (fun _ hk => hk.elim) (fun _ _ => trivial) HB1.out HB1.out.size (by rw [List.length_reverse]; exact HL24.out.2) ?_; (case aK => exact fun y cs h => by obtain rfl := k3_open h; exact k3_mkM _ _ _ y); intro v2 w6 ho1 hB1 hg1 hat1; obtain ⟨A2, c2, rfl, hc2, hC2⟩ := Kd.R_reads ho1; rw [e2] at hC2 ⊢; have HC2 := Lib.hid hC2; have HB2 := Lib.hid hB1; clear ho1 hB1 hg1 hat1 hc2 hC2))
        refine (HRun.out _ _ _ _).mono ?_
        rintro e w7 ⟨rfl, hb⟩
        have B47 := Lib.hid (HB2.out.trans (hb.mono HB2.out.size))
        have B7 := Lib.hid (B4.out.trans (B47.out.mono B4.out.size))
        clear hb
        go_wp2_with fail
        go_ret
        exact ⟨rfl, B7.out⟩
theorem Hears_walk (day leap q : Int) (A : Option Addr) (c : Nat) (l : List Op3) {w : World} (_ : (Lit.int .i64 day).wf = true) (_ : (Lit.int .i64 leap).wf = true) (_ : (Lit.int .i64 q).wf = true)
    (hl : Kd.C k3 w A l.length l) (hq : ∀ p ∈ l, Q3 p) :
    Calls Try.prog 6 #[.int .i64 day, .int .i64 leap, .int .i64 q, .slice A l.length c] w fun e w' => e = .returned (.bool true) ∧ Below w.heap.size w w' := by
  by_cases ho : 12 < l.length
  · exact hears_long day leap q A c l.length hl.2.1 ho w
  · exact hears_main day leap q A c l (by omega) w hl hq
end Go.Proofs.Ytpacadeldhcckaa.Dc
