/- The reference's insert: its walk. -/
import Derived.Test.YtkngdlmlijefbaaUN
namespace Go.Proofs.Ytkngdlmlijefbaa.Pq
open Go.RowKit Go.Proofs.YtkngdlmlijefbaaW.PrintWords Go.Proofs.YtkngdlmlijefbaaW.PrintLast Go.Proofs.YtkngdlmlijefbaaW.PrintMore Go.Proofs.Mp
open Go.Proofs.Ytkngdlmlijefbaa.PPriorityOrder
set_option linter.unusedVariables false
set_option linter.unusedSimpArgs false

/-- How many come before t. -/
def pos (t : S32) : List S32 → Nat
  | [] => 0
  | x :: l => if cmpT x t < 0 then pos t l + 1 else 0
theorem pos_le (t : S32) : ∀ l, pos t l ≤ l.length
  | [] => Nat.le_refl _
  | x :: l => by
    have := pos_le t l
    simp only [pos]
    split
    · simp; omega
    · omega
theorem pos_lt (t : S32) : ∀ (l : List S32) (i : Nat) (hi : i < l.length), i < pos t l → cmpT l[i] t < 0
  | [], i, hi, _ => absurd hi (by simp)
  | x :: l, i, hi, h => by
    simp only [pos] at h
    split at h
    · rename_i hx
      cases i with
      | zero => exact hx
      | succ i => exact pos_lt t l i (by simpa using hi) (by omega)
    · omega
theorem pos_at (t : S32) : ∀ (l : List S32) (hi : pos t l < l.length), ¬ cmpT (l[pos t l]) t < 0
  | [], hi => absurd hi (by simp)
  | x :: l, hi => by
    by_cases hx : cmpT x t < 0
    · have e : pos t (x :: l) = pos t l + 1 := by simp only [pos]; rw [if_pos hx]
      simp only [e] at hi ⊢
      exact pos_at t l (by simpa using hi)
    · have e : pos t (x :: l) = 0 := by simp only [pos]; rw [if_neg hx]
      simp only [e] at hi ⊢
      exact hx
theorem ins_pos (t : S32) : ∀ (l : List S32), ((∃ hi : pos t l < l.length, cmpT (l[pos t l]) t = 0) → ins t l = l) ∧ ((∀ hi : pos t l < l.length, cmpT (l[pos t l]) t ≠ 0) → ins t l = l.take (pos t l) ++ [t] ++ l.drop (pos t l))
  | [] => ⟨fun ⟨hi, _⟩ => absurd hi (by simp), fun _ => rfl⟩
  | x :: l => by
    by_cases hx : cmpT x t < 0
    · have e : pos t (x :: l) = pos t l + 1 := by simp only [pos]; rw [if_pos hx]
      have ei : ins t (x :: l) = x :: ins t l := by simp only [ins]; rw [if_pos hx]
      obtain ⟨h1, h2⟩ := ins_pos t l
      rw [ei]
      simp only [e]
      refine ⟨fun ⟨hi, h0⟩ => by rw [h1 ⟨by simpa using hi, by simpa using h0⟩], fun h0 => ?_⟩
      rw [h2 (fun hi => by simpa using h0 (by simpa using hi))]
      simp
    · have e : pos t (x :: l) = 0 := by simp only [pos]; rw [if_neg hx]
      simp only [e]
      refine ⟨fun ⟨hi, h0⟩ => ?_, fun h0 => ?_⟩
      · have h0 : cmpT x t = 0 := h0
        simp only [ins]
        rw [if_neg hx, if_pos h0]
      · have h0 : cmpT x t ≠ 0 := h0 (by simp)
        simp only [ins]
        rw [if_neg hx, if_neg h0]
        rfl
theorem C_take {α : Type} {d : Kd α} {w : World} {A : Option Addr} {n : Nat} {xs : List α} (h : d.C w A n xs) (k : Nat) (hk : k ≤ n) : d.C w A k (xs.take k) := by
  obtain ⟨h1, h2, h3⟩ := h
  refine ⟨by rw [List.length_take]; omega, by omega, fun hp => ?_⟩
  obtain ⟨ad, e, h4⟩ := h3 (by omega)
  refine ⟨ad, e, fun j p hj => ?_⟩
  rw [List.getElem?_take] at hj
  split at hj
  · exact h4 j p hj
  · cases hj
theorem C_drop {α : Type} {d : Kd α} {w : World} {A : Option Addr} {n : Nat} {xs : List α} (h : d.C w A n xs) (k : Nat) (hk : k ≤ n) (A' : Option Addr) (hA : k < n → ∀ ad, A = some ad → A' = some (ad.add (k * d.sz))) : d.C w A' (n - k) (xs.drop k) := by
  obtain ⟨h1, h2, h3⟩ := h
  refine ⟨by rw [List.length_drop]; omega, by omega, fun hp => ?_⟩
  obtain ⟨ad, e, h4⟩ := h3 (by omega)
  refine ⟨_, hA (by omega) ad e, fun j p hj => ?_⟩
  rw [List.getElem?_drop] at hj
  obtain ⟨cs, c1, c2, c3⟩ := h4 (k + j) p hj
  refine ⟨cs, c1, c2, fun i u hi => ?_⟩
  have := c3 i u hi
  rw [add_add7, show k * d.sz + (j * d.sz + i) = (k + j) * d.sz + i from by rw [Nat.add_mul]; omega]
  exact this
theorem size35 (w : World) : (Go.sizeOf 35).run Try.prog w = .ok 7 w := by kernel_rfl
/-- The address behind the first k. -/
def tlk (A : Option Addr) (k c : Nat) : Option Addr := if c = k then A else A.map (·.add (k * 7))
theorem run_head26 (A : Option Addr) (n c k : Nat) (h : k ≤ c) (w : World) : (Instr.slice 26 (.slice A n c) none (some (.int .i64 k)) none).run Try.prog w = .ok (.slice A k c) w := by
  have h1 : (k : Int) ≤ (c : Int) := by omega
  have h0 : (0 : Int) ≤ (k : Int) := by omega
  simp [Instr.slice, run_underlying Try.underlying26, Instr.sliceBounds, Instr.sliceBound, asIntOf, Sem.run_bind, Result.andThen, size35, h, h1, h0, Sem.run_pure]
  cases A <;> simp [Addr.add]
theorem run_from26 (A : Option Addr) (n c k : Nat) (h : k ≤ n) (w : World) : (Instr.slice 26 (.slice A n c) (some (.int .i64 k)) none none).run Try.prog w = .ok (.slice (tlk A k c) (n - k) (c - k)) w := by
  have h1 : (k : Int) ≤ (n : Int) := by omega
  have h0 : (0 : Int) ≤ (k : Int) := by omega
  simp [Instr.slice, run_underlying Try.underlying26, Instr.sliceBounds, Instr.sliceBound, asIntOf, Sem.run_bind, Result.andThen, size35, h, h1, h0, Sem.run_pure, tlk]
theorem R_none35 (W : World) (base : Nat) (hb : base ≤ W.heap.size) (ok : Nat → Prop) (hok : ok W.heap.size) : Kd.R k35 35 (W.alloc (.cells #[] 35)) base ok (.slice (some ⟨W.heap.size, 0, none⟩) 0 0) [] := by
  refine ⟨fun k hk => ?_, [], ?_, by simp, fun i p hp => by simp at hp⟩
  · have : W.heap.size = k := by simpa [Value.ownBlock] using hk
    exact this ▸ hok
  · exact World.ownsRow_lit (base := base) (e := 35) (size := 7) W #[] 0 hb (by simp [maxLen]) (by simp)
theorem C_one35 {W : World} {g : Nat} {t : S32} (h : W.heap[g]? = some (.cells (tcells t) 35 (0, 0))) : Kd.C k35 W (some ⟨g, 0, none⟩) 1 [p35 t] := by
  refine ⟨rfl, by omega, fun _ => ⟨⟨g, 0, none⟩, rfl, fun j p hj => ?_⟩⟩
  obtain ⟨hj1, rfl⟩ := List.getElem?_eq_some_iff.1 hj
  obtain rfl : j = 0 := by simp at hj1; omega
  refine ⟨tcs t, rfl, k35_mk W (p35 t), fun i u hi => ?_⟩
  rw [Nat.zero_mul, Nat.zero_add, add_plain, blk_cell h i, ← hi]
  unfold tcells tcs
  simp
theorem C7.of35 {W : World} {g : Nat} {t : S32} (h : W.heap[g]? = some (.cells (tcells t) 35 (0, 0))) : C7 W g t :=
  ⟨(blk_cell h 0).trans rfl, (blk_cell h 1).trans rfl, (blk_cell h 2).trans rfl, (blk_cell h 3).trans rfl, (blk_cell h 4).trans rfl, (blk_cell h 5).trans rfl, (blk_cell h 6).trans rfl⟩
/-- An element that is read, in every world that keeps it. -/
theorem at35 {w : World} {A : Option Addr} {l : List S32} (h : Kd.C k35 w A l.length (l.map p35)) {k : Nat} (hk : k < l.length) : ∃ ad, A = some ad ∧ ∀ W, Below w.heap.size w W → CA W (ad.add (k * 7)) l[k] := by
  obtain ⟨ad, rfl, h0, h1, h2, h3, h4, h5, h6⟩ := at_T35 h k (by omega) (by omega)
  rw [Int.toNat_natCast, rd35 hk] at h0 h1 h2 h3 h4 h5 h6
  have key : ∀ W, Below w.heap.size w W → ∀ (p : Addr) (v : Value), w.cell? p = some v → W.cell? p = some v := fun W hb p v hp => (hb.cell (p := p) (World.block_lt_of_cell? _ _ hp)).trans hp
  exact ⟨ad, rfl, fun W hb => ⟨key W hb _ _ h0, key W hb _ _ h1, key W hb _ _ h2, key W hb _ _ h3, key W hb _ _ h4, key W hb _ _ h5, key W hb _ _ h6⟩⟩
def InsR (w : World) (A : Option Addr) (c : Nat) (t : S32) (l : List S32) (e : Ending) (w' : World) : Prop :=
  Below w.heap.size w w' ∧ ((e = .returned (.slice A l.length c) ∧ ins t l = l) ∨ ∃ v, e = .returned v ∧ Kd.R k35 35 w' w.heap.size (fun _ => True) v ((ins t l).map p35))
set_option maxHeartbeats 4000000 in
set_option maxRecDepth 100000 in
theorem insert_calls (A : Option Addr) (c : Nat) (t : S32) (l : List S32) (w : World) (h : Kd.C k35 w A l.length (l.map p35)) (hl : l.length ≤ 1000) (hc : l.length ≤ c) :
    Calls Try.prog 36 #[.slice A l.length c, .agg (tcells t)] w (InsR w A c t l) := by
  have HL := Lib.hid h
  have hpl := pos_le t l
  have hb0 := (Below.refl w.heap.size w).alloc (Nat.le_refl _) (.cells (tcells t) 35)
  have HT0 := Lib.hid (blk_new w (.cells (tcells t) 35))
  have HB0 := Lib.hid hb0
  clear h hb0
  go_enter Try.func36, Try.ntmps36
  go_wp2_with fail
  generalize w.alloc (.cells (tcells t) 35) = w1 at *
  obtain ⟨gt, hgt⟩ : ∃ gt, gt = w.heap.size := ⟨_, rfl⟩
  rw [← hgt] at HT0 ⊢
  have Hgt := Lib.hid hgt
  clear hgt
  go_loopw [5] (fun v wr => ∃ k : Nat, k ≤ pos t l ∧ v = .int .i64 k ∧ Hid (wr.heap[gt]? = some (.cells (tcells t) 35 (0, 0))) ∧ Hid (Below w.heap.size w wr)) (fun v _ => l.length - (intOf v).toNat)
  case atStart => exact ⟨0, by omega, rfl, HT0, HB0⟩
  case round =>
    obtain ⟨k, hk, rfl, hT, hB⟩ := hrel
    have HTr := Lib.hid hT.out
    have HBr := Lib.hid hB.out
    clear hT hB HT0 HB0
    by_cases hlt : k < l.length
    · have d1 : decide (k < l.length) = true := decide_eq_true hlt
      have d1' : decide ((k : Int) < (l.length : Int)) = true := decide_eq_true (by omega)
      have i1 : (0 : Int) ≤ (k : Int) := by omega
      have i2 : (k : Int) < (l.length : Int) := by omega
      obtain ⟨ad, rfl, hat⟩ := at35 HL.out hlt
      have HAt := Lib.hid hat
      have Hx1 : Hid (¬ cmpT l[k] t < 0 → pos t l = k) := Lib.hid (fun h => by
        rcases (show k < pos t l ∨ k = pos t l from by omega) with h2 | h2
        · exact absurd (pos_lt t l k hlt h2) h
        · exact h2.symm)
      have Hx2 : Hid (cmpT l[k] t < 0 → k < pos t l) := Lib.hid (fun h => by
        rcases (show k < pos t l ∨ k = pos t l from by omega) with h2 | h2
        · exact h2
        · subst h2
          exact absurd h (pos_at t l hlt))
      have Hx3 : Hid (pos t l = k → (cmpT l[k] t = 0 → ins t l = l) ∧ (cmpT l[k] t ≠ 0 → ins t l = l.take k ++ [t] ++ l.drop k)) := Lib.hid (fun h => by
        subst h
        exact ⟨fun h0 => (ins_pos t l).1 ⟨hlt, h0⟩, fun h0 => (ins_pos t l).2 (fun _ => h0)⟩)
      clear hat
      generalize l[k] = x at *
      go_wp2_with fail
      have HBd := Lib.hid HBr.out.drew
      have HTd := Lib.hid (blk_below HTr.out (below_drew (Below.refl _ _)))
      refine start_ (n := 13) (S := fun W => CA W (ad.add (k * 7)) x ∧ C7 W gt t) (ds := []) #[false, false, false, false, false, false, false, false, false, false, false, false, false] (by kernel_rfl) rfl rfl ⟨HAt.out _ HBd.out, C7.of35 HTd.out⟩ (fun hHeld => ?_)
      generalize wr.drew = wd at *
      refine pure_ (i := 0) (N := some 6) (v := ?_) (a' := ?_) #[true, false, false, false, false, false, false, false, false, false, false, false, false] rfl rfl (by kernel_rfl) (fun _ _ _ h => h) (Or.inl ⟨by rfl, ?_⟩) ?_ ?_
      rotate_left
      · intro w'
        go_simp
        with_reducible rfl
      rotate_left
      · simp only [Act.put, List.setIfInBounds_toArray, List.set_cons_zero, List.set_cons_succ, i64_w, i32_w]
        rfl
      refine pure_ (i := 1) (N := some 7) (v := ?_) (a' := ?_) #[true, true, false, false, false, false, false, false, false, false, false, false, false] rfl rfl (by kernel_rfl) (fun _ _ _ h => h) (Or.inl ⟨by rfl, ?_⟩) ?_ ?_
      rotate_left
      · intro w'
        go_simp
        with_reducible rfl
      rotate_left
      · simp only [Act.put, List.setIfInBounds_toArray, List.set_cons_zero, List.set_cons_succ, i64_w, i32_w]
        rfl
      refine pure_ (i := 2) (N := some 8) (v := ?_) (a' := ?_) #[true, true, true, false, false, false, false, false, false, false, false, false, false] rfl rfl (by kernel_rfl) (fun _ _ _ h => h) (Or.inl ⟨by rfl, ?_⟩) ?_ ?_
      rotate_left
      · intro w'
        go_simp
        with_reducible rfl
      rotate_left
      · simp only [Act.put, List.setIfInBounds_toArray, List.set_cons_zero, List.set_cons_succ, i64_w, i32_w]
        rfl
      refine pure_ (i := 3) (N := some 9) (v := ?_) (a' := ?_) #[true, true, true, true, false, false, false, false, false, false, false, false, false] rfl rfl (by kernel_rfl) (fun _ _ _ h => h) (Or.inl ⟨by rfl, ?_⟩) ?_ ?_
      rotate_left
      · intro w'
        go_simp
        with_reducible rfl
      rotate_left
      · simp only [Act.put, List.setIfInBounds_toArray, List.set_cons_zero, List.set_cons_succ, i64_w, i32_w]
        rfl
      refine pure_ (i := 4) (N := some 10) (v := ?_) (a' := ?_) #[true, true, true, true, true, false, false, false, false, false, false, false, false] rfl rfl (by kernel_rfl) (fun _ _ _ h => h) (Or.inl ⟨by rfl, ?_⟩) ?_ ?_
      rotate_left
      · intro w'
        go_simp
        with_reducible rfl
      rotate_left
      · simp only [Act.put, List.setIfInBounds_toArray, List.set_cons_zero, List.set_cons_succ, i64_w, i32_w]
        rfl
      refine pure_ (i := 5) (N := some 11) (v := ?_) (a' := ?_) #[true, true, true, true, true, true, false, false, false, false, false, false, false] rfl rfl (by kernel_rfl) (fun _ _ _ h => h) (Or.inl ⟨by rfl, ?_⟩) ?_ ?_
      rotate_left
      · intro w'
        go_simp
        with_reducible rfl
      rotate_left
      · simp only [Act.put, List.setIfInBounds_toArray, List.set_cons_zero, List.set_cons_succ, i64_w, i32_w]
        rfl
      refine pure_ (i := 6) (N := some 12) (v := ?_) (a' := ?_) #[true, true, true, true, true, true, true, false, false, false, false, false, false] rfl rfl (by kernel_rfl) (fun _ _ _ h => h) (Or.inl ⟨by rfl, ?_⟩) ?_ ?_
      rotate_left
      · intro w'
        go_simp
        with_reducible rfl
      rotate_left
      · simp only [Act.put, List.setIfInBounds_toArray, List.set_cons_zero, List.set_cons_succ, i64_w, i32_w]
        rfl
      refine pure_ (i := 7) (N := some 13) (v := ?_) (a' := ?_) #[true, true, true, true, true, true, true, true, false, false, false, false, false] rfl rfl (by kernel_rfl) (fun _ _ _ h => h) (Or.inl ⟨by rfl, ?_⟩) ?_ ?_
      rotate_left
      · intro w'
        go_simp
        with_reducible rfl
      rotate_left
      · simp only [Act.put, List.setIfInBounds_toArray, List.set_cons_zero, List.set_cons_succ, i64_w, i32_w]
        rfl
      clear i1 i2
      by_cases hx : cmpT x t < 0
      · have hkp := Hx2.out hx
        have d2 : decide (cmpT x t < 0) = true := decide_eq_true hx
        clear hx Hx1 Hx2 Hx3
        refine take_ (i := 8) (N := some 14) (v := ?_) (a' := ?_) #[true, true, true, true, true, true, true, true, true, false, false, false, false] rfl rfl (by kernel_rfl) (fun _ _ _ h => h) (Or.inl ⟨by rfl, ?_⟩) hHeld ?_ ?_
        rotate_left
        · rintro w' ⟨⟨s0, s1, s2, s3, s4, s5, s6⟩, ⟨t0, t1, t2, t3, t4, t5, t6⟩⟩
          go_simp
          with_reducible rfl
        rotate_left
        · simp only [Act.put, List.setIfInBounds_toArray, List.set_cons_zero, List.set_cons_succ, i64_w, i32_w]
          rfl
        refine take_ (i := 9) (N := some 15) (v := ?_) (a' := ?_) #[true, true, true, true, true, true, true, true, true, true, false, false, false] rfl rfl (by kernel_rfl) (fun _ _ _ h => h) (Or.inl ⟨by rfl, ?_⟩) hHeld ?_ ?_
        rotate_left
        · rintro w' ⟨⟨s0, s1, s2, s3, s4, s5, s6⟩, ⟨t0, t1, t2, t3, t4, t5, t6⟩⟩
          go_simp
          with_reducible rfl
        rotate_left
        · simp only [Act.put, List.setIfInBounds_toArray, List.set_cons_zero, List.set_cons_succ, i64_w, i32_w]
          rfl
        refine one_ (i := 10) (N := some 16) #[true, true, true, true, true, true, true, true, true, true, true, false, false] rfl rfl (by kernel_rfl) (by decide) (fun K hK => ?_)
        refine goes_ Try.func25 (by kernel_rfl) rfl #[.agg (tcells x), .agg (tcells t)] (by rfl) rfl rfl (by (try simp only [List.map_toArray, List.map_cons, List.map_nil]); first | done | rfl) ?_
        refine (refcmp_c' x t _).mono ?_
        rintro e we ⟨rfl, hb⟩
        have HBe := Lib.hid (HBd.out.trans (hb.mono HBd.out.size))
        have HTe := Lib.hid (blk_below HTd.out hb)
        refine ⟨_, rfl, hK.out _ _ ⟨HAt.out _ HBe.out, C7.of35 HTe.out⟩ (fun hHeld => ?_)⟩
        clear hK K hb HBd HTd
        refine norm_ (a' := ?_) ?_ ?_
        rotate_left
        · simp only [Act.put, List.setIfInBounds_toArray, List.set_cons_zero, List.set_cons_succ, i64_w, i32_w]
          rfl
        refine pure_ (i := 11) (N := some 17) (v := ?_) (a' := ?_) #[true, true, true, true, true, true, true, true, true, true, true, true, false] rfl rfl (by kernel_rfl) (fun _ _ _ h => h) (Or.inl ⟨by rfl, ?_⟩) ?_ ?_
        rotate_left
        · intro w'
          go_simp
          with_reducible rfl
        rotate_left
        · simp only [Act.put, List.setIfInBounds_toArray, List.set_cons_zero, List.set_cons_succ, i64_w, i32_w]
          rfl
        refine pure_ (i := 12) (N := some 18) (v := ?_) (a' := ?_) #[true, true, true, true, true, true, true, true, true, true, true, true, true] rfl rfl (by kernel_rfl) (fun _ _ _ h => h) (Or.inl ⟨by rfl, ?_⟩) ?_ ?_
        rotate_left
        · intro w'
          go_simp
          with_reducible rfl
        rotate_left
        · simp only [Act.put, List.setIfInBounds_toArray, List.set_cons_zero, List.set_cons_succ, i64_w, i32_w]
          rfl
        refine done_ (by kernel_rfl) ?_
        clear hHeld
        go_wp2_with fail
        go_roundw
        case rel => exact ⟨k + 1, by omega, by go_num, HTe, HBe⟩
        case measure => simp [intOf]; omega
      · have hpk := Hx1.out (by omega)
        have d2 : decide (cmpT x t < 0) = false := decide_eq_false hx
        have Hx4 := Lib.hid (Hx3.out hpk)
        clear hx Hx1 Hx2 Hx3 hpk
        refine take_ (i := 8) (N := some 14) (v := ?_) (a' := ?_) #[true, true, true, true, true, true, true, true, true, false, false, false, false] rfl rfl (by kernel_rfl) (fun _ _ _ h => h) (Or.inl ⟨by rfl, ?_⟩) hHeld ?_ ?_
        rotate_left
        · rintro w' ⟨⟨s0, s1, s2, s3, s4, s5, s6⟩, ⟨t0, t1, t2, t3, t4, t5, t6⟩⟩
          go_simp
          with_reducible rfl
        rotate_left
        · simp only [Act.put, List.setIfInBounds_toArray, List.set_cons_zero, List.set_cons_succ, i64_w, i32_w]
          rfl
        refine take_ (i := 9) (N := some 15) (v := ?_) (a' := ?_) #[true, true, true, true, true, true, true, true, true, true, false, false, false] rfl rfl (by kernel_rfl) (fun _ _ _ h => h) (Or.inl ⟨by rfl, ?_⟩) hHeld ?_ ?_
        rotate_left
        · rintro w' ⟨⟨s0, s1, s2, s3, s4, s5, s6⟩, ⟨t0, t1, t2, t3, t4, t5, t6⟩⟩
          go_simp
          with_reducible rfl
        rotate_left
        · simp only [Act.put, List.setIfInBounds_toArray, List.set_cons_zero, List.set_cons_succ, i64_w, i32_w]
          rfl
        refine one_ (i := 10) (N := some 16) #[true, true, true, true, true, true, true, true, true, true, true, false, false] rfl rfl (by kernel_rfl) (by decide) (fun K hK => ?_)
        refine goes_ Try.func25 (by kernel_rfl) rfl #[.agg (tcells x), .agg (tcells t)] (by rfl) rfl rfl (by (try simp only [List.map_toArray, List.map_cons, List.map_nil]); first | done | rfl) ?_
        refine (refcmp_c' x t _).mono ?_
        rintro e we ⟨rfl, hb⟩
        have HBe := Lib.hid (HBd.out.trans (hb.mono HBd.out.size))
        have HTe := Lib.hid (blk_below HTd.out hb)
        refine ⟨_, rfl, hK.out _ _ ⟨HAt.out _ HBe.out, C7.of35 HTe.out⟩ (fun hHeld => ?_)⟩
        clear hK K hb HBd HTd
        refine norm_ (a' := ?_) ?_ ?_
        rotate_left
        · simp only [Act.put, List.setIfInBounds_toArray, List.set_cons_zero, List.set_cons_succ, i64_w, i32_w]
          rfl
        refine pure_ (i := 11) (N := some 17) (v := ?_) (a' := ?_) #[true, true, true, true, true, true, true, true, true, true, true, true, false] rfl rfl (by kernel_rfl) (fun _ _ _ h => h) (Or.inl ⟨by rfl, ?_⟩) ?_ ?_
        rotate_left
        · intro w'
          go_simp
          with_reducible rfl
        rotate_left
        · simp only [Act.put, List.setIfInBounds_toArray, List.set_cons_zero, List.set_cons_succ, i64_w, i32_w]
          rfl
        refine pure_ (i := 12) (N := some 18) (v := ?_) (a' := ?_) #[true, true, true, true, true, true, true, true, true, true, true, true, true] rfl rfl (by kernel_rfl) (fun _ _ _ h => h) (Or.inl ⟨by rfl, ?_⟩) ?_ ?_
        rotate_left
        · intro w'
          go_simp
          with_reducible rfl
        rotate_left
        · simp only [Act.put, List.setIfInBounds_toArray, List.set_cons_zero, List.set_cons_succ, i64_w, i32_w]
          rfl
        refine done_ (by kernel_rfl) ?_
        clear hHeld
        clear d2
        go_wp2_with fail
        have HTr := HTe
        have HBr2 := HBe
        have i1 : (0 : Int) ≤ (k : Int) := by omega
        have i2 : (k : Int) < (l.length : Int) := by omega
        have HBd := Lib.hid HBr2.out.drew
        have HTd := Lib.hid (blk_below HTr.out (below_drew (Below.refl _ _)))
        refine start_ (n := 13) (S := fun W => CA W (ad.add (k * 7)) x ∧ C7 W gt t) (ds := []) #[false, false, false, false, false, false, false, false, false, false, false, false, false] (by kernel_rfl) rfl rfl ⟨HAt.out _ HBd.out, C7.of35 HTd.out⟩ (fun hHeld => ?_)
        generalize we.drew = wd at *
        refine pure_ (i := 0) (N := some 21) (v := ?_) (a' := ?_) #[true, false, false, false, false, false, false, false, false, false, false, false, false] rfl rfl (by kernel_rfl) (fun _ _ _ h => h) (Or.inl ⟨by rfl, ?_⟩) ?_ ?_
        rotate_left
        · intro w'
          go_simp
          with_reducible rfl
        rotate_left
        · simp only [Act.put, List.setIfInBounds_toArray, List.set_cons_zero, List.set_cons_succ, i64_w, i32_w]
          rfl
        refine pure_ (i := 1) (N := some 22) (v := ?_) (a' := ?_) #[true, true, false, false, false, false, false, false, false, false, false, false, false] rfl rfl (by kernel_rfl) (fun _ _ _ h => h) (Or.inl ⟨by rfl, ?_⟩) ?_ ?_
        rotate_left
        · intro w'
          go_simp
          with_reducible rfl
        rotate_left
        · simp only [Act.put, List.setIfInBounds_toArray, List.set_cons_zero, List.set_cons_succ, i64_w, i32_w]
          rfl
        refine pure_ (i := 2) (N := some 23) (v := ?_) (a' := ?_) #[true, true, true, false, false, false, false, false, false, false, false, false, false] rfl rfl (by kernel_rfl) (fun _ _ _ h => h) (Or.inl ⟨by rfl, ?_⟩) ?_ ?_
        rotate_left
        · intro w'
          go_simp
          with_reducible rfl
        rotate_left
        · simp only [Act.put, List.setIfInBounds_toArray, List.set_cons_zero, List.set_cons_succ, i64_w, i32_w]
          rfl
        refine pure_ (i := 3) (N := some 24) (v := ?_) (a' := ?_) #[true, true, true, true, false, false, false, false, false, false, false, false, false] rfl rfl (by kernel_rfl) (fun _ _ _ h => h) (Or.inl ⟨by rfl, ?_⟩) ?_ ?_
        rotate_left
        · intro w'
          go_simp
          with_reducible rfl
        rotate_left
        · simp only [Act.put, List.setIfInBounds_toArray, List.set_cons_zero, List.set_cons_succ, i64_w, i32_w]
          rfl
        refine pure_ (i := 4) (N := some 25) (v := ?_) (a' := ?_) #[true, true, true, true, true, false, false, false, false, false, false, false, false] rfl rfl (by kernel_rfl) (fun _ _ _ h => h) (Or.inl ⟨by rfl, ?_⟩) ?_ ?_
        rotate_left
        · intro w'
          go_simp
          with_reducible rfl
        rotate_left
        · simp only [Act.put, List.setIfInBounds_toArray, List.set_cons_zero, List.set_cons_succ, i64_w, i32_w]
          rfl
        refine pure_ (i := 5) (N := some 26) (v := ?_) (a' := ?_) #[true, true, true, true, true, true, false, false, false, false, false, false, false] rfl rfl (by kernel_rfl) (fun _ _ _ h => h) (Or.inl ⟨by rfl, ?_⟩) ?_ ?_
        rotate_left
        · intro w'
          go_simp
          with_reducible rfl
        rotate_left
        · simp only [Act.put, List.setIfInBounds_toArray, List.set_cons_zero, List.set_cons_succ, i64_w, i32_w]
          rfl
        refine pure_ (i := 6) (N := some 27) (v := ?_) (a' := ?_) #[true, true, true, true, true, true, true, false, false, false, false, false, false] rfl rfl (by kernel_rfl) (fun _ _ _ h => h) (Or.inl ⟨by rfl, ?_⟩) ?_ ?_
        rotate_left
        · intro w'
          go_simp
          with_reducible rfl
        rotate_left
        · simp only [Act.put, List.setIfInBounds_toArray, List.set_cons_zero, List.set_cons_succ, i64_w, i32_w]
          rfl
        refine pure_ (i := 7) (N := some 28) (v := ?_) (a' := ?_) #[true, true, true, true, true, true, true, true, false, false, false, false, false] rfl rfl (by kernel_rfl) (fun _ _ _ h => h) (Or.inl ⟨by rfl, ?_⟩) ?_ ?_
        rotate_left
        · intro w'
          go_simp
          with_reducible rfl
        rotate_left
        · simp only [Act.put, List.setIfInBounds_toArray, List.set_cons_zero, List.set_cons_succ, i64_w, i32_w]
          rfl
        clear i1 i2
        by_cases h0 : cmpT x t = 0
        · have hins := Hx4.out.1 h0
          have d3 : (cmpT x t == 0) = true := beq_iff_eq.2 h0
          have Hins := Lib.hid hins
          clear h0 hins Hx4
          refine take_ (i := 8) (N := some 29) (v := ?_) (a' := ?_) #[true, true, true, true, true, true, true, true, true, false, false, false, false] rfl rfl (by kernel_rfl) (fun _ _ _ h => h) (Or.inl ⟨by rfl, ?_⟩) hHeld ?_ ?_
          rotate_left
          · rintro w' ⟨⟨s0, s1, s2, s3, s4, s5, s6⟩, ⟨t0, t1, t2, t3, t4, t5, t6⟩⟩
            go_simp
            with_reducible rfl
          rotate_left
          · simp only [Act.put, List.setIfInBounds_toArray, List.set_cons_zero, List.set_cons_succ, i64_w, i32_w]
            rfl
          refine take_ (i := 9) (N := some 30) (v := ?_) (a' := ?_) #[true, true, true, true, true, true, true, true, true, true, false, false, false] rfl rfl (by kernel_rfl) (fun _ _ _ h => h) (Or.inl ⟨by rfl, ?_⟩) hHeld ?_ ?_
          rotate_left
          · rintro w' ⟨⟨s0, s1, s2, s3, s4, s5, s6⟩, ⟨t0, t1, t2, t3, t4, t5, t6⟩⟩
            go_simp
            with_reducible rfl
          rotate_left
          · simp only [Act.put, List.setIfInBounds_toArray, List.set_cons_zero, List.set_cons_succ, i64_w, i32_w]
            rfl
          refine one_ (i := 10) (N := some 31) #[true, true, true, true, true, true, true, true, true, true, true, false, false] rfl rfl (by kernel_rfl) (by decide) (fun K hK => ?_)
          refine goes_ Try.func25 (by kernel_rfl) rfl #[.agg (tcells x), .agg (tcells t)] (by rfl) rfl rfl (by (try simp only [List.map_toArray, List.map_cons, List.map_nil]); first | done | rfl) ?_
          refine (refcmp_c' x t _).mono ?_
          rintro e we ⟨rfl, hb⟩
          have HBe := Lib.hid (HBd.out.trans (hb.mono HBd.out.size))
          have HTe := Lib.hid (blk_below HTd.out hb)
          refine ⟨_, rfl, hK.out _ _ ⟨HAt.out _ HBe.out, C7.of35 HTe.out⟩ (fun hHeld => ?_)⟩
          clear hK K hb HBd HTd
          refine norm_ (a' := ?_) ?_ ?_
          rotate_left
          · simp only [Act.put, List.setIfInBounds_toArray, List.set_cons_zero, List.set_cons_succ, i64_w, i32_w]
            rfl
          refine pure_ (i := 11) (N := some 32) (v := ?_) (a' := ?_) #[true, true, true, true, true, true, true, true, true, true, true, true, false] rfl rfl (by kernel_rfl) (fun _ _ _ h => h) (Or.inl ⟨by rfl, ?_⟩) ?_ ?_
          rotate_left
          · intro w'
            go_simp
            with_reducible rfl
          rotate_left
          · simp only [Act.put, List.setIfInBounds_toArray, List.set_cons_zero, List.set_cons_succ, i64_w, i32_w]
            rfl
          refine pure_ (i := 12) (N := some 33) (v := ?_) (a' := ?_) #[true, true, true, true, true, true, true, true, true, true, true, true, true] rfl rfl (by kernel_rfl) (fun _ _ _ h => h) (Or.inl ⟨by rfl, ?_⟩) ?_ ?_
          rotate_left
          · intro w'
            go_simp
            with_reducible rfl
          rotate_left
          · simp only [Act.put, List.setIfInBounds_toArray, List.set_cons_zero, List.set_cons_succ, i64_w, i32_w]
            rfl
          refine done_ (by kernel_rfl) ?_
          clear hHeld
          clear d3
          go_wp2_with fail
          go_ret
          exact ⟨HBe.out, .inl ⟨rfl, Hins.out⟩⟩
        · have hins := Hx4.out.2 h0
          have d3 : (cmpT x t == 0) = false := beq_eq_false_iff_ne.2 h0
          have Hins := Lib.hid hins
          clear h0 hins Hx4
          refine take_ (i := 8) (N := some 29) (v := ?_) (a' := ?_) #[true, true, true, true, true, true, true, true, true, false, false, false, false] rfl rfl (by kernel_rfl) (fun _ _ _ h => h) (Or.inl ⟨by rfl, ?_⟩) hHeld ?_ ?_
          rotate_left
          · rintro w' ⟨⟨s0, s1, s2, s3, s4, s5, s6⟩, ⟨t0, t1, t2, t3, t4, t5, t6⟩⟩
            go_simp
            with_reducible rfl
          rotate_left
          · simp only [Act.put, List.setIfInBounds_toArray, List.set_cons_zero, List.set_cons_succ, i64_w, i32_w]
            rfl
          refine take_ (i := 9) (N := some 30) (v := ?_) (a' := ?_) #[true, true, true, true, true, true, true, true, true, true, false, false, false] rfl rfl (by kernel_rfl) (fun _ _ _ h => h) (Or.inl ⟨by rfl, ?_⟩) hHeld ?_ ?_
          rotate_left
          · rintro w' ⟨⟨s0, s1, s2, s3, s4, s5, s6⟩, ⟨t0, t1, t2, t3, t4, t5, t6⟩⟩
            go_simp
            with_reducible rfl
          rotate_left
          · simp only [Act.put, List.setIfInBounds_toArray, List.set_cons_zero, List.set_cons_succ, i64_w, i32_w]
            rfl
          refine one_ (i := 10) (N := some 31) #[true, true, true, true, true, true, true, true, true, true, true, false, false] rfl rfl (by kernel_rfl) (by decide) (fun K hK => ?_)
          refine goes_ Try.func25 (by kernel_rfl) rfl #[.agg (tcells x), .agg (tcells t)] (by rfl) rfl rfl (by (try simp only [List.map_toArray, List.map_cons, List.map_nil]); first | done | rfl) ?_
          refine (refcmp_c' x t _).mono ?_
          rintro e we ⟨rfl, hb⟩
          have HBe := Lib.hid (HBd.out.trans (hb.mono HBd.out.size))
          have HTe := Lib.hid (blk_below HTd.out hb)
          refine ⟨_, rfl, hK.out _ _ ⟨HAt.out _ HBe.out, C7.of35 HTe.out⟩ (fun hHeld => ?_)⟩
          clear hK K hb HBd HTd
          refine norm_ (a' := ?_) ?_ ?_
          rotate_left
          · simp only [Act.put, List.setIfInBounds_toArray, List.set_cons_zero, List.set_cons_succ, i64_w, i32_w]
            rfl
          refine pure_ (i := 11) (N := some 32) (v := ?_) (a' := ?_) #[true, true, true, true, true, true, true, true, true, true, true, true, false] rfl rfl (by kernel_rfl) (fun _ _ _ h => h) (Or.inl ⟨by rfl, ?_⟩) ?_ ?_
          rotate_left
          · intro w'
            go_simp
            with_reducible rfl
          rotate_left
          · simp only [Act.put, List.setIfInBounds_toArray, List.set_cons_zero, List.set_cons_succ, i64_w, i32_w]
            rfl
          refine pure_ (i := 12) (N := some 33) (v := ?_) (a' := ?_) #[true, true, true, true, true, true, true, true, true, true, true, true, true] rfl rfl (by kernel_rfl) (fun _ _ _ h => h) (Or.inl ⟨by rfl, ?_⟩) ?_ ?_
          rotate_left
          · intro w'
            go_simp
            with_reducible rfl
          rotate_left
          · simp only [Act.put, List.setIfInBounds_toArray, List.set_cons_zero, List.set_cons_succ, i64_w, i32_w]
            rfl
          refine done_ (by kernel_rfl) ?_
          clear hHeld
          clear d3 HAt
          go_wp2_with fail
          have hs1 : ∀ w, (Instr.slice 26 (.slice (some ad) l.length c) none (some (.int .i64 k)) none).run Try.prog w = .ok (.slice (some ad) k c) w := run_head26 (some ad) l.length c k (by omega)
          have hs2 : ∀ w, (Instr.slice 26 (.slice (some ad) l.length c) (some (.int .i64 k)) none none).run Try.prog w = .ok (.slice (tlk (some ad) k c) (l.length - k) (c - k)) w := run_from26 (some ad) l.length c k (by omega)
          have HBa := Lib.hid (HBe.out.drew)
          have HTa := Lib.hid (blk_below HTe.out (below_drew (Below.refl _ _)))
          clear HBe HTe
          refine start_ (n := 13) (S := fun W => C7 W gt t) (ds := [11]) #[false, false, false, false, false, false, false, false, false, false, false, false, false] (by kernel_rfl) rfl rfl (C7.of35 HTa.out) (fun hHeld => ?_)
          generalize we.drew = wa at *
          refine pure_ (i := 1) (N := some 36) (v := ?_) (a' := ?_) #[false, true, false, false, false, false, false, false, false, false, false, false, false] rfl rfl (by kernel_rfl) (fun _ _ _ h => h) (Or.inl ⟨by rfl, ?_⟩) ?_ ?_
          rotate_left
          · intro w'
            go_simp
            with_reducible rfl
          rotate_left
          · simp only [Act.put, List.setIfInBounds_toArray, List.set_cons_zero, List.set_cons_succ, i64_w, i32_w]
            rfl
          refine pure_ (i := 2) (N := some 37) (v := ?_) (a' := ?_) #[false, true, true, false, false, false, false, false, false, false, false, false, false] rfl rfl (by kernel_rfl) (fun _ _ _ h => h) (Or.inl ⟨by rfl, ?_⟩) ?_ ?_
          rotate_left
          · intro w'
            go_simp
            with_reducible rfl
          rotate_left
          · simp only [Act.put, List.setIfInBounds_toArray, List.set_cons_zero, List.set_cons_succ, i64_w, i32_w]
            rfl
          refine pure_ (i := 3) (N := some 38) (v := ?_) (a' := ?_) #[false, true, true, true, false, false, false, false, false, false, false, false, false] rfl rfl (by kernel_rfl) (fun _ _ _ h => h) (Or.inl ⟨by rfl, ?_⟩) ?_ ?_
          rotate_left
          · intro w'
            go_simp
            with_reducible rfl
          rotate_left
          · simp only [Act.put, List.setIfInBounds_toArray, List.set_cons_zero, List.set_cons_succ, i64_w, i32_w]
            rfl
          refine pure_ (i := 8) (N := some 43) (v := ?_) (a' := ?_) #[false, true, true, true, false, false, false, false, true, false, false, false, false] rfl rfl (by kernel_rfl) (fun _ _ _ h => h) (Or.inl ⟨by rfl, ?_⟩) ?_ ?_
          rotate_left
          · intro w'
            go_simp
            with_reducible rfl
          rotate_left
          · simp only [Act.put, List.setIfInBounds_toArray, List.set_cons_zero, List.set_cons_succ, i64_w, i32_w]
            rfl
          refine pure_ (i := 9) (N := some 44) (v := ?_) (a' := ?_) #[false, true, true, true, false, false, false, false, true, true, false, false, false] rfl rfl (by kernel_rfl) (fun _ _ _ h => h) (Or.inl ⟨by rfl, ?_⟩) ?_ ?_
          rotate_left
          · intro w'
            go_simp
            with_reducible rfl
          rotate_left
          · simp only [Act.put, List.setIfInBounds_toArray, List.set_cons_zero, List.set_cons_succ, i64_w, i32_w]
            rfl
          refine pure_ (i := 10) (N := some 45) (v := ?_) (a' := ?_) #[false, true, true, true, false, false, false, false, true, true, true, false, false] rfl rfl (by kernel_rfl) (fun _ _ _ h => h) (Or.inl ⟨by rfl, ?_⟩) ?_ ?_
          rotate_left
          · intro w'
            go_simp
            with_reducible rfl
          rotate_left
          · simp only [Act.put, List.setIfInBounds_toArray, List.set_cons_zero, List.set_cons_succ, i64_w, i32_w]
            rfl
          clear hs1 hs2
          refine take_ (i := 5) (N := some 40) (v := ?_) (a' := ?_) #[false, true, true, true, false, true, false, false, true, true, true, false, false] rfl rfl (by kernel_rfl) (fun _ _ _ h => h) (Or.inl ⟨by rfl, ?_⟩) hHeld ?_ ?_
          rotate_left
          · rintro w' ⟨s0, s1, s2, s3, s4, s5, s6⟩
            go_simp
            with_reducible rfl
          rotate_left
          · simp only [Act.put, List.setIfInBounds_toArray, List.set_cons_zero, List.set_cons_succ, i64_w, i32_w]
            rfl
          refine two_ (i := 0) (j := 6) (Ni := some 35) (Nj := some 41) #[true, true, true, true, false, true, false, false, true, true, true, false, false] #[false, true, true, true, false, true, true, false, true, true, true, false, false] rfl rfl rfl rfl (by kernel_rfl) (by decide) (by decide) (fun K hK => ?_) (fun K hK => ?_)
          · skip
            refine value_ (v := .slice (some ⟨wa.heap.size, 0, none⟩) 0 0) (w1 := wa.alloc (.cells #[] 35)) (by rfl) rfl ?_ ?_
            · go_simp
            have hbl := (Below.refl wa.heap.size wa).alloc (Nat.le_refl _) (.cells #[] 35)
            have HE := Lib.hid (R_none35 wa w.heap.size HBa.out.size (fun _ => True) trivial)
            have Hge : Hid (some gt ≠ (Value.slice (some ⟨wa.heap.size, 0, none⟩) 0 0).ownBlock) := Lib.hid (by have := blk_lt HTa.out; simp [Value.ownBlock]; omega)
            have HTa := Lib.hid (blk_below HTa.out hbl)
            have HBa := Lib.hid (HBa.out.trans (hbl.mono HBa.out.size))
            refine hK.out _ _ (C7.of35 HTa.out) (fun hHeld => ?_)
            clear hK K
            refine norm_ (a' := ?_) ?_ ?_
            rotate_left
            · simp only [Act.put, List.setIfInBounds_toArray, List.set_cons_zero, List.set_cons_succ, i64_w, i32_w]
              rfl
            generalize wa.alloc (.cells #[] 35) = wc at *
            generalize wa.heap.size = ge at *
            clear hbl
            refine two_ (i := 4) (j := 6) (Ni := some 39) (Nj := some 41) #[true, true, true, true, true, true, false, false, true, true, true, false, false] #[true, true, true, true, false, true, true, false, true, true, true, false, false] rfl rfl rfl rfl (by kernel_rfl) (by decide) (by decide) (fun K hK => ?_) (fun K hK => ?_)
            · skip
              refine Kd.R_append_rows_step k35 (Rr := k35.K wc) (w0 := w) w.heap.size (by rfl) (.tmp 35) (.tmp 38) 26 35 (.agg #[.string ByteArray.empty, .int .i64 0, .int .i64 0, .int .i64 0, .int .i64 0, .int .i64 0, .int .i64 0]) 64 rfl Try.underlying26 info35 rfl (by decide) (by omega) (.slice (some ⟨ge, 0, none⟩) 0 0) [] ((l.map p35).take k) (some ad) k c (fun _ => True) (fun _ => False) rfl rfl HE.out (C_take (Kd.C_below HL.out HBa.out) k (by omega)) ?aK (fun _ hk => hk.elim) (fun _ _ => trivial) HBa.out HBa.out.size (by simp; omega) ?_
              case aK => exact fun y cs h => by obtain rfl := k35_open h; exact k35_mkM _ _ _ y
              intro v1 w5 ho1 hB1 hg1 hat1
              rw [List.nil_append] at ho1
              show K (Act.put _ (some 39) v1) w5
              have Hgr : Hid (some gt ≠ v1.ownBlock) := Lib.hid (by
                rcases hat1 with h | ⟨b, h, hb⟩
                · rw [h]; exact Hge.out
                · rw [h]
                  intro e
                  have := blk_lt HTa.out
                  injection e with e
                  omega)
              have HT5 := Lib.hid (blk_grown HTa.out hg1 Hge.out)
              have HR5 := Lib.hid ho1
              have HB5 := Lib.hid hB1
              refine hK.out _ _ (C7.of35 HT5.out) (fun hHeld => ?_)
              clear hK K ho1 hB1 hg1 hat1 HTa HBa HE Hge
              have HTa := HT5
              have HBa := HB5
              clear HT5 HB5
              refine norm_ (a' := ?_) ?_ ?_
              rotate_left
              · simp only [Act.put, List.setIfInBounds_toArray, List.set_cons_zero, List.set_cons_succ, i64_w, i32_w]
                rfl
              refine one_ (i := 6) (N := some 41) #[true, true, true, true, true, true, true, false, true, true, true, false, false] rfl rfl (by kernel_rfl) (by decide) (fun K hK => ?_)
              refine value_ (v := .slice (some ⟨w5.heap.size, 0, none⟩) 1 1) (w1 := w5.alloc (.cells (tcells t) 35)) (by rfl) rfl ?_ ?_
              · go_simp
                rfl
              have hbl := (Below.refl w5.heap.size w5).alloc (Nat.le_refl _) (.cells (tcells t) 35)
              have HLt := Lib.hid (blk_new w5 (.cells (tcells t) 35))
              have HTa := Lib.hid (blk_below HTa.out hbl)
              have HBa := Lib.hid (HBa.out.trans (hbl.mono HBa.out.size))
              refine hK.out _ _ (C7.of35 HTa.out) (fun hHeld => ?_)
              clear hK K
              refine norm_ (a' := ?_) ?_ ?_
              rotate_left
              · simp only [Act.put, List.setIfInBounds_toArray, List.set_cons_zero, List.set_cons_succ, i64_w, i32_w]
                rfl
              generalize w5.alloc (.cells (tcells t) 35) = wc2 at *
              have HR5 := Lib.hid (Kd.R_below HR5.out hbl)
              generalize w5.heap.size = gl at *
              clear hbl
              refine one_ (i := 7) (N := some 42) #[true, true, true, true, true, true, true, true, true, true, true, false, false] rfl rfl (by kernel_rfl) (by decide) (fun K hK => ?_)
              refine Kd.R_append_rows_step k35 (Rr := k35.K wc2) (w0 := w) w.heap.size (by rfl) (.tmp 39) (.tmp 41) 26 35 (.agg #[.string ByteArray.empty, .int .i64 0, .int .i64 0, .int .i64 0, .int .i64 0, .int .i64 0, .int .i64 0]) 64 rfl Try.underlying26 info35 rfl (by decide) (by omega) v1 ((l.map p35).take k) [p35 t] (some ⟨gl, 0, none⟩) 1 1 (fun _ => True) (fun _ => False) rfl rfl HR5.out (C_one35 HLt.out) ?aK (fun _ hk => hk.elim) (fun _ _ => trivial) HBa.out HBa.out.size (by simp; omega) ?_
              case aK => exact fun y cs h => by obtain rfl := k35_open h; exact k35_mkM _ _ _ y
              intro v2 w6 ho1 hB1 hg1 hat1
              show K (Act.put _ (some 42) v2) w6
              have HT6 := Lib.hid (blk_grown HTa.out hg1 Hgr.out)
              have HR6 := Lib.hid ho1
              have HB6 := Lib.hid hB1
              refine hK.out _ _ (C7.of35 HT6.out) (fun hHeld => ?_)
              clear hK K ho1 hB1 hg1 hat1 HR5 HLt HBa HTa
              refine norm_ (a' := ?_) ?_ ?_
              rotate_left
              · simp only [Act.put, List.setIfInBounds_toArray, List.set_cons_zero, List.set_cons_succ, i64_w, i32_w]
                rfl
              refine last_ (i := 11) (N := some 46) #[true, true, true, true, true, true, true, true, true, true, true, true, false] rfl rfl (by kernel_rfl) (by decide) (fun K hK => ?_)
              refine Kd.R_append_rows_step k35 (Rr := k35.K w6) (w0 := w) w.heap.size (by rfl) (.tmp 42) (.tmp 45) 26 35 (.agg #[.string ByteArray.empty, .int .i64 0, .int .i64 0, .int .i64 0, .int .i64 0, .int .i64 0, .int .i64 0]) 64 rfl Try.underlying26 info35 rfl (by decide) (by omega) v2 ((l.map p35).take k ++ [p35 t]) ((l.map p35).drop k) (tlk (some ad) k c) (l.length - k) (c - k) (fun _ => True) (fun _ => False) rfl rfl HR6.out (C_drop (Kd.C_below HL.out HB6.out) k (by omega) (tlk (some ad) k c) (fun hlt ad e => by unfold tlk; rw [if_neg (by omega), e]; rfl)) ?aK (fun _ hk => hk.elim) (fun _ _ => trivial) HB6.out HB6.out.size (by simp; omega) ?_
              case aK => exact fun y cs h => by obtain rfl := k35_open h; exact k35_mkM _ _ _ y
              intro v3 w7 ho1 hB1 hg1 hat1
              show K (Act.put _ (some 46) v3) w7
              have HR7 := Lib.hid ho1
              have HB7 := Lib.hid hB1
              refine hK.out _ _ ?_
              clear hK K ho1 hB1 hg1 hat1 HR6 HB6 HT6
              refine norm_ (a' := ?_) ?_ ?_
              rotate_left
              · simp only [Act.put, List.setIfInBounds_toArray, List.set_cons_zero, List.set_cons_succ, i64_w, i32_w]
                rfl
              refine pure_ (i := 12) (N := some 4) (v := ?_) (a' := ?_) #[true, true, true, true, true, true, true, true, true, true, true, true, true] rfl rfl (by kernel_rfl) (fun _ _ _ h => h) (Or.inl ⟨by rfl, ?_⟩) ?_ ?_
              rotate_left
              · intro w'
                go_simp
                with_reducible rfl
              rotate_left
              · simp only [Act.put, List.setIfInBounds_toArray, List.set_cons_zero, List.set_cons_succ, i64_w, i32_w]
                rfl
              refine done_ (by kernel_rfl) ?_
              go_wp2_with fail
              go_ret
              refine ⟨HB7.out, .inr ⟨_, rfl, ?_⟩⟩
              rw [Hins.out, List.map_append, List.map_append, List.map_take, List.map_drop]
              exact HR7.out
            · skip
              refine value_ (v := .slice (some ⟨wc.heap.size, 0, none⟩) 1 1) (w1 := wc.alloc (.cells (tcells t) 35)) (by rfl) rfl ?_ ?_
              · go_simp
                rfl
              have hbl := (Below.refl wc.heap.size wc).alloc (Nat.le_refl _) (.cells (tcells t) 35)
              have HLt := Lib.hid (blk_new wc (.cells (tcells t) 35))
              have HTa := Lib.hid (blk_below HTa.out hbl)
              have HBa := Lib.hid (HBa.out.trans (hbl.mono HBa.out.size))
              refine hK.out _ _ (C7.of35 HTa.out) (fun hHeld => ?_)
              clear hK K
              refine norm_ (a' := ?_) ?_ ?_
              rotate_left
              · simp only [Act.put, List.setIfInBounds_toArray, List.set_cons_zero, List.set_cons_succ, i64_w, i32_w]
                rfl
              have Hgel : Hid (some wc.heap.size ≠ (Value.slice (some ⟨ge, 0, none⟩) 0 0).ownBlock) := Lib.hid (by have := Kd.R_lt HE.out ge rfl; simp [Value.ownBlock]; omega)
              have HE := Lib.hid (Kd.R_below HE.out hbl)
              clear hbl
              generalize wc.alloc (.cells (tcells t) 35) = wn at *
              generalize wc.heap.size = gl at *
              refine one_ (i := 4) (N := some 39) #[true, true, true, true, true, true, true, false, true, true, true, false, false] rfl rfl (by kernel_rfl) (by decide) (fun K hK => ?_)
              refine Kd.R_append_rows_step k35 (Rr := k35.K wn) (w0 := w) w.heap.size (by rfl) (.tmp 35) (.tmp 38) 26 35 (.agg #[.string ByteArray.empty, .int .i64 0, .int .i64 0, .int .i64 0, .int .i64 0, .int .i64 0, .int .i64 0]) 64 rfl Try.underlying26 info35 rfl (by decide) (by omega) (.slice (some ⟨ge, 0, none⟩) 0 0) [] ((l.map p35).take k) (some ad) k c (fun _ => True) (fun _ => False) rfl rfl HE.out (C_take (Kd.C_below HL.out HBa.out) k (by omega)) ?aK (fun _ hk => hk.elim) (fun _ _ => trivial) HBa.out HBa.out.size (by simp; omega) ?_
              case aK => exact fun y cs h => by obtain rfl := k35_open h; exact k35_mkM _ _ _ y
              intro v1 w5 ho1 hB1 hg1 hat1
              rw [List.nil_append] at ho1
              show K (Act.put _ (some 39) v1) w5
              have Hgr : Hid (some gt ≠ v1.ownBlock) := Lib.hid (by
                rcases hat1 with h | ⟨b, h, hb⟩
                · rw [h]; exact Hge.out
                · rw [h]
                  intro e
                  have := blk_lt HTa.out
                  injection e with e
                  omega)
              have HT5 := Lib.hid (blk_grown HTa.out hg1 Hge.out)
              have HR5 := Lib.hid ho1
              have HB5 := Lib.hid hB1
              refine hK.out _ _ (C7.of35 HT5.out) (fun hHeld => ?_)
              have HLt := Lib.hid (blk_grown HLt.out hg1 Hgel.out)
              clear hK K ho1 hB1 hg1 hat1 HTa HBa HE Hge
              have HTa := HT5
              have HBa := HB5
              clear HT5 HB5
              refine norm_ (a' := ?_) ?_ ?_
              rotate_left
              · simp only [Act.put, List.setIfInBounds_toArray, List.set_cons_zero, List.set_cons_succ, i64_w, i32_w]
                rfl
              refine one_ (i := 7) (N := some 42) #[true, true, true, true, true, true, true, true, true, true, true, false, false] rfl rfl (by kernel_rfl) (by decide) (fun K hK => ?_)
              refine Kd.R_append_rows_step k35 (Rr := k35.K w5) (w0 := w) w.heap.size (by rfl) (.tmp 39) (.tmp 41) 26 35 (.agg #[.string ByteArray.empty, .int .i64 0, .int .i64 0, .int .i64 0, .int .i64 0, .int .i64 0, .int .i64 0]) 64 rfl Try.underlying26 info35 rfl (by decide) (by omega) v1 ((l.map p35).take k) [p35 t] (some ⟨gl, 0, none⟩) 1 1 (fun _ => True) (fun _ => False) rfl rfl HR5.out (C_one35 HLt.out) ?aK (fun _ hk => hk.elim) (fun _ _ => trivial) HBa.out HBa.out.size (by simp; omega) ?_
              case aK => exact fun y cs h => by obtain rfl := k35_open h; exact k35_mkM _ _ _ y
              intro v2 w6 ho1 hB1 hg1 hat1
              show K (Act.put _ (some 42) v2) w6
              have HT6 := Lib.hid (blk_grown HTa.out hg1 Hgr.out)
              have HR6 := Lib.hid ho1
              have HB6 := Lib.hid hB1
              refine hK.out _ _ (C7.of35 HT6.out) (fun hHeld => ?_)
              clear hK K ho1 hB1 hg1 hat1 HR5 HLt HBa HTa
              refine norm_ (a' := ?_) ?_ ?_
              rotate_left
              · simp only [Act.put, List.setIfInBounds_toArray, List.set_cons_zero, List.set_cons_succ, i64_w, i32_w]
                rfl
              refine last_ (i := 11) (N := some 46) #[true, true, true, true, true, true, true, true, true, true, true, true, false] rfl rfl (by kernel_rfl) (by decide) (fun K hK => ?_)
              refine Kd.R_append_rows_step k35 (Rr := k35.K w6) (w0 := w) w.heap.size (by rfl) (.tmp 42) (.tmp 45) 26 35 (.agg #[.string ByteArray.empty, .int .i64 0, .int .i64 0, .int .i64 0, .int .i64 0, .int .i64 0, .int .i64 0]) 64 rfl Try.underlying26 info35 rfl (by decide) (by omega) v2 ((l.map p35).take k ++ [p35 t]) ((l.map p35).drop k) (tlk (some ad) k c) (l.length - k) (c - k) (fun _ => True) (fun _ => False) rfl rfl HR6.out (C_drop (Kd.C_below HL.out HB6.out) k (by omega) (tlk (some ad) k c) (fun hlt ad e => by unfold tlk; rw [if_neg (by omega), e]; rfl)) ?aK (fun _ hk => hk.elim) (fun _ _ => trivial) HB6.out HB6.out.size (by simp; omega) ?_
              case aK => exact fun y cs h => by obtain rfl := k35_open h; exact k35_mkM _ _ _ y
              intro v3 w7 ho1 hB1 hg1 hat1
              show K (Act.put _ (some 46) v3) w7
              have HR7 := Lib.hid ho1
              have HB7 := Lib.hid hB1
              refine hK.out _ _ ?_
              clear hK K ho1 hB1 hg1 hat1 HR6 HB6 HT6
              refine norm_ (a' := ?_) ?_ ?_
              rotate_left
              · simp only [Act.put, List.setIfInBounds_toArray, List.set_cons_zero, List.set_cons_succ, i64_w, i32_w]
                rfl
              refine pure_ (i := 12) (N := some 4) (v := ?_) (a' := ?_) #[true, true, true, true, true, true, true, true, true, true, true, true, true] rfl rfl (by kernel_rfl) (fun _ _ _ h => h) (Or.inl ⟨by rfl, ?_⟩) ?_ ?_
              rotate_left
              · intro w'
                go_simp
                with_reducible rfl
              rotate_left
              · simp only [Act.put, List.setIfInBounds_toArray, List.set_cons_zero, List.set_cons_succ, i64_w, i32_w]
                rfl
              refine done_ (by kernel_rfl) ?_
              go_wp2_with fail
              go_ret
              refine ⟨HB7.out, .inr ⟨_, rfl, ?_⟩⟩
              rw [Hins.out, List.map_append, List.map_append, List.map_take, List.map_drop]
              exact HR7.out
          · skip
            refine value_ (v := .slice (some ⟨wa.heap.size, 0, none⟩) 1 1) (w1 := wa.alloc (.cells (tcells t) 35)) (by rfl) rfl ?_ ?_
            · go_simp
              rfl
            have hbl := (Below.refl wa.heap.size wa).alloc (Nat.le_refl _) (.cells (tcells t) 35)
            have HLt := Lib.hid (blk_new wa (.cells (tcells t) 35))
            have HTa := Lib.hid (blk_below HTa.out hbl)
            have HBa := Lib.hid (HBa.out.trans (hbl.mono HBa.out.size))
            refine hK.out _ _ (C7.of35 HTa.out) (fun hHeld => ?_)
            clear hK K
            refine norm_ (a' := ?_) ?_ ?_
            rotate_left
            · simp only [Act.put, List.setIfInBounds_toArray, List.set_cons_zero, List.set_cons_succ, i64_w, i32_w]
              rfl
            generalize wa.alloc (.cells (tcells t) 35) = wb at *
            generalize wa.heap.size = gl at *
            clear hbl
            refine one_ (i := 0) (N := some 35) #[true, true, true, true, false, true, true, false, true, true, true, false, false] rfl rfl (by kernel_rfl) (by decide) (fun K hK => ?_)
            refine value_ (v := .slice (some ⟨wb.heap.size, 0, none⟩) 0 0) (w1 := wb.alloc (.cells #[] 35)) (by rfl) rfl ?_ ?_
            · go_simp
            have hbl := (Below.refl wb.heap.size wb).alloc (Nat.le_refl _) (.cells #[] 35)
            have HE := Lib.hid (R_none35 wb w.heap.size HBa.out.size (fun _ => True) trivial)
            have Hge : Hid (some gt ≠ (Value.slice (some ⟨wb.heap.size, 0, none⟩) 0 0).ownBlock) := Lib.hid (by have := blk_lt HTa.out; simp [Value.ownBlock]; omega)
            have HTa := Lib.hid (blk_below HTa.out hbl)
            have HBa := Lib.hid (HBa.out.trans (hbl.mono HBa.out.size))
            refine hK.out _ _ (C7.of35 HTa.out) (fun hHeld => ?_)
            clear hK K
            refine norm_ (a' := ?_) ?_ ?_
            rotate_left
            · simp only [Act.put, List.setIfInBounds_toArray, List.set_cons_zero, List.set_cons_succ, i64_w, i32_w]
              rfl
            have Hgel : Hid (some gl ≠ (Value.slice (some ⟨wb.heap.size, 0, none⟩) 0 0).ownBlock) := Lib.hid (by have := blk_lt HLt.out; simp [Value.ownBlock]; omega)
            have HLt := Lib.hid (blk_below HLt.out hbl)
            generalize wb.alloc (.cells #[] 35) = wn at *
            generalize wb.heap.size = ge at *
            clear hbl
            refine one_ (i := 4) (N := some 39) #[true, true, true, true, true, true, true, false, true, true, true, false, false] rfl rfl (by kernel_rfl) (by decide) (fun K hK => ?_)
            refine Kd.R_append_rows_step k35 (Rr := k35.K wn) (w0 := w) w.heap.size (by rfl) (.tmp 35) (.tmp 38) 26 35 (.agg #[.string ByteArray.empty, .int .i64 0, .int .i64 0, .int .i64 0, .int .i64 0, .int .i64 0, .int .i64 0]) 64 rfl Try.underlying26 info35 rfl (by decide) (by omega) (.slice (some ⟨ge, 0, none⟩) 0 0) [] ((l.map p35).take k) (some ad) k c (fun _ => True) (fun _ => False) rfl rfl HE.out (C_take (Kd.C_below HL.out HBa.out) k (by omega)) ?aK (fun _ hk => hk.elim) (fun _ _ => trivial) HBa.out HBa.out.size (by simp; omega) ?_
            case aK => exact fun y cs h => by obtain rfl := k35_open h; exact k35_mkM _ _ _ y
            intro v1 w5 ho1 hB1 hg1 hat1
            rw [List.nil_append] at ho1
            show K (Act.put _ (some 39) v1) w5
            have Hgr : Hid (some gt ≠ v1.ownBlock) := Lib.hid (by
              rcases hat1 with h | ⟨b, h, hb⟩
              · rw [h]; exact Hge.out
              · rw [h]
                intro e
                have := blk_lt HTa.out
                injection e with e
                omega)
            have HT5 := Lib.hid (blk_grown HTa.out hg1 Hge.out)
            have HR5 := Lib.hid ho1
            have HB5 := Lib.hid hB1
            refine hK.out _ _ (C7.of35 HT5.out) (fun hHeld => ?_)
            have HLt := Lib.hid (blk_grown HLt.out hg1 Hgel.out)
            clear hK K ho1 hB1 hg1 hat1 HTa HBa HE Hge
            have HTa := HT5
            have HBa := HB5
            clear HT5 HB5
            refine norm_ (a' := ?_) ?_ ?_
            rotate_left
            · simp only [Act.put, List.setIfInBounds_toArray, List.set_cons_zero, List.set_cons_succ, i64_w, i32_w]
              rfl
            refine one_ (i := 7) (N := some 42) #[true, true, true, true, true, true, true, true, true, true, true, false, false] rfl rfl (by kernel_rfl) (by decide) (fun K hK => ?_)
            refine Kd.R_append_rows_step k35 (Rr := k35.K w5) (w0 := w) w.heap.size (by rfl) (.tmp 39) (.tmp 41) 26 35 (.agg #[.string ByteArray.empty, .int .i64 0, .int .i64 0, .int .i64 0, .int .i64 0, .int .i64 0, .int .i64 0]) 64 rfl Try.underlying26 info35 rfl (by decide) (by omega) v1 ((l.map p35).take k) [p35 t] (some ⟨gl, 0, none⟩) 1 1 (fun _ => True) (fun _ => False) rfl rfl HR5.out (C_one35 HLt.out) ?aK (fun _ hk => hk.elim) (fun _ _ => trivial) HBa.out HBa.out.size (by simp; omega) ?_
            case aK => exact fun y cs h => by obtain rfl := k35_open h; exact k35_mkM _ _ _ y
            intro v2 w6 ho1 hB1 hg1 hat1
            show K (Act.put _ (some 42) v2) w6
            have HT6 := Lib.hid (blk_grown HTa.out hg1 Hgr.out)
            have HR6 := Lib.hid ho1
            have HB6 := Lib.hid hB1
            refine hK.out _ _ (C7.of35 HT6.out) (fun hHeld => ?_)
            clear hK K ho1 hB1 hg1 hat1 HR5 HLt HBa HTa
            refine norm_ (a' := ?_) ?_ ?_
            rotate_left
            · simp only [Act.put, List.setIfInBounds_toArray, List.set_cons_zero, List.set_cons_succ, i64_w, i32_w]
              rfl
            refine last_ (i := 11) (N := some 46) #[true, true, true, true, true, true, true, true, true, true, true, true, false] rfl rfl (by kernel_rfl) (by decide) (fun K hK => ?_)
            refine Kd.R_append_rows_step k35 (Rr := k35.K w6) (w0 := w) w.heap.size (by rfl) (.tmp 42) (.tmp 45) 26 35 (.agg #[.string ByteArray.empty, .int .i64 0, .int .i64 0, .int .i64 0, .int .i64 0, .int .i64 0, .int .i64 0]) 64 rfl Try.underlying26 info35 rfl (by decide) (by omega) v2 ((l.map p35).take k ++ [p35 t]) ((l.map p35).drop k) (tlk (some ad) k c) (l.length - k) (c - k) (fun _ => True) (fun _ => False) rfl rfl HR6.out (C_drop (Kd.C_below HL.out HB6.out) k (by omega) (tlk (some ad) k c) (fun hlt ad e => by unfold tlk; rw [if_neg (by omega), e]; rfl)) ?aK (fun _ hk => hk.elim) (fun _ _ => trivial) HB6.out HB6.out.size (by simp; omega) ?_
            case aK => exact fun y cs h => by obtain rfl := k35_open h; exact k35_mkM _ _ _ y
            intro v3 w7 ho1 hB1 hg1 hat1
            show K (Act.put _ (some 46) v3) w7
            have HR7 := Lib.hid ho1
            have HB7 := Lib.hid hB1
            refine hK.out _ _ ?_
            clear hK K ho1 hB1 hg1 hat1 HR6 HB6 HT6
            refine norm_ (a' := ?_) ?_ ?_
            rotate_left
            · simp only [Act.put, List.setIfInBounds_toArray, List.set_cons_zero, List.set_cons_succ, i64_w, i32_w]
              rfl
            refine pure_ (i := 12) (N := some 4) (v := ?_) (a' := ?_) #[true, true, true, true, true, true, true, true, true, true, true, true, true] rfl rfl (by kernel_rfl) (fun _ _ _ h => h) (Or.inl ⟨by rfl, ?_⟩) ?_ ?_
            rotate_left
            · intro w'
              go_simp
              with_reducible rfl
            rotate_left
            · simp only [Act.put, List.setIfInBounds_toArray, List.set_cons_zero, List.set_cons_succ, i64_w, i32_w]
              rfl
            refine done_ (by kernel_rfl) ?_
            go_wp2_with fail
            go_ret
            refine ⟨HB7.out, .inr ⟨_, rfl, ?_⟩⟩
            rw [Hins.out, List.map_append, List.map_append, List.map_take, List.map_drop]
            exact HR7.out
    · have d1 : decide (k < l.length) = false := decide_eq_false hlt
      have d1' : decide ((k : Int) < (l.length : Int)) = false := decide_eq_false (by omega)
      have Hins : Hid (ins t l = l.take k ++ [t] ++ l.drop k) := Lib.hid (by
        have e : pos t l = k := by omega
        rw [(ins_pos t l).2 (fun hi => by omega), e])
      go_wp2_with fail
      go_quiet (fail)
      have HB1 := Lib.hid (pw_below_drewN HBr.out nq)
      have HT1 := Lib.hid (blk_below HTr.out (pw_below_drewN (Below.refl _ _) nq))
      clear HBr HTr
      generalize wr.drewN nq = w3 at *
      go_wp2_with fail
      go_quiet (fail)
      have HBe := Lib.hid (pw_below_drewN HB1.out nq)
      have HTe := Lib.hid (blk_below HT1.out (pw_below_drewN (Below.refl _ _) nq))
      clear HB1 HT1
      generalize w3.drewN nq = we at *
      go_wp2_with fail
      have hs1 : ∀ w, (Instr.slice 26 (.slice A l.length c) none (some (.int .i64 k)) none).run Try.prog w = .ok (.slice A k c) w := run_head26 A l.length c k (by omega)
      have hs2 : ∀ w, (Instr.slice 26 (.slice A l.length c) (some (.int .i64 k)) none none).run Try.prog w = .ok (.slice (tlk A k c) (l.length - k) (c - k)) w := run_from26 A l.length c k (by omega)
      have HBa := Lib.hid (HBe.out.drew)
      have HTa := Lib.hid (blk_below HTe.out (below_drew (Below.refl _ _)))
      clear HBe HTe
      refine start_ (n := 13) (S := fun W => C7 W gt t) (ds := [11]) #[false, false, false, false, false, false, false, false, false, false, false, false, false] (by kernel_rfl) rfl rfl (C7.of35 HTa.out) (fun hHeld => ?_)
      generalize we.drew = wa at *
      refine pure_ (i := 1) (N := some 36) (v := ?_) (a' := ?_) #[false, true, false, false, false, false, false, false, false, false, false, false, false] rfl rfl (by kernel_rfl) (fun _ _ _ h => h) (Or.inl ⟨by rfl, ?_⟩) ?_ ?_
      rotate_left
      · intro w'
        go_simp
        with_reducible rfl
      rotate_left
      · simp only [Act.put, List.setIfInBounds_toArray, List.set_cons_zero, List.set_cons_succ, i64_w, i32_w]
        rfl
      refine pure_ (i := 2) (N := some 37) (v := ?_) (a' := ?_) #[false, true, true, false, false, false, false, false, false, false, false, false, false] rfl rfl (by kernel_rfl) (fun _ _ _ h => h) (Or.inl ⟨by rfl, ?_⟩) ?_ ?_
      rotate_left
      · intro w'
        go_simp
        with_reducible rfl
      rotate_left
      · simp only [Act.put, List.setIfInBounds_toArray, List.set_cons_zero, List.set_cons_succ, i64_w, i32_w]
        rfl
      refine pure_ (i := 3) (N := some 38) (v := ?_) (a' := ?_) #[false, true, true, true, false, false, false, false, false, false, false, false, false] rfl rfl (by kernel_rfl) (fun _ _ _ h => h) (Or.inl ⟨by rfl, ?_⟩) ?_ ?_
      rotate_left
      · intro w'
        go_simp
        with_reducible rfl
      rotate_left
      · simp only [Act.put, List.setIfInBounds_toArray, List.set_cons_zero, List.set_cons_succ, i64_w, i32_w]
        rfl
      refine pure_ (i := 8) (N := some 43) (v := ?_) (a' := ?_) #[false, true, true, true, false, false, false, false, true, false, false, false, false] rfl rfl (by kernel_rfl) (fun _ _ _ h => h) (Or.inl ⟨by rfl, ?_⟩) ?_ ?_
      rotate_left
      · intro w'
        go_simp
        with_reducible rfl
      rotate_left
      · simp only [Act.put, List.setIfInBounds_toArray, List.set_cons_zero, List.set_cons_succ, i64_w, i32_w]
        rfl
      refine pure_ (i := 9) (N := some 44) (v := ?_) (a' := ?_) #[false, true, true, true, false, false, false, false, true, true, false, false, false] rfl rfl (by kernel_rfl) (fun _ _ _ h => h) (Or.inl ⟨by rfl, ?_⟩) ?_ ?_
      rotate_left
      · intro w'
        go_simp
        with_reducible rfl
      rotate_left
      · simp only [Act.put, List.setIfInBounds_toArray, List.set_cons_zero, List.set_cons_succ, i64_w, i32_w]
        rfl
      refine pure_ (i := 10) (N := some 45) (v := ?_) (a' := ?_) #[false, true, true, true, false, false, false, false, true, true, true, false, false] rfl rfl (by kernel_rfl) (fun _ _ _ h => h) (Or.inl ⟨by rfl, ?_⟩) ?_ ?_
      rotate_left
      · intro w'
        go_simp
        with_reducible rfl
      rotate_left
      · simp only [Act.put, List.setIfInBounds_toArray, List.set_cons_zero, List.set_cons_succ, i64_w, i32_w]
        rfl
      clear hs1 hs2
      refine take_ (i := 5) (N := some 40) (v := ?_) (a' := ?_) #[false, true, true, true, false, true, false, false, true, true, true, false, false] rfl rfl (by kernel_rfl) (fun _ _ _ h => h) (Or.inl ⟨by rfl, ?_⟩) hHeld ?_ ?_
      rotate_left
      · rintro w' ⟨s0, s1, s2, s3, s4, s5, s6⟩
        go_simp
        with_reducible rfl
      rotate_left
      · simp only [Act.put, List.setIfInBounds_toArray, List.set_cons_zero, List.set_cons_succ, i64_w, i32_w]
        rfl
      refine two_ (i := 0) (j := 6) (Ni := some 35) (Nj := some 41) #[true, true, true, true, false, true, false, false, true, true, true, false, false] #[false, true, true, true, false, true, true, false, true, true, true, false, false] rfl rfl rfl rfl (by kernel_rfl) (by decide) (by decide) (fun K hK => ?_) (fun K hK => ?_)
      · skip
        refine value_ (v := .slice (some ⟨wa.heap.size, 0, none⟩) 0 0) (w1 := wa.alloc (.cells #[] 35)) (by rfl) rfl ?_ ?_
        · go_simp
        have hbl := (Below.refl wa.heap.size wa).alloc (Nat.le_refl _) (.cells #[] 35)
        have HE := Lib.hid (R_none35 wa w.heap.size HBa.out.size (fun _ => True) trivial)
        have Hge : Hid (some gt ≠ (Value.slice (some ⟨wa.heap.size, 0, none⟩) 0 0).ownBlock) := Lib.hid (by have := blk_lt HTa.out; simp [Value.ownBlock]; omega)
        have HTa := Lib.hid (blk_below HTa.out hbl)
        have HBa := Lib.hid (HBa.out.trans (hbl.mono HBa.out.size))
        refine hK.out _ _ (C7.of35 HTa.out) (fun hHeld => ?_)
        clear hK K
        refine norm_ (a' := ?_) ?_ ?_
        rotate_left
        · simp only [Act.put, List.setIfInBounds_toArray, List.set_cons_zero, List.set_cons_succ, i64_w, i32_w]
          rfl
        generalize wa.alloc (.cells #[] 35) = wc at *
        generalize wa.heap.size = ge at *
        clear hbl
        refine two_ (i := 4) (j := 6) (Ni := some 39) (Nj := some 41) #[true, true, true, true, true, true, false, false, true, true, true, false, false] #[true, true, true, true, false, true, true, false, true, true, true, false, false] rfl rfl rfl rfl (by kernel_rfl) (by decide) (by decide) (fun K hK => ?_) (fun K hK => ?_)
        · skip
          refine Kd.R_append_rows_step k35 (Rr := k35.K wc) (w0 := w) w.heap.size (by rfl) (.tmp 35) (.tmp 38) 26 35 (.agg #[.string ByteArray.empty, .int .i64 0, .int .i64 0, .int .i64 0, .int .i64 0, .int .i64 0, .int .i64 0]) 64 rfl Try.underlying26 info35 rfl (by decide) (by omega) (.slice (some ⟨ge, 0, none⟩) 0 0) [] ((l.map p35).take k) A k c (fun _ => True) (fun _ => False) rfl rfl HE.out (C_take (Kd.C_below HL.out HBa.out) k (by omega)) ?aK (fun _ hk => hk.elim) (fun _ _ => trivial) HBa.out HBa.out.size (by simp; omega) ?_
          case aK => exact fun y cs h => by obtain rfl := k35_open h; exact k35_mkM _ _ _ y
          intro v1 w5 ho1 hB1 hg1 hat1
          rw [List.nil_append] at ho1
          show K (Act.put _ (some 39) v1) w5
          have Hgr : Hid (some gt ≠ v1.ownBlock) := Lib.hid (by
            rcases hat1 with h | ⟨b, h, hb⟩
            · rw [h]; exact Hge.out
            · rw [h]
              intro e
              have := blk_lt HTa.out
              injection e with e
              omega)
          have HT5 := Lib.hid (blk_grown HTa.out hg1 Hge.out)
          have HR5 := Lib.hid ho1
          have HB5 := Lib.hid hB1
          refine hK.out _ _ (C7.of35 HT5.out) (fun hHeld => ?_)
          clear hK K ho1 hB1 hg1 hat1 HTa HBa HE Hge
          have HTa := HT5
          have HBa := HB5
          clear HT5 HB5
          refine norm_ (a' := ?_) ?_ ?_
          rotate_left
          · simp only [Act.put, List.setIfInBounds_toArray, List.set_cons_zero, List.set_cons_succ, i64_w, i32_w]
            rfl
          refine one_ (i := 6) (N := some 41) #[true, true, true, true, true, true, true, false, true, true, true, false, false] rfl rfl (by kernel_rfl) (by decide) (fun K hK => ?_)
          refine value_ (v := .slice (some ⟨w5.heap.size, 0, none⟩) 1 1) (w1 := w5.alloc (.cells (tcells t) 35)) (by rfl) rfl ?_ ?_
          · go_simp
            rfl
          have hbl := (Below.refl w5.heap.size w5).alloc (Nat.le_refl _) (.cells (tcells t) 35)
          have HLt := Lib.hid (blk_new w5 (.cells (tcells t) 35))
          have HTa := Lib.hid (blk_below HTa.out hbl)
          have HBa := Lib.hid (HBa.out.trans (hbl.mono HBa.out.size))
          refine hK.out _ _ (C7.of35 HTa.out) (fun hHeld => ?_)
          clear hK K
          refine norm_ (a' := ?_) ?_ ?_
          rotate_left
          · simp only [Act.put, List.setIfInBounds_toArray, List.set_cons_zero, List.set_cons_succ, i64_w, i32_w]
            rfl
          generalize w5.alloc (.cells (tcells t) 35) = wc2 at *
          have HR5 := Lib.hid (Kd.R_below HR5.out hbl)
          generalize w5.heap.size = gl at *
          clear hbl
          refine one_ (i := 7) (N := some 42) #[true, true, true, true, true, true, true, true, true, true, true, false, false] rfl rfl (by kernel_rfl) (by decide) (fun K hK => ?_)
          refine Kd.R_append_rows_step k35 (Rr := k35.K wc2) (w0 := w) w.heap.size (by rfl) (.tmp 39) (.tmp 41) 26 35 (.agg #[.string ByteArray.empty, .int .i64 0, .int .i64 0, .int .i64 0, .int .i64 0, .int .i64 0, .int .i64 0]) 64 rfl Try.underlying26 info35 rfl (by decide) (by omega) v1 ((l.map p35).take k) [p35 t] (some ⟨gl, 0, none⟩) 1 1 (fun _ => True) (fun _ => False) rfl rfl HR5.out (C_one35 HLt.out) ?aK (fun _ hk => hk.elim) (fun _ _ => trivial) HBa.out HBa.out.size (by simp; omega) ?_
          case aK => exact fun y cs h => by obtain rfl := k35_open h; exact k35_mkM _ _ _ y
          intro v2 w6 ho1 hB1 hg1 hat1
          show K (Act.put _ (some 42) v2) w6
          have HT6 := Lib.hid (blk_grown HTa.out hg1 Hgr.out)
          have HR6 := Lib.hid ho1
          have HB6 := Lib.hid hB1
          refine hK.out _ _ (C7.of35 HT6.out) (fun hHeld => ?_)
          clear hK K ho1 hB1 hg1 hat1 HR5 HLt HBa HTa
          refine norm_ (a' := ?_) ?_ ?_
          rotate_left
          · simp only [Act.put, List.setIfInBounds_toArray, List.set_cons_zero, List.set_cons_succ, i64_w, i32_w]
            rfl
          refine last_ (i := 11) (N := some 46) #[true, true, true, true, true, true, true, true, true, true, true, true, false] rfl rfl (by kernel_rfl) (by decide) (fun K hK => ?_)
          refine Kd.R_append_rows_step k35 (Rr := k35.K w6) (w0 := w) w.heap.size (by rfl) (.tmp 42) (.tmp 45) 26 35 (.agg #[.string ByteArray.empty, .int .i64 0, .int .i64 0, .int .i64 0, .int .i64 0, .int .i64 0, .int .i64 0]) 64 rfl Try.underlying26 info35 rfl (by decide) (by omega) v2 ((l.map p35).take k ++ [p35 t]) ((l.map p35).drop k) (tlk A k c) (l.length - k) (c - k) (fun _ => True) (fun _ => False) rfl rfl HR6.out (C_drop (Kd.C_below HL.out HB6.out) k (by omega) (tlk A k c) (fun hlt ad e => by unfold tlk; rw [if_neg (by omega), e]; rfl)) ?aK (fun _ hk => hk.elim) (fun _ _ => trivial) HB6.out HB6.out.size (by simp; omega) ?_
          case aK => exact fun y cs h => by obtain rfl := k35_open h; exact k35_mkM _ _ _ y
          intro v3 w7 ho1 hB1 hg1 hat1
          show K (Act.put _ (some 46) v3) w7
          have HR7 := Lib.hid ho1
          have HB7 := Lib.hid hB1
          refine hK.out _ _ ?_
          clear hK K ho1 hB1 hg1 hat1 HR6 HB6 HT6
          refine norm_ (a' := ?_) ?_ ?_
          rotate_left
          · simp only [Act.put, List.setIfInBounds_toArray, List.set_cons_zero, List.set_cons_succ, i64_w, i32_w]
            rfl
          refine pure_ (i := 12) (N := some 4) (v := ?_) (a' := ?_) #[true, true, true, true, true, true, true, true, true, true, true, true, true] rfl rfl (by kernel_rfl) (fun _ _ _ h => h) (Or.inl ⟨by rfl, ?_⟩) ?_ ?_
          rotate_left
          · intro w'
            go_simp
            with_reducible rfl
          rotate_left
          · simp only [Act.put, List.setIfInBounds_toArray, List.set_cons_zero, List.set_cons_succ, i64_w, i32_w]
            rfl
          refine done_ (by kernel_rfl) ?_
          go_wp2_with fail
          go_ret
          refine ⟨HB7.out, .inr ⟨_, rfl, ?_⟩⟩
          rw [Hins.out, List.map_append, List.map_append, List.map_take, List.map_drop]
          exact HR7.out
        · skip
          refine value_ (v := .slice (some ⟨wc.heap.size, 0, none⟩) 1 1) (w1 := wc.alloc (.cells (tcells t) 35)) (by rfl) rfl ?_ ?_
          · go_simp
            rfl
          have hbl := (Below.refl wc.heap.size wc).alloc (Nat.le_refl _) (.cells (tcells t) 35)
          have HLt := Lib.hid (blk_new wc (.cells (tcells t) 35))
          have HTa := Lib.hid (blk_below HTa.out hbl)
          have HBa := Lib.hid (HBa.out.trans (hbl.mono HBa.out.size))
          refine hK.out _ _ (C7.of35 HTa.out) (fun hHeld => ?_)
          clear hK K
          refine norm_ (a' := ?_) ?_ ?_
          rotate_left
          · simp only [Act.put, List.setIfInBounds_toArray, List.set_cons_zero, List.set_cons_succ, i64_w, i32_w]
            rfl
          have Hgel : Hid (some wc.heap.size ≠ (Value.slice (some ⟨ge, 0, none⟩) 0 0).ownBlock) := Lib.hid (by have := Kd.R_lt HE.out ge rfl; simp [Value.ownBlock]; omega)
          have HE := Lib.hid (Kd.R_below HE.out hbl)
          clear hbl
          generalize wc.alloc (.cells (tcells t) 35) = wn at *
          generalize wc.heap.size = gl at *
          refine one_ (i := 4) (N := some 39) #[true, true, true, true, true, true, true, false, true, true, true, false, false] rfl rfl (by kernel_rfl) (by decide) (fun K hK => ?_)
          refine Kd.R_append_rows_step k35 (Rr := k35.K wn) (w0 := w) w.heap.size (by rfl) (.tmp 35) (.tmp 38) 26 35 (.agg #[.string ByteArray.empty, .int .i64 0, .int .i64 0, .int .i64 0, .int .i64 0, .int .i64 0, .int .i64 0]) 64 rfl Try.underlying26 info35 rfl (by decide) (by omega) (.slice (some ⟨ge, 0, none⟩) 0 0) [] ((l.map p35).take k) A k c (fun _ => True) (fun _ => False) rfl rfl HE.out (C_take (Kd.C_below HL.out HBa.out) k (by omega)) ?aK (fun _ hk => hk.elim) (fun _ _ => trivial) HBa.out HBa.out.size (by simp; omega) ?_
          case aK => exact fun y cs h => by obtain rfl := k35_open h; exact k35_mkM _ _ _ y
          intro v1 w5 ho1 hB1 hg1 hat1
          rw [List.nil_append] at ho1
          show K (Act.put _ (some 39) v1) w5
          have Hgr : Hid (some gt ≠ v1.ownBlock) := Lib.hid (by
            rcases hat1 with h | ⟨b, h, hb⟩
            · rw [h]; exact Hge.out
            · rw [h]
              intro e
              have := blk_lt HTa.out
              injection e with e
              omega)
          have HT5 := Lib.hid (blk_grown HTa.out hg1 Hge.out)
          have HR5 := Lib.hid ho1
          have HB5 := Lib.hid hB1
          refine hK.out _ _ (C7.of35 HT5.out) (fun hHeld => ?_)
          have HLt := Lib.hid (blk_grown HLt.out hg1 Hgel.out)
          clear hK K ho1 hB1 hg1 hat1 HTa HBa HE Hge
          have HTa := HT5
          have HBa := HB5
          clear HT5 HB5
          refine norm_ (a' := ?_) ?_ ?_
          rotate_left
          · simp only [Act.put, List.setIfInBounds_toArray, List.set_cons_zero, List.set_cons_succ, i64_w, i32_w]
            rfl
          refine one_ (i := 7) (N := some 42) #[true, true, true, true, true, true, true, true, true, true, true, false, false] rfl rfl (by kernel_rfl) (by decide) (fun K hK => ?_)
          refine Kd.R_append_rows_step k35 (Rr := k35.K w5) (w0 := w) w.heap.size (by rfl) (.tmp 39) (.tmp 41) 26 35 (.agg #[.string ByteArray.empty, .int .i64 0, .int .i64 0, .int .i64 0, .int .i64 0, .int .i64 0, .int .i64 0]) 64 rfl Try.underlying26 info35 rfl (by decide) (by omega) v1 ((l.map p35).take k) [p35 t] (some ⟨gl, 0, none⟩) 1 1 (fun _ => True) (fun _ => False) rfl rfl HR5.out (C_one35 HLt.out) ?aK (fun _ hk => hk.elim) (fun _ _ => trivial) HBa.out HBa.out.size (by simp; omega) ?_
          case aK => exact fun y cs h => by obtain rfl := k35_open h; exact k35_mkM _ _ _ y
          intro v2 w6 ho1 hB1 hg1 hat1
          show K (Act.put _ (some 42) v2) w6
          have HT6 := Lib.hid (blk_grown HTa.out hg1 Hgr.out)
          have HR6 := Lib.hid ho1
          have HB6 := Lib.hid hB1
          refine hK.out _ _ (C7.of35 HT6.out) (fun hHeld => ?_)
          clear hK K ho1 hB1 hg1 hat1 HR5 HLt HBa HTa
          refine norm_ (a' := ?_) ?_ ?_
          rotate_left
          · simp only [Act.put, List.setIfInBounds_toArray, List.set_cons_zero, List.set_cons_succ, i64_w, i32_w]
            rfl
          refine last_ (i := 11) (N := some 46) #[true, true, true, true, true, true, true, true, true, true, true, true, false] rfl rfl (by kernel_rfl) (by decide) (fun K hK => ?_)
          refine Kd.R_append_rows_step k35 (Rr := k35.K w6) (w0 := w) w.heap.size (by rfl) (.tmp 42) (.tmp 45) 26 35 (.agg #[.string ByteArray.empty, .int .i64 0, .int .i64 0, .int .i64 0, .int .i64 0, .int .i64 0, .int .i64 0]) 64 rfl Try.underlying26 info35 rfl (by decide) (by omega) v2 ((l.map p35).take k ++ [p35 t]) ((l.map p35).drop k) (tlk A k c) (l.length - k) (c - k) (fun _ => True) (fun _ => False) rfl rfl HR6.out (C_drop (Kd.C_below HL.out HB6.out) k (by omega) (tlk A k c) (fun hlt ad e => by unfold tlk; rw [if_neg (by omega), e]; rfl)) ?aK (fun _ hk => hk.elim) (fun _ _ => trivial) HB6.out HB6.out.size (by simp; omega) ?_
          case aK => exact fun y cs h => by obtain rfl := k35_open h; exact k35_mkM _ _ _ y
          intro v3 w7 ho1 hB1 hg1 hat1
          show K (Act.put _ (some 46) v3) w7
          have HR7 := Lib.hid ho1
          have HB7 := Lib.hid hB1
          refine hK.out _ _ ?_
          clear hK K ho1 hB1 hg1 hat1 HR6 HB6 HT6
          refine norm_ (a' := ?_) ?_ ?_
          rotate_left
          · simp only [Act.put, List.setIfInBounds_toArray, List.set_cons_zero, List.set_cons_succ, i64_w, i32_w]
            rfl
          refine pure_ (i := 12) (N := some 4) (v := ?_) (a' := ?_) #[true, true, true, true, true, true, true, true, true, true, true, true, true] rfl rfl (by kernel_rfl) (fun _ _ _ h => h) (Or.inl ⟨by rfl, ?_⟩) ?_ ?_
          rotate_left
          · intro w'
            go_simp
            with_reducible rfl
          rotate_left
          · simp only [Act.put, List.setIfInBounds_toArray, List.set_cons_zero, List.set_cons_succ, i64_w, i32_w]
            rfl
          refine done_ (by kernel_rfl) ?_
          go_wp2_with fail
          go_ret
          refine ⟨HB7.out, .inr ⟨_, rfl, ?_⟩⟩
          rw [Hins.out, List.map_append, List.map_append, List.map_take, List.map_drop]
          exact HR7.out
      · skip
        refine value_ (v := .slice (some ⟨wa.heap.size, 0, none⟩) 1 1) (w1 := wa.alloc (.cells (tcells t) 35)) (by rfl) rfl ?_ ?_
        · go_simp
          rfl
        have hbl := (Below.refl wa.heap.size wa).alloc (Nat.le_refl _) (.cells (tcells t) 35)
        have HLt := Lib.hid (blk_new wa (.cells (tcells t) 35))
        have HTa := Lib.hid (blk_below HTa.out hbl)
        have HBa := Lib.hid (HBa.out.trans (hbl.mono HBa.out.size))
        refine hK.out _ _ (C7.of35 HTa.out) (fun hHeld => ?_)
        clear hK K
        refine norm_ (a' := ?_) ?_ ?_
        rotate_left
        · simp only [Act.put, List.setIfInBounds_toArray, List.set_cons_zero, List.set_cons_succ, i64_w, i32_w]
          rfl
        generalize wa.alloc (.cells (tcells t) 35) = wb at *
        generalize wa.heap.size = gl at *
        clear hbl
        refine one_ (i := 0) (N := some 35) #[true, true, true, true, false, true, true, false, true, true, true, false, false] rfl rfl (by kernel_rfl) (by decide) (fun K hK => ?_)
        refine value_ (v := .slice (some ⟨wb.heap.size, 0, none⟩) 0 0) (w1 := wb.alloc (.cells #[] 35)) (by rfl) rfl ?_ ?_
        · go_simp
        have hbl := (Below.refl wb.heap.size wb).alloc (Nat.le_refl _) (.cells #[] 35)
        have HE := Lib.hid (R_none35 wb w.heap.size HBa.out.size (fun _ => True) trivial)
        have Hge : Hid (some gt ≠ (Value.slice (some ⟨wb.heap.size, 0, none⟩) 0 0).ownBlock) := Lib.hid (by have := blk_lt HTa.out; simp [Value.ownBlock]; omega)
        have HTa := Lib.hid (blk_below HTa.out hbl)
        have HBa := Lib.hid (HBa.out.trans (hbl.mono HBa.out.size))
        refine hK.out _ _ (C7.of35 HTa.out) (fun hHeld => ?_)
        clear hK K
        refine norm_ (a' := ?_) ?_ ?_
        rotate_left
        · simp only [Act.put, List.setIfInBounds_toArray, List.set_cons_zero, List.set_cons_succ, i64_w, i32_w]
          rfl
        have Hgel : Hid (some gl ≠ (Value.slice (some ⟨wb.heap.size, 0, none⟩) 0 0).ownBlock) := Lib.hid (by have := blk_lt HLt.out; simp [Value.ownBlock]; omega)
        have HLt := Lib.hid (blk_below HLt.out hbl)
        generalize wb.alloc (.cells #[] 35) = wn at *
        generalize wb.heap.size = ge at *
        clear hbl
        refine one_ (i := 4) (N := some 39) #[true, true, true, true, true, true, true, false, true, true, true, false, false] rfl rfl (by kernel_rfl) (by decide) (fun K hK => ?_)
        refine Kd.R_append_rows_step k35 (Rr := k35.K wn) (w0 := w) w.heap.size (by rfl) (.tmp 35) (.tmp 38) 26 35 (.agg #[.string ByteArray.empty, .int .i64 0, .int .i64 0, .int .i64 0, .int .i64 0, .int .i64 0, .int .i64 0]) 64 rfl Try.underlying26 info35 rfl (by decide) (by omega) (.slice (some ⟨ge, 0, none⟩) 0 0) [] ((l.map p35).take k) A k c (fun _ => True) (fun _ => False) rfl rfl HE.out (C_take (Kd.C_below HL.out HBa.out) k (by omega)) ?aK (fun _ hk => hk.elim) (fun _ _ => trivial) HBa.out HBa.out.size (by simp; omega) ?_
        case aK => exact fun y cs h => by obtain rfl := k35_open h; exact k35_mkM _ _ _ y
        intro v1 w5 ho1 hB1 hg1 hat1
        rw [List.nil_append] at ho1
        show K (Act.put _ (some 39) v1) w5
        have Hgr : Hid (some gt ≠ v1.ownBlock) := Lib.hid (by
          rcases hat1 with h | ⟨b, h, hb⟩
          · rw [h]; exact Hge.out
          · rw [h]
            intro e
            have := blk_lt HTa.out
            injection e with e
            omega)
        have HT5 := Lib.hid (blk_grown HTa.out hg1 Hge.out)
        have HR5 := Lib.hid ho1
        have HB5 := Lib.hid hB1
        refine hK.out _ _ (C7.of35 HT5.out) (fun hHeld => ?_)
        have HLt := Lib.hid (blk_grown HLt.out hg1 Hgel.out)
        clear hK K ho1 hB1 hg1 hat1 HTa HBa HE Hge
        have HTa := HT5
        have HBa := HB5
        clear HT5 HB5
        refine norm_ (a' := ?_) ?_ ?_
        rotate_left
        · simp only [Act.put, List.setIfInBounds_toArray, List.set_cons_zero, List.set_cons_succ, i64_w, i32_w]
          rfl
        refine one_ (i := 7) (N := some 42) #[true, true, true, true, true, true, true, true, true, true, true, false, false] rfl rfl (by kernel_rfl) (by decide) (fun K hK => ?_)
        refine Kd.R_append_rows_step k35 (Rr := k35.K w5) (w0 := w) w.heap.size (by rfl) (.tmp 39) (.tmp 41) 26 35 (.agg #[.string ByteArray.empty, .int .i64 0, .int .i64 0, .int .i64 0, .int .i64 0, .int .i64 0, .int .i64 0]) 64 rfl Try.underlying26 info35 rfl (by decide) (by omega) v1 ((l.map p35).take k) [p35 t] (some ⟨gl, 0, none⟩) 1 1 (fun _ => True) (fun _ => False) rfl rfl HR5.out (C_one35 HLt.out) ?aK (fun _ hk => hk.elim) (fun _ _ => trivial) HBa.out HBa.out.size (by simp; omega) ?_
        case aK => exact fun y cs h => by obtain rfl := k35_open h; exact k35_mkM _ _ _ y
        intro v2 w6 ho1 hB1 hg1 hat1
        show K (Act.put _ (some 42) v2) w6
        have HT6 := Lib.hid (blk_grown HTa.out hg1 Hgr.out)
        have HR6 := Lib.hid ho1
        have HB6 := Lib.hid hB1
        refine hK.out _ _ (C7.of35 HT6.out) (fun hHeld => ?_)
        clear hK K ho1 hB1 hg1 hat1 HR5 HLt HBa HTa
        refine norm_ (a' := ?_) ?_ ?_
        rotate_left
        · simp only [Act.put, List.setIfInBounds_toArray, List.set_cons_zero, List.set_cons_succ, i64_w, i32_w]
          rfl
        refine last_ (i := 11) (N := some 46) #[true, true, true, true, true, true, true, true, true, true, true, true, false] rfl rfl (by kernel_rfl) (by decide) (fun K hK => ?_)
        refine Kd.R_append_rows_step k35 (Rr := k35.K w6) (w0 := w) w.heap.size (by rfl) (.tmp 42) (.tmp 45) 26 35 (.agg #[.string ByteArray.empty, .int .i64 0, .int .i64 0, .int .i64 0, .int .i64 0, .int .i64 0, .int .i64 0]) 64 rfl Try.underlying26 info35 rfl (by decide) (by omega) v2 ((l.map p35).take k ++ [p35 t]) ((l.map p35).drop k) (tlk A k c) (l.length - k) (c - k) (fun _ => True) (fun _ => False) rfl rfl HR6.out (C_drop (Kd.C_below HL.out HB6.out) k (by omega) (tlk A k c) (fun hlt ad e => by unfold tlk; rw [if_neg (by omega), e]; rfl)) ?aK (fun _ hk => hk.elim) (fun _ _ => trivial) HB6.out HB6.out.size (by simp; omega) ?_
        case aK => exact fun y cs h => by obtain rfl := k35_open h; exact k35_mkM _ _ _ y
        intro v3 w7 ho1 hB1 hg1 hat1
        show K (Act.put _ (some 46) v3) w7
        have HR7 := Lib.hid ho1
        have HB7 := Lib.hid hB1
        refine hK.out _ _ ?_
        clear hK K ho1 hB1 hg1 hat1 HR6 HB6 HT6
        refine norm_ (a' := ?_) ?_ ?_
        rotate_left
        · simp only [Act.put, List.setIfInBounds_toArray, List.set_cons_zero, List.set_cons_succ, i64_w, i32_w]
          rfl
        refine pure_ (i := 12) (N := some 4) (v := ?_) (a' := ?_) #[true, true, true, true, true, true, true, true, true, true, true, true, true] rfl rfl (by kernel_rfl) (fun _ _ _ h => h) (Or.inl ⟨by rfl, ?_⟩) ?_ ?_
        rotate_left
        · intro w'
          go_simp
          with_reducible rfl
        rotate_left
        · simp only [Act.put, List.setIfInBounds_toArray, List.set_cons_zero, List.set_cons_succ, i64_w, i32_w]
          rfl
        refine done_ (by kernel_rfl) ?_
        go_wp2_with fail
        go_ret
        refine ⟨HB7.out, .inr ⟨_, rfl, ?_⟩⟩
        rw [Hins.out, List.map_append, List.map_append, List.map_take, List.map_drop]
        exact HR7.out
end Go.Proofs.Ytkngdlmlijefbaa.Pq
