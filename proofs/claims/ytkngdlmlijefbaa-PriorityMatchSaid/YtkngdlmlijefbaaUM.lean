/- Tasks: comparison, order, Order; what Match keeps: merged out of TD to TQ and TS. -/
import Derived.Test.YtkngdlmlijefbaaM
import Derived.Test.YtkngdlmlijefbaaPPriorityOrderx0
import Derived.Lib.Hide
import Derived.Test.YtkngdlmlijefbaaTA
import Derived.Sort.Grow
import Derived.Shelf.SlSortCmp.WholeK
import Derived.Test.YtkngdlmlijefbaaO
import Derived.Shelf.Lay
import Derived.Ground.SlsfProg
import Derived.Test.YtkngdlmlijefbaaTC
import Derived.Lib.SliceRun
import Derived.BigQuiet
import Derived.Test.YtkngdlmlijefbaaTB
import Derived.Shelf.SlSortCmp.NoneTotal
section
namespace Go.Proofs.Ytkngdlmlijefbaa.Pq
open Go.RowKit Go.Proofs.YtkngdlmlijefbaaW.PrintWords Go.Proofs.YtkngdlmlijefbaaW.PrintLast Go.Proofs.YtkngdlmlijefbaaW.PrintMore Go.Proofs.Mp
open Go.Proofs.Ytkngdlmlijefbaa.PPriorityOrder (S28 S30 S32 S35 k32 k32_open k32_mk k32_mkM rd_T32 at_T32)
set_option linter.unusedVariables false
set_option linter.unusedSimpArgs false

theorem eqNil1 (a : Addr) (n c : Nat) (w : World) : (binOp BinOp.eql 47 (.slice (some a) n c) (.slice none 0 0)).run Try.prog w = .ok (.bool false) w := by kernel_rfl
theorem eqNil0 (n c : Nat) (w : World) : (binOp BinOp.eql 47 (.slice none n c) (.slice none 0 0)).run Try.prog w = .ok (.bool true) w := by kernel_rfl
attribute [local go_sem] eqNil1 eqNil0
theorem info32 : (Try.prog.info? 32).map (fun i => (i.zero, i.size, i.bytes)) = some (some (.agg #[.string ByteArray.empty, .int .i64 0, .int .i64 0, .int .i64 0, .int .i64 0, .int .i64 0, .int .i64 0]), 7, 64) := by kernel_rfl
theorem R_none32 (W : World) (base : Nat) (hb : base ≤ W.heap.size) (ok : Nat → Prop) (hok : ok W.heap.size) : Kd.R k32 32 (W.alloc (.cells #[] 32)) base ok (.slice (some ⟨W.heap.size, 0, none⟩) 0 0) [] := by
  refine ⟨fun k hk => ?_, [], ?_, by simp, fun i p hp => by simp at hp⟩
  · have : W.heap.size = k := by simpa [Value.ownBlock] using hk
    exact this ▸ hok
  · exact World.ownsRow_lit (base := base) (e := 32) (size := 7) W #[] 0 hb (by simp [maxLen]) (by simp)
set_option maxHeartbeats 400000 in
set_option maxRecDepth 100000 in
/-- slices.Clone at tasks. -/
theorem Clone_calls (A : Option Addr) (c : Nat) (l : List S32) (w : World) (h : Kd.C k32 w A l.length l) (hl : l.length ≤ 1000) :
    Calls Try.prog 48 #[.slice A l.length c] w fun e w' => ∃ v, e = .returned v ∧ Kd.R k32 32 w' w.heap.size (fun _ => True) v l ∧ Below w.heap.size w w' := by
  cases A with
  | none =>
    have h0 : l = [] := by
      obtain ⟨_, _, h3⟩ := h
      rcases Nat.eq_zero_or_pos l.length with h0 | h0
      · exact List.length_eq_zero_iff.1 h0
      · obtain ⟨ad, e, _⟩ := h3 h0
        cases e
    subst h0
    clear h
    go_enter Try.func48, Try.ntmps48
    go_wp2_with fail
    go_ret
    exact ⟨_, rfl, Kd.R_nil _ _ _ _ _, Below.refl _ _⟩
  | some ad =>
    have H := Lib.hid (Kd.C_below h ((Below.refl w.heap.size w).alloc (Nat.le_refl _) (.cells #[] 32)))
    have HE := Lib.hid (R_none32 w w.heap.size (Nat.le_refl _) (fun _ => True) trivial)
    have HB := Lib.hid ((Below.refl w.heap.size w).alloc (Nat.le_refl _) (.cells #[] 32))
    have HL : Hid ((0 + l.length) * 64 ≤ 140737488355328) := Lib.hid (by omega)
    clear h
    go_enter Try.func48, Try.ntmps48
    go_wp2_with (at_builtin; refine Kd.R_append_rows k32 (w0 := w) w.heap.size rfl (.tmp 5) (.tmp 6) 47 32 (.agg #[.string ByteArray.empty, .int .i64 0, .int .i64 0, .int .i64 0, .int .i64 0, .int .i64 0, .int .i64 0]) 64 rfl Try.underlying47 info32 rfl (by decide) (by omega) (.slice (some ⟨w.heap.size, 0, none⟩) 0 0) [] l (some ad) l.length c (fun _ => True) (fun _ => False) rfl rfl HE.out H.out ?aK (fun _ hk => hk.elim) (fun _ _ => trivial) HB.out HB.out.size HL.out ?_; (case aK => exact fun y cs h => by obtain rfl := k32_open h; exact k32_mkM _ _ _ y); intro v1 w5 ho1 hB1 hg1 hat1; rw [List.nil_append] at ho1; have HO1 := Lib.hid ho1; have HB1 := Lib.hid hB1; clear ho1 hB1 hg1 hat1)
    go_ret
    exact ⟨_, rfl, HO1.out, HB1.out⟩
end Go.Proofs.Ytkngdlmlijefbaa.Pq
end
section
namespace Go.Proofs.Ytkngdlmlijefbaa.Pq
open Go.RowKit Go.Proofs.YtkngdlmlijefbaaW.PrintWords
open Go.Proofs.Ytkngdlmlijefbaa.PPriorityOrder
set_option linter.unusedVariables false
set_option linter.unusedSimpArgs false

def cmpI (x y : Int) : Int := if x < y then -1 else if y < x then 1 else 0
def cmpS (a b : ByteArray) : Int := if Op.bytesLess a.toList b.toList = true then -1 else if Op.bytesLess b.toList a.toList = true then 1 else 0
def ors : List Int → Int
  | [] => 0
  | x :: r => if x = 0 then ors r else x
theorem cmp_int (x y : Int) : cmp_Compare_int.f x y = some (cmpI x y) := by
  unfold cmp_Compare_int.f cmp_isNaN_int.f cmpI
  simp
  split
  · rfl
  · split <;> rfl
theorem cmp_string (a b : ByteArray) : cmp_Compare_string.f a b = some (cmpS a b) := by
  unfold cmp_Compare_string.f cmp_isNaN_string.f cmpS
  simp
  split
  · rfl
  · split <;> rfl
theorem or_l0 (l : List Int) (hl : l.length ≤ 100) : ∀ (d i k : Nat), i + d = l.length → d < k → cmp_Or_int.l0 k 0 l (l.length : Int) i = some (ors (l.drop i)) := by
  intro d
  induction d with
  | zero =>
    intro i k hi hk
    obtain ⟨k, rfl⟩ : ∃ j, k = j + 1 := ⟨k - 1, by omega⟩
    rw [cmp_Or_int.l0, if_neg (by omega), List.drop_of_length_le (by omega)]
    rfl
  | succ d ih =>
    intro i k hi hk
    obtain ⟨k, rfl⟩ : ∃ j, k = j + 1 := ⟨k - 1, by omega⟩
    have hlt : i < l.length := by omega
    have hr : rd l (i : Int) = l[i] := by unfold rd; rw [Int.toNat_natCast, List.getD_eq_getElem?_getD, List.getElem?_eq_getElem hlt]; rfl
    have hw : wrap64 ((i : Int) + 1) = ((i + 1 : Nat) : Int) := by unfold wrap64; omega
    rw [cmp_Or_int.l0, if_pos (by omega), if_pos (by omega), if_pos (by omega), hr, hw, List.drop_eq_getElem_cons hlt]
    by_cases h0 : l[i] = 0
    · rw [if_pos h0, ih (i + 1) k (by omega) (by omega)]
      simp only [ors]
      rw [if_pos h0]
    · rw [if_neg h0]
      simp only [ors]
      rw [if_neg h0]
theorem cmp_or (l : List Int) (hl : l.length ≤ 100) : cmp_Or_int.f (l.length + 1) l = some (ors l) := by
  unfold cmp_Or_int.f
  have := or_l0 l hl l.length 0 (l.length + 1) (by omega) (by omega)
  simpa using this
/-- The order of tasks. -/
def cmpT (a b : S32) : Int := ors [cmpI a.f2 b.f2, cmpI (wrap64 (a.f3.f0 * b.f3.f1)) (wrap64 (b.f3.f0 * a.f3.f1)), cmpI a.f4 b.f4, cmpI a.f1 b.f1, cmpS a.f0.f0 b.f0.f0, cmpI a.f0.f1 b.f0.f1]
end Go.Proofs.Ytkngdlmlijefbaa.Pq
end
section
namespace Go.Proofs.Ytkngdlmlijefbaa.Pq
open Go.RowKit Go.Proofs.YtkngdlmlijefbaaW.PrintWords Go.Proofs.YtkngdlmlijefbaaW.PrintLast Go.Proofs.YtkngdlmlijefbaaW.PrintMore Go.Proofs.Mp
open Go.Proofs.Ytkngdlmlijefbaa.PPriorityOrder
set_option linter.unusedVariables false
set_option linter.unusedSimpArgs false

theorem cmpi_c (a b : Int) (w : World) : Calls Try.prog 41 #[.int .i64 a, .int .i64 b] w fun e w' => e = .returned (.int .i64 (cmpI a b)) ∧ ∃ m, w' = w.drewN m :=
  (cmp_Compare_int.calls a b _ w (cmp_int a b)).mono (by rintro e w' ⟨rfl, ⟨m, rfl⟩⟩; exact ⟨rfl, m, rfl⟩)
theorem cmps_c (a b : ByteArray) (w : World) : Calls Try.prog 42 #[.string a, .string b] w fun e w' => e = .returned (.int .i64 (cmpS a b)) ∧ ∃ m, w' = w.drewN m :=
  (cmp_Compare_string.calls a b _ w (cmp_string a b)).mono (by rintro e w' ⟨rfl, ⟨m, rfl⟩⟩; exact ⟨rfl, m, rfl⟩)
theorem or_c (l : List Int) (hl : l.length ≤ 100) (A : Option Addr) (c : Nat) (w : World) (h : Kd.C (Kd.int .i64) w A l.length l) (hc : l.length ≤ c) : Calls Try.prog 40 #[.slice A l.length c] w fun e w' => e = .returned (.int .i64 (ors l)) ∧ ∃ m, w' = w.drewN m :=
  (cmp_Or_int.calls _ A c l _ w h hc (cmp_or l hl)).mono (by rintro e w' ⟨rfl, ⟨m, rfl⟩⟩; exact ⟨rfl, m, rfl⟩)
theorem C_of_cells {w : World} {g : Nat} {xs : List Int} (hl : xs.length ≤ 9223372036854775807) (h : ∀ j, (hj : j < xs.length) → w.cell? ⟨g, j, none⟩ = some (.int .i64 xs[j])) : Kd.C (Kd.int .i64) w (some ⟨g, 0, none⟩) xs.length xs :=
  ⟨rfl, hl, fun _ => ⟨_, rfl, fun j p hj => by
    obtain ⟨hj1, rfl⟩ := List.getElem?_eq_some_iff.1 hj
    refine ⟨[.int .i64 xs[j]], rfl, rfl, fun i u hi => ?_⟩
    cases i with
    | zero =>
      simp at hi
      subst hi
      have e : (Kd.int .i64).sz = 1 := rfl
      rw [e, Nat.mul_one, Nat.add_zero, add_plain]
      exact h j hj1
    | succ i => simp at hi⟩⟩
/-- A task's cells. -/
def tcells (a : S32) : Array Value := #[.string a.f0.f0, .int .i64 a.f0.f1, .int .i64 a.f1, .int .i64 a.f2, .int .i64 a.f3.f0, .int .i64 a.f3.f1, .int .i64 a.f4]
def TAt (W : World) (g : Nat) (a : S32) : Prop := W.cell? ⟨g, 0, none⟩ = some (.string a.f0.f0) ∧ W.cell? ⟨g, 1, none⟩ = some (.int .i64 a.f0.f1) ∧ W.cell? ⟨g, 2, none⟩ = some (.int .i64 a.f1) ∧ W.cell? ⟨g, 3, none⟩ = some (.int .i64 a.f2) ∧ W.cell? ⟨g, 4, none⟩ = some (.int .i64 a.f3.f0) ∧ W.cell? ⟨g, 5, none⟩ = some (.int .i64 a.f3.f1) ∧ W.cell? ⟨g, 6, none⟩ = some (.int .i64 a.f4)
theorem grow_end (W : World) (o1 o2 o3 : Obj) (m1 m2 m3 m4 m5 m6 m7 : Nat) : (((((((((((W.alloc o1).alloc o2).drew).drewN m1).drewN m2).drewN m3).drewN m4).drewN m5).drewN m6).alloc o3).drewN m7) = Sort.grow (W.drewN (1 + m1 + m2 + m3 + m4 + m5 + m6 + m7)) #[o1, o2, o3] := by
  have e : ∀ (w : World) (os : Array Obj) (n : Nat), (Sort.grow w os).drewN n = Sort.grow (w.drewN n) os := fun _ _ _ => rfl
  have e1 : ∀ w : World, w.drew = w.drewN 1 := fun _ => rfl
  rw [e1, Sort.alloc_eq_grow W o1, Sort.alloc_eq_grow _ o2, Sort.grow_grow]
  simp only [e, World.drewN_drewN, Sort.alloc_eq_grow, Sort.grow_grow]
  rfl
set_option maxHeartbeats 400000 in
set_option maxRecDepth 100000 in
theorem Compare_exact (a b : S32) (W : World) : Calls Try.prog 23 #[.agg (tcells a), .agg (tcells b)] W fun e w' => e = .returned (.int .i64 (cmpT a b)) ∧ ∃ q os', w' = Sort.grow (W.drewN q) os' := by
  obtain ⟨⟨a0, a1⟩, a2, a3, ⟨a4, a5⟩, a6⟩ := a
  obtain ⟨⟨b0, b1⟩, b2, b3, ⟨b4, b5⟩, b6⟩ := b
  unfold tcells
  simp only
  have HA := Lib.hid (blk_below (blk_new W (.cells #[.string a0, .int .i64 a1, .int .i64 a2, .int .i64 a3, .int .i64 a4, .int .i64 a5, .int .i64 a6] 32)) ((Below.refl _ _).alloc (Nat.le_refl _) (.cells #[.string b0, .int .i64 b1, .int .i64 b2, .int .i64 b3, .int .i64 b4, .int .i64 b5, .int .i64 b6] 32)))
  have HB := Lib.hid (blk_new (W.alloc (.cells #[.string a0, .int .i64 a1, .int .i64 a2, .int .i64 a3, .int .i64 a4, .int .i64 a5, .int .i64 a6] 32)) (.cells #[.string b0, .int .i64 b1, .int .i64 b2, .int .i64 b3, .int .i64 b4, .int .i64 b5, .int .i64 b6] 32))
  rw [show (W.alloc (.cells #[.string a0, .int .i64 a1, .int .i64 a2, .int .i64 a3, .int .i64 a4, .int .i64 a5, .int .i64 a6] 32)).heap.size = W.heap.size + 1 from Array.size_push ..] at HB
  obtain ⟨W0, hW0⟩ : ∃ W0, W0 = (W.alloc (.cells #[.string a0, .int .i64 a1, .int .i64 a2, .int .i64 a3, .int .i64 a4, .int .i64 a5, .int .i64 a6] 32)).alloc (.cells #[.string b0, .int .i64 b1, .int .i64 b2, .int .i64 b3, .int .i64 b4, .int .i64 b5, .int .i64 b6] 32) := ⟨_, rfl⟩
  rw [← hW0] at HA HB
  have HW0 := Lib.hid hW0
  go_enter Try.func23, Try.ntmps23
  go_wp2_with fail
  rw [← HW0.out]
  clear hW0
  generalize W.heap.size + 1 = g2 at *
  generalize W.heap.size = g1 at *
  have hA := Lib.hid (show TAt W0.drew g1 ⟨⟨a0, a1⟩, a2, a3, ⟨a4, a5⟩, a6⟩ from ⟨(blk_cell HA.out 0).trans rfl, (blk_cell HA.out 1).trans rfl, (blk_cell HA.out 2).trans rfl, (blk_cell HA.out 3).trans rfl, (blk_cell HA.out 4).trans rfl, (blk_cell HA.out 5).trans rfl, (blk_cell HA.out 6).trans rfl⟩)
  have hB := Lib.hid (show TAt W0.drew g2 ⟨⟨b0, b1⟩, b2, b3, ⟨b4, b5⟩, b6⟩ from ⟨(blk_cell HB.out 0).trans rfl, (blk_cell HB.out 1).trans rfl, (blk_cell HB.out 2).trans rfl, (blk_cell HB.out 3).trans rfl, (blk_cell HB.out 4).trans rfl, (blk_cell HB.out 5).trans rfl, (blk_cell HB.out 6).trans rfl⟩)
  refine start_ (n := 47) (S := fun W => TAt W g1 ⟨⟨a0, a1⟩, a2, a3, ⟨a4, a5⟩, a6⟩ ∧ TAt W g2 ⟨⟨b0, b1⟩, b2, b3, ⟨b4, b5⟩, b6⟩) (ds := []) #[false, false, false, false, false, false, false, false, false, false, false, false, false, false, false, false, false, false, false, false, false, false, false, false, false, false, false, false, false, false, false, false, false, false, false, false, false, false, false, false, false, false, false, false, false, false, false] (by kernel_rfl) rfl rfl ⟨hA.out, hB.out⟩ (fun hHeld => ?_)
  refine pure_ (i := 0) (N := some 5) (v := ?_) (a' := ?_) #[true, false, false, false, false, false, false, false, false, false, false, false, false, false, false, false, false, false, false, false, false, false, false, false, false, false, false, false, false, false, false, false, false, false, false, false, false, false, false, false, false, false, false, false, false, false, false] rfl rfl (by kernel_rfl) (fun _ _ _ h => h) (Or.inl ⟨by rfl, ?_⟩) ?_ ?_
  rotate_left
  · intro w'
    go_simp
    with_reducible rfl
  rotate_left
  · simp only [Act.put, List.setIfInBounds_toArray, List.set_cons_zero, List.set_cons_succ, i64_w, i32_w]
    rfl
  refine take_ (i := 1) (N := some 6) (v := ?_) (a' := ?_) #[true, true, false, false, false, false, false, false, false, false, false, false, false, false, false, false, false, false, false, false, false, false, false, false, false, false, false, false, false, false, false, false, false, false, false, false, false, false, false, false, false, false, false, false, false, false, false] rfl rfl (by kernel_rfl) (fun _ _ _ h => h) (Or.inl ⟨by rfl, ?_⟩) hHeld ?_ ?_
  rotate_left
  · rintro w' ⟨⟨s0, s1, s2, s3, s4, s5, s6⟩, ⟨t0, t1, t2, t3, t4, t5, t6⟩⟩
    go_simp
    with_reducible rfl
  rotate_left
  · simp only [Act.put, List.setIfInBounds_toArray, List.set_cons_zero, List.set_cons_succ, i64_w, i32_w]
    rfl
  refine pure_ (i := 2) (N := some 7) (v := ?_) (a' := ?_) #[true, true, true, false, false, false, false, false, false, false, false, false, false, false, false, false, false, false, false, false, false, false, false, false, false, false, false, false, false, false, false, false, false, false, false, false, false, false, false, false, false, false, false, false, false, false, false] rfl rfl (by kernel_rfl) (fun _ _ _ h => h) (Or.inl ⟨by rfl, ?_⟩) ?_ ?_
  rotate_left
  · intro w'
    go_simp
    with_reducible rfl
  rotate_left
  · simp only [Act.put, List.setIfInBounds_toArray, List.set_cons_zero, List.set_cons_succ, i64_w, i32_w]
    rfl
  refine take_ (i := 3) (N := some 8) (v := ?_) (a' := ?_) #[true, true, true, true, false, false, false, false, false, false, false, false, false, false, false, false, false, false, false, false, false, false, false, false, false, false, false, false, false, false, false, false, false, false, false, false, false, false, false, false, false, false, false, false, false, false, false] rfl rfl (by kernel_rfl) (fun _ _ _ h => h) (Or.inl ⟨by rfl, ?_⟩) hHeld ?_ ?_
  rotate_left
  · rintro w' ⟨⟨s0, s1, s2, s3, s4, s5, s6⟩, ⟨t0, t1, t2, t3, t4, t5, t6⟩⟩
    go_simp
    with_reducible rfl
  rotate_left
  · simp only [Act.put, List.setIfInBounds_toArray, List.set_cons_zero, List.set_cons_succ, i64_w, i32_w]
    rfl
  refine pure_ (i := 5) (N := some 10) (v := ?_) (a' := ?_) #[true, true, true, true, false, true, false, false, false, false, false, false, false, false, false, false, false, false, false, false, false, false, false, false, false, false, false, false, false, false, false, false, false, false, false, false, false, false, false, false, false, false, false, false, false, false, false] rfl rfl (by kernel_rfl) (fun _ _ _ h => h) (Or.inl ⟨by rfl, ?_⟩) ?_ ?_
  rotate_left
  · intro w'
    go_simp
    with_reducible rfl
  rotate_left
  · simp only [Act.put, List.setIfInBounds_toArray, List.set_cons_zero, List.set_cons_succ, i64_w, i32_w]
    rfl
  refine pure_ (i := 6) (N := some 11) (v := ?_) (a' := ?_) #[true, true, true, true, false, true, true, false, false, false, false, false, false, false, false, false, false, false, false, false, false, false, false, false, false, false, false, false, false, false, false, false, false, false, false, false, false, false, false, false, false, false, false, false, false, false, false] rfl rfl (by kernel_rfl) (fun _ _ _ h => h) (Or.inl ⟨by rfl, ?_⟩) ?_ ?_
  rotate_left
  · intro w'
    go_simp
    with_reducible rfl
  rotate_left
  · simp only [Act.put, List.setIfInBounds_toArray, List.set_cons_zero, List.set_cons_succ, i64_w, i32_w]
    rfl
  refine take_ (i := 7) (N := some 12) (v := ?_) (a' := ?_) #[true, true, true, true, false, true, true, true, false, false, false, false, false, false, false, false, false, false, false, false, false, false, false, false, false, false, false, false, false, false, false, false, false, false, false, false, false, false, false, false, false, false, false, false, false, false, false] rfl rfl (by kernel_rfl) (fun _ _ _ h => h) (Or.inl ⟨by rfl, ?_⟩) hHeld ?_ ?_
  rotate_left
  · rintro w' ⟨⟨s0, s1, s2, s3, s4, s5, s6⟩, ⟨t0, t1, t2, t3, t4, t5, t6⟩⟩
    go_simp
    with_reducible rfl
  rotate_left
  · simp only [Act.put, List.setIfInBounds_toArray, List.set_cons_zero, List.set_cons_succ, i64_w, i32_w]
    rfl
  refine pure_ (i := 8) (N := some 13) (v := ?_) (a' := ?_) #[true, true, true, true, false, true, true, true, true, false, false, false, false, false, false, false, false, false, false, false, false, false, false, false, false, false, false, false, false, false, false, false, false, false, false, false, false, false, false, false, false, false, false, false, false, false, false] rfl rfl (by kernel_rfl) (fun _ _ _ h => h) (Or.inl ⟨by rfl, ?_⟩) ?_ ?_
  rotate_left
  · intro w'
    go_simp
    with_reducible rfl
  rotate_left
  · simp only [Act.put, List.setIfInBounds_toArray, List.set_cons_zero, List.set_cons_succ, i64_w, i32_w]
    rfl
  refine pure_ (i := 9) (N := some 14) (v := ?_) (a' := ?_) #[true, true, true, true, false, true, true, true, true, true, false, false, false, false, false, false, false, false, false, false, false, false, false, false, false, false, false, false, false, false, false, false, false, false, false, false, false, false, false, false, false, false, false, false, false, false, false] rfl rfl (by kernel_rfl) (fun _ _ _ h => h) (Or.inl ⟨by rfl, ?_⟩) ?_ ?_
  rotate_left
  · intro w'
    go_simp
    with_reducible rfl
  rotate_left
  · simp only [Act.put, List.setIfInBounds_toArray, List.set_cons_zero, List.set_cons_succ, i64_w, i32_w]
    rfl
  refine take_ (i := 10) (N := some 15) (v := ?_) (a' := ?_) #[true, true, true, true, false, true, true, true, true, true, true, false, false, false, false, false, false, false, false, false, false, false, false, false, false, false, false, false, false, false, false, false, false, false, false, false, false, false, false, false, false, false, false, false, false, false, false] rfl rfl (by kernel_rfl) (fun _ _ _ h => h) (Or.inl ⟨by rfl, ?_⟩) hHeld ?_ ?_
  rotate_left
  · rintro w' ⟨⟨s0, s1, s2, s3, s4, s5, s6⟩, ⟨t0, t1, t2, t3, t4, t5, t6⟩⟩
    go_simp
    with_reducible rfl
  rotate_left
  · simp only [Act.put, List.setIfInBounds_toArray, List.set_cons_zero, List.set_cons_succ, i64_w, i32_w]
    rfl
  refine pure_ (i := 11) (N := some 16) (v := ?_) (a' := ?_) #[true, true, true, true, false, true, true, true, true, true, true, true, false, false, false, false, false, false, false, false, false, false, false, false, false, false, false, false, false, false, false, false, false, false, false, false, false, false, false, false, false, false, false, false, false, false, false] rfl rfl (by kernel_rfl) (fun _ _ _ h => h) (Or.inl ⟨by rfl, ?_⟩) ?_ ?_
  rotate_left
  · intro w'
    go_simp
    with_reducible rfl
  rotate_left
  · simp only [Act.put, List.setIfInBounds_toArray, List.set_cons_zero, List.set_cons_succ, i64_w, i32_w]
    rfl
  refine pure_ (i := 12) (N := some 17) (v := ?_) (a' := ?_) #[true, true, true, true, false, true, true, true, true, true, true, true, true, false, false, false, false, false, false, false, false, false, false, false, false, false, false, false, false, false, false, false, false, false, false, false, false, false, false, false, false, false, false, false, false, false, false] rfl rfl (by kernel_rfl) (fun _ _ _ h => h) (Or.inl ⟨by rfl, ?_⟩) ?_ ?_
  rotate_left
  · intro w'
    go_simp
    with_reducible rfl
  rotate_left
  · simp only [Act.put, List.setIfInBounds_toArray, List.set_cons_zero, List.set_cons_succ, i64_w, i32_w]
    rfl
  refine pure_ (i := 13) (N := some 18) (v := ?_) (a' := ?_) #[true, true, true, true, false, true, true, true, true, true, true, true, true, true, false, false, false, false, false, false, false, false, false, false, false, false, false, false, false, false, false, false, false, false, false, false, false, false, false, false, false, false, false, false, false, false, false] rfl rfl (by kernel_rfl) (fun _ _ _ h => h) (Or.inl ⟨by rfl, ?_⟩) ?_ ?_
  rotate_left
  · intro w'
    go_simp
    with_reducible rfl
  rotate_left
  · simp only [Act.put, List.setIfInBounds_toArray, List.set_cons_zero, List.set_cons_succ, i64_w, i32_w]
    rfl
  refine take_ (i := 14) (N := some 19) (v := ?_) (a' := ?_) #[true, true, true, true, false, true, true, true, true, true, true, true, true, true, true, false, false, false, false, false, false, false, false, false, false, false, false, false, false, false, false, false, false, false, false, false, false, false, false, false, false, false, false, false, false, false, false] rfl rfl (by kernel_rfl) (fun _ _ _ h => h) (Or.inl ⟨by rfl, ?_⟩) hHeld ?_ ?_
  rotate_left
  · rintro w' ⟨⟨s0, s1, s2, s3, s4, s5, s6⟩, ⟨t0, t1, t2, t3, t4, t5, t6⟩⟩
    go_simp
    with_reducible rfl
  rotate_left
  · simp only [Act.put, List.setIfInBounds_toArray, List.set_cons_zero, List.set_cons_succ, i64_w, i32_w]
    rfl
  refine pure_ (i := 15) (N := some 20) (v := ?_) (a' := ?_) #[true, true, true, true, false, true, true, true, true, true, true, true, true, true, true, true, false, false, false, false, false, false, false, false, false, false, false, false, false, false, false, false, false, false, false, false, false, false, false, false, false, false, false, false, false, false, false] rfl rfl (by kernel_rfl) (fun _ _ _ h => h) (Or.inl ⟨by rfl, ?_⟩) ?_ ?_
  rotate_left
  · intro w'
    go_simp
    with_reducible rfl
  rotate_left
  · simp only [Act.put, List.setIfInBounds_toArray, List.set_cons_zero, List.set_cons_succ, i64_w, i32_w]
    rfl
  refine pure_ (i := 16) (N := some 21) (v := ?_) (a' := ?_) #[true, true, true, true, false, true, true, true, true, true, true, true, true, true, true, true, true, false, false, false, false, false, false, false, false, false, false, false, false, false, false, false, false, false, false, false, false, false, false, false, false, false, false, false, false, false, false] rfl rfl (by kernel_rfl) (fun _ _ _ h => h) (Or.inl ⟨by rfl, ?_⟩) ?_ ?_
  rotate_left
  · intro w'
    go_simp
    with_reducible rfl
  rotate_left
  · simp only [Act.put, List.setIfInBounds_toArray, List.set_cons_zero, List.set_cons_succ, i64_w, i32_w]
    rfl
  refine take_ (i := 17) (N := some 22) (v := ?_) (a' := ?_) #[true, true, true, true, false, true, true, true, true, true, true, true, true, true, true, true, true, true, false, false, false, false, false, false, false, false, false, false, false, false, false, false, false, false, false, false, false, false, false, false, false, false, false, false, false, false, false] rfl rfl (by kernel_rfl) (fun _ _ _ h => h) (Or.inl ⟨by rfl, ?_⟩) hHeld ?_ ?_
  rotate_left
  · rintro w' ⟨⟨s0, s1, s2, s3, s4, s5, s6⟩, ⟨t0, t1, t2, t3, t4, t5, t6⟩⟩
    go_simp
    with_reducible rfl
  rotate_left
  · simp only [Act.put, List.setIfInBounds_toArray, List.set_cons_zero, List.set_cons_succ, i64_w, i32_w]
    rfl
  refine pure_ (i := 18) (N := some 23) (v := ?_) (a' := ?_) #[true, true, true, true, false, true, true, true, true, true, true, true, true, true, true, true, true, true, true, false, false, false, false, false, false, false, false, false, false, false, false, false, false, false, false, false, false, false, false, false, false, false, false, false, false, false, false] rfl rfl (by kernel_rfl) (fun _ _ _ h => h) (Or.inl ⟨by rfl, ?_⟩) ?_ ?_
  rotate_left
  · intro w'
    go_simp
    with_reducible rfl
  rotate_left
  · simp only [Act.put, List.setIfInBounds_toArray, List.set_cons_zero, List.set_cons_succ, i64_w, i32_w]
    rfl
  refine pure_ (i := 20) (N := some 25) (v := ?_) (a' := ?_) #[true, true, true, true, false, true, true, true, true, true, true, true, true, true, true, true, true, true, true, false, true, false, false, false, false, false, false, false, false, false, false, false, false, false, false, false, false, false, false, false, false, false, false, false, false, false, false] rfl rfl (by kernel_rfl) (fun _ _ _ h => h) (Or.inl ⟨by rfl, ?_⟩) ?_ ?_
  rotate_left
  · intro w'
    go_simp
    with_reducible rfl
  rotate_left
  · simp only [Act.put, List.setIfInBounds_toArray, List.set_cons_zero, List.set_cons_succ, i64_w, i32_w]
    rfl
  refine take_ (i := 21) (N := some 26) (v := ?_) (a' := ?_) #[true, true, true, true, false, true, true, true, true, true, true, true, true, true, true, true, true, true, true, false, true, true, false, false, false, false, false, false, false, false, false, false, false, false, false, false, false, false, false, false, false, false, false, false, false, false, false] rfl rfl (by kernel_rfl) (fun _ _ _ h => h) (Or.inl ⟨by rfl, ?_⟩) hHeld ?_ ?_
  rotate_left
  · rintro w' ⟨⟨s0, s1, s2, s3, s4, s5, s6⟩, ⟨t0, t1, t2, t3, t4, t5, t6⟩⟩
    go_simp
    with_reducible rfl
  rotate_left
  · simp only [Act.put, List.setIfInBounds_toArray, List.set_cons_zero, List.set_cons_succ, i64_w, i32_w]
    rfl
  refine pure_ (i := 22) (N := some 27) (v := ?_) (a' := ?_) #[true, true, true, true, false, true, true, true, true, true, true, true, true, true, true, true, true, true, true, false, true, true, true, false, false, false, false, false, false, false, false, false, false, false, false, false, false, false, false, false, false, false, false, false, false, false, false] rfl rfl (by kernel_rfl) (fun _ _ _ h => h) (Or.inl ⟨by rfl, ?_⟩) ?_ ?_
  rotate_left
  · intro w'
    go_simp
    with_reducible rfl
  rotate_left
  · simp only [Act.put, List.setIfInBounds_toArray, List.set_cons_zero, List.set_cons_succ, i64_w, i32_w]
    rfl
  refine take_ (i := 23) (N := some 28) (v := ?_) (a' := ?_) #[true, true, true, true, false, true, true, true, true, true, true, true, true, true, true, true, true, true, true, false, true, true, true, true, false, false, false, false, false, false, false, false, false, false, false, false, false, false, false, false, false, false, false, false, false, false, false] rfl rfl (by kernel_rfl) (fun _ _ _ h => h) (Or.inl ⟨by rfl, ?_⟩) hHeld ?_ ?_
  rotate_left
  · rintro w' ⟨⟨s0, s1, s2, s3, s4, s5, s6⟩, ⟨t0, t1, t2, t3, t4, t5, t6⟩⟩
    go_simp
    with_reducible rfl
  rotate_left
  · simp only [Act.put, List.setIfInBounds_toArray, List.set_cons_zero, List.set_cons_succ, i64_w, i32_w]
    rfl
  refine pure_ (i := 25) (N := some 30) (v := ?_) (a' := ?_) #[true, true, true, true, false, true, true, true, true, true, true, true, true, true, true, true, true, true, true, false, true, true, true, true, false, true, false, false, false, false, false, false, false, false, false, false, false, false, false, false, false, false, false, false, false, false, false] rfl rfl (by kernel_rfl) (fun _ _ _ h => h) (Or.inl ⟨by rfl, ?_⟩) ?_ ?_
  rotate_left
  · intro w'
    go_simp
    with_reducible rfl
  rotate_left
  · simp only [Act.put, List.setIfInBounds_toArray, List.set_cons_zero, List.set_cons_succ, i64_w, i32_w]
    rfl
  refine take_ (i := 26) (N := some 31) (v := ?_) (a' := ?_) #[true, true, true, true, false, true, true, true, true, true, true, true, true, true, true, true, true, true, true, false, true, true, true, true, false, true, true, false, false, false, false, false, false, false, false, false, false, false, false, false, false, false, false, false, false, false, false] rfl rfl (by kernel_rfl) (fun _ _ _ h => h) (Or.inl ⟨by rfl, ?_⟩) hHeld ?_ ?_
  rotate_left
  · rintro w' ⟨⟨s0, s1, s2, s3, s4, s5, s6⟩, ⟨t0, t1, t2, t3, t4, t5, t6⟩⟩
    go_simp
    with_reducible rfl
  rotate_left
  · simp only [Act.put, List.setIfInBounds_toArray, List.set_cons_zero, List.set_cons_succ, i64_w, i32_w]
    rfl
  refine pure_ (i := 27) (N := some 32) (v := ?_) (a' := ?_) #[true, true, true, true, false, true, true, true, true, true, true, true, true, true, true, true, true, true, true, false, true, true, true, true, false, true, true, true, false, false, false, false, false, false, false, false, false, false, false, false, false, false, false, false, false, false, false] rfl rfl (by kernel_rfl) (fun _ _ _ h => h) (Or.inl ⟨by rfl, ?_⟩) ?_ ?_
  rotate_left
  · intro w'
    go_simp
    with_reducible rfl
  rotate_left
  · simp only [Act.put, List.setIfInBounds_toArray, List.set_cons_zero, List.set_cons_succ, i64_w, i32_w]
    rfl
  refine take_ (i := 28) (N := some 33) (v := ?_) (a' := ?_) #[true, true, true, true, false, true, true, true, true, true, true, true, true, true, true, true, true, true, true, false, true, true, true, true, false, true, true, true, true, false, false, false, false, false, false, false, false, false, false, false, false, false, false, false, false, false, false] rfl rfl (by kernel_rfl) (fun _ _ _ h => h) (Or.inl ⟨by rfl, ?_⟩) hHeld ?_ ?_
  rotate_left
  · rintro w' ⟨⟨s0, s1, s2, s3, s4, s5, s6⟩, ⟨t0, t1, t2, t3, t4, t5, t6⟩⟩
    go_simp
    with_reducible rfl
  rotate_left
  · simp only [Act.put, List.setIfInBounds_toArray, List.set_cons_zero, List.set_cons_succ, i64_w, i32_w]
    rfl
  refine pure_ (i := 30) (N := some 35) (v := ?_) (a' := ?_) #[true, true, true, true, false, true, true, true, true, true, true, true, true, true, true, true, true, true, true, false, true, true, true, true, false, true, true, true, true, false, true, false, false, false, false, false, false, false, false, false, false, false, false, false, false, false, false] rfl rfl (by kernel_rfl) (fun _ _ _ h => h) (Or.inl ⟨by rfl, ?_⟩) ?_ ?_
  rotate_left
  · intro w'
    go_simp
    with_reducible rfl
  rotate_left
  · simp only [Act.put, List.setIfInBounds_toArray, List.set_cons_zero, List.set_cons_succ, i64_w, i32_w]
    rfl
  refine pure_ (i := 31) (N := some 36) (v := ?_) (a' := ?_) #[true, true, true, true, false, true, true, true, true, true, true, true, true, true, true, true, true, true, true, false, true, true, true, true, false, true, true, true, true, false, true, true, false, false, false, false, false, false, false, false, false, false, false, false, false, false, false] rfl rfl (by kernel_rfl) (fun _ _ _ h => h) (Or.inl ⟨by rfl, ?_⟩) ?_ ?_
  rotate_left
  · intro w'
    go_simp
    with_reducible rfl
  rotate_left
  · simp only [Act.put, List.setIfInBounds_toArray, List.set_cons_zero, List.set_cons_succ, i64_w, i32_w]
    rfl
  refine take_ (i := 32) (N := some 37) (v := ?_) (a' := ?_) #[true, true, true, true, false, true, true, true, true, true, true, true, true, true, true, true, true, true, true, false, true, true, true, true, false, true, true, true, true, false, true, true, true, false, false, false, false, false, false, false, false, false, false, false, false, false, false] rfl rfl (by kernel_rfl) (fun _ _ _ h => h) (Or.inl ⟨by rfl, ?_⟩) hHeld ?_ ?_
  rotate_left
  · rintro w' ⟨⟨s0, s1, s2, s3, s4, s5, s6⟩, ⟨t0, t1, t2, t3, t4, t5, t6⟩⟩
    go_simp
    with_reducible rfl
  rotate_left
  · simp only [Act.put, List.setIfInBounds_toArray, List.set_cons_zero, List.set_cons_succ, i64_w, i32_w]
    rfl
  refine pure_ (i := 33) (N := some 38) (v := ?_) (a' := ?_) #[true, true, true, true, false, true, true, true, true, true, true, true, true, true, true, true, true, true, true, false, true, true, true, true, false, true, true, true, true, false, true, true, true, true, false, false, false, false, false, false, false, false, false, false, false, false, false] rfl rfl (by kernel_rfl) (fun _ _ _ h => h) (Or.inl ⟨by rfl, ?_⟩) ?_ ?_
  rotate_left
  · intro w'
    go_simp
    with_reducible rfl
  rotate_left
  · simp only [Act.put, List.setIfInBounds_toArray, List.set_cons_zero, List.set_cons_succ, i64_w, i32_w]
    rfl
  refine pure_ (i := 34) (N := some 39) (v := ?_) (a' := ?_) #[true, true, true, true, false, true, true, true, true, true, true, true, true, true, true, true, true, true, true, false, true, true, true, true, false, true, true, true, true, false, true, true, true, true, true, false, false, false, false, false, false, false, false, false, false, false, false] rfl rfl (by kernel_rfl) (fun _ _ _ h => h) (Or.inl ⟨by rfl, ?_⟩) ?_ ?_
  rotate_left
  · intro w'
    go_simp
    with_reducible rfl
  rotate_left
  · simp only [Act.put, List.setIfInBounds_toArray, List.set_cons_zero, List.set_cons_succ, i64_w, i32_w]
    rfl
  refine take_ (i := 35) (N := some 40) (v := ?_) (a' := ?_) #[true, true, true, true, false, true, true, true, true, true, true, true, true, true, true, true, true, true, true, false, true, true, true, true, false, true, true, true, true, false, true, true, true, true, true, true, false, false, false, false, false, false, false, false, false, false, false] rfl rfl (by kernel_rfl) (fun _ _ _ h => h) (Or.inl ⟨by rfl, ?_⟩) hHeld ?_ ?_
  rotate_left
  · rintro w' ⟨⟨s0, s1, s2, s3, s4, s5, s6⟩, ⟨t0, t1, t2, t3, t4, t5, t6⟩⟩
    go_simp
    with_reducible rfl
  rotate_left
  · simp only [Act.put, List.setIfInBounds_toArray, List.set_cons_zero, List.set_cons_succ, i64_w, i32_w]
    rfl
  refine pure_ (i := 37) (N := some 42) (v := ?_) (a' := ?_) #[true, true, true, true, false, true, true, true, true, true, true, true, true, true, true, true, true, true, true, false, true, true, true, true, false, true, true, true, true, false, true, true, true, true, true, true, false, true, false, false, false, false, false, false, false, false, false] rfl rfl (by kernel_rfl) (fun _ _ _ h => h) (Or.inl ⟨by rfl, ?_⟩) ?_ ?_
  rotate_left
  · intro w'
    go_simp
    with_reducible rfl
  rotate_left
  · simp only [Act.put, List.setIfInBounds_toArray, List.set_cons_zero, List.set_cons_succ, i64_w, i32_w]
    rfl
  refine pure_ (i := 38) (N := some 43) (v := ?_) (a' := ?_) #[true, true, true, true, false, true, true, true, true, true, true, true, true, true, true, true, true, true, true, false, true, true, true, true, false, true, true, true, true, false, true, true, true, true, true, true, false, true, true, false, false, false, false, false, false, false, false] rfl rfl (by kernel_rfl) (fun _ _ _ h => h) (Or.inl ⟨by rfl, ?_⟩) ?_ ?_
  rotate_left
  · intro w'
    go_simp
    with_reducible rfl
  rotate_left
  · simp only [Act.put, List.setIfInBounds_toArray, List.set_cons_zero, List.set_cons_succ, i64_w, i32_w]
    rfl
  refine take_ (i := 39) (N := some 44) (v := ?_) (a' := ?_) #[true, true, true, true, false, true, true, true, true, true, true, true, true, true, true, true, true, true, true, false, true, true, true, true, false, true, true, true, true, false, true, true, true, true, true, true, false, true, true, true, false, false, false, false, false, false, false] rfl rfl (by kernel_rfl) (fun _ _ _ h => h) (Or.inl ⟨by rfl, ?_⟩) hHeld ?_ ?_
  rotate_left
  · rintro w' ⟨⟨s0, s1, s2, s3, s4, s5, s6⟩, ⟨t0, t1, t2, t3, t4, t5, t6⟩⟩
    go_simp
    with_reducible rfl
  rotate_left
  · simp only [Act.put, List.setIfInBounds_toArray, List.set_cons_zero, List.set_cons_succ, i64_w, i32_w]
    rfl
  refine pure_ (i := 40) (N := some 45) (v := ?_) (a' := ?_) #[true, true, true, true, false, true, true, true, true, true, true, true, true, true, true, true, true, true, true, false, true, true, true, true, false, true, true, true, true, false, true, true, true, true, true, true, false, true, true, true, true, false, false, false, false, false, false] rfl rfl (by kernel_rfl) (fun _ _ _ h => h) (Or.inl ⟨by rfl, ?_⟩) ?_ ?_
  rotate_left
  · intro w'
    go_simp
    with_reducible rfl
  rotate_left
  · simp only [Act.put, List.setIfInBounds_toArray, List.set_cons_zero, List.set_cons_succ, i64_w, i32_w]
    rfl
  refine pure_ (i := 41) (N := some 46) (v := ?_) (a' := ?_) #[true, true, true, true, false, true, true, true, true, true, true, true, true, true, true, true, true, true, true, false, true, true, true, true, false, true, true, true, true, false, true, true, true, true, true, true, false, true, true, true, true, true, false, false, false, false, false] rfl rfl (by kernel_rfl) (fun _ _ _ h => h) (Or.inl ⟨by rfl, ?_⟩) ?_ ?_
  rotate_left
  · intro w'
    go_simp
    with_reducible rfl
  rotate_left
  · simp only [Act.put, List.setIfInBounds_toArray, List.set_cons_zero, List.set_cons_succ, i64_w, i32_w]
    rfl
  refine take_ (i := 42) (N := some 47) (v := ?_) (a' := ?_) #[true, true, true, true, false, true, true, true, true, true, true, true, true, true, true, true, true, true, true, false, true, true, true, true, false, true, true, true, true, false, true, true, true, true, true, true, false, true, true, true, true, true, true, false, false, false, false] rfl rfl (by kernel_rfl) (fun _ _ _ h => h) (Or.inl ⟨by rfl, ?_⟩) hHeld ?_ ?_
  rotate_left
  · rintro w' ⟨⟨s0, s1, s2, s3, s4, s5, s6⟩, ⟨t0, t1, t2, t3, t4, t5, t6⟩⟩
    go_simp
    with_reducible rfl
  rotate_left
  · simp only [Act.put, List.setIfInBounds_toArray, List.set_cons_zero, List.set_cons_succ, i64_w, i32_w]
    rfl
  refine one_ (i := 4) (N := some 9) #[true, true, true, true, true, true, true, true, true, true, true, true, true, true, true, true, true, true, true, false, true, true, true, true, false, true, true, true, true, false, true, true, true, true, true, true, false, true, true, true, true, true, true, false, false, false, false] rfl rfl (by kernel_rfl) (by decide) (fun K hK => ?_)
  refine goes_ Try.func41 (by kernel_rfl) rfl #[.int .i64 a3, .int .i64 b3] (by rfl) rfl rfl (by (try simp only [List.map_toArray, List.map_cons, List.map_nil]); first | done | rfl) ?_
  refine (cmpi_c _ _ _).mono ?_
  rintro e w4 ⟨rfl, m1, rfl⟩
  refine ⟨_, rfl, hK.out _ _ hHeld (fun hHeld => ?_)⟩
  clear hK K
  refine norm_ (a' := ?_) ?_ ?_
  rotate_left
  · simp only [Act.put, List.setIfInBounds_toArray, List.set_cons_zero, List.set_cons_succ, i64_w, i32_w]
    rfl
  refine one_ (i := 19) (N := some 24) #[true, true, true, true, true, true, true, true, true, true, true, true, true, true, true, true, true, true, true, true, true, true, true, true, false, true, true, true, true, false, true, true, true, true, true, true, false, true, true, true, true, true, true, false, false, false, false] rfl rfl (by kernel_rfl) (by decide) (fun K hK => ?_)
  refine goes_ Try.func41 (by kernel_rfl) rfl #[.int .i64 (wrap64 (a4 * b5)), .int .i64 (wrap64 (b4 * a5))] (by rfl) rfl rfl (by (try simp only [List.map_toArray, List.map_cons, List.map_nil]); first | done | rfl) ?_
  refine (cmpi_c _ _ _).mono ?_
  rintro e w19 ⟨rfl, m2, rfl⟩
  refine ⟨_, rfl, hK.out _ _ hHeld (fun hHeld => ?_)⟩
  clear hK K
  refine norm_ (a' := ?_) ?_ ?_
  rotate_left
  · simp only [Act.put, List.setIfInBounds_toArray, List.set_cons_zero, List.set_cons_succ, i64_w, i32_w]
    rfl
  refine one_ (i := 24) (N := some 29) #[true, true, true, true, true, true, true, true, true, true, true, true, true, true, true, true, true, true, true, true, true, true, true, true, true, true, true, true, true, false, true, true, true, true, true, true, false, true, true, true, true, true, true, false, false, false, false] rfl rfl (by kernel_rfl) (by decide) (fun K hK => ?_)
  refine goes_ Try.func41 (by kernel_rfl) rfl #[.int .i64 a6, .int .i64 b6] (by rfl) rfl rfl (by (try simp only [List.map_toArray, List.map_cons, List.map_nil]); first | done | rfl) ?_
  refine (cmpi_c _ _ _).mono ?_
  rintro e w24 ⟨rfl, m3, rfl⟩
  refine ⟨_, rfl, hK.out _ _ hHeld (fun hHeld => ?_)⟩
  clear hK K
  refine norm_ (a' := ?_) ?_ ?_
  rotate_left
  · simp only [Act.put, List.setIfInBounds_toArray, List.set_cons_zero, List.set_cons_succ, i64_w, i32_w]
    rfl
  refine one_ (i := 29) (N := some 34) #[true, true, true, true, true, true, true, true, true, true, true, true, true, true, true, true, true, true, true, true, true, true, true, true, true, true, true, true, true, true, true, true, true, true, true, true, false, true, true, true, true, true, true, false, false, false, false] rfl rfl (by kernel_rfl) (by decide) (fun K hK => ?_)
  refine goes_ Try.func41 (by kernel_rfl) rfl #[.int .i64 a2, .int .i64 b2] (by rfl) rfl rfl (by (try simp only [List.map_toArray, List.map_cons, List.map_nil]); first | done | rfl) ?_
  refine (cmpi_c _ _ _).mono ?_
  rintro e w29 ⟨rfl, m4, rfl⟩
  refine ⟨_, rfl, hK.out _ _ hHeld (fun hHeld => ?_)⟩
  clear hK K
  refine norm_ (a' := ?_) ?_ ?_
  rotate_left
  · simp only [Act.put, List.setIfInBounds_toArray, List.set_cons_zero, List.set_cons_succ, i64_w, i32_w]
    rfl
  refine one_ (i := 36) (N := some 41) #[true, true, true, true, true, true, true, true, true, true, true, true, true, true, true, true, true, true, true, true, true, true, true, true, true, true, true, true, true, true, true, true, true, true, true, true, true, true, true, true, true, true, true, false, false, false, false] rfl rfl (by kernel_rfl) (by decide) (fun K hK => ?_)
  refine goes_ Try.func42 (by kernel_rfl) rfl #[.string a0, .string b0] (by rfl) rfl rfl (by (try simp only [List.map_toArray, List.map_cons, List.map_nil]); first | done | rfl) ?_
  refine (cmps_c _ _ _).mono ?_
  rintro e w36 ⟨rfl, m5, rfl⟩
  refine ⟨_, rfl, hK.out _ _ hHeld (fun hHeld => ?_)⟩
  clear hK K
  refine norm_ (a' := ?_) ?_ ?_
  rotate_left
  · simp only [Act.put, List.setIfInBounds_toArray, List.set_cons_zero, List.set_cons_succ, i64_w, i32_w]
    rfl
  refine one_ (i := 43) (N := some 48) #[true, true, true, true, true, true, true, true, true, true, true, true, true, true, true, true, true, true, true, true, true, true, true, true, true, true, true, true, true, true, true, true, true, true, true, true, true, true, true, true, true, true, true, true, false, false, false] rfl rfl (by kernel_rfl) (by decide) (fun K hK => ?_)
  refine goes_ Try.func41 (by kernel_rfl) rfl #[.int .i64 a1, .int .i64 b1] (by rfl) rfl rfl (by (try simp only [List.map_toArray, List.map_cons, List.map_nil]); first | done | rfl) ?_
  refine (cmpi_c _ _ _).mono ?_
  rintro e w43 ⟨rfl, m6, rfl⟩
  refine ⟨_, rfl, hK.out _ _ hHeld (fun hHeld => ?_)⟩
  clear hK K
  refine norm_ (a' := ?_) ?_ ?_
  rotate_left
  · simp only [Act.put, List.setIfInBounds_toArray, List.set_cons_zero, List.set_cons_succ, i64_w, i32_w]
    rfl
  generalize hc1 : cmpI a3 b3 = c1 at *
  generalize hc2 : cmpI (wrap64 (a4 * b5)) (wrap64 (b4 * a5)) = c2 at *
  generalize hc3 : cmpI a6 b6 = c3 at *
  generalize hc4 : cmpI a2 b2 = c4 at *
  generalize hc5 : cmpS a0 b0 = c5 at *
  generalize hc6 : cmpI a1 b1 = c6 at *
  have hT : Hid (cmpT ⟨⟨a0, a1⟩, a2, a3, ⟨a4, a5⟩, a6⟩ ⟨⟨b0, b1⟩, b2, b3, ⟨b4, b5⟩, b6⟩ = ors [c1, c2, c3, c4, c5, c6]) := Lib.hid (by rw [← hc1, ← hc2, ← hc3, ← hc4, ← hc5, ← hc6]; rfl)
  clear hc1 hc2 hc3 hc4 hc5 hc6
  obtain ⟨w9, hw9⟩ : ∃ w9, w9 = ((((((W0.drew).drewN m1).drewN m2).drewN m3).drewN m4).drewN m5).drewN m6 := ⟨_, rfl⟩
  rw [← hw9] at hHeld ⊢
  have Hw9 := Lib.hid hw9
  clear hw9
  refine one_ (i := 44) (N := some 49) #[true, true, true, true, true, true, true, true, true, true, true, true, true, true, true, true, true, true, true, true, true, true, true, true, true, true, true, true, true, true, true, true, true, true, true, true, true, true, true, true, true, true, true, true, true, false, false] rfl rfl (by kernel_rfl) (by decide) (fun K hK => ?_)
  refine value_ (v := .slice (some ⟨w9.heap.size, 0, none⟩) 6 6) (w1 := w9.alloc (.cells #[.int .i64 c1, .int .i64 c2, .int .i64 c3, .int .i64 c4, .int .i64 c5, .int .i64 c6] 3)) (by rfl) rfl ?_ ?_
  · go_simp
  have hbw := (Below.refl w9.heap.size w9).alloc (Nat.le_refl _) (.cells #[.int .i64 c1, .int .i64 c2, .int .i64 c3, .int .i64 c4, .int .i64 c5, .int .i64 c6] 3)
  have hcw : ∀ (p : Addr) (v : Value), w9.cell? p = some v → (w9.alloc (.cells #[.int .i64 c1, .int .i64 c2, .int .i64 c3, .int .i64 c4, .int .i64 c5, .int .i64 c6] 3)).cell? p = some v := fun p v h => (hbw.cell (p := p) (World.block_lt_of_cell? _ _ h)).trans h
  have hH2 : TAt (w9.alloc (.cells #[.int .i64 c1, .int .i64 c2, .int .i64 c3, .int .i64 c4, .int .i64 c5, .int .i64 c6] 3)) g1 ⟨⟨a0, a1⟩, a2, a3, ⟨a4, a5⟩, a6⟩ ∧ TAt (w9.alloc (.cells #[.int .i64 c1, .int .i64 c2, .int .i64 c3, .int .i64 c4, .int .i64 c5, .int .i64 c6] 3)) g2 ⟨⟨b0, b1⟩, b2, b3, ⟨b4, b5⟩, b6⟩ := by
    obtain ⟨⟨s0, s1, s2, s3, s4, s5, s6⟩, ⟨t0, t1, t2, t3, t4, t5, t6⟩⟩ := hHeld
    exact ⟨⟨hcw _ _ s0, hcw _ _ s1, hcw _ _ s2, hcw _ _ s3, hcw _ _ s4, hcw _ _ s5, hcw _ _ s6⟩, ⟨hcw _ _ t0, hcw _ _ t1, hcw _ _ t2, hcw _ _ t3, hcw _ _ t4, hcw _ _ t5, hcw _ _ t6⟩⟩
  have hOr := or_c [c1, c2, c3, c4, c5, c6] (by simp) (some ⟨w9.heap.size, 0, none⟩) 6 (w9.alloc (.cells #[.int .i64 c1, .int .i64 c2, .int .i64 c3, .int .i64 c4, .int .i64 c5, .int .i64 c6] 3)) (C_of_cells (by simp) (fun j hj => by
    have := blk_cell (blk_new w9 (.cells #[.int .i64 c1, .int .i64 c2, .int .i64 c3, .int .i64 c4, .int .i64 c5, .int .i64 c6] 3)) j
    rw [this]
    have hj6 : j < 6 := hj
    rcases (show j = 0 ∨ j = 1 ∨ j = 2 ∨ j = 3 ∨ j = 4 ∨ j = 5 from by omega) with rfl | rfl | rfl | rfl | rfl | rfl <;> rfl)) (by simp)
  refine hK.out _ _ hH2 (fun hHeld => ?_)
  clear hK K hcw hbw hH2
  refine norm_ (a' := ?_) ?_ ?_
  rotate_left
  · simp only [Act.put, List.setIfInBounds_toArray, List.set_cons_zero, List.set_cons_succ, i64_w, i32_w]
    rfl
  refine one_ (i := 45) (N := some 50) #[true, true, true, true, true, true, true, true, true, true, true, true, true, true, true, true, true, true, true, true, true, true, true, true, true, true, true, true, true, true, true, true, true, true, true, true, true, true, true, true, true, true, true, true, true, true, false] rfl rfl (by kernel_rfl) (by decide) (fun K hK => ?_)
  refine goes_ Try.func40 (by kernel_rfl) rfl #[.slice (some ⟨w9.heap.size, 0, none⟩) 6 6] (by rfl) rfl rfl (by (try simp only [List.map_toArray, List.map_cons, List.map_nil]); first | done | rfl) ?_
  refine hOr.mono ?_
  rintro e w10 ⟨rfl, m7, rfl⟩
  refine ⟨_, rfl, hK.out _ _ hHeld (fun hHeld => ?_)⟩
  clear hK K hOr
  refine norm_ (a' := ?_) ?_ ?_
  rotate_left
  · simp only [Act.put, List.setIfInBounds_toArray, List.set_cons_zero, List.set_cons_succ, i64_w, i32_w]
    rfl
  refine pure_ (i := 46) (N := some 4) (v := ?_) (a' := ?_) #[true, true, true, true, true, true, true, true, true, true, true, true, true, true, true, true, true, true, true, true, true, true, true, true, true, true, true, true, true, true, true, true, true, true, true, true, true, true, true, true, true, true, true, true, true, true, true] rfl rfl (by kernel_rfl) (fun _ _ _ h => h) (Or.inl ⟨by rfl, ?_⟩) ?_ ?_
  rotate_left
  · intro w'
    go_simp
    with_reducible rfl
  rotate_left
  · simp only [Act.put, List.setIfInBounds_toArray, List.set_cons_zero, List.set_cons_succ, i64_w, i32_w]
    rfl
  refine done_ (by kernel_rfl) ?_
  clear hHeld
  go_wp2_with fail
  go_ret
  rw [hT.out]
  refine ⟨rfl, 1 + m1 + m2 + m3 + m4 + m5 + m6 + m7, #[.cells #[.string a0, .int .i64 a1, .int .i64 a2, .int .i64 a3, .int .i64 a4, .int .i64 a5, .int .i64 a6] 32, .cells #[.string b0, .int .i64 b1, .int .i64 b2, .int .i64 b3, .int .i64 b4, .int .i64 b5, .int .i64 b6] 32, .cells #[.int .i64 c1, .int .i64 c2, .int .i64 c3, .int .i64 c4, .int .i64 c5, .int .i64 c6] 3], ?_⟩
  rw [Hw9.out, HW0.out]
  exact grow_end _ _ _ _ _ _ _ _ _ _ _
end Go.Proofs.Ytkngdlmlijefbaa.Pq
end
section
namespace Go.Proofs.Ytkngdlmlijefbaa.Pq
open Go.RowKit
open Go.Proofs.Ytkngdlmlijefbaa.PPriorityOrder
set_option linter.unusedVariables false
set_option linter.unusedSimpArgs false

/-- A comparison: what stands the other way round has the other sign; 'at most' goes on. -/
structure Cmp {α : Type} (c : α → α → Int) : Prop where
  anti : ∀ x y, c y x = - c x y
  trans : ∀ x y z, c x y ≤ 0 → c y z ≤ 0 → c x z ≤ 0
theorem Cmp.refl {α : Type} {c : α → α → Int} (h : Cmp c) (x : α) : c x x = 0 := by have := h.anti x x; omega
def lex {α : Type} (c d : α → α → Int) (x y : α) : Int := if c x y = 0 then d x y else c x y
theorem Cmp.lex {α : Type} {c d : α → α → Int} (hc : Cmp c) (hd : Cmp d) : Cmp (lex c d) := by
  refine ⟨fun x y => ?_, fun x y z h1 h2 => ?_⟩
  · unfold Pq.lex
    have h1 := hc.anti x y
    have h2 := hd.anti x y
    by_cases h : c x y = 0
    · rw [if_pos h, if_pos (by omega), h2]
    · rw [if_neg h, if_neg (by omega), h1]
  · unfold Pq.lex at *
    have t1 := hc.trans x y z
    have t2 := hc.trans z x y
    have t3 := hc.trans y z x
    have a1 := hc.anti x y
    have a2 := hc.anti y z
    have a3 := hc.anti x z
    have a4 := hc.anti z x
    have d1 := hd.trans x y z
    by_cases hx : c x y = 0
    · rw [if_pos hx] at h1
      by_cases hy : c y z = 0
      · rw [if_pos hy] at h2
        have e : c x z = 0 := by
          have s1 := t1 (by omega) (by omega)
          have s2 := hc.trans z y x (by have := hc.anti y z; omega) (by have := hc.anti x y; omega)
          omega
        rw [if_pos e]
        exact d1 h1 h2
      · rw [if_neg hy] at h2
        have s1 := t1 (by omega) h2
        by_cases e : c x z = 0
        · have s2 := hc.trans z x y (by omega) (by omega)
          omega
        · rw [if_neg e]; exact s1
    · rw [if_neg hx] at h1
      have h2' : c y z ≤ 0 := by
        by_cases hy : c y z = 0
        · omega
        · rw [if_neg hy] at h2; exact h2
      have s1 := t1 h1 h2'
      by_cases e : c x z = 0
      · have s2 := hc.trans y z x h2' (by omega)
        omega
      · rw [if_neg e]; exact s1
theorem Cmp.swo {α : Type} {c : α → α → Int} (h : Cmp c) : Sort.SWO (ltOf c) where
  irrefl x := by have := h.refl x; simp [ltOf, this]
  trans x y z h1 h2 := by
    have h1 : c x y < 0 := by simpa [ltOf] using h1
    have h2 : c y z < 0 := by simpa [ltOf] using h2
    have s1 := h.trans x y z (by omega) (by omega)
    have a3 := h.anti x z
    have a1 := h.anti y z
    have : ¬ c x z = 0 := fun e => by
      have := h.trans z x y (by omega) (by omega)
      omega
    simp [ltOf]; omega
  ntrans x y z h1 h2 := by
    have h1 : 0 ≤ c x y := by simpa [ltOf] using h1
    have h2 : 0 ≤ c y z := by simpa [ltOf] using h2
    have a1 := h.anti x y
    have a2 := h.anti y z
    have a3 := h.anti x z
    have := h.trans z y x (by omega) (by omega)
    simp [ltOf]; omega
theorem Cmp.on {α β : Type} {c : β → β → Int} (h : Cmp c) (f : α → β) : Cmp (fun x y => c (f x) (f y)) := ⟨fun x y => h.anti _ _, fun x y z => h.trans _ _ _⟩
theorem Cmp.int : Cmp cmpI := by
  refine ⟨fun x y => ?_, fun x y z h1 h2 => ?_⟩
  · unfold cmpI; split <;> split <;> omega
  · unfold cmpI at *
    repeat' split at h1
    all_goals repeat' split at h2
    all_goals repeat' split
    all_goals omega
end Go.Proofs.Ytkngdlmlijefbaa.Pq
end
section
namespace Go.Proofs.Ytkngdlmlijefbaa.Pq
open Go.RowKit
open Go.Proofs.Ytkngdlmlijefbaa.PPriorityOrder
set_option linter.unusedVariables false
set_option linter.unusedSimpArgs false

theorem less_trans : ∀ x y z : List UInt8, Op.bytesLess x y = true → Op.bytesLess y z = true → Op.bytesLess x z = true
  | [], [], z, h, _ => by simp [Op.bytesLess] at h
  | x, b :: y, [], _, h => by simp [Op.bytesLess] at h
  | a :: x, [], z, h, _ => by simp [Op.bytesLess] at h
  | [], b :: y, c :: z, _, _ => by simp [Op.bytesLess]
  | a :: x, b :: y, c :: z, h1, h2 => by
    have ih := less_trans x y z
    simp only [Op.bytesLess, Bool.or_eq_true, Bool.and_eq_true, decide_eq_true_eq, beq_iff_eq] at *
    rcases h1 with h1 | ⟨h1, k1⟩
    · rcases h2 with h2 | ⟨h2, k2⟩
      · exact .inl (UInt8.lt_trans h1 h2)
      · exact .inl (h2 ▸ h1)
    · rcases h2 with h2 | ⟨h2, k2⟩
      · exact .inl (h1 ▸ h2)
      · exact .inr ⟨h1.trans h2, ih k1 k2⟩
theorem less_iff (x y : List UInt8) : Op.bytesLess y x = true ↔ ¬ (Op.bytesLess x y = true) ∧ x ≠ y := by
  rw [← less_tri x y]
  simp
theorem Cmp.str : Cmp cmpS := by
  have hle : ∀ x y : ByteArray, cmpS x y ≤ 0 ↔ ¬ (Op.bytesLess y.toList x.toList = true) := fun x y => by
    have h1 := less_iff x.toList y.toList
    unfold cmpS
    by_cases h : Op.bytesLess x.toList y.toList = true
    · rw [if_pos h]
      exact ⟨fun _ h2 => (h1.1 h2).1 h, fun _ => by omega⟩
    · rw [if_neg h]
      by_cases k : Op.bytesLess y.toList x.toList = true
      · rw [if_pos k]; exact ⟨fun h => by omega, fun h => absurd k h⟩
      · rw [if_neg k]; exact ⟨fun _ => k, fun _ => by omega⟩
  refine ⟨fun x y => ?_, fun x y z h1 h2 => ?_⟩
  · have h1 := less_iff x.toList y.toList
    unfold cmpS
    by_cases h : Op.bytesLess x.toList y.toList = true
    · rw [if_pos h, if_neg (fun k => (h1.1 k).1 h), if_pos h]; rfl
    · rw [if_neg h]
      by_cases k : Op.bytesLess y.toList x.toList = true
      · rw [if_pos k, if_pos k, if_neg h]
      · rw [if_neg k, if_neg k, if_neg h]; rfl
  · rw [hle] at h1 h2 ⊢
    intro h
    have a1 := less_iff x.toList y.toList
    have a2 := less_iff y.toList z.toList
    by_cases e1 : x.toList = y.toList
    · exact h2 (e1 ▸ h)
    · by_cases e2 : y.toList = z.toList
      · exact h1 (e2 ▸ h)
      · have l1 : Op.bytesLess x.toList y.toList = true := Classical.byContradiction fun k => h1 (a1.2 ⟨k, e1⟩)
        have l2 : Op.bytesLess y.toList z.toList = true := Classical.byContradiction fun k => h2 (a2.2 ⟨k, e2⟩)
        have l3 := less_trans _ _ _ l1 l2
        exact ((less_iff x.toList z.toList).1 h).1 l3
/-- What the comparison needs of a task. -/
def Vc (t : S32) : Prop := (1 ≤ t.f3.f1 ∧ t.f3.f1 ≤ 1073741824) ∧ 0 ≤ t.f3.f0 ∧ t.f3.f0 ≤ t.f3.f1
abbrev VT := { t : S32 // Vc t }
theorem mul_in {a b : Int} (ha : 0 ≤ a) (ha2 : a ≤ 1073741824) (hb : 0 ≤ b) (hb2 : b ≤ 1073741824) : wrap64 (a * b) = a * b := by
  have h1 : 0 ≤ a * b := Int.mul_nonneg ha hb
  have h2 : a * b ≤ 1073741824 * 1073741824 := Int.mul_le_mul ha2 hb2 hb (by omega)
  unfold wrap64
  omega
theorem chance_eq (x y : VT) : cmpI (wrap64 (x.1.f3.f0 * y.1.f3.f1)) (wrap64 (y.1.f3.f0 * x.1.f3.f1)) = cmpI (x.1.f3.f0 * y.1.f3.f1) (y.1.f3.f0 * x.1.f3.f1) := by
  obtain ⟨⟨x1, x2⟩, x3, x4⟩ := x.2
  obtain ⟨⟨y1, y2⟩, y3, y4⟩ := y.2
  rw [mul_in (by omega) (by omega) (by omega) (by omega), mul_in (by omega) (by omega) (by omega) (by omega)]
theorem cmpI_le {x y : Int} : cmpI x y ≤ 0 ↔ x ≤ y := by
  unfold cmpI
  split
  · omega
  · split <;> omega
theorem Cmp.chance : Cmp (fun x y : VT => cmpI (wrap64 (x.1.f3.f0 * y.1.f3.f1)) (wrap64 (y.1.f3.f0 * x.1.f3.f1))) := by
  refine ⟨fun x y => Cmp.int.anti _ _, fun x y z h1 h2 => ?_⟩
  simp only [chance_eq, cmpI_le] at *
  have hx := x.2.1.1
  have hy := y.2.1.1
  have hz := z.2.1.1
  generalize x.1.f3.f0 = n1 at *
  generalize x.1.f3.f1 = d1 at *
  generalize y.1.f3.f0 = n2 at *
  generalize y.1.f3.f1 = d2 at *
  generalize z.1.f3.f0 = n3 at *
  generalize z.1.f3.f1 = d3 at *
  have e1 : n1 * d2 * d3 ≤ n2 * d1 * d3 := Int.mul_le_mul_of_nonneg_right h1 (by omega)
  have e2 : n2 * d3 * d1 ≤ n3 * d2 * d1 := Int.mul_le_mul_of_nonneg_right h2 (by omega)
  have e3 : n1 * d3 * d2 ≤ n3 * d1 * d2 := by
    have a1 : n1 * d3 * d2 = n1 * d2 * d3 := by rw [Int.mul_assoc, Int.mul_comm d3, ← Int.mul_assoc]
    have a2 : n2 * d1 * d3 = n2 * d3 * d1 := by rw [Int.mul_assoc, Int.mul_comm d1, ← Int.mul_assoc]
    have a3 : n3 * d2 * d1 = n3 * d1 * d2 := by rw [Int.mul_assoc, Int.mul_comm d2, ← Int.mul_assoc]
    omega
  exact Int.le_of_mul_le_mul_right e3 (by omega)
theorem cmpT_lex (x y : S32) : cmpT x y = lex (fun x y : S32 => cmpI x.f2 y.f2) (lex (fun x y => cmpI (wrap64 (x.f3.f0 * y.f3.f1)) (wrap64 (y.f3.f0 * x.f3.f1))) (lex (fun x y => cmpI x.f4 y.f4) (lex (fun x y => cmpI x.f1 y.f1) (lex (fun x y => cmpS x.f0.f0 y.f0.f0) (fun x y => cmpI x.f0.f1 y.f0.f1))))) x y := by
  unfold cmpT lex
  simp only [ors]
  repeat' split
  all_goals first | rfl | omega
theorem Cmp.task : Cmp (fun x y : VT => cmpT x.1 y.1) := by
  have h := (Cmp.int.on (fun x : VT => x.1.f2)).lex (Cmp.chance.lex ((Cmp.int.on (fun x : VT => x.1.f4)).lex ((Cmp.int.on (fun x : VT => x.1.f1)).lex ((Cmp.str.on (fun x : VT => x.1.f0.f0)).lex (Cmp.int.on (fun x : VT => x.1.f0.f1))))))
  have e : (fun x y : VT => cmpT x.1 y.1) = _ := funext fun x => funext fun y => cmpT_lex x.1 y.1
  rw [e]
  exact h
end Go.Proofs.Ytkngdlmlijefbaa.Pq
end
section
namespace Go.Proofs
open Go.Shelf
shelf_lay_g SlLaysF0.n6 Slsf 6 at Try 49 as Ytkngdlmlijefbaa.sortL
end Go.Proofs
namespace Go.Proofs.Ytkngdlmlijefbaa.Pq
open Go.RowKit Go.Proofs.YtkngdlmlijefbaaW.PrintWords Go.Proofs.YtkngdlmlijefbaaW.PrintLast Go.Proofs.YtkngdlmlijefbaaW.PrintMore Go.Proofs.Mp
open Go.Proofs.Ytkngdlmlijefbaa.PPriorityOrder
set_option linter.unusedVariables false
set_option linter.unusedSimpArgs false

def tcs (a : S32) : List Value := [.string a.f0.f0, .int .i64 a.f0.f1, .int .i64 a.f1, .int .i64 a.f2, .int .i64 a.f3.f0, .int .i64 a.f3.f1, .int .i64 a.f4]
theorem tcs_len (a : S32) : (tcs a).length = 7 := rfl
def tflat (l : List S32) : List Value := l.flatMap tcs
theorem tflat_cons (a : S32) (l : List S32) : tflat (a :: l) = tcs a ++ tflat l := rfl
theorem tflat_len : ∀ l : List S32, (tflat l).length = l.length * 7
  | [] => rfl
  | a :: l => by rw [tflat_cons, List.length_append, tflat_len l, tcs_len, List.length_cons]; omega
theorem tflat_get : ∀ (l : List S32) (i c : Nat) (a : S32), l[i]? = some a → c < 7 → (tflat l)[i * 7 + c]? = (tcs a)[c]?
  | [], i, c, a, h, _ => by simp at h
  | b :: l, 0, c, a, h, hc => by
    simp at h
    subst h
    rw [tflat_cons, List.getElem?_append_left (by rw [tcs_len]; omega)]
    simp
  | b :: l, i + 1, c, a, h, hc => by
    have ih := tflat_get l i c a (by simpa using h) hc
    rw [tflat_cons, List.getElem?_append_right (by rw [tcs_len]; omega), tcs_len, show (i + 1) * 7 + c - 7 = i * 7 + c from by omega]
    exact ih
theorem tflat_take : ∀ (l : List S32) (i : Nat), (tflat l).take (i * 7) = tflat (l.take i)
  | l, 0 => by simp [tflat]
  | [], i + 1 => by simp [tflat]
  | q :: l, i + 1 => by
    have ih := tflat_take l i
    rw [tflat_cons, List.take_succ_cons, tflat_cons, List.take_append, tcs_len, show (i + 1) * 7 - 7 = i * 7 from by omega, ih, List.take_of_length_le (by rw [tcs_len]; omega)]
theorem tflat_ext {xs : List Value} {l : List S32} (hx : xs.length = l.length * 7) (h : ∀ i a, l[i]? = some a → ∀ c, c < 7 → xs[i * 7 + c]? = (tcs a)[c]?) : xs = tflat l := by
  apply List.ext_getElem?
  intro t
  by_cases ht : t < l.length * 7
  · have hi : t / 7 < l.length := by omega
    have e := h (t / 7) _ (List.getElem?_eq_getElem hi) (t % 7) (by omega)
    have e2 := tflat_get l (t / 7) (t % 7) _ (List.getElem?_eq_getElem hi) (by omega)
    rw [show t / 7 * 7 + t % 7 = t from by omega] at e e2
    rw [e, e2]
  · rw [List.getElem?_eq_none (by omega), List.getElem?_eq_none (by rw [tflat_len]; omega)]
/-- Block g is a row of the tasks l, with room for cap. -/
def OwnT (w : World) (g cap : Nat) (l : List S32) : Prop := ∃ cur, w.heap[g]? = some (.cells cur 32 (0, 0)) ∧ l.length ≤ cap ∧ cap ≤ maxLen ∧ cur.size = cap * 7 ∧ cur.toList.take (l.length * 7) = tflat l
theorem OwnT.lt {w : World} {g cap : Nat} {l : List S32} (h : OwnT w g cap l) : g < w.heap.size := by
  obtain ⟨cur, h1, _⟩ := h
  exact blk_lt h1
theorem OwnT.cell {w : World} {g cap : Nat} {l : List S32} (h : OwnT w g cap l) {i c : Nat} {a : S32} (hi : l[i]? = some a) (hc : c < 7) : w.cell? ⟨g, i * 7 + c, none⟩ = (tcs a)[c]? := by
  obtain ⟨cur, h1, h2, h3, h4, h5⟩ := h
  have hl : i < l.length := (List.getElem?_eq_some_iff.1 hi).1
  rw [blk_cell h1, ← Array.getElem?_toList, ← tflat_get l i c a hi hc, ← h5, List.getElem?_take, if_pos (by omega)]
theorem OwnT.frozen {w : World} {g cap : Nat} {l : List S32} (h : OwnT w g cap l) (j : Nat) : w.frozen? ⟨g, j, none⟩ = false := by
  obtain ⟨cur, h1, _⟩ := h
  exact blk_frozen h1 _
theorem OwnT.move {w w1 : World} {g cap : Nat} {l : List S32} (h : OwnT w g cap l) (hm : w1.heap[g]? = w.heap[g]?) : OwnT w1 g cap l := by
  obtain ⟨cur, h1, r⟩ := h
  exact ⟨cur, hm.trans h1, r⟩
theorem OwnT.below {w w1 : World} {g cap : Nat} {l : List S32} (h : OwnT w g cap l) (hb : Below w.heap.size w w1) : OwnT w1 g cap l := h.move (hb.block g h.lt)
theorem reps_flat {W : World} {base : Nat} {ok : Nat → Prop} {l : List S32} {xs : List Value} (h : Reps (k32.M W base ok) 7 l xs) : xs = tflat l := by
  refine tflat_ext h.1 fun i a hi c hc => ?_
  have e := k32_openM (h.2 i a hi)
  have e2 : ((xs.drop (i * 7)).take 7)[c]? = (tcs a)[c]? := by rw [e]; rfl
  rw [List.getElem?_take, if_pos hc, List.getElem?_drop] at e2
  exact e2
theorem flat_reps (W : World) (base : Nat) (ok : Nat → Prop) (l : List S32) : Reps (k32.M W base ok) 7 l (tflat l) := by
  refine ⟨tflat_len l, fun i a hi => ?_⟩
  have e : ((tflat l).drop (i * 7)).take 7 = tcs a := by
    apply List.ext_getElem?
    intro c
    by_cases hc : c < 7
    · rw [List.getElem?_take, if_pos hc, List.getElem?_drop]
      exact tflat_get l i c a hi hc
    · rw [List.getElem?_take, if_neg hc, List.getElem?_eq_none (by rw [tcs_len]; omega)]
  rw [e]
  exact k32_mkM W base ok a
theorem OwnT.of_R {w : World} {base : Nat} {ok : Nat → Prop} {v : Value} {l : List S32} (h : Kd.R k32 32 w base ok v l) (hn : v ≠ .slice none 0 0) : ∃ g cap, v = .slice (some ⟨g, 0, none⟩) l.length cap ∧ base ≤ g ∧ OwnT w g cap l := by
  obtain ⟨_, inner, ho, hr⟩ := h
  rcases ho.2 with ⟨h0, _⟩ | ⟨g, cap, cur, hv, hg, hh, h1, h2, h3, h4⟩
  · exact absurd h0 hn
  · exact ⟨g, cap, hv, hg, cur, hh, h1, h2, h3, h4.trans (reps_flat hr)⟩
theorem OwnT.to_R {w : World} {base g cap : Nat} {l : List S32} {ok : Nat → Prop} (h : OwnT w g cap l) (hb : base ≤ g) (hok : ok g) : Kd.R k32 32 w base ok (.slice (some ⟨g, 0, none⟩) l.length cap) l := by
  obtain ⟨cur, hh, h1, h2, h3, h4⟩ := h
  refine ⟨fun k hk => ?_, tflat l, ⟨tflat_len l, .inr ⟨g, cap, cur, rfl, hb, hh, h1, h2, h3, h4⟩⟩, flat_reps _ _ _ _⟩
  have : g = k := by simpa [Value.ownBlock] using hk
  exact this ▸ hok
instance : Inhabited VT := ⟨⟨⟨z28, 0, 0, ⟨0, 1⟩, 0⟩, ⟨⟨by decide, by decide⟩, by decide, by decide⟩⟩⟩
def encV (x : VT) : List Value := tcs x.1
theorem pszV (w : World) (g n : Nat) (d : Array VT) : (Sort.putRowK encV 7 (Sort.ahead w n) g 0 d).heap.size = w.heap.size := by
  unfold Sort.putRowK
  rw [Sort.size_putRow]
  rfl
theorem grownBy_V {w : World} {g n : Nat} {os : Array Obj} (d : Array VT) : w.grownBy (Sort.grow (Sort.putRowK encV 7 (Sort.ahead w n) g 0 d) os) (some g) := by
  refine ⟨rfl, rfl, rfl, by rw [Sort.size_grow, pszV]; omega, fun k hk hne => ?_⟩
  rw [Sort.heap_grow_old _ _ (by rw [pszV]; exact hk)]
  have : g ≠ k := fun e => hne (by rw [e])
  simp [Sort.putRowK, Sort.putRow, Sort.mapBlock, Sort.ahead, Array.getElem?_modify, this]
theorem heapV {w : World} {g n : Nat} {os : Array Obj} {cur : Array Value} (d : Array VT) (hb : w.heap[g]? = some (.cells cur 32 (0, 0))) :
    (Sort.grow (Sort.putRowK encV 7 (Sort.ahead w n) g 0 d) os).heap[g]? = some (.cells (Sort.putCells id 0 (Sort.flatK encV 7 d) cur) 32 (0, 0)) := by
  have hg : g < w.heap.size := (Array.getElem?_eq_some_iff.1 hb).1
  rw [Sort.heap_grow_old _ _ (by rw [pszV]; exact hg)]
  simp [Sort.putRowK, Sort.putRow, Sort.mapBlock, Sort.ahead, Array.getElem?_modify, hb, Sort.onCells]
theorem isAgg32 (w : World) : (isAgg 32).run Try.prog w = .ok true w := by kernel_rfl
theorem size32 (w : World) : (Go.sizeOf 32).run Try.prog w = .ok 7 w := by kernel_rfl
set_option maxHeartbeats 1000000 in
/-- slices.SortFunc over valid tasks. -/
theorem sortT (g cap : Nat) (L : List VT) (w : World) (h : OwnT w g cap (L.map (·.1))) (hlen : L.length ≤ 1000) :
    Calls Try.prog 49 #[.slice (some ⟨g, 0, none⟩) L.length cap, .func (.func 23) #[] #[]] w fun e w' => e = .returned (.tuple #[]) ∧ ∃ ys : List VT, ys.Perm L ∧ (∀ i j : Nat, (hij : i < j) → (hj : j < ys.length) → cmpT (ys[i]'(by omega)).1 (ys[j]).1 ≤ 0) ∧
      OwnT w' g cap (ys.map (·.1)) ∧ Fr (fun i => i = g) w w' := by
  have hgl := h.lt
  have hH : Sort.HoldsK encV 7 w g 0 L.toArray := fun t ht => by
    have ht2 : t < L.length * 7 := by simpa using ht
    have hd : L.toArray.size = L.length := by simp
    refine ⟨?_, h.frozen _⟩
    rw [Sort.get_flatK _ _ _ _ (by rw [hd]; exact ht2), Nat.zero_add]
    have hi : t / 7 < L.length := by omega
    have h1 := h.cell (i := t / 7) (c := t % 7) (a := (L[t / 7]).1) (by simp [hi]) (by omega)
    rw [show t / 7 * 7 + t % 7 = t from by omega] at h1
    rw [h1]
    have e1 : L.toArray[t / 7]! = L[t / 7] := by simp [hi]
    rw [e1]
    have h7 : t % 7 < (tcs (L[t / 7]).1).length := by rw [tcs_len]; omega
    rw [List.getElem?_eq_getElem h7]
    show _ = some ((encV L[t / 7])[t % 7]!)
    rw [List.getElem!_eq_getElem?_getD]
    show _ = some (((tcs (L[t / 7]).1)[t % 7]?).getD default)
    rw [List.getElem?_eq_getElem h7]
    rfl
  have eg : ∀ args w, (callFunc 23 args).run Try.prog w = .ok (.enter 23 args) w := enters_of Try.func23 (by kernel_rfl) rfl
  have hcmp : CmpLays Try.prog 23 #[] encV 7 (fun x y : VT => cmpT x.1 y.1) g 0 L.toArray.size w := fun m os dk hs x y => Compare_exact x.1 y.1 _
  have hS := AnyQ.slices_SortFunc Ytkngdlmlijefbaa.sortL 7 isAgg32 size32 encV (fun _ => rfl) (fun x v hv => by simp [encV, tcs] at hv; rcases hv with rfl | rfl | rfl | rfl | rfl | rfl | rfl <;> rfl) (fun x y : VT => cmpT x.1 y.1) Cmp.task.swo 23 #[] g 0 cap L.toArray w eg hcmp hH hgl (by simp; omega)
  have hsz0 : L.toArray.size = L.length := by simp
  rw [hsz0] at hS
  change Calls Try.prog 49 _ _ _ at hS
  refine hS.mono ?_
  rintro e w' ⟨rfl, d', n, os, ⟨hp1, _, hp2⟩, hs, rfl⟩
  have hl' : d'.size = L.length := by rw [hp1]; simp
  have hperm : d'.toList.Perm L := by
    have e1 : d'.extract 0 L.length = d' := by rw [← hl', Array.extract_size]
    rw [e1, ← hsz0, Array.extract_size] at hp2
    exact hp2
  refine ⟨rfl, d'.toList, hperm, fun i j hij hj => ?_, ?_, ?_⟩
  · have hj2 : j < d'.size := by simpa using hj
    have h1 := hs i j (Nat.zero_le _) hij (by omega)
    have e1 : d'[i]! = d'[i]'(by omega) := by simp [show i < d'.size from by omega]
    have e2 : d'[j]! = d'[j] := by simp [hj2]
    rw [e1, e2] at h1
    have h2 : ¬ (cmpT (d'[j]).1 (d'[i]'(by omega)).1 < 0) := of_decide_eq_false h1
    have h3 := Cmp.task.anti d'[j] (d'[i]'(by omega))
    simp only [Array.getElem_toList]
    omega
  · obtain ⟨cur, h1, h2, h3, h4, h5⟩ := h
    simp only [List.length_map] at h2 h5
    refine ⟨_, heapV d' h1, by simp [hl', h2], h3, by simp [Sort.putCells, h4], ?_⟩
    have hcs : L.length * 7 ≤ cur.size := by omega
    rw [List.length_map, Array.length_toList, hl']
    refine tflat_ext (by simp [Sort.putCells, hl', h4]; omega) fun i a hi c hc => ?_
    have hi' : i < L.length := by
      have := (List.getElem?_eq_some_iff.1 hi).1
      simpa [hl'] using this
    have ha : a = (d'[i]'(by omega)).1 := by
      have := (List.getElem?_eq_some_iff.1 hi).2
      simpa using this.symm
    have hic : i * 7 + c < L.length * 7 := by omega
    rw [List.getElem?_take, if_pos hic, Array.getElem?_toList]
    have hfs : (Sort.flatK encV 7 d').size = L.length * 7 := by simp [hl']
    have hgf := Sort.get_flatK encV 7 d' (i * 7 + c) (by rw [hl']; exact hic)
    rw [show (i * 7 + c) / 7 = i from by omega, show (i * 7 + c) % 7 = c from by omega] at hgf
    have e0 : d'[i]! = d'[i]'(by omega) := by simp [show i < d'.size from by omega]
    rw [e0] at hgf
    have e3 : (Sort.putCells id 0 (Sort.flatK encV 7 d') cur)[i * 7 + c]? = some ((Sort.flatK encV 7 d')[i * 7 + c]!) := by
      have : i * 7 + c < cur.size := by omega
      simp [Sort.putCells, Array.getElem?_mapIdx, this, hfs, hic]
    rw [e3, hgf, ha]
    have h7 : c < (tcs (d'[i]'(by omega)).1).length := by rw [tcs_len]; omega
    rw [List.getElem?_eq_getElem h7, List.getElem!_eq_getElem?_getD]
    show some (((tcs (d'[i]'(by omega)).1)[c]?).getD default) = _
    rw [List.getElem?_eq_getElem h7]
    rfl
  · exact (Fr.refl _ w).grown (grownBy_V (w := w) (g := g) (n := n) (os := os) d') (fun k hk _ => (Option.some.inj hk).symm)
end Go.Proofs.Ytkngdlmlijefbaa.Pq
end
section
namespace Go.Proofs.Ytkngdlmlijefbaa.Pq
open Go.RowKit Go.Proofs.YtkngdlmlijefbaaW.PrintWords Go.Proofs.YtkngdlmlijefbaaW.PrintLast Go.Proofs.YtkngdlmlijefbaaW.PrintMore Go.Proofs.Mp
open Go.Proofs.Ytkngdlmlijefbaa.PPriorityOrder
set_option linter.unusedVariables false
set_option linter.unusedSimpArgs false

def eqS (a b : S32) : Bool := (a.f0.f0.toList == b.f0.f0.toList && (a.f0.f1 == b.f0.f1)) && (a.f1 == b.f1 && (a.f2 == b.f2 && ((a.f3.f0 == b.f3.f0 && (a.f3.f1 == b.f3.f1)) && (a.f4 == b.f4))))
theorem ba_toList_inj {a b : ByteArray} (h : a.toList = b.toList) : a = b := by
  rw [ByteArray.toList_eq, ByteArray.toList_eq] at h
  cases a; cases b
  congr 1
  exact Array.toList_inj.1 h
theorem eqS_iff (a b : S32) : eqS a b = true ↔ a = b := by
  obtain ⟨⟨a0, a1⟩, a2, a3, ⟨a4, a5⟩, a6⟩ := a
  obtain ⟨⟨b0, b1⟩, b2, b3, ⟨b4, b5⟩, b6⟩ := b
  unfold eqS
  simp only [Bool.and_eq_true, beq_iff_eq, S32.mk.injEq, S28.mk.injEq, S30.mk.injEq]
  exact ⟨fun ⟨⟨h0, h1⟩, h2, h3, ⟨h4, h5⟩, h6⟩ => ⟨⟨ba_toList_inj h0, h1⟩, h2, h3, ⟨h4, h5⟩, h6⟩, fun ⟨⟨h0, h1⟩, h2, h3, ⟨h4, h5⟩, h6⟩ => ⟨⟨by rw [h0], h1⟩, h2, h3, ⟨h4, h5⟩, h6⟩⟩
def gt (l : List S32) (i : Nat) : S32 := l.getD i z32
theorem gt_some {l : List S32} {i : Nat} (h : i < l.length) : l[i]? = some (gt l i) := by
  unfold gt; rw [List.getD_eq_getElem?_getD, List.getElem?_eq_getElem h]; rfl
/-- The first j elements, equal ones beside one another once. -/
def cp (l : List S32) : Nat → List S32
  | 0 => []
  | 1 => l.take 1
  | j + 2 => if eqS (gt l (j + 1)) (gt l j) = true then cp l (j + 1) else cp l (j + 1) ++ [gt l (j + 1)]
theorem cp_apart {l : List S32} : ∀ j, j ≤ l.length → (∀ i, i + 1 < j → eqS (gt l (i + 1)) (gt l i) = false) → cp l j = l.take j
  | 0, _, _ => by simp [cp]
  | 1, _, _ => rfl
  | j + 2, hj, h => by
    have ih := cp_apart (j + 1) (by omega) (fun i hi => h i (by omega))
    simp only [cp]
    rw [h j (by omega), if_neg (by simp), ih, List.take_succ_eq_append_getElem (by omega : j + 1 < l.length)]
    congr 2
    have := gt_some (l := l) (i := j + 1) (by omega)
    rw [List.getElem?_eq_getElem (by omega)] at this
    exact (Option.some.inj this).symm
theorem OwnT.puts {w : World} {g cap : Nat} {l : List S32} (h : OwnT w g cap l) {i : Nat} (hi : i < l.length) (a : S32) : OwnT (w.setCells g (i * 7) (tcs a)) g cap (l.set i a) := by
  obtain ⟨cur, h1, h2, h3, h4, h5⟩ := h
  obtain ⟨cur', e1, e2, e3⟩ := setCells_row (tcs a) (i * 7) w cur h1 (by rw [tcs_len]; omega)
  refine ⟨cur', e1, by rw [List.length_set]; exact h2, h3, by rw [e2, h4], ?_⟩
  rw [List.length_set]
  have hcl : cur'.toList.length = cap * 7 := by simp [e2, h4]
  have hta := tcs_len a
  generalize hts : tcs a = ts at *
  refine tflat_ext (by rw [List.length_take, List.length_set, hcl]; omega) fun k b hk c hc => ?_
  have hkl : k < l.length := by have := (List.getElem?_eq_some_iff.1 hk).1; simpa using this
  have hcc : cur.toList.length = cap * 7 := by simp [h4]
  rw [List.getElem?_take, if_pos (by omega), e3, hta]
  rw [List.getElem?_set] at hk
  by_cases hki : i = k
  · rw [if_pos hki, if_pos hi] at hk
    obtain rfl := Option.some.inj hk
    rw [hts, List.append_assoc, List.getElem?_append_right (by rw [List.length_take]; omega), List.length_take, List.getElem?_append_left (by omega), show k * 7 + c - min (i * 7) cur.toList.length = c from by omega]
  · rw [if_neg hki] at hk
    have hold := tflat_get l k c b hk hc
    rw [← h5, List.getElem?_take, if_pos (by omega)] at hold
    rw [← hold]
    rcases Nat.lt_or_gt_of_ne hki with hlt | hgt
    · have e : (cur.toList.take (i * 7) ++ ts).length = i * 7 + 7 := by rw [List.length_append, List.length_take]; omega
      rw [List.getElem?_append_right (by omega), List.getElem?_drop, e, show i * 7 + 7 + (k * 7 + c - (i * 7 + 7)) = k * 7 + c from by omega]
    · rw [List.append_assoc, List.getElem?_append_left (by rw [List.length_take]; omega), List.getElem?_take, if_pos (by omega)]
theorem OwnT.clears {w : World} {g cap : Nat} {l : List S32} (h : OwnT w g cap l) {k : Nat} (hk : k ≤ l.length) (vs : List Value) (hv : vs.length = (l.length - k) * 7) : OwnT (w.setCells g (k * 7) vs) g cap (l.take k) := by
  obtain ⟨cur, h1, h2, h3, h4, h5⟩ := h
  obtain ⟨cur', e1, e2, e3⟩ := setCells_row vs (k * 7) w cur h1 (by rw [hv]; omega)
  refine ⟨cur', e1, by rw [List.length_take]; omega, h3, by rw [e2, h4], ?_⟩
  have hcc : cur.toList.length = cap * 7 := by simp [h4]
  rw [List.length_take, Nat.min_eq_left hk, e3, List.append_assoc, List.take_append_of_le_length (by rw [List.length_take]; omega), List.take_take, Nat.min_self, ← tflat_take, ← h5, List.take_take, Nat.min_eq_left (by omega)]
theorem zero32 (w : World) : (zeroValue 32).run Try.prog w = .ok (.agg #[.string ⟨#[]⟩, .int .i64 0, .int .i64 0, .int .i64 0, .int .i64 0, .int .i64 0, .int .i64 0]) w := by kernel_rfl
theorem run_clear7 (w : World) (ty : TypeId) (b o n c : Nat) (hn : 0 < n) (hc : ∀ j, j < n * 7 → (w.cell? ⟨b, o + j, none⟩).isSome = true) (hf : ∀ j, j < n * 7 → w.frozen? ⟨b, o + j, none⟩ = false) :
    ∃ vs : List Value, vs.length = n * 7 ∧ (Builtin.clear_ #[47] ty #[.slice (some ⟨b, o, none⟩) n c]).run Try.prog w = .ok (.tuple #[]) (w.setCells b o vs) := by
  refine ⟨(Builtin.zeroCells (Value.agg #[.string ⟨#[]⟩, .int .i64 0, .int .i64 0, .int .i64 0, .int .i64 0, .int .i64 0, .int .i64 0]).cells n).toList, by simp [Builtin.zeroCells, Value.cells], ?_⟩
  have hst := run_storeCells_cells (P := Try.prog) b o (Builtin.zeroCells (Value.agg #[.string ⟨#[]⟩, .int .i64 0, .int .i64 0, .int .i64 0, .int .i64 0, .int .i64 0, .int .i64 0]).cells n).toList 0 w (by simpa [Builtin.zeroCells, Value.cells] using hc) (by simpa [Builtin.zeroCells, Value.cells] using hf) (by
    intro v hv
    simp only [Builtin.zeroCells, Value.cells, Array.toList_map, List.mem_map] at hv
    obtain ⟨i, _, rfl⟩ := hv
    have : i % 7 = 0 ∨ i % 7 = 1 ∨ i % 7 = 2 ∨ i % 7 = 3 ∨ i % 7 = 4 ∨ i % 7 = 5 ∨ i % 7 = 6 := by omega
    rcases this with h | h | h | h | h | h | h <;> simp [h, Value.oneCell'])
  simp only [Nat.add_zero] at hst
  obtain ⟨m, rfl⟩ : ∃ m, n = m + 1 := ⟨n - 1, by omega⟩
  simp [Builtin.clear_, run_underlying Try.underlying47, zero32, hst]
/-- The row while Compact goes over it. -/
structure KI (l dk : List S32) (k j : Nat) : Prop where
  len : dk.length = l.length
  kj : k < j
  jn : j ≤ l.length
  kept : dk.take k = cp l j
  rest : ∀ i, j ≤ i + 1 → dk[i]? = l[i]?
theorem KI.start {l : List S32} {k : Nat} (hk : 0 < k) (hkl : k < l.length) (h : ∀ i, i + 1 < k → eqS (gt l (i + 1)) (gt l i) = false) (he : eqS (gt l k) (gt l (k - 1)) = true) : KI l l k (k + 1) := by
  obtain ⟨m, rfl⟩ : ∃ m, k = m + 1 := ⟨k - 1, by omega⟩
  refine ⟨rfl, by omega, by omega, ?_, fun i _ => rfl⟩
  rw [← cp_apart (m + 1) (by omega) h]
  simp only [cp]
  rw [if_pos (show eqS (gt l (m + 1)) (gt l m) = true from he)]
theorem KI.skip {l dk : List S32} {k j : Nat} (h : KI l dk k j) (hj : j < l.length) (he : eqS (gt l j) (gt l (j - 1)) = true) : KI l dk k (j + 1) := by
  have hkj := h.kj
  obtain ⟨m, rfl⟩ : ∃ m, j = m + 1 := ⟨j - 1, by omega⟩
  refine ⟨h.len, by omega, by omega, ?_, fun i hi => h.rest i (by omega)⟩
  rw [h.kept]
  simp only [cp]
  rw [if_pos (show eqS (gt l (m + 1)) (gt l m) = true from he)]
theorem KI.keep {l dk : List S32} {k j : Nat} (h : KI l dk k j) (hj : j < l.length) (he : eqS (gt l j) (gt l (j - 1)) = false) : KI l (dk.set k (gt l j)) (k + 1) (j + 1) := by
  have hkj := h.kj
  have hlen := h.len
  obtain ⟨m, rfl⟩ : ∃ m, j = m + 1 := ⟨j - 1, by omega⟩
  refine ⟨by rw [List.length_set]; exact h.len, by omega, by omega, ?_, fun i hi => ?_⟩
  · simp only [cp]
    rw [show m + 1 - 1 = m from rfl] at he
    rw [he, if_neg (by simp), ← h.kept, List.take_succ_eq_append_getElem (by rw [List.length_set]; omega)]
    simp [List.take_set_of_le]
  · rw [List.getElem?_set, if_neg (by omega)]
    exact h.rest i (by omega)
theorem KI.last {l dk : List S32} {k : Nat} (h : KI l dk k l.length) : dk.take k = cp l l.length ∧ (cp l l.length).length = k := by
  refine ⟨h.kept, ?_⟩
  rw [← h.kept, List.length_take]
  have := h.len
  have := h.kj
  omega
end Go.Proofs.Ytkngdlmlijefbaa.Pq
end
section
namespace Go.Proofs.Ytkngdlmlijefbaa.Pq
open Go.RowKit Go.Proofs.YtkngdlmlijefbaaW.PrintWords Go.Proofs.YtkngdlmlijefbaaW.PrintLast Go.Proofs.YtkngdlmlijefbaaW.PrintMore Go.Proofs.Mp
open Go.Proofs.Ytkngdlmlijefbaa.PPriorityOrder
set_option linter.unusedVariables false
set_option linter.unusedSimpArgs false

theorem eqV (d : Nat) (a b : S32) (w : World) : (Op.equalIn (d + 3) 32 (.agg #[.string a.f0.f0, .int .i64 a.f0.f1, .int .i64 a.f1, .int .i64 a.f2, .int .i64 a.f3.f0, .int .i64 a.f3.f1, .int .i64 a.f4]) (.agg #[.string b.f0.f0, .int .i64 b.f0.f1, .int .i64 b.f1, .int .i64 b.f2, .int .i64 b.f3.f0, .int .i64 b.f3.f1, .int .i64 b.f4])).run Try.prog w = .ok (eqS a b) w := eqA32 d w _ _ _ _ _ _ _ _ _ _ _ _ _ _
attribute [local go_sem high] eqV
theorem OwnT.seven {w : World} {g cap : Nat} {l : List S32} (h : OwnT w g cap l) {i : Nat} {a : S32} (hi : l[i]? = some a) : w.cell? ⟨g, i * 7, none⟩ = some (.string a.f0.f0) ∧ w.cell? ⟨g, i * 7 + 1, none⟩ = some (.int .i64 a.f0.f1) ∧ w.cell? ⟨g, i * 7 + 2, none⟩ = some (.int .i64 a.f1) ∧ w.cell? ⟨g, i * 7 + 3, none⟩ = some (.int .i64 a.f2) ∧ w.cell? ⟨g, i * 7 + 4, none⟩ = some (.int .i64 a.f3.f0) ∧ w.cell? ⟨g, i * 7 + 5, none⟩ = some (.int .i64 a.f3.f1) ∧ w.cell? ⟨g, i * 7 + 6, none⟩ = some (.int .i64 a.f4) :=
  ⟨h.cell (c := 0) hi (by decide), h.cell (c := 1) hi (by decide), h.cell (c := 2) hi (by decide), h.cell (c := 3) hi (by decide), h.cell (c := 4) hi (by decide), h.cell (c := 5) hi (by decide), h.cell (c := 6) hi (by decide)⟩
set_option maxHeartbeats 400000 in
set_option maxRecDepth 100000 in
theorem Compact_calls (g cap : Nat) (l : List S32) (w : World) (h : OwnT w g cap l) (hl : l.length ≤ 1000) :
    Calls Try.prog 50 #[.slice (some ⟨g, 0, none⟩) l.length cap] w fun e w' => e = .returned (.slice (some ⟨g, 0, none⟩) (cp l l.length).length cap) ∧ OwnT w' g cap (cp l l.length) ∧ Fr (fun i => i = g) w w' := by
  have H := Lib.hid h
  clear h
  obtain ⟨n, hn⟩ : ∃ n, n = l.length := ⟨_, rfl⟩
  rw [← hn]
  have Hn := Lib.hid hn
  rw [← hn] at hl
  clear hn
  by_cases h2 : n < 2
  · have hdec : decide ((n : Int) < 2) = true := decide_eq_true (by omega)
    go_enter Try.func50, Try.ntmps50
    go_wp2_with fail
    go_ret
    have e : cp l n = l := by
      rw [cp_apart n (by rw [Hn.out]; omega) (fun i hi => by omega), Hn.out, List.take_length]
    rw [e, ← Hn.out]
    exact ⟨rfl, H.out, Fr.refl _ _⟩
  · have hdec : decide ((n : Int) < 2) = false := decide_eq_false (by omega)
    go_enter Try.func50, Try.ntmps50
    go_wp2_with fail
    have hcapn : Hid (n ≤ cap ∧ cap ≤ maxLen) := Lib.hid (by
      obtain ⟨_, _, a1, a2, _⟩ := H.out
      rw [Hn.out]
      exact ⟨a1, a2⟩)
    go_loopw [3] (fun v wr => ∃ k : Nat, 1 ≤ k ∧ k ≤ n ∧ v = .int .i64 k ∧ Hid (∀ i, i + 1 < k → eqS (gt l (i + 1)) (gt l i) = false) ∧ Hid (OwnT wr g cap l) ∧ Hid (Fr (fun i => i = g) w wr)) (fun v _ => n - (intOf v).toNat)
    case atStart => exact ⟨1, by omega, by omega, rfl, Lib.hid (fun i hi => by omega), H, Lib.hid (Fr.refl _ _)⟩
    case round =>
      obtain ⟨k, hk1, hkn, rfl, hall, HR, HF⟩ := hrel
      have HR := Lib.hid HR.out
      have HF := Lib.hid HF.out
      have hall := Lib.hid hall.out
      by_cases hlt : k < n
      · have hd2 : decide ((k : Int) < (n : Int)) = true := decide_eq_true (by omega)
        obtain ⟨m, rfl⟩ : ∃ m, k = m + 1 := ⟨k - 1, by omega⟩
        have hw1 : wrap64 (((m + 1 : Nat) : Int) - 1) = (m : Int) := by unfold wrap64; omega
        have ha := gt_some (l := l) (i := m + 1) (by have := Hn.out; omega)
        have hb := gt_some (l := l) (i := m) (by have := Hn.out; omega)
        obtain ⟨ac0, ac1, ac2, ac3, ac4, ac5, ac6⟩ := HR.out.seven ha
        obtain ⟨bc0, bc1, bc2, bc3, bc4, bc5, bc6⟩ := HR.out.seven hb
        clear ha hb
        cases hE : eqS (gt l (m + 1)) (gt l m) with
        | false =>
          have HE := Lib.hid hE
          go_wp2_with fail
          go_quiet (fail)
          clear ac0 ac1 ac2 ac3 ac4 ac5 ac6 bc0 bc1 bc2 bc3 bc4 bc5 bc6
          go_wp2_with fail
          go_roundw
          case rel =>
            refine ⟨m + 2, by omega, by omega, by go_num, Lib.hid (fun i hi => ?_), Lib.hid (HR.out.below (pw_below_drewN (Below.refl _ _) _)), Lib.hid (HF.out.then_below (pw_below_drewN (Below.refl _ _) _))⟩
            rcases (show i = m ∨ i + 1 < m + 1 from by omega) with rfl | h
            · exact HE.out
            · exact hall.out i h
          case measure => simp [intOf]; omega
        | true =>
          have HE := Lib.hid hE
          go_wp2_with fail
          go_quiet (fail)
          clear ac0 ac1 ac2 ac3 ac4 ac5 ac6 bc0 bc1 bc2 bc3 bc4 bc5 bc6
          have hmc : m + 1 < cap := by have := hcapn.out.1; omega
          go_wp2_with fail
          obtain ⟨r, hr⟩ : ∃ r, r = n - (m + 1) := ⟨_, rfl⟩
          rw [← hr]
          have hr1 : m + 1 + r ≤ n := by omega
          have hr2 : n ≤ m + 1 + r := by omega
          clear hr
          have HK : Hid (KI l l (m + 1) (m + 1 + 1)) := Lib.hid (KI.start (by omega) (by have := Hn.out; omega) hall.out HE.out)
          have HR2 := Lib.hid (HR.out.below (pw_below_drewN (Below.refl _ _) nq))
          have HF2 := Lib.hid (HF.out.then_below (pw_below_drewN (Below.refl _ _) nq))
          clear hw1 hE hall HR HF
          go_loopw [3, 5] (fun v3 v5 w1 => ∃ (k q : Nat) (dk : List S32), 1 ≤ q ∧ q ≤ r ∧ k < n ∧ v3 = .int .i64 k ∧ v5 = .int .i64 q ∧ Hid (KI l dk k (m + 1 + q)) ∧ Hid (OwnT w1 g cap dk) ∧ Hid (Fr (fun i => i = g) w w1)) (fun _ v5 _ => r - (intOf v5).toNat)
          case atStart => exact ⟨m + 1, 1, l, by omega, by omega, by omega, by go_num, rfl, HK, HR2, HF2⟩
          case round =>
            obtain ⟨k, q, dk, hq1, hqr, hkn, rfl, rfl, hK, hR, hF⟩ := hrel
            have HK := Lib.hid hK.out
            have HR := Lib.hid hR.out
            have HF := Lib.hid hF.out
            clear HR2 HF2 hK hR hF
            by_cases hlt : q < r
            · have hd2 : decide ((q : Int) < (r : Int)) = true := decide_eq_true (by omega)
              obtain ⟨p, rfl⟩ : ∃ p, q = p + 1 := ⟨q - 1, by omega⟩
              have hw1 : wrap64 (((p + 1 : Nat) : Int) - 1) = (p : Int) := by unfold wrap64; omega
              have hll : l.length = n := Hn.out.symm
              have ha : dk[m + 1 + (p + 1)]? = some (gt l (m + 1 + (p + 1))) := (HK.out.rest _ (by omega)).trans (gt_some (by omega))
              have hb : dk[m + 1 + p]? = some (gt l (m + 1 + p)) := (HK.out.rest _ (by omega)).trans (gt_some (by omega))
              obtain ⟨ac0, ac1, ac2, ac3, ac4, ac5, ac6⟩ := HR.out.seven ha
              obtain ⟨bc0, bc1, bc2, bc3, bc4, bc5, bc6⟩ := HR.out.seven hb
              rw [Nat.add_mul (m + 1)] at ac0 ac1 ac2 ac3 ac4 ac5 ac6 bc0 bc1 bc2 bc3 bc4 bc5 bc6
              clear ha hb hll
              cases hE : eqS (gt l (m + 1 + (p + 1))) (gt l (m + 1 + p)) with
              | true =>
                have HE := Lib.hid hE
                go_wp2_with fail
                go_quiet (fail)
                clear ac0 ac1 ac2 ac3 ac4 ac5 ac6 bc0 bc1 bc2 bc3 bc4 bc5 bc6 hE
                go_wp2_with fail
                go_roundw
                case rel =>
                  refine ⟨k, p + 1 + 1, dk, by omega, by omega, by omega, rfl, by go_num, Lib.hid (HK.out.skip (j := m + 1 + (p + 1)) (by have := Hn.out; omega) HE.out), Lib.hid (HR.out.below (pw_below_drewN (Below.refl _ _) _)), Lib.hid (HF.out.then_below (pw_below_drewN (Below.refl _ _) _))⟩
                case measure => simp [intOf]; omega
              | false =>
                have HE := Lib.hid hE
                have hkj := HK.out.kj
                have hkd : k < dk.length := by have := HK.out.len; have := Hn.out; omega
                go_wp2_with fail
                go_quiet (fail)
                have HR4 := Lib.hid (HR.out.below (pw_below_drewN (Below.refl _ _) nq))
                have HF4 := Lib.hid (HF.out.then_below (pw_below_drewN (Below.refl _ _) nq))
                clear bc0 bc1 bc2 bc3 bc4 bc5 bc6 hE
                generalize wr.drewN nq = w4 at *
                have ha4 : dk[m + 1 + (p + 1)]? = some (gt l (m + 1 + (p + 1))) := (HK.out.rest _ (by omega)).trans (gt_some (by have := Hn.out; omega))
                obtain ⟨ac0, ac1, ac2, ac3, ac4, ac5, ac6⟩ := HR4.out.seven ha4
                rw [Nat.add_mul (m + 1)] at ac0 ac1 ac2 ac3 ac4 ac5 ac6
                obtain ⟨bc0, bc1, bc2, bc3, bc4, bc5, bc6⟩ := HR4.out.seven (gt_some hkd)
                have hf0 : w4.frozen? ⟨g, k * 7, none⟩ = false := HR4.out.frozen _
                have hf1 : w4.frozen? ⟨g, k * 7 + 1, none⟩ = false := HR4.out.frozen _
                have hf2 : w4.frozen? ⟨g, k * 7 + 2, none⟩ = false := HR4.out.frozen _
                have hf3 : w4.frozen? ⟨g, k * 7 + 3, none⟩ = false := HR4.out.frozen _
                have hf4 : w4.frozen? ⟨g, k * 7 + 4, none⟩ = false := HR4.out.frozen _
                have hf5 : w4.frozen? ⟨g, k * 7 + 5, none⟩ = false := HR4.out.frozen _
                have hf6 : w4.frozen? ⟨g, k * 7 + 6, none⟩ = false := HR4.out.frozen _
                have HP := Lib.hid (HR4.out.puts hkd (gt l (m + 1 + (p + 1))))
                have HFP : Hid (Fr (fun i => i = g) w (w4.setCells g (k * 7) (tcs (gt l (m + 1 + (p + 1)))))) := Lib.hid (by
                  obtain ⟨e1, e2, e3, e4⟩ := setCells_same g (tcs (gt l (m + 1 + (p + 1)))) (k * 7) w4
                  exact HF4.out.trans ⟨e1, e2, e3, by rw [e4]; exact Nat.le_refl _, fun x hx hn => setCells_far _ (k * 7) x hn⟩ (fun _ _ h => h))
                clear ha4 hkd
                go_wp2_with fail
                go_roundw
                case rel => exact ⟨k + 1, p + 1 + 1, dk.set k (gt l (m + 1 + (p + 1))), by omega, by omega, by omega, by go_num, by go_num, Lib.hid (HK.out.keep (j := m + 1 + (p + 1)) (by have := Hn.out; omega) HE.out), HP, HFP⟩
                case measure => simp [intOf]; omega
            · have hd2 : decide ((q : Int) < (r : Int)) = false := decide_eq_false (by omega)
              obtain rfl : q = r := by omega
              have hnq : n = m + 1 + q := by omega
              have hkj := HK.out.kj
              have HKl : Hid (dk.take k = cp l n ∧ (cp l n).length = k) := Lib.hid (by
                have h1 : KI l dk k l.length := by rw [← Hn.out, hnq]; exact HK.out
                rw [Hn.out]
                exact h1.last)
              have hkd : Hid (dk.length = n) := Lib.hid (by rw [Hn.out]; exact HK.out.len)
              have hn0 := hcapn.out.1
              obtain ⟨vs, hvl, hcl⟩ := run_clear7 wr 0 g (k * 7) (n - k) (cap - k) (by omega)
                (fun j hj => by
                  obtain ⟨cur, b1, b2, b3, b4, b5⟩ := HR.out
                  have := hkd.out
                  rw [blk_cell b1, Array.getElem?_eq_getElem (by omega)]; rfl) (fun j hj => HR.out.frozen _)
              have HC := Lib.hid (HR.out.clears (k := k) (by have := hkd.out; omega) vs (by rw [hvl, hkd.out]))
              have HFC : Hid (Fr (fun i => i = g) w (wr.setCells g (k * 7) vs)) := Lib.hid (by
                obtain ⟨e1, e2, e3, e4⟩ := setCells_same g vs (k * 7) wr
                exact HF.out.trans ⟨e1, e2, e3, by rw [e4]; exact Nat.le_refl _, fun x hx hn => setCells_far _ (k * 7) x hn⟩ (fun _ _ h => h))
              have hkc : k < cap := by omega
              clear hvl hnq
              go_wp2_with fail
              go_ret
              rw [HKl.out.2]
              have hh := HC.out
              rw [HKl.out.1] at hh
              exact ⟨rfl, hh, HFC.out⟩
      · have hd2 : decide ((k : Int) < (n : Int)) = false := decide_eq_false (by omega)
        obtain rfl : k = n := by omega
        go_wp2_with fail
        go_ret
        have e : cp l k = l := by
          rw [cp_apart k (by rw [Hn.out]; omega) hall.out, Hn.out, List.take_length]
        rw [e, ← Hn.out]
        exact ⟨rfl, HR.out, HF.out⟩
end Go.Proofs.Ytkngdlmlijefbaa.Pq
end
section
namespace Go.Proofs.Ytkngdlmlijefbaa.Pq
open Go.RowKit
open Go.Proofs.Ytkngdlmlijefbaa.PPriorityOrder
set_option linter.unusedVariables false
set_option linter.unusedSimpArgs false

/-- A valid task. -/
structure Vt (t : S32) : Prop where
  stripe : t.f0.f0.size = 32
  i0 : 0 ≤ t.f0.f1
  i1 : t.f0.f1 < 16
  s0 : 0 ≤ t.f1
  s1 : t.f1 ≤ 1048576
  p0 : -16 ≤ t.f2
  p1 : t.f2 ≤ 16
  d0 : 1 ≤ t.f3.f1
  d1 : t.f3.f1 ≤ 1073741824
  n0 : 0 ≤ t.f3.f0
  n1 : t.f3.f0 ≤ t.f3.f1
  low : Nat.gcd t.f3.f0.natAbs t.f3.f1.natAbs = 1
  y0 : 0 ≤ t.f4
  y1 : t.f4 ≤ 999999
theorem Vt.vc {t : S32} (h : Vt t) : Vc t := ⟨⟨h.d0, h.d1⟩, h.n0, h.n1⟩
theorem cmpI_zero {x y : Int} (h : cmpI x y = 0) : x = y := by
  unfold cmpI at h
  split at h
  · omega
  · split at h <;> omega
theorem cmpS_zero {a b : ByteArray} (h : cmpS a b = 0) : a = b := by
  unfold cmpS at h
  split at h
  · omega
  · rename_i h1
    split at h
    · omega
    · rename_i h2
      apply ba_toList_inj
      apply Classical.byContradiction
      intro hne
      exact h2 ((less_iff a.toList b.toList).2 ⟨h1, hne⟩)
theorem low_uniq {a b c d : Nat} (h1 : Nat.gcd a b = 1) (h2 : Nat.gcd c d = 1) (hd : 0 < d) (hb : 0 < b) (h : a * d = c * b) : a = c ∧ b = d := by
  have e1 : b ∣ d := by
    have : b ∣ a * d := h ▸ Nat.dvd_mul_left b c
    exact Nat.Coprime.dvd_of_dvd_mul_left (Nat.Coprime.symm h1) this
  have e2 : d ∣ b := by
    have : d ∣ c * b := h ▸ Nat.dvd_mul_left d a
    exact Nat.Coprime.dvd_of_dvd_mul_left (Nat.Coprime.symm h2) this
  have e : b = d := Nat.dvd_antisymm e1 e2
  subst e
  exact ⟨Nat.eq_of_mul_eq_mul_right hb h, rfl⟩
theorem ors_zero : ∀ {l : List Int}, ors l = 0 → ∀ x ∈ l, x = 0
  | [], _, x, hx => by simp at hx
  | y :: l, h, x, hx => by
    simp only [ors] at h
    by_cases h0 : y = 0
    · rw [if_pos h0] at h
      rcases List.mem_cons.1 hx with rfl | hx
      · exact h0
      · exact ors_zero h x hx
    · rw [if_neg h0] at h
      exact absurd h h0
theorem cmpT_zero {a b : S32} (ha : Vt a) (hb : Vt b) (h : cmpT a b = 0) : a = b := by
  have hz := ors_zero h
  have h2 := hz (cmpI (wrap64 (a.f3.f0 * b.f3.f1)) (wrap64 (b.f3.f0 * a.f3.f1))) (by simp)
  have h3 := cmpI_zero (hz (cmpI a.f4 b.f4) (by simp))
  have h4 := cmpI_zero (hz (cmpI a.f1 b.f1) (by simp))
  have h5 := cmpS_zero (hz (cmpS a.f0.f0 b.f0.f0) (by simp))
  have h6 := cmpI_zero (hz (cmpI a.f0.f1 b.f0.f1) (by simp))
  have h0 : cmpI a.f2 b.f2 = 0 := hz _ (by simp)
  have h0 := cmpI_zero h0
  rw [chance_eq ⟨a, ha.vc⟩ ⟨b, hb.vc⟩] at h2
  have h2 := cmpI_zero h2
  simp only at h2
  have hlow : a.f3.f0 = b.f3.f0 ∧ a.f3.f1 = b.f3.f1 := by
    have a1 := ha.d0
    have a2 := ha.n0
    have a3 := ha.low
    have b1 := hb.d0
    have b2 := hb.n0
    have b3 := hb.low
    generalize a.f3.f0 = n at *
    generalize a.f3.f1 = d at *
    generalize b.f3.f0 = m at *
    generalize b.f3.f1 = e at *
    obtain ⟨n, rfl⟩ := Int.eq_ofNat_of_zero_le a2
    obtain ⟨m, rfl⟩ := Int.eq_ofNat_of_zero_le b2
    obtain ⟨d, rfl⟩ := Int.eq_ofNat_of_zero_le (show 0 ≤ d by omega)
    obtain ⟨e, rfl⟩ := Int.eq_ofNat_of_zero_le (show 0 ≤ e by omega)
    simp only [Int.natAbs_natCast] at a3 b3
    have h2 : n * e = m * d := by exact_mod_cast h2
    obtain ⟨r1, r2⟩ := low_uniq a3 b3 (by omega) (by omega) h2
    exact ⟨by rw [r1], by rw [r2]⟩
  obtain ⟨⟨a0, a1⟩, a2, a3, ⟨a4, a5⟩, a6⟩ := a
  obtain ⟨⟨b0, b1⟩, b2, b3, ⟨b4, b5⟩, b6⟩ := b
  simp only at h0 h3 h4 h5 h6 hlow
  obtain ⟨r1, r2⟩ := hlow
  subst h0 h3 h4 h5 h6 r1 r2
  rfl
theorem cmpT_anti {a b : S32} (ha : Vc a) (hb : Vc b) : cmpT b a = - cmpT a b := Cmp.task.anti ⟨a, ha⟩ ⟨b, hb⟩
theorem cmpT_trans {a b c : S32} (ha : Vc a) (hb : Vc b) (hc : Vc c) (h1 : cmpT a b ≤ 0) (h2 : cmpT b c ≤ 0) : cmpT a c ≤ 0 := Cmp.task.trans ⟨a, ha⟩ ⟨b, hb⟩ ⟨c, hc⟩ h1 h2
theorem cmpT_self {a : S32} (ha : Vc a) : cmpT a a = 0 := Cmp.task.refl ⟨a, ha⟩
theorem cmpT_ltr {a b c : S32} (ha : Vc a) (hb : Vc b) (hc : Vc c) (h1 : cmpT a b < 0) (h2 : cmpT b c ≤ 0) : cmpT a c < 0 := by
  have h3 := cmpT_trans ha hb hc (by omega) h2
  rcases (show cmpT a c < 0 ∨ cmpT a c = 0 from by omega) with h | h
  · exact h
  · have h4 := cmpT_anti ha hc
    have h5 := cmpT_trans hb hc ha h2 (by omega)
    have h6 := cmpT_anti ha hb
    omega
theorem cmpT_rtl {a b c : S32} (ha : Vc a) (hb : Vc b) (hc : Vc c) (h1 : cmpT a b ≤ 0) (h2 : cmpT b c < 0) : cmpT a c < 0 := by
  have h3 := cmpT_trans ha hb hc h1 (by omega)
  rcases (show cmpT a c < 0 ∨ cmpT a c = 0 from by omega) with h | h
  · exact h
  · have h4 := cmpT_anti ha hc
    have h5 := cmpT_trans hc ha hb (by omega) h1
    have h6 := cmpT_anti hb hc
    omega
/-- Strictly in order. -/
def Inc (l : List S32) : Prop := l.Pairwise fun a b => cmpT a b < 0
/-- One into a list in order, if it is not there. -/
def ins (t : S32) : List S32 → List S32
  | [] => [t]
  | x :: l => if cmpT x t < 0 then x :: ins t l else if cmpT x t = 0 then x :: l else t :: x :: l
/-- The tasks in order, equal ones once. -/
def ordT (l : List S32) : List S32 := l.foldl (fun acc t => ins t acc) []
theorem ins_mem {t : S32} (ht : Vt t) : ∀ {l : List S32}, (∀ x ∈ l, Vt x) → ∀ y, y ∈ ins t l ↔ y = t ∨ y ∈ l
  | [], _, y => by simp [ins]
  | x :: l, hl, y => by
    have ih := ins_mem ht (l := l) (fun x hx => hl x (List.mem_cons_of_mem _ hx)) y
    simp only [ins]
    split
    · rw [List.mem_cons, ih, List.mem_cons]
      constructor
      · rintro (h | h | h)
        · exact .inr (.inl h)
        · exact .inl h
        · exact .inr (.inr h)
      · rintro (h | h | h)
        · exact .inr (.inl h)
        · exact .inl h
        · exact .inr (.inr h)
    · split
      · rename_i h0
        have := cmpT_zero (hl x (by simp)) ht h0
        subst this
        simp
      · simp
theorem ins_inc {t : S32} (ht : Vt t) : ∀ {l : List S32}, (∀ x ∈ l, Vt x) → Inc l → Inc (ins t l)
  | [], _, _ => by simp [ins, Inc]
  | x :: l, hl, hI => by
    have hx := hl x (by simp)
    have hl' : ∀ y ∈ l, Vt y := fun y hy => hl y (List.mem_cons_of_mem _ hy)
    obtain ⟨h1, h2⟩ := List.pairwise_cons.1 hI
    simp only [ins]
    split
    · rename_i hlt
      refine List.pairwise_cons.2 ⟨fun y hy => ?_, ins_inc ht hl' h2⟩
      rcases (ins_mem ht hl' y).1 hy with rfl | hy
      · exact hlt
      · exact h1 y hy
    · split
      · exact hI
      · rename_i h3 h4
        have h5 := cmpT_anti hx.vc ht.vc
        refine List.pairwise_cons.2 ⟨fun y hy => ?_, hI⟩
        rcases List.mem_cons.1 hy with rfl | hy
        · omega
        · have := h1 y hy
          exact cmpT_ltr ht.vc hx.vc (hl' y hy).vc (by omega) (by omega)
theorem ordT_fold : ∀ (l : List S32) (acc : List S32), (∀ x ∈ l, Vt x) → (∀ x ∈ acc, Vt x) → Inc acc → Inc (l.foldl (fun acc t => ins t acc) acc) ∧ ∀ y, y ∈ l.foldl (fun acc t => ins t acc) acc ↔ y ∈ acc ∨ y ∈ l
  | [], acc, _, _, hI => ⟨hI, by simp⟩
  | x :: l, acc, hl, ha, hI => by
    have hx := hl x (by simp)
    have hm := ins_mem hx ha
    obtain ⟨h1, h2⟩ := ordT_fold l (ins x acc) (fun y hy => hl y (List.mem_cons_of_mem _ hy)) (fun y hy => by
      rcases (hm y).1 hy with rfl | hy
      · exact hx
      · exact ha y hy) (ins_inc hx ha hI)
    refine ⟨h1, fun y => ?_⟩
    rw [List.foldl_cons, h2 y, hm y, List.mem_cons]
    constructor
    · rintro ((h | h) | h)
      · exact .inr (.inl h)
      · exact .inl h
      · exact .inr (.inr h)
    · rintro (h | h | h)
      · exact .inl (.inr h)
      · exact .inl (.inl h)
      · exact .inr h
theorem ordT_inc {l : List S32} (h : ∀ x ∈ l, Vt x) : Inc (ordT l) := (ordT_fold l [] h (by simp) List.Pairwise.nil).1
theorem ordT_mem {l : List S32} (h : ∀ x ∈ l, Vt x) (y : S32) : y ∈ ordT l ↔ y ∈ l := by
  have := (ordT_fold l [] h (by simp) List.Pairwise.nil).2 y
  simpa [ordT] using this
theorem ordT_valid {l : List S32} (h : ∀ x ∈ l, Vt x) : ∀ x ∈ ordT l, Vt x := fun x hx => h x ((ordT_mem h x).1 hx)
theorem Inc.uniq : ∀ {l m : List S32}, (∀ x ∈ l, Vc x) → (∀ x ∈ m, Vc x) → Inc l → Inc m → (∀ y, y ∈ l ↔ y ∈ m) → l = m
  | [], [], _, _, _, _, _ => rfl
  | [], y :: m, _, _, _, _, h => absurd ((h y).2 (by simp)) (by simp)
  | x :: l, [], _, _, _, _, h => absurd ((h x).1 (by simp)) (by simp)
  | x :: l, y :: m, vl, vm, hl, hm, h => by
    obtain ⟨a1, a2⟩ := List.pairwise_cons.1 hl
    obtain ⟨b1, b2⟩ := List.pairwise_cons.1 hm
    have e : x = y := by
      rcases List.mem_cons.1 ((h x).1 (by simp)) with e | e
      · exact e
      · rcases List.mem_cons.1 ((h y).2 (by simp)) with e2 | e2
        · exact e2.symm
        · have c1 := b1 x e
          have c2 := a1 y e2
          have := cmpT_anti (vl x (by simp)) (vm y (by simp))
          omega
    subst e
    have : l = m := Inc.uniq (fun z hz => vl z (List.mem_cons_of_mem _ hz)) (fun z hz => vm z (List.mem_cons_of_mem _ hz)) a2 b2 fun z => by
      have hz := h z
      rw [List.mem_cons, List.mem_cons] at hz
      constructor
      · intro hzl
        rcases hz.1 (.inr hzl) with e | e
        · subst e
          have := a1 z hzl
          have := cmpT_self (vl z (by simp))
          omega
        · exact e
      · intro hzm
        rcases hz.2 (.inr hzm) with e | e
        · subst e
          have := b1 z hzm
          have := cmpT_self (vl z (by simp))
          omega
        · exact e
    rw [this]
/-- What stays of a sorted list. -/
theorem cp_inv {l : List S32} (hv : ∀ x ∈ l, Vt x) (hs : ∀ i j : Nat, i < j → j < l.length → cmpT (gt l i) (gt l j) ≤ 0) : ∀ j, j ≤ l.length → Inc (cp l j) ∧ (∀ y, y ∈ cp l j ↔ y ∈ l.take j)
  | 0, _ => by simp [cp, Inc]
  | 1, _ => by
    refine ⟨?_, fun y => by rfl⟩
    cases l with
    | nil => simp [cp, Inc]
    | cons x l => simp [cp, Inc]
  | j + 2, hj => by
    obtain ⟨h1, h2⟩ := cp_inv hv hs (j + 1) (by omega)
    have hmem : ∀ i, i < l.length → gt l i ∈ l := fun i hi => List.mem_of_getElem? (gt_some hi)
    have htk : l.take (j + 2) = l.take (j + 1) ++ [gt l (j + 1)] := by
      rw [List.take_succ_eq_append_getElem (by omega : j + 1 < l.length)]
      have := gt_some (l := l) (i := j + 1) (by omega)
      rw [List.getElem?_eq_getElem (by omega)] at this
      rw [Option.some.inj this]
    have hin : ∀ y ∈ l.take (j + 1), ∃ i, i < j + 1 ∧ y = gt l i := fun y hy => by
      obtain ⟨i, hi, e⟩ := List.mem_iff_getElem.1 hy
      rw [List.length_take] at hi
      refine ⟨i, by omega, ?_⟩
      have := gt_some (l := l) (i := i) (by omega)
      rw [List.getElem?_eq_getElem (by omega)] at this
      rw [← Option.some.inj this, ← e, List.getElem_take]
    simp only [cp]
    split
    · rename_i he
      have he := (eqS_iff _ _).1 he
      refine ⟨h1, fun y => ?_⟩
      rw [h2 y, htk, List.mem_append]
      refine ⟨.inl, fun h => ?_⟩
      rcases h with h | h
      · exact h
      · have : y = gt l (j + 1) := by simpa using h
        rw [this, he]
        refine List.mem_of_getElem? (i := j) ?_
        rw [List.getElem?_take, if_pos (by omega)]
        exact gt_some (by omega)
    · rename_i he
      have hne : gt l (j + 1) ≠ gt l j := fun e => he ((eqS_iff _ _).2 e)
      refine ⟨?_, fun y => ?_⟩
      · refine List.pairwise_append.2 ⟨h1, by simp, fun a ha b hb => ?_⟩
        obtain rfl : b = gt l (j + 1) := by simpa using hb
        obtain ⟨i, hi, rfl⟩ := hin a ((h2 a).1 ha)
        have vj := hv _ (hmem j (by omega))
        have vj1 := hv _ (hmem (j + 1) (by omega))
        have vi := hv _ (hmem i (by omega))
        have c1 := hs j (j + 1) (by omega) (by omega)
        have c2 : cmpT (gt l j) (gt l (j + 1)) < 0 := by
          rcases (show cmpT (gt l j) (gt l (j + 1)) < 0 ∨ cmpT (gt l j) (gt l (j + 1)) = 0 from by omega) with h | h
          · exact h
          · exact absurd (cmpT_zero vj vj1 h).symm hne
        rcases (show i < j ∨ i = j from by omega) with h | rfl
        · exact cmpT_rtl vi.vc vj.vc vj1.vc (hs i j h (by omega)) c2
        · exact c2
      · rw [List.mem_append, h2 y, htk, List.mem_append]
/-- Sorted, then equal neighbours once: the order. -/
theorem cp_ord {l ys : List S32} (hv : ∀ x ∈ l, Vt x) (hp : ys.Perm l) (hs : ∀ i j : Nat, (hij : i < j) → (hj : j < ys.length) → cmpT (ys[i]'(by omega)) (ys[j]) ≤ 0) : cp ys ys.length = ordT l := by
  have hvy : ∀ x ∈ ys, Vt x := fun x hx => hv x (hp.mem_iff.1 hx)
  have hg : ∀ i, (hi : i < ys.length) → gt ys i = ys[i] := fun i hi => by
    have := gt_some hi
    rw [List.getElem?_eq_getElem hi] at this
    exact (Option.some.inj this).symm
  obtain ⟨h1, h2⟩ := cp_inv hvy (fun i j hij hj => by rw [hg i (by omega), hg j hj]; exact hs i j hij hj) ys.length (Nat.le_refl _)
  rw [List.take_length] at h2
  refine Inc.uniq (fun x hx => (hvy x ((h2 x).1 hx)).vc) (fun x hx => (ordT_valid hv x hx).vc) h1 (ordT_inc hv) fun y => ?_
  rw [h2 y, ordT_mem hv y, hp.mem_iff]
theorem ins_len (t : S32) : ∀ l : List S32, (ins t l).length ≤ l.length + 1
  | [] => by simp [ins]
  | x :: l => by
    have := ins_len t l
    simp only [ins]
    split
    · simp; omega
    · split <;> simp
theorem ordT_len (l : List S32) : (ordT l).length ≤ l.length := by
  have : ∀ (l acc : List S32), (l.foldl (fun acc t => ins t acc) acc).length ≤ acc.length + l.length := by
    intro l
    induction l with
    | nil => simp
    | cons x l ih =>
      intro acc
      have h1 := ih (ins x acc)
      have h2 := ins_len x acc
      simp only [List.foldl_cons, List.length_cons]
      omega
  simpa [ordT] using this l []
end Go.Proofs.Ytkngdlmlijefbaa.Pq
end
section
namespace Go.Proofs.Ytkngdlmlijefbaa.Pq
open Go.RowKit Go.Proofs.YtkngdlmlijefbaaW.PrintWords
open Go.Proofs.Ytkngdlmlijefbaa.PPriorityOrder
set_option linter.unusedVariables false
set_option linter.unusedSimpArgs false

def ig (a b : Int) : Int := (Nat.gcd a.natAbs b.natAbs : Int)
theorem ig_step {a b : Int} (ha : 0 ≤ a) (hb : 0 ≤ b) : ig b (Int.tmod a b) = ig a b := by
  unfold ig
  obtain ⟨m, rfl⟩ := Int.eq_ofNat_of_zero_le ha
  obtain ⟨n, rfl⟩ := Int.eq_ofNat_of_zero_le hb
  have : Int.tmod (m : Int) (n : Int) = ((m % n : Nat) : Int) := by
    rw [Int.tmod_eq_emod_of_nonneg (by omega)]; rfl
  rw [this]
  simp only [Int.natAbs_natCast]
  rw [Nat.gcd_comm m n]
  exact (Nat.gcd_rec n m ▸ Nat.gcd_comm (m % n) n ▸ rfl)
theorem ig_zero {a : Int} (ha : 0 ≤ a) : ig a 0 = a := by
  unfold ig
  simp
  omega
def chB (n d : Int) : Bool := decide ((1 ≤ d ∧ d ≤ 1073741824) ∧ 0 ≤ n ∧ n ≤ d) && (ig n d == 1)
def vB (t : S32) : Bool := decide (t.f0.f0.size = 32) && (decide (0 ≤ t.f0.f1 ∧ t.f0.f1 ≤ 15) && (decide (0 ≤ t.f1 ∧ t.f1 ≤ 1048576) && (decide (-16 ≤ t.f2 ∧ t.f2 ≤ 16) && (chB t.f3.f0 t.f3.f1 && decide (0 ≤ t.f4 ∧ t.f4 ≤ 999999)))))
theorem vB_iff (t : S32) : vB t = true ↔ Vt t := by
  unfold vB chB
  simp only [Bool.and_eq_true, decide_eq_true_eq, beq_iff_eq]
  constructor
  · rintro ⟨h1, ⟨h2, h3⟩, ⟨h4, h5⟩, ⟨h6, h7⟩, ⟨⟨⟨h8, h9⟩, h10, h11⟩, h12⟩, h13, h14⟩
    exact ⟨h1, h2, by omega, h4, h5, h6, h7, h8, h9, h10, h11, by unfold ig at h12; omega, h13, h14⟩
  · intro h
    exact ⟨h.stripe, ⟨h.i0, by have := h.i1; omega⟩, ⟨h.s0, h.s1⟩, ⟨h.p0, h.p1⟩, ⟨⟨⟨h.d0, h.d1⟩, h.n0, h.n1⟩, by unfold ig; rw [h.low]; rfl⟩, h.y0, h.y1⟩
theorem chance_l0 (d : Nat) : ∀ (k : Nat) (a b : Int), 0 ≤ a → 0 ≤ b → b = d → d < k → priority_chance.l0 k a b = some (ig a b == 1) := by
  induction d using Nat.strongRecOn with
  | ind d ih =>
    intro k a b ha hb hd hk
    obtain ⟨k, rfl⟩ : ∃ m, k = m + 1 := ⟨k - 1, by omega⟩
    simp only [priority_chance.l0]
    by_cases h0 : b = 0
    · rw [if_pos h0, h0, ig_zero ha]
    · rw [if_neg h0]
      have h1 : 0 ≤ Int.tmod a b := Int.tmod_nonneg b ha
      have h2 : Int.tmod a b < b := Int.tmod_lt_of_pos a (by omega)
      rw [ih (Int.tmod a b).toNat (by omega) k b (Int.tmod a b) hb h1 (by omega) (by omega), ig_step ha hb]
theorem gcd_l0 (d : Nat) : ∀ (k : Nat) (a b : Int), 0 ≤ a → 0 ≤ b → b = d → d < k → kinkeepref41_gcd.l0 k a b = some (ig a b) := by
  induction d using Nat.strongRecOn with
  | ind d ih =>
    intro k a b ha hb hd hk
    obtain ⟨k, rfl⟩ : ∃ m, k = m + 1 := ⟨k - 1, by omega⟩
    simp only [kinkeepref41_gcd.l0]
    by_cases h0 : b = 0
    · rw [if_neg (by omega), h0, ig_zero ha]
    · rw [if_pos (by omega), if_neg h0]
      have h1 : 0 ≤ Int.tmod a b := Int.tmod_nonneg b ha
      have h2 : Int.tmod a b < b := Int.tmod_lt_of_pos a (by omega)
      rw [ih (Int.tmod a b).toNat (by omega) k b (Int.tmod a b) hb h1 (by omega) (by omega), ig_step ha hb]
theorem chance_f (k : Nat) (hk : 1073741830 ≤ k) (n d : Int) : priority_chance.f k n d = some (chB n d) := by
  obtain ⟨k, rfl⟩ : ∃ m, k = m + 1 := ⟨k - 1, by omega⟩
  unfold priority_chance.f
  simp only [priority_chance.j0, if_true]
  have hc : ¬ ((1 ≤ d ∧ d ≤ 1073741824) ∧ 0 ≤ n ∧ n ≤ d) → chB n d = false := fun h => by unfold chB; rw [decide_eq_false h]; rfl
  by_cases h1 : d < 1
  · rw [if_pos h1, hc (by omega)]
  rw [if_neg h1]
  by_cases h2 : d > 1073741824
  · rw [if_pos h2, hc (by omega)]
  rw [if_neg h2]
  by_cases h3 : n < 0
  · rw [if_pos h3, hc (by omega)]
  rw [if_neg h3]
  by_cases h4 : n > d
  · rw [decide_eq_true h4, if_pos rfl, hc (by omega)]
  · rw [decide_eq_false h4, if_neg (by simp), chance_l0 d.toNat k n d (by omega) (by omega) (by omega) (by omega)]
    unfold chB
    rw [decide_eq_true (show (1 ≤ d ∧ d ≤ 1073741824) ∧ 0 ≤ n ∧ n ≤ d from by omega)]
    rfl
theorem within_f (a lo hi : Int) : priority_within.f a lo hi = some (decide (lo ≤ a ∧ a ≤ hi)) := by
  unfold priority_within.f
  by_cases h : a ≥ lo
  · rw [if_pos h]
    have : lo ≤ a := h
    simp [this]
  · rw [if_neg h, decide_eq_false (by omega)]
theorem valid_f (k : Nat) (hk : 1073741830 ≤ k) (t : S32) : priority_valid.f k t.f0.f0 t.f0.f1 t.f1 t.f2 t.f3.f0 t.f3.f1 t.f4 = some (vB t) := by
  unfold priority_valid.f vB
  simp only [within_f, chance_f k hk, Option.bind_some]
  have hs : (t.f0.f0.size : Int) = 32 ↔ t.f0.f0.size = 32 := by omega
  simp only [hs]
  by_cases h1 : t.f0.f0.size = 32
  · rw [if_pos h1, decide_eq_true h1]
    cases decide (0 ≤ t.f0.f1 ∧ t.f0.f1 ≤ 15) <;> cases decide (0 ≤ t.f1 ∧ t.f1 ≤ 1048576) <;> cases decide (-16 ≤ t.f2 ∧ t.f2 ≤ 16) <;> cases chB t.f3.f0 t.f3.f1 <;> cases decide (0 ≤ t.f4 ∧ t.f4 ≤ 999999) <;> rfl
  · rw [if_neg h1, decide_eq_false h1]; rfl
/-- The task as the reference has it. -/
def p35 (t : S32) : S35 := ⟨t.f0, t.f1, t.f2, t.f3, t.f4⟩
theorem Valid_f (k : Nat) (hk : 1073741830 ≤ k) (t : S32) : kinkeepref41_Valid.f k t.f0.f0 t.f0.f1 t.f1 t.f2 t.f3.f0 t.f3.f1 t.f4 = some (vB t) := by
  unfold kinkeepref41_Valid.f
  have hF : ¬ Vt t → vB t = false := fun h => Bool.eq_false_iff.2 (fun e => h ((vB_iff t).1 e))
  by_cases h1 : (t.f0.f0.size : Int) = 32
  · rw [if_pos h1]
    by_cases h2 : t.f0.f1 ≥ 0
    · rw [if_pos h2]
      by_cases h3 : t.f0.f1 < 16
      · rw [if_pos h3]
        by_cases h4 : t.f1 ≥ 0
        · rw [if_pos h4]
          by_cases h5 : t.f1 ≤ 1048576
          · rw [if_pos h5]
            by_cases h6 : t.f2 ≥ (-16)
            · rw [if_pos h6]
              by_cases h7 : t.f2 ≤ 16
              · rw [if_pos h7]
                by_cases h8 : t.f3.f1 ≥ 1
                · rw [if_pos h8]
                  by_cases h9 : t.f3.f1 ≤ 1073741824
                  · rw [if_pos h9]
                    by_cases h10 : t.f3.f0 ≥ 0
                    · rw [if_pos h10]
                      by_cases h11 : t.f3.f0 ≤ t.f3.f1
                      · rw [if_pos h11, show kinkeepref41_gcd.f k t.f3.f0 t.f3.f1 = some (ig t.f3.f0 t.f3.f1) from gcd_l0 t.f3.f1.toNat k _ _ (by omega) (by omega) (by omega) (by omega), Option.bind_some]
                        by_cases h12 : ig t.f3.f0 t.f3.f1 = 1
                        · rw [if_pos h12]
                          by_cases h13 : t.f4 ≥ 0
                          · rw [if_pos h13]
                            by_cases h14 : t.f4 ≤ 999999
                            · rw [decide_eq_true h14, (vB_iff t).2 ⟨by omega, h2, h3, h4, h5, h6, h7, h8, h9, h10, h11, by unfold ig at h12; omega, h13, h14⟩]
                            · rw [decide_eq_false h14, hF fun h => h14 h.y1]
                          · rw [if_neg h13, hF fun h => h13 h.y0]
                        · rw [if_neg h12, hF fun h => h12 (by unfold ig; rw [h.low]; rfl)]
                      · rw [if_neg h11, hF fun h => h11 h.n1]
                    · rw [if_neg h10, hF fun h => h10 h.n0]
                  · rw [if_neg h9, hF fun h => h9 h.d1]
                · rw [if_neg h8, hF fun h => h8 h.d0]
              · rw [if_neg h7, hF fun h => h7 h.p1]
            · rw [if_neg h6, hF fun h => h6 h.p0]
          · rw [if_neg h5, hF fun h => h5 h.s1]
        · rw [if_neg h4, hF fun h => h4 h.s0]
      · rw [if_neg h3, hF fun h => h3 h.i1]
    · rw [if_neg h2, hF fun h => h2 h.i0]
  · rw [if_neg h1, hF fun h => h1 (by have := h.stripe; omega)]
theorem rd35 {l : List S32} {i : Nat} (h : i < l.length) : rd_T35 (l.map p35) (i : Int) = p35 (l[i]) := by
  unfold rd_T35
  rw [Int.toNat_natCast, List.getD_eq_getElem?_getD, List.getElem?_eq_getElem (by simpa using h)]
  simp
theorem rd32 {l : List S32} {i : Nat} (h : i < l.length) : rd_T32 l (i : Int) = l[i] := by
  unfold rd_T32
  rw [Int.toNat_natCast, List.getD_eq_getElem?_getD, List.getElem?_eq_getElem h]
  rfl
theorem wrap_succ {i n : Nat} (h : i < n) (hn : n ≤ 9223372036854775807) : wrap64 ((i : Int) + 1) = ((i + 1 : Nat) : Int) := by unfold wrap64; omega
theorem valids_l0 (l : List S32) (hn : l.length ≤ 1000) : ∀ (d i k : Nat), i + d = l.length → d + 1073741831 < k → kinkeepref41_valid.l0 k (l.map p35) (l.length : Int) (i : Int) = some ((l.drop i).all vB) := by
  intro d
  induction d with
  | zero =>
    intro i k hi hk
    obtain ⟨k, rfl⟩ : ∃ m, k = m + 1 := ⟨k - 1, by omega⟩
    simp only [kinkeepref41_valid.l0]
    rw [if_neg (by omega), List.drop_of_length_le (by omega)]
    rfl
  | succ d ih =>
    intro i k hi hk
    obtain ⟨k, rfl⟩ : ∃ m, k = m + 1 := ⟨k - 1, by omega⟩
    have hlt : i < l.length := by omega
    simp only [kinkeepref41_valid.l0]
    rw [if_pos (by omega), if_pos (by omega), if_pos (by rw [List.length_map]; omega), rd35 hlt, wrap_succ hlt (by omega)]
    have hv := Valid_f k (by omega) l[i]
    rw [show kinkeepref41_Valid.f k (p35 l[i]).f0.f0 (p35 l[i]).f0.f1 (p35 l[i]).f1 (p35 l[i]).f2 (p35 l[i]).f3.f0 (p35 l[i]).f3.f1 (p35 l[i]).f4 = some (vB l[i]) from hv, Option.bind_some, List.drop_eq_getElem_cons hlt, List.all_cons]
    cases vB l[i] with
    | true => rw [if_pos rfl, ih (i + 1) k (by omega) (by omega)]; rfl
    | false => rw [if_neg (by simp)]; rfl
theorem valids_f (l : List S32) (hn : l.length ≤ 1000) (k : Nat) (hk : 1073742900 ≤ k) : kinkeepref41_valid.f k (l.map p35) = some (l.all vB) := by
  unfold kinkeepref41_valid.f
  have := valids_l0 l hn l.length 0 k (by omega) (by omega)
  simpa using this
theorem all_l0 (l : List S32) (hn : l.length ≤ 1000) : ∀ (d i k : Nat), i + d = l.length → d < k → kinkeeplaw41_all.l0 k ((l.take i).map p35) l (l.length : Int) (i : Int) = some (l.map p35) := by
  intro d
  induction d with
  | zero =>
    intro i k hi hk
    obtain ⟨k, rfl⟩ : ∃ m, k = m + 1 := ⟨k - 1, by omega⟩
    simp only [kinkeeplaw41_all.l0]
    rw [if_neg (by omega), List.take_of_length_le (by omega)]
  | succ d ih =>
    intro i k hi hk
    obtain ⟨k, rfl⟩ : ∃ m, k = m + 1 := ⟨k - 1, by omega⟩
    have hlt : i < l.length := by omega
    have hlen : ((l.take i).map p35).length ≤ 1000 := by rw [List.length_map, List.length_take]; omega
    simp only [kinkeeplaw41_all.l0]
    rw [if_pos (by omega), if_pos (by omega), if_pos (by omega), rd32 hlt, wrap_succ hlt (by omega)]
    unfold kinkeeplaw41_plain.f
    simp only [Option.bind_some]
    rw [if_pos (by omega)]
    have e : (l.take i).map p35 ++ [(⟨⟨l[i].f0.f0, l[i].f0.f1⟩, l[i].f1, l[i].f2, ⟨l[i].f3.f0, l[i].f3.f1⟩, l[i].f4⟩ : S35)] = (l.take (i + 1)).map p35 := by
      rw [List.take_succ_eq_append_getElem hlt, List.map_append]
      rfl
    rw [e]
    exact ih (i + 1) k (by omega) (by omega)
theorem all_f (l : List S32) (hn : l.length ≤ 1000) (k : Nat) (hk : 1001 ≤ k) : kinkeeplaw41_all.f k l = some (l.map p35) := by
  unfold kinkeeplaw41_all.f
  have := all_l0 l hn l.length 0 k (by omega) (by omega)
  simpa using this
theorem same_l0 (l : List S32) (hn : l.length ≤ 1000) : ∀ (d i k : Nat), i + d = l.length → d < k → kinkeeplaw41_same.l0 k l (l.map p35) (l.length : Int) (i : Int) = some true := by
  intro d
  induction d with
  | zero =>
    intro i k hi hk
    obtain ⟨k, rfl⟩ : ∃ m, k = m + 1 := ⟨k - 1, by omega⟩
    simp only [kinkeeplaw41_same.l0]
    rw [if_neg (by omega)]
  | succ d ih =>
    intro i k hi hk
    obtain ⟨k, rfl⟩ : ∃ m, k = m + 1 := ⟨k - 1, by omega⟩
    have hlt : i < l.length := by omega
    simp only [kinkeeplaw41_same.l0]
    rw [if_pos (by omega), if_pos (by omega), if_pos (by omega), rd32 hlt, rd35 hlt, wrap_succ hlt (by omega)]
    unfold kinkeeplaw41_plain.f
    simp only [Option.bind_some]
    rw [if_pos (by rw [List.length_map]; omega), if_neg (by simp [p35])]
    exact ih (i + 1) k (by omega) (by omega)
theorem same_f (l : List S32) (hn : l.length ≤ 1000) (k : Nat) (hk : 1001 ≤ k) : kinkeeplaw41_same.f k l (l.map p35) = some true := by
  unfold kinkeeplaw41_same.f
  rw [if_pos (by rw [List.length_map])]
  have := same_l0 l hn l.length 0 k (by omega) (by omega)
  simpa using this
/-- At most twenty tasks, with no long stripe. -/
def fewB (l : List S32) : Bool := decide (l.length ≤ 20) && l.all (fun t => decide (t.f0.f0.size ≤ 64))
theorem few_l1 (x7 : List (List S32)) (x8 x9 : Int) (l : List S32) (hn : l.length ≤ 20) (r : Option Bool) : ∀ (d i k m : Nat), i + d = l.length → k = d + 1 + m → (∀ j, kinkeeplaw41_few.l0 (m + j) x7 x8 (wrap64 (x9 + 1)) = r) →
    kinkeeplaw41_few.l1 k x7 x8 x9 l (l.length : Int) (i : Int) = if (l.drop i).all (fun t => decide (t.f0.f0.size ≤ 64)) = true then r else some false := by
  intro d
  induction d with
  | zero =>
    intro i k m hi hk hr
    subst hk
    rw [show 0 + 1 + m = m + 0 + 1 from by omega]
    simp only [kinkeeplaw41_few.l1]
    have h0 := hr 0
    rw [Nat.add_zero] at h0
    rw [if_neg (by omega), List.drop_of_length_le (by omega), h0]
    rfl
  | succ d ih =>
    intro i k m hi hk hr
    subst hk
    rw [show d + 1 + 1 + m = (d + 1 + m) + 1 from by omega]
    have hlt : i < l.length := by omega
    simp only [kinkeeplaw41_few.l1]
    rw [if_pos (by omega), if_pos (by omega), if_pos (by omega), rd32 hlt, wrap_succ hlt (by omega), List.drop_eq_getElem_cons hlt, List.all_cons]
    by_cases h : (l[i].f0.f0.size : Int) > 64
    · rw [if_pos h, decide_eq_false (by omega)]; rfl
    · rw [if_neg h, decide_eq_true (by omega), Bool.true_and]
      exact ih (i + 1) _ m (by omega) rfl hr
theorem few_step (x7 : List (List S32)) (n : Nat) (hn7 : x7.length ≤ 5) (i : Nat) (hi : i < x7.length) (r : Option Bool) (m k : Nat) (hk : 23 + m ≤ k) (hr : ∀ j, kinkeeplaw41_few.l0 (m + j) x7 (x7.length : Int) ((i + 1 : Nat) : Int) = r) :
    kinkeeplaw41_few.l0 k x7 (x7.length : Int) (i : Int) = if fewB (x7.getD i []) = true then r else some false := by
  obtain ⟨k, rfl⟩ : ∃ m, k = m + 1 := ⟨k - 1, by omega⟩
  simp only [kinkeeplaw41_few.l0]
  rw [if_pos (by omega), if_pos (by omega), if_pos (by omega)]
  have hrd : rd_L7 x7 (i : Int) = x7.getD i [] := by unfold rd_L7; rw [Int.toNat_natCast]
  rw [hrd]
  generalize x7.getD i [] = l
  by_cases h : (l.length : Int) > 20
  · rw [if_pos h]
    have : fewB l = false := by unfold fewB; rw [decide_eq_false (by omega)]; rfl
    rw [this]; rfl
  · rw [if_neg h]
    have := few_l1 x7 (x7.length : Int) (i : Int) l (by omega) r l.length 0 k (k - l.length - 1) (by omega) (by omega) (fun j => by
      rw [wrap_succ hi (by omega), show k - l.length - 1 + j = m + (k - l.length - 1 + j - m) from by omega]
      exact hr _)
    rw [show ((0 : Nat) : Int) = 0 from rfl] at this
    rw [this]
    unfold fewB
    rw [decide_eq_true (by omega), Bool.true_and, List.drop_zero]
theorem few_1 (l : List S32) (k : Nat) (hk : 100 ≤ k) : kinkeeplaw41_few.f k [l] = some (fewB l) := by
  unfold kinkeeplaw41_few.f
  have h1 := few_step [l] 0 (by simp) 0 (by simp) (some true) 1 k (by omega) (fun j => by
    rw [show 1 + j = j + 1 from by omega]
    simp only [kinkeeplaw41_few.l0]
    rw [if_neg (by simp)])
  rw [show ((0 : Nat) : Int) = 0 from rfl] at h1
  rw [h1]
  show (if fewB l = true then _ else _) = _
  cases fewB l <;> rfl
theorem few_2 (a b : List S32) (k : Nat) (hk : 100 ≤ k) : kinkeeplaw41_few.f k [a, b] = some (fewB a && fewB b) := by
  unfold kinkeeplaw41_few.f
  have h1 := few_step [a, b] 0 (by simp) 0 (by simp) (some (fewB b)) 30 k (by omega) (fun j => by
    have h2 := few_step [a, b] 0 (by simp) 1 (by simp) (some true) 1 (30 + j) (by omega) (fun j => by
      rw [show 1 + j = j + 1 from by omega]
      simp only [kinkeeplaw41_few.l0]
      rw [if_neg (by simp)])
    rw [show ((0 + 1 : Nat) : Int) = ((1 : Nat) : Int) from rfl, h2]
    show (if fewB b = true then _ else _) = _
    cases fewB b <;> rfl)
  rw [show ((0 : Nat) : Int) = 0 from rfl] at h1
  rw [h1]
  show (if fewB a = true then _ else _) = _
  cases fewB a <;> rfl
end Go.Proofs.Ytkngdlmlijefbaa.Pq
end
section
namespace Go.Proofs.Ytkngdlmlijefbaa.Pq
open Go.RowKit Go.Proofs.YtkngdlmlijefbaaW.PrintWords Go.Proofs.YtkngdlmlijefbaaW.PrintLast Go.Proofs.YtkngdlmlijefbaaW.PrintMore Go.Proofs.Mp
open Go.Proofs.Ytkngdlmlijefbaa.PPriorityOrder
set_option linter.unusedVariables false
set_option linter.unusedSimpArgs false

theorem sort_none (cap : Nat) (w : World) : Calls Try.prog 49 #[.slice none 0 cap, .func (.func 23) #[] #[]] w fun e w' => e = .returned (.tuple #[]) ∧ w = w' := by
  have := AnyF.slices_SortFunc_none Ytkngdlmlijefbaa.sortL none cap (.func (.func 23) #[] #[]) w
  change Calls Try.prog 49 _ _ _ at this
  exact this.mono (by rintro e w' ⟨rfl, rfl⟩; exact ⟨rfl, rfl⟩)
theorem compact_none (cap : Nat) (w : World) : Calls Try.prog 50 #[.slice none 0 cap] w fun e w' => e = .returned (.slice none 0 cap) ∧ w = w' := by
  go_enter Try.func50, Try.ntmps50
  go_wp2_with fail
  go_ret
  exact ⟨rfl, rfl⟩
def SomeR (w : World) (l : List S32) (e : Ending) (w' : World) : Prop := ∃ v, e = .returned v ∧ Kd.R k32 32 w' w.heap.size (fun _ => True) v l ∧ Below w.heap.size w w'
theorem maps_val (l : List S32) (h : ∀ x ∈ l, Vt x) : ∃ L : List VT, L.map (·.1) = l := by
  induction l with
  | nil => exact ⟨[], rfl⟩
  | cons x l ih =>
    obtain ⟨L, hL⟩ := ih (fun y hy => h y (List.mem_cons_of_mem _ hy))
    exact ⟨⟨x, (h x (by simp)).vc⟩ :: L, by rw [List.map_cons, hL]⟩
theorem below_of_fr {S : Nat → Prop} {w w1 w2 : World} (h : Below w.heap.size w w1) (hf : Fr S w1 w2) (hS : ∀ i, i < w.heap.size → ¬ S i) : Below w.heap.size w w2 :=
  h.trans (hf.below h.size hS)
set_option maxHeartbeats 400000 in
set_option maxRecDepth 100000 in
/-- order: valid tasks in their order, equal ones once. -/
theorem order_calls (A : Option Addr) (c : Nat) (l : List S32) (w : World) (h : Kd.C k32 w A l.length l) (hl : l.length ≤ 1000) (hv : ∀ x ∈ l, Vt x) :
    Calls Try.prog 37 #[.slice A l.length c] w (SomeR w (ordT l)) := by
  have H := Lib.hid (Clone_calls A c l w h hl)
  have HV := Lib.hid hv
  clear h hv
  go_enter Try.func37, Try.ntmps37
  go_wp2_with fail
  refine H.out.mono ?_
  rintro e w1 ⟨v, rfl, hR, hB⟩
  have HB := Lib.hid hB
  by_cases hv0 : v = .slice none 0 0
  · subst hv0
    have h0 : Hid (l = []) := Lib.hid (by
      obtain ⟨_, inner, ho, hr⟩ := hR
      rcases ho.2 with ⟨_, h0⟩ | ⟨g, cap, cur, hv, _⟩
      · exact List.length_eq_zero_iff.1 h0
      · exact absurd hv (by simp))
    clear hR hB H
    go_wp2_with fail
    refine (sort_none _ _).mono ?_
    rintro e w2 ⟨rfl, rfl⟩
    go_wp2_with fail
    refine (compact_none _ _).mono ?_
    rintro e w2 ⟨rfl, rfl⟩
    go_wp2_with fail
    go_ret
    refine ⟨_, rfl, ?_, HB.out⟩
    rw [h0.out]
    exact Kd.R_nil _ _ _ _ _
  · obtain ⟨g, cap, rfl, hg, hO⟩ := OwnT.of_R hR hv0
    obtain ⟨L, hL⟩ := maps_val l HV.out
    have hLl : L.length = l.length := by rw [← hL, List.length_map]
    have HS := sortT g cap L w1 (by rw [hL]; exact hO) (by omega)
    rw [hLl] at HS
    have HS := Lib.hid HS
    have HL := Lib.hid hL
    have HG := Lib.hid hg
    clear hR hB hO hL hg hLl hv0 H
    go_wp2_with fail
    refine HS.out.mono ?_
    rintro e w2 ⟨rfl, ys, hp, hs, hO2, hF2⟩
    have hyl : (ys.map (·.1)).length = l.length := by rw [List.length_map, hp.length_eq, ← HL.out, List.length_map]
    have HC := Compact_calls g cap (ys.map (·.1)) w2 hO2 (by omega)
    have hcp : cp (ys.map (·.1)) (ys.map (·.1)).length = ordT l := cp_ord HV.out (by rw [← HL.out]; exact hp.map _) (fun i j hij hj => by
      rw [List.getElem_map, List.getElem_map]
      exact hs i j hij (by simpa using hj))
    rw [hcp, hyl] at HC
    have HC := Lib.hid HC
    have HF2 := Lib.hid hF2
    clear hp hs hO2 hF2 hyl hcp HS
    go_wp2_with fail
    refine HC.out.mono ?_
    rintro e w3 ⟨rfl, hO3, hF3⟩
    have HO3 := Lib.hid hO3
    have HF3 := Lib.hid hF3
    clear hO3 hF3 HC
    go_wp2_with fail
    go_ret
    refine ⟨_, rfl, OwnT.to_R HO3.out HG.out trivial, ?_⟩
    have hne : ∀ i, i < w.heap.size → ¬ (i = g) := fun i hi e => by have := HG.out; omega
    exact below_of_fr (below_of_fr HB.out HF2.out hne) HF3.out hne
end Go.Proofs.Ytkngdlmlijefbaa.Pq
end
section
namespace Go.Proofs.Ytkngdlmlijefbaa.Pq
open Go.RowKit Go.Proofs.YtkngdlmlijefbaaW.PrintWords Go.Proofs.YtkngdlmlijefbaaW.PrintLast Go.Proofs.YtkngdlmlijefbaaW.PrintMore Go.Proofs.Mp
open Go.Proofs.Ytkngdlmlijefbaa.PPriorityOrder
set_option linter.unusedVariables false
set_option linter.unusedSimpArgs false

theorem valid_c (t : S32) (w : World) : Calls Try.prog 33 #[.agg #[.string t.f0.f0, .int .i64 t.f0.f1, .int .i64 t.f1, .int .i64 t.f2, .int .i64 t.f3.f0, .int .i64 t.f3.f1, .int .i64 t.f4]] w fun e w' => e = .returned (.bool (vB t)) ∧ Below w.heap.size w w' :=
  priority_valid.calls 1073741830 _ _ _ _ _ _ _ _ w (valid_f _ (Nat.le_refl _) t)
theorem valid_yes (t : S32) (h : vB t = true) (w : World) : Calls Try.prog 33 #[.agg #[.string t.f0.f0, .int .i64 t.f0.f1, .int .i64 t.f1, .int .i64 t.f2, .int .i64 t.f3.f0, .int .i64 t.f3.f1, .int .i64 t.f4]] w fun e w' => e = .returned (.bool true) ∧ Below w.heap.size w w' := h ▸ valid_c t w
theorem valid_no (t : S32) (h : vB t = false) (w : World) : Calls Try.prog 33 #[.agg #[.string t.f0.f0, .int .i64 t.f0.f1, .int .i64 t.f1, .int .i64 t.f2, .int .i64 t.f3.f0, .int .i64 t.f3.f1, .int .i64 t.f4]] w fun e w' => e = .returned (.bool false) ∧ Below w.heap.size w w' := h ▸ valid_c t w
def OrdR (w : World) (l : List S32) (e : Ending) (w' : World) : Prop :=
  (l.all vB = true → ∃ v, e = .returned (.tuple #[v, .int .i64 0]) ∧ Kd.R k32 32 w' w.heap.size (fun _ => True) v (ordT l) ∧ Below w.heap.size w w') ∧
  (l.all vB = false → e = .returned (.tuple #[.slice none 0 0, .int .i64 1]) ∧ Below w.heap.size w w')
set_option maxHeartbeats 400000 in
set_option maxRecDepth 100000 in
theorem Order_calls (A : Option Addr) (c : Nat) (l : List S32) (w : World) (h : Kd.C k32 w A l.length l) (hl : l.length ≤ 1000) :
    Calls Try.prog 26 #[.slice A l.length c] w (OrdR w l) := by
  have H := Lib.hid h
  clear h
  go_enter Try.func26, Try.ntmps26
  go_wp2_with fail
  go_loopw [8] (fun v wr => ∃ k : Nat, k ≤ l.length ∧ v = .int .i64 k ∧ Hid ((l.take k).all vB = true) ∧ Hid (Below w.heap.size w wr)) (fun v _ => l.length - (intOf v).toNat)
  case atStart => exact ⟨0, by omega, rfl, Lib.hid rfl, Lib.hid (Below.refl _ _)⟩
  case round =>
    obtain ⟨k, hk, rfl, hall, hB⟩ := hrel
    have HA := Lib.hid hall.out
    have HB := Lib.hid hB.out
    clear hall hB
    by_cases hlt : k < l.length
    · have hdec : decide ((k : Int) < (l.length : Int)) = true := decide_eq_true (by omega)
      obtain ⟨ad, rfl, ha0, ha1, ha2, ha3, ha4, ha5, ha6⟩ := at_T32 (Kd.C_below H.out HB.out) k (by omega) (by omega)
      rw [Int.toNat_natCast] at ha0 ha1 ha2 ha3 ha4 ha5 ha6
      rw [rd32 hlt] at ha0 ha1 ha2 ha3 ha4 ha5 ha6
      have hall2 : Hid ((l.take (k + 1)).all vB = vB l[k]) := Lib.hid (by
        rw [List.take_succ_eq_append_getElem hlt, List.all_append, HA.out]
        simp)
      have hall3 : Hid (vB l[k] = false → l.all vB = false) := Lib.hid (fun h => by
        rw [List.all_eq_false]
        exact ⟨_, List.getElem_mem hlt, by rw [h]; simp⟩)
      generalize l[k] = t at *
      cases hv : vB t with
      | true =>
        have HV := Lib.hid hv
        clear hv
        go_wp2_with fail
        refine (valid_yes t HV.out _).mono ?_
        rintro e w2 ⟨rfl, hb⟩
        have B2 := Lib.hid ((HB.out.alloc HB.out.size _).trans (hb.mono (HB.out.alloc HB.out.size _).size))
        clear hb ha0 ha1 ha2 ha3 ha4 ha5 ha6
        go_wp2_with fail
        go_roundw
        case rel => exact ⟨k + 1, by omega, by go_num, Lib.hid (hall2.out.trans HV.out), B2⟩
        case measure => simp [intOf]; omega
      | false =>
        have HV := Lib.hid hv
        clear hv
        go_wp2_with fail
        refine (valid_no t HV.out _).mono ?_
        rintro e w2 ⟨rfl, hb⟩
        have B2 := Lib.hid ((HB.out.alloc HB.out.size _).trans (hb.mono (HB.out.alloc HB.out.size _).size))
        clear hb ha0 ha1 ha2 ha3 ha4 ha5 ha6
        go_wp2_with fail
        go_ret2
        exact ⟨fun h => absurd h (by rw [hall3.out HV.out]; simp), fun _ => ⟨rfl, B2.out⟩⟩
    · have hdec : decide ((k : Int) < (l.length : Int)) = false := decide_eq_false (by omega)
      obtain rfl : k = l.length := by omega
      have hva : Hid (l.all vB = true) := Lib.hid (by have := HA.out; rwa [List.take_length] at this)
      have HO := Lib.hid (order_calls A c l wr (Kd.C_below H.out HB.out) hl (fun x hx => (vB_iff x).1 (List.all_eq_true.1 hva.out x hx)))
      clear HA
      go_wp2_with fail
      refine HO.out.mono ?_
      rintro e w2 ⟨v, rfl, hR, hb⟩
      have HR := Lib.hid (Kd.R_lower hR HB.out.size)
      have B2 := Lib.hid (HB.out.trans (hb.mono HB.out.size))
      clear hR hb HO
      go_wp2_with fail
      go_ret2
      exact ⟨fun _ => ⟨v, rfl, HR.out, B2.out⟩, fun h => absurd hva.out (by rw [h]; simp)⟩
end Go.Proofs.Ytkngdlmlijefbaa.Pq
end
section
namespace Go.Proofs.Ytkngdlmlijefbaa.Pq
open Go.RowKit Go.Proofs.YtkngdlmlijefbaaW.PrintWords Go.Proofs.YtkngdlmlijefbaaW.PrintLast Go.Proofs.YtkngdlmlijefbaaW.PrintMore Go.Proofs.Mp
open Go.Proofs.Ytkngdlmlijefbaa.PPriorityOrder
set_option linter.unusedVariables false
set_option linter.unusedSimpArgs false

/-- The next of two sides: its side, the task, what is left of both. -/
def pick : List S32 → List S32 → Option (Int × S32 × List S32 × List S32)
  | [], [] => none
  | a :: x, [] => some (0, a, x, [])
  | [], b :: y => some (1, b, [], y)
  | a :: x, b :: y => if cmpT a b ≤ 0 then some (0, a, x, b :: y) else some (1, b, a :: x, y)
/-- What is taken out of two sides. -/
def mt : Nat → List S32 → List S32 → Int → List (Int × S32)
  | 0, _, _, _ => []
  | n + 1, x, y, left => match pick x y with
    | none => []
    | some (s, t, x', y') => if t.f1 ≤ left then (s, t) :: mt n x' y' (left - t.f1) else mt n x' y' left
theorem mt_none (n : Nat) (left : Int) : mt n [] [] left = [] := by cases n <;> rfl
theorem mt_yes {n : Nat} {x y x' y' : List S32} {s left : Int} {t : S32} (h : pick x y = some (s, t, x', y')) (hl : t.f1 ≤ left) : mt (n + 1) x y left = (s, t) :: mt n x' y' (left - t.f1) := by
  simp only [mt, h]; rw [if_pos hl]
theorem mt_no {n : Nat} {x y x' y' : List S32} {s left : Int} {t : S32} (h : pick x y = some (s, t, x', y')) (hl : ¬ t.f1 ≤ left) : mt (n + 1) x y left = mt n x' y' left := by
  simp only [mt, h]; rw [if_neg hl]
/-- A part of a row that is read. -/
structure Src (w : World) (g : Nat) (A : Option Addr) (c : Nat) (l : List S32) : Prop where
  rd : Kd.C k32 w A l.length l
  cap : l.length ≤ c
  max : c ≤ maxLen
  ne : ∀ ad, A = some ad → 0 < l.length → ad.block ≠ g
theorem Src.now {w wr : World} {g : Nat} {A : Option Addr} {c : Nat} {l : List S32} (h : Src w g A c l) (hf : Fr (fun i => i = g) w wr) : Kd.C k32 wr A l.length l := by
  obtain ⟨h1, h2, h3⟩ := h.rd
  refine ⟨h1, h2, fun hp => ?_⟩
  obtain ⟨ad, e, h4⟩ := h3 hp
  refine ⟨ad, e, fun j p hj => ?_⟩
  obtain ⟨cs, c1, c2, c3⟩ := h4 j p hj
  refine ⟨cs, c1, ?_, fun i u hi => ?_⟩
  · obtain rfl := k32_open c2
    exact k32_mk wr p
  · have := c3 i u hi
    exact (hf.cell (World.block_lt_of_cell? _ _ this) (by rw [add_block]; exact h.ne ad e hp)).trans this
theorem add_add7 (ad : Addr) (m n : Nat) : (ad.add m).add n = ad.add (m + n) := Go.Proofs.YtkngdlmlijefbaaW.PrintWords.add_add ad m n
theorem Src.tail {w : World} {g : Nat} {ad : Addr} {c : Nat} {t : S32} {l : List S32} (h : Src w g (some ad) c (t :: l)) (A : Option Addr) (hA : 0 < l.length → A = some (ad.add 7)) : Src w g A (c - 1) l := by
  obtain ⟨h1, h2, h3⟩ := h.rd
  have hc := h.cap
  have hm := h.max
  rw [List.length_cons] at h2 hc
  refine ⟨⟨rfl, by omega, fun hp => ?_⟩, by omega, by omega, fun ad' e hp => ?_⟩
  · obtain ⟨ad', e, h4⟩ := h3 (by simp)
    injection e with e
    subst e
    refine ⟨_, hA hp, fun j p hj => ?_⟩
    obtain ⟨cs, c1, c2, c3⟩ := h4 (j + 1) p (by simpa using hj)
    refine ⟨cs, c1, c2, fun i u hi => ?_⟩
    have := c3 i u hi
    have e7 : k32.sz = 7 := rfl
    rw [e7] at this ⊢
    rw [add_add7, show 7 + (j * 7 + i) = (j + 1) * 7 + i from by omega]
    exact this
  · rw [hA hp] at e
    injection e with e
    subst e
    exact h.ne ad rfl (by simp)
theorem Src.of_R {w : World} {base : Nat} {ok : Nat → Prop} {v : Value} {l : List S32} {g : Nat} (h : Kd.R k32 32 w base ok v l) (hg : ∀ k, v.ownBlock = some k → k ≠ g) : ∃ A c, v = .slice A l.length c ∧ Src w g A c l := by
  obtain ⟨A, c, rfl, h1, h2⟩ := Kd.R_reads h
  refine ⟨A, c, rfl, h2, h1, ?_, fun ad e hp => ?_⟩
  · obtain ⟨_, inner, ho, hr⟩ := h
    rcases ho.2 with ⟨h0, h0'⟩ | ⟨g, cap, cur, hv, hg, hh, h1, h2, h3, h4⟩
    · injection h0 with _ _ h0
      subst h0
      simp [maxLen]
    · injection hv with _ _ hc
      subst hc
      exact h2
  · subst e
    have := hg ad.block
    obtain ⟨gb, cap, e2, _⟩ := Kd.R_form h hp
    injection e2 with e2
    injection e2 with e2
    subst e2
    exact hg _ (by simp [Value.ownBlock])
set_option maxHeartbeats 400000 in
theorem taker_calls (budget : Int) (w : World) : Calls Try.prog 44 #[.int .i64 budget] w fun e w' => e = .returned (.func (.func 55) #[] #[.pointer (some ⟨w.heap.size, 0, none⟩)]) ∧ w' = w.alloc (.cells #[.int .i64 budget] 3) := by
  go_enter Try.func44, Try.ntmps44
  go_wp2_with fail
  go_ret
  exact ⟨rfl, rfl⟩
set_option maxHeartbeats 400000 in
set_option maxRecDepth 100000 in
theorem take_no (t : S32) (g : Nat) (left : Int) (w : World) (h : w.heap[g]? = some (.cells #[.int .i64 left] 3 (0, 0))) (hl : ¬ t.f1 ≤ left) :
    Calls Try.prog 55 #[.agg #[.string t.f0.f0, .int .i64 t.f0.f1, .int .i64 t.f1, .int .i64 t.f2, .int .i64 t.f3.f0, .int .i64 t.f3.f1, .int .i64 t.f4], .pointer (some ⟨g, 0, none⟩)] w fun e w' => e = .returned (.bool false) ∧ Below w.heap.size w w' := by
  have hb := (Below.refl w.heap.size w).alloc (Nat.le_refl _) (.cells #[.string t.f0.f0, .int .i64 t.f0.f1, .int .i64 t.f1, .int .i64 t.f2, .int .i64 t.f3.f0, .int .i64 t.f3.f1, .int .i64 t.f4] 32)
  have hbl := blk_below h hb
  have hc : (w.alloc (.cells #[.string t.f0.f0, .int .i64 t.f0.f1, .int .i64 t.f1, .int .i64 t.f2, .int .i64 t.f3.f0, .int .i64 t.f3.f1, .int .i64 t.f4] 32)).cell? ⟨g, 0, none⟩ = some (.int .i64 left) := (blk_cell hbl 0).trans rfl
  have HB := Lib.hid hb
  have hd : decide (left < t.f1) = true := decide_eq_true (by omega)
  clear hb h hbl
  go_enter Try.func55, Try.ntmps55
  go_wp2_with fail
  go_ret
  exact ⟨rfl, HB.out⟩
set_option maxHeartbeats 400000 in
set_option maxRecDepth 100000 in
theorem take_yes (t : S32) (g : Nat) (left : Int) (w : World) (h : w.heap[g]? = some (.cells #[.int .i64 left] 3 (0, 0))) (hl : t.f1 ≤ left) (h0 : 0 ≤ t.f1) (hm : left ≤ 9223372036854775807) :
    Calls Try.prog 55 #[.agg #[.string t.f0.f0, .int .i64 t.f0.f1, .int .i64 t.f1, .int .i64 t.f2, .int .i64 t.f3.f0, .int .i64 t.f3.f1, .int .i64 t.f4], .pointer (some ⟨g, 0, none⟩)] w fun e w' => e = .returned (.bool true) ∧ w'.heap[g]? = some (.cells #[.int .i64 (left - t.f1)] 3 (0, 0)) ∧ Fr (fun i => i = g) w w' := by
  have hb := (Below.refl w.heap.size w).alloc (Nat.le_refl _) (.cells #[.string t.f0.f0, .int .i64 t.f0.f1, .int .i64 t.f1, .int .i64 t.f2, .int .i64 t.f3.f0, .int .i64 t.f3.f1, .int .i64 t.f4] 32)
  have hbl := blk_below h hb
  have hc : (w.alloc (.cells #[.string t.f0.f0, .int .i64 t.f0.f1, .int .i64 t.f1, .int .i64 t.f2, .int .i64 t.f3.f0, .int .i64 t.f3.f1, .int .i64 t.f4] 32)).cell? ⟨g, 0, none⟩ = some (.int .i64 left) := (blk_cell hbl 0).trans rfl
  have hfz := blk_frozen hbl 0
  have HBL := Lib.hid hbl
  have HB := Lib.hid hb
  have hd : decide (left < t.f1) = false := decide_eq_false (by omega)
  have hw : wrap64 (left - t.f1) = left - t.f1 := by unfold wrap64; omega
  clear hb h hbl
  go_enter Try.func55, Try.ntmps55
  go_wp2_with fail
  go_ret
  generalize w.alloc (.cells #[.string t.f0.f0, .int .i64 t.f0.f1, .int .i64 t.f1, .int .i64 t.f2, .int .i64 t.f3.f0, .int .i64 t.f3.f1, .int .i64 t.f4] 32) = w2 at *
  exact ⟨rfl, blk_put HBL.out 0 _ rfl, Fr.setCell (S := fun i => i = g) (Fr.of_below HB.out) (p := ⟨g, 0, none⟩) (fun _ => rfl) _⟩
end Go.Proofs.Ytkngdlmlijefbaa.Pq
end
section
namespace Go.Proofs.Ytkngdlmlijefbaa.Pq
open Go.RowKit Go.Proofs.YtkngdlmlijefbaaW.PrintWords Go.Proofs.YtkngdlmlijefbaaW.PrintLast Go.Proofs.YtkngdlmlijefbaaW.PrintMore Go.Proofs.Mp
open Go.Proofs.Ytkngdlmlijefbaa.PPriorityOrder
set_option linter.unusedVariables false
set_option linter.unusedSimpArgs false

def res (a b : List S32) (budget : Int) : List (Int × S32) := mt ((ordT a).length + (ordT b).length) (ordT a) (ordT b) budget
def okAll (a b : List S32) (budget : Int) : Bool := a.all vB && (b.all vB && decide (0 ≤ budget))
def MatR (w : World) (a b : List S32) (budget : Int) (e : Ending) (w' : World) : Prop :=
  (okAll a b budget = true → ∃ v u, e = .returned (.tuple #[v, u, .int .i64 0]) ∧ Kd.R (Kd.int .i64) 3 w' w.heap.size (fun _ => True) v ((res a b budget).map (·.1)) ∧ Kd.R k32 32 w' w.heap.size (fun _ => True) u ((res a b budget).map (·.2)) ∧ Below w.heap.size w w') ∧
  (okAll a b budget = false → e = .returned (.tuple #[.slice none 0 0, .slice none 0 0, .int .i64 1]) ∧ Below w.heap.size w w')
def lenOf : Value → Nat
  | .slice _ n _ => n
  | _ => 0
/-- What Match keeps while it goes. -/
structure MI (w0 wr : World) (gl : Nat) (Ax : Option Addr) (cx : Nat) (x : List S32) (Ay : Option Addr) (cy : Nat) (y : List S32) (left : Int) (ss : List Int) (ts : List S32) (v13 v14 : Value) : Prop where
  sx : Src w0 gl Ax cx x
  sy : Src w0 gl Ay cy y
  vx : ∀ t ∈ x, Vt t
  vy : ∀ t ∈ y, Vt t
  fr : Fr (fun i => i = gl) w0 wr
  blk : wr.heap[gl]? = some (.cells #[.int .i64 left] 3 (0, 0))
  l0 : 0 ≤ left
  l1 : left ≤ 9223372036854775807
  sd : Kd.R (Kd.int .i64) 3 wr w0.heap.size (fun _ => True) v13 ss
  ot : Kd.R k32 32 wr w0.heap.size (fun _ => True) v14 ts
  gl : gl < w0.heap.size
theorem match_no (A : Option Addr) (ca : Nat) (a : List S32) (B : Option Addr) (cb : Nat) (b : List S32) (budget : Int) (w : World) (ha : Kd.C k32 w A a.length a) (hb : Kd.C k32 w B b.length b) (hla : a.length ≤ 1000) (hlb : b.length ≤ 1000) (h : okAll a b budget = false) :
    Calls Try.prog 30 #[.slice A a.length ca, .slice B b.length cb, .int .i64 budget] w fun e w' => e = .returned (.tuple #[.slice none 0 0, .slice none 0 0, .int .i64 1]) ∧ Below w.heap.size w w' := by
  have H1 := Lib.hid (Order_calls A ca a w ha hla)
  have Hb := Lib.hid hb
  have hh := h
  unfold okAll at hh
  clear ha hb h
  cases qa : a.all vB with
  | false =>
    have Qa := Lib.hid qa
    clear hh qa
    go_enter Try.func30, Try.ntmps30
    go_wp2_with fail
    refine H1.out.mono ?_
    rintro e w1 ⟨-, h2⟩
    obtain ⟨rfl, hB⟩ := h2 Qa.out
    have B1 := Lib.hid hB
    clear h2 hB H1
    go_wp2_with fail
    refine (Order_calls B cb b w1 (Kd.C_below Hb.out B1.out) hlb).mono ?_
    rintro e w2 ⟨h1, h2⟩
    cases qb : b.all vB with
    | false =>
      obtain ⟨rfl, hB⟩ := h2 qb
      have B2 := Lib.hid (B1.out.trans (hB.mono B1.out.size))
      clear h1 h2 hB qb
      go_wp2_with fail
      exact bodyPost_ret (v := .tuple #[.slice none 0 0, .slice none 0 0, .int .i64 1]) (by simp [results, Try.results30, go_sem]) rfl ⟨rfl, B2.out⟩
    | true =>
      obtain ⟨v, rfl, hR, hB⟩ := h1 qb
      have B2 := Lib.hid (B1.out.trans (hB.mono B1.out.size))
      clear h1 h2 hB qb hR
      go_wp2_with fail
      exact bodyPost_ret (v := .tuple #[.slice none 0 0, .slice none 0 0, .int .i64 1]) (by simp [results, Try.results30, go_sem]) rfl ⟨rfl, B2.out⟩
  | true =>
    have Qa := Lib.hid qa
    rw [qa, Bool.true_and] at hh
    clear qa
    cases qb : b.all vB with
    | false =>
      have Qb := Lib.hid qb
      clear hh qb
      go_enter Try.func30, Try.ntmps30
      go_wp2_with fail
      refine H1.out.mono ?_
      rintro e w1 ⟨h1, -⟩
      obtain ⟨v, rfl, hR, hB⟩ := h1 Qa.out
      have B1 := Lib.hid hB
      clear h1 hB H1 hR
      go_wp2_with fail
      refine (Order_calls B cb b w1 (Kd.C_below Hb.out B1.out) hlb).mono ?_
      rintro e w2 ⟨-, h2⟩
      obtain ⟨rfl, hB⟩ := h2 Qb.out
      have B2 := Lib.hid (B1.out.trans (hB.mono B1.out.size))
      clear h2 hB
      go_wp2_with fail
      exact bodyPost_ret (v := .tuple #[.slice none 0 0, .slice none 0 0, .int .i64 1]) (by simp [results, Try.results30, go_sem]) rfl ⟨rfl, B2.out⟩
    | true =>
      have Qb := Lib.hid qb
      rw [qb, Bool.true_and] at hh
      have hneg : decide (budget < 0) = true := decide_eq_true (by have := of_decide_eq_false hh; omega)
      clear qb hh
      go_enter Try.func30, Try.ntmps30
      go_wp2_with fail
      refine H1.out.mono ?_
      rintro e w1 ⟨h1, -⟩
      obtain ⟨v, rfl, hR, hB⟩ := h1 Qa.out
      have B1 := Lib.hid hB
      clear h1 hB H1 hR
      go_wp2_with fail
      refine (Order_calls B cb b w1 (Kd.C_below Hb.out B1.out) hlb).mono ?_
      rintro e w2 ⟨h1, -⟩
      obtain ⟨u, rfl, hR, hB⟩ := h1 Qb.out
      have B2 := Lib.hid (B1.out.trans (hB.mono B1.out.size))
      clear h1 hB hR
      go_wp2_with fail
      exact bodyPost_ret (v := .tuple #[.slice none 0 0, .slice none 0 0, .int .i64 1]) (by simp [results, Try.results30, go_sem]) rfl ⟨rfl, B2.out⟩
end Go.Proofs.Ytkngdlmlijefbaa.Pq
end
section
namespace Go.Proofs.Ytkngdlmlijefbaa.Pq
open Go.RowKit Go.Proofs.YtkngdlmlijefbaaW.PrintWords Go.Proofs.YtkngdlmlijefbaaW.PrintLast Go.Proofs.YtkngdlmlijefbaaW.PrintMore Go.Proofs.Mp
open Go.Proofs.Ytkngdlmlijefbaa.PPriorityOrder
set_option linter.unusedVariables false
set_option linter.unusedSimpArgs false

/-- The address behind the first element. -/
def tl (ad : Addr) (c : Nat) : Option Addr := if c = 1 then some ad else some (ad.add 7)
theorem run_tail (ad : Addr) (n c : Nat) (h : n + 1 ≤ c) (w : World) : (Instr.slice 47 (.slice (some ad) (n + 1) c) (some (.int .i64 1)) none none).run Try.prog w = .ok (.slice (tl ad c) n (c - 1)) w := by
  have h1 : (1 : Int) ≤ ((n + 1 : Nat) : Int) := by omega
  by_cases hc : c = 1
  · simp [Instr.slice, run_underlying Try.underlying47, Instr.sliceBounds, Instr.sliceBound, asIntOf, Sem.run_bind, Result.andThen, size32, tl, hc, h1, Sem.run_pure]
    rw [if_pos (by omega : (1 : Int) ≤ (n : Int) + 1)]
    simp [hc]
  · simp [Instr.slice, run_underlying Try.underlying47, Instr.sliceBounds, Instr.sliceBound, asIntOf, Sem.run_bind, Result.andThen, size32, tl, hc, h1, Sem.run_pure]
    rw [if_pos (by omega : (1 : Int) ≤ (n : Int) + 1)]
    simp [hc]
variable {w0 wr w1 : World} {gl : Nat} {Ax : Option Addr} {cx : Nat} {x : List S32} {Ay : Option Addr} {cy : Nat} {y : List S32} {left : Int} {ss : List Int} {ts : List S32} {v13 v14 : Value}
theorem MI.below (h : MI w0 wr gl Ax cx x Ay cy y left ss ts v13 v14) (hb : Below wr.heap.size wr w1) : MI w0 w1 gl Ax cx x Ay cy y left ss ts v13 v14 :=
  ⟨h.sx, h.sy, h.vx, h.vy, h.fr.then_below hb, blk_below h.blk hb, h.l0, h.l1, Kd.R_below h.sd hb, Kd.R_below h.ot hb, h.gl⟩
theorem MI.tailx {ad : Addr} {t : S32} (h : MI w0 wr gl (some ad) cx (t :: x) Ay cy y left ss ts v13 v14) : MI w0 wr gl (tl ad cx) (cx - 1) x Ay cy y left ss ts v13 v14 := by
  refine ⟨h.sx.tail _ (fun hp => ?_), h.sy, fun u hu => h.vx u (List.mem_cons_of_mem _ hu), h.vy, h.fr, h.blk, h.l0, h.l1, h.sd, h.ot, h.gl⟩
  have := h.sx.cap
  rw [List.length_cons] at this
  unfold tl
  rw [if_neg (by omega)]
theorem MI.taily {ad : Addr} {t : S32} (h : MI w0 wr gl Ax cx x (some ad) cy (t :: y) left ss ts v13 v14) : MI w0 wr gl Ax cx x (tl ad cy) (cy - 1) y left ss ts v13 v14 := by
  refine ⟨h.sx, h.sy.tail _ (fun hp => ?_), h.vx, fun u hu => h.vy u (List.mem_cons_of_mem _ hu), h.fr, h.blk, h.l0, h.l1, h.sd, h.ot, h.gl⟩
  have := h.sy.cap
  rw [List.length_cons] at this
  unfold tl
  rw [if_neg (by omega)]
/-- A store into a block of the loop's own. -/
theorem MI.store (h : MI w0 wr gl Ax cx x Ay cy y left ss ts v13 v14) {gt : Nat} {cs : Array Value} (hg : w0.heap.size ≤ gt) (hb : wr.heap[gt]? = some (.cells cs 32 (0, 0))) (hne : some gt ≠ v14.ownBlock) (o : Nat) (us : List Value) :
    MI w0 (wr.setCells gt o us) gl Ax cx x Ay cy y left ss ts v13 v14 := by
  have hfar : ∀ k, k ≠ gt → (wr.setCells gt o us).heap[k]? = wr.heap[k]? := fun k hk => setCells_far us o k hk
  have hgl := h.gl
  obtain ⟨e1, e2, e3, e4⟩ := setCells_same gt us o wr
  have hne3 : some gt ≠ v13.ownBlock := Kd.R_ne h.sd hb (by decide)
  exact ⟨h.sx, h.sy, h.vx, h.vy, h.fr.trans (T := fun i => i = gt) ⟨e1, e2, e3, by rw [e4]; exact Nat.le_refl _, fun i hi hn => hfar i hn⟩ (fun i hi e => by omega),
    (hfar gl (by omega)).trans h.blk, h.l0, h.l1, Kd.R_drop (Kd.R_step (Kd.R_far1 h.sd rfl hne3) (fun k ho _ => hfar k ho.2)), Kd.R_drop (Kd.R_step (Kd.R_far1 h.ot rfl hne) (fun k ho _ => hfar k ho.2)), h.gl⟩
/-- The closure has taken t. -/
theorem MI.took (h : MI w0 wr gl Ax cx x Ay cy y left ss ts v13 v14) {l2 : Int} (hf : Fr (fun i => i = gl) wr w1) (hb : w1.heap[gl]? = some (.cells #[.int .i64 l2] 3 (0, 0))) (h0 : 0 ≤ l2) (h1 : l2 ≤ 9223372036854775807) :
    MI w0 w1 gl Ax cx x Ay cy y l2 ss ts v13 v14 := by
  have hne3 : ∀ k, v13.ownBlock = some k → k ≠ gl := fun k hk e => by have := Kd.R_base h.sd k hk; have := h.gl; omega
  have hne : ∀ k, v14.ownBlock = some k → k ≠ gl := fun k hk e => by have := Kd.R_base h.ot k hk; have := h.gl; omega
  exact ⟨h.sx, h.sy, h.vx, h.vy, h.fr.trans hf (fun _ _ e => e), hb, h0, h1,
    Kd.R_drop (Kd.R_step (Kd.R_far1 h.sd rfl (g := gl) (fun e => hne3 gl e.symm rfl)) (fun k ho hk => hf.block k hk ho.2)), Kd.R_drop (Kd.R_step (Kd.R_far1 h.ot rfl (g := gl) (fun e => hne gl e.symm rfl)) (fun k ho hk => hf.block k hk ho.2)), h.gl⟩
/-- The first of a part. -/
theorem Src.head {w : World} {g : Nat} {A : Option Addr} {c : Nat} {t : S32} {l : List S32} (h : Src w g A c (t :: l)) (hf : Fr (fun i => i = g) w wr) : ∃ ad, A = some ad ∧ ∀ W, Below wr.heap.size wr W → (W.cell? ad = some (.string t.f0.f0) ∧ W.cell? ⟨ad.block, ad.off + 1, none⟩ = some (.int .i64 t.f0.f1) ∧ W.cell? ⟨ad.block, ad.off + 2, none⟩ = some (.int .i64 t.f1) ∧ W.cell? ⟨ad.block, ad.off + 3, none⟩ = some (.int .i64 t.f2) ∧ W.cell? ⟨ad.block, ad.off + 4, none⟩ = some (.int .i64 t.f3.f0) ∧ W.cell? ⟨ad.block, ad.off + 5, none⟩ = some (.int .i64 t.f3.f1) ∧ W.cell? ⟨ad.block, ad.off + 6, none⟩ = some (.int .i64 t.f4)) := by
  obtain ⟨ad, rfl, h0, h1, h2, h3, h4, h5, h6⟩ := at_T32 (h.now hf) 0 (by omega) (by simp)
  have e : ad.add (Int.toNat 0 * 7) = ad := by rw [show Int.toNat 0 * 7 = 0 from rfl]; rfl
  have et : rd_T32 (t :: l) 0 = t := rfl
  rw [e, et] at h0 h1 h2 h3 h4 h5 h6
  refine ⟨ad, rfl, fun W hb => ?_⟩
  have key : ∀ (p : Addr) (v : Value), wr.cell? p = some v → W.cell? p = some v := fun p v hp => (hb.cell (p := p) (World.block_lt_of_cell? _ _ hp)).trans hp
  exact ⟨key _ _ h0, key _ _ h1, key _ _ h2, key _ _ h3, key _ _ h4, key _ _ h5, key _ _ h6⟩
theorem MI.fr2 (h : MI w0 wr gl Ax cx x Ay cy y left ss ts v13 v14) (hb : Below w0.heap.size wr w1) : Fr (fun i => i = gl) w0 w1 ∧ w1.heap[gl]? = some (.cells #[.int .i64 left] 3 (0, 0)) :=
  ⟨⟨hb.os.trans h.fr.os, hb.tape.trans h.fr.tape, hb.output.trans h.fr.output, Nat.le_trans h.fr.size hb.size, fun i hi hn => (hb.block i hi).trans (h.fr.block i hi hn)⟩, (hb.block gl h.gl).trans h.blk⟩
theorem own_cells {α : Type} {d : Kd α} {e : Nat} {w : World} {base : Nat} {ok : Nat → Prop} {v : Value} {xs : List α} (h : d.R e w base ok v xs) (hE : d.E = []) {k : Nat} (hk : v.ownBlock = some k) : ∃ cells, w.heap[k]? = some (.cells cells e (0, 0)) := by
  obtain ⟨_, _, _, q, hq, cells, hc⟩ := (Kd.R_bound h).1 k hk
  rw [hE] at hq
  obtain rfl : q = e := by simpa using hq
  exact ⟨cells, hc⟩
/-- A side is appended. -/
theorem MI.app1 (h : MI w0 wr gl Ax cx x Ay cy y left ss ts v13 v14) {v1 : Value} {s : Int} (hR : Kd.R (Kd.int .i64) 3 w1 w0.heap.size (fun _ => True) v1 (ss ++ [s])) (hb : Below w0.heap.size wr w1) (hg : wr.grownBy w1 v13.ownBlock) :
    MI w0 w1 gl Ax cx x Ay cy y left (ss ++ [s]) ts v1 v14 :=
  ⟨h.sx, h.sy, h.vx, h.vy, (h.fr2 hb).1, (h.fr2 hb).2, h.l0, h.l1, hR, Kd.R_grown2 h.ot rfl hg (fun k hk => by
    obtain ⟨cells, hc⟩ := own_cells h.sd rfl hk
    exact Kd.R_ne h.ot hc (by decide)), h.gl⟩
/-- A task is appended. -/
theorem MI.app2 (h : MI w0 wr gl Ax cx x Ay cy y left ss ts v13 v14) {v1 : Value} {t : S32} (hR : Kd.R k32 32 w1 w0.heap.size (fun _ => True) v1 (ts ++ [t])) (hb : Below w0.heap.size wr w1) (hg : wr.grownBy w1 v14.ownBlock) :
    MI w0 w1 gl Ax cx x Ay cy y left ss (ts ++ [t]) v13 v1 :=
  ⟨h.sx, h.sy, h.vx, h.vy, (h.fr2 hb).1, (h.fr2 hb).2, h.l0, h.l1, Kd.R_grown2 h.sd rfl hg (fun k hk => by
    obtain ⟨cells, hc⟩ := own_cells h.ot rfl hk
    exact Kd.R_ne h.sd hc (by decide)), hR, h.gl⟩
theorem blk_tcs {w : World} {g : Nat} {c0 c1 c2 c3 c4 c5 c6 : Value} (h : w.heap[g]? = some (.cells #[c0, c1, c2, c3, c4, c5, c6] 32 (0, 0))) (t : S32) : (w.setCells g 0 (tcs t)).heap[g]? = some (.cells (tcells t) 32 (0, 0)) := by
  have h0 := blk_put (cs' := #[.string t.f0.f0, c1, c2, c3, c4, c5, c6]) h 0 (.string t.f0.f0) rfl
  have h1 := blk_put (cs' := #[.string t.f0.f0, .int .i64 t.f0.f1, c2, c3, c4, c5, c6]) h0 1 (.int .i64 t.f0.f1) rfl
  have h2 := blk_put (cs' := #[.string t.f0.f0, .int .i64 t.f0.f1, .int .i64 t.f1, c3, c4, c5, c6]) h1 2 (.int .i64 t.f1) rfl
  have h3 := blk_put (cs' := #[.string t.f0.f0, .int .i64 t.f0.f1, .int .i64 t.f1, .int .i64 t.f2, c4, c5, c6]) h2 3 (.int .i64 t.f2) rfl
  have h4 := blk_put (cs' := #[.string t.f0.f0, .int .i64 t.f0.f1, .int .i64 t.f1, .int .i64 t.f2, .int .i64 t.f3.f0, c5, c6]) h3 4 (.int .i64 t.f3.f0) rfl
  have h5 := blk_put (cs' := #[.string t.f0.f0, .int .i64 t.f0.f1, .int .i64 t.f1, .int .i64 t.f2, .int .i64 t.f3.f0, .int .i64 t.f3.f1, c6]) h4 5 (.int .i64 t.f3.f1) rfl
  have h6 := blk_put (cs' := #[.string t.f0.f0, .int .i64 t.f0.f1, .int .i64 t.f1, .int .i64 t.f2, .int .i64 t.f3.f0, .int .i64 t.f3.f1, .int .i64 t.f4]) h5 6 (.int .i64 t.f4) rfl
  exact h6
/-- The cells of a task's block. -/
def C7 (W : World) (g : Nat) (t : S32) : Prop := W.cell? ⟨g, 0, none⟩ = some (.string t.f0.f0) ∧ W.cell? ⟨g, 1, none⟩ = some (.int .i64 t.f0.f1) ∧ W.cell? ⟨g, 2, none⟩ = some (.int .i64 t.f1) ∧ W.cell? ⟨g, 3, none⟩ = some (.int .i64 t.f2) ∧ W.cell? ⟨g, 4, none⟩ = some (.int .i64 t.f3.f0) ∧ W.cell? ⟨g, 5, none⟩ = some (.int .i64 t.f3.f1) ∧ W.cell? ⟨g, 6, none⟩ = some (.int .i64 t.f4)
theorem C7.of {W : World} {g : Nat} {t : S32} (h : W.heap[g]? = some (.cells (tcells t) 32 (0, 0))) : C7 W g t :=
  ⟨(blk_cell h 0).trans rfl, (blk_cell h 1).trans rfl, (blk_cell h 2).trans rfl, (blk_cell h 3).trans rfl, (blk_cell h 4).trans rfl, (blk_cell h 5).trans rfl, (blk_cell h 6).trans rfl⟩
theorem C_one3 {W : World} {g : Nat} {s : Int} (h : W.heap[g]? = some (.cells #[.int .i64 s] 3 (0, 0))) : Kd.C (Kd.int .i64) W (some ⟨g, 0, none⟩) 1 [s] :=
  C_of_cells (xs := [s]) (by simp) (fun j hj => by
    obtain rfl : j = 0 := by simp at hj; omega
    exact (blk_cell h 0).trans rfl)
theorem C_one32 {W : World} {g : Nat} {t : S32} (h : W.heap[g]? = some (.cells (tcells t) 32 (0, 0))) : Kd.C k32 W (some ⟨g, 0, none⟩) 1 [t] := by
  refine ⟨rfl, by omega, fun _ => ⟨⟨g, 0, none⟩, rfl, fun j p hj => ?_⟩⟩
  obtain ⟨hj1, rfl⟩ := List.getElem?_eq_some_iff.1 hj
  obtain rfl : j = 0 := by simp at hj1; omega
  refine ⟨tcs t, rfl, k32_mk W t, fun i u hi => ?_⟩
  rw [Nat.zero_mul, Nat.zero_add, add_plain, blk_cell h i, ← hi]
  unfold tcells tcs
  simp
theorem fr_self {S : Nat → Prop} (h : Fr S w0 wr) : Below w0.heap.size wr wr := ⟨rfl, rfl, rfl, Nat.le_refl _, fun _ _ => rfl⟩
theorem Compare_calls (a b : S32) (W : World) : Calls Try.prog 23 #[.agg (tcells a), .agg (tcells b)] W fun e w' => e = .returned (.int .i64 (cmpT a b)) ∧ Below W.heap.size W w' :=
  (Compare_exact a b W).mono (by
    rintro e w' ⟨rfl, q, os, rfl⟩
    refine ⟨rfl, ⟨rfl, rfl, rfl, ?_, fun k hk => ?_⟩⟩
    · rw [Sort.size_grow]
      exact Nat.le_add_right _ _
    · rw [Sort.heap_grow_old _ _ (show k < (W.drewN q).heap.size from hk)]
      rfl)
/-- The cells of a task at an address. -/
def CA (W : World) (ad : Addr) (t : S32) : Prop := W.cell? ad = some (.string t.f0.f0) ∧ W.cell? ⟨ad.block, ad.off + 1, none⟩ = some (.int .i64 t.f0.f1) ∧ W.cell? ⟨ad.block, ad.off + 2, none⟩ = some (.int .i64 t.f1) ∧ W.cell? ⟨ad.block, ad.off + 3, none⟩ = some (.int .i64 t.f2) ∧ W.cell? ⟨ad.block, ad.off + 4, none⟩ = some (.int .i64 t.f3.f0) ∧ W.cell? ⟨ad.block, ad.off + 5, none⟩ = some (.int .i64 t.f3.f1) ∧ W.cell? ⟨ad.block, ad.off + 6, none⟩ = some (.int .i64 t.f4)
end Go.Proofs.Ytkngdlmlijefbaa.Pq
end
