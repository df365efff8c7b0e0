/- Tasks: slices.Clone; the plain comparison. -/
import Derived.Test.YtkngdlmlijefbaaM
import Derived.Test.YtkngdlmlijefbaaPPriorityOrderx0
import Derived.Lib.Hide
namespace Go.Proofs.Ytkngdlmlijefbaa.Pq
open Go.RowKit Go.Proofs.YtkngdlmlijefbaaW.PrintWords Go.Proofs.YtkngdlmlijefbaaW.PrintLast Go.Proofs.YtkngdlmlijefbaaW.PrintMore Go.Proofs.Mp
open Go.Proofs.Ytkngdlmlijefbaa.PPriorityOrder (S28 S30 S32 S35 k32 k32_open k32_mk k32_mkM rd_T32 at_T32)
set_option linter.unusedVariables false
set_option linter.unusedSimpArgs false

theorem eqNil1 (a : Addr) (n c : Nat) (w : World) : (binOp BinOp.eql 47 (.slice (some a) n c) (.slice none 0 0)).run Try.prog w = .ok (.bool false) w := by kernel_rfl
theorem eqNil0 (n c : Nat) (w : World) : (binOp BinOp.eql 47 (.slice none n c) (.slice none 0 0)).run Try.prog w = .ok (.bool true) w := by kernel_rfl
attribute [local go_sem] eqNil1 eqNil0
theorem info32 : (Try.prog.info? 32).map (fun i => (i.zero, i.size, i.bytes)) = some (some (.agg #[.string ByteArray.empty, .int .i64 0, .int .i64 0, .int .i64 0, .int .i64 0, .int .i64 0, .int .i64 0]), 7, 64) := by kernel_rfl
theorem R_none32 (W : World) (base : Nat) (hb : base ≤ W.heap.size) (ok : Nat → Prop) (hok : ok W.heap.size) : Kd.R k32 32 (W.alloc (.cells #[] 32)) base ok (.slice (some ⟨W.heap.size, 0, none⟩) 0 0) [] := by
  refine ⟨fun k hk => ?_, [], ?_, by simp, fun i p hp => by simp at hp⟩
  · have : W.heap.size = k := by simpa [Value.ownBlock] using hk
    exact this ▸ hok
  · exact World.ownsRow_lit (base := base) (e := 32) (size := 7) W #[] 0 hb (by simp [maxLen]) (by simp)
set_option maxHeartbeats 400000 in
set_option maxRecDepth 100000 in
/-- slices.Clone at tasks. -/
theorem Clone_calls (A : Option Addr) (c : Nat) (l : List S32) (w : World) (h : Kd.C k32 w A l.length l) (hl : l.length ≤ 1000) :
    Calls Try.prog 48 #[.slice A l.length c] w fun e w' => ∃ v, e = .returned v ∧ Kd.R k32 32 w' w.heap.size (fun _ => True) v l ∧ Below w.heap.size w w' := by
  cases A with
  | none =>
    have h0 : l = [] := by
      obtain ⟨_, _, h3⟩ := h
      rcases Nat.eq_zero_or_pos l.length with h0 | h0
      · exact List.length_eq_zero_iff.1 h0
      · obtain ⟨ad, e, _⟩ := h3 h0
        cases e
    subst h0
    clear h
    go_enter Try.func48, Try.ntmps48
    go_wp2_with fail
    go_ret
    exact ⟨_, rfl, Kd.R_nil _ _ _ _ _, Below.refl _ _⟩
  | some ad =>
    have H := Lib.hid (Kd.C_below h ((Below.refl w.heap.size w).alloc (Nat.le_refl _) (.cells #[] 32)))
    have HE := Lib.hid (R_none32 w w.heap.size (Nat.le_refl _) (fun _ => True) trivial)
    have HB := Lib.hid ((Below.refl w.heap.size w).alloc (Nat.le_refl _) (.cells #[] 32))
    have HL : Hid ((0 + l.length) * 64 ≤ 140737488355328) := Lib.hid (by omega)
    clear h
    go_enter Try.func48, Try.ntmps48
    go_wp2_with (at_builtin; refine Kd.R_append_rows k32 (w0 := w) w.heap.size rfl (.tmp 5) (.tmp 6) 47 32 (.agg #[.string ByteArray.empty, .int .i64 0, .int .i64 0, .int .i64 0, .int .i64 0, .int .i64 0, .int .i64 0]) 64 rfl Try.underlying47 info32 rfl (by decide) (by omega) (.slice (some ⟨w.heap.size, 0, none⟩) 0 0) [] l (some ad) l.length c (fun _ => True) (fun _ => False) rfl rfl HE.out H.out ?aK (fun _ hk => hk.elim) (fun _ _ => trivial) HB.out HB.out.size HL.out ?_; (case aK => exact fun y cs h => by obtain rfl := k32_open h; exact k32_mkM _ _ _ y); intro v1 w5 ho1 hB1 hg1 hat1; rw [List.nil_append] at ho1; have HO1 := Lib.hid ho1; have HB1 := Lib.hid hB1; clear ho1 hB1 hg1 hat1)
    go_ret
    exact ⟨_, rfl, HO1.out, HB1.out⟩
end Go.Proofs.Ytkngdlmlijefbaa.Pq
