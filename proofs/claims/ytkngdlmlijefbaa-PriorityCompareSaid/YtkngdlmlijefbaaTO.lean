/- Order of package priority: its walk. -/
import Derived.Test.YtkngdlmlijefbaaTN
import Derived.Test.YtkngdlmlijefbaaTM
namespace Go.Proofs.Ytkngdlmlijefbaa.Pq
open Go.RowKit Go.Proofs.YtkngdlmlijefbaaW.PrintWords Go.Proofs.YtkngdlmlijefbaaW.PrintLast Go.Proofs.YtkngdlmlijefbaaW.PrintMore Go.Proofs.Mp
open Go.Proofs.Ytkngdlmlijefbaa.PPriorityOrder
set_option linter.unusedVariables false
set_option linter.unusedSimpArgs false

theorem valid_c (t : S32) (w : World) : Calls Try.prog 33 #[.agg #[.string t.f0.f0, .int .i64 t.f0.f1, .int .i64 t.f1, .int .i64 t.f2, .int .i64 t.f3.f0, .int .i64 t.f3.f1, .int .i64 t.f4]] w fun e w' => e = .returned (.bool (vB t)) ∧ Below w.heap.size w w' :=
  priority_valid.calls 1073741830 _ _ _ _ _ _ _ _ w (valid_f _ (Nat.le_refl _) t)
theorem valid_yes (t : S32) (h : vB t = true) (w : World) : Calls Try.prog 33 #[.agg #[.string t.f0.f0, .int .i64 t.f0.f1, .int .i64 t.f1, .int .i64 t.f2, .int .i64 t.f3.f0, .int .i64 t.f3.f1, .int .i64 t.f4]] w fun e w' => e = .returned (.bool true) ∧ Below w.heap.size w w' := h ▸ valid_c t w
theorem valid_no (t : S32) (h : vB t = false) (w : World) : Calls Try.prog 33 #[.agg #[.string t.f0.f0, .int .i64 t.f0.f1, .int .i64 t.f1, .int .i64 t.f2, .int .i64 t.f3.f0, .int .i64 t.f3.f1, .int .i64 t.f4]] w fun e w' => e = .returned (.bool false) ∧ Below w.heap.size w w' := h ▸ valid_c t w
def OrdR (w : World) (l : List S32) (e : Ending) (w' : World) : Prop :=
  (l.all vB = true → ∃ v, e = .returned (.tuple #[v, .int .i64 0]) ∧ Kd.R k32 32 w' w.heap.size (fun _ => True) v (ordT l) ∧ Below w.heap.size w w') ∧
  (l.all vB = false → e = .returned (.tuple #[.slice none 0 0, .int .i64 1]) ∧ Below w.heap.size w w')
set_option maxHeartbeats 400000 in
set_option maxRecDepth 100000 in
theorem Order_calls (A : Option Addr) (c : Nat) (l : List S32) (w : World) (h : Kd.C k32 w A l.length l) (hl : l.length ≤ 1000) :
    Calls Try.prog 26 #[.slice A l.length c] w (OrdR w l) := by
  have H := Lib.hid h
  clear h
  go_enter Try.func26, Try.ntmps26
  go_wp2_with fail
  go_loopw [8] (fun v wr => ∃ k : Nat, k ≤ l.length ∧ v = .int .i64 k ∧ Hid ((l.take k).all vB = true) ∧ Hid (Below w.heap.size w wr)) (fun v _ => l.length - (intOf v).toNat)
  case atStart => exact ⟨0, by omega, rfl, Lib.hid rfl, Lib.hid (Below.refl _ _)⟩
  case round =>
    obtain ⟨k, hk, rfl, hall, hB⟩ := hrel
    have HA := Lib.hid hall.out
    have HB := Lib.hid hB.out
    clear hall hB
    by_cases hlt : k < l.length
    · have hdec : decide ((k : Int) < (l.length : Int)) = true := decide_eq_true (by omega)
      obtain ⟨ad, rfl, ha0, ha1, ha2, ha3, ha4, ha5, ha6⟩ := at_T32 (Kd.C_below H.out HB.out) k (by omega) (by omega)
      rw [Int.toNat_natCast] at ha0 ha1 ha2 ha3 ha4 ha5 ha6
      rw [rd32 hlt] at ha0 ha1 ha2 ha3 ha4 ha5 ha6
      have hall2 : Hid ((l.take (k + 1)).all vB = vB l[k]) := Lib.hid (by
        rw [List.take_succ_eq_append_getElem hlt, List.all_append, HA.out]
        simp)
      have hall3 : Hid (vB l[k] = false → l.all vB = false) := Lib.hid (fun h => by
        rw [List.all_eq_false]
        exact ⟨_, List.getElem_mem hlt, by rw [h]; simp⟩)
      generalize l[k] = t at *
      cases hv : vB t with
      | true =>
        have HV := Lib.hid hv
        clear hv
        go_wp2_with fail
        refine (valid_yes t HV.out _).mono ?_
        rintro e w2 ⟨rfl, hb⟩
        have B2 := Lib.hid ((HB.out.alloc HB.out.size _).trans (hb.mono (HB.out.alloc HB.out.size _).size))
        clear hb ha0 ha1 ha2 ha3 ha4 ha5 ha6
        go_wp2_with fail
        go_roundw
        case rel => exact ⟨k + 1, by omega, by go_num, Lib.hid (hall2.out.trans HV.out), B2⟩
        case measure => simp [intOf]; omega
      | false =>
        have HV := Lib.hid hv
        clear hv
        go_wp2_with fail
        refine (valid_no t HV.out _).mono ?_
        rintro e w2 ⟨rfl, hb⟩
        have B2 := Lib.hid ((HB.out.alloc HB.out.size _).trans (hb.mono (HB.out.alloc HB.out.size _).size))
        clear hb ha0 ha1 ha2 ha3 ha4 ha5 ha6
        go_wp2_with fail
        go_ret2
        exact ⟨fun h => absurd h (by rw [hall3.out HV.out]; simp), fun _ => ⟨rfl, B2.out⟩⟩
    · have hdec : decide ((k : Int) < (l.length : Int)) = false := decide_eq_false (by omega)
      obtain rfl : k = l.length := by omega
      have hva : Hid (l.all vB = true) := Lib.hid (by have := HA.out; rwa [List.take_length] at this)
      have HO := Lib.hid (order_calls A c l wr (Kd.C_below H.out HB.out) hl (fun x hx => (vB_iff x).1 (List.all_eq_true.1 hva.out x hx)))
      clear HA
      go_wp2_with fail
      refine HO.out.mono ?_
      rintro e w2 ⟨v, rfl, hR, hb⟩
      have HR := Lib.hid (Kd.R_lower hR HB.out.size)
      have B2 := Lib.hid (HB.out.trans (hb.mono HB.out.size))
      clear hR hb HO
      go_wp2_with fail
      go_ret2
      exact ⟨fun _ => ⟨v, rfl, HR.out, B2.out⟩, fun h => absurd hva.out (by rw [h]; simp)⟩
end Go.Proofs.Ytkngdlmlijefbaa.Pq
