/- Reading the wall clock. -/
import Derived.Test.YtpacadeldhcckaaDA
namespace Go.Proofs.Ytpacadeldhcckaa.Dc
open Go.RowKit Go.Proofs.YtpacadeldhcckaaW.PrintWords Go.Proofs.YtpacadeldhcckaaW.PrintLast Go.Proofs.YtpacadeldhcckaaW.PrintMore Go.Proofs.Mp
set_option linter.unusedVariables false
set_option linter.unusedSimpArgs false
attribute [local go_sem] max_ii min_ii

def Ck.step (C : Ck) (wall : Int) : Int := if C.known = true ∧ C.ref ≤ wall ∧ wall - C.ref ≤ C.leap then min (wall - C.ref) (999999 - C.day) else 0
def Ck.read (C : Ck) (wall : Int) : Ck := { C with day := C.day + C.step wall, own := C.own + C.step wall, known := true, ref := wall }
theorem Ck.step_bd {C : Ck} (h : C.Ok) (wall : Int) : 0 ≤ C.step wall ∧ C.step wall ≤ 999999 - C.day := by
  have h1 := h.day
  unfold IsDay at h1
  unfold Ck.step
  split <;> omega
theorem Ck.read_ok {C : Ck} (h : C.Ok) (wall : Int) (hw : In64 wall) : (C.read wall).Ok := by
  have h1 := Ck.step_bd h wall
  have h2 := h.day
  have h3 := h.own0
  have h4 := h.own1
  unfold IsDay at h2
  refine ⟨h.first, ?_, ?_, ?_, h.leap0, h.leap1, h.q0, h.q1, hw, h.len, h.days⟩
  · show IsDay (C.day + C.step wall); unfold IsDay; omega
  · show 0 ≤ C.own + C.step wall; omega
  · show C.own + C.step wall ≤ C.day + C.step wall; omega
theorem u64_sub {x y : Int} (hx : In64 x) (hy : In64 y) (h : y ≤ x) : IntKind.u64.wrap (IntKind.u64.wrap x - IntKind.u64.wrap y) = x - y := by
  unfold In64 at *
  rw [IntKind.wrap_u64, IntKind.wrap_u64, IntKind.wrap_u64]; omega
theorem u64_id {x : Int} (h0 : 0 ≤ x) (h : x ≤ 1000) : IntKind.u64.wrap x = x := by
  rw [IntKind.wrap_u64]; omega
theorem ClkAt.put1 {w : World} {g : Nat} {C : Ck} (h : ClkAt w g C) (d : Int) : ClkAt (w.setCell ⟨g, 1, none⟩ (.int .i64 d)) g { C with day := d } := blk_put h 1 _ (by simp [Ck.cells])
theorem ClkAt.put2 {w : World} {g : Nat} {C : Ck} (h : ClkAt w g C) (d : Int) : ClkAt (w.setCell ⟨g, 2, none⟩ (.int .i64 d)) g { C with own := d } := blk_put h 2 _ (by simp [Ck.cells])
theorem ClkAt.put5 {w : World} {g : Nat} {C : Ck} (h : ClkAt w g C) (d : Bool) : ClkAt (w.setCell ⟨g, 5, none⟩ (.bool d)) g { C with known := d } := blk_put h 5 _ (by simp [Ck.cells])
theorem ClkAt.put6 {w : World} {g : Nat} {C : Ck} (h : ClkAt w g C) (d : Int) : ClkAt (w.setCell ⟨g, 6, none⟩ (.int .i64 d)) g { C with ref := d } := blk_put h 6 _ (by simp [Ck.cells])
theorem ClkAt.drewN {w : World} {g : Nat} {C : Ck} (h : ClkAt w g C) (n : Nat) : ClkAt (w.drewN n) g C := h

set_option maxHeartbeats 400000 in
set_option maxRecDepth 100000 in
theorem Read_calls (g : Nat) (C : Ck) (wall : Int) (w : World) (h : ClkAt w g C) (hC : C.Ok) (hw : In64 wall) :
    Calls Try.prog 14 #[.pointer (some ⟨g, 0, none⟩), .int .i64 wall] w fun e w' => e = .returned (.int .i64 (C.read wall).day) ∧ ClkAt w' g (C.read wall) ∧ Fr (fun i => i = g) w w' := by
  have hc1 : w.cell? ⟨g, 1, none⟩ = some (.int .i64 C.day) := (blk_cell h 1).trans rfl
  have hc2 : w.cell? ⟨g, 2, none⟩ = some (.int .i64 C.own) := (blk_cell h 2).trans rfl
  have hc3 : w.cell? ⟨g, 3, none⟩ = some (.int .i64 C.leap) := (blk_cell h 3).trans rfl
  have hc5 : w.cell? ⟨g, 5, none⟩ = some (.bool C.known) := (blk_cell h 5).trans rfl
  have hc6 : w.cell? ⟨g, 6, none⟩ = some (.int .i64 C.ref) := (blk_cell h 6).trans rfl
  have hf1 : w.frozen? ⟨g, 1, none⟩ = false := blk_frozen h 1
  have hf2 : w.frozen? ⟨g, 2, none⟩ = false := blk_frozen h 2
  have hf5 : w.frozen? ⟨g, 5, none⟩ = false := blk_frozen h 5
  have hf6 : w.frozen? ⟨g, 6, none⟩ = false := blk_frozen h 6
  have H := Lib.hid h
  have hr := hC.ref
  have hl0 := hC.leap0
  have hl1 := hC.leap1
  have hd := hC.day
  unfold IsDay at hd
  have ho0 := hC.own0
  have ho1 := hC.own1
  have HF := Lib.hid (Fr.refl (fun i => i = g) w)
  by_cases hk : C.known = true
  · rw [hk] at hc5
    by_cases hge : C.ref ≤ wall
    · have hu := u64_sub hw hr hge
      by_cases hle : wall - C.ref ≤ C.leap
      · have hst : C.step wall = min (wall - C.ref) (999999 - C.day) := by unfold Ck.step; rw [if_pos ⟨hk, hge, hle⟩]
        have hb := Ck.step_bd hC wall
        have hs : Hid (C.read wall = { C with day := C.day + C.step wall, own := C.own + C.step wall, known := true, ref := wall }) := Lib.hid rfl
        rw [hst] at hb
        rw [hst] at hs
        have hdec : decide (IntKind.u64.wrap (IntKind.u64.wrap wall - IntKind.u64.wrap C.ref) ≤ C.leap) = true := by rw [hu]; exact decide_eq_true hle
        have hgd : decide (C.ref ≤ wall) = true := decide_eq_true hge
        have hw1 : wrap64 (wall - C.ref) = wall - C.ref := wrap_in (by unfold In64; omega)
        have hw2 : wrap64 (999999 - C.day) = 999999 - C.day := wrap_in (by unfold In64; omega)
        generalize hgs : min (wall - C.ref) (999999 - C.day) = st at *
        clear h hst hC
        have hw3 : wrap64 (C.day + st) = C.day + st := wrap_in (by unfold In64; omega)
        have hw4 : wrap64 (C.own + st) = C.own + st := wrap_in (by unfold In64; omega)
        obtain ⟨cf, cd, co, cl, cq, ck, cr, ct⟩ := C
        simp only at *
        go_enter Try.func14, Try.ntmps14
        go_wp2_with fail
        go_quiet (fail)
        go_wp2_with fail
        go_quiet (fail)
        go_wp2_with fail
        go_ret
        rw [hs.out]
        exact ⟨rfl, ((((H.out.drewN _).put1 _).put2 _).put5 true).put6 wall, ((((HF.out.drewN _).setCell (fun _ => rfl) _).setCell (fun _ => rfl) _).setCell (fun _ => rfl) _).setCell (fun _ => rfl) _⟩
      · have hs : Hid (C.read wall = { C with known := true, ref := wall }) := Lib.hid (by
          have : C.step wall = 0 := by unfold Ck.step; rw [if_neg (fun h => hle h.2.2)]
          unfold Ck.read; rw [this]; simp)
        have hdec : decide (IntKind.u64.wrap (IntKind.u64.wrap wall - IntKind.u64.wrap C.ref) ≤ C.leap) = false := by rw [hu]; exact decide_eq_false hle
        clear h hu hle hC
        have hgd : decide (C.ref ≤ wall) = true := decide_eq_true hge
        obtain ⟨cf, cd, co, cl, cq, ck, cr, ct⟩ := C
        simp only at *
        go_enter Try.func14, Try.ntmps14
        go_wp2_with fail
        go_quiet (fail)
        go_wp2_with fail
        go_ret
        rw [hs.out]
        exact ⟨rfl, ((H.out.drewN _).put5 true).put6 wall, ((HF.out.drewN _).setCell (fun _ => rfl) _).setCell (fun _ => rfl) _⟩
    · have hs : Hid (C.read wall = { C with known := true, ref := wall }) := Lib.hid (by
        have : C.step wall = 0 := by unfold Ck.step; rw [if_neg (fun h => hge h.2.1)]
        unfold Ck.read; rw [this]; simp)
      have hgd : decide (C.ref ≤ wall) = false := decide_eq_false hge
      clear h hC
      obtain ⟨cf, cd, co, cl, cq, ck, cr, ct⟩ := C
      simp only at *
      go_enter Try.func14, Try.ntmps14
      go_wp2_with fail
      go_quiet (fail)
      go_wp2_with fail
      go_ret
      rw [hs.out]
      exact ⟨rfl, ((H.out.drewN _).put5 true).put6 wall, ((HF.out.drewN _).setCell (fun _ => rfl) _).setCell (fun _ => rfl) _⟩
  · have hs : Hid (C.read wall = { C with known := true, ref := wall }) := Lib.hid (by
      have : C.step wall = 0 := by unfold Ck.step; rw [if_neg (fun h => hk h.1)]
      unfold Ck.read; rw [this]; simp)
    have hk : C.known = false := by simpa using hk
    rw [hk] at hc5
    clear h
    obtain ⟨cf, cd, co, cl, cq, ck, cr, ct⟩ := C
    simp only at *
    go_enter Try.func14, Try.ntmps14
    go_wp2_with fail
    go_quiet (fail)
    go_wp2_with fail
    go_ret
    rw [hs.out]
    exact ⟨rfl, ((H.out.drewN _).put5 true).put6 wall, ((HF.out.drewN _).setCell (fun _ => rfl) _).setCell (fun _ => rfl) _⟩
end Go.Proofs.Ytpacadeldhcckaa.Dc
