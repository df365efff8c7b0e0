/- The law DayclockFollows: its walk, for every day, leap, quorum, reading and list of steps, on the heap as it is. -/
import Derived.Test.YtpacadeldhcckaaDG
namespace Go.Proofs.Ytpacadeldhcckaa.Dc
open Go.RowKit Go.Proofs.YtpacadeldhcckaaW.PrintWords Go.Proofs.YtpacadeldhcckaaW.PrintLast Go.Proofs.YtpacadeldhcckaaW.PrintMore Go.Proofs.Mp
set_option linter.unusedVariables false
set_option linter.unusedSimpArgs false
attribute [local go_sem] max_ii min_ii

def FC (day leap q wall sum : Int) : Ck := ⟨day, min (day + sum) 999999, min (day + sum) 999999 - day, leap, q, true, wall + sum, List.replicate 12 (false, 0)⟩
theorem fc_start {day leap q : Int} (h : Args day leap q) (wall : Int) : (Ck.new day leap q).read wall = FC day leap q wall 0 := by
  obtain ⟨⟨h1, h2⟩, _⟩ := h
  have e : min (day + 0) 999999 = day := by omega
  unfold Ck.read Ck.step Ck.new FC
  simp only
  rw [if_neg (by simp), e]
  simp
theorem fc_ok {day leap q : Int} (h : Args day leap q) {wall sum : Int} (hw : In64 (wall + sum)) (hs : 0 ≤ sum) : (FC day leap q wall sum).Ok := by
  obtain ⟨⟨h1, h2⟩, ⟨h3, h4⟩, h5, h6⟩ := h
  refine ⟨⟨h1, h2⟩, ?_, ?_, ?_, h3, h4, h5, h6, hw, by simp [FC], fun p hp => ?_⟩
  · show IsDay (min (day + sum) 999999); unfold IsDay; omega
  · show 0 ≤ min (day + sum) 999999 - day; omega
  · show min (day + sum) 999999 - day ≤ min (day + sum) 999999; omega
  · obtain rfl := List.eq_of_mem_replicate hp; unfold IsDay; omega
theorem fc_read {day leap q : Int} (h : Args day leap q) {wall sum s : Int} (hs : 0 ≤ sum) (h0 : 0 ≤ s) (h1 : s ≤ leap) : (FC day leap q wall sum).read (wall + (sum + s)) = FC day leap q wall (sum + s) := by
  obtain ⟨⟨k1, k2⟩, _⟩ := h
  have hst : (FC day leap q wall sum).step (wall + (sum + s)) = min s (999999 - min (day + sum) 999999) := by
    unfold Ck.step
    have e : (FC day leap q wall sum).ref = wall + sum := rfl
    have e2 : (FC day leap q wall sum).day = min (day + sum) 999999 := rfl
    have e3 : (FC day leap q wall sum).leap = leap := rfl
    rw [if_pos ⟨rfl, by rw [e]; omega, by rw [e, e3]; omega⟩, e, e2]
    omega
  unfold Ck.read
  rw [hst]
  unfold FC
  simp only [Ck.mk.injEq, true_and, and_true]
  omega
set_option maxHeartbeats 400000 in
set_option maxRecDepth 100000 in
theorem follows_bad (day leap q wall : Int) (A : Option Addr) (c k : Nat) (h : ¬ Args day leap q) (w : World) : Calls Try.prog 7 #[.int .i64 day, .int .i64 leap, .int .i64 q, .int .i64 wall, .slice A k c] w fun e w' => e = .returned (.bool true) ∧ Below w.heap.size w w' := by
  have HN := Lib.hid (New_no day leap q w h)
  clear h
  go_enter Try.func7, Try.ntmps7
  go_wp2_with fail
  refine HN.out.mono ?_
  rintro e w1 ⟨rfl, hb⟩
  have B1 := Lib.hid hb
  clear hb
  go_wp2_with fail
  refine (awake_calls _).mono ?_
  rintro e w2 ⟨rfl, hb⟩
  have B2 := Lib.hid (B1.out.trans (hb.mono B1.out.size))
  clear hb
  go_wp2_with fail
  refine (awake_calls _).mono ?_
  rintro e w3 ⟨rfl, hb⟩
  have B3 := Lib.hid (B2.out.trans (hb.mono B2.out.size))
  clear hb
  go_wp2_with fail
  go_ret
  exact ⟨rfl, B3.out⟩
set_option maxHeartbeats 1000000 in
set_option maxRecDepth 100000 in
theorem follows_out (day leap q wall : Int) (A : Option Addr) (c k : Nat) (h : Args day leap q) (hk : k ≤ 9223372036854775807) (ho : 30 < k ∨ 1099511627776 < wall ∨ wall < -1099511627776) (w : World) : Calls Try.prog 7 #[.int .i64 day, .int .i64 leap, .int .i64 q, .int .i64 wall, .slice A k c] w fun e w' => e = .returned (.bool true) ∧ Below w.heap.size w w' := by
  have HN := Lib.hid (New_yes day leap q w h)
  clear h
  go_enter Try.func7, Try.ntmps7
  go_wp2_with fail
  refine HN.out.mono ?_
  rintro e w1 ⟨rfl, hc, hb⟩
  have B1 := Lib.hid hb
  clear hb hc
  by_cases q1 : (30 : Int) < k
  · clear ho
    go_wp2_with fail
    refine (awake_calls _).mono ?_
    rintro e w2 ⟨rfl, hb⟩
    have B2 := Lib.hid (B1.out.trans (hb.mono B1.out.size))
    clear hb
    go_wp2_with fail
    refine (awake_calls _).mono ?_
    rintro e w3 ⟨rfl, hb⟩
    have B3 := Lib.hid (B2.out.trans (hb.mono B2.out.size))
    clear hb
    go_wp2_with fail
    go_ret
    exact ⟨rfl, B3.out⟩
  · by_cases q2 : 1099511627776 < wall
    · clear ho
      go_wp2_with fail
      refine (awake_calls _).mono ?_
      rintro e w2 ⟨rfl, hb⟩
      have B2 := Lib.hid (B1.out.trans (hb.mono B1.out.size))
      clear hb
      go_wp2_with fail
      refine (awake_calls _).mono ?_
      rintro e w3 ⟨rfl, hb⟩
      have B3 := Lib.hid (B2.out.trans (hb.mono B2.out.size))
      clear hb
      go_wp2_with fail
      go_ret
      exact ⟨rfl, B3.out⟩
    · have q3 : wall < -1099511627776 := by omega
      clear ho
      go_wp2_with fail
      refine (awake_calls _).mono ?_
      rintro e w2 ⟨rfl, hb⟩
      have B2 := Lib.hid (B1.out.trans (hb.mono B1.out.size))
      clear hb
      go_wp2_with fail
      refine (awake_calls _).mono ?_
      rintro e w3 ⟨rfl, hb⟩
      have B3 := Lib.hid (B2.out.trans (hb.mono B2.out.size))
      clear hb
      go_wp2_with fail
      go_ret
      exact ⟨rfl, B3.out⟩
set_option maxHeartbeats 1000000 in
set_option maxRecDepth 100000 in
theorem follows_main (day leap q wall : Int) (A : Option Addr) (c : Nat) (l : List Int) (h : Args day leap q) (hk : l.length ≤ 30) (hw0 : -1099511627776 ≤ wall) (hw1 : wall ≤ 1099511627776) (w : World) (hl : Kd.C (Kd.int .u8) w A l.length l) (hby : ∀ x ∈ l, 0 ≤ x ∧ x < 256) :
    Calls Try.prog 7 #[.int .i64 day, .int .i64 leap, .int .i64 q, .int .i64 wall, .slice A l.length c] w fun e w' => e = .returned (.bool true) ∧ Below w.heap.size w w' := by
  have HN := Lib.hid (New_yes day leap q w h)
  have HA := Lib.hid h
  have Hl := Lib.hid hl
  have Hby := Lib.hid hby
  have HOk := Lib.hid (Ck.new_ok h)
  obtain ⟨⟨hd0, hd1⟩, ⟨hp0, hp1⟩, _, _⟩ := h
  have hkk : ¬ (30 : Int) < (l.length : Int) := by omega
  clear hl hby
  go_enter Try.func7, Try.ntmps7
  go_wp2_with fail
  refine HN.out.mono ?_
  rintro e w1 ⟨rfl, hc, hb⟩
  have H1 := Lib.hid hc
  have B1 := Lib.hid hb
  clear hb hc HN
  go_wp2_with fail
  refine (awake_calls _).mono ?_
  rintro e w2 ⟨rfl, hb⟩
  have H2 := Lib.hid (H1.out.below hb)
  have B2 := Lib.hid (B1.out.trans (hb.mono B1.out.size))
  clear hb
  obtain ⟨g, hg⟩ : ∃ g, g = w.heap.size := ⟨_, rfl⟩
  rw [← hg] at H2 ⊢
  have Hg := Lib.hid hg
  clear hg
  go_wp2_with fail
  refine (Read_calls g _ wall _ H2.out HOk.out (by unfold In64; omega)).mono ?_
  rintro e w3 ⟨rfl, hc, hf⟩
  rw [fc_start HA.out wall] at hc
  generalize ((Ck.new day leap q).read wall).day = dd at *
  have H3 := Lib.hid hc
  have B3 := Lib.hid (B2.out.trans (hf.below B2.out.size (fun i hi e => by have := Hg.out; omega)))
  clear hc hf
  go_wp2_with fail
  go_loopw [13, 14] (fun vs vi wr => ∃ (i : Nat) (sum : Int), i ≤ l.length ∧ vi = .int .i64 i ∧ vs = .int .i64 sum ∧ 0 ≤ sum ∧ sum ≤ 1000 * i ∧ Hid (ClkAt wr g (FC day leap q wall sum)) ∧ Hid (Below w.heap.size w wr)) (fun _ vi _ => l.length - (intOf vi).toNat)
  case atStart => exact ⟨0, 0, by omega, rfl, rfl, by omega, by omega, H3, B3⟩
  case round =>
    obtain ⟨i, sum, hi, rfl, rfl, hs0, hs1, hC, hB⟩ := hrel
    have HC := Lib.hid hC.out
    have HB := Lib.hid hB.out
    clear hC hB
    by_cases hlt : i < l.length
    · have hdec : decide ((i : Int) < (l.length : Int)) = true := decide_eq_true (by omega)
      obtain ⟨ad, rfl, hci⟩ := Kd.at_int (Kd.C_below Hl.out HB.out) i (by omega) (by omega)
      rw [Int.toNat_natCast] at hci
      have hb := Hby.out (rd l (i : Int)) (by
        have : rd l (i : Int) = l[i] := by unfold rd; rw [Int.toNat_natCast, List.getD_eq_getElem?_getD, List.getElem?_eq_getElem hlt]; rfl
        rw [this]; exact List.getElem_mem hlt)
      generalize rd l (i : Int) = b at *
      have hr0 : 0 ≤ Int.tmod b (leap + 1) ∧ Int.tmod b (leap + 1) ≤ leap := by
        rw [Int.tmod_eq_emod_of_nonneg hb.1]
        have h1 := Int.emod_nonneg b (show leap + 1 ≠ 0 by omega)
        have h2 := Int.emod_lt_of_pos b (show 0 < leap + 1 by omega)
        omega
      obtain ⟨s, hs⟩ : ∃ s, Int.tmod b (leap + 1) = s := ⟨_, rfl⟩
      rw [hs] at hr0
      have hR := Lib.hid (rd_step g _ _ (wall + (sum + s)) (min (day + (sum + s)) 999999) (fc_read HA.out (wall := wall) hs0 hr0.1 hr0.2) rfl (fc_ok HA.out (by unfold In64; omega) hs0) (by unfold In64; omega))
      have hne : ((leap + 1) == 0) = false := beq_eq_false_iff_ne.2 (by omega)
      go_wp2_with fail
      refine (hR.out _ HC.out).mono ?_
      rintro e w4 ⟨rfl, hc, hf⟩
      have H4 := Lib.hid hc
      have B4 := Lib.hid (HB.out.trans (hf.below HB.out.size (fun i hi e => by have := Hg.out; omega)))
      clear hc hf hci hs
      go_wp2_with fail
      go_roundw
      case rel => exact ⟨i + 1, sum + s, by omega, by go_num, rfl, by omega, by omega, H4, B4⟩
      case measure => simp [intOf]; omega
    · have hdec : decide ((i : Int) < (l.length : Int)) = false := decide_eq_false (by omega)
      have HO := Lib.hid (Own_calls g _ _ HC.out)
      have HD := Lib.hid (Day_calls g _ _ HC.out)
      simp only [FC] at HO HD
      go_wp2_with fail
      refine HO.out.mono ?_
      rintro e w5 ⟨rfl, rfl⟩
      go_wp2_with fail
      refine HD.out.mono ?_
      rintro e w6 ⟨rfl, rfl⟩
      go_wp2_with fail
      go_ret
      exact ⟨rfl, HB.out⟩
theorem Follows_walk (day leap q wall : Int) (A : Option Addr) (c : Nat) (l : List Int) {w : World} (_ : (Lit.int .i64 day).wf = true) (_ : (Lit.int .i64 leap).wf = true) (_ : (Lit.int .i64 q).wf = true) (_ : (Lit.int .i64 wall).wf = true)
    (hl : Kd.C (Kd.int .u8) w A l.length l) (hby : ∀ x ∈ l, 0 ≤ x ∧ x < 256) :
    Calls Try.prog 7 #[.int .i64 day, .int .i64 leap, .int .i64 q, .int .i64 wall, .slice A l.length c] w fun e w' => e = .returned (.bool true) ∧ Below w.heap.size w w' := by
  by_cases h : Args day leap q
  · by_cases ho : 30 < l.length ∨ 1099511627776 < wall ∨ wall < -1099511627776
    · exact follows_out day leap q wall A c l.length h hl.2.1 ho w
    · exact follows_main day leap q wall A c l h (by omega) (by omega) (by omega) w hl hby
  · exact follows_bad day leap q wall A c l.length h w
end Go.Proofs.Ytpacadeldhcckaa.Dc
