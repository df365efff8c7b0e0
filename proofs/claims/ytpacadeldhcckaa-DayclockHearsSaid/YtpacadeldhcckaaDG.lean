/- The example of the chapter: awake. -/
import Derived.Test.YtpacadeldhcckaaDF
namespace Go.Proofs.Ytpacadeldhcckaa.Dc
open Go.RowKit Go.Proofs.YtpacadeldhcckaaW.PrintWords Go.Proofs.YtpacadeldhcckaaW.PrintLast Go.Proofs.YtpacadeldhcckaaW.PrintMore Go.Proofs.Mp
set_option linter.unusedVariables false
set_option linter.unusedSimpArgs false

def K0 : List (Bool × Int) := List.replicate 12 (false, 0)
theorem ck1 : (Ck.new 100 3 2).read 7 = ⟨100, 100, 0, 3, 2, true, 7, K0⟩ := by simp [Ck.read, Ck.step, Ck.new, K0]
theorem ck2 : (Ck.mk 100 100 0 3 2 true 7 K0).read 9 = ⟨100, 102, 2, 3, 2, true, 9, K0⟩ := by simp [Ck.read, Ck.step]; decide
theorem ck3 : (Ck.mk 100 102 2 3 2 true 9 K0).read 20 = ⟨100, 102, 2, 3, 2, true, 20, K0⟩ := by simp [Ck.read, Ck.step]
theorem ck4 : (Ck.mk 100 102 2 3 2 true 20 K0).read 21 = ⟨100, 103, 3, 3, 2, true, 21, K0⟩ := by simp [Ck.read, Ck.step]; decide
theorem m200 : max (0 : Int) 200 = 200 := by decide
theorem m150 : max (0 : Int) 150 = 150 := by decide
theorem m180 : max (0 : Int) 180 = 180 := by decide
theorem cg1 (d : Int) : cge (tell K0 4 200) d = if d ≤ 200 then 1 else 0 := by
  simp [cge, tell, K0, List.replicate, List.countP_cons, m200, m150, m180]
theorem cg2 (d : Int) : cge (tell (tell K0 4 200) 5 150) d = (if d ≤ 200 then 1 else 0) + (if d ≤ 150 then 1 else 0) := by
  simp [cge, tell, K0, List.replicate, List.countP_cons, m200, m150, m180]
  omega
theorem cg3 (d : Int) : cge (tell (tell (tell K0 4 200) 5 150) 6 180) d = (if d ≤ 200 then 1 else 0) + (if d ≤ 150 then 1 else 0) + (if d ≤ 180 then 1 else 0) := by
  simp [cge, tell, K0, List.replicate, List.countP_cons, m200, m150, m180]
  omega
theorem sp1 : IsSupp 100 2 (tell K0 4 200) 100 := fun d => by rw [cg1]; split <;> omega
theorem sp2 : IsSupp 100 2 (tell (tell K0 4 200) 5 150) 150 := fun d => by rw [cg2]; split <;> split <;> omega
theorem sp3 : IsSupp 100 2 (tell (tell (tell K0 4 200) 5 150) 6 180) 180 := fun d => by rw [cg3]; split <;> split <;> split <;> omega
theorem K0_ok (first day own leap q : Int) (b : Bool) (r : Int) (h : (IsDay first ∧ IsDay day ∧ 0 ≤ own ∧ own ≤ day ∧ 0 ≤ leap ∧ leap ≤ 1000 ∧ 1 ≤ q ∧ q ≤ 12 ∧ In64 r)) : (Ck.mk first day own leap q b r K0).Ok :=
  ⟨h.1, h.2.1, h.2.2.1, h.2.2.2.1, h.2.2.2.2.1, h.2.2.2.2.2.1, h.2.2.2.2.2.2.1, h.2.2.2.2.2.2.2.1, h.2.2.2.2.2.2.2.2, by simp [K0], fun p hp => by obtain rfl := List.eq_of_mem_replicate hp; unfold IsDay; omega⟩
theorem rd_step (g : Nat) (C C' : Ck) (wall r : Int) (h : C.read wall = C') (hd : C'.day = r) (hC : C.Ok) (hw : In64 wall) (w : World) (hc : ClkAt w g C) :
    Calls Try.prog 14 #[.pointer (some ⟨g, 0, none⟩), .int .i64 wall] w fun e w' => e = .returned (.int .i64 r) ∧ ClkAt w' g C' ∧ Fr (fun i => i = g) w w' := by
  have := Read_calls g C wall w hc hC hw
  rw [h, hd] at this
  exact this
theorem sp_step (g : Nat) (C : Ck) (s : Int) (hs : IsSupp C.first C.quorum C.told s) (hC : C.Ok) (w : World) (hc : ClkAt w g C) :
    Calls Try.prog 12 #[.pointer (some ⟨g, 0, none⟩)] w fun e w' => e = .returned (.int .i64 s) ∧ Below w.heap.size w w' := by
  refine (Supported_calls g C w hc hC).mono ?_
  rintro e w' ⟨s', rfl, hs', hb⟩
  obtain rfl := hs'.uniq hs
  exact ⟨rfl, hb⟩
theorem hr_step (g : Nat) (C C' : Ck) (i : Nat) (d s r : Int) (hs : IsSupp C.first C.quorum (tell C.told i d) s) (h : C.heard i d s = C') (hd : C'.day = r) (hC : C.Ok) (hi : i < 12) (hday : IsDay d) :
    C'.Ok ∧ ∀ w, ClkAt w g C → Calls Try.prog 15 #[.pointer (some ⟨g, 0, none⟩), .int .i64 (i : Int), .int .i64 d] w fun e w' => e = .returned (.tuple #[.int .i64 r, .int .i64 0]) ∧ ClkAt w' g C' ∧ Fr (fun i => i = g) w w' := by
  refine ⟨h ▸ Ck.heard_ok hC hi hday hs, fun w hc => (Hear_yes g C i d w hc hC hi hday).mono ?_⟩
  rintro e w' ⟨s', rfl, hs', k1, k2⟩
  obtain rfl := hs'.uniq hs
  rw [h] at k1 ⊢
  exact ⟨by rw [hd], k1, k2⟩
set_option maxHeartbeats 400000 in
set_option maxRecDepth 100000 in
theorem awake_calls (w : World) : Calls Try.prog 10 #[] w fun e w' => e = .returned (.bool true) ∧ Below w.heap.size w w' := by
  have HN := Lib.hid (New_yes 100 3 2 w (by unfold Args IsDay; omega))
  have o1 := Lib.hid (Ck.new_ok (show Args 100 3 2 by unfold Args IsDay; omega))
  have o2 := Lib.hid (K0_ok 100 100 0 3 2 true 7 (by unfold IsDay In64; omega))
  have o3 := Lib.hid (K0_ok 100 102 2 3 2 true 9 (by unfold IsDay In64; omega))
  have o4 := Lib.hid (K0_ok 100 102 2 3 2 true 20 (by unfold IsDay In64; omega))
  have o5 := Lib.hid (K0_ok 100 103 3 3 2 true 21 (by unfold IsDay In64; omega))
  go_enter Try.func10, Try.ntmps10
  go_wp2_with fail
  refine HN.out.mono ?_
  rintro e w1 ⟨rfl, hc, hb⟩
  obtain ⟨g, hg⟩ : ∃ g, g = w.heap.size := ⟨_, rfl⟩
  rw [← hg] at hc ⊢
  have Hg := Lib.hid hg
  clear hg
  have H1 := Lib.hid hc
  have B1 := Lib.hid hb
  clear hc hb HN
  go_wp2_with fail
  have R1 := Lib.hid (rd_step g _ _ 7 100 ck1 rfl o1.out (by unfold In64; omega))
  have R2 := Lib.hid (rd_step g _ _ 9 102 ck2 rfl o2.out (by unfold In64; omega))
  have R3 := Lib.hid (rd_step g _ _ 20 102 ck3 rfl o3.out (by unfold In64; omega))
  have R4 := Lib.hid (rd_step g _ _ 21 103 ck4 rfl o4.out (by unfold In64; omega))
  have E1 := Lib.hid (hr_step g (Ck.mk 100 103 3 3 2 true 21 K0) ⟨100, 103, 3, 3, 2, true, 21, tell K0 4 200⟩ 4 200 100 103 sp1 (by simp [Ck.heard]) rfl o5.out (by omega) (by unfold IsDay; omega))
  have E2 := Lib.hid (hr_step g (Ck.mk 100 103 3 3 2 true 21 (tell K0 4 200)) ⟨100, 150, 0, 3, 2, true, 21, tell (tell K0 4 200) 5 150⟩ 5 150 150 150 sp2 (by simp [Ck.heard]) rfl E1.out.1 (by omega) (by unfold IsDay; omega))
  have E3 := Lib.hid (hr_step g (Ck.mk 100 150 0 3 2 true 21 (tell (tell K0 4 200) 5 150)) ⟨100, 180, 0, 3, 2, true, 21, tell (tell (tell K0 4 200) 5 150) 6 180⟩ 6 180 180 180 sp3 (by simp [Ck.heard]) rfl E2.out.1 (by omega) (by unfold IsDay; omega))
  have OW := Lib.hid (fun w h => Own_calls g (Ck.mk 100 103 3 3 2 true 21 K0) w h)
  have FD := Lib.hid (fun w h => Day_calls g (Ck.mk 100 180 0 3 2 true 21 (tell (tell (tell K0 4 200) 5 150) 6 180)) w h)
  have FO := Lib.hid (fun w h => Own_calls g (Ck.mk 100 180 0 3 2 true 21 (tell (tell (tell K0 4 200) 5 150) 6 180)) w h)
  have FS := Lib.hid (fun w h => sp_step g (Ck.mk 100 180 0 3 2 true 21 (tell (tell (tell K0 4 200) 5 150) 6 180)) 180 sp3 E3.out.1 w h)
  simp only at OW FD FO
  go_wp2_with fail
  refine (R1.out _ H1.out).mono ?_
  rintro e w2 ⟨rfl, hc, hf⟩
  have H2 := Lib.hid hc
  have B2 := Lib.hid (B1.out.trans (hf.below B1.out.size (fun i hi e => by have := Hg.out; omega)))
  clear hc hf
  go_wp2_with fail
  refine (R2.out _ H2.out).mono ?_
  rintro e w3 ⟨rfl, hc, hf⟩
  have H3 := Lib.hid hc
  have B3 := Lib.hid (B2.out.trans (hf.below B2.out.size (fun i hi e => by have := Hg.out; omega)))
  clear hc hf
  go_wp2_with fail
  refine (R3.out _ H3.out).mono ?_
  rintro e w4 ⟨rfl, hc, hf⟩
  have H4 := Lib.hid hc
  have B4 := Lib.hid (B3.out.trans (hf.below B3.out.size (fun i hi e => by have := Hg.out; omega)))
  clear hc hf
  go_wp2_with fail
  refine (R4.out _ H4.out).mono ?_
  rintro e w5 ⟨rfl, hc, hf⟩
  have H5 := Lib.hid hc
  have B5 := Lib.hid (B4.out.trans (hf.below B4.out.size (fun i hi e => by have := Hg.out; omega)))
  clear hc hf
  go_wp2_with fail
  refine (OW.out _ H5.out).mono ?_
  rintro e w6 ⟨rfl, rfl⟩
  go_wp2_with fail
  refine (E1.out.2 _ H5.out).mono ?_
  rintro e w7 ⟨rfl, hc, hf⟩
  have H6 := Lib.hid hc
  have B6 := Lib.hid (B5.out.trans (hf.below B5.out.size (fun i hi e => by have := Hg.out; omega)))
  clear hc hf
  go_wp2_with fail
  refine (E2.out.2 _ H6.out).mono ?_
  rintro e w8 ⟨rfl, hc, hf⟩
  have H7 := Lib.hid hc
  have B7 := Lib.hid (B6.out.trans (hf.below B6.out.size (fun i hi e => by have := Hg.out; omega)))
  clear hc hf
  go_wp2_with fail
  refine (E3.out.2 _ H7.out).mono ?_
  rintro e w9 ⟨rfl, hc, hf⟩
  have H8 := Lib.hid hc
  have B8 := Lib.hid (B7.out.trans (hf.below B7.out.size (fun i hi e => by have := Hg.out; omega)))
  clear hc hf
  go_wp2_with fail
  refine (FD.out _ H8.out).mono ?_
  rintro e w10 ⟨rfl, rfl⟩
  go_wp2_with fail
  refine (FS.out _ H8.out).mono ?_
  rintro e w11 ⟨rfl, hb⟩
  have H9 := Lib.hid (H8.out.below hb)
  have B9 := Lib.hid (B8.out.trans (hb.mono B8.out.size))
  clear hb
  go_wp2_with fail
  refine (FO.out _ H9.out).mono ?_
  rintro e w12 ⟨rfl, rfl⟩
  go_wp2_with fail
  go_ret
  exact ⟨rfl, B9.out⟩
end Go.Proofs.Ytpacadeldhcckaa.Dc
