/- The examples of the chapter: awake. -/
import Derived.Test.YtkngdlmlijefbaaTU
namespace Go.Proofs.Ytkngdlmlijefbaa.Pq
open Go.RowKit Go.Proofs.YtkngdlmlijefbaaW.PrintWords Go.Proofs.YtkngdlmlijefbaaW.PrintLast Go.Proofs.YtkngdlmlijefbaaW.PrintMore Go.Proofs.Mp
open Go.Proofs.Ytkngdlmlijefbaa.PPriorityOrder
set_option linter.unusedVariables false
set_option linter.unusedSimpArgs false

def nm (x : Int) : ByteArray := strOfNums ((List.replicate 32 0 : List Int).set 0 x)
def tk (x size spare : Int) : S32 := ⟨⟨nm x, 0⟩, size, spare, ⟨1, 2⟩, 0⟩
theorem task_f (x size spare : Int) : kinkeeplaw41_task.f x size spare = some ((tk x size spare).f0.f0, 0, size, spare, 1, 2, 0) := rfl
theorem task_c (x size spare : Int) (w : World) : Calls Try.prog 32 #[.int .u8 x, .int .i64 size, .int .i64 spare] w fun e w' => e = .returned (.agg #[.string (nm x), .int .i64 0, .int .i64 size, .int .i64 spare, .int .i64 1, .int .i64 2, .int .i64 0]) ∧ Below w.heap.size w w' :=
  kinkeeplaw41_task.calls _ _ _ _ _ _ _ _ _ _ w (task_f x size spare)
theorem nm_size (x : Int) : (nm x).size = 32 := by
  unfold nm
  simp [strOfNums, ByteArray.size]
theorem tk_valid (x size spare : Int) (h : (0 ≤ size ∧ size ≤ 1048576) ∧ -16 ≤ spare ∧ spare ≤ 16) : vB (tk x size spare) = true :=
  (vB_iff _).2 ⟨nm_size x, (by decide : (0 : Int) ≤ 0), (by decide : (0 : Int) < 16), h.1.1, h.1.2, h.2.1, h.2.2, (by decide : (1 : Int) ≤ 2), (by decide : (2 : Int) ≤ 1073741824), (by decide : (0 : Int) ≤ 1), (by decide : (1 : Int) ≤ 2),
    (by decide : Nat.gcd (1 : Int).natAbs (2 : Int).natAbs = 1), (by decide : (0 : Int) ≤ 0), (by decide : (0 : Int) ≤ 999999)⟩
theorem cmp_spare {a b : S32} (h : a.f2 < b.f2) : cmpT a b = -1 := by
  unfold cmpT
  have : cmpI a.f2 b.f2 = -1 := by unfold cmpI; rw [if_pos h]
  rw [this]
  simp only [ors]
  rw [if_neg (by decide)]
def L3 : List S32 := [tk 1 60 0, tk 2 50 1, tk 3 40 2]
theorem L3_ord : ordT L3 = L3 := by
  have h12 : cmpT (tk 1 60 0) (tk 2 50 1) = -1 := cmp_spare (by decide)
  have h13 : cmpT (tk 1 60 0) (tk 3 40 2) = -1 := cmp_spare (by decide)
  have h23 : cmpT (tk 2 50 1) (tk 3 40 2) = -1 := cmp_spare (by decide)
  simp [ordT, L3, ins, h12, h13, h23]
theorem L3_ok : okCut L3 100 = true := by
  unfold okCut L3
  simp [tk_valid]
theorem L3_cut : cutT L3 100 = [tk 1 60 0, tk 3 40 2] := by
  unfold cutT res
  rw [L3_ord]
  have e : ordT [] = [] := rfl
  rw [e]
  simp [L3, mt, pick, tk]
set_option maxHeartbeats 400000 in
theorem New_calls (w : World) : Calls Try.prog 12 #[] w fun e w' => e = .returned (.pointer (some ⟨w.heap.size + 1, 0, none⟩)) ∧ w' = (w.alloc (.map #[] 0)).alloc (.cells #[.map (some w.heap.size)] 73) := by
  have hmm := @run_makeMap Try.prog
  go_enter Try.func12, Try.ntmps12
  go_wp2_with fail
  go_ret
  exact ⟨rfl, rfl⟩
def c21 (a b c : S32) : Array Value := #[.string a.f0.f0, .int .i64 a.f0.f1, .int .i64 a.f1, .int .i64 a.f2, .int .i64 a.f3.f0, .int .i64 a.f3.f1, .int .i64 a.f4, .string b.f0.f0, .int .i64 b.f0.f1, .int .i64 b.f1, .int .i64 b.f2, .int .i64 b.f3.f0, .int .i64 b.f3.f1, .int .i64 b.f4, .string c.f0.f0, .int .i64 c.f0.f1, .int .i64 c.f1, .int .i64 c.f2, .int .i64 c.f3.f0, .int .i64 c.f3.f1, .int .i64 c.f4]
theorem C_three {W : World} {g : Nat} {a b c : S32} (h : W.heap[g]? = some (.cells (c21 a b c) 32 (0, 0))) : Kd.C k32 W (some ⟨g, 0, none⟩) 3 [a, b, c] := by
  have hO : OwnT W g 3 [a, b, c] := ⟨_, h, by simp, by simp [maxLen], rfl, rfl⟩
  exact (Kd.R_reads' (OwnT.to_R (base := 0) (ok := fun _ => True) hO (Nat.zero_le _) trivial)).2.2
set_option maxHeartbeats 1000000 in
set_option maxRecDepth 100000 in
theorem awake_calls (w : World) : Calls Try.prog 11 #[] w fun e w' => e = .returned (.bool true) ∧ Below w.heap.size w w' := by
  have T1 := Lib.hid (task_c 1 60 0)
  have T2 := Lib.hid (task_c 2 50 1)
  have T3 := Lib.hid (task_c 3 40 2)
  have T9 := Lib.hid (task_c 9 1 (-1))
  have T0 := Lib.hid (task_c 1 1 0)
  go_enter Try.func11, Try.ntmps11
  go_wp2_with fail
  refine (T1.out _).mono ?_
  rintro e w1 ⟨rfl, hb⟩
  have B1 := Lib.hid hb
  clear hb
  go_wp2_with fail
  refine (T2.out _).mono ?_
  rintro e w2 ⟨rfl, hb⟩
  have B2 := Lib.hid (B1.out.trans (hb.mono B1.out.size))
  clear hb B1
  go_wp2_with fail
  refine (T3.out _).mono ?_
  rintro e w3 ⟨rfl, hb⟩
  have B3 := Lib.hid (B2.out.trans (hb.mono B2.out.size))
  clear hb B2
  have e21 : Hid ((w3.alloc (.cells (c21 (tk 1 60 0) (tk 2 50 1) (tk 3 40 2)) 32)).heap[w3.heap.size]? = some (.cells (c21 (tk 1 60 0) (tk 2 50 1) (tk 3 40 2)) 32 (0, 0))) := Lib.hid (blk_new _ _)
  have hbc := B3.out.alloc B3.out.size (.cells (c21 (tk 1 60 0) (tk 2 50 1) (tk 3 40 2)) 32)
  have CU := Lib.hid (Cut_calls (some ⟨w3.heap.size, 0, none⟩) 3 L3 100 _ (C_three e21.out) (by decide) (by decide))
  have BC := Lib.hid hbc
  clear hbc e21 T1 T2 T3
  go_wp2_with fail
  refine CU.out.mono ?_
  rintro e w4 ⟨h1, -⟩
  obtain ⟨u, rfl, hR, hb⟩ := h1 L3_ok
  have B4 := Lib.hid (BC.out.trans (hb.mono BC.out.size))
  rw [L3_cut] at hR
  have hsum : sum (cutT L3 100) = 100 := by rw [L3_cut]; rfl
  rw [hsum]
  obtain ⟨g, cap, rfl, hg, hO⟩ := OwnT.of_R hR (fun e => by
    subst e
    have := (Kd.R_reads' hR).1
    simp at this)
  have ha2 : w4.cell? ⟨g, 2, none⟩ = some (.int .i64 60) := hO.cell (i := 0) (c := 2) rfl (by decide)
  have hc2 : w4.cell? ⟨g, 9, none⟩ = some (.int .i64 40) := hO.cell (i := 1) (c := 2) rfl (by decide)
  clear h1 hR hb hO CU BC hsum hg
  go_wp2_with fail
  refine (T9.out _).mono ?_
  rintro e w5 ⟨rfl, hb⟩
  have B5 := Lib.hid (B4.out.trans (hb.mono B4.out.size))
  clear hb ha2 hc2
  go_wp2_with fail
  refine (T0.out _).mono ?_
  rintro e w6 ⟨rfl, hb⟩
  have B6 := Lib.hid (B5.out.trans (hb.mono B5.out.size))
  clear hb
  have CM := Lib.hid (Compare_calls (tk 9 1 (-1)) (tk 1 1 0) w6)
  rw [show cmpT (tk 9 1 (-1)) (tk 1 1 0) = -1 from cmp_spare (by decide)] at CM
  go_wp2_with fail
  refine CM.out.mono ?_
  rintro e w7 ⟨rfl, hb⟩
  have B7 := Lib.hid (B6.out.trans (hb.mono B6.out.size))
  clear hb CM
  go_wp2_with fail
  refine (New_calls _).mono ?_
  rintro e w8 ⟨rfl, rfl⟩
  have B8 := Lib.hid ((B7.out.alloc B7.out.size (.map #[] 0)).alloc (B7.out.alloc B7.out.size (.map #[] 0)).size (.cells #[.map (some w7.heap.size)] 73))
  go_wp2_with fail
  go_ret
  exact ⟨rfl, B8.out⟩
end Go.Proofs.Ytkngdlmlijefbaa.Pq
