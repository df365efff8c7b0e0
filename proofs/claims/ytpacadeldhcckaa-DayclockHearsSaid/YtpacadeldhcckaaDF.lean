/- Hearing a day from a device. -/
import Derived.Test.YtpacadeldhcckaaDE
namespace Go.Proofs.Ytpacadeldhcckaa.Dc
open Go.RowKit Go.Proofs.YtpacadeldhcckaaW.PrintWords Go.Proofs.YtpacadeldhcckaaW.PrintLast Go.Proofs.YtpacadeldhcckaaW.PrintMore Go.Proofs.Mp
set_option linter.unusedVariables false
set_option linter.unusedSimpArgs false
attribute [local go_sem] max_ii min_ii

def tell (l : List (Bool × Int)) (i : Nat) (d : Int) : List (Bool × Int) := l.set i (true, max (l.getD i (false, 0)).2 d)
def Ck.heard (C : Ck) (i : Nat) (d s : Int) : Ck := if C.day < s then { C with told := tell C.told i d, day := s, own := 0 } else { C with told := tell C.told i d }
theorem tell_len (l : List (Bool × Int)) (i : Nat) (d : Int) : (tell l i d).length = l.length := by simp [tell]
theorem tell_days {l : List (Bool × Int)} (h : ∀ p ∈ l, IsDay p.2) {i : Nat} (hi : i < l.length) {d : Int} (hd : IsDay d) : ∀ p ∈ tell l i d, IsDay p.2 := by
  intro p hp
  rcases List.mem_or_eq_of_mem_set hp with h1 | rfl
  · exact h p h1
  · have h2 := h (l.getD i (false, 0)) (by rw [List.getD_eq_getElem?_getD, List.getElem?_eq_getElem hi]; exact List.getElem_mem hi)
    unfold IsDay at *
    simp only
    omega
theorem Ck.heard_ok {C : Ck} (h : C.Ok) {i : Nat} (hi : i < 12) {d : Int} (hd : IsDay d) {s : Int} (hs : IsSupp C.first C.quorum (tell C.told i d) s) : (C.heard i d s).Ok := by
  have h1 := tell_days h.days (by rw [h.len]; exact hi) hd
  have h2 := hs.day h.first h.q0 h1
  have h3 := h.len
  unfold Ck.heard
  split
  · exact ⟨h.first, h2, Int.le_refl _, by have := h2.1; simpa using this, h.leap0, h.leap1, h.q0, h.q1, h.ref, by simpa [tell_len] using h3, h1⟩
  · exact ⟨h.first, h.day, h.own0, h.own1, h.leap0, h.leap1, h.q0, h.q1, h.ref, by simpa [tell_len] using h3, h1⟩
theorem ClkAt.tell {w : World} {g : Nat} {C : Ck} (h : ClkAt w g C) (i : Nat) (b : Bool) (d : Int) : ClkAt ((w.setCell ⟨g, 7 + i * 2, none⟩ (.bool b)).setCell ⟨g, 7 + i * 2 + 1, none⟩ (.int .i64 d)) g { C with told := C.told.set i (b, d) } :=
  blk_put (blk_put h _ _ rfl) _ _ (by simp [Ck.cells, flat_set, show 7 + i * 2 = i * 2 + 1 + 1 + 1 + 1 + 1 + 1 + 1 from by omega])
theorem ClkAt.c8 {w : World} {g : Nat} {C : Ck} (h : ClkAt w g C) (i : Nat) (p : Bool × Int) (hp : C.told[i]? = some p) : w.cell? ⟨g, 7 + i * 2, none⟩ = some (.bool p.1) ∧ w.cell? ⟨g, 7 + i * 2 + 1, none⟩ = some (.int .i64 p.2) := by
  have hf := flat_get0 C.told i p hp
  constructor
  · exact (blk_cell h _).trans (by simpa [Ck.cells, show 7 + i * 2 = i * 2 + 1 + 1 + 1 + 1 + 1 + 1 + 1 from by omega] using hf.1)
  · exact (blk_cell h _).trans (by simpa [Ck.cells, show 7 + i * 2 + 1 = i * 2 + 1 + 1 + 1 + 1 + 1 + 1 + 1 + 1 from by omega] using hf.2)

set_option maxRecDepth 100000 in
theorem Hear_no (g : Nat) (dev d : Int) (w : World) (h : ¬ ((0 ≤ dev ∧ dev < 12) ∧ IsDay d)) :
    Calls Try.prog 15 #[.pointer (some ⟨g, 0, none⟩), .int .i64 dev, .int .i64 d] w fun e w' => e = .returned (.tuple #[.int .i64 0, .int .i64 1]) ∧ Below w.heap.size w w' := by
  by_cases h0 : dev < 0
  · clear h
    go_enter Try.func15, Try.ntmps15
    go_wp2_with fail
    refine bodyPost_ret (results_list (rs := [.tmp 6, .tmp 7]) rfl (by simp) (.tmp (.tmp .nil))) rfl ⟨rfl, Below.refl _ _⟩
  · by_cases h1 : 12 ≤ dev
    · clear h
      go_enter Try.func15, Try.ntmps15
      go_wp2_with fail
      refine bodyPost_ret (results_list (rs := [.tmp 6, .tmp 7]) rfl (by simp) (.tmp (.tmp .nil))) rfl ⟨rfl, Below.refl _ _⟩
    · have Hd := Lib.hid (isDay_no d w (fun hd => h ⟨by omega, hd⟩))
      clear h
      go_enter Try.func15, Try.ntmps15
      go_wp2_with fail
      refine Hd.out.mono ?_
      rintro e w1 ⟨rfl, rfl⟩
      go_wp2_with fail
      refine bodyPost_ret (results_list (rs := [.tmp 6, .tmp 7]) rfl (by simp) (.tmp (.tmp .nil))) rfl ⟨rfl, Below.refl _ _⟩
set_option maxHeartbeats 1000000 in
set_option maxRecDepth 100000 in
theorem Hear_yes (g : Nat) (C : Ck) (i : Nat) (d : Int) (w : World) (h : ClkAt w g C) (hC : C.Ok) (hi : i < 12) (hd : IsDay d) :
    Calls Try.prog 15 #[.pointer (some ⟨g, 0, none⟩), .int .i64 (i : Int), .int .i64 d] w fun e w' => ∃ s, e = .returned (.tuple #[.int .i64 (C.heard i d s).day, .int .i64 0]) ∧ IsSupp C.first C.quorum (tell C.told i d) s ∧ ClkAt w' g (C.heard i d s) ∧ Fr (fun k => k = g) w w' := by
  have H := Lib.hid h
  have HC := Lib.hid hC
  obtain ⟨p, hp⟩ : ∃ p, C.told[i]? = some p := ⟨_, List.getElem?_eq_getElem (by rw [hC.len]; exact hi)⟩
  have hpd : IsDay p.2 := hC.days p (List.mem_of_getElem? hp)
  have Hpd := Lib.hid hpd
  have Htell : Hid (tell C.told i d = C.told.set i (true, max p.2 d)) := Lib.hid (by unfold tell; rw [List.getD_eq_getElem?_getD, hp]; rfl)
  have hx := Lib.hid (h.c8 i p hp)
  have hdd := Lib.hid hd
  have Hday := Lib.hid (isDay_yes d w hd)
  clear hd hpd hp h hC
  go_enter Try.func15, Try.ntmps15
  go_wp2_with fail
  refine Hday.out.mono ?_
  rintro e w1 ⟨rfl, rfl⟩
  go_wp2_with fail
  refine start_ (n := 16) (S := fun W => W.cell? ⟨g, 7 + i * 2, none⟩ = some (.bool p.1) ∧ W.cell? ⟨g, 7 + i * 2 + 1, none⟩ = some (.int .i64 p.2)) (ds := [15]) #[false, false, false, false, false, false, false, false, false, false, false, false, false, false, false, false] (by kernel_rfl) rfl rfl hx.out (fun hHeld => ?_)
  refine pure_ (i := 0) (N := some 20) (v := ?_) (a' := ?_) #[true, false, false, false, false, false, false, false, false, false, false, false, false, false, false, false] rfl rfl (by kernel_rfl) (fun _ _ _ h => h) (Or.inl ⟨by rfl, ?_⟩) ?_ ?_
  rotate_left
  · intro w'
    go_simp
    with_reducible rfl
  rotate_left
  · simp only [Act.put, List.setIfInBounds_toArray, List.set_cons_zero, List.set_cons_succ, i64_w, i32_w]
    rfl
  refine pure_ (i := 1) (N := some 21) (v := ?_) (a' := ?_) #[true, true, false, false, false, false, false, false, false, false, false, false, false, false, false, false] rfl rfl (by kernel_rfl) (fun _ _ _ h => h) (Or.inl ⟨by rfl, ?_⟩) ?_ ?_
  rotate_left
  · intro w'
    go_simp
    with_reducible rfl
  rotate_left
  · simp only [Act.put, List.setIfInBounds_toArray, List.set_cons_zero, List.set_cons_succ, i64_w, i32_w]
    rfl
  refine pure_ (i := 2) (N := some 22) (v := ?_) (a' := ?_) #[true, true, true, false, false, false, false, false, false, false, false, false, false, false, false, false] rfl rfl (by kernel_rfl) (fun _ _ _ h => h) (Or.inl ⟨by rfl, ?_⟩) ?_ ?_
  rotate_left
  · intro w'
    go_simp
    with_reducible rfl
  rotate_left
  · simp only [Act.put, List.setIfInBounds_toArray, List.set_cons_zero, List.set_cons_succ, i64_w, i32_w]
    rfl
  refine pure_ (i := 3) (N := some 23) (v := ?_) (a' := ?_) #[true, true, true, true, false, false, false, false, false, false, false, false, false, false, false, false] rfl rfl (by kernel_rfl) (fun _ _ _ h => h) (Or.inl ⟨by rfl, ?_⟩) ?_ ?_
  rotate_left
  · intro w'
    go_simp
    with_reducible rfl
  rotate_left
  · simp only [Act.put, List.setIfInBounds_toArray, List.set_cons_zero, List.set_cons_succ, i64_w, i32_w]
    rfl
  refine pure_ (i := 4) (N := some 24) (v := ?_) (a' := ?_) #[true, true, true, true, true, false, false, false, false, false, false, false, false, false, false, false] rfl rfl (by kernel_rfl) (fun _ _ _ h => h) (Or.inl ⟨by rfl, ?_⟩) ?_ ?_
  rotate_left
  · intro w'
    go_simp
    with_reducible rfl
  rotate_left
  · simp only [Act.put, List.setIfInBounds_toArray, List.set_cons_zero, List.set_cons_succ, i64_w, i32_w]
    rfl
  refine pure_ (i := 5) (N := some 25) (v := ?_) (a' := ?_) #[true, true, true, true, true, true, false, false, false, false, false, false, false, false, false, false] rfl rfl (by kernel_rfl) (fun _ _ _ h => h) (Or.inl ⟨by rfl, ?_⟩) ?_ ?_
  rotate_left
  · intro w'
    go_simp
    with_reducible rfl
  rotate_left
  · simp only [Act.put, List.setIfInBounds_toArray, List.set_cons_zero, List.set_cons_succ, i64_w, i32_w]
    rfl
  refine pure_ (i := 6) (N := some 26) (v := ?_) (a' := ?_) #[true, true, true, true, true, true, true, false, false, false, false, false, false, false, false, false] rfl rfl (by kernel_rfl) (fun _ _ _ h => h) (Or.inl ⟨by rfl, ?_⟩) ?_ ?_
  rotate_left
  · intro w'
    go_simp
    with_reducible rfl
  rotate_left
  · simp only [Act.put, List.setIfInBounds_toArray, List.set_cons_zero, List.set_cons_succ, i64_w, i32_w]
    rfl
  refine pure_ (i := 7) (N := some 27) (v := ?_) (a' := ?_) #[true, true, true, true, true, true, true, true, false, false, false, false, false, false, false, false] rfl rfl (by kernel_rfl) (fun _ _ _ h => h) (Or.inl ⟨by rfl, ?_⟩) ?_ ?_
  rotate_left
  · intro w'
    go_simp
    with_reducible rfl
  rotate_left
  · simp only [Act.put, List.setIfInBounds_toArray, List.set_cons_zero, List.set_cons_succ, i64_w, i32_w]
    rfl
  refine take_ (i := 8) (N := some 28) (v := ?_) (a' := ?_) #[true, true, true, true, true, true, true, true, true, false, false, false, false, false, false, false] rfl rfl (by kernel_rfl) (fun _ _ _ h => h) (Or.inl ⟨by rfl, ?_⟩) hHeld ?_ ?_
  rotate_left
  · rintro w' ⟨s0, s1⟩
    go_simp
    with_reducible rfl
  rotate_left
  · simp only [Act.put, List.setIfInBounds_toArray, List.set_cons_zero, List.set_cons_succ, i64_w, i32_w]
    rfl
  refine pure_ (i := 9) (N := some 29) (v := ?_) (a' := ?_) #[true, true, true, true, true, true, true, true, true, true, false, false, false, false, false, false] rfl rfl (by kernel_rfl) (fun _ _ _ h => h) (Or.inl ⟨by rfl, ?_⟩) ?_ ?_
  rotate_left
  · intro w'
    go_simp
    with_reducible rfl
  rotate_left
  · simp only [Act.put, List.setIfInBounds_toArray, List.set_cons_zero, List.set_cons_succ, i64_w, i32_w]
    rfl
  refine pure_ (i := 10) (N := some 30) (v := ?_) (a' := ?_) #[true, true, true, true, true, true, true, true, true, true, true, false, false, false, false, false] rfl rfl (by kernel_rfl) (fun _ _ _ h => h) (Or.inl ⟨by rfl, ?_⟩) ?_ ?_
  rotate_left
  · intro w'
    go_simp
    with_reducible rfl
  rotate_left
  · simp only [Act.put, List.setIfInBounds_toArray, List.set_cons_zero, List.set_cons_succ, i64_w, i32_w]
    rfl
  refine pure_ (i := 11) (N := some 31) (v := ?_) (a' := ?_) #[true, true, true, true, true, true, true, true, true, true, true, true, false, false, false, false] rfl rfl (by kernel_rfl) (fun _ _ _ h => h) (Or.inl ⟨by rfl, ?_⟩) ?_ ?_
  rotate_left
  · intro w'
    go_simp
    with_reducible rfl
  rotate_left
  · simp only [Act.put, List.setIfInBounds_toArray, List.set_cons_zero, List.set_cons_succ, i64_w, i32_w]
    rfl
  refine pure_ (i := 12) (N := some 32) (v := ?_) (a' := ?_) #[true, true, true, true, true, true, true, true, true, true, true, true, true, false, false, false] rfl rfl (by kernel_rfl) (fun _ _ _ h => h) (Or.inl ⟨by rfl, ?_⟩) ?_ ?_
  rotate_left
  · intro w'
    go_simp
    with_reducible rfl
  rotate_left
  · simp only [Act.put, List.setIfInBounds_toArray, List.set_cons_zero, List.set_cons_succ, i64_w, i32_w]
    rfl
  refine pure_ (i := 13) (N := some 33) (v := ?_) (a' := ?_) #[true, true, true, true, true, true, true, true, true, true, true, true, true, true, false, false] rfl rfl (by kernel_rfl) (fun _ _ _ h => h) (Or.inl ⟨by rfl, ?_⟩) ?_ ?_
  rotate_left
  · intro w'
    go_simp
    with_reducible rfl
  rotate_left
  · simp only [Act.put, List.setIfInBounds_toArray, List.set_cons_zero, List.set_cons_succ, i64_w, i32_w]
    rfl
  refine pure_ (i := 14) (N := some 34) (v := ?_) (a' := ?_) #[true, true, true, true, true, true, true, true, true, true, true, true, true, true, true, false] rfl rfl (by kernel_rfl) (fun _ _ _ h => h) (Or.inl ⟨by rfl, ?_⟩) ?_ ?_
  rotate_left
  · intro w'
    go_simp
    with_reducible rfl
  rotate_left
  · simp only [Act.put, List.setIfInBounds_toArray, List.set_cons_zero, List.set_cons_succ, i64_w, i32_w]
    rfl
  have HD := Lib.hid (show ClkAt w1.drew g C from H.out)
  have HFr := Lib.hid (Fr.refl (fun k => k = g) w1).drew
  have hc0 := hHeld.1
  have hc1 := hHeld.2
  have hf0 : w1.drew.frozen? ⟨g, 7 + i * 2, none⟩ = false := blk_frozen HD.out _
  have hf1 : w1.drew.frozen? ⟨g, 7 + i * 2 + 1, none⟩ = false := blk_frozen HD.out _
  generalize w1.drew = w2 at *
  clear hHeld
  refine last_ (i := 15) (N := none) #[true, true, true, true, true, true, true, true, true, true, true, true, true, true, true, true] rfl rfl (by kernel_rfl) (by decide) (fun K hK => ?_)
  refine skip_ (w1 := (w2.setCell ⟨g, 7 + i * 2, none⟩ (.bool true)).setCell ⟨g, 7 + i * 2 + 1, none⟩ (.int .i64 (max p.2 d))) (by rfl) rfl ?_ ?_
  · go_simp
  refine hK.out _ _ ?_
  clear hK K
  refine done_ (by kernel_rfl) ?_
  have HD3 := Lib.hid (show ClkAt ((w2.setCell ⟨g, 7 + i * 2, none⟩ (.bool true)).setCell ⟨g, 7 + i * 2 + 1, none⟩ (.int .i64 (max p.2 d))) g { C with told := tell C.told i d } from by rw [Htell.out]; exact HD.out.tell i true _)
  have HF3 := Lib.hid ((HFr.out.setCell (p := ⟨g, 7 + i * 2, none⟩) (fun _ => rfl) (.bool true)).setCell (p := ⟨g, 7 + i * 2 + 1, none⟩) (fun _ => rfl) (.int .i64 (max p.2 d)))
  clear hc0 hc1 hf0 hf1
  generalize (w2.setCell ⟨g, 7 + i * 2, none⟩ (.bool true)).setCell ⟨g, 7 + i * 2 + 1, none⟩ (.int .i64 (max p.2 d)) = w3 at *
  have HCt : Hid (Ck.Ok { C with told := tell C.told i d }) := Lib.hid ⟨HC.out.first, HC.out.day, HC.out.own0, HC.out.own1, HC.out.leap0, HC.out.leap1, HC.out.q0, HC.out.q1, HC.out.ref, by rw [tell_len]; exact HC.out.len, tell_days HC.out.days (by rw [HC.out.len]; exact hi) hdd.out⟩
  go_wp2_with fail
  refine (Supported_calls g { C with told := tell C.told i d } _ HD3.out HCt.out).mono ?_
  rintro e w4 ⟨s, rfl, hs, hb⟩
  have HD4 := Lib.hid (HD3.out.below hb)
  have HF4 := Lib.hid (HF3.out.then_below hb)
  have Hs := Lib.hid hs
  have he1 : w4.cell? ⟨g, 1, none⟩ = some (.int .i64 C.day) := (blk_cell HD4.out 1).trans rfl
  have he2 : w4.cell? ⟨g, 2, none⟩ = some (.int .i64 C.own) := (blk_cell HD4.out 2).trans rfl
  have hz1 : w4.frozen? ⟨g, 1, none⟩ = false := blk_frozen HD4.out 1
  have hz2 : w4.frozen? ⟨g, 2, none⟩ = false := blk_frozen HD4.out 2
  clear hs hb
  by_cases hlt : C.day < s
  · have hh : Hid (C.heard i d s = { C with told := tell C.told i d, day := s, own := 0 }) := Lib.hid (by unfold Ck.heard; rw [if_pos hlt])
    have hdec : decide (C.day < s) = true := decide_eq_true hlt
    go_wp2_with fail
    refine bodyPost_ret (results_list (rs := [.tmp 6, .tmp 7]) rfl (by simp) (.tmp (.tmp .nil))) rfl ⟨s, ?_, Hs.out, ?_, (HF4.out.setCell (fun _ => rfl) _).setCell (fun _ => rfl) _⟩
    · rw [hh.out]; rfl
    · rw [hh.out]; exact (HD4.out.put1 s).put2 0
  · have hh : Hid (C.heard i d s = { C with told := tell C.told i d }) := Lib.hid (by unfold Ck.heard; rw [if_neg hlt])
    have hdec : decide (C.day < s) = false := decide_eq_false hlt
    go_wp2_with fail
    refine bodyPost_ret (results_list (rs := [.tmp 6, .tmp 7]) rfl (by simp) (.tmp (.tmp .nil))) rfl ⟨s, ?_, Hs.out, ?_, HF4.out⟩
    · rw [hh.out]; rfl
    · rw [hh.out]; exact HD4.out
end Go.Proofs.Ytpacadeldhcckaa.Dc
