/- The law DayclockBounded: its walk, for every day, leap, quorum, list of calls and bound, on the heap as it is. -/
import Derived.Test.YtpacadeldhcckaaDL
namespace Go.Proofs.Ytpacadeldhcckaa.Dc
open Go.RowKit Go.Proofs.YtpacadeldhcckaaW.PrintWords Go.Proofs.YtpacadeldhcckaaW.PrintLast Go.Proofs.YtpacadeldhcckaaW.PrintMore Go.Proofs.Mp
set_option linter.unusedVariables false
set_option linter.unusedSimpArgs false
attribute [local go_sem] max_ii min_ii

/-! ### plain -/
theorem nodup_sub_len : ∀ (l m : List Int), l.Nodup → (∀ x ∈ l, x ∈ m) → l.length ≤ m.length
  | [], m, _, _ => by simp
  | x :: l, m, hn, hs => by
    obtain ⟨h1, h2⟩ := List.nodup_cons.1 hn
    have hx : x ∈ m := hs x (by simp)
    have ih := nodup_sub_len l (m.erase x) h2 (fun y hy => by
      refine (List.mem_erase_of_ne (fun e => by subst e; exact h1 hy)).2 (hs y (by simp [hy])))
    rw [List.length_erase_of_mem hx] at ih
    have := List.length_pos_of_mem hx
    simp only [List.length_cons]
    omega
/-- A device that has told a day above the bound is among those of the list. -/
def Liars (bound : Int) (l : List Op3) (C : Ck) : Prop := ∀ (i : Nat) (p : Bool × Int), C.told[i]? = some p → bound < p.2 → ∃ x ∈ l, x.f0 ≠ 1 ∧ x.f1 = i ∧ bound < x.f2
theorem Liars.step {bound : Int} {l : List Op3} {C C' : Ck} {x : Op3} (h : Liars bound l C) (hs : Step1 x C C') : Liars bound (l ++ [x]) C' := by
  have hmono : Liars bound (l ++ [x]) C := fun i p h1 h3 => by
    obtain ⟨y, hy, k⟩ := h i p h1 h3
    exact ⟨y, by simp [hy], k⟩
  cases hs with
  | read h1 => exact hmono
  | none h1 hn => exact hmono
  | hear h1 i hi he hd s hsup =>
    have ht : (C.heard i x.f2 s).told = tell C.told i x.f2 := by unfold Ck.heard; split <;> rfl
    intro j p hj hb
    rw [ht] at hj
    unfold tell at hj
    rw [List.getElem?_set] at hj
    split at hj
    · rename_i hij
      subst hij
      split at hj
      · rename_i hlen
        injection hj with hj
        subst hj
        simp only at hb
        by_cases hx : bound < x.f2
        · exact ⟨x, by simp, h1, he, hx⟩
        · have hold : bound < (C.told.getD i (false, 0)).2 := by omega
          have hg : C.told[i]? = some C.told[i] := List.getElem?_eq_getElem hlen
          rw [List.getD_eq_getElem?_getD, hg] at hold
          exact hmono i _ hg hold
      · cases hj
    · exact hmono j p hj hb
theorem Liars.runs {bound : Int} {C0 C : Ck} {l : List Op3} (h0 : Liars bound [] C0) (h : Runs C0 l C) : Liars bound l C := by
  induction h with
  | nil => exact h0
  | snoc h hs ih => exact ih.step hs
theorem Liars.new {bound : Int} (hb : 0 ≤ bound) (day leap q : Int) : Liars bound [] (Ck.new day leap q) := fun i p h1 h3 => by
  have := List.mem_of_getElem? h1
  obtain rfl := List.eq_of_mem_replicate this
  simp only at h3
  omega
theorem cge_idx (l : List (Bool × Int)) (d : Int) : cge l d = ((List.range l.length).filter (fun i => (l.getD i (false, 0)).1 && decide (d ≤ (l.getD i (false, 0)).2))).length := by
  have e : l = (List.range l.length).map (fun i => l.getD i (false, 0)) := by
    apply List.ext_getElem
    · simp
    · intro i h1 h2
      simp [List.getD_eq_getElem?_getD, List.getElem?_eq_getElem h1]
  conv => lhs; rw [e]
  unfold cge
  rw [List.countP_map, List.countP_eq_length_filter]
  rfl
/-- Fewer devices than keys stand above the bound. -/
theorem Liars.count {bound : Int} {l : List Op3} {C : Ck} (h : Liars bound l C) (keys : List Int) (hk : ∀ x ∈ l, x.f0 ≠ 1 → bound < x.f2 → x.f1 ∈ keys) : cge C.told (bound + 1) ≤ keys.length := by
  rw [cge_idx]
  have hn : (((List.range C.told.length).filter (fun i => (C.told.getD i (false, 0)).1 && decide (bound + 1 ≤ (C.told.getD i (false, 0)).2))).map (fun i : Nat => (i : Int))).Nodup := by
    refine List.Pairwise.map _ (fun a b (hab : a ≠ b) => ?_) (List.nodup_range.filter _)
    omega
  have := nodup_sub_len _ keys hn (fun x hx => by
    obtain ⟨i, hi, rfl⟩ := List.mem_map.1 hx
    obtain ⟨h1, h2⟩ := List.mem_filter.1 hi
    rw [List.mem_range] at h1
    have hg : C.told[i]? = some (C.told.getD i (false, 0)) := by rw [List.getD_eq_getElem?_getD, List.getElem?_eq_getElem h1]; rfl
    simp only [Bool.and_eq_true, decide_eq_true_eq] at h2
    obtain ⟨y, hy, k1, k2, k3⟩ := h i _ hg (by omega)
    rw [← k2]
    exact hk y hy k1 k3)
  rwa [List.length_map] at this
/-- The supported day is at most the bound. -/
theorem bounded_supp {bound day leap q : Int} {l : List Op3} {C : Ck} {s : Int} (hr : Runs (Ck.new day leap q) l C) (hC : CInv C s) (hf : C.first = day) (hq : C.quorum = q) (h0 : 0 ≤ day) (hb : day ≤ bound) (keys : List Int)
    (hk : ∀ x ∈ l, x.f0 ≠ 1 → bound < x.f2 → x.f1 ∈ keys) (hlt : (keys.length : Int) < q) : s ≤ bound := by
  apply Classical.byContradiction
  intro hn
  have hc := (Liars.runs (Liars.new (by omega) day leap q) hr).count keys hk
  rcases (hC.supp (bound + 1)).1 (by omega) with h1 | h1
  · omega
  · rw [hq] at h1; omega
/-! ### the walk -/
theorem findNow_int (a : Int) : ∀ (es : List MapEntry) (i : Nat), (∀ e ∈ es, ∃ b, e.key = .int .i64 b) →
    (Instr.findNow (.int .i64) (.int .i64 a) es i = some none ∧ ∀ e ∈ es, e.key ≠ .int .i64 a) ∨ ∃ j e, Instr.findNow (.int .i64) (.int .i64 a) es i = some (some (i + j, e.val)) ∧ es[j]? = some e ∧ e.key = .int .i64 a := by
  intro es
  induction es with
  | nil => intro i _; exact .inl ⟨rfl, by simp⟩
  | cons e r ih =>
    intro i h
    obtain ⟨b, hb⟩ := h e (by simp)
    by_cases hab : a = b
    · subst hab
      exact .inr ⟨0, e, by simp [Instr.findNow, hb, Instr.sameNow], rfl, hb⟩
    · have hn : ∀ j, Instr.findNow (.int .i64) (.int .i64 a) (e :: r) j = Instr.findNow (.int .i64) (.int .i64 a) r (j + 1) := fun j => by
        have : (a == b) = false := beq_eq_false_iff_ne.2 hab
        simp [Instr.findNow, hb, Instr.sameNow, this]
      rw [hn]
      rcases ih (i + 1) (fun e he => h e (by simp [he])) with ⟨h1, h2⟩ | ⟨j, e', h1, h2, h3⟩
      · refine .inl ⟨h1, fun x hx => ?_⟩
        rcases List.mem_cons.1 hx with rfl | hx
        · rw [hb]; simp; exact fun h => hab h.symm
        · exact h2 x hx
      · exact .inr ⟨j + 1, e', by rw [h1, show i + 1 + j = i + (j + 1) from by omega], by simpa using h2, h3⟩
theorem key3 : KeyT Try.prog 3 Int (Value.int .i64) where
  inj h := by injection h
  check em w a := by kernel_rfl
  stays w a := by simp [Instr.keyThatStays, Instr.sameBits]
  find w a es h := by
    rcases findNow_int a es 0 h with ⟨h1, h2⟩ | ⟨j, e, h1, h2, h3⟩
    · exact .inl ⟨by simp [Instr.findKey, run_underlying Try.underlying3, Result.andThen, h1], h2⟩
    · exact .inr ⟨j, e, by simp [Instr.findKey, run_underlying Try.underlying3, Result.andThen, h1], h2, h3⟩

set_option maxHeartbeats 400000 in
set_option maxRecDepth 100000 in
theorem bounded_out (day leap q bound : Int) (A : Option Addr) (c k : Nat) (hk : k ≤ 9223372036854775807) (ho : 30 < k ∨ bound < day) (w : World) : Calls Try.prog 5 #[.int .i64 day, .int .i64 leap, .int .i64 q, .slice A k c, .int .i64 bound] w fun e w' => e = .returned (.bool true) ∧ Below w.heap.size w w' := by
  by_cases q1 : (30 : Int) < k
  · clear ho
    go_enter Try.func5, Try.ntmps5
    go_wp2_with fail
    refine (awake_calls _).mono ?_
    rintro e w1 ⟨rfl, hb⟩
    have B1 := Lib.hid hb
    clear hb
    go_wp2_with fail
    refine (awake_calls _).mono ?_
    rintro e w2 ⟨rfl, hb⟩
    have B2 := Lib.hid (B1.out.trans (hb.mono B1.out.size))
    clear hb
    go_wp2_with fail
    go_ret
    exact ⟨rfl, B2.out⟩
  · have q2 : bound < day := by omega
    clear ho
    go_enter Try.func5, Try.ntmps5
    go_wp2_with fail
    refine (awake_calls _).mono ?_
    rintro e w1 ⟨rfl, hb⟩
    have B1 := Lib.hid hb
    clear hb
    go_wp2_with fail
    refine (awake_calls _).mono ?_
    rintro e w2 ⟨rfl, hb⟩
    have B2 := Lib.hid (B1.out.trans (hb.mono B1.out.size))
    clear hb
    go_wp2_with fail
    go_ret
    exact ⟨rfl, B2.out⟩
set_option maxHeartbeats 1000000 in
set_option maxRecDepth 100000 in
theorem bounded_main (day leap q bound : Int) (A : Option Addr) (c : Nat) (l : List Op3) (hk : l.length ≤ 30) (hbd : ¬ bound < day) (hbi : In64 bound) (w : World) (hl : Kd.C k3 w A l.length l) (hq : ∀ p ∈ l, Q3 p) :
    Calls Try.prog 5 #[.int .i64 day, .int .i64 leap, .int .i64 q, .slice A l.length c, .int .i64 bound] w fun e w' => e = .returned (.bool true) ∧ Below w.heap.size w w' := by
  have hmm := @run_makeMap Try.prog
  have Hl := Lib.hid hl
  have Hq := Lib.hid hq
  have hkk : ¬ (30 : Int) < (l.length : Int) := by omega
  have hll : l.length ≤ 100 := by omega
  clear hl hq
  go_enter Try.func5, Try.ntmps5
  go_wp2_with fail
  refine (awake_calls _).mono ?_
  rintro e w1 ⟨rfl, hb⟩
  have B0 := Lib.hid hb
  have hmb : w.heap.size ≤ w1.heap.size := hb.size
  have B1 := Lib.hid (hb.alloc hb.size (.map #[] 0))
  have HM := Lib.hid (IsMap.made (enc := Value.int .i64) w1)
  clear hb
  go_wp2_with fail
  generalize w1.alloc (.map #[] 0) = w2 at *
  generalize hmbe : w1.heap.size = mb at *
  clear hmbe
  go_loopw [12] (fun vi wr => ∃ (i : Nat) (L : List (Int × Value)), i ≤ l.length ∧ vi = .int .i64 i ∧ Hid (IsMap (Value.int .i64) wr mb L ∧ ∀ x ∈ l.take i, x.f0 ≠ 1 → bound < x.f2 → x.f1 ∈ L.map (·.1)) ∧ Hid (Below w.heap.size w wr)) (fun vi _ => l.length - (intOf vi).toNat)
  case atStart => exact ⟨0, [], by omega, rfl, Lib.hid ⟨HM.out, by simp⟩, B1⟩
  case round =>
    obtain ⟨i, L, hi, rfl, hM, hB⟩ := hrel
    have HMa := Lib.hid hM.out
    have HB := Lib.hid hB.out
    clear hM hB HM B1
    by_cases hlt : i < l.length
    · have hdec : decide ((i : Int) < (l.length : Int)) = true := decide_eq_true (by omega)
      obtain ⟨ad, rfl, ha0, ha1, ha2⟩ := at3 (Kd.C_below Hl.out HB.out) i (by omega) (by omega)
      rw [Int.toNat_natCast] at ha0 ha1 ha2
      have hxi : rd3 l (i : Int) = l[i] := by unfold rd3; rw [Int.toNat_natCast, List.getD_eq_getElem?_getD, List.getElem?_eq_getElem hlt]; rfl
      have Htk : Hid (l.take (i + 1) = l.take i ++ [rd3 l i]) := Lib.hid (by rw [List.take_succ_eq_append_getElem hlt, ← hxi])
      clear hxi
      generalize rd3 l (i : Int) = x at *
      obtain ⟨xk, xv, xd⟩ := x
      simp only at ha0 ha1 ha2
      by_cases hc : xk ≠ 1 ∧ bound < xd
      · have hkd : (xk != 1) = true := by simp [hc.1]
        have hbd2 : decide (bound < xd) = true := decide_eq_true hc.2
        obtain ⟨o, hrun, hmap⟩ := IsMap.update key3 Try.underlying41 HMa.out.1 xv (.bool true)
        have HM2 : Hid (IsMap (Value.int .i64) (put wr mb o) mb (mset xv (.bool true) L) ∧ ∀ x ∈ l.take (i + 1), x.f0 ≠ 1 → bound < x.f2 → x.f1 ∈ (mset xv (.bool true) L).map (·.1)) := Lib.hid ⟨hmap, fun x hx h1 h2 => by
          rw [mset_keys]
          rw [Htk.out] at hx
          rcases List.mem_append.1 hx with hx | hx
          · have := HMa.out.2 x hx h1 h2
            split
            · exact List.mem_append.2 (.inl this)
            · exact this
          · simp only [List.mem_singleton] at hx
            subst hx
            split
            · simp
            · rename_i hn
              obtain ⟨u, hu⟩ := Option.ne_none_iff_exists'.1 hn
              exact List.mem_map.2 ⟨_, mget_mem hu, rfl⟩⟩
        have HB2 := Lib.hid (show Below w.heap.size w (put wr mb o) from HB.out.trans (((Fr.refl (fun i => i = mb) wr).put (fun _ => rfl) o).below HB.out.size (fun i hi e => by omega)))
        clear hc hmap
        go_wp2_with fail
        go_roundw
        case rel => exact ⟨i + 1, _, by omega, by go_num, HM2, HB2⟩
        case measure => simp [intOf]; omega
      · have HM2 : Hid (IsMap (Value.int .i64) wr mb L ∧ ∀ x ∈ l.take (i + 1), x.f0 ≠ 1 → bound < x.f2 → x.f1 ∈ L.map (·.1)) := Lib.hid ⟨HMa.out.1, fun x hx h1 h2 => by
          rw [Htk.out] at hx
          rcases List.mem_append.1 hx with hx | hx
          · exact HMa.out.2 x hx h1 h2
          · simp only [List.mem_singleton] at hx
            subst hx
            exact absurd ⟨h1, h2⟩ hc⟩
        by_cases hk1 : xk = 1
        · have hkd : (xk != 1) = false := by simp [hk1]
          clear hc hk1
          go_wp2_with fail
          go_roundw
          case rel => exact ⟨i + 1, _, by omega, by go_num, HM2, HB⟩
          case measure => simp [intOf]; omega
        · have hkd : (xk != 1) = true := by simp [hk1]
          have hbd2 : decide (bound < xd) = false := decide_eq_false (fun h => hc ⟨hk1, h⟩)
          clear hc hk1
          go_wp2_with fail
          go_roundw
          case rel => exact ⟨i + 1, _, by omega, by go_num, HM2, HB⟩
          case measure => simp [intOf]; omega
    · have hdec : decide ((i : Int) < (l.length : Int)) = false := decide_eq_false (by omega)
      obtain rfl : i = l.length := by omega
      have HMb : Hid (IsMap (Value.int .i64) wr mb L ∧ ∀ x ∈ l, x.f0 ≠ 1 → bound < x.f2 → x.f1 ∈ L.map (·.1)) := Lib.hid (by have := HMa.out; rwa [List.take_length] at this)
      clear HMa hmm
      by_cases ha : Args day leap q
      · have HRun := Lib.hid (run_yes day leap q A c l ha hll wr (Kd.C_below Hl.out HB.out) Hq.out)
        have h0 := ha.1.1
        clear ha
        go_wp2_with fail
        refine HRun.out.mono ?_
        rintro e w4 ⟨rfl, C, s, hr, hC, hf, hqq, hc, hb⟩
        have HC := Lib.hid hc
        have B4 := Lib.hid (HB.out.trans (hb.mono HB.out.size))
        have HM4 := Lib.hid (HMb.out.1.of_block (hb.block mb HMb.out.1.lt))
        have hlen := IsMap.len Try.underlying41 HM4.out #[41] rfl 3
        have HInv := Lib.hid hC
        have HSup : Hid ((L.length : Int) < q → s ≤ bound) := Lib.hid (fun hlt => bounded_supp hr hC hf hqq h0 (by omega) (L.map (·.1)) HMb.out.2 (by rw [List.length_map]; exact hlt))
        clear hr hC hf hqq hc hb HRun
        generalize hg : wr.heap.size = g at *
        clear hg
        by_cases hLq : q ≤ (L.length : Int)
        · have hd1 : decide (q ≤ (L.length : Int)) = true := decide_eq_true hLq
          go_wp2_with fail
          go_ret
          exact ⟨rfl, B4.out⟩
        · have hd1 : decide (q ≤ (L.length : Int)) = false := decide_eq_false hLq
          have hsb := HSup.out (by omega)
          have HDa := Lib.hid (fun w h => Day_calls g C w h)
          have HOw := Lib.hid (fun w h => Own_calls g C w h)
          have HSu := Lib.hid (fun w h => sp_step g C s HInv.out.supp HInv.out.ok w h)
          have hd0 := HInv.out.ok.day.1
          have hd2 := HInv.out.ok.day.2
          have ho0 := HInv.out.ok.own0
          have ho1 := HInv.out.ok.own1
          have hi2 := HInv.out.own
          generalize C.day = d2 at *
          generalize C.own = o2 at *
          have g1 : decide (s ≤ bound) = true := decide_eq_true hsb
          have hw : wrap64 (d2 - bound) = d2 - bound := wrap_in (by unfold In64 at hbi ⊢; omega)
          have g2 : decide (d2 - bound ≤ o2) = true := decide_eq_true (by omega)
          go_wp2_with fail
          refine (HSu.out _ HC.out).mono ?_
          rintro e w6 ⟨rfl, hb⟩
          have H6 := Lib.hid (HC.out.below hb)
          have B6 := Lib.hid (B4.out.trans (hb.mono B4.out.size))
          clear hb hlen
          go_wp2_with fail
          refine (HDa.out _ H6.out).mono ?_
          rintro e w7 ⟨rfl, rfl⟩
          go_wp2_with fail
          refine (HOw.out _ H6.out).mono ?_
          rintro e w8 ⟨rfl, rfl⟩
          go_wp2_with fail
          go_ret
          exact ⟨rfl, B6.out⟩
      · have HRun := Lib.hid (run_no day leap q A c l.length ha wr)
        clear ha
        go_wp2_with fail
        refine HRun.out.mono ?_
        rintro e w4 ⟨rfl, hb⟩
        have B4 := Lib.hid (HB.out.trans (hb.mono HB.out.size))
        clear hb
        go_wp2_with fail
        go_ret
        exact ⟨rfl, B4.out⟩
theorem Bounded_walk (day leap q : Int) (A : Option Addr) (c : Nat) (l : List Op3) (bound : Int) {w : World} (_ : (Lit.int .i64 day).wf = true) (_ : (Lit.int .i64 leap).wf = true) (_ : (Lit.int .i64 q).wf = true)
    (hl : Kd.C k3 w A l.length l) (hq : ∀ p ∈ l, Q3 p) (hb : (Lit.int .i64 bound).wf = true) :
    Calls Try.prog 5 #[.int .i64 day, .int .i64 leap, .int .i64 q, .slice A l.length c, .int .i64 bound] w fun e w' => e = .returned (.bool true) ∧ Below w.heap.size w w' := by
  by_cases ho : 30 < l.length ∨ bound < day
  · exact bounded_out day leap q bound A c l.length hl.2.1 ho w
  · exact bounded_main day leap q bound A c l (by omega) (by omega) (Go.bounds_i64 hb) w hl hq
end Go.Proofs.Ytpacadeldhcckaa.Dc
