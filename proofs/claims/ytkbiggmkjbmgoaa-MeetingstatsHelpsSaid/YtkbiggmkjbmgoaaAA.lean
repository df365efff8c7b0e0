/- The law MeetingstatsGrows: its walk. -/
import Derived.Test.YtkbiggmkjbmgoaaS
import Derived.Test.YtkbiggmkjbmgoaaV
import Derived.Test.YtkbiggmkjbmgoaaZ
import Derived.Test.YtkbiggmkjbmgoaaA
namespace Go.Proofs.Ytkbiggmkjbmgoaa.Bk
open Go.RowKit Go.Proofs.YtkbiggmkjbmgoaaW.PrintWords Go.Proofs.YtkbiggmkjbmgoaaW.PrintLast Go.Proofs.YtkbiggmkjbmgoaaW.PrintMore Go.Proofs.Mp
open Go.Proofs.Ytkbiggmkjbmgoaa.PMeetingstatsRates (S65 k65)
set_option linter.unusedVariables false
set_option linter.unusedSimpArgs false
attribute [local go_sem] eq23

set_option maxRecDepth 100000 in
theorem grows_long (n : Int) (A : Option Addr) (c : Nat) (k : Nat) (a b day : Int) (w : World) (hk : 60 < k) (hm : k ≤ 9223372036854775807) :
    Calls Try.prog 6 #[.int .i64 n, .slice A k c, .int .i64 a, .int .i64 b, .int .i64 day] w fun e w' => e = .returned (.bool true) ∧ Below w.heap.size w w' := by
  go_enter Try.func6, Try.ntmps6
  go_wp2_with fail
  refine (awake_calls _).mono ?_
  rintro e w1 ⟨rfl, hb⟩
  go_wp2_with fail
  go_ret
  exact ⟨rfl, hb⟩
set_option maxRecDepth 100000 in
theorem grows_bad (n : Int) (A : Option Addr) (c : Nat) (k : Nat) (a b day : Int) (w : World) (hk : ¬ 60 < k) (hn : ¬ (2 ≤ n ∧ n ≤ 12)) :
    Calls Try.prog 6 #[.int .i64 n, .slice A k c, .int .i64 a, .int .i64 b, .int .i64 day] w fun e w' => e = .returned (.bool true) ∧ Below w.heap.size w w' := by
  have hp := fun w => play_no n A k c w hn
  clear hn
  go_enter Try.func6, Try.ntmps6
  go_wp2_with fail
  refine (hp _).mono ?_
  rintro e w1 ⟨rfl, hb⟩
  clear hp
  go_wp2_with fail
  refine (awake_calls _).mono ?_
  rintro e w2 ⟨rfl, hb2⟩
  go_wp2_with fail
  go_ret
  exact ⟨rfl, hb.trans (hb2.mono hb.size)⟩

set_option maxRecDepth 100000 in
theorem grows_arg (n : Int) (A : Option Addr) (c : Nat) (l : List S65) (a b day : Int) (w : World) (hk : ¬ 60 < l.length) (h2 : 2 ≤ n) (h12 : n ≤ 12) (hl : Kd.C k65 w A l.length l) (hn : ¬ (Two n a b ∧ IsDay day)) :
    Calls Try.prog 6 #[.int .i64 n, .slice A l.length c, .int .i64 a, .int .i64 b, .int .i64 day] w fun e w' => e = .returned (.bool true) ∧ Below w.heap.size w w' := by
  have hplay := play_yes n A c l w h2 h12 hl (by omega)
  clear hl
  go_enter Try.func6, Try.ntmps6
  go_wp2_with fail
  refine hplay.mono ?_
  rintro e w1 ⟨bk, v, rfl, nn, hinv⟩
  obtain ⟨S, hbk, hok, hS, hR, hbw, hnw, hdl⟩ := hinv
  have HB1 := Lib.hid hbw
  clear hplay hbk hok hS hR hbw hnw hdl
  by_cases ht : Two n a b
  · have hd : ¬ IsDay day := fun h => hn ⟨ht, h⟩
    unfold IsDay at hd
    by_cases hd0 : day < 0
    · clear hn hd
      go_wp2_with fail
      refine (refPair_yes n a b _ ht).mono ?_
      rintro e w8 ⟨rfl, hb8⟩
      have HB8 := Lib.hid (HB1.out.trans (hb8.mono HB1.out.size))
      clear hb8
      go_wp2_with fail
      refine (awake_calls _).mono ?_
      rintro e w2 ⟨rfl, hb2⟩
      have HB2 := Lib.hid (HB8.out.trans (hb2.mono HB8.out.size))
      clear hb2
      go_wp2_with fail
      go_ret
      exact ⟨rfl, HB2.out⟩
    · have hd1 : 999999 < day := by omega
      clear hn hd
      go_wp2_with fail
      refine (refPair_yes n a b _ ht).mono ?_
      rintro e w8 ⟨rfl, hb8⟩
      have HB8 := Lib.hid (HB1.out.trans (hb8.mono HB1.out.size))
      clear hb8
      go_wp2_with fail
      refine (awake_calls _).mono ?_
      rintro e w2 ⟨rfl, hb2⟩
      have HB2 := Lib.hid (HB8.out.trans (hb2.mono HB8.out.size))
      clear hb2
      go_wp2_with fail
      go_ret
      exact ⟨rfl, HB2.out⟩
  · clear hn
    go_wp2_with fail
    refine (refPair_no n a b _ ht).mono ?_
    rintro e w8 ⟨rfl, hb8⟩
    have HB8 := Lib.hid (HB1.out.trans (hb8.mono HB1.out.size))
    clear hb8
    go_wp2_with fail
    refine (awake_calls _).mono ?_
    rintro e w2 ⟨rfl, hb2⟩
    have HB2 := Lib.hid (HB8.out.trans (hb2.mono HB8.out.size))
    clear hb2
    go_wp2_with fail
    go_ret
    exact ⟨rfl, HB2.out⟩

/-- What the loop's round finds. -/
theorem grows_facts (c : Int) (k : Nat) (h0 : 0 ≤ c) (h1 : c ≤ 32) (hk : k ≤ 12) :
    ∃ lp lq wp wq cc : Int, lp = withinN c (k - 1) ∧ lq = withinD c (k - 1) ∧ wp = withinN c k ∧ wq = withinD c k ∧ In64 lp ∧ In64 lq ∧ 0 < lq ∧ In64 wp ∧ In64 wq ∧ 0 < wq ∧ cmpI (lp * wq) (wp * lq) = cc ∧ cc ≤ 0 ∧
      (k = 0 → wp = lp ∧ wq = lq) ∧ (k = 1 → wp = redN c 32 ∧ wq = redD c 32) := by
  obtain ⟨a1, a2, a3⟩ := within_in c (k - 1) h0 h1 (by omega)
  obtain ⟨b1, b2, b3⟩ := within_in c k h0 h1 (by omega)
  refine ⟨_, _, _, _, _, rfl, rfl, rfl, rfl, a1, a2, a3, b1, b2, b3, rfl, cmpI_le ?_, ?_, ?_⟩
  · rcases Nat.eq_zero_or_pos k with rfl | hp
    · exact Int.le_refl _
    · have := within_step c (k - 1) h0 h1 (by omega)
      rwa [show k - 1 + 1 = k from by omega] at this
  · rintro rfl; exact ⟨rfl, rfl⟩
  · rintro rfl; exact within_one c

set_option maxHeartbeats 8000000 in
set_option maxRecDepth 100000 in
theorem grows_main (n : Int) (A : Option Addr) (c : Nat) (l : List S65) (a b day : Int) (w : World) (hk : ¬ 60 < l.length) (h2 : 2 ≤ n) (h12 : n ≤ 12) (hl : Kd.C k65 w A l.length l) (ht : Two n a b) (hd : IsDay day) :
    Calls Try.prog 6 #[.int .i64 n, .slice A l.length c, .int .i64 a, .int .i64 b, .int .i64 day] w fun e w' => e = .returned (.bool true) ∧ Below w.heap.size w w' := by
  have hplay := play_yes n A c l w h2 h12 hl (by omega)
  have hpn := playP_n n l
  have Hx := Lib.hid (And.intro ht hd)
  have hd' := hd
  unfold IsDay at hd'
  have hd0 : decide (day < 0) = false := decide_eq_false (by omega)
  have hd1 : decide (999999 < day) = false := decide_eq_false (by omega)
  clear hl ht hd hd'
  go_enter Try.func6, Try.ntmps6
  go_wp2_with fail
  refine hplay.mono ?_
  rintro e w1 ⟨bk, v, rfl, nn, hinv⟩
  obtain ⟨S, hbk, hok, hS, hR, hbw, hnw, hdl⟩ := hinv
  have HB1 := Lib.hid hbw
  have Hbk := Lib.hid hbk
  have Hok := Lib.hid hok
  have HT : Hid (Two (playP n l).1.n a b ∧ Two (playP n l).1.n b a) := Lib.hid (by
    rw [hpn]
    refine ⟨Hx.out.1, ?_⟩
    have := Hx.out.1
    unfold Two at *
    omega)
  generalize (playP n l).1 = B at *
  clear hplay hbk hok hS hR hbw hnw hdl hpn
  go_wp2_with fail
  refine (refPair_yes n a b _ Hx.out.1).mono ?_
  rintro e w2 ⟨rfl, hb2⟩
  have HB2 := Lib.hid (HB1.out.trans (hb2.mono HB1.out.size))
  have Hbk2 := Lib.hid (Hbk.out.below hb2)
  clear hb2 HB1 Hbk
  go_wp2_with fail
  have hr := Rate_yes bk B S b a day _ Hbk2.out Hok.out HT.out.2 Hx.out.2
  rw [show min b a = min a b from by omega, show max b a = max a b from by omega] at hr
  refine hr.mono ?_
  rintro e w3 ⟨rfl, hb3⟩
  have c0 := (recentL_bd (B.D (min a b, max a b)) day).1
  have c1 := recentL_32 _ day (Hok.out.asc (min a b, max a b))
  have HW := Lib.hid (fun (kk : Int) (h0 : 0 ≤ kk) (h1 : kk ≤ 12) w3 hw3 => (by
    have := Within_yes bk B S a b day kk.toNat w3 hw3 Hok.out HT.out.1 Hx.out.2 (by omega)
    rwa [Int.toNat_of_nonneg h0] at this : Calls Try.prog 18 #[.pointer (some ⟨bk, 0, none⟩), .int .i64 a, .int .i64 b, .int .i64 day, .int .i64 kk] w3 fun e w' =>
      e = .returned (.tuple #[.agg #[.int .i64 (withinN (recentL (B.D (min a b, max a b)) day) kk.toNat), .int .i64 (withinD (recentL (B.D (min a b, max a b)) day) kk.toNat)], .int .i64 0]) ∧ Below w3.heap.size w3 w'))
  have HF := Lib.hid (fun k hk => grows_facts (recentL (B.D (min a b, max a b)) day) k c0 c1 hk)
  have HZ := Lib.hid (within_zero (recentL (B.D (min a b, max a b)) day))
  generalize recentL (B.D (min a b, max a b)) day = rc at *
  have HB3 := Lib.hid (HB2.out.trans (hb3.mono HB2.out.size))
  have Hbk3 := Lib.hid (Hbk2.out.below hb3)
  have HB4 := Lib.hid (HB3.out.alloc HB3.out.size (.cells #[.int .i64 (redN rc 32), .int .i64 (redD rc 32)] 23))
  have Hbk4 := Lib.hid (Hbk3.out.below (Below.alloc (Below.refl _ _) (Nat.le_refl _) (.cells #[.int .i64 (redN rc 32), .int .i64 (redD rc 32)] 23)))
  have F4 := Lib.hid (Fb.new w3 (redN rc 32) (redD rc 32))
  have HZ4 : Hid ((w3.alloc (.cells #[.int .i64 (redN rc 32), .int .i64 (redD rc 32)] 23)).heap.size = w3.heap.size + 1) := Lib.hid (Array.size_push ..)
  clear hb3 HB2 Hbk2 HB3 Hbk3 c0 c1 hr
  go_wp2_with fail
  generalize w3.alloc (.cells #[.int .i64 (redN rc 32), .int .i64 (redD rc 32)] 23) = w4 at *
  have HBz := Lib.hid ((Below.refl w4.heap.size w4).alloc (Nat.le_refl _) (.cells #[.int .i64 0, .int .i64 1] 23))
  have Fz : Hid (Fb (w4.alloc (.cells #[.int .i64 0, .int .i64 1] 23)) (w3.heap.size + 1) (withinN rc ((0 : Int).toNat - 1)) (withinD rc ((0 : Int).toNat - 1))) := Lib.hid (by
    rw [show (0 : Int).toNat - 1 = 0 from rfl, HZ.out.1, HZ.out.2, ← HZ4.out]
    exact Fb.new w4 0 1)
  generalize w4.alloc (.cells #[.int .i64 0, .int .i64 1] 23) = w5 at *
  generalize hg16 : w3.heap.size + 1 = g16 at *
  generalize w3.heap.size = g14 at *
  go_loopw [17] (fun i wr => ∃ kk : Int, 0 ≤ kk ∧ kk ≤ 13 ∧ i = .int .i64 kk ∧ Hid (Below w4.heap.size w4 wr) ∧ Hid (Fb wr g16 (withinN rc (kk.toNat - 1)) (withinD rc (kk.toNat - 1)))) (fun i _ => 13 - (intOf i).toNat)
  case atStart => exact ⟨0, by omega, by omega, rfl, HBz, Fz⟩
  case round =>
    obtain ⟨kk, hk0, hk13, rfl, hbw, hfl⟩ := hrel
    by_cases h13 : kk = 13
    · subst h13
      have HBe := Lib.hid (HB4.out.trans (hbw.out.mono HB4.out.size))
      go_wp2_with fail
      refine (awake_calls _).mono ?_
      rintro e w8 ⟨rfl, hb8⟩
      have HB8 := Lib.hid (HBe.out.trans (hb8.mono HBe.out.size))
      clear hb8
      go_wp2_with fail
      go_ret
      exact ⟨rfl, HB8.out⟩
    · have h12' : kk ≤ 12 := by omega
      have hdec : decide (kk ≤ 12) = true := decide_eq_true h12'
      have hbkr := Hbk4.out.below hbw.out
      have hwc := HW.out kk hk0 h12' wr hbkr
      obtain ⟨lp, lq, wp, wq, cc, e1, e2, e3, e4, i1, i2, i3, i4, i5, i6, hcc, hc0, hz0, hz1⟩ := HF.out kk.toNat (by omega)
      rw [← e3, ← e4] at hwc
      have hfl' := hfl.out
      rw [← e1, ← e2] at hfl'
      have Hfl := Lib.hid hfl'
      have Hin := Lib.hid (And.intro i1 (And.intro i2 (And.intro i3 (And.intro i4 (And.intro i5 i6)))))
      have He := Lib.hid (And.intro e3 e4)
      have Hz0 := Lib.hid hz0
      have Hz1 := Lib.hid hz1
      have Hcc := Lib.hid hcc
      have hcd : decide (0 < cc) = false := decide_eq_false (by omega)
      have Fr4 := Lib.hid (F4.out.below hbw.out)
      clear e1 e2 e3 e4 i1 i2 i3 i4 i5 i6 hcc hz0 hz1 hc0 hfl hfl' hbkr
      go_wp2_with fail
      refine hwc.mono ?_
      rintro e w6 ⟨rfl, hb6⟩
      clear hwc
      have Hb6 := Lib.hid (hbw.out.trans (hb6.mono hbw.out.size))
      have Hfl6 := Lib.hid (Hfl.out.below hb6)
      have Fr6 := Lib.hid (Fr4.out.below hb6)
      have hc0 := Hfl6.out.c0
      have hc1 := Hfl6.out.c1
      have hlt := blk_lt Hfl6.out
      clear hb6 hbw Hfl Fr4
      go_wp2_with fail
      refine (Compare_yes lp lq wp wq _ Hin.out.1 Hin.out.2.1 Hin.out.2.2.2.1 Hin.out.2.2.2.2.1 Hin.out.2.2.1 Hin.out.2.2.2.2.2).mono ?_
      rintro e w7 ⟨rfl, hb7⟩
      rw [Hcc.out]
      have Hb7 := Lib.hid ((Hb6.out.alloc Hb6.out.size (.cells #[.int .i64 wp, .int .i64 wq] 23)).trans (hb7.mono (Hb6.out.alloc Hb6.out.size (.cells #[.int .i64 wp, .int .i64 wq] 23)).size))
      have Hfl7 := Lib.hid ((Hfl6.out.alloc (.cells #[.int .i64 wp, .int .i64 wq] 23)).below hb7)
      have Fr7 := Lib.hid ((Fr6.out.alloc (.cells #[.int .i64 wp, .int .i64 wq] 23)).below hb7)
      have Fw7 := Lib.hid ((Fb.new w6 wp wq).below hb7)
      generalize w6.heap.size = g6 at *
      clear hc0 hc1 hlt hb7 Hb6 Hfl6 Fr6
      have hc0 := Hfl7.out.c0
      have hc1 := Hfl7.out.c1
      have hc2 := Fr7.out.c0
      have hc3 := Fr7.out.c1
      have hc4 := Fw7.out.c0
      have hc5 := Fw7.out.c1
      have hf0 := blk_frozen Hfl7.out 0
      have hf1 := blk_frozen Hfl7.out 1
      have Fin : Hid (∀ k2 : Int, k2 = kk + 1 → Hid (Below w4.heap.size w4 ((w7.setCell ⟨g16, 0, none⟩ (.int .i64 wp)).setCell ⟨g16, 1, none⟩ (.int .i64 wq))) ∧
          Hid (Fb ((w7.setCell ⟨g16, 0, none⟩ (.int .i64 wp)).setCell ⟨g16, 1, none⟩ (.int .i64 wq)) g16 (withinN rc (k2.toNat - 1)) (withinD rc (k2.toNat - 1)))) := Lib.hid (fun k2 h => by
        refine ⟨Lib.hid (below_set (below_set Hb7.out ?_) ?_), Lib.hid ?_⟩
        · have := HZ4.out; show w4.heap.size ≤ g16; omega
        · have := HZ4.out; show w4.heap.size ≤ g16; omega
        · rw [show k2.toNat - 1 = kk.toNat from by omega, ← He.out.1, ← He.out.2]
          exact blk_put (blk_put Hfl7.out 0 _ rfl) 1 _ rfl)
      by_cases hk0' : kk = 0
      · subst hk0'
        obtain ⟨rfl, rfl⟩ := Hz0.out rfl
        have Hx := Lib.hid (Fin.out 1 rfl)
        go_wp2_with fail
        go_roundw
        case rel => exact ⟨1, by omega, by omega, rfl, Hx.out.1, Hx.out.2⟩
        case measure => simp [intOf]
      · by_cases hk1' : kk = 1
        · subst hk1'
          obtain ⟨q1, q2⟩ := Hz1.out rfl
          rw [← q1] at hc2
          rw [← q2] at hc3
          have Hx := Lib.hid (Fin.out 2 rfl)
          rw [q1, q2] at Hx
          go_wp2_with fail
          go_roundw
          case rel => exact ⟨2, by omega, by omega, rfl, Hx.out.1, Hx.out.2⟩
          case measure => simp [intOf]
        · have hq0 : (kk == 0) = false := beq_eq_false_iff_ne.2 hk0'
          have hq1 : (kk == 1) = false := beq_eq_false_iff_ne.2 hk1'
          have Hx := Lib.hid (Fin.out (kk + 1) rfl)
          go_wp2_with fail
          go_roundw
          case rel => exact ⟨kk + 1, by omega, by omega, rfl, Hx.out.1, Hx.out.2⟩
          case measure => simp [intOf]; omega
/-- The law, as the statement's frame takes it. -/
theorem Grows_walk (n : Int) (A : Option Addr) (c : Nat) (l : List S65) (a b day : Int) {w : World} (_ : (Lit.int .i64 n).wf = true) (hl : Kd.C k65 w A l.length l) (_ : ∀ p ∈ l, Q65 p)
    (_ : (Lit.int .i64 a).wf = true) (_ : (Lit.int .i64 b).wf = true) (_ : (Lit.int .i64 day).wf = true) :
    Calls Try.prog 6 #[.int .i64 n, .slice A l.length c, .int .i64 a, .int .i64 b, .int .i64 day] w fun e w' => e = .returned (.bool true) ∧ Below w.heap.size w w' := by
  by_cases hk : 60 < l.length
  · exact grows_long n A c l.length a b day w hk hl.2.1
  · by_cases hn : 2 ≤ n ∧ n ≤ 12
    · by_cases ha : Two n a b ∧ IsDay day
      · exact grows_main n A c l a b day w hk hn.1 hn.2 hl ha.1 ha.2
      · exact grows_arg n A c l a b day w hk hn.1 hn.2 hl ha
    · exact grows_bad n A c l.length a b day w hk hn
end Go.Proofs.Ytkbiggmkjbmgoaa.Bk
