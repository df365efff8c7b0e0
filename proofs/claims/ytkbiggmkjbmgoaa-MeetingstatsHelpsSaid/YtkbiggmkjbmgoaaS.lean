/- The law MeetingstatsRates: its walk. -/
import Derived.Test.YtkbiggmkjbmgoaaR
namespace Go.Proofs.Ytkbiggmkjbmgoaa.Bk
open Go.RowKit Go.Proofs.YtkbiggmkjbmgoaaW.PrintWords Go.Proofs.YtkbiggmkjbmgoaaW.PrintLast Go.Proofs.YtkbiggmkjbmgoaaW.PrintMore Go.Proofs.Mp
open Go.Proofs.Ytkbiggmkjbmgoaa.PMeetingstatsRates
set_option linter.unusedVariables false
set_option linter.unusedSimpArgs false
attribute [local go_sem] eq23

set_option maxRecDepth 100000 in
theorem rates_long (n : Int) (A : Option Addr) (c : Nat) (k : Nat) (a b day days : Int) (w : World) (hk : 60 < k) (hm : k ≤ 9223372036854775807) :
    Calls Try.prog 4 #[.int .i64 n, .slice A k c, .int .i64 a, .int .i64 b, .int .i64 day, .int .i64 days] w fun e w' => e = .returned (.bool true) ∧ Below w.heap.size w w' := by
  go_enter Try.func4, Try.ntmps4
  go_wp2_with fail
  refine (awake_calls _).mono ?_
  rintro e w1 ⟨rfl, hb⟩
  go_wp2_with fail
  go_ret
  exact ⟨rfl, hb⟩
set_option maxRecDepth 100000 in
theorem rates_bad (n : Int) (A : Option Addr) (c : Nat) (k : Nat) (a b day days : Int) (w : World) (hk : ¬ 60 < k) (hn : ¬ (2 ≤ n ∧ n ≤ 12)) :
    Calls Try.prog 4 #[.int .i64 n, .slice A k c, .int .i64 a, .int .i64 b, .int .i64 day, .int .i64 days] w fun e w' => e = .returned (.bool true) ∧ Below w.heap.size w w' := by
  have hp := fun w => play_no n A k c w hn
  clear hn
  go_enter Try.func4, Try.ntmps4
  go_wp2_with fail
  refine (hp _).mono ?_
  rintro e w1 ⟨rfl, hb⟩
  clear hp
  go_wp2_with fail
  refine (awake_calls _).mono ?_
  rintro e w2 ⟨rfl, hb2⟩
  go_wp2_with fail
  go_ret
  exact ⟨rfl, hb.trans (hb2.mono hb.size)⟩

/-- Blocks that hold fractions. -/
def Fb (w : World) (g : Nat) (p q : Int) : Prop := w.heap[g]? = some (.cells #[.int .i64 p, .int .i64 q] 23 (0, 0))
theorem Fb.below {w w' : World} {g : Nat} {p q : Int} (h : Fb w g p q) (hb : Below w.heap.size w w') : Fb w' g p q := blk_below h hb
theorem Fb.c0 {w : World} {g : Nat} {p q : Int} (h : Fb w g p q) : w.cell? ⟨g, 0, none⟩ = some (.int .i64 p) := (blk_cell h 0).trans rfl
theorem Fb.c1 {w : World} {g : Nat} {p q : Int} (h : Fb w g p q) : w.cell? ⟨g, 1, none⟩ = some (.int .i64 q) := (blk_cell h 1).trans rfl
theorem Fb.new (w : World) (p q : Int) : Fb (w.alloc (.cells #[.int .i64 p, .int .i64 q] 23)) w.heap.size p q := blk_new w _
theorem Fb.alloc {w : World} {g : Nat} {p q : Int} (h : Fb w g p q) (o : Obj) : Fb (w.alloc o) g p q := blk_alloc h o
theorem Fb.drew {w : World} {g : Nat} {p q : Int} (h : Fb w g p q) : Fb w.drew g p q := h

theorem Expected_any (b : Nat) (B : Book) (x y d : Int) (hB : B.Ok) (ht : Two B.n x y) (hd : IsDay d) :
    ∃ p q r : Int, ((recentL (B.D (min x y, max x y)) d = 0 ∧ p = 0 ∧ q = 0 ∧ r = 4) ∨ (0 < recentL (B.D (min x y, max x y)) d ∧ p = redN 32 (recentL (B.D (min x y, max x y)) d) ∧ q = redD 32 (recentL (B.D (min x y, max x y)) d) ∧ r = 0)) ∧
      ∀ (w : World) (S : Nat → Prop), BookAt w b B S → Calls Try.prog 17 #[.pointer (some ⟨b, 0, none⟩), .int .i64 x, .int .i64 y, .int .i64 d] w fun e w' => e = .returned (.tuple #[.agg #[.int .i64 p, .int .i64 q], .int .i64 r]) ∧ Below w.heap.size w w' := by
  by_cases h0 : recentL (B.D (min x y, max x y)) d = 0
  · exact ⟨0, 0, 4, .inl ⟨h0, rfl, rfl, rfl⟩, fun w S h => Expected_zero b B S x y d w h hB ht hd h0⟩
  · have h1 : 0 < recentL (B.D (min x y, max x y)) d := by have := (recentL_bd (B.D (min x y, max x y)) d).1; omega
    exact ⟨_, _, 0, .inr ⟨h1, rfl, rfl, rfl⟩, fun w S h => Expected_yes b B S x y d w h hB ht hd h1⟩
theorem Within_any (b : Nat) (B : Book) (x y d e0 : Int) (hB : B.Ok) (ht : Two B.n x y) (hd : IsDay d) :
    ∃ p q r : Int, (((e0 < 0 ∨ 12 < e0) ∧ p = 0 ∧ q = 0 ∧ r = 1) ∨ (0 ≤ e0 ∧ e0 ≤ 12 ∧ p = withinN (recentL (B.D (min x y, max x y)) d) e0.toNat ∧ q = withinD (recentL (B.D (min x y, max x y)) d) e0.toNat ∧ r = 0)) ∧
      ∀ (w : World) (S : Nat → Prop), BookAt w b B S → Calls Try.prog 18 #[.pointer (some ⟨b, 0, none⟩), .int .i64 x, .int .i64 y, .int .i64 d, .int .i64 e0] w fun e w' => e = .returned (.tuple #[.agg #[.int .i64 p, .int .i64 q], .int .i64 r]) ∧ Below w.heap.size w w' := by
  by_cases h0 : e0 < 0 ∨ 12 < e0
  · exact ⟨0, 0, 1, .inl ⟨h0, rfl, rfl, rfl⟩, fun w S h => Within_out b B S x y d e0 w h hB ht hd h0⟩
  · obtain ⟨m, rfl⟩ := Int.eq_ofNat_of_zero_le (show 0 ≤ e0 by omega)
    exact ⟨_, _, 0, .inr ⟨by omega, by omega, rfl, rfl, rfl⟩, fun w S h => Within_yes b B S x y d m w h hB ht hd (by omega)⟩

set_option maxRecDepth 100000 in
theorem rates_arg (n : Int) (A : Option Addr) (c : Nat) (l : List S65) (a b day days : Int) (w : World) (hk : ¬ 60 < l.length) (h2 : 2 ≤ n) (h12 : n ≤ 12) (hl : Kd.C k65 w A l.length l) (hn : ¬ (Two n a b ∧ IsDay day)) :
    Calls Try.prog 4 #[.int .i64 n, .slice A l.length c, .int .i64 a, .int .i64 b, .int .i64 day, .int .i64 days] w fun e w' => e = .returned (.bool true) ∧ Below w.heap.size w w' := by
  have hplay := play_yes n A c l w h2 h12 hl (by omega)
  have Hn := Lib.hid (playP_n n l)
  clear hl
  go_enter Try.func4, Try.ntmps4
  go_wp2_with fail
  refine hplay.mono ?_
  rintro e w1 ⟨bk, v, rfl, nn, hinv⟩
  obtain ⟨S, hbk, hok, hS, hR, hbw, hnw, hdl⟩ := hinv
  obtain ⟨Av, cv, rfl, hcv, hCv⟩ := Kd.R_reads hR
  have Hbk := Lib.hid hbk
  have HB1 := Lib.hid hbw
  clear hplay hbk hok hS hR hbw hnw hCv hdl
  have hnn : Hid (¬ (Two (playP n l).1.n a b ∧ IsDay day)) := Lib.hid (by rw [Hn.out]; exact hn)
  go_wp2_with fail
  refine (Rate_no bk _ S a b day _ Hbk.out hnn.out).mono ?_
  rintro e w2 ⟨rfl, hb2⟩
  have HB2 := Lib.hid ((HB1.out.trans (hb2.mono HB1.out.size)).alloc (HB1.out.trans (hb2.mono HB1.out.size)).size (.cells #[.int .i64 0, .int .i64 0] 23))
  have hbk2 := Lib.hid ((Hbk.out.below hb2).below (Below.alloc (Below.refl _ _) (Nat.le_refl _) (.cells #[.int .i64 0, .int .i64 0] 23)))
  have F2 := Lib.hid (Fb.new w2 0 0)
  clear hb2 HB1 Hbk
  go_wp2_with fail
  generalize w2.alloc (.cells #[.int .i64 0, .int .i64 0] 23) = w3 at *
  refine (Expected_no bk _ S a b day _ hbk2.out hnn.out).mono ?_
  rintro e w4 ⟨rfl, hb4⟩
  have HB4 := Lib.hid ((HB2.out.trans (hb4.mono HB2.out.size)).alloc (HB2.out.trans (hb4.mono HB2.out.size)).size (.cells #[.int .i64 0, .int .i64 0] 23))
  have hbk4 := Lib.hid ((hbk2.out.below hb4).below (Below.alloc (Below.refl _ _) (Nat.le_refl _) (.cells #[.int .i64 0, .int .i64 0] 23)))
  have F24 := Lib.hid ((F2.out.below hb4).alloc (.cells #[.int .i64 0, .int .i64 0] 23))
  have F4 := Lib.hid (Fb.new w4 0 0)
  clear hb4 HB2 hbk2 F2
  go_wp2_with fail
  generalize w4.alloc (.cells #[.int .i64 0, .int .i64 0] 23) = w5 at *
  refine (Within_no bk _ S a b day days _ hbk4.out hnn.out).mono ?_
  rintro e w6 ⟨rfl, hb6⟩
  have HB6 := Lib.hid (HB4.out.trans (hb6.mono HB4.out.size))
  have F26 := Lib.hid (F24.out.below hb6)
  have F46 := Lib.hid (F4.out.below hb6)
  clear hb6 HB4 hbk4 F24 F4 hnn
  go_upto_region 10 with (fail)
  have HB7 := Lib.hid ((HB6.out.alloc HB6.out.size (.cells #[.int .i64 0, .int .i64 0] 23)).alloc (HB6.out.alloc HB6.out.size (.cells #[.int .i64 0, .int .i64 0] 23)).size (.cells #[.int .i64 0, .int .i64 0] 23))
  have F27 := Lib.hid ((F26.out.alloc (.cells #[.int .i64 0, .int .i64 0] 23)).alloc (.cells #[.int .i64 0, .int .i64 0] 23))
  have F47 := Lib.hid ((F46.out.alloc (.cells #[.int .i64 0, .int .i64 0] 23)).alloc (.cells #[.int .i64 0, .int .i64 0] 23))
  have F67 := Lib.hid ((Fb.new w6 0 0).alloc (.cells #[.int .i64 0, .int .i64 0] 23))
  have F77 := Lib.hid (show Fb ((w6.alloc (.cells #[.int .i64 0, .int .i64 0] 23)).alloc (.cells #[.int .i64 0, .int .i64 0] 23)) (w6.heap.size + 1) 0 0 from by
    have := Fb.new (w6.alloc (.cells #[.int .i64 0, .int .i64 0] 23)) 0 0
    simpa using this)
  clear HB6 F26 F46
  generalize (w6.alloc (.cells #[.int .i64 0, .int .i64 0] 23)).alloc (.cells #[.int .i64 0, .int .i64 0] 23) = w7 at *
  go_cut [83] (fun v83 wc => v83 = .bool true ∧ Hid (Below w7.heap.size w7 wc))
  case first =>
    by_cases ht : Two n a b
    · have hd : ¬ IsDay day := fun h => hn ⟨ht, h⟩
      unfold IsDay at hd
      by_cases hd0 : day < 0
      · go_wp2_with fail
        refine (refPair_yes n a b _ ht).mono ?_
        rintro e w8 ⟨rfl, hb8⟩
        have HB8 := Lib.hid hb8
        clear hb8 hd
        go_wp2_with fail
        go_meet
        case rel => exact ⟨rfl, HB8⟩
      · have hd1 : 999999 < day := by omega
        go_wp2_with fail
        refine (refPair_yes n a b _ ht).mono ?_
        rintro e w8 ⟨rfl, hb8⟩
        have HB8 := Lib.hid hb8
        clear hb8 hd
        go_wp2_with fail
        go_meet
        case rel => exact ⟨rfl, HB8⟩
    · go_wp2_with fail
      refine (refPair_no n a b _ ht).mono ?_
      rintro e w8 ⟨rfl, hb8⟩
      have HB8 := Lib.hid hb8
      clear hb8
      go_wp2_with fail
      go_meet
      case rel => exact ⟨rfl, HB8⟩
  case rest =>
    obtain ⟨rfl, HB8⟩ := hcut
    go_wp2_with fail
    refine (awake_calls _).mono ?_
    rintro e w9 ⟨rfl, hb9⟩
    have hb79 := HB8.out.trans (hb9.mono HB8.out.size)
    have a0 := (F27.out.below hb79).c0
    have a1 := (F27.out.below hb79).c1
    have b0 := (F47.out.below hb79).c0
    have b1 := (F47.out.below hb79).c1
    have c0 := (F67.out.below hb79).c0
    have c1 := (F67.out.below hb79).c1
    have d0 := (F77.out.below hb79).c0
    have d1 := (F77.out.below hb79).c1
    have HB9 := Lib.hid (HB7.out.trans (hb79.mono HB7.out.size))
    clear hb79 hb9 HB8
    go_wp2_with fail
    go_ret
    exact ⟨rfl, HB9.out⟩

/-- From region 12 on, all that is left is read of four blocks, the slice and the book's numbers. -/
theorem recentL_eq (n : Int) (h2 : 2 ≤ n) (h12 : n ≤ 12) (l : List S65) (a b day : Int) (hab : a ≠ b) : recentL (daysL (playP n l).2 a b) day = recentL ((playP n l).1.D (min a b, max a b)) day := by
  rw [(playP_inv n h2 h12 l).2 a b hab]
theorem daysL_len (l : List S65) (a b : Int) : (daysL l a b).length ≤ l.length := by
  unfold daysL
  suffices ∀ (l : List S65) (out : List Int), (l.foldl (daysStep a b) out).length ≤ out.length + l.length by
    have := this l []
    simpa using this
  intro l
  induction l with
  | nil => intro out; simp
  | cons x r ih =>
    intro out
    rw [List.foldl_cons]
    have := ih (daysStep a b out x)
    have := daysStep_len a b out x
    simp only [List.length_cons]
    omega

set_option maxRecDepth 100000 in
set_option maxHeartbeats 8000000 in
theorem rates_main (n : Int) (A : Option Addr) (c : Nat) (l : List S65) (a b day days : Int) (w : World) (hk : ¬ 60 < l.length) (h2 : 2 ≤ n) (h12 : n ≤ 12) (hl : Kd.C k65 w A l.length l) (ht : Two n a b) (hd : IsDay day) :
    Calls Try.prog 4 #[.int .i64 n, .slice A l.length c, .int .i64 a, .int .i64 b, .int .i64 day, .int .i64 days] w fun e w' => e = .returned (.bool true) ∧ Below w.heap.size w w' := by
  have hplay := play_yes n A c l w h2 h12 hl (by omega)
  have hn := playP_n n l
  have hB := (playP_inv n h2 h12 l).1
  have hrec := recentL_eq n h2 h12 l a b day ht.2.2
  have htB : Two (playP n l).1.n a b := by rw [hn]; exact ht
  have hcb := (recentL_bd ((playP n l).1.D (min a b, max a b)) day).1
  have hc32 := recentL_32 _ day (hB.asc (min a b, max a b))
  have hd0 := hd.1
  have hd1 := hd.2
  have hx0 : decide (day < 0) = false := decide_eq_false (by omega)
  have hx1 : decide (999999 < day) = false := decide_eq_false (by omega)
  have hdl2 := daysL_len (playP n l).2 a b
  clear hl
  go_enter Try.func4, Try.ntmps4
  go_wp2_with fail
  refine hplay.mono ?_
  rintro e w1 ⟨bk, v, rfl, nn, hinv⟩
  obtain ⟨S, hbk, hok, hS, hR, hbw, hnw, hdl⟩ := hinv
  obtain ⟨Av, cv, rfl, hcv, hCv⟩ := Kd.R_reads hR
  obtain ⟨ep, eq, er, hE, hEc⟩ := Expected_any bk (playP n l).1 a b day hB htB hd
  obtain ⟨wp, wq, wr, hW, hWc⟩ := Within_any bk (playP n l).1 a b day days hB htB hd
  have hRc := fun W h => Rate_yes bk (playP n l).1 S a b day W h hB htB hd
  generalize recentL ((playP n l).1.D (min a b, max a b)) day = rc at *
  have Hbk := Lib.hid hbk
  have HB1 := Lib.hid hbw
  have HC1 := Lib.hid hCv
  have HE := Lib.hid hE
  have HW := Lib.hid hW
  have HEc := Lib.hid hEc
  have HWc := Lib.hid hWc
  have HRc := Lib.hid hRc
  have Hrec := Lib.hid hrec
  have Hx := Lib.hid (And.intro ht hd)
  clear hplay hbk hok hS hR hbw hnw hCv hE hW hEc hWc hRc hrec hn hB htB ht hd
  generalize (playP n l).2 = dn at *
  generalize (playP n l).1 = bo at *
  go_wp2_with fail
  refine (HRc.out _ Hbk.out).mono ?_
  rintro e w2 ⟨rfl, hb2⟩
  generalize hRn : redN rc 32 = rn at *
  generalize hRd : redD rc 32 = rd at *
  have HRn := Lib.hid (And.intro hRn hRd)
  have hb2' := HB1.out.trans (hb2.mono HB1.out.size)
  have HB2 := Lib.hid (hb2'.alloc hb2'.size (.cells #[.int .i64 rn, .int .i64 rd] 23))
  have hbk2 := Lib.hid ((Hbk.out.below hb2).below (Below.alloc (Below.refl _ _) (Nat.le_refl _) (.cells #[.int .i64 rn, .int .i64 rd] 23)))
  have HC2 := Lib.hid (Kd.C_alloc (Kd.C_below HC1.out hb2) (.cells #[.int .i64 rn, .int .i64 rd] 23))
  have F2 := Lib.hid (Fb.new w2 rn rd)
  clear hb2 hb2' HB1 Hbk HC1 hRn hRd
  go_wp2_with fail
  generalize w2.alloc (.cells #[.int .i64 rn, .int .i64 rd] 23) = w3 at *
  refine (HEc.out _ S hbk2.out).mono ?_
  rintro e w4 ⟨rfl, hb4⟩
  have hb4' := HB2.out.trans (hb4.mono HB2.out.size)
  have HB4 := Lib.hid (hb4'.alloc hb4'.size (.cells #[.int .i64 ep, .int .i64 eq] 23))
  have hbk4 := Lib.hid ((hbk2.out.below hb4).below (Below.alloc (Below.refl _ _) (Nat.le_refl _) (.cells #[.int .i64 ep, .int .i64 eq] 23)))
  have HC4 := Lib.hid (Kd.C_alloc (Kd.C_below HC2.out hb4) (.cells #[.int .i64 ep, .int .i64 eq] 23))
  have F24 := Lib.hid ((F2.out.below hb4).alloc (.cells #[.int .i64 ep, .int .i64 eq] 23))
  have F4 := Lib.hid (Fb.new w4 ep eq)
  clear hb4 hb4' HB2 hbk2 F2 HC2
  go_wp2_with fail
  generalize w4.alloc (.cells #[.int .i64 ep, .int .i64 eq] 23) = w5 at *
  refine (HWc.out _ S hbk4.out).mono ?_
  rintro e w6 ⟨rfl, hb6⟩
  have HB6 := Lib.hid (HB4.out.trans (hb6.mono HB4.out.size))
  have HC6 := Lib.hid (Kd.C_below HC4.out hb6)
  have F26 := Lib.hid (F24.out.below hb6)
  have F46 := Lib.hid (F4.out.below hb6)
  clear hb6 HB4 hbk4 F24 F4 HC4
  go_upto_region 10 with (fail)
  have HB7 := Lib.hid ((HB6.out.alloc HB6.out.size (.cells #[.int .i64 wp, .int .i64 wq] 23)).alloc (HB6.out.alloc HB6.out.size (.cells #[.int .i64 wp, .int .i64 wq] 23)).size (.cells #[.int .i64 0, .int .i64 0] 23))
  have HC7 := Lib.hid (Kd.C_alloc (Kd.C_alloc HC6.out (.cells #[.int .i64 wp, .int .i64 wq] 23)) (.cells #[.int .i64 0, .int .i64 0] 23))
  have F27 := Lib.hid ((F26.out.alloc (.cells #[.int .i64 wp, .int .i64 wq] 23)).alloc (.cells #[.int .i64 0, .int .i64 0] 23))
  have F47 := Lib.hid ((F46.out.alloc (.cells #[.int .i64 wp, .int .i64 wq] 23)).alloc (.cells #[.int .i64 0, .int .i64 0] 23))
  have F67 := Lib.hid ((Fb.new w6 wp wq).alloc (.cells #[.int .i64 0, .int .i64 0] 23))
  have F77 := Lib.hid (show Fb ((w6.alloc (.cells #[.int .i64 wp, .int .i64 wq] 23)).alloc (.cells #[.int .i64 0, .int .i64 0] 23)) (w6.heap.size + 1) 0 0 from by
    have := Fb.new (w6.alloc (.cells #[.int .i64 wp, .int .i64 wq] 23)) 0 0
    simpa using this)
  clear HB6 F26 F46 HC6 HEc HWc HRc
  generalize (w6.alloc (.cells #[.int .i64 wp, .int .i64 wq] 23)).alloc (.cells #[.int .i64 0, .int .i64 0] 23) = w7 at *
  go_wp2_with fail
  refine (refPair_yes n a b _ Hx.out.1).mono ?_
  rintro e w8 ⟨rfl, hb8⟩
  have HB8 := Lib.hid hb8
  clear hb8
  go_wp2_with fail
  refine (refDays Av cv dn a b _ (Kd.C_below HC7.out HB8.out) hcv (by omega)).mono ?_
  rintro e w9 ⟨vd, rfl, hRd9, hb9⟩
  obtain ⟨Ad, cd, rfl, hcd, hCd⟩ := Kd.R_reads hRd9
  have HCd := Lib.hid hCd
  have HB9 := Lib.hid (HB8.out.trans (hb9.mono HB8.out.size))
  clear hb9 hRd9 hCd HB8
  go_wp2_with fail
  refine (refRecent Ad cd (daysL dn a b) day _ HCd.out hcd (by omega) Hx.out.2).mono ?_
  rintro e w10 ⟨rfl, hb10⟩
  rw [Hrec.out]
  have HB10 := Lib.hid (HB9.out.trans (hb10.mono HB9.out.size))
  clear hb10 HB9
  have HL1 : Hid (∀ w, Calls Try.prog 14 #[.int .i64 rc, .int .i64 32] w fun e w' => e = .returned (.agg #[.int .i64 rn, .int .i64 rd]) ∧ Below w.heap.size w w') := Lib.hid (fun w => by
    have := Lowest_yes rc 32 w hcb (by unfold In64; omega) (by omega) (by unfold In64; omega)
    rwa [HRn.out.1, HRn.out.2] at this)
  go_upto_region 13 with (fail)
  go_cut [125] (fun v wc => v = .bool false ∧ Hid (Below w7.heap.size w7 wc))
  case first =>
    have hc0 := (F27.out.below HB10.out).c0
    have hc1 := (F27.out.below HB10.out).c1
    have hb10d := Lib.hid HB10.out.drew
    refine start_ (n := 8) (S := fun W => W.cell? ⟨w2.heap.size, 0, none⟩ = some (.int .i64 rn) ∧ W.cell? ⟨w2.heap.size, 1, none⟩ = some (.int .i64 rd)) (ds := []) #[false, false, false, false, false, false, false, false] (by kernel_rfl) rfl rfl ⟨hc0, hc1⟩ (fun hHeld => ?_)
    clear hc0 hc1 HB10
    generalize w10.drew = w11 at *
    refine pure_ (i := 0) (N := some 118) (v := ?_) (a' := ?_) #[true, false, false, false, false, false, false, false] rfl rfl (by kernel_rfl) (fun _ _ _ h => h) (Or.inl ⟨by rfl, ?_⟩) ?_ ?_
    rotate_left
    · intro w'
      go_simp
      with_reducible rfl
    rotate_left
    · simp only [Act.put, List.setIfInBounds_toArray, List.set_cons_zero, List.set_cons_succ, i64_w, i32_w]
      rfl
    refine pure_ (i := 1) (N := some 119) (v := ?_) (a' := ?_) #[true, true, false, false, false, false, false, false] rfl rfl (by kernel_rfl) (fun _ _ _ h => h) (Or.inl ⟨by rfl, ?_⟩) ?_ ?_
    rotate_left
    · intro w'
      go_simp
      with_reducible rfl
    rotate_left
    · simp only [Act.put, List.setIfInBounds_toArray, List.set_cons_zero, List.set_cons_succ, i64_w, i32_w]
      rfl
    refine pure_ (i := 2) (N := some 120) (v := ?_) (a' := ?_) #[true, true, true, false, false, false, false, false] rfl rfl (by kernel_rfl) (fun _ _ _ h => h) (Or.inl ⟨by rfl, ?_⟩) ?_ ?_
    rotate_left
    · intro w'
      go_simp
      with_reducible rfl
    rotate_left
    · simp only [Act.put, List.setIfInBounds_toArray, List.set_cons_zero, List.set_cons_succ, i64_w, i32_w]
      rfl
    refine pure_ (i := 4) (N := some 122) (v := ?_) (a' := ?_) #[true, true, true, false, true, false, false, false] rfl rfl (by kernel_rfl) (fun _ _ _ h => h) (Or.inl ⟨by rfl, ?_⟩) ?_ ?_
    rotate_left
    · intro w'
      go_simp
      with_reducible rfl
    rotate_left
    · simp only [Act.put, List.setIfInBounds_toArray, List.set_cons_zero, List.set_cons_succ, i64_w, i32_w]
      rfl
    refine take_ (i := 3) (N := some 121) (v := ?_) (a' := ?_) #[true, true, true, true, true, false, false, false] rfl rfl (by kernel_rfl) (fun _ _ _ h => h) (Or.inl ⟨by rfl, ?_⟩) hHeld ?_ ?_
    rotate_left
    · rintro w' ⟨s0, s1⟩
      go_simp
      with_reducible rfl
    rotate_left
    · simp only [Act.put, List.setIfInBounds_toArray, List.set_cons_zero, List.set_cons_succ, i64_w, i32_w]
      rfl
    refine one_ (i := 5) (N := some 123) #[true, true, true, true, true, true, false, false] rfl rfl (by kernel_rfl) (by decide) (fun K hK => ?_)
    refine goes_ Try.func14 (by kernel_rfl) rfl #[.int .i64 rc, .int .i64 32] (by rfl) rfl rfl (by (try simp only [List.map_toArray, List.map_cons, List.map_nil]); first | done | rfl) ?_
    refine (HL1.out w11).mono ?_
    rintro e w12 ⟨rfl, hb12⟩
    have HB12 := Lib.hid (hb10d.out.trans (hb12.mono hb10d.out.size))
    refine ⟨_, rfl, hK.out _ _ ⟨pw_cell_below hb12 hHeld.1, pw_cell_below hb12 hHeld.2⟩ (fun hHeld => ?_)⟩
    clear hK K hb12
    refine norm_ (a' := ?_) ?_ ?_
    rotate_left
    · simp only [Act.put, List.setIfInBounds_toArray, List.set_cons_zero, List.set_cons_succ, i64_w, i32_w]
      rfl
    refine pure_ (i := 6) (N := some 124) (v := ?_) (a' := ?_) #[true, true, true, true, true, true, true, false] rfl rfl (by kernel_rfl) (fun _ _ _ h => h) (Or.inl ⟨by rfl, ?_⟩) ?_ ?_
    rotate_left
    · intro w'
      go_simp
      with_reducible rfl
    rotate_left
    · simp only [Act.put, List.setIfInBounds_toArray, List.set_cons_zero, List.set_cons_succ, i64_w, i32_w]
      rfl
    refine pure_ (i := 7) (N := some 125) (v := ?_) (a' := ?_) #[true, true, true, true, true, true, true, true] rfl rfl (by kernel_rfl) (fun _ _ _ h => h) (Or.inl ⟨by rfl, ?_⟩) ?_ ?_
    rotate_left
    · intro w'
      go_simp
      with_reducible rfl
    rotate_left
    · simp only [Act.put, List.setIfInBounds_toArray, List.set_cons_zero, List.set_cons_succ, i64_w, i32_w]
      rfl
    refine done_ (by kernel_rfl) ?_
    go_wp2_with fail
    go_meet
    case rel => exact ⟨rfl, HB12⟩
  case rest =>
    clear HB10
    obtain ⟨rfl, HB13⟩ := hcut
    go_upto_region 15 with (fail)
    go_cut [150] (fun v wc2 => v = .bool false ∧ Hid (Below w7.heap.size w7 wc2))
    case first =>
      have hc0 := (F47.out.below HB13.out).c0
      have hc1 := (F47.out.below HB13.out).c1
      have hz0 := (F77.out.below HB13.out).c0
      have hz1 := (F77.out.below HB13.out).c1
      have hb13d := Lib.hid HB13.out.drew
      rcases HE.out with ⟨rfl, rfl, rfl, rfl⟩ | ⟨hpos, hep, heq, rfl⟩
      · skip
        refine start_ (n := 25) (S := fun W => W.cell? ⟨w4.heap.size, 0, none⟩ = some (.int .i64 0) ∧ W.cell? ⟨w4.heap.size, 1, none⟩ = some (.int .i64 0) ∧ W.cell? ⟨w6.heap.size + 1, 0, none⟩ = some (.int .i64 0) ∧ W.cell? ⟨w6.heap.size + 1, 1, none⟩ = some (.int .i64 0)) (ds := []) #[false, false, false, false, false, false, false, false, false, false, false, false, false, false, false, false, false, false, false, false, false, false, false, false, false] (by kernel_rfl) rfl rfl ⟨hc0, hc1, hz0, hz1⟩ (fun hHeld => ?_)
        clear hc0 hc1 hz0 hz1 HB13
        generalize wc.drew = w14 at *
        refine pure_ (i := 0) (N := some 126) (v := ?_) (a' := ?_) #[true, false, false, false, false, false, false, false, false, false, false, false, false, false, false, false, false, false, false, false, false, false, false, false, false] rfl rfl (by kernel_rfl) (fun _ _ _ h => h) (Or.inl ⟨by rfl, ?_⟩) ?_ ?_
        rotate_left
        · intro w'
          go_simp
          with_reducible rfl
        rotate_left
        · simp only [Act.put, List.setIfInBounds_toArray, List.set_cons_zero, List.set_cons_succ, i64_w, i32_w]
          rfl
        refine pure_ (i := 1) (N := some 127) (v := ?_) (a' := ?_) #[true, true, false, false, false, false, false, false, false, false, false, false, false, false, false, false, false, false, false, false, false, false, false, false, false] rfl rfl (by kernel_rfl) (fun _ _ _ h => h) (Or.inl ⟨by rfl, ?_⟩) ?_ ?_
        rotate_left
        · intro w'
          go_simp
          with_reducible rfl
        rotate_left
        · simp only [Act.put, List.setIfInBounds_toArray, List.set_cons_zero, List.set_cons_succ, i64_w, i32_w]
          rfl
        refine pure_ (i := 2) (N := some 128) (v := ?_) (a' := ?_) #[true, true, true, false, false, false, false, false, false, false, false, false, false, false, false, false, false, false, false, false, false, false, false, false, false] rfl rfl (by kernel_rfl) (fun _ _ _ h => h) (Or.inl ⟨by rfl, ?_⟩) ?_ ?_
        rotate_left
        · intro w'
          go_simp
          with_reducible rfl
        rotate_left
        · simp only [Act.put, List.setIfInBounds_toArray, List.set_cons_zero, List.set_cons_succ, i64_w, i32_w]
          rfl
        refine pure_ (i := 3) (N := some 129) (v := ?_) (a' := ?_) #[true, true, true, true, false, false, false, false, false, false, false, false, false, false, false, false, false, false, false, false, false, false, false, false, false] rfl rfl (by kernel_rfl) (fun _ _ _ h => h) (Or.inl ⟨by rfl, ?_⟩) ?_ ?_
        rotate_left
        · intro w'
          go_simp
          with_reducible rfl
        rotate_left
        · simp only [Act.put, List.setIfInBounds_toArray, List.set_cons_zero, List.set_cons_succ, i64_w, i32_w]
          rfl
        refine pure_ (i := 4) (N := some 130) (v := ?_) (a' := ?_) #[true, true, true, true, true, false, false, false, false, false, false, false, false, false, false, false, false, false, false, false, false, false, false, false, false] rfl rfl (by kernel_rfl) (fun _ _ _ h => h) (Or.inl ⟨by rfl, ?_⟩) ?_ ?_
        rotate_left
        · intro w'
          go_simp
          with_reducible rfl
        rotate_left
        · simp only [Act.put, List.setIfInBounds_toArray, List.set_cons_zero, List.set_cons_succ, i64_w, i32_w]
          rfl
        refine pure_ (i := 5) (N := some 131) (v := ?_) (a' := ?_) #[true, true, true, true, true, true, false, false, false, false, false, false, false, false, false, false, false, false, false, false, false, false, false, false, false] rfl rfl (by kernel_rfl) (fun _ _ _ h => h) (Or.inl ⟨by rfl, ?_⟩) ?_ ?_
        rotate_left
        · intro w'
          go_simp
          with_reducible rfl
        rotate_left
        · simp only [Act.put, List.setIfInBounds_toArray, List.set_cons_zero, List.set_cons_succ, i64_w, i32_w]
          rfl
        refine take_ (i := 6) (N := some 132) (v := ?_) (a' := ?_) #[true, true, true, true, true, true, true, false, false, false, false, false, false, false, false, false, false, false, false, false, false, false, false, false, false] rfl rfl (by kernel_rfl) (fun _ _ _ h => h) (Or.inl ⟨by rfl, ?_⟩) hHeld ?_ ?_
        rotate_left
        · rintro w' ⟨s0, s1, s2, s3⟩
          go_simp
          with_reducible rfl
        rotate_left
        · simp only [Act.put, List.setIfInBounds_toArray, List.set_cons_zero, List.set_cons_succ, i64_w, i32_w]
          rfl
        refine take_ (i := 7) (N := some 133) (v := ?_) (a' := ?_) #[true, true, true, true, true, true, true, true, false, false, false, false, false, false, false, false, false, false, false, false, false, false, false, false, false] rfl rfl (by kernel_rfl) (fun _ _ _ h => h) (Or.inl ⟨by rfl, ?_⟩) hHeld ?_ ?_
        rotate_left
        · rintro w' ⟨s0, s1, s2, s3⟩
          go_simp
          with_reducible rfl
        rotate_left
        · simp only [Act.put, List.setIfInBounds_toArray, List.set_cons_zero, List.set_cons_succ, i64_w, i32_w]
          rfl
        refine pure_ (i := 8) (N := some 134) (v := ?_) (a' := ?_) #[true, true, true, true, true, true, true, true, true, false, false, false, false, false, false, false, false, false, false, false, false, false, false, false, false] rfl rfl (by kernel_rfl) (fun _ _ _ h => h) (Or.inl ⟨by rfl, ?_⟩) ?_ ?_
        rotate_left
        · intro w'
          go_simp
          with_reducible rfl
        rotate_left
        · simp only [Act.put, List.setIfInBounds_toArray, List.set_cons_zero, List.set_cons_succ, i64_w, i32_w]
          rfl
        refine pure_ (i := 9) (N := some 135) (v := ?_) (a' := ?_) #[true, true, true, true, true, true, true, true, true, true, false, false, false, false, false, false, false, false, false, false, false, false, false, false, false] rfl rfl (by kernel_rfl) (fun _ _ _ h => h) (Or.inl ⟨by rfl, ?_⟩) ?_ ?_
        rotate_left
        · intro w'
          go_simp
          with_reducible rfl
        rotate_left
        · simp only [Act.put, List.setIfInBounds_toArray, List.set_cons_zero, List.set_cons_succ, i64_w, i32_w]
          rfl
        refine pure_ (i := 10) (N := some 136) (v := ?_) (a' := ?_) #[true, true, true, true, true, true, true, true, true, true, true, false, false, false, false, false, false, false, false, false, false, false, false, false, false] rfl rfl (by kernel_rfl) (fun _ _ _ h => h) (Or.inl ⟨by rfl, ?_⟩) ?_ ?_
        rotate_left
        · intro w'
          go_simp
          with_reducible rfl
        rotate_left
        · simp only [Act.put, List.setIfInBounds_toArray, List.set_cons_zero, List.set_cons_succ, i64_w, i32_w]
          rfl
        refine pure_ (i := 11) (N := some 137) (v := ?_) (a' := ?_) #[true, true, true, true, true, true, true, true, true, true, true, true, false, false, false, false, false, false, false, false, false, false, false, false, false] rfl rfl (by kernel_rfl) (fun _ _ _ h => h) (Or.inl ⟨by rfl, ?_⟩) ?_ ?_
        rotate_left
        · intro w'
          go_simp
          with_reducible rfl
        rotate_left
        · simp only [Act.put, List.setIfInBounds_toArray, List.set_cons_zero, List.set_cons_succ, i64_w, i32_w]
          rfl
        refine pure_ (i := 12) (N := some 138) (v := ?_) (a' := ?_) #[true, true, true, true, true, true, true, true, true, true, true, true, true, false, false, false, false, false, false, false, false, false, false, false, false] rfl rfl (by kernel_rfl) (fun _ _ _ h => h) (Or.inl ⟨by rfl, ?_⟩) ?_ ?_
        rotate_left
        · intro w'
          go_simp
          with_reducible rfl
        rotate_left
        · simp only [Act.put, List.setIfInBounds_toArray, List.set_cons_zero, List.set_cons_succ, i64_w, i32_w]
          rfl
        refine pure_ (i := 13) (N := some 139) (v := ?_) (a' := ?_) #[true, true, true, true, true, true, true, true, true, true, true, true, true, true, false, false, false, false, false, false, false, false, false, false, false] rfl rfl (by kernel_rfl) (fun _ _ _ h => h) (Or.inl ⟨by rfl, ?_⟩) ?_ ?_
        rotate_left
        · intro w'
          go_simp
          with_reducible rfl
        rotate_left
        · simp only [Act.put, List.setIfInBounds_toArray, List.set_cons_zero, List.set_cons_succ, i64_w, i32_w]
          rfl
        refine pure_ (i := 14) (N := some 140) (v := ?_) (a' := ?_) #[true, true, true, true, true, true, true, true, true, true, true, true, true, true, true, false, false, false, false, false, false, false, false, false, false] rfl rfl (by kernel_rfl) (fun _ _ _ h => h) (Or.inl ⟨by rfl, ?_⟩) ?_ ?_
        rotate_left
        · intro w'
          go_simp
          with_reducible rfl
        rotate_left
        · simp only [Act.put, List.setIfInBounds_toArray, List.set_cons_zero, List.set_cons_succ, i64_w, i32_w]
          rfl
        refine pure_ (i := 15) (N := some 141) (v := undef) (a' := ?_) #[true, true, true, true, true, true, true, true, true, true, true, true, true, true, true, true, false, false, false, false, false, false, false, false, false] rfl rfl (by kernel_rfl) (fun _ _ _ h => h) (Or.inr ⟨by rfl, rfl⟩) ?_ ?_
        rotate_left
        · simp only [Act.put, List.setIfInBounds_toArray, List.set_cons_zero, List.set_cons_succ, i64_w, i32_w]
          rfl
        refine pure_ (i := 16) (N := some 142) (v := undef) (a' := ?_) #[true, true, true, true, true, true, true, true, true, true, true, true, true, true, true, true, true, false, false, false, false, false, false, false, false] rfl rfl (by kernel_rfl) (fun _ _ _ h => h) (Or.inr ⟨by rfl, rfl⟩) ?_ ?_
        rotate_left
        · simp only [Act.put, List.setIfInBounds_toArray, List.set_cons_zero, List.set_cons_succ, i64_w, i32_w]
          rfl
        refine pure_ (i := 17) (N := some 143) (v := undef) (a' := ?_) #[true, true, true, true, true, true, true, true, true, true, true, true, true, true, true, true, true, true, false, false, false, false, false, false, false] rfl rfl (by kernel_rfl) (fun _ _ _ h => h) (Or.inr ⟨by rfl, rfl⟩) ?_ ?_
        rotate_left
        · simp only [Act.put, List.setIfInBounds_toArray, List.set_cons_zero, List.set_cons_succ, i64_w, i32_w]
          rfl
        refine pure_ (i := 18) (N := some 144) (v := undef) (a' := ?_) #[true, true, true, true, true, true, true, true, true, true, true, true, true, true, true, true, true, true, true, false, false, false, false, false, false] rfl rfl (by kernel_rfl) (fun _ _ _ h => h) (Or.inr ⟨by rfl, rfl⟩) ?_ ?_
        rotate_left
        · simp only [Act.put, List.setIfInBounds_toArray, List.set_cons_zero, List.set_cons_succ, i64_w, i32_w]
          rfl
        refine pure_ (i := 19) (N := some 145) (v := undef) (a' := ?_) #[true, true, true, true, true, true, true, true, true, true, true, true, true, true, true, true, true, true, true, true, false, false, false, false, false] rfl rfl (by kernel_rfl) (fun _ _ _ h => h) (Or.inr ⟨by rfl, rfl⟩) ?_ ?_
        rotate_left
        · simp only [Act.put, List.setIfInBounds_toArray, List.set_cons_zero, List.set_cons_succ, i64_w, i32_w]
          rfl
        refine pure_ (i := 20) (N := some 146) (v := undef) (a' := ?_) #[true, true, true, true, true, true, true, true, true, true, true, true, true, true, true, true, true, true, true, true, true, false, false, false, false] rfl rfl (by kernel_rfl) (fun _ _ _ h => h) (Or.inr ⟨by rfl, rfl⟩) ?_ ?_
        rotate_left
        · simp only [Act.put, List.setIfInBounds_toArray, List.set_cons_zero, List.set_cons_succ, i64_w, i32_w]
          rfl
        refine pure_ (i := 21) (N := some 147) (v := undef) (a' := ?_) #[true, true, true, true, true, true, true, true, true, true, true, true, true, true, true, true, true, true, true, true, true, true, false, false, false] rfl rfl (by kernel_rfl) (fun _ _ _ h => h) (Or.inr ⟨by rfl, rfl⟩) ?_ ?_
        rotate_left
        · simp only [Act.put, List.setIfInBounds_toArray, List.set_cons_zero, List.set_cons_succ, i64_w, i32_w]
          rfl
        refine pure_ (i := 22) (N := some 148) (v := undef) (a' := ?_) #[true, true, true, true, true, true, true, true, true, true, true, true, true, true, true, true, true, true, true, true, true, true, true, false, false] rfl rfl (by kernel_rfl) (fun _ _ _ h => h) (Or.inr ⟨by rfl, rfl⟩) ?_ ?_
        rotate_left
        · simp only [Act.put, List.setIfInBounds_toArray, List.set_cons_zero, List.set_cons_succ, i64_w, i32_w]
          rfl
        refine pure_ (i := 23) (N := some 149) (v := ?_) (a' := ?_) #[true, true, true, true, true, true, true, true, true, true, true, true, true, true, true, true, true, true, true, true, true, true, true, true, false] rfl rfl (by kernel_rfl) (fun _ _ _ h => h) (Or.inl ⟨by rfl, ?_⟩) ?_ ?_
        rotate_left
        · intro w'
          go_simp
          with_reducible rfl
        rotate_left
        · simp only [Act.put, List.setIfInBounds_toArray, List.set_cons_zero, List.set_cons_succ, i64_w, i32_w]
          rfl
        refine pure_ (i := 24) (N := some 150) (v := ?_) (a' := ?_) #[true, true, true, true, true, true, true, true, true, true, true, true, true, true, true, true, true, true, true, true, true, true, true, true, true] rfl rfl (by kernel_rfl) (fun _ _ _ h => h) (Or.inl ⟨by rfl, ?_⟩) ?_ ?_
        rotate_left
        · intro w'
          go_simp
          with_reducible rfl
        rotate_left
        · simp only [Act.put, List.setIfInBounds_toArray, List.set_cons_zero, List.set_cons_succ, i64_w, i32_w]
          rfl
        refine done_ (by kernel_rfl) ?_
        go_wp2_with fail
        go_meet
        case rel => exact ⟨rfl, hb13d⟩
      · have hne : (rc == 0) = false := beq_eq_false_iff_ne.2 (by omega)
        have HL2 : Hid (∀ w, Calls Try.prog 14 #[.int .i64 32, .int .i64 rc] w fun e w' => e = .returned (.agg #[.int .i64 ep, .int .i64 eq]) ∧ Below w.heap.size w w') := Lib.hid (fun w => by
          have := Lowest_yes 32 rc w (by omega) (by unfold In64; omega) hpos (by unfold In64; omega)
          rwa [← hep, ← heq] at this)
        clear hep heq
        refine start_ (n := 25) (S := fun W => W.cell? ⟨w4.heap.size, 0, none⟩ = some (.int .i64 ep) ∧ W.cell? ⟨w4.heap.size, 1, none⟩ = some (.int .i64 eq)) (ds := []) #[false, false, false, false, false, false, false, false, false, false, false, false, false, false, false, false, false, false, false, false, false, false, false, false, false] (by kernel_rfl) rfl rfl ⟨hc0, hc1⟩ (fun hHeld => ?_)
        clear hc0 hc1 hz0 hz1 HB13
        generalize wc.drew = w14 at *
        refine pure_ (i := 0) (N := some 126) (v := ?_) (a' := ?_) #[true, false, false, false, false, false, false, false, false, false, false, false, false, false, false, false, false, false, false, false, false, false, false, false, false] rfl rfl (by kernel_rfl) (fun _ _ _ h => h) (Or.inl ⟨by rfl, ?_⟩) ?_ ?_
        rotate_left
        · intro w'
          go_simp
          with_reducible rfl
        rotate_left
        · simp only [Act.put, List.setIfInBounds_toArray, List.set_cons_zero, List.set_cons_succ, i64_w, i32_w]
          rfl
        refine pure_ (i := 1) (N := some 127) (v := ?_) (a' := ?_) #[true, true, false, false, false, false, false, false, false, false, false, false, false, false, false, false, false, false, false, false, false, false, false, false, false] rfl rfl (by kernel_rfl) (fun _ _ _ h => h) (Or.inl ⟨by rfl, ?_⟩) ?_ ?_
        rotate_left
        · intro w'
          go_simp
          with_reducible rfl
        rotate_left
        · simp only [Act.put, List.setIfInBounds_toArray, List.set_cons_zero, List.set_cons_succ, i64_w, i32_w]
          rfl
        refine pure_ (i := 2) (N := some 128) (v := ?_) (a' := ?_) #[true, true, true, false, false, false, false, false, false, false, false, false, false, false, false, false, false, false, false, false, false, false, false, false, false] rfl rfl (by kernel_rfl) (fun _ _ _ h => h) (Or.inl ⟨by rfl, ?_⟩) ?_ ?_
        rotate_left
        · intro w'
          go_simp
          with_reducible rfl
        rotate_left
        · simp only [Act.put, List.setIfInBounds_toArray, List.set_cons_zero, List.set_cons_succ, i64_w, i32_w]
          rfl
        refine pure_ (i := 3) (N := some 129) (v := undef) (a' := ?_) #[true, true, true, true, false, false, false, false, false, false, false, false, false, false, false, false, false, false, false, false, false, false, false, false, false] rfl rfl (by kernel_rfl) (fun _ _ _ h => h) (Or.inr ⟨by rfl, rfl⟩) ?_ ?_
        rotate_left
        · simp only [Act.put, List.setIfInBounds_toArray, List.set_cons_zero, List.set_cons_succ, i64_w, i32_w]
          rfl
        refine pure_ (i := 4) (N := some 130) (v := undef) (a' := ?_) #[true, true, true, true, true, false, false, false, false, false, false, false, false, false, false, false, false, false, false, false, false, false, false, false, false] rfl rfl (by kernel_rfl) (fun _ _ _ h => h) (Or.inr ⟨by rfl, rfl⟩) ?_ ?_
        rotate_left
        · simp only [Act.put, List.setIfInBounds_toArray, List.set_cons_zero, List.set_cons_succ, i64_w, i32_w]
          rfl
        refine pure_ (i := 5) (N := some 131) (v := undef) (a' := ?_) #[true, true, true, true, true, true, false, false, false, false, false, false, false, false, false, false, false, false, false, false, false, false, false, false, false] rfl rfl (by kernel_rfl) (fun _ _ _ h => h) (Or.inr ⟨by rfl, rfl⟩) ?_ ?_
        rotate_left
        · simp only [Act.put, List.setIfInBounds_toArray, List.set_cons_zero, List.set_cons_succ, i64_w, i32_w]
          rfl
        refine pure_ (i := 6) (N := some 132) (v := undef) (a' := ?_) #[true, true, true, true, true, true, true, false, false, false, false, false, false, false, false, false, false, false, false, false, false, false, false, false, false] rfl rfl (by kernel_rfl) (fun _ _ _ h => h) (Or.inr ⟨by rfl, rfl⟩) ?_ ?_
        rotate_left
        · simp only [Act.put, List.setIfInBounds_toArray, List.set_cons_zero, List.set_cons_succ, i64_w, i32_w]
          rfl
        refine pure_ (i := 7) (N := some 133) (v := undef) (a' := ?_) #[true, true, true, true, true, true, true, true, false, false, false, false, false, false, false, false, false, false, false, false, false, false, false, false, false] rfl rfl (by kernel_rfl) (fun _ _ _ h => h) (Or.inr ⟨by rfl, rfl⟩) ?_ ?_
        rotate_left
        · simp only [Act.put, List.setIfInBounds_toArray, List.set_cons_zero, List.set_cons_succ, i64_w, i32_w]
          rfl
        refine pure_ (i := 8) (N := some 134) (v := undef) (a' := ?_) #[true, true, true, true, true, true, true, true, true, false, false, false, false, false, false, false, false, false, false, false, false, false, false, false, false] rfl rfl (by kernel_rfl) (fun _ _ _ h => h) (Or.inr ⟨by rfl, rfl⟩) ?_ ?_
        rotate_left
        · simp only [Act.put, List.setIfInBounds_toArray, List.set_cons_zero, List.set_cons_succ, i64_w, i32_w]
          rfl
        refine pure_ (i := 9) (N := some 135) (v := undef) (a' := ?_) #[true, true, true, true, true, true, true, true, true, true, false, false, false, false, false, false, false, false, false, false, false, false, false, false, false] rfl rfl (by kernel_rfl) (fun _ _ _ h => h) (Or.inr ⟨by rfl, rfl⟩) ?_ ?_
        rotate_left
        · simp only [Act.put, List.setIfInBounds_toArray, List.set_cons_zero, List.set_cons_succ, i64_w, i32_w]
          rfl
        refine pure_ (i := 10) (N := some 136) (v := ?_) (a' := ?_) #[true, true, true, true, true, true, true, true, true, true, true, false, false, false, false, false, false, false, false, false, false, false, false, false, false] rfl rfl (by kernel_rfl) (fun _ _ _ h => h) (Or.inl ⟨by rfl, ?_⟩) ?_ ?_
        rotate_left
        · intro w'
          go_simp
          with_reducible rfl
        rotate_left
        · simp only [Act.put, List.setIfInBounds_toArray, List.set_cons_zero, List.set_cons_succ, i64_w, i32_w]
          rfl
        refine pure_ (i := 11) (N := some 137) (v := ?_) (a' := ?_) #[true, true, true, true, true, true, true, true, true, true, true, true, false, false, false, false, false, false, false, false, false, false, false, false, false] rfl rfl (by kernel_rfl) (fun _ _ _ h => h) (Or.inl ⟨by rfl, ?_⟩) ?_ ?_
        rotate_left
        · intro w'
          go_simp
          with_reducible rfl
        rotate_left
        · simp only [Act.put, List.setIfInBounds_toArray, List.set_cons_zero, List.set_cons_succ, i64_w, i32_w]
          rfl
        refine pure_ (i := 12) (N := some 138) (v := ?_) (a' := ?_) #[true, true, true, true, true, true, true, true, true, true, true, true, true, false, false, false, false, false, false, false, false, false, false, false, false] rfl rfl (by kernel_rfl) (fun _ _ _ h => h) (Or.inl ⟨by rfl, ?_⟩) ?_ ?_
        rotate_left
        · intro w'
          go_simp
          with_reducible rfl
        rotate_left
        · simp only [Act.put, List.setIfInBounds_toArray, List.set_cons_zero, List.set_cons_succ, i64_w, i32_w]
          rfl
        refine pure_ (i := 13) (N := some 139) (v := ?_) (a' := ?_) #[true, true, true, true, true, true, true, true, true, true, true, true, true, true, false, false, false, false, false, false, false, false, false, false, false] rfl rfl (by kernel_rfl) (fun _ _ _ h => h) (Or.inl ⟨by rfl, ?_⟩) ?_ ?_
        rotate_left
        · intro w'
          go_simp
          with_reducible rfl
        rotate_left
        · simp only [Act.put, List.setIfInBounds_toArray, List.set_cons_zero, List.set_cons_succ, i64_w, i32_w]
          rfl
        refine pure_ (i := 14) (N := some 140) (v := ?_) (a' := ?_) #[true, true, true, true, true, true, true, true, true, true, true, true, true, true, true, false, false, false, false, false, false, false, false, false, false] rfl rfl (by kernel_rfl) (fun _ _ _ h => h) (Or.inl ⟨by rfl, ?_⟩) ?_ ?_
        rotate_left
        · intro w'
          go_simp
          with_reducible rfl
        rotate_left
        · simp only [Act.put, List.setIfInBounds_toArray, List.set_cons_zero, List.set_cons_succ, i64_w, i32_w]
          rfl
        refine pure_ (i := 15) (N := some 141) (v := ?_) (a' := ?_) #[true, true, true, true, true, true, true, true, true, true, true, true, true, true, true, true, false, false, false, false, false, false, false, false, false] rfl rfl (by kernel_rfl) (fun _ _ _ h => h) (Or.inl ⟨by rfl, ?_⟩) ?_ ?_
        rotate_left
        · intro w'
          go_simp
          with_reducible rfl
        rotate_left
        · simp only [Act.put, List.setIfInBounds_toArray, List.set_cons_zero, List.set_cons_succ, i64_w, i32_w]
          rfl
        refine pure_ (i := 16) (N := some 142) (v := ?_) (a' := ?_) #[true, true, true, true, true, true, true, true, true, true, true, true, true, true, true, true, true, false, false, false, false, false, false, false, false] rfl rfl (by kernel_rfl) (fun _ _ _ h => h) (Or.inl ⟨by rfl, ?_⟩) ?_ ?_
        rotate_left
        · intro w'
          go_simp
          with_reducible rfl
        rotate_left
        · simp only [Act.put, List.setIfInBounds_toArray, List.set_cons_zero, List.set_cons_succ, i64_w, i32_w]
          rfl
        refine pure_ (i := 17) (N := some 143) (v := ?_) (a' := ?_) #[true, true, true, true, true, true, true, true, true, true, true, true, true, true, true, true, true, true, false, false, false, false, false, false, false] rfl rfl (by kernel_rfl) (fun _ _ _ h => h) (Or.inl ⟨by rfl, ?_⟩) ?_ ?_
        rotate_left
        · intro w'
          go_simp
          with_reducible rfl
        rotate_left
        · simp only [Act.put, List.setIfInBounds_toArray, List.set_cons_zero, List.set_cons_succ, i64_w, i32_w]
          rfl
        refine pure_ (i := 19) (N := some 145) (v := ?_) (a' := ?_) #[true, true, true, true, true, true, true, true, true, true, true, true, true, true, true, true, true, true, false, true, false, false, false, false, false] rfl rfl (by kernel_rfl) (fun _ _ _ h => h) (Or.inl ⟨by rfl, ?_⟩) ?_ ?_
        rotate_left
        · intro w'
          go_simp
          with_reducible rfl
        rotate_left
        · simp only [Act.put, List.setIfInBounds_toArray, List.set_cons_zero, List.set_cons_succ, i64_w, i32_w]
          rfl
        refine take_ (i := 18) (N := some 144) (v := ?_) (a' := ?_) #[true, true, true, true, true, true, true, true, true, true, true, true, true, true, true, true, true, true, true, true, false, false, false, false, false] rfl rfl (by kernel_rfl) (fun _ _ _ h => h) (Or.inl ⟨by rfl, ?_⟩) hHeld ?_ ?_
        rotate_left
        · rintro w' ⟨s0, s1⟩
          go_simp
          with_reducible rfl
        rotate_left
        · simp only [Act.put, List.setIfInBounds_toArray, List.set_cons_zero, List.set_cons_succ, i64_w, i32_w]
          rfl
        refine one_ (i := 20) (N := some 146) #[true, true, true, true, true, true, true, true, true, true, true, true, true, true, true, true, true, true, true, true, true, false, false, false, false] rfl rfl (by kernel_rfl) (by decide) (fun K hK => ?_)
        refine goes_ Try.func14 (by kernel_rfl) rfl #[.int .i64 32, .int .i64 rc] (by rfl) rfl rfl (by (try simp only [List.map_toArray, List.map_cons, List.map_nil]); first | done | rfl) ?_
        refine (HL2.out w14).mono ?_
        rintro e w15 ⟨rfl, hb15⟩
        have HB15 := Lib.hid (hb13d.out.trans (hb15.mono hb13d.out.size))
        refine ⟨_, rfl, hK.out _ _ ⟨pw_cell_below hb15 hHeld.1, pw_cell_below hb15 hHeld.2⟩ (fun hHeld => ?_)⟩
        clear hK K hb15
        refine norm_ (a' := ?_) ?_ ?_
        rotate_left
        · simp only [Act.put, List.setIfInBounds_toArray, List.set_cons_zero, List.set_cons_succ, i64_w, i32_w]
          rfl
        refine pure_ (i := 21) (N := some 147) (v := ?_) (a' := ?_) #[true, true, true, true, true, true, true, true, true, true, true, true, true, true, true, true, true, true, true, true, true, true, false, false, false] rfl rfl (by kernel_rfl) (fun _ _ _ h => h) (Or.inl ⟨by rfl, ?_⟩) ?_ ?_
        rotate_left
        · intro w'
          go_simp
          with_reducible rfl
        rotate_left
        · simp only [Act.put, List.setIfInBounds_toArray, List.set_cons_zero, List.set_cons_succ, i64_w, i32_w]
          rfl
        refine pure_ (i := 22) (N := some 148) (v := ?_) (a' := ?_) #[true, true, true, true, true, true, true, true, true, true, true, true, true, true, true, true, true, true, true, true, true, true, true, false, false] rfl rfl (by kernel_rfl) (fun _ _ _ h => h) (Or.inl ⟨by rfl, ?_⟩) ?_ ?_
        rotate_left
        · intro w'
          go_simp
          with_reducible rfl
        rotate_left
        · simp only [Act.put, List.setIfInBounds_toArray, List.set_cons_zero, List.set_cons_succ, i64_w, i32_w]
          rfl
        refine pure_ (i := 23) (N := some 149) (v := ?_) (a' := ?_) #[true, true, true, true, true, true, true, true, true, true, true, true, true, true, true, true, true, true, true, true, true, true, true, true, false] rfl rfl (by kernel_rfl) (fun _ _ _ h => h) (Or.inl ⟨by rfl, ?_⟩) ?_ ?_
        rotate_left
        · intro w'
          go_simp
          with_reducible rfl
        rotate_left
        · simp only [Act.put, List.setIfInBounds_toArray, List.set_cons_zero, List.set_cons_succ, i64_w, i32_w]
          rfl
        refine pure_ (i := 24) (N := some 150) (v := ?_) (a' := ?_) #[true, true, true, true, true, true, true, true, true, true, true, true, true, true, true, true, true, true, true, true, true, true, true, true, true] rfl rfl (by kernel_rfl) (fun _ _ _ h => h) (Or.inl ⟨by rfl, ?_⟩) ?_ ?_
        rotate_left
        · intro w'
          go_simp
          with_reducible rfl
        rotate_left
        · simp only [Act.put, List.setIfInBounds_toArray, List.set_cons_zero, List.set_cons_succ, i64_w, i32_w]
          rfl
        refine done_ (by kernel_rfl) ?_
        go_wp2_with fail
        go_meet
        case rel => exact ⟨rfl, HB15⟩
    case rest =>
      clear HB13
      obtain ⟨rfl, HB16⟩ := hcut
      have hA : Hid (∀ w, Calls Try.prog 13 #[] w fun e w' => e = .returned (.bool true) ∧ Below w.heap.size w w') := Lib.hid awake_calls
      rcases HW.out with ⟨hout, rfl, rfl, rfl⟩ | ⟨hdy0, hdy1, hwp, hwq, rfl⟩
      · go_upto_region 17 with (fail)
        go_cut [156] (fun v wc3 => v = .bool true ∧ wc3 = wc)
        case first =>
          rcases hout with h | h
          · go_wp2_with fail
            go_meet
            case rel => exact ⟨rfl, rfl⟩
          · have h' : ¬ days < 0 := by omega
            go_wp2_with fail
            go_meet
            case rel => exact ⟨rfl, rfl⟩
        case rest =>
          obtain ⟨rfl, rfl⟩ := hcut
          go_wp2_with fail
          refine (hA.out _).mono ?_
          rintro e w17 ⟨rfl, hb17⟩
          have hb := HB16.out.trans (hb17.mono HB16.out.size)
          have c0 := (F67.out.below hb).c0
          have c1 := (F67.out.below hb).c1
          have d0 := (F77.out.below hb).c0
          have d1 := (F77.out.below hb).c1
          have HBz := Lib.hid (HB7.out.trans (hb.mono HB7.out.size))
          clear hb hb17
          go_wp2_with fail
          go_ret
          exact ⟨rfl, HBz.out⟩
      · obtain ⟨dd, rfl⟩ := Int.eq_ofNat_of_zero_le hdy0
        rw [Int.toNat_natCast] at hwp hwq
        have hx2 : decide ((dd : Int) < 0) = false := decide_eq_false (by omega)
        have hx3 : decide (12 < (dd : Int)) = false := decide_eq_false (by omega)
        have hWi : Hid (∀ w, Calls Try.prog 22 #[.int .i64 rc, .int .i64 (dd : Int)] w fun e w' => e = .returned (.agg #[.int .i64 wp, .int .i64 wq]) ∧ Below w.heap.size w w') := Lib.hid (fun w => by
          have := refWithin rc dd w hcb hc32 (by omega)
          rwa [← hwp, ← hwq] at this)
        clear hwp hwq
        go_upto_region 19 with (fail)
        have c0 := (F67.out.below HB16.out).c0
        have c1 := (F67.out.below HB16.out).c1
        have hbd := Lib.hid HB16.out.drew
        refine start_ (n := 13) (S := fun W => W.cell? ⟨w6.heap.size, 0, none⟩ = some (.int .i64 wp) ∧ W.cell? ⟨w6.heap.size, 1, none⟩ = some (.int .i64 wq)) (ds := []) #[false, false, false, false, false, false, false, false, false, false, false, false, false] (by kernel_rfl) rfl rfl ⟨c0, c1⟩ (fun hHeld => ?_)
        clear c0 c1
        generalize wc.drew = w14 at *
        refine one_ (i := 0) (N := some 167) #[true, false, false, false, false, false, false, false, false, false, false, false, false] rfl rfl (by kernel_rfl) (by decide) (fun K hK => ?_)
        refine goes_ Try.func13 (by kernel_rfl) rfl #[] (by rfl) rfl rfl (by (try simp only [List.map_toArray, List.map_cons, List.map_nil]); first | done | rfl) ?_
        refine (hA.out w14).mono ?_
        rintro e w15 ⟨rfl, hb15⟩
        have HB15 := Lib.hid (hbd.out.trans (hb15.mono hbd.out.size))
        refine ⟨_, rfl, hK.out _ _ ⟨pw_cell_below hb15 hHeld.1, pw_cell_below hb15 hHeld.2⟩ (fun hHeld => ?_)⟩
        clear hK K hb15
        refine norm_ (a' := ?_) ?_ ?_
        rotate_left
        · simp only [Act.put, List.setIfInBounds_toArray, List.set_cons_zero, List.set_cons_succ, i64_w, i32_w]
          rfl
        refine pure_ (i := 1) (N := some 168) (v := ?_) (a' := ?_) #[true, true, false, false, false, false, false, false, false, false, false, false, false] rfl rfl (by kernel_rfl) (fun _ _ _ h => h) (Or.inl ⟨by rfl, ?_⟩) ?_ ?_
        rotate_left
        · intro w'
          go_simp
          with_reducible rfl
        rotate_left
        · simp only [Act.put, List.setIfInBounds_toArray, List.set_cons_zero, List.set_cons_succ, i64_w, i32_w]
          rfl
        refine pure_ (i := 2) (N := some 169) (v := ?_) (a' := ?_) #[true, true, true, false, false, false, false, false, false, false, false, false, false] rfl rfl (by kernel_rfl) (fun _ _ _ h => h) (Or.inl ⟨by rfl, ?_⟩) ?_ ?_
        rotate_left
        · intro w'
          go_simp
          with_reducible rfl
        rotate_left
        · simp only [Act.put, List.setIfInBounds_toArray, List.set_cons_zero, List.set_cons_succ, i64_w, i32_w]
          rfl
        refine pure_ (i := 3) (N := some 170) (v := ?_) (a' := ?_) #[true, true, true, true, false, false, false, false, false, false, false, false, false] rfl rfl (by kernel_rfl) (fun _ _ _ h => h) (Or.inl ⟨by rfl, ?_⟩) ?_ ?_
        rotate_left
        · intro w'
          go_simp
          with_reducible rfl
        rotate_left
        · simp only [Act.put, List.setIfInBounds_toArray, List.set_cons_zero, List.set_cons_succ, i64_w, i32_w]
          rfl
        refine pure_ (i := 4) (N := some 171) (v := ?_) (a' := ?_) #[true, true, true, true, true, false, false, false, false, false, false, false, false] rfl rfl (by kernel_rfl) (fun _ _ _ h => h) (Or.inl ⟨by rfl, ?_⟩) ?_ ?_
        rotate_left
        · intro w'
          go_simp
          with_reducible rfl
        rotate_left
        · simp only [Act.put, List.setIfInBounds_toArray, List.set_cons_zero, List.set_cons_succ, i64_w, i32_w]
          rfl
        refine pure_ (i := 5) (N := some 172) (v := ?_) (a' := ?_) #[true, true, true, true, true, true, false, false, false, false, false, false, false] rfl rfl (by kernel_rfl) (fun _ _ _ h => h) (Or.inl ⟨by rfl, ?_⟩) ?_ ?_
        rotate_left
        · intro w'
          go_simp
          with_reducible rfl
        rotate_left
        · simp only [Act.put, List.setIfInBounds_toArray, List.set_cons_zero, List.set_cons_succ, i64_w, i32_w]
          rfl
        refine pure_ (i := 7) (N := some 174) (v := ?_) (a' := ?_) #[true, true, true, true, true, true, false, true, false, false, false, false, false] rfl rfl (by kernel_rfl) (fun _ _ _ h => h) (Or.inl ⟨by rfl, ?_⟩) ?_ ?_
        rotate_left
        · intro w'
          go_simp
          with_reducible rfl
        rotate_left
        · simp only [Act.put, List.setIfInBounds_toArray, List.set_cons_zero, List.set_cons_succ, i64_w, i32_w]
          rfl
        refine pure_ (i := 8) (N := some 175) (v := ?_) (a' := ?_) #[true, true, true, true, true, true, false, true, true, false, false, false, false] rfl rfl (by kernel_rfl) (fun _ _ _ h => h) (Or.inl ⟨by rfl, ?_⟩) ?_ ?_
        rotate_left
        · intro w'
          go_simp
          with_reducible rfl
        rotate_left
        · simp only [Act.put, List.setIfInBounds_toArray, List.set_cons_zero, List.set_cons_succ, i64_w, i32_w]
          rfl
        refine take_ (i := 6) (N := some 173) (v := ?_) (a' := ?_) #[true, true, true, true, true, true, true, true, true, false, false, false, false] rfl rfl (by kernel_rfl) (fun _ _ _ h => h) (Or.inl ⟨by rfl, ?_⟩) hHeld ?_ ?_
        rotate_left
        · rintro w' ⟨s0, s1⟩
          go_simp
          with_reducible rfl
        rotate_left
        · simp only [Act.put, List.setIfInBounds_toArray, List.set_cons_zero, List.set_cons_succ, i64_w, i32_w]
          rfl
        refine one_ (i := 9) (N := some 176) #[true, true, true, true, true, true, true, true, true, true, false, false, false] rfl rfl (by kernel_rfl) (by decide) (fun K hK => ?_)
        refine goes_ Try.func22 (by kernel_rfl) rfl #[.int .i64 rc, .int .i64 (dd : Int)] (by rfl) rfl rfl (by (try simp only [List.map_toArray, List.map_cons, List.map_nil]); first | done | rfl) ?_
        refine (hWi.out w15).mono ?_
        rintro e w16 ⟨rfl, hb16⟩
        have HB17 := Lib.hid (HB15.out.trans (hb16.mono HB15.out.size))
        refine ⟨_, rfl, hK.out _ _ ⟨pw_cell_below hb16 hHeld.1, pw_cell_below hb16 hHeld.2⟩ (fun hHeld => ?_)⟩
        clear hK K hb16
        refine norm_ (a' := ?_) ?_ ?_
        rotate_left
        · simp only [Act.put, List.setIfInBounds_toArray, List.set_cons_zero, List.set_cons_succ, i64_w, i32_w]
          rfl
        refine pure_ (i := 10) (N := some 177) (v := ?_) (a' := ?_) #[true, true, true, true, true, true, true, true, true, true, true, false, false] rfl rfl (by kernel_rfl) (fun _ _ _ h => h) (Or.inl ⟨by rfl, ?_⟩) ?_ ?_
        rotate_left
        · intro w'
          go_simp
          with_reducible rfl
        rotate_left
        · simp only [Act.put, List.setIfInBounds_toArray, List.set_cons_zero, List.set_cons_succ, i64_w, i32_w]
          rfl
        refine pure_ (i := 11) (N := some 178) (v := ?_) (a' := ?_) #[true, true, true, true, true, true, true, true, true, true, true, true, false] rfl rfl (by kernel_rfl) (fun _ _ _ h => h) (Or.inl ⟨by rfl, ?_⟩) ?_ ?_
        rotate_left
        · intro w'
          go_simp
          with_reducible rfl
        rotate_left
        · simp only [Act.put, List.setIfInBounds_toArray, List.set_cons_zero, List.set_cons_succ, i64_w, i32_w]
          rfl
        refine pure_ (i := 12) (N := some 12) (v := ?_) (a' := ?_) #[true, true, true, true, true, true, true, true, true, true, true, true, true] rfl rfl (by kernel_rfl) (fun _ _ _ h => h) (Or.inl ⟨by rfl, ?_⟩) ?_ ?_
        rotate_left
        · intro w'
          go_simp
          with_reducible rfl
        rotate_left
        · simp only [Act.put, List.setIfInBounds_toArray, List.set_cons_zero, List.set_cons_succ, i64_w, i32_w]
          rfl
        refine done_ (by kernel_rfl) ?_
        go_wp2_with fail
        go_ret
        exact ⟨rfl, HB7.out.trans (HB17.out.mono HB7.out.size)⟩

/-- The law, over a list that is read. -/
theorem Rates_list (n : Int) (A : Option Addr) (c : Nat) (l : List S65) (a b day days : Int) (w : World) (hl : Kd.C k65 w A l.length l) :
    Calls Try.prog 4 #[.int .i64 n, .slice A l.length c, .int .i64 a, .int .i64 b, .int .i64 day, .int .i64 days] w fun e w' => e = .returned (.bool true) ∧ Below w.heap.size w w' := by
  by_cases hk : 60 < l.length
  · exact rates_long n A c l.length a b day days w hk hl.2.1
  · by_cases hn : 2 ≤ n ∧ n ≤ 12
    · by_cases h : Two n a b ∧ IsDay day
      · exact rates_main n A c l a b day days w hk hn.1 hn.2 hl h.1 h.2
      · exact rates_arg n A c l a b day days w hk hn.1 hn.2 hl h
    · exact rates_bad n A c l.length a b day days w hk hn
end Go.Proofs.Ytkbiggmkjbmgoaa.Bk
