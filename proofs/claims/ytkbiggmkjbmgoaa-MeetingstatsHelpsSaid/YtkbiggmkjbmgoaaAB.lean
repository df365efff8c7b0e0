/- The law MeetingstatsHelps: its walk. -/
import Derived.Test.YtkbiggmkjbmgoaaAA
namespace Go.Proofs.Ytkbiggmkjbmgoaa.Bk
open Go.RowKit Go.Proofs.YtkbiggmkjbmgoaaW.PrintWords Go.Proofs.YtkbiggmkjbmgoaaW.PrintLast Go.Proofs.YtkbiggmkjbmgoaaW.PrintMore Go.Proofs.Mp
open Go.Proofs.Ytkbiggmkjbmgoaa.PMeetingstatsRates (S65 k65)
set_option linter.unusedVariables false
set_option linter.unusedSimpArgs false
attribute [local go_sem] eq23

theorem recentL_add (l : List Int) (d : Int) : recentL l d ≤ recentL (addDay l d) d := by
  unfold addDay
  split
  · rename_i h; subst h; exact (recentL_bd _ _).1
  · split
    · unfold recentL; rw [List.filter_append, List.length_append]; omega
    · exact Int.le_refl _
theorem weightL_add (l : List Int) (d : Int) : weightL l d ≤ weightL (addDay l d) d := by
  unfold addDay
  split
  · rename_i h; subst h; exact (weightL_bd _ _).1
  · split
    · unfold weightL
      rw [List.map_append, List.sum_append]
      have := (wt_bd d d).1
      simp
      omega
    · exact Int.le_refl _
/-- What the two books say of the pair. -/
theorem helps_facts (B : Book) (hB : B.Ok) (n a b x y d : Int) (ht : Two n a b) (ht' : Two n x y) (hd : IsDay d) (hlt : ¬ d < B.nw) :
    ∃ p q p' q' v v' m m' cc : Int, p = withinN (recentL (B.D (min a b, max a b)) d) 5 ∧ q = withinD (recentL (B.D (min a b, max a b)) d) 5 ∧
      p' = withinN (recentL ((B.meet x y d).D (min a b, max a b)) d) 5 ∧ q' = withinD (recentL ((B.meet x y d).D (min a b, max a b)) d) 5 ∧
      v = weightL (B.D (min a b, max a b)) d ∧ v' = weightL ((B.meet x y d).D (min a b, max a b)) d ∧
      m = ((B.D (min a b, max a b)).length : Int) ∧ m' = (((B.meet x y d).D (min a b, max a b)).length : Int) ∧ cmpI (p * q') (p' * q) = cc ∧
      (In64 p ∧ In64 q ∧ In64 p' ∧ In64 q' ∧ 0 < q ∧ 0 < q') ∧ (((x = a ∧ y = b) ∨ (x = b ∧ y = a)) → cc ≤ 0 ∧ v ≤ v') ∧ (¬ ((x = a ∧ y = b) ∨ (x = b ∧ y = a)) → p' = p ∧ q' = q ∧ v' = v ∧ m' = m) := by
  have hB' := hB.meet (x := x) (y := y) hd hlt
  have c0 := (recentL_bd (B.D (min a b, max a b)) d).1
  have c1 := recentL_32 _ d (hB.asc (min a b, max a b))
  have c2 := (recentL_bd ((B.meet x y d).D (min a b, max a b)) d).1
  have c3 := recentL_32 _ d (hB'.asc (min a b, max a b))
  obtain ⟨i1, i2, i3⟩ := within_in _ 5 c0 c1 (by omega)
  obtain ⟨i4, i5, i6⟩ := within_in _ 5 c2 c3 (by omega)
  refine ⟨_, _, _, _, _, _, _, _, _, rfl, rfl, rfl, rfl, rfl, rfl, rfl, rfl, rfl, ⟨i1, i2, i4, i5, i3, i6⟩, fun h => ?_, fun h => ?_⟩
  · have e : (B.meet x y d).D (min a b, max a b) = addDay (B.D (min a b, max a b)) d := by
      unfold Book.meet upd
      have e2 : (min x y, max x y) = (min a b, max a b) := by
        rcases h with ⟨rfl, rfl⟩ | ⟨rfl, rfl⟩
        · rfl
        · rw [Int.min_comm, Int.max_comm]
      rw [e2]
      exact if_pos rfl
    rw [e] at c3 ⊢
    exact ⟨cmpI_le (within_mono _ _ 5 c0 (recentL_add _ _) c3 (by omega)), weightL_add _ _⟩
  · have e : (B.meet x y d).D (min a b, max a b) = B.D (min a b, max a b) := by
      unfold Book.meet upd
      refine if_neg (fun e2 => h ?_)
      simp only [Prod.mk.injEq] at e2
      unfold Two at ht ht'
      omega
    rw [e]
    exact ⟨rfl, rfl, rfl, rfl⟩

set_option maxRecDepth 100000 in
theorem helps_long (n : Int) (A : Option Addr) (c : Nat) (k : Nat) (x y d a b : Int) (w : World) (hk : 60 < k) (hm : k ≤ 9223372036854775807) :
    Calls Try.prog 7 #[.int .i64 n, .slice A k c, .agg #[.int .i64 x, .int .i64 y, .int .i64 d], .int .i64 a, .int .i64 b] w fun e w' => e = .returned (.bool true) ∧ Below w.heap.size w w' := by
  have hbx := Lib.hid ((Below.refl w.heap.size w).alloc (Nat.le_refl _) (.cells #[.int .i64 x, .int .i64 y, .int .i64 d] 48))
  go_enter Try.func7, Try.ntmps7
  go_wp2_with fail
  refine (awake_calls _).mono ?_
  rintro e w1 ⟨rfl, hb⟩
  go_wp2_with fail
  go_ret
  exact ⟨rfl, hbx.out.trans (hb.mono hbx.out.size)⟩
set_option maxRecDepth 100000 in
theorem helps_bad (n : Int) (A : Option Addr) (c : Nat) (k : Nat) (x y d a b : Int) (w : World) (hk : ¬ 60 < k) (hn : ¬ (2 ≤ n ∧ n ≤ 12)) :
    Calls Try.prog 7 #[.int .i64 n, .slice A k c, .agg #[.int .i64 x, .int .i64 y, .int .i64 d], .int .i64 a, .int .i64 b] w fun e w' => e = .returned (.bool true) ∧ Below w.heap.size w w' := by
  have hbx := Lib.hid ((Below.refl w.heap.size w).alloc (Nat.le_refl _) (.cells #[.int .i64 x, .int .i64 y, .int .i64 d] 48))
  have Hp := Lib.hid (fun w => play_no n A k c w hn)
  clear hn
  go_enter Try.func7, Try.ntmps7
  go_wp2_with fail
  refine (Hp.out _).mono ?_
  rintro e w1 ⟨rfl, hb⟩
  have HB1 := Lib.hid (hbx.out.trans (hb.mono hbx.out.size))
  clear hb
  go_wp2_with fail
  refine (Hp.out _).mono ?_
  rintro e w2 ⟨rfl, hb⟩
  have HB2 := Lib.hid (HB1.out.trans (hb.mono HB1.out.size))
  clear hb
  go_wp2_with fail
  refine (awake_calls _).mono ?_
  rintro e w3 ⟨rfl, hb3⟩
  have HB3 := Lib.hid (HB2.out.trans (hb3.mono HB2.out.size))
  clear hb3
  go_wp2_with fail
  go_ret
  exact ⟨rfl, HB3.out⟩

/-- Both books. -/
def Both (w wr : World) (bk bl : Nat) (B : Book) (x y d : Int) : Prop :=
  ∃ Sk Sl : Nat → Prop, BookAt wr bk B Sk ∧ BookAt wr bl B Sl ∧ B.Ok ∧ (∀ i, Sk i → ¬ Sl i) ∧ (∀ i, i < w.heap.size → ¬ Sl i) ∧ ¬ Sl w.heap.size ∧ wr.heap[w.heap.size]? = some (.cells #[.int .i64 x, .int .i64 y, .int .i64 d] 48) ∧ Below w.heap.size w wr

set_option maxHeartbeats 8000000 in
set_option maxRecDepth 100000 in
theorem helps_main (n : Int) (A : Option Addr) (c : Nat) (l : List S65) (x y d a b : Int) (w : World) (hk : ¬ 60 < l.length) (h2 : 2 ≤ n) (h12 : n ≤ 12) (hl : Kd.C k65 w A l.length l) :
    Calls Try.prog 7 #[.int .i64 n, .slice A l.length c, .agg #[.int .i64 x, .int .i64 y, .int .i64 d], .int .i64 a, .int .i64 b] w fun e w' => e = .returned (.bool true) ∧ Below w.heap.size w w' := by
  have hbx := Lib.hid ((Below.refl w.heap.size w).alloc (Nat.le_refl _) (.cells #[.int .i64 x, .int .i64 y, .int .i64 d] 48))
  have hkx := Lib.hid (blk_new w (.cells #[.int .i64 x, .int .i64 y, .int .i64 d] 48))
  have hl' := Lib.hid (Kd.C_alloc hl (.cells #[.int .i64 x, .int .i64 y, .int .i64 d] 48))
  have hpl := Lib.hid (fun w hl => play_yes n A c l w h2 h12 hl (by omega))
  have hpn := Lib.hid (playP_n n l)
  clear hl
  go_enter Try.func7, Try.ntmps7
  go_wp2_with fail
  generalize w.alloc (.cells #[.int .i64 x, .int .i64 y, .int .i64 d] 48) = w0 at *
  refine (hpl.out _ hl'.out).mono ?_
  rintro e w1 ⟨bk, v, rfl, nn, hinv⟩
  obtain ⟨Sk, hbk, hok, hSk, hR, hbw, hnw, hdl⟩ := hinv
  have Hl1 := Lib.hid (Kd.C_below hl'.out (hbw.mono (Nat.le_refl _)))
  have HB1 := Lib.hid (hbx.out.trans (hbw.mono hbx.out.size))
  have Hkx1 := Lib.hid (blk_below hkx.out hbw)
  have Hbk := Lib.hid hbk
  have Hok := Lib.hid hok
  clear hbk hok hSk hR hbw hnw hdl hbx hl' hkx
  go_wp2_with fail
  refine (hpl.out _ Hl1.out).mono ?_
  rintro e w2 ⟨bl, v2, rfl, nn2, hinv⟩
  obtain ⟨Sl, hbl, _, hSl, _, hbw, _, _⟩ := hinv
  have HT : Hid (Both w w2 bk bl (playP n l).1 x y d ∧ (playP n l).1.n = n) := Lib.hid (by
    refine ⟨⟨Sk, Sl, Hbk.out.below hbw, hbl, Hok.out, fun i hi hi' => ?_, fun i hi hi' => ?_, fun h => ?_, blk_below Hkx1.out hbw, ?_⟩, hpn.out⟩
    · have h1 := hSl i hi'
      obtain ⟨_, _, _, _, _, _, _, _, _, h8⟩ := Hbk.out
      have := h8 i hi
      omega
    · have h1 := hSl i hi'
      have := HB1.out.size
      omega
    · have h1 := hSl w.heap.size h
      have := blk_lt Hkx1.out
      omega
    · exact HB1.out.trans (hbw.mono HB1.out.size))
  generalize (playP n l).1 = B at *
  obtain ⟨HBo, Hn⟩ := HT.out
  have HBo := Lib.hid HBo
  have Hn := Lib.hid Hn
  clear hSl hbw hpl hpn HB1 Hkx1 Hl1 Hbk Hok HT
  by_cases ht : Two n a b
  · go_wp2_with fail
    refine (refPair_yes n a b _ ht).mono ?_
    rintro e w3 ⟨rfl, hb3⟩
    obtain ⟨Sk, Sl, k1, k2, k3, k4, k5, k6, k7, k8⟩ := HBo.out
    have K1 := Lib.hid (k1.below hb3)
    have K2 := Lib.hid (k2.below hb3)
    have K3 := Lib.hid k3
    have K4 := Lib.hid k4
    have K5 := Lib.hid k5
    have K6 := Lib.hid k6
    have K7 := Lib.hid (blk_below k7 hb3)
    have K8 := Lib.hid (k8.trans (hb3.mono k8.size))
    have hc0 : w3.cell? ⟨w.heap.size, 0, none⟩ = some (.int .i64 x) := (blk_cell K7.out 0).trans rfl
    have hc1 : w3.cell? ⟨w.heap.size, 1, none⟩ = some (.int .i64 y) := (blk_cell K7.out 1).trans rfl
    have hc2 : w3.cell? ⟨w.heap.size, 2, none⟩ = some (.int .i64 d) := (blk_cell K7.out 2).trans rfl
    clear k1 k2 k3 k4 k5 k6 k7 k8 hb3 HBo
    go_wp2_with fail
    by_cases ht2 : Two n x y ∧ IsDay d
    · by_cases hlt : d < B.nw
      · refine (Meet_state bl B Sl x y d _ K2.out (by rw [Hn.out]; exact ht2.1) ht2.2 hlt).mono ?_
        rintro e w4 ⟨rfl, hb4⟩
        have HB4 := Lib.hid (K8.out.trans (hb4.mono K8.out.size))
        clear hb4
        go_wp2_with fail
        refine (awake_calls _).mono ?_
        rintro e w5 ⟨rfl, hb5⟩
        have HB5 := Lib.hid (HB4.out.trans (hb5.mono HB4.out.size))
        clear hb5
        go_wp2_with fail
        go_ret
        exact ⟨rfl, HB5.out⟩
      · have Hx := Lib.hid (helps_facts B K3.out n a b x y d ht ht2.1 ht2.2 hlt)
        have Hd := Lib.hid ht2
        have Hok' := Lib.hid (K3.out.meet (x := x) (y := y) ht2.2 hlt)
        refine (Meet_yes bl B Sl x y d _ K2.out K3.out (by rw [Hn.out]; exact ht2.1) ht2.2 hlt).mono ?_
        rintro e w4 ⟨rfl, Sl', hs1, hs2, hs3⟩
        have HB4 := Lib.hid (K8.out.trans (hs2.below K8.out.size K5.out))
        have X1 := Lib.hid (K1.out.keep hs2 K4.out)
        have X2 := Lib.hid hs3
        have X7 := Lib.hid (hs2.heap K7.out K6.out)
        have hTl : Hid (Two (B.meet x y d).n a b ∧ Two B.n a b) := Lib.hid ⟨by rw [show (B.meet x y d).n = B.n from rfl, Hn.out]; exact ht, by rw [Hn.out]; exact ht⟩
        obtain ⟨p, q, p', q', wv, wv', m, m', cc, e1, e2, e3, e4, e5, e6, e7, e8, e9, Hin, Hyes, Hno⟩ := Hx.out
        have W1 : Hid (∀ w3, BookAt w3 bk B Sk → Calls Try.prog 18 #[.pointer (some ⟨bk, 0, none⟩), .int .i64 a, .int .i64 b, .int .i64 d, .int .i64 5] w3 fun e w' => e = .returned (.tuple #[.agg #[.int .i64 p, .int .i64 q], .int .i64 0]) ∧ Below w3.heap.size w3 w') := Lib.hid (fun w3 h => by
          rw [e1, e2]; exact Within_yes bk B Sk a b d 5 w3 h K3.out hTl.out.2 Hd.out.2 (by omega))
        have W2 : Hid (∀ w3, BookAt w3 bl (B.meet x y d) Sl' → Calls Try.prog 18 #[.pointer (some ⟨bl, 0, none⟩), .int .i64 a, .int .i64 b, .int .i64 d, .int .i64 5] w3 fun e w' => e = .returned (.tuple #[.agg #[.int .i64 p', .int .i64 q'], .int .i64 0]) ∧ Below w3.heap.size w3 w') := Lib.hid (fun w3 h => by
          rw [e3, e4]; exact Within_yes bl _ Sl' a b d 5 w3 h Hok'.out hTl.out.1 Hd.out.2 (by omega))
        have W3 : Hid (∀ w3, BookAt w3 bk B Sk → Calls Try.prog 26 #[.pointer (some ⟨bk, 0, none⟩), .int .i64 a, .int .i64 b, .int .i64 d] w3 fun e w' => e = .returned (.tuple #[.int .i64 wv, .int .i64 0]) ∧ Below w3.heap.size w3 w') := Lib.hid (fun w3 h => by
          rw [e5]; exact Weight_yes bk B Sk a b d w3 h K3.out hTl.out.2 Hd.out.2)
        have W4 : Hid (∀ w3, BookAt w3 bl (B.meet x y d) Sl' → Calls Try.prog 26 #[.pointer (some ⟨bl, 0, none⟩), .int .i64 a, .int .i64 b, .int .i64 d] w3 fun e w' => e = .returned (.tuple #[.int .i64 wv', .int .i64 0]) ∧ Below w3.heap.size w3 w') := Lib.hid (fun w3 h => by
          rw [e6]; exact Weight_yes bl _ Sl' a b d w3 h Hok'.out hTl.out.1 Hd.out.2)
        have W5 : Hid (∀ w3, BookAt w3 bk B Sk → Calls Try.prog 27 #[.pointer (some ⟨bk, 0, none⟩), .int .i64 a, .int .i64 b] w3 fun e w' => e = .returned (.int .i64 m) ∧ Below w3.heap.size w3 w') := Lib.hid (fun w3 h => by
          rw [e7]; exact Count_calls bk B Sk a b w3 h)
        have W6 : Hid (∀ w3, BookAt w3 bl (B.meet x y d) Sl' → Calls Try.prog 27 #[.pointer (some ⟨bl, 0, none⟩), .int .i64 a, .int .i64 b] w3 fun e w' => e = .returned (.int .i64 m') ∧ Below w3.heap.size w3 w') := Lib.hid (fun w3 h => by
          rw [e8]; exact Count_calls bl _ Sl' a b w3 h)
        have He9 := Lib.hid e9
        have Hin := Lib.hid Hin
        have Hyes := Lib.hid Hyes
        have Hno := Lib.hid Hno
        generalize B.meet x y d = B' at *
        have hc0 : w4.cell? ⟨w.heap.size, 2, none⟩ = some (.int .i64 d) := (blk_cell X7.out 2).trans rfl
        clear e1 e2 e3 e4 e5 e6 e7 e8 e9 Hx hs1 hs2 hs3 K1 K2 K3 K4 K5 K6 K7 K8 Hok' Hn hc1 hc2
        go_wp2_with fail
        refine (W1.out _ X1.out).mono ?_
        rintro e w5 ⟨rfl, hb5⟩
        have X15 := Lib.hid (X1.out.below hb5)
        have X25 := Lib.hid (X2.out.below hb5)
        have X75 := Lib.hid (blk_below X7.out hb5)
        have HB5 := Lib.hid (HB4.out.trans (hb5.mono HB4.out.size))
        have hc1 : w5.cell? ⟨w.heap.size, 2, none⟩ = some (.int .i64 d) := (blk_cell X75.out 2).trans rfl
        have hlt5 := blk_lt X75.out
        clear hb5 hc0 X1 X2 X7 HB4
        go_wp2_with fail
        have hal := (Below.refl w5.heap.size w5).alloc (Nat.le_refl _) (.cells #[.int .i64 p, .int .i64 q] 23)
        refine (W2.out _ (X25.out.below hal)).mono ?_
        rintro e w6 ⟨rfl, hb6⟩
        have hb56 := hal.trans (hb6.mono hal.size)
        have X16 := Lib.hid (X15.out.below hb56)
        have X26 := Lib.hid (X25.out.below hb56)
        have X76 := Lib.hid (blk_below X75.out hb56)
        have HB6 := Lib.hid (HB5.out.trans (hb56.mono HB5.out.size))
        have F6 := Lib.hid ((Fb.new w5 p q).below hb6)
        have hc2 : w6.cell? ⟨w.heap.size, 2, none⟩ = some (.int .i64 d) := (blk_cell X76.out 2).trans rfl
        have hlt6 := blk_lt X76.out
        generalize w5.heap.size = g5 at *
        clear hal hb6 hb56 hc1 hlt5 X15 X25 X75 HB5
        go_wp2_with fail
        have hal := (Below.refl w6.heap.size w6).alloc (Nat.le_refl _) (.cells #[.int .i64 p', .int .i64 q'] 23)
        refine (W3.out _ (X16.out.below hal)).mono ?_
        rintro e w7 ⟨rfl, hb7⟩
        have hb67 := hal.trans (hb7.mono hal.size)
        have X17 := Lib.hid (X16.out.below hb67)
        have X27 := Lib.hid (X26.out.below hb67)
        have X77 := Lib.hid (blk_below X76.out hb67)
        have HB7 := Lib.hid (HB6.out.trans (hb67.mono HB6.out.size))
        have F7 := Lib.hid (F6.out.below hb67)
        have G7 := Lib.hid ((Fb.new w6 p' q').below hb7)
        have hc1 : w7.cell? ⟨w.heap.size, 2, none⟩ = some (.int .i64 d) := (blk_cell X77.out 2).trans rfl
        generalize w6.heap.size = g6 at *
        clear hal hb7 hb67 hc2 hlt6 X16 X26 X76 HB6 F6
        go_wp2_with fail
        refine (W4.out _ X27.out).mono ?_
        rintro e w8 ⟨rfl, hb8⟩
        have X18 := Lib.hid (X17.out.below hb8)
        have X28 := Lib.hid (X27.out.below hb8)
        have X78 := Lib.hid (blk_below X77.out hb8)
        have HB8 := Lib.hid (HB7.out.trans (hb8.mono HB7.out.size))
        have F8 := Lib.hid (F7.out.below hb8)
        have G8 := Lib.hid (G7.out.below hb8)
        have hc0 : w8.cell? ⟨w.heap.size, 0, none⟩ = some (.int .i64 x) := (blk_cell X78.out 0).trans rfl
        have hc2 : w8.cell? ⟨w.heap.size, 1, none⟩ = some (.int .i64 y) := (blk_cell X78.out 1).trans rfl
        clear hb8 hc1 X17 X27 X77 HB7 F7 G7 W1 W2 W3 W4
        go_upto_region 13 with (fail)
        go_cut [155] (fun v wc => v = .bool (decide ((x = a ∧ y = b) ∨ (x = b ∧ y = a))) ∧ Hid (wc = w8))
        case first =>
          have hab := ht.2.2
          clear ht
          by_cases q1 : x = a
          · have r1 : (x == a) = true := beq_iff_eq.2 q1
            by_cases q2 : y = b
            · have r2 : (y == b) = true := beq_iff_eq.2 q2
              have Hq := Lib.hid (show decide ((x = a ∧ y = b) ∨ (x = b ∧ y = a)) = true from decide_eq_true (.inl ⟨q1, q2⟩))
              clear q1 q2 hab
              go_wp2_with fail
              go_meet
              case rel => exact ⟨by rw [Hq.out], rfl⟩
            · have r2 : (y == b) = false := beq_eq_false_iff_ne.2 q2
              have r3 : (x == b) = false := beq_eq_false_iff_ne.2 (by omega)
              have Hq := Lib.hid (show decide ((x = a ∧ y = b) ∨ (x = b ∧ y = a)) = false from decide_eq_false (by omega))
              clear q1 q2 hab
              go_wp2_with fail
              go_meet
              case rel => exact ⟨by rw [Hq.out], rfl⟩
          · have r1 : (x == a) = false := beq_eq_false_iff_ne.2 q1
            by_cases q2 : x = b
            · have r2 : (x == b) = true := beq_iff_eq.2 q2
              by_cases q3 : y = a
              · have r3 : (y == a) = true := beq_iff_eq.2 q3
                have Hq := Lib.hid (show decide ((x = a ∧ y = b) ∨ (x = b ∧ y = a)) = true from decide_eq_true (.inr ⟨q2, q3⟩))
                clear q1 q2 q3 hab
                go_wp2_with fail
                go_meet
                case rel => exact ⟨by rw [Hq.out], rfl⟩
              · have r3 : (y == a) = false := beq_eq_false_iff_ne.2 q3
                have Hq := Lib.hid (show decide ((x = a ∧ y = b) ∨ (x = b ∧ y = a)) = false from decide_eq_false (by omega))
                clear q1 q2 q3 hab
                go_wp2_with fail
                go_meet
                case rel => exact ⟨by rw [Hq.out], rfl⟩
            · have r2 : (x == b) = false := beq_eq_false_iff_ne.2 q2
              have Hq := Lib.hid (show decide ((x = a ∧ y = b) ∨ (x = b ∧ y = a)) = false from decide_eq_false (by omega))
              clear q1 q2 hab
              go_wp2_with fail
              go_meet
              case rel => exact ⟨by rw [Hq.out], rfl⟩
        case rest =>
          obtain ⟨rfl, hwc⟩ := hcut
          have hwc := hwc.out
          subst hwc
          clear hc0 hc2
          by_cases hcond : (x = a ∧ y = b) ∨ (x = b ∧ y = a)
          · rw [decide_eq_true hcond]
            obtain ⟨hcc, hvv⟩ := Hyes.out hcond
            have d1 : decide (cc ≤ 0) = true := decide_eq_true hcc
            have d2 : decide (wv ≤ wv') = true := decide_eq_true hvv
            have hc0 := F8.out.c0
            have hc1 := F8.out.c1
            have hc2 := G8.out.c0
            have hc3 := G8.out.c1
            clear hcond hcc hvv
            go_wp2_with fail
            refine (Compare_yes p q p' q' _ Hin.out.1 Hin.out.2.1 Hin.out.2.2.1 Hin.out.2.2.2.1 Hin.out.2.2.2.2.1 Hin.out.2.2.2.2.2).mono ?_
            rintro e w9 ⟨rfl, hb9⟩
            rw [He9.out]
            have HB9 := Lib.hid (HB8.out.trans (hb9.mono HB8.out.size))
            clear hb9 hc0 hc1 hc2 hc3
            go_wp2_with fail
            refine (awake_calls _).mono ?_
            rintro e w10 ⟨rfl, hb10⟩
            have HB10 := Lib.hid (HB9.out.trans (hb10.mono HB9.out.size))
            clear hb10
            go_wp2_with fail
            go_ret
            exact ⟨rfl, HB10.out⟩
          · rw [decide_eq_false hcond]
            obtain ⟨rfl, rfl, rfl, rfl⟩ := Hno.out hcond
            clear hcond
            go_wp2_with fail
            refine (awake_calls _).mono ?_
            rintro e w9 ⟨rfl, hb9⟩
            have hc0 := (F8.out.below hb9).c0
            have hc1 := (F8.out.below hb9).c1
            have hc2 := (G8.out.below hb9).c0
            have hc3 := (G8.out.below hb9).c1
            have HB9 := Lib.hid (HB8.out.trans (hb9.mono HB8.out.size))
            have X19 := Lib.hid (X18.out.below hb9)
            have X29 := Lib.hid (X28.out.below hb9)
            clear hb9
            go_wp2_with fail
            refine (W5.out _ X19.out).mono ?_
            rintro e w10 ⟨rfl, hb10⟩
            have HB10 := Lib.hid (HB9.out.trans (hb10.mono HB9.out.size))
            have X20 := Lib.hid (X29.out.below hb10)
            clear hb10 hc0 hc1 hc2 hc3
            go_wp2_with fail
            refine (W6.out _ X20.out).mono ?_
            rintro e w11 ⟨rfl, hb11⟩
            have HB11 := Lib.hid (HB10.out.trans (hb11.mono HB10.out.size))
            clear hb11
            go_wp2_with fail
            go_ret
            exact ⟨rfl, HB11.out⟩
    · refine (Meet_arg bl B Sl x y d _ K2.out (by rw [Hn.out]; exact ht2)).mono ?_
      rintro e w4 ⟨rfl, hb4⟩
      have HB4 := Lib.hid (K8.out.trans (hb4.mono K8.out.size))
      clear hb4
      go_wp2_with fail
      refine (awake_calls _).mono ?_
      rintro e w5 ⟨rfl, hb5⟩
      have HB5 := Lib.hid (HB4.out.trans (hb5.mono HB4.out.size))
      clear hb5
      go_wp2_with fail
      go_ret
      exact ⟨rfl, HB5.out⟩
  · go_wp2_with fail
    refine (refPair_no n a b _ ht).mono ?_
    rintro e w3 ⟨rfl, hb3⟩
    obtain ⟨Sk, Sl, k1, k2, k3, k4, k5, k6, k7, k8⟩ := HBo.out
    have HB3 := Lib.hid (k8.trans (hb3.mono k8.size))
    clear k1 k2 k3 k4 k5 k6 k7 k8 hb3 HBo
    go_wp2_with fail
    refine (awake_calls _).mono ?_
    rintro e w5 ⟨rfl, hb5⟩
    have HB5 := Lib.hid (HB3.out.trans (hb5.mono HB3.out.size))
    clear hb5
    go_wp2_with fail
    go_ret
    exact ⟨rfl, HB5.out⟩
/-- The law, as the statement's frame takes it. -/
theorem Helps_walk (n : Int) (A : Option Addr) (c : Nat) (l : List S65) (x y d a b : Int) {w : World} (_ : (Lit.int .i64 n).wf = true) (hl : Kd.C k65 w A l.length l) (_ : ∀ p ∈ l, Q65 p)
    (_ : In64 x) (_ : In64 y) (_ : In64 d) (_ : (Lit.int .i64 a).wf = true) (_ : (Lit.int .i64 b).wf = true) :
    Calls Try.prog 7 #[.int .i64 n, .slice A l.length c, .agg #[.int .i64 x, .int .i64 y, .int .i64 d], .int .i64 a, .int .i64 b] w fun e w' => e = .returned (.bool true) ∧ Below w.heap.size w w' := by
  by_cases hk : 60 < l.length
  · exact helps_long n A c l.length x y d a b w hk hl.2.1
  · by_cases hn : 2 ≤ n ∧ n ≤ 12
    · exact helps_main n A c l x y d a b w hk hn.1 hn.2 hl
    · exact helps_bad n A c l.length x y d a b w hk hn
end Go.Proofs.Ytkbiggmkjbmgoaa.Bk
