/- The law MeetingstatsOthers: its walk, for every number, list of meetings, device and day, on the heap as it is. -/
import Derived.Test.YtkbiggmkjbmgoaaBF
namespace Go.Proofs.Ytkbiggmkjbmgoaa.Bk
open Go.RowKit Go.Proofs.YtkbiggmkjbmgoaaW.PrintWords Go.Proofs.YtkbiggmkjbmgoaaW.PrintLast Go.Proofs.YtkbiggmkjbmgoaaW.PrintMore Go.Proofs.Mp
open Go.Proofs.Ytkbiggmkjbmgoaa.PMeetingstatsRates (S65 k65)
set_option linter.unusedVariables false
set_option linter.unusedSimpArgs false

set_option maxRecDepth 100000 in
theorem others_long (n : Int) (A : Option Addr) (c : Nat) (k : Nat) (a day : Int) (w : World) (hk : 60 < k) (hm : k ≤ 9223372036854775807) :
    Calls Try.prog 11 #[.int .i64 n, .slice A k c, .int .i64 a, .int .i64 day] w fun e w' => e = .returned (.bool true) ∧ Below w.heap.size w w' := by
  go_enter Try.func11, Try.ntmps11
  go_wp2_with fail
  refine (awake_calls _).mono ?_
  rintro e w1 ⟨rfl, hb⟩
  go_wp2_with fail
  go_ret
  exact ⟨rfl, hb⟩
set_option maxRecDepth 100000 in
theorem others_bad (n : Int) (A : Option Addr) (c : Nat) (k : Nat) (a day : Int) (w : World) (hk : ¬ 60 < k) (hn : ¬ (2 ≤ n ∧ n ≤ 12)) :
    Calls Try.prog 11 #[.int .i64 n, .slice A k c, .int .i64 a, .int .i64 day] w fun e w' => e = .returned (.bool true) ∧ Below w.heap.size w w' := by
  have Hp := Lib.hid (fun w => play_no n A k c w hn)
  clear hn
  go_enter Try.func11, Try.ntmps11
  go_wp2_with fail
  refine (Hp.out _).mono ?_
  rintro e w1 ⟨rfl, hb⟩
  have HB3 := Lib.hid hb
  clear hb
  go_wp2_with fail
  refine (awake_calls _).mono ?_
  rintro e w4 ⟨rfl, hb4⟩
  have HB4 := Lib.hid (HB3.out.trans (hb4.mono HB3.out.size))
  clear hb4
  go_wp2_with fail
  go_ret
  exact ⟨rfl, HB4.out⟩
set_option maxHeartbeats 4000000 in
set_option maxRecDepth 100000 in
theorem others_arg (n : Int) (A : Option Addr) (c : Nat) (l : List S65) (a day : Int) (w : World) (hk : ¬ 60 < l.length) (h2 : 2 ≤ n) (h12 : n ≤ 12) (hl : Kd.C k65 w A l.length l) (hn : ¬ ((0 ≤ a ∧ a < n) ∧ IsDay day)) :
    Calls Try.prog 11 #[.int .i64 n, .slice A l.length c, .int .i64 a, .int .i64 day] w fun e w' => e = .returned (.bool true) ∧ Below w.heap.size w w' := by
  have hplay := Lib.hid (play_yes n A c l w h2 h12 hl (by omega))
  clear hl
  unfold IsDay at hn
  go_enter Try.func11, Try.ntmps11
  go_wp2_with fail
  refine hplay.out.mono ?_
  rintro e w1 ⟨bk, v, rfl, nn, hinv⟩
  obtain ⟨S, hbk, hok, hS, hR, hbw, hnw, hdl⟩ := hinv
  have HB3 := Lib.hid hbw
  clear hplay hbk hok hS hR hbw hnw hdl
  by_cases q3 : a < 0
  · clear hn
    go_wp2_with fail
    refine (awake_calls _).mono ?_
    rintro e w4 ⟨rfl, hb4⟩
    have HB4 := Lib.hid (HB3.out.trans (hb4.mono HB3.out.size))
    clear hb4
    go_wp2_with fail
    go_ret
    exact ⟨rfl, HB4.out⟩
  · by_cases q4 : n ≤ a
    · clear hn
      go_wp2_with fail
      refine (awake_calls _).mono ?_
      rintro e w4 ⟨rfl, hb4⟩
      have HB4 := Lib.hid (HB3.out.trans (hb4.mono HB3.out.size))
      clear hb4
      go_wp2_with fail
      go_ret
      exact ⟨rfl, HB4.out⟩
    · by_cases q1 : day < 0
      · clear hn
        go_wp2_with fail
        refine (awake_calls _).mono ?_
        rintro e w4 ⟨rfl, hb4⟩
        have HB4 := Lib.hid (HB3.out.trans (hb4.mono HB3.out.size))
        clear hb4
        go_wp2_with fail
        go_ret
        exact ⟨rfl, HB4.out⟩
      · have q2 : 999999 < day := by omega
        clear hn
        go_wp2_with fail
        refine (awake_calls _).mono ?_
        rintro e w4 ⟨rfl, hb4⟩
        have HB4 := Lib.hid (HB3.out.trans (hb4.mono HB3.out.size))
        clear hb4
        go_wp2_with fail
        go_ret
        exact ⟨rfl, HB4.out⟩
/-- How often each number below n stands in a list. -/
def cnt (n : Nat) (l : List Int) : List Int := (List.range n).map (fun x => ((l.count ((x : Nat) : Int) : Nat) : Int))
theorem cnt_len (n : Nat) (l : List Int) : (cnt n l).length = n := by simp [cnt]
theorem cnt_at (n : Nat) (l : List Int) (m : Nat) (hm : m < n) : (cnt n l)[m]? = some ((l.count (m : Int) : Nat) : Int) := by simp [cnt, hm]
theorem cnt_snoc (n : Nat) (l : List Int) (m : Nat) (hm : m < n) : cnt n (l ++ [(m : Int)]) = (cnt n l).set m ((l.count (m : Int) : Nat) + 1) := by
  apply List.ext_getElem
  · simp [cnt]
  · intro i h1 h2
    rw [List.getElem_set]
    simp only [cnt, List.getElem_map, List.getElem_range, List.count_append]
    by_cases h : m = i
    · subst h; simp
    · rw [if_neg h]
      have : ((m : Int) == (i : Int)) = false := beq_eq_false_iff_ne.2 (by omega)
      simp [List.count_singleton, this]
theorem cnt_perm (n : Nat) {l l' : List Int} (h : l.Perm l') : cnt n l = cnt n l' := by
  unfold cnt
  exact List.map_congr_left (fun x _ => by rw [h.count_eq])
theorem cnt_oth (n : Nat) (a : Int) (x : Nat) : ∀ k : Nat, (oth a k).count (x : Int) = if x < k ∧ (x : Int) ≠ a then 1 else 0
  | 0 => by simp [oth]
  | k + 1 => by
    have ih := cnt_oth n a x k
    unfold oth
    split
    · rename_i h
      rw [ih]
      by_cases h1 : x < k ∧ (x : Int) ≠ a
      · rw [if_pos h1, if_pos ⟨by omega, h1.2⟩]
      · rw [if_neg h1, if_neg (by omega)]
    · rename_i h
      rw [List.count_append, ih, List.count_singleton]
      by_cases h1 : x = k
      · subst h1
        simp [h]
      · have this : ((k : Int) == (x : Int)) = false := beq_eq_false_iff_ne.2 (by omega)
        have h5 : (x < k + 1) ↔ x < k := by omega
        simp only [this, h5]
        simp
theorem cnt_step (n : Nat) (a : Int) (k : Nat) (hk : k < n) : cnt n (oth a (k + 1)) = if (k : Int) = a then cnt n (oth a k) else (cnt n (oth a k)).set k 1 := by
  by_cases h : (k : Int) = a
  · rw [if_pos h, oth, if_pos h]
  · rw [if_neg h, oth, if_neg h, cnt_snoc n _ k hk, cnt_oth n a k k, if_neg (by omega)]
    rfl
theorem mk_zero (n : Nat) (a : Int) : madeCells #[Value.int .i64 0] n = ((cnt n []).map (Value.int .i64)).toArray := by
  apply Array.ext'
  rw [List.toList_toArray]
  apply List.ext_getElem
  · simp [madeCells, cnt]
  · intro i h1 h2
    simp [madeCells, cnt, Nat.mod_one]
/-- Block g is the list l. -/
def Blk (w : World) (g : Nat) (l : List Int) : Prop := w.heap[g]? = some (.cells ((l.map (Value.int .i64)).toArray) 3 (0, 0))
theorem Blk.cell {w : World} {g : Nat} {l : List Int} (h : Blk w g l) (i : Nat) (x : Int) (hi : l[i]? = some x) : w.cell? ⟨g, i, none⟩ = some (.int .i64 x) :=
  (blk_cell h i).trans (by simp [hi])
theorem Blk.put {w : World} {g : Nat} {l : List Int} (h : Blk w g l) (i : Nat) (x : Int) : Blk (w.setCell ⟨g, i, none⟩ (.int .i64 x)) g (l.set i x) :=
  blk_put h i _ (by simp [List.map_set])
theorem Blk.C {w : World} {g : Nat} {l : List Int} (h : Blk w g l) (hl : l.length ≤ 1000) : Kd.C (Kd.int .i64) w (some ⟨g, 0, none⟩) l.length l :=
  C_of_cells (by omega) (fun j hj => h.cell j _ (List.getElem?_eq_getElem hj))
set_option maxHeartbeats 1000000 in
set_option maxRecDepth 100000 in
theorem others_main (n0 : Nat) (A : Option Addr) (c : Nat) (l : List S65) (a day : Int) (w : World) (hk : ¬ 60 < l.length) (h2 : 2 ≤ n0) (h12 : n0 ≤ 12) (hl : Kd.C k65 w A l.length l) (ha0 : 0 ≤ a) (ha1 : a < n0) (hd : IsDay day) :
    Calls Try.prog 11 #[.int .i64 (n0 : Int), .slice A l.length c, .int .i64 a, .int .i64 day] w fun e w' => e = .returned (.bool true) ∧ Below w.heap.size w w' := by
  have hplay := Lib.hid (play_yes (n0 : Int) A c l w (by omega) (by omega) hl (by omega))
  have HP0 := Lib.hid (fun hd => played (n0 : Int) l (by omega) (by omega) (by omega) hd)
  have hd0 := hd.1
  have hd1 := hd.2
  have hmk := print_make (P := Try.prog) 39 3 .i64 8 Try.underlying39 info3 (by omega) n0 (by omega)
  clear hl
  go_enter Try.func11, Try.ntmps11
  go_wp2_with fail
  refine hplay.out.mono ?_
  rintro e w1 ⟨bk, v, rfl, nn, hinv⟩
  obtain ⟨S, hbk, hok, hS, hR, hbw, hnw, hdl⟩ := hinv
  have Hbk := Lib.hid hbk
  have HB1 := Lib.hid hbw
  have HPl := Lib.hid (HP0.out hdl)
  clear hplay hbk hok hS hR hbw hnw hdl HP0
  generalize (playP (n0 : Int) l).1 = B at *
  generalize (playP (n0 : Int) l).2 = dn at *
  go_wp2_with fail
  refine (Rank_yes bk B S a day _ Hbk.out HPl.out.ok ha0 (by rw [HPl.out.n]; exact ha1) hd).mono ?_
  rintro e w3 ⟨Ar, cr, ys, rfl, hcr, hperm, hsort, hCr, hb3⟩
  have HCr := Lib.hid hCr
  have HB3 := Lib.hid (HB1.out.trans (hb3.mono HB1.out.size))
  have Hperm : Hid (ys.Perm (oth a n0)) := Lib.hid (by rw [HPl.out.n, Int.toNat_natCast] at hperm; exact hperm)
  have HBg := Lib.hid ((Below.refl w3.heap.size w3).alloc (Nat.le_refl _) (.cells (madeCells #[.int .i64 0] n0) 3))
  have Hg : Hid (Blk (w3.alloc (.cells (madeCells #[.int .i64 0] n0) 3)) w3.heap.size (cnt n0 (ys.take 0))) := Lib.hid (by
    have := blk_new w3 (.cells (madeCells #[.int .i64 0] n0) 3)
    rw [mk_zero n0 a] at this ⊢
    exact this)
  have hyl : ys.length ≤ 12 := by
    have h1 := Hperm.out.length_eq
    have := (oth_len a n0).1
    omega
  clear hb3 HB1 Hbk hCr hperm hsort hcr HPl
  go_wp2_with fail
  generalize w3.alloc (.cells (madeCells #[.int .i64 0] n0) 3) = w4 at *
  generalize hgs : w3.heap.size = gs at *
  go_loopw [15] (fun v wr => ∃ i : Nat, i ≤ ys.length ∧ v = .int .i64 i ∧ Hid (Below w3.heap.size w3 wr) ∧ Hid (Blk wr gs (cnt n0 (ys.take i)))) (fun v _ => ys.length - (intOf v).toNat)
  case atStart => exact ⟨0, by omega, rfl, (by rw [hgs]; exact HBg), Hg⟩
  case round =>
    obtain ⟨i, hi, rfl, hB, hG⟩ := hrel
    by_cases hlt : i < ys.length
    · have hdec : decide ((i : Int) < (ys.length : Int)) = true := decide_eq_true (by omega)
      obtain ⟨ad, rfl, hci⟩ := Kd.at_int (Kd.C_below HCr.out hB.out) i (by omega) (by omega)
      rw [Int.toNat_natCast] at hci
      have hmem : rd ys (i : Int) ∈ oth a n0 := Hperm.out.mem_iff.1 (by rw [rd_l ys i hlt]; exact List.getElem_mem hlt)
      have hm := oth_lt hmem
      obtain ⟨m, hm2⟩ := Int.eq_ofNat_of_zero_le hm.1
      have hsnoc : Hid (cnt n0 (ys.take (i + 1)) = (cnt n0 (ys.take i)).set m (((ys.take i).count (m : Int) : Nat) + 1)) := Lib.hid (by
        rw [List.take_succ_eq_append_getElem hlt, ← rd_l ys i hlt, hm2]
        exact cnt_snoc n0 _ m (by omega))
      have hcl : Hid ((ys.take i).count (m : Int) ≤ 12) := Lib.hid (Nat.le_trans List.count_le_length (by rw [List.length_take]; omega))
      have hsm := hG.out.cell m _ (cnt_at n0 (ys.take i) m (by omega))
      generalize (ys.take i).count (m : Int) = q at *
      have hq := hcl.out
      rw [hm2] at hci
      have hml : (m : Int) < (n0 : Int) := by omega
      have hfz : wr.frozen? ⟨gs, m, none⟩ = false := blk_frozen hG.out m
      have HB9 := Lib.hid hB.out
      have HG9 := Lib.hid hG.out
      have hgl : w3.heap.size ≤ gs := by omega
      clear hmem hm hm2 hB hG hcl
      go_wp2_with fail
      go_roundw
      case rel => exact ⟨i + 1, by omega, by go_num, Lib.hid (HB9.out.setCell hgl _), Lib.hid (by rw [hsnoc.out]; exact HG9.out.put m _)⟩
      case measure => simp [intOf]; omega
    · have hdec : decide ((i : Int) < (ys.length : Int)) = false := decide_eq_false (by omega)
      obtain rfl : i = ys.length := by omega
      obtain ⟨wq, hwq⟩ : ∃ x, x = wr := ⟨_, rfl⟩
      subst hwq
      have HB5 := Lib.hid hB.out
      have HG5 : Hid (Blk wq gs (cnt n0 (oth a n0))) := Lib.hid (by
        have := hG.out
        rw [List.take_length, cnt_perm n0 Hperm.out] at this
        exact this)
      have HBg := Lib.hid ((Below.refl wq.heap.size wq).alloc (Nat.le_refl _) (.cells (madeCells #[.int .i64 0] n0) 3))
      have Hg2 : Hid (Blk (wq.alloc (.cells (madeCells #[.int .i64 0] n0) 3)) wq.heap.size (cnt n0 (oth a 0))) := Lib.hid (by
        have := blk_new wq (.cells (madeCells #[.int .i64 0] n0) 3)
        rw [mk_zero n0 a] at this ⊢
        exact this)
      clear hB hG
      go_wp2_with fail
      generalize wq.alloc (.cells (madeCells #[.int .i64 0] n0) 3) = w5 at *
      generalize hgt : wq.heap.size = gt at *
      go_loopw [17] (fun v wr => ∃ i : Nat, i ≤ n0 ∧ v = .int .i64 i ∧ Hid (Below wq.heap.size wq wr) ∧ Hid (Blk wr gt (cnt n0 (oth a i)))) (fun v _ => n0 - (intOf v).toNat)
      case atStart => exact ⟨0, by omega, rfl, (by rw [hgt]; exact HBg), Hg2⟩
      case round =>
        obtain ⟨i, hi, rfl, hB, hG⟩ := hrel
        by_cases hlti : i < n0
        · have hdeci : decide ((i : Int) < (n0 : Int)) = true := decide_eq_true (by omega)
          have hst := cnt_step n0 a i hlti
          have hgl : wq.heap.size ≤ gt := by omega
          have hfz : wr.frozen? ⟨gt, i, none⟩ = false := blk_frozen hG.out i
          have hc0 := hG.out.cell i _ (cnt_at n0 (oth a i) i hlti)
          have HB9 := Lib.hid hB.out
          have HG9 := Lib.hid hG.out
          by_cases hia : (i : Int) = a
          · have Hst : Hid (cnt n0 (oth a (i + 1)) = cnt n0 (oth a i)) := Lib.hid (by rw [hst, if_pos hia])
            have hb : ((i : Int) != a) = false := by rw [hia]; simp
            clear hst hia hB hG
            go_wp2_with fail
            go_roundw
            case rel => exact ⟨i + 1, by omega, by go_num, HB9, Lib.hid (by rw [Hst.out]; exact HG9.out)⟩
            case measure => simp [intOf]; omega
          · have Hst : Hid (cnt n0 (oth a (i + 1)) = (cnt n0 (oth a i)).set i 1) := Lib.hid (by rw [hst, if_neg hia])
            have hb : ((i : Int) != a) = true := by simp [hia]
            clear hst hia hB hG
            go_wp2_with fail
            go_roundw
            case rel => exact ⟨i + 1, by omega, by go_num, Lib.hid (HB9.out.setCell hgl _), Lib.hid (by rw [Hst.out]; exact HG9.out.put i _)⟩
            case measure => simp [intOf]; omega
        · have hdeci : decide ((i : Int) < (n0 : Int)) = false := decide_eq_false (by omega)
          obtain rfl : i = n0 := by omega
          have HB6 := Lib.hid hB.out
          have HG6 := Lib.hid hG.out
          have HG7 := Lib.hid (blk_below HG5.out hB.out)
          clear hB hG
          go_wp2_with fail
          refine (awake_calls _).mono ?_
          rintro e w8 ⟨rfl, hb8⟩
          have HG8 := Lib.hid (show Blk w8 gs (cnt i (oth a i)) from blk_below HG7.out hb8)
          have HG9 := Lib.hid (show Blk w8 gt (cnt i (oth a i)) from blk_below HG6.out hb8)
          have HB8 := Lib.hid (HB3.out.trans ((HB5.out.trans ((HB6.out.trans (hb8.mono HB6.out.size)).mono HB5.out.size)).mono HB3.out.size))
          clear hb8
          go_wp2_with fail
          have hI := refInts (some ⟨gs, 0, none⟩) (some ⟨gt, 0, none⟩) i i (cnt i (oth a i)) w8 (HG8.out.C (by rw [cnt_len]; omega)) (by rw [cnt_len]; exact Nat.le_refl _) (HG9.out.C (by rw [cnt_len]; omega)) (by rw [cnt_len]; exact Nat.le_refl _) (by rw [cnt_len]; omega)
          rw [cnt_len] at hI
          refine hI.mono ?_
          rintro e w9 ⟨rfl, hb9⟩
          have HB10 := Lib.hid (HB8.out.trans (hb9.mono HB8.out.size))
          clear hb9 hI
          go_wp2_with fail
          go_ret
          exact ⟨rfl, HB10.out⟩
/-- The law, as the statement's frame takes it. -/
theorem Others_walk (n : Int) (A : Option Addr) (c : Nat) (l : List S65) (a day : Int) {w : World} (_ : (Lit.int .i64 n).wf = true) (hl : Kd.C k65 w A l.length l) (_ : ∀ p ∈ l, Q65 p)
    (_ : (Lit.int .i64 a).wf = true) (_ : (Lit.int .i64 day).wf = true) :
    Calls Try.prog 11 #[.int .i64 n, .slice A l.length c, .int .i64 a, .int .i64 day] w fun e w' => e = .returned (.bool true) ∧ Below w.heap.size w w' := by
  by_cases hk : 60 < l.length
  · exact others_long n A c l.length a day w hk hl.2.1
  · by_cases hn : 2 ≤ n ∧ n ≤ 12
    · obtain ⟨n0, rfl⟩ := Int.eq_ofNat_of_zero_le (show 0 ≤ n by omega)
      by_cases ha : (0 ≤ a ∧ a < (n0 : Int)) ∧ IsDay day
      · exact others_main n0 A c l a day w hk (by omega) (by omega) hl ha.1.1 ha.1.2 ha.2
      · exact others_arg n0 A c l a day w hk hn.1 hn.2 hl ha
    · exact others_bad n A c l.length a day w hk hn
end Go.Proofs.Ytkbiggmkjbmgoaa.Bk
