/- The law MeetingstatsWeights: its walk, for every number, list of meetings, pair and day, on the heap as it is. -/
import Derived.Test.YtkbiggmkjbmgoaaBE
import Derived.Test.YtkbiggmkjbmgoaaE
import Derived.Test.YtkbiggmkjbmgoaaA
namespace Go.Proofs.Ytkbiggmkjbmgoaa.Bk
open Go.RowKit Go.Proofs.YtkbiggmkjbmgoaaW.PrintWords Go.Proofs.YtkbiggmkjbmgoaaW.PrintLast Go.Proofs.YtkbiggmkjbmgoaaW.PrintMore Go.Proofs.Mp
open Go.Proofs.Ytkbiggmkjbmgoaa.PMeetingstatsRates (S65 k65)
set_option linter.unusedVariables false
set_option linter.unusedSimpArgs false

set_option maxRecDepth 100000 in
theorem weights_long (n : Int) (A : Option Addr) (c : Nat) (k : Nat) (a b day : Int) (w : World) (hk : 60 < k) (hm : k ≤ 9223372036854775807) :
    Calls Try.prog 10 #[.int .i64 n, .slice A k c, .int .i64 a, .int .i64 b, .int .i64 day] w fun e w' => e = .returned (.bool true) ∧ Below w.heap.size w w' := by
  go_enter Try.func10, Try.ntmps10
  go_wp2_with fail
  refine (awake_calls _).mono ?_
  rintro e w1 ⟨rfl, hb⟩
  go_wp2_with fail
  go_ret
  exact ⟨rfl, hb⟩
set_option maxRecDepth 100000 in
theorem weights_bad (n : Int) (A : Option Addr) (c : Nat) (k : Nat) (a b day : Int) (w : World) (hk : ¬ 60 < k) (hn : ¬ (2 ≤ n ∧ n ≤ 12)) :
    Calls Try.prog 10 #[.int .i64 n, .slice A k c, .int .i64 a, .int .i64 b, .int .i64 day] w fun e w' => e = .returned (.bool true) ∧ Below w.heap.size w w' := by
  have Hp := Lib.hid (fun w => play_no n A k c w hn)
  clear hn
  go_enter Try.func10, Try.ntmps10
  go_wp2_with fail
  refine (Hp.out _).mono ?_
  rintro e w1 ⟨rfl, hb⟩
  have HB1 := Lib.hid hb
  clear hb
  go_wp2_with fail
  refine (awake_calls _).mono ?_
  rintro e w3 ⟨rfl, hb3⟩
  have HB3 := Lib.hid (HB1.out.trans (hb3.mono HB1.out.size))
  clear hb3
  go_wp2_with fail
  go_ret
  exact ⟨rfl, HB3.out⟩
set_option maxHeartbeats 4000000 in
set_option maxRecDepth 100000 in
theorem weights_arg (n : Int) (A : Option Addr) (c : Nat) (l : List S65) (a b day : Int) (w : World) (hk : ¬ 60 < l.length) (h2 : 2 ≤ n) (h12 : n ≤ 12) (hl : Kd.C k65 w A l.length l) (hn : ¬ ((0 ≤ a ∧ a < n) ∧ IsDay day)) :
    Calls Try.prog 10 #[.int .i64 n, .slice A l.length c, .int .i64 a, .int .i64 b, .int .i64 day] w fun e w' => e = .returned (.bool true) ∧ Below w.heap.size w w' := by
  have hplay := Lib.hid (play_yes n A c l w h2 h12 hl (by omega))
  have Hn := Lib.hid (playP_n n l)
  clear hl
  have hn0 := hn
  unfold IsDay at hn
  have Hn0 := Lib.hid hn0
  clear hn0
  go_enter Try.func10, Try.ntmps10
  go_wp2_with fail
  refine hplay.out.mono ?_
  rintro e w1 ⟨bk, v, rfl, nn, hinv⟩
  obtain ⟨S, hbk, hok, hS, hR, hbw, hnw, hdl⟩ := hinv
  obtain ⟨Av, cv, rfl, hcv, hCv⟩ := Kd.R_reads hR
  have Hbk := Lib.hid hbk
  have HB1 := Lib.hid hbw
  clear hplay hbk hok hS hR hbw hnw hCv hdl
  go_wp2_with fail
  refine (Weight_no bk _ S a b day _ Hbk.out (by rw [Hn.out]; exact fun h => Hn0.out ⟨h.1.1, h.2⟩)).mono ?_
  rintro e w2 ⟨rfl, hb2⟩
  have Hbk2 := Lib.hid (Hbk.out.below hb2)
  have HB2 := Lib.hid (HB1.out.trans (hb2.mono HB1.out.size))
  clear hb2 HB1 Hbk
  go_wp2_with fail
  refine (Rank_no bk _ S a day _ Hbk2.out (by rw [Hn.out]; exact Hn0.out)).mono ?_
  rintro e w3 ⟨rfl, hb3⟩
  have HB3 := Lib.hid (HB2.out.trans (hb3.mono HB2.out.size))
  clear hb3 HB2 Hbk2 Hn Hn0
  by_cases q1 : day < 0
  · clear hn
    go_wp2_with fail
    refine (awake_calls _).mono ?_
    rintro e w4 ⟨rfl, hb4⟩
    have HB4 := Lib.hid (HB3.out.trans (hb4.mono HB3.out.size))
    clear hb4
    go_wp2_with fail
    go_ret
    exact ⟨rfl, HB4.out⟩
  · by_cases q2 : 999999 < day
    · clear hn
      go_wp2_with fail
      refine (awake_calls _).mono ?_
      rintro e w4 ⟨rfl, hb4⟩
      have HB4 := Lib.hid (HB3.out.trans (hb4.mono HB3.out.size))
      clear hb4
      go_wp2_with fail
      go_ret
      exact ⟨rfl, HB4.out⟩
    · by_cases q3 : a < 0
      · clear hn
        go_wp2_with fail
        refine (awake_calls _).mono ?_
        rintro e w4 ⟨rfl, hb4⟩
        have HB4 := Lib.hid (HB3.out.trans (hb4.mono HB3.out.size))
        clear hb4
        go_wp2_with fail
        go_ret
        exact ⟨rfl, HB4.out⟩
      · have q4 : n ≤ a := by omega
        clear hn
        go_wp2_with fail
        refine (awake_calls _).mono ?_
        rintro e w4 ⟨rfl, hb4⟩
        have HB4 := Lib.hid (HB3.out.trans (hb4.mono HB3.out.size))
        clear hb4
        go_wp2_with fail
        go_ret
        exact ⟨rfl, HB4.out⟩
theorem oth_len_eq {a : Int} : ∀ k : Nat, 0 ≤ a → a < k → (oth a k).length = k - 1 := by
  have h2 : ∀ j : Nat, (j : Int) ≤ a → (oth a j).length = j := by
    intro j
    induction j with
    | zero => intro _; rfl
    | succ j ih => intro hj; unfold oth; rw [if_neg (by omega), List.length_append, ih (by omega)]; simp
  intro k
  induction k with
  | zero => intro h0 h1; omega
  | succ k ih =>
    intro h0 h1
    unfold oth
    split
    · rename_i h
      rw [h2 k (by omega)]; omega
    · rw [List.length_append, ih h0 (by omega)]; simp; omega
/-- What a played book and its list say together. -/
structure Played (n : Int) (B : Book) (dn : List S65) : Prop where
  ok : B.Ok
  n : B.n = n
  days : ∀ x y : Int, x ≠ y → B.D (min x y, max x y) = daysL dn x y
  len : ∀ p, (B.D p).length ≤ 60
  dlen : dn.length ≤ 60
theorem played (n : Int) (l : List S65) (h2 : 2 ≤ n) (h12 : n ≤ 12) (hl : l.length ≤ 60) (hd : (playP n l).2.length ≤ l.length) : Played n (playP n l).1 (playP n l).2 := by
  obtain ⟨h1, h3⟩ := playP_inv n h2 h12 l
  refine ⟨h1, playP_n n l, h3, fun p => ?_, by omega⟩
  have : ∀ (l : List S65) (st : Book × List S65) (m : Nat), (∀ p, (st.1.D p).length ≤ m) → ∀ p, ((l.foldl stepP st).1.D p).length ≤ m + l.length := by
    intro l
    induction l with
    | nil => intro st m h p; simpa using h p
    | cons x r ih =>
      intro st m h p
      rw [List.foldl_cons]
      have := ih (stepP st x) (m + 1) (fun p => by
        unfold stepP
        split
        · show (upd st.1.D _ _ p).length ≤ _
          unfold upd
          split
          · rename_i e
            subst e
            have h5 := h (min x.f0 x.f1, max x.f0 x.f1)
            unfold addDay
            split
            · simp
            · split
              · rw [List.length_append]; simp; omega
              · omega
          · have := h p; omega
        · have := h p; omega) p
      simp only [List.length_cons]; omega
  have h := this l (Book.empty n, []) 0 (fun p => Nat.le_refl _) p
  unfold playP
  omega
theorem daysW {n : Int} {B : Book} {dn : List S65} (hp : Played n B dn) (Av : Option Addr) (cv : Nat) (hcv : dn.length ≤ cv) (x y day : Int) (hxy : x ≠ y) (hd : IsDay day) :
    (∀ w, Kd.C k65 w Av dn.length dn → Calls Try.prog 21 #[.slice Av dn.length cv, .int .i64 x, .int .i64 y] w fun e w' => ∃ v, e = .returned v ∧ Kd.R (Kd.int .i64) 3 w' w.heap.size (fun _ => True) v (daysL dn x y) ∧ Below w.heap.size w w') ∧
    (∀ w A c, Kd.C (Kd.int .i64) w A (daysL dn x y).length (daysL dn x y) → (daysL dn x y).length ≤ c → Calls Try.prog 32 #[.slice A (daysL dn x y).length c, .int .i64 day] w fun e w' => e = .returned (.int .i64 (weightL (daysL dn x y) day)) ∧ Below w.heap.size w w') := by
  have e := hp.days x y hxy
  have h1 := hp.len (min x y, max x y)
  have h2 : ∀ m ∈ B.D (min x y, max x y), 0 ≤ m ∧ m ≤ 999999 := fun m hm => ⟨hp.ok.low _ m hm, by have := hp.ok.high _ m hm; have := hp.ok.nw1; omega⟩
  have h3 := hp.dlen
  rw [e] at h1 h2
  exact ⟨fun w hC => refDays Av cv dn x y w hC hcv (by omega), fun w A c hC hc => refWeight A c _ day w hC hc (by omega) h2 hd⟩
set_option maxHeartbeats 4000000 in
set_option maxRecDepth 100000 in
theorem weights_main (n : Int) (A : Option Addr) (c : Nat) (l : List S65) (a b day : Int) (w : World) (hk : ¬ 60 < l.length) (h2 : 2 ≤ n) (h12 : n ≤ 12) (hl : Kd.C k65 w A l.length l) (ha0 : 0 ≤ a) (ha1 : a < n) (hd : IsDay day) :
    Calls Try.prog 10 #[.int .i64 n, .slice A l.length c, .int .i64 a, .int .i64 b, .int .i64 day] w fun e w' => e = .returned (.bool true) ∧ Below w.heap.size w w' := by
  have hplay := Lib.hid (play_yes n A c l w h2 h12 hl (by omega))
  have HP0 := Lib.hid (fun hd => played n l h2 h12 (by omega) hd)
  have Hd := Lib.hid hd
  have hd0 := hd.1
  have hd1 := hd.2
  clear hl
  go_enter Try.func10, Try.ntmps10
  go_wp2_with fail
  refine hplay.out.mono ?_
  rintro e w1 ⟨bk, v, rfl, nn, hinv⟩
  obtain ⟨S, hbk, hok, hS, hR, hbw, hnw, hdl⟩ := hinv
  obtain ⟨Av, cv, rfl, hcv, hCv⟩ := Kd.R_reads hR
  have Hbk := Lib.hid hbk
  have HB1 := Lib.hid hbw
  have HPl := Lib.hid (HP0.out hdl)
  have Hcv := Lib.hid hcv
  have HC1 := Lib.hid hCv
  clear hplay hbk hok hS hR hbw hnw hCv hdl HP0 hcv
  generalize (playP n l).1 = B at *
  generalize (playP n l).2 = dn at *
  by_cases ht : Two n a b
  · have hab : Hid (a ≠ b) := Lib.hid ht.2.2
    have Hw := Lib.hid (fun w h => Weight_yes bk B S a b day w h HPl.out.ok (by rw [HPl.out.n]; exact ht) hd)
    rw [HPl.out.days a b hab.out] at Hw
    have Ht := Lib.hid ht
    clear ht
    go_wp2_with fail
    refine (Hw.out _ Hbk.out).mono ?_
    rintro e w2 ⟨rfl, hb2⟩
    have Hbk2 := Lib.hid (Hbk.out.below hb2)
    have HC2 := Lib.hid (Kd.C_below HC1.out hb2)
    have HB2 := Lib.hid (HB1.out.trans (hb2.mono HB1.out.size))
    clear hb2 HB1 Hbk Hw HC1
    go_wp2_with fail
    refine (Rank_yes bk B S a day _ Hbk2.out HPl.out.ok ha0 (by rw [HPl.out.n]; exact ha1) hd).mono ?_
    rintro e w3 ⟨Ar, cr, ys, rfl, hcr, hperm, hsort, hCr, hb3⟩
    have HCr := Lib.hid hCr
    have HC3 := Lib.hid (Kd.C_below HC2.out hb3)
    have HB3 := Lib.hid (HB2.out.trans (hb3.mono HB2.out.size))
    have Hperm := Lib.hid hperm
    have Hsort := Lib.hid hsort
    clear hb3 HB2 Hbk2 HC2 hCr hperm hsort hcr
    go_wp2_with fail
    refine (refPair_yes n a b _ Ht.out).mono ?_
    rintro e w4 ⟨rfl, hb4⟩
    have HCr4 := Lib.hid (Kd.C_below HCr.out hb4)
    have HC4 := Lib.hid (Kd.C_below HC3.out hb4)
    have HB4 := Lib.hid (HB3.out.trans (hb4.mono HB3.out.size))
    clear hb4 HB3 HCr HC3
    go_wp2_with fail
    refine ((daysW HPl.out Av cv Hcv.out a b day hab.out Hd.out).1 _ HC4.out).mono ?_
    rintro e w5 ⟨v5, rfl, hR5, hb5⟩
    obtain ⟨A5, c5, rfl, hc5, hC5⟩ := Kd.R_reads hR5
    have HC5 := Lib.hid hC5
    have Hc5 := Lib.hid hc5
    have HB5 := Lib.hid (HB4.out.trans (hb5.mono HB4.out.size))
    have HCr5 := Lib.hid (Kd.C_below HCr4.out hb5)
    have HCv5 := Lib.hid (Kd.C_below HC4.out hb5)
    clear hR5 hb5 hC5 hc5 HB4 HCr4 HC4
    go_wp2_with fail
    refine ((daysW HPl.out Av cv Hcv.out a b day hab.out Hd.out).2 _ A5 c5 HC5.out Hc5.out).mono ?_
    rintro e w6 ⟨rfl, hb6⟩
    have HB := Lib.hid (HB5.out.trans (hb6.mono HB5.out.size))
    have HCr := Lib.hid (Kd.C_below HCr5.out hb6)
    have HCv := Lib.hid (Kd.C_below HCv5.out hb6)
    clear hb6 HB5 HC5 Hc5 HCr5 HCv5
    generalize weightL (daysL dn a b) day = wab at *
    generalize hwL : w6 = wL at *
    clear hwL
    have hlenI : (ys.length : Int) = n - 1 := by
      have h1 := Hperm.out.length_eq
      rw [HPl.out.n] at h1
      have h3 := oth_len_eq (a := a) n.toNat ha0 (by omega)
      omega
    have HR : Hid (∀ i : Nat, i < ys.length → Two n a (rd ys i)) := Lib.hid (fun i hi => by
      have h1 : rd ys (i : Int) ∈ oth a B.n.toNat := Hperm.out.mem_iff.1 (by rw [rd_l ys i hi]; exact List.getElem_mem hi)
      have h3 := oth_lt h1
      rw [HPl.out.n] at h3
      unfold Two
      omega)
    have HS : Hid (∀ i j : Nat, i < j → j < ys.length → ¬ (weightL (daysL dn a (rd ys i)) day < weightL (daysL dn a (rd ys j)) day) ∧ (weightL (daysL dn a (rd ys i)) day = weightL (daysL dn a (rd ys j)) day → rd ys i < rd ys j)) := Lib.hid (fun i j hij hj => by
      have h1 := Hsort.out i j hij hj
      have ei : ys.getD i 0 = rd ys (i : Int) := by unfold rd; rw [Int.toNat_natCast]
      have ej : ys.getD j 0 = rd ys (j : Int) := by unfold rd; rw [Int.toNat_natCast]
      rw [ei, ej] at h1
      have hi' := HR.out i (by omega)
      have hj' := HR.out j hj
      rw [HPl.out.days a _ hi'.2.2, HPl.out.days a _ hj'.2.2] at h1
      have hnd : ys.Nodup := Hperm.out.nodup_iff.2 (oth_nodup a _)
      have hne : rd ys (i : Int) ≠ rd ys (j : Int) := by
        rw [rd_l ys i (by omega), rd_l ys j hj]
        exact List.pairwise_iff_getElem.1 hnd i j (by omega) hj hij
      omega)
    have HW := Lib.hid (fun y hay => daysW HPl.out Av cv Hcv.out a y day hay Hd.out)
    have hne : ((ys.length : Int) != n - 1) = false := by rw [hlenI]; simp
    have hyl : ys.length ≤ 12 := by omega
    clear hlenI Hperm Hsort
    go_wp2_with fail
    clear hne
    go_loopw [18] (fun v wr => ∃ i : Nat, i ≤ ys.length ∧ v = .int .i64 i ∧ Hid (Below wL.heap.size wL wr)) (fun v _ => ys.length - (intOf v).toNat)
    case atStart => exact ⟨0, by omega, rfl, Lib.hid (Below.refl _ _)⟩
    case round =>
      obtain ⟨i, hi, rfl, hB⟩ := hrel
      by_cases hlt : i < ys.length
      · have hdec : decide ((i : Int) < (ys.length : Int)) = true := decide_eq_true (by omega)
        obtain ⟨ad, rfl, hci⟩ := Kd.at_int (Kd.C_below HCr.out hB.out) i (by omega) (by omega)
        rw [Int.toNat_natCast] at hci
        have HB1 := Lib.hid hB.out
        clear hB
        have Hri := Lib.hid (HR.out i hlt)
        have HWi := Lib.hid (HW.out _ Hri.out.2.2)
        have HSi := Lib.hid (fun j hj => HS.out j i hj hlt)
        generalize hri : rd ys (i : Int) = ri at *
        go_wp2_with fail
        refine (refPair_yes n a ri _ Hri.out).mono ?_
        rintro e w7 ⟨rfl, hb7⟩
        have HB7 := Lib.hid (HB1.out.trans (hb7.mono HB1.out.size))
        clear hb7 HB1 hci
        go_wp2_with fail
        go_loopw [19] (fun v wr2 => ∃ j : Nat, j ≤ i ∧ v = .int .i64 j ∧ Hid (Below wL.heap.size wL wr2)) (fun v _ => i - (intOf v).toNat)
        case atStart => exact ⟨0, by omega, rfl, HB7⟩
        case round =>
          obtain ⟨j, hj, rfl, hB2⟩ := hrel
          by_cases hltj : j < i
          · have hdecj : decide ((j : Int) < (i : Int)) = true := decide_eq_true (by omega)
            have hjl : (j : Int) < (ys.length : Int) := by omega
            have HB8 := Lib.hid hB2.out
            clear hB2
            obtain ⟨ad2, he2, hcj⟩ := Kd.at_int (Kd.C_below HCr.out HB8.out) j (by omega) (by omega)
            obtain ⟨ad3, he3, hci⟩ := Kd.at_int (Kd.C_below HCr.out HB8.out) i (by omega) (by omega)
            injection he2 with he2
            injection he3 with he3
            subst he2
            subst he3
            rw [Int.toNat_natCast] at hcj hci
            rw [hri] at hci
            have Hrj := Lib.hid (HR.out j (by omega))
            have HWj := Lib.hid (HW.out _ Hrj.out.2.2)
            obtain ⟨hs1, hs2⟩ := HSi.out j hltj
            generalize hrj : rd ys (j : Int) = rj at *
            have hcj2 := Lib.hid hcj
            have hci2 := Lib.hid hci
            have HCv8 := Lib.hid (Kd.C_below HCv.out HB8.out)
            clear hcj hci
            have hs1' : decide (weightL (daysL dn a rj) day < weightL (daysL dn a ri) day) = false := decide_eq_false (by omega)
            have Hs2 := Lib.hid hs2
            clear hs1 hs2
            go_wp2_with fail
            refine start_ (n := 20) (S := fun W => W.cell? (ad.add j) = some (.int .i64 rj) ∧ W.cell? (ad.add i) = some (.int .i64 ri) ∧ Kd.C k65 W Av dn.length dn ∧ Below wL.heap.size wL W) (ds := []) #[false, false, false, false, false, false, false, false, false, false, false, false, false, false, false, false, false, false, false, false] (by kernel_rfl) rfl rfl ⟨hcj2.out, hci2.out, Kd.C_drew HCv8.out, HB8.out.drew⟩ (fun hHeld => ?_)
            refine pure_ (i := 0) (N := some 142) (v := ?_) (a' := ?_) #[true, false, false, false, false, false, false, false, false, false, false, false, false, false, false, false, false, false, false, false] rfl rfl (by kernel_rfl) (fun _ _ _ h => h) (Or.inl ⟨by rfl, ?_⟩) ?_ ?_
            rotate_left
            · intro w'
              go_simp
              with_reducible rfl
            rotate_left
            · simp only [Act.put, List.setIfInBounds_toArray, List.set_cons_zero, List.set_cons_succ, i64_w, i32_w]
              rfl
            refine pure_ (i := 1) (N := some 143) (v := ?_) (a' := ?_) #[true, true, false, false, false, false, false, false, false, false, false, false, false, false, false, false, false, false, false, false] rfl rfl (by kernel_rfl) (fun _ _ _ h => h) (Or.inl ⟨by rfl, ?_⟩) ?_ ?_
            rotate_left
            · intro w'
              go_simp
              with_reducible rfl
            rotate_left
            · simp only [Act.put, List.setIfInBounds_toArray, List.set_cons_zero, List.set_cons_succ, i64_w, i32_w]
              rfl
            refine pure_ (i := 2) (N := some 144) (v := ?_) (a' := ?_) #[true, true, true, false, false, false, false, false, false, false, false, false, false, false, false, false, false, false, false, false] rfl rfl (by kernel_rfl) (fun _ _ _ h => h) (Or.inl ⟨by rfl, ?_⟩) ?_ ?_
            rotate_left
            · intro w'
              go_simp
              with_reducible rfl
            rotate_left
            · simp only [Act.put, List.setIfInBounds_toArray, List.set_cons_zero, List.set_cons_succ, i64_w, i32_w]
              rfl
            refine pure_ (i := 3) (N := some 145) (v := ?_) (a' := ?_) #[true, true, true, true, false, false, false, false, false, false, false, false, false, false, false, false, false, false, false, false] rfl rfl (by kernel_rfl) (fun _ _ _ h => h) (Or.inl ⟨by rfl, ?_⟩) ?_ ?_
            rotate_left
            · intro w'
              go_simp
              with_reducible rfl
            rotate_left
            · simp only [Act.put, List.setIfInBounds_toArray, List.set_cons_zero, List.set_cons_succ, i64_w, i32_w]
              rfl
            refine pure_ (i := 4) (N := some 146) (v := ?_) (a' := ?_) #[true, true, true, true, true, false, false, false, false, false, false, false, false, false, false, false, false, false, false, false] rfl rfl (by kernel_rfl) (fun _ _ _ h => h) (Or.inl ⟨by rfl, ?_⟩) ?_ ?_
            rotate_left
            · intro w'
              go_simp
              with_reducible rfl
            rotate_left
            · simp only [Act.put, List.setIfInBounds_toArray, List.set_cons_zero, List.set_cons_succ, i64_w, i32_w]
              rfl
            refine take_ (i := 5) (N := some 147) (v := ?_) (a' := ?_) #[true, true, true, true, true, true, false, false, false, false, false, false, false, false, false, false, false, false, false, false] rfl rfl (by kernel_rfl) (fun _ _ _ h => h) (Or.inl ⟨by rfl, ?_⟩) hHeld ?_ ?_
            rotate_left
            · rintro w' ⟨s0, s1, s2, s3⟩
              go_simp
              with_reducible rfl
            rotate_left
            · simp only [Act.put, List.setIfInBounds_toArray, List.set_cons_zero, List.set_cons_succ, i64_w, i32_w]
              rfl
            refine pure_ (i := 7) (N := some 149) (v := ?_) (a' := ?_) #[true, true, true, true, true, true, false, true, false, false, false, false, false, false, false, false, false, false, false, false] rfl rfl (by kernel_rfl) (fun _ _ _ h => h) (Or.inl ⟨by rfl, ?_⟩) ?_ ?_
            rotate_left
            · intro w'
              go_simp
              with_reducible rfl
            rotate_left
            · simp only [Act.put, List.setIfInBounds_toArray, List.set_cons_zero, List.set_cons_succ, i64_w, i32_w]
              rfl
            refine pure_ (i := 9) (N := some 151) (v := ?_) (a' := ?_) #[true, true, true, true, true, true, false, true, false, true, false, false, false, false, false, false, false, false, false, false] rfl rfl (by kernel_rfl) (fun _ _ _ h => h) (Or.inl ⟨by rfl, ?_⟩) ?_ ?_
            rotate_left
            · intro w'
              go_simp
              with_reducible rfl
            rotate_left
            · simp only [Act.put, List.setIfInBounds_toArray, List.set_cons_zero, List.set_cons_succ, i64_w, i32_w]
              rfl
            refine pure_ (i := 10) (N := some 152) (v := ?_) (a' := ?_) #[true, true, true, true, true, true, false, true, false, true, true, false, false, false, false, false, false, false, false, false] rfl rfl (by kernel_rfl) (fun _ _ _ h => h) (Or.inl ⟨by rfl, ?_⟩) ?_ ?_
            rotate_left
            · intro w'
              go_simp
              with_reducible rfl
            rotate_left
            · simp only [Act.put, List.setIfInBounds_toArray, List.set_cons_zero, List.set_cons_succ, i64_w, i32_w]
              rfl
            refine pure_ (i := 11) (N := some 153) (v := ?_) (a' := ?_) #[true, true, true, true, true, true, false, true, false, true, true, true, false, false, false, false, false, false, false, false] rfl rfl (by kernel_rfl) (fun _ _ _ h => h) (Or.inl ⟨by rfl, ?_⟩) ?_ ?_
            rotate_left
            · intro w'
              go_simp
              with_reducible rfl
            rotate_left
            · simp only [Act.put, List.setIfInBounds_toArray, List.set_cons_zero, List.set_cons_succ, i64_w, i32_w]
              rfl
            refine pure_ (i := 12) (N := some 154) (v := ?_) (a' := ?_) #[true, true, true, true, true, true, false, true, false, true, true, true, true, false, false, false, false, false, false, false] rfl rfl (by kernel_rfl) (fun _ _ _ h => h) (Or.inl ⟨by rfl, ?_⟩) ?_ ?_
            rotate_left
            · intro w'
              go_simp
              with_reducible rfl
            rotate_left
            · simp only [Act.put, List.setIfInBounds_toArray, List.set_cons_zero, List.set_cons_succ, i64_w, i32_w]
              rfl
            refine pure_ (i := 13) (N := some 155) (v := ?_) (a' := ?_) #[true, true, true, true, true, true, false, true, false, true, true, true, true, true, false, false, false, false, false, false] rfl rfl (by kernel_rfl) (fun _ _ _ h => h) (Or.inl ⟨by rfl, ?_⟩) ?_ ?_
            rotate_left
            · intro w'
              go_simp
              with_reducible rfl
            rotate_left
            · simp only [Act.put, List.setIfInBounds_toArray, List.set_cons_zero, List.set_cons_succ, i64_w, i32_w]
              rfl
            refine take_ (i := 14) (N := some 156) (v := ?_) (a' := ?_) #[true, true, true, true, true, true, false, true, false, true, true, true, true, true, true, false, false, false, false, false] rfl rfl (by kernel_rfl) (fun _ _ _ h => h) (Or.inl ⟨by rfl, ?_⟩) hHeld ?_ ?_
            rotate_left
            · rintro w' ⟨s0, s1, s2, s3⟩
              go_simp
              with_reducible rfl
            rotate_left
            · simp only [Act.put, List.setIfInBounds_toArray, List.set_cons_zero, List.set_cons_succ, i64_w, i32_w]
              rfl
            refine pure_ (i := 16) (N := some 158) (v := ?_) (a' := ?_) #[true, true, true, true, true, true, false, true, false, true, true, true, true, true, true, false, true, false, false, false] rfl rfl (by kernel_rfl) (fun _ _ _ h => h) (Or.inl ⟨by rfl, ?_⟩) ?_ ?_
            rotate_left
            · intro w'
              go_simp
              with_reducible rfl
            rotate_left
            · simp only [Act.put, List.setIfInBounds_toArray, List.set_cons_zero, List.set_cons_succ, i64_w, i32_w]
              rfl
            refine one_ (i := 6) (N := some 148) #[true, true, true, true, true, true, true, true, false, true, true, true, true, true, true, false, true, false, false, false] rfl rfl (by kernel_rfl) (by decide) (fun K hK => ?_)
            refine goes_ Try.func21 (by kernel_rfl) rfl #[.slice Av dn.length cv, .int .i64 a, .int .i64 rj] (by rfl) rfl rfl (by (try simp only [List.map_toArray, List.map_cons, List.map_nil]); first | done | rfl) ?_
            refine (HWj.out.1 _ hHeld.2.2.1).mono ?_
            rintro e w9 ⟨v9, rfl, hR9, hb9⟩
            obtain ⟨A9, c9, rfl, hc9, hC9⟩ := Kd.R_reads hR9
            refine ⟨_, rfl, hK.out _ _ ⟨(hb9.cell (p := ad.add j) (World.block_lt_of_cell? _ _ hHeld.1)).trans hHeld.1, (hb9.cell (p := ad.add i) (World.block_lt_of_cell? _ _ hHeld.2.1)).trans hHeld.2.1, Kd.C_below hHeld.2.2.1 hb9, hHeld.2.2.2.trans (hb9.mono hHeld.2.2.2.size)⟩ (fun hHeld => ?_)⟩
            clear hK K hb9 hR9
            refine norm_ (a' := ?_) ?_ ?_
            rotate_left
            · simp only [Act.put, List.setIfInBounds_toArray, List.set_cons_zero, List.set_cons_succ, i64_w, i32_w]
              rfl
            refine one_ (i := 8) (N := some 150) #[true, true, true, true, true, true, true, true, true, true, true, true, true, true, true, false, true, false, false, false] rfl rfl (by kernel_rfl) (by decide) (fun K hK => ?_)
            refine goes_ Try.func32 (by kernel_rfl) rfl #[.slice A9 (daysL dn a rj).length c9, .int .i64 day] (by rfl) rfl rfl (by (try simp only [List.map_toArray, List.map_cons, List.map_nil]); first | done | rfl) ?_
            refine (HWj.out.2 _ A9 c9 hC9 hc9).mono ?_
            rintro e w10 ⟨rfl, hb9⟩
            refine ⟨_, rfl, hK.out _ _ ⟨(hb9.cell (p := ad.add j) (World.block_lt_of_cell? _ _ hHeld.1)).trans hHeld.1, (hb9.cell (p := ad.add i) (World.block_lt_of_cell? _ _ hHeld.2.1)).trans hHeld.2.1, Kd.C_below hHeld.2.2.1 hb9, hHeld.2.2.2.trans (hb9.mono hHeld.2.2.2.size)⟩ (fun hHeld => ?_)⟩
            clear hK K hb9 hC9 hc9
            refine norm_ (a' := ?_) ?_ ?_
            rotate_left
            · simp only [Act.put, List.setIfInBounds_toArray, List.set_cons_zero, List.set_cons_succ, i64_w, i32_w]
              rfl
            refine one_ (i := 15) (N := some 157) #[true, true, true, true, true, true, true, true, true, true, true, true, true, true, true, true, true, false, false, false] rfl rfl (by kernel_rfl) (by decide) (fun K hK => ?_)
            refine goes_ Try.func21 (by kernel_rfl) rfl #[.slice Av dn.length cv, .int .i64 a, .int .i64 ri] (by rfl) rfl rfl (by (try simp only [List.map_toArray, List.map_cons, List.map_nil]); first | done | rfl) ?_
            refine (HWi.out.1 _ hHeld.2.2.1).mono ?_
            rintro e w11 ⟨v9, rfl, hR9, hb9⟩
            obtain ⟨A11, c11, rfl, hc9, hC9⟩ := Kd.R_reads hR9
            refine ⟨_, rfl, hK.out _ _ ⟨(hb9.cell (p := ad.add j) (World.block_lt_of_cell? _ _ hHeld.1)).trans hHeld.1, (hb9.cell (p := ad.add i) (World.block_lt_of_cell? _ _ hHeld.2.1)).trans hHeld.2.1, Kd.C_below hHeld.2.2.1 hb9, hHeld.2.2.2.trans (hb9.mono hHeld.2.2.2.size)⟩ (fun hHeld => ?_)⟩
            clear hK K hb9 hR9
            refine norm_ (a' := ?_) ?_ ?_
            rotate_left
            · simp only [Act.put, List.setIfInBounds_toArray, List.set_cons_zero, List.set_cons_succ, i64_w, i32_w]
              rfl
            refine one_ (i := 17) (N := some 159) #[true, true, true, true, true, true, true, true, true, true, true, true, true, true, true, true, true, true, false, false] rfl rfl (by kernel_rfl) (by decide) (fun K hK => ?_)
            refine goes_ Try.func32 (by kernel_rfl) rfl #[.slice A11 (daysL dn a ri).length c11, .int .i64 day] (by rfl) rfl rfl (by (try simp only [List.map_toArray, List.map_cons, List.map_nil]); first | done | rfl) ?_
            refine (HWi.out.2 _ A11 c11 hC9 hc9).mono ?_
            rintro e w12 ⟨rfl, hb9⟩
            refine ⟨_, rfl, hK.out _ _ ⟨(hb9.cell (p := ad.add j) (World.block_lt_of_cell? _ _ hHeld.1)).trans hHeld.1, (hb9.cell (p := ad.add i) (World.block_lt_of_cell? _ _ hHeld.2.1)).trans hHeld.2.1, Kd.C_below hHeld.2.2.1 hb9, hHeld.2.2.2.trans (hb9.mono hHeld.2.2.2.size)⟩ (fun hHeld => ?_)⟩
            clear hK K hb9 hC9 hc9
            refine norm_ (a' := ?_) ?_ ?_
            rotate_left
            · simp only [Act.put, List.setIfInBounds_toArray, List.set_cons_zero, List.set_cons_succ, i64_w, i32_w]
              rfl
            refine pure_ (i := 18) (N := some 20) (v := ?_) (a' := ?_) #[true, true, true, true, true, true, true, true, true, true, true, true, true, true, true, true, true, true, true, false] rfl rfl (by kernel_rfl) (fun _ _ _ h => h) (Or.inl ⟨by rfl, ?_⟩) ?_ ?_
            rotate_left
            · intro w'
              go_simp
              with_reducible rfl
            rotate_left
            · simp only [Act.put, List.setIfInBounds_toArray, List.set_cons_zero, List.set_cons_succ, i64_w, i32_w]
              rfl
            refine pure_ (i := 19) (N := some 21) (v := ?_) (a' := ?_) #[true, true, true, true, true, true, true, true, true, true, true, true, true, true, true, true, true, true, true, true] rfl rfl (by kernel_rfl) (fun _ _ _ h => h) (Or.inl ⟨by rfl, ?_⟩) ?_ ?_
            rotate_left
            · intro w'
              go_simp
              with_reducible rfl
            rotate_left
            · simp only [Act.put, List.setIfInBounds_toArray, List.set_cons_zero, List.set_cons_succ, i64_w, i32_w]
              rfl
            have HB12 := Lib.hid hHeld.2.2.2
            have hcj := hHeld.1
            have hci := hHeld.2.1
            clear hHeld hcj2 hci2 HCv8 HB8
            refine done_ (by kernel_rfl) ?_
            generalize weightL (daysL dn a rj) day = X at *
            generalize weightL (daysL dn a ri) day = Y at *
            by_cases hXY : X = Y
            · have hq := Hs2.out hXY
              have hq1 : (X == Y) = true := beq_iff_eq.2 hXY
              have hq2 : decide (ri ≤ rj) = false := decide_eq_false (by omega)
              clear hXY hq
              go_wp2_with fail
              go_quiet (fail)
              go_wp2_with fail
              go_roundw
              case rel => exact ⟨j + 1, by omega, by go_num, Lib.hid (HB12.out.trans (pw_below_drewN (Below.refl _ _) _ |>.mono HB12.out.size))⟩
              case measure => simp [intOf]; omega
            · have hq1 : (X == Y) = false := beq_eq_false_iff_ne.2 hXY
              clear hXY
              go_wp2_with fail
              go_quiet (fail)
              go_wp2_with fail
              go_roundw
              case rel => exact ⟨j + 1, by omega, by go_num, Lib.hid (HB12.out.trans (pw_below_drewN (Below.refl _ _) _ |>.mono HB12.out.size))⟩
              case measure => simp [intOf]; omega
          · have hdecj : decide ((j : Int) < (i : Int)) = false := decide_eq_false (by omega)
            go_wp2_with fail
            go_roundw
            case rel => exact ⟨i + 1, by omega, by go_num, hB2⟩
            case measure => simp [intOf]; omega
      · have hdec : decide ((i : Int) < (ys.length : Int)) = false := decide_eq_false (by omega)
        go_wp2_with fail
        refine (awake_calls _).mono ?_
        rintro e w8 ⟨rfl, hb8⟩
        have HBe := Lib.hid (HB.out.trans ((hB.out.trans (hb8.mono hB.out.size)).mono HB.out.size))
        clear hb8
        go_wp2_with fail
        go_ret
        exact ⟨rfl, HBe.out⟩
  · have Hw := Lib.hid (fun w h => Weight_no bk B S a b day w h (fun h => ht (by rw [HPl.out.n] at h; exact h.1)))
    have Ht := Lib.hid ht
    clear ht
    go_wp2_with fail
    refine (Hw.out _ Hbk.out).mono ?_
    rintro e w2 ⟨rfl, hb2⟩
    have Hbk2 := Lib.hid (Hbk.out.below hb2)
    have HC2 := Lib.hid (Kd.C_below HC1.out hb2)
    have HB2 := Lib.hid (HB1.out.trans (hb2.mono HB1.out.size))
    clear hb2 HB1 Hbk Hw HC1
    go_wp2_with fail
    refine (Rank_yes bk B S a day _ Hbk2.out HPl.out.ok ha0 (by rw [HPl.out.n]; exact ha1) hd).mono ?_
    rintro e w3 ⟨Ar, cr, ys, rfl, hcr, hperm, hsort, hCr, hb3⟩
    have HCr := Lib.hid hCr
    have HC3 := Lib.hid (Kd.C_below HC2.out hb3)
    have HB3 := Lib.hid (HB2.out.trans (hb3.mono HB2.out.size))
    have Hperm := Lib.hid hperm
    have Hsort := Lib.hid hsort
    clear hb3 HB2 Hbk2 HC2 hCr hperm hsort hcr
    go_wp2_with fail
    refine (refPair_no n a b _ Ht.out).mono ?_
    rintro e w4 ⟨rfl, hb4⟩
    have HCr4 := Lib.hid (Kd.C_below HCr.out hb4)
    have HC4 := Lib.hid (Kd.C_below HC3.out hb4)
    have HB := Lib.hid (HB3.out.trans (hb4.mono HB3.out.size))
    clear hb4 HB3 HCr HC3
    have HCr := HCr4
    have HCv := HC4
    clear HCr4 HC4
    generalize hwL : w4 = wL at *
    clear hwL
    have hlenI : (ys.length : Int) = n - 1 := by
      have h1 := Hperm.out.length_eq
      rw [HPl.out.n] at h1
      have h3 := oth_len_eq (a := a) n.toNat ha0 (by omega)
      omega
    have HR : Hid (∀ i : Nat, i < ys.length → Two n a (rd ys i)) := Lib.hid (fun i hi => by
      have h1 : rd ys (i : Int) ∈ oth a B.n.toNat := Hperm.out.mem_iff.1 (by rw [rd_l ys i hi]; exact List.getElem_mem hi)
      have h3 := oth_lt h1
      rw [HPl.out.n] at h3
      unfold Two
      omega)
    have HS : Hid (∀ i j : Nat, i < j → j < ys.length → ¬ (weightL (daysL dn a (rd ys i)) day < weightL (daysL dn a (rd ys j)) day) ∧ (weightL (daysL dn a (rd ys i)) day = weightL (daysL dn a (rd ys j)) day → rd ys i < rd ys j)) := Lib.hid (fun i j hij hj => by
      have h1 := Hsort.out i j hij hj
      have ei : ys.getD i 0 = rd ys (i : Int) := by unfold rd; rw [Int.toNat_natCast]
      have ej : ys.getD j 0 = rd ys (j : Int) := by unfold rd; rw [Int.toNat_natCast]
      rw [ei, ej] at h1
      have hi' := HR.out i (by omega)
      have hj' := HR.out j hj
      rw [HPl.out.days a _ hi'.2.2, HPl.out.days a _ hj'.2.2] at h1
      have hnd : ys.Nodup := Hperm.out.nodup_iff.2 (oth_nodup a _)
      have hne : rd ys (i : Int) ≠ rd ys (j : Int) := by
        rw [rd_l ys i (by omega), rd_l ys j hj]
        exact List.pairwise_iff_getElem.1 hnd i j (by omega) hj hij
      omega)
    have HW := Lib.hid (fun y hay => daysW HPl.out Av cv Hcv.out a y day hay Hd.out)
    have hne : ((ys.length : Int) != n - 1) = false := by rw [hlenI]; simp
    have hyl : ys.length ≤ 12 := by omega
    clear hlenI Hperm Hsort
    go_wp2_with fail
    clear hne
    go_loopw [18] (fun v wr => ∃ i : Nat, i ≤ ys.length ∧ v = .int .i64 i ∧ Hid (Below wL.heap.size wL wr)) (fun v _ => ys.length - (intOf v).toNat)
    case atStart => exact ⟨0, by omega, rfl, Lib.hid (Below.refl _ _)⟩
    case round =>
      obtain ⟨i, hi, rfl, hB⟩ := hrel
      by_cases hlt : i < ys.length
      · have hdec : decide ((i : Int) < (ys.length : Int)) = true := decide_eq_true (by omega)
        obtain ⟨ad, rfl, hci⟩ := Kd.at_int (Kd.C_below HCr.out hB.out) i (by omega) (by omega)
        rw [Int.toNat_natCast] at hci
        have HB1 := Lib.hid hB.out
        clear hB
        have Hri := Lib.hid (HR.out i hlt)
        have HWi := Lib.hid (HW.out _ Hri.out.2.2)
        have HSi := Lib.hid (fun j hj => HS.out j i hj hlt)
        generalize hri : rd ys (i : Int) = ri at *
        go_wp2_with fail
        refine (refPair_yes n a ri _ Hri.out).mono ?_
        rintro e w7 ⟨rfl, hb7⟩
        have HB7 := Lib.hid (HB1.out.trans (hb7.mono HB1.out.size))
        clear hb7 HB1 hci
        go_wp2_with fail
        go_loopw [19] (fun v wr2 => ∃ j : Nat, j ≤ i ∧ v = .int .i64 j ∧ Hid (Below wL.heap.size wL wr2)) (fun v _ => i - (intOf v).toNat)
        case atStart => exact ⟨0, by omega, rfl, HB7⟩
        case round =>
          obtain ⟨j, hj, rfl, hB2⟩ := hrel
          by_cases hltj : j < i
          · have hdecj : decide ((j : Int) < (i : Int)) = true := decide_eq_true (by omega)
            have hjl : (j : Int) < (ys.length : Int) := by omega
            have HB8 := Lib.hid hB2.out
            clear hB2
            obtain ⟨ad2, he2, hcj⟩ := Kd.at_int (Kd.C_below HCr.out HB8.out) j (by omega) (by omega)
            obtain ⟨ad3, he3, hci⟩ := Kd.at_int (Kd.C_below HCr.out HB8.out) i (by omega) (by omega)
            injection he2 with he2
            injection he3 with he3
            subst he2
            subst he3
            rw [Int.toNat_natCast] at hcj hci
            rw [hri] at hci
            have Hrj := Lib.hid (HR.out j (by omega))
            have HWj := Lib.hid (HW.out _ Hrj.out.2.2)
            obtain ⟨hs1, hs2⟩ := HSi.out j hltj
            generalize hrj : rd ys (j : Int) = rj at *
            have hcj2 := Lib.hid hcj
            have hci2 := Lib.hid hci
            have HCv8 := Lib.hid (Kd.C_below HCv.out HB8.out)
            clear hcj hci
            have hs1' : decide (weightL (daysL dn a rj) day < weightL (daysL dn a ri) day) = false := decide_eq_false (by omega)
            have Hs2 := Lib.hid hs2
            clear hs1 hs2
            go_wp2_with fail
            refine start_ (n := 20) (S := fun W => W.cell? (ad.add j) = some (.int .i64 rj) ∧ W.cell? (ad.add i) = some (.int .i64 ri) ∧ Kd.C k65 W Av dn.length dn ∧ Below wL.heap.size wL W) (ds := []) #[false, false, false, false, false, false, false, false, false, false, false, false, false, false, false, false, false, false, false, false] (by kernel_rfl) rfl rfl ⟨hcj2.out, hci2.out, Kd.C_drew HCv8.out, HB8.out.drew⟩ (fun hHeld => ?_)
            refine pure_ (i := 0) (N := some 142) (v := ?_) (a' := ?_) #[true, false, false, false, false, false, false, false, false, false, false, false, false, false, false, false, false, false, false, false] rfl rfl (by kernel_rfl) (fun _ _ _ h => h) (Or.inl ⟨by rfl, ?_⟩) ?_ ?_
            rotate_left
            · intro w'
              go_simp
              with_reducible rfl
            rotate_left
            · simp only [Act.put, List.setIfInBounds_toArray, List.set_cons_zero, List.set_cons_succ, i64_w, i32_w]
              rfl
            refine pure_ (i := 1) (N := some 143) (v := ?_) (a' := ?_) #[true, true, false, false, false, false, false, false, false, false, false, false, false, false, false, false, false, false, false, false] rfl rfl (by kernel_rfl) (fun _ _ _ h => h) (Or.inl ⟨by rfl, ?_⟩) ?_ ?_
            rotate_left
            · intro w'
              go_simp
              with_reducible rfl
            rotate_left
            · simp only [Act.put, List.setIfInBounds_toArray, List.set_cons_zero, List.set_cons_succ, i64_w, i32_w]
              rfl
            refine pure_ (i := 2) (N := some 144) (v := ?_) (a' := ?_) #[true, true, true, false, false, false, false, false, false, false, false, false, false, false, false, false, false, false, false, false] rfl rfl (by kernel_rfl) (fun _ _ _ h => h) (Or.inl ⟨by rfl, ?_⟩) ?_ ?_
            rotate_left
            · intro w'
              go_simp
              with_reducible rfl
            rotate_left
            · simp only [Act.put, List.setIfInBounds_toArray, List.set_cons_zero, List.set_cons_succ, i64_w, i32_w]
              rfl
            refine pure_ (i := 3) (N := some 145) (v := ?_) (a' := ?_) #[true, true, true, true, false, false, false, false, false, false, false, false, false, false, false, false, false, false, false, false] rfl rfl (by kernel_rfl) (fun _ _ _ h => h) (Or.inl ⟨by rfl, ?_⟩) ?_ ?_
            rotate_left
            · intro w'
              go_simp
              with_reducible rfl
            rotate_left
            · simp only [Act.put, List.setIfInBounds_toArray, List.set_cons_zero, List.set_cons_succ, i64_w, i32_w]
              rfl
            refine pure_ (i := 4) (N := some 146) (v := ?_) (a' := ?_) #[true, true, true, true, true, false, false, false, false, false, false, false, false, false, false, false, false, false, false, false] rfl rfl (by kernel_rfl) (fun _ _ _ h => h) (Or.inl ⟨by rfl, ?_⟩) ?_ ?_
            rotate_left
            · intro w'
              go_simp
              with_reducible rfl
            rotate_left
            · simp only [Act.put, List.setIfInBounds_toArray, List.set_cons_zero, List.set_cons_succ, i64_w, i32_w]
              rfl
            refine take_ (i := 5) (N := some 147) (v := ?_) (a' := ?_) #[true, true, true, true, true, true, false, false, false, false, false, false, false, false, false, false, false, false, false, false] rfl rfl (by kernel_rfl) (fun _ _ _ h => h) (Or.inl ⟨by rfl, ?_⟩) hHeld ?_ ?_
            rotate_left
            · rintro w' ⟨s0, s1, s2, s3⟩
              go_simp
              with_reducible rfl
            rotate_left
            · simp only [Act.put, List.setIfInBounds_toArray, List.set_cons_zero, List.set_cons_succ, i64_w, i32_w]
              rfl
            refine pure_ (i := 7) (N := some 149) (v := ?_) (a' := ?_) #[true, true, true, true, true, true, false, true, false, false, false, false, false, false, false, false, false, false, false, false] rfl rfl (by kernel_rfl) (fun _ _ _ h => h) (Or.inl ⟨by rfl, ?_⟩) ?_ ?_
            rotate_left
            · intro w'
              go_simp
              with_reducible rfl
            rotate_left
            · simp only [Act.put, List.setIfInBounds_toArray, List.set_cons_zero, List.set_cons_succ, i64_w, i32_w]
              rfl
            refine pure_ (i := 9) (N := some 151) (v := ?_) (a' := ?_) #[true, true, true, true, true, true, false, true, false, true, false, false, false, false, false, false, false, false, false, false] rfl rfl (by kernel_rfl) (fun _ _ _ h => h) (Or.inl ⟨by rfl, ?_⟩) ?_ ?_
            rotate_left
            · intro w'
              go_simp
              with_reducible rfl
            rotate_left
            · simp only [Act.put, List.setIfInBounds_toArray, List.set_cons_zero, List.set_cons_succ, i64_w, i32_w]
              rfl
            refine pure_ (i := 10) (N := some 152) (v := ?_) (a' := ?_) #[true, true, true, true, true, true, false, true, false, true, true, false, false, false, false, false, false, false, false, false] rfl rfl (by kernel_rfl) (fun _ _ _ h => h) (Or.inl ⟨by rfl, ?_⟩) ?_ ?_
            rotate_left
            · intro w'
              go_simp
              with_reducible rfl
            rotate_left
            · simp only [Act.put, List.setIfInBounds_toArray, List.set_cons_zero, List.set_cons_succ, i64_w, i32_w]
              rfl
            refine pure_ (i := 11) (N := some 153) (v := ?_) (a' := ?_) #[true, true, true, true, true, true, false, true, false, true, true, true, false, false, false, false, false, false, false, false] rfl rfl (by kernel_rfl) (fun _ _ _ h => h) (Or.inl ⟨by rfl, ?_⟩) ?_ ?_
            rotate_left
            · intro w'
              go_simp
              with_reducible rfl
            rotate_left
            · simp only [Act.put, List.setIfInBounds_toArray, List.set_cons_zero, List.set_cons_succ, i64_w, i32_w]
              rfl
            refine pure_ (i := 12) (N := some 154) (v := ?_) (a' := ?_) #[true, true, true, true, true, true, false, true, false, true, true, true, true, false, false, false, false, false, false, false] rfl rfl (by kernel_rfl) (fun _ _ _ h => h) (Or.inl ⟨by rfl, ?_⟩) ?_ ?_
            rotate_left
            · intro w'
              go_simp
              with_reducible rfl
            rotate_left
            · simp only [Act.put, List.setIfInBounds_toArray, List.set_cons_zero, List.set_cons_succ, i64_w, i32_w]
              rfl
            refine pure_ (i := 13) (N := some 155) (v := ?_) (a' := ?_) #[true, true, true, true, true, true, false, true, false, true, true, true, true, true, false, false, false, false, false, false] rfl rfl (by kernel_rfl) (fun _ _ _ h => h) (Or.inl ⟨by rfl, ?_⟩) ?_ ?_
            rotate_left
            · intro w'
              go_simp
              with_reducible rfl
            rotate_left
            · simp only [Act.put, List.setIfInBounds_toArray, List.set_cons_zero, List.set_cons_succ, i64_w, i32_w]
              rfl
            refine take_ (i := 14) (N := some 156) (v := ?_) (a' := ?_) #[true, true, true, true, true, true, false, true, false, true, true, true, true, true, true, false, false, false, false, false] rfl rfl (by kernel_rfl) (fun _ _ _ h => h) (Or.inl ⟨by rfl, ?_⟩) hHeld ?_ ?_
            rotate_left
            · rintro w' ⟨s0, s1, s2, s3⟩
              go_simp
              with_reducible rfl
            rotate_left
            · simp only [Act.put, List.setIfInBounds_toArray, List.set_cons_zero, List.set_cons_succ, i64_w, i32_w]
              rfl
            refine pure_ (i := 16) (N := some 158) (v := ?_) (a' := ?_) #[true, true, true, true, true, true, false, true, false, true, true, true, true, true, true, false, true, false, false, false] rfl rfl (by kernel_rfl) (fun _ _ _ h => h) (Or.inl ⟨by rfl, ?_⟩) ?_ ?_
            rotate_left
            · intro w'
              go_simp
              with_reducible rfl
            rotate_left
            · simp only [Act.put, List.setIfInBounds_toArray, List.set_cons_zero, List.set_cons_succ, i64_w, i32_w]
              rfl
            refine one_ (i := 6) (N := some 148) #[true, true, true, true, true, true, true, true, false, true, true, true, true, true, true, false, true, false, false, false] rfl rfl (by kernel_rfl) (by decide) (fun K hK => ?_)
            refine goes_ Try.func21 (by kernel_rfl) rfl #[.slice Av dn.length cv, .int .i64 a, .int .i64 rj] (by rfl) rfl rfl (by (try simp only [List.map_toArray, List.map_cons, List.map_nil]); first | done | rfl) ?_
            refine (HWj.out.1 _ hHeld.2.2.1).mono ?_
            rintro e w9 ⟨v9, rfl, hR9, hb9⟩
            obtain ⟨A9, c9, rfl, hc9, hC9⟩ := Kd.R_reads hR9
            refine ⟨_, rfl, hK.out _ _ ⟨(hb9.cell (p := ad.add j) (World.block_lt_of_cell? _ _ hHeld.1)).trans hHeld.1, (hb9.cell (p := ad.add i) (World.block_lt_of_cell? _ _ hHeld.2.1)).trans hHeld.2.1, Kd.C_below hHeld.2.2.1 hb9, hHeld.2.2.2.trans (hb9.mono hHeld.2.2.2.size)⟩ (fun hHeld => ?_)⟩
            clear hK K hb9 hR9
            refine norm_ (a' := ?_) ?_ ?_
            rotate_left
            · simp only [Act.put, List.setIfInBounds_toArray, List.set_cons_zero, List.set_cons_succ, i64_w, i32_w]
              rfl
            refine one_ (i := 8) (N := some 150) #[true, true, true, true, true, true, true, true, true, true, true, true, true, true, true, false, true, false, false, false] rfl rfl (by kernel_rfl) (by decide) (fun K hK => ?_)
            refine goes_ Try.func32 (by kernel_rfl) rfl #[.slice A9 (daysL dn a rj).length c9, .int .i64 day] (by rfl) rfl rfl (by (try simp only [List.map_toArray, List.map_cons, List.map_nil]); first | done | rfl) ?_
            refine (HWj.out.2 _ A9 c9 hC9 hc9).mono ?_
            rintro e w10 ⟨rfl, hb9⟩
            refine ⟨_, rfl, hK.out _ _ ⟨(hb9.cell (p := ad.add j) (World.block_lt_of_cell? _ _ hHeld.1)).trans hHeld.1, (hb9.cell (p := ad.add i) (World.block_lt_of_cell? _ _ hHeld.2.1)).trans hHeld.2.1, Kd.C_below hHeld.2.2.1 hb9, hHeld.2.2.2.trans (hb9.mono hHeld.2.2.2.size)⟩ (fun hHeld => ?_)⟩
            clear hK K hb9 hC9 hc9
            refine norm_ (a' := ?_) ?_ ?_
            rotate_left
            · simp only [Act.put, List.setIfInBounds_toArray, List.set_cons_zero, List.set_cons_succ, i64_w, i32_w]
              rfl
            refine one_ (i := 15) (N := some 157) #[true, true, true, true, true, true, true, true, true, true, true, true, true, true, true, true, true, false, false, false] rfl rfl (by kernel_rfl) (by decide) (fun K hK => ?_)
            refine goes_ Try.func21 (by kernel_rfl) rfl #[.slice Av dn.length cv, .int .i64 a, .int .i64 ri] (by rfl) rfl rfl (by (try simp only [List.map_toArray, List.map_cons, List.map_nil]); first | done | rfl) ?_
            refine (HWi.out.1 _ hHeld.2.2.1).mono ?_
            rintro e w11 ⟨v9, rfl, hR9, hb9⟩
            obtain ⟨A11, c11, rfl, hc9, hC9⟩ := Kd.R_reads hR9
            refine ⟨_, rfl, hK.out _ _ ⟨(hb9.cell (p := ad.add j) (World.block_lt_of_cell? _ _ hHeld.1)).trans hHeld.1, (hb9.cell (p := ad.add i) (World.block_lt_of_cell? _ _ hHeld.2.1)).trans hHeld.2.1, Kd.C_below hHeld.2.2.1 hb9, hHeld.2.2.2.trans (hb9.mono hHeld.2.2.2.size)⟩ (fun hHeld => ?_)⟩
            clear hK K hb9 hR9
            refine norm_ (a' := ?_) ?_ ?_
            rotate_left
            · simp only [Act.put, List.setIfInBounds_toArray, List.set_cons_zero, List.set_cons_succ, i64_w, i32_w]
              rfl
            refine one_ (i := 17) (N := some 159) #[true, true, true, true, true, true, true, true, true, true, true, true, true, true, true, true, true, true, false, false] rfl rfl (by kernel_rfl) (by decide) (fun K hK => ?_)
            refine goes_ Try.func32 (by kernel_rfl) rfl #[.slice A11 (daysL dn a ri).length c11, .int .i64 day] (by rfl) rfl rfl (by (try simp only [List.map_toArray, List.map_cons, List.map_nil]); first | done | rfl) ?_
            refine (HWi.out.2 _ A11 c11 hC9 hc9).mono ?_
            rintro e w12 ⟨rfl, hb9⟩
            refine ⟨_, rfl, hK.out _ _ ⟨(hb9.cell (p := ad.add j) (World.block_lt_of_cell? _ _ hHeld.1)).trans hHeld.1, (hb9.cell (p := ad.add i) (World.block_lt_of_cell? _ _ hHeld.2.1)).trans hHeld.2.1, Kd.C_below hHeld.2.2.1 hb9, hHeld.2.2.2.trans (hb9.mono hHeld.2.2.2.size)⟩ (fun hHeld => ?_)⟩
            clear hK K hb9 hC9 hc9
            refine norm_ (a' := ?_) ?_ ?_
            rotate_left
            · simp only [Act.put, List.setIfInBounds_toArray, List.set_cons_zero, List.set_cons_succ, i64_w, i32_w]
              rfl
            refine pure_ (i := 18) (N := some 20) (v := ?_) (a' := ?_) #[true, true, true, true, true, true, true, true, true, true, true, true, true, true, true, true, true, true, true, false] rfl rfl (by kernel_rfl) (fun _ _ _ h => h) (Or.inl ⟨by rfl, ?_⟩) ?_ ?_
            rotate_left
            · intro w'
              go_simp
              with_reducible rfl
            rotate_left
            · simp only [Act.put, List.setIfInBounds_toArray, List.set_cons_zero, List.set_cons_succ, i64_w, i32_w]
              rfl
            refine pure_ (i := 19) (N := some 21) (v := ?_) (a' := ?_) #[true, true, true, true, true, true, true, true, true, true, true, true, true, true, true, true, true, true, true, true] rfl rfl (by kernel_rfl) (fun _ _ _ h => h) (Or.inl ⟨by rfl, ?_⟩) ?_ ?_
            rotate_left
            · intro w'
              go_simp
              with_reducible rfl
            rotate_left
            · simp only [Act.put, List.setIfInBounds_toArray, List.set_cons_zero, List.set_cons_succ, i64_w, i32_w]
              rfl
            have HB12 := Lib.hid hHeld.2.2.2
            have hcj := hHeld.1
            have hci := hHeld.2.1
            clear hHeld hcj2 hci2 HCv8 HB8
            refine done_ (by kernel_rfl) ?_
            generalize weightL (daysL dn a rj) day = X at *
            generalize weightL (daysL dn a ri) day = Y at *
            by_cases hXY : X = Y
            · have hq := Hs2.out hXY
              have hq1 : (X == Y) = true := beq_iff_eq.2 hXY
              have hq2 : decide (ri ≤ rj) = false := decide_eq_false (by omega)
              clear hXY hq
              go_wp2_with fail
              go_quiet (fail)
              go_wp2_with fail
              go_roundw
              case rel => exact ⟨j + 1, by omega, by go_num, Lib.hid (HB12.out.trans (pw_below_drewN (Below.refl _ _) _ |>.mono HB12.out.size))⟩
              case measure => simp [intOf]; omega
            · have hq1 : (X == Y) = false := beq_eq_false_iff_ne.2 hXY
              clear hXY
              go_wp2_with fail
              go_quiet (fail)
              go_wp2_with fail
              go_roundw
              case rel => exact ⟨j + 1, by omega, by go_num, Lib.hid (HB12.out.trans (pw_below_drewN (Below.refl _ _) _ |>.mono HB12.out.size))⟩
              case measure => simp [intOf]; omega
          · have hdecj : decide ((j : Int) < (i : Int)) = false := decide_eq_false (by omega)
            go_wp2_with fail
            go_roundw
            case rel => exact ⟨i + 1, by omega, by go_num, hB2⟩
            case measure => simp [intOf]; omega
      · have hdec : decide ((i : Int) < (ys.length : Int)) = false := decide_eq_false (by omega)
        go_wp2_with fail
        refine (awake_calls _).mono ?_
        rintro e w8 ⟨rfl, hb8⟩
        have HBe := Lib.hid (HB.out.trans ((hB.out.trans (hb8.mono hB.out.size)).mono HB.out.size))
        clear hb8
        go_wp2_with fail
        go_ret
        exact ⟨rfl, HBe.out⟩
/-- The law, as the statement's frame takes it. -/
theorem Weights_walk (n : Int) (A : Option Addr) (c : Nat) (l : List S65) (a b day : Int) {w : World} (_ : (Lit.int .i64 n).wf = true) (hl : Kd.C k65 w A l.length l) (_ : ∀ p ∈ l, Q65 p)
    (_ : (Lit.int .i64 a).wf = true) (_ : (Lit.int .i64 b).wf = true) (_ : (Lit.int .i64 day).wf = true) :
    Calls Try.prog 10 #[.int .i64 n, .slice A l.length c, .int .i64 a, .int .i64 b, .int .i64 day] w fun e w' => e = .returned (.bool true) ∧ Below w.heap.size w w' := by
  by_cases hk : 60 < l.length
  · exact weights_long n A c l.length a b day w hk hl.2.1
  · by_cases hn : 2 ≤ n ∧ n ≤ 12
    · by_cases ha : (0 ≤ a ∧ a < n) ∧ IsDay day
      · exact weights_main n A c l a b day w hk hn.1 hn.2 hl ha.1.1 ha.1.2 ha.2
      · exact weights_arg n A c l a b day w hk hn.1 hn.2 hl ha
    · exact weights_bad n A c l.length a b day w hk hn
end Go.Proofs.Ytkbiggmkjbmgoaa.Bk
