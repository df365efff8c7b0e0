/- play: the meetings of a list, one after the other. -/
import Derived.Test.YtkbiggmkjbmgoaaF
namespace Go.Proofs.Ytkbiggmkjbmgoaa.Bk
open Go.RowKit Go.Proofs.YtkbiggmkjbmgoaaW.PrintWords Go.Proofs.YtkbiggmkjbmgoaaW.PrintLast Go.Proofs.YtkbiggmkjbmgoaaW.PrintMore Go.Proofs.Mp
open Go.Proofs.Ytkbiggmkjbmgoaa.PMeetingstatsRates (S65 k65 rd_T65 at_T65 k65_mkM k65_open kinkeepref32_Pair.calls kinkeepref32_Pair.f)
set_option linter.unusedVariables false
set_option linter.unusedSimpArgs false

theorem refPair (n x y : Int) (w : World) : Calls Try.prog 19 #[.int .i64 n, .int .i64 x, .int .i64 y] w fun e w' => e = .returned (.bool (decide (Two n x y))) ∧ Below w.heap.size w w' := by
  have h : kinkeepref32_Pair.f n x y = some (decide (Two n x y)) := by
    unfold kinkeepref32_Pair.f
    by_cases h1 : x ≥ 0
    · rw [if_pos h1]
      by_cases h2 : x < n
      · rw [if_pos h2]
        by_cases h3 : y ≥ 0
        · rw [if_pos h3]
          by_cases h4 : y < n
          · rw [if_pos h4]
            congr 1
            by_cases h5 : x = y
            · rw [bne_eq_false_iff_eq.2 h5]; symm; exact decide_eq_false (fun h => h.2.2 h5)
            · rw [bne_iff_ne.2 h5]; symm; exact decide_eq_true (show Two n x y from ⟨⟨h1, h2⟩, ⟨h3, h4⟩, h5⟩)
          · rw [if_neg h4]; congr 1; symm; exact decide_eq_false (fun h => h4 h.2.1.2)
        · rw [if_neg h3]; congr 1; symm; exact decide_eq_false (fun h => h3 h.2.1.1)
      · rw [if_neg h2]; congr 1; symm; exact decide_eq_false (fun h => h2 h.1.2)
    · rw [if_neg h1]; congr 1; symm; exact decide_eq_false (fun h => h1 h.1.1)
  exact (kinkeepref32_Pair.calls n x y _ w h).mono fun e w' ⟨he, hd⟩ => ⟨he, hd.below⟩
theorem refPair_yes (n x y : Int) (w : World) (h : Two n x y) : Calls Try.prog 19 #[.int .i64 n, .int .i64 x, .int .i64 y] w fun e w' => e = .returned (.bool true) ∧ Below w.heap.size w w' := by
  have := refPair n x y w
  rwa [decide_eq_true h] at this
theorem refPair_no (n x y : Int) (w : World) (h : ¬ Two n x y) : Calls Try.prog 19 #[.int .i64 n, .int .i64 x, .int .i64 y] w fun e w' => e = .returned (.bool false) ∧ Below w.heap.size w w' := by
  have := refPair n x y w
  rwa [decide_eq_false h] at this

/-- One meeting of the list. -/
def stepP (st : Book × List S65) (x : S65) : Book × List S65 :=
  if Two st.1.n x.f0 x.f1 ∧ IsDay x.f2 ∧ ¬ x.f2 < st.1.nw then (st.1.meet x.f0 x.f1 x.f2, st.2 ++ [x]) else st
def playP (n : Int) (l : List S65) : Book × List S65 := l.foldl stepP (Book.empty n, [])
theorem playP_n (n : Int) (l : List S65) : (playP n l).1.n = n := by
  unfold playP
  suffices ∀ (l : List S65) (st : Book × List S65), (l.foldl stepP st).1.n = st.1.n from this l _
  intro l
  induction l with
  | nil => intro st; rfl
  | cons x r ih =>
    intro st
    rw [List.foldl_cons, ih]
    unfold stepP
    split <;> rfl
theorem playP_snoc (n : Int) (l : List S65) (k : Nat) (hk : k < l.length) : playP n (l.take (k + 1)) = stepP (playP n (l.take k)) (rd_T65 l k) := by
  unfold playP
  have e : rd_T65 l (k : Int) = l[k] := by
    unfold rd_T65
    rw [Int.toNat_natCast, List.getD_eq_getElem?_getD, List.getElem?_eq_getElem hk]
    rfl
  rw [List.take_succ_eq_append_getElem hk, List.foldl_append, e]
  rfl

/-- What the loop keeps. -/
def PlayInv (w wr : World) (b : Nat) (st : Book × List S65) (v : Value) (nn : Int) (k : Nat) : Prop :=
  ∃ S : Nat → Prop, BookAt wr b st.1 S ∧ st.1.Ok ∧ (∀ i, S i → w.heap.size ≤ i) ∧ Kd.R k65 65 wr w.heap.size (fun g => ¬ S g) v st.2 ∧ Below w.heap.size w wr ∧
    (st.1.nw = nn ∨ (st.1.nw = -1 ∧ nn = 0)) ∧ st.2.length ≤ k

theorem info65 : (Try.prog.info? 65).map (fun i => (i.zero, i.size, i.bytes)) = some (some (.agg #[.int .i64 0, .int .i64 0, .int .i64 0]), 3, 24) := by kernel_rfl

theorem R_none (W : World) (base : Nat) (hb : base ≤ W.heap.size) (ok : Nat → Prop) (hok : ok W.heap.size) : Kd.R k65 65 (W.alloc (.cells #[] 65)) base ok (.slice (some ⟨W.heap.size, 0, none⟩) 0 0) [] := by
  refine ⟨fun k hk => ?_, [], ?_, rfl, fun i p hp => by simp at hp⟩
  · have : W.heap.size = k := by simpa [Value.ownBlock] using hk
    exact this ▸ hok
  · have h := World.ownsRow_lit (base := base) (e := 65) (size := 3) W #[] 0 hb (by simp [maxLen]) (by simp)
    exact h
theorem stepP_len (st : Book × List S65) (x : S65) : (stepP st x).2.length ≤ st.2.length + 1 := by
  unfold stepP
  split <;> simp
/-- Behind a Meet. -/
theorem PlayInv.fr {w wr w' : World} {b k : Nat} {B' : Book} {dn : List S65} {S S' : Nat → Prop} {v : Value} {nn : Int} (hok : B'.Ok) (hS : ∀ i, S i → w.heap.size ≤ i) (hR : Kd.R k65 65 wr w.heap.size (fun g => ¬ S g) v dn) (hb : Below w.heap.size w wr)
    (hS' : ∀ i, S' i → S i ∨ wr.heap.size ≤ i) (hf : Fr S wr w') (hbk : BookAt w' b B' S') (hn : B'.nw = nn ∨ (B'.nw = -1 ∧ nn = 0)) (hk : dn.length ≤ k) : PlayInv w w' b (B', dn) v nn k := by
  refine ⟨S', hbk, hok, fun i hi => ?_, ?_, hb.trans (hf.below hb.size (fun i hi hs => by have := hS i hs; omega)), hn, hk⟩
  · rcases hS' i hi with h | h
    · exact hS i h
    · exact Nat.le_trans hb.size h
  · refine Kd.R_mono (Kd.R_move (Kd.R_bound hR) (fun k hk => hf.block k hk.2.2.1 hk.1)) (fun k hk hs => ?_)
    rcases hS' k hs with h | h
    · exact hk.1 h
    · have := hk.2.2.1
      omega

set_option maxRecDepth 100000 in
theorem play_yes (n : Int) (A : Option Addr) (c : Nat) (l : List S65) (w : World) (h2 : 2 ≤ n) (h12 : n ≤ 12) (hl : Kd.C k65 w A l.length l) (hlen : l.length ≤ 1000) :
    Calls Try.prog 15 #[.int .i64 n, .slice A l.length c] w fun e w' => ∃ b v, e = .returned (.tuple #[.pointer (some ⟨b, 0, none⟩), v, .bool true]) ∧ ∃ nn, PlayInv w w' b (playP n l) v nn l.length := by
  go_enter Try.func15, Try.ntmps15
  go_wp2_with fail
  refine (New_yes n w h2 h12).mono ?_
  rintro e w1 ⟨b, rfl, hb, hbk⟩
  have H0 : Hid (PlayInv w (w1.alloc (.cells #[] 65)) b (playP n (l.take 0)) (.slice (some ⟨w1.heap.size, 0, none⟩) 0 0) 0 0) :=
    ⟨_, hbk.below (Below.alloc (Below.refl _ _) (Nat.le_refl _) _), Book.empty_ok h2 h12, fun i hi => hi.1, R_none w1 _ hb.size _ (fun h => absurd h.2 (by omega)), hb.alloc hb.size _, .inr ⟨rfl, rfl⟩, Nat.le_refl _⟩
  have Hl := Lib.hid hl
  clear hb hbk hl
  go_wp2_with fail
  generalize w1.alloc (.cells #[] 65) = w2 at *
  go_loopw [9, 10, 11] (fun v nn i wr => ∃ (k : Nat) (m : Int), k ≤ l.length ∧ i = .int .i64 k ∧ nn = .int .i64 m ∧ Hid (PlayInv w wr b (playP n (l.take k)) v m k)) (fun _ _ i _ => l.length - (intOf i).toNat)
  case atStart => exact ⟨0, 0, by omega, rfl, rfl, H0⟩
  case round =>
    obtain ⟨k, m, hk, rfl, rfl, hinv⟩ := hrel
    by_cases hlt : k < l.length
    · have HP := Lib.hid (playP_snoc n l k hlt)
      obtain ⟨S, hbk, hok, hS, hR, hbw, hnw, hdl⟩ := hinv.out
      obtain ⟨ad, rfl, ha0, ha1, ha2⟩ := at_T65 (Kd.C_below Hl.out (show Below w.heap.size w wr from hbw)) k (by omega) (by omega)
      rw [Int.toNat_natCast] at ha0 ha1 ha2
      have Hbk := Lib.hid hbk
      have Hok := Lib.hid hok
      have HS := Lib.hid hS
      have HR := Lib.hid hR
      have Hbw := Lib.hid hbw
      have Hnw := Lib.hid hnw
      clear hbk hok hS hR hbw hnw hinv
      generalize rd_T65 l k = x at *
      obtain ⟨xa, xb, xd⟩ := x
      simp only at ha0 ha1 ha2
      generalize hst : playP n (l.take k) = st at *
      have Hst := Lib.hid hst
      have hn : Hid (st.1.n = n) := by rw [← hst]; exact playP_n n _
      clear hst
      have Hbx := Lib.hid (Below.alloc (Below.refl wr.heap.size wr) (Nat.le_refl _) (.cells #[.int .i64 xa, .int .i64 xb, .int .i64 xd] 48))
      have Hnx := Lib.hid (blk_new wr (.cells #[.int .i64 xa, .int .i64 xb, .int .i64 xd] 48))
      -- behind a world that has grown: what the rest of the round reads
      have cells : ∀ w4 : World, Below wr.heap.size (wr.alloc (.cells #[.int .i64 xa, .int .i64 xb, .int .i64 xd] 48)) w4 → w4.heap[wr.heap.size]? = some (.cells #[.int .i64 xa, .int .i64 xb, .int .i64 xd] 48 (0, 0)) →
          w4.cell? ⟨wr.heap.size, 0, none⟩ = some (.int .i64 xa) ∧ w4.cell? ⟨wr.heap.size, 1, none⟩ = some (.int .i64 xb) ∧ w4.cell? ⟨wr.heap.size, 2, none⟩ = some (.int .i64 xd) :=
        fun w4 _ h => ⟨(blk_cell h 0).trans rfl, (blk_cell h 1).trans rfl, (blk_cell h 2).trans rfl⟩
      have Cells := Lib.hid cells
      clear cells
      by_cases ht : Two n xa xb ∧ IsDay xd
      · obtain ⟨ht, hd⟩ := ht
        have hd0 := hd.1
        have hd1 := hd.2
        have hnd0 : decide (xd < 0) = false := decide_eq_false (by omega)
        have hnd1 : decide (999999 < xd) = false := decide_eq_false (by omega)
        by_cases hlt2 : xd < m
        · have hnw : Hid (xd < st.1.nw) := Lib.hid (by rcases Hnw.out with h | h <;> omega)
          have hstep : Hid (playP n (l.take (k + 1)) = st) := Lib.hid (by
            rw [HP.out]
            unfold stepP
            rw [if_neg (fun h => h.2.2 hnw.out)])
          go_wp2_with fail
          refine (refPair_yes n xa xb _ ht).mono ?_
          rintro e w3 ⟨rfl, hb3⟩
          obtain ⟨hc0, hc1, hc2⟩ := Cells.out w3 (hb3.mono (by simp)) (blk_below Hnx.out hb3)
          have Hb3 := Lib.hid (Hbx.out.trans (hb3.mono Hbx.out.size))
          clear hb3
          go_wp2_with fail
          refine (Meet_state b st.1 S xa xb xd _ (Hbk.out.below Hb3.out) (by rw [hn.out]; exact ht) hd hnw.out).mono ?_
          rintro e w4 ⟨rfl, hb4⟩
          have Hb4 := Lib.hid (Hb3.out.trans (hb4.mono Hb3.out.size))
          clear hb4
          go_wp2_with fail
          go_roundw
          case rel => exact ⟨k + 1, m, by omega, by go_num, rfl, Lib.hid (by rw [hstep.out]; exact ⟨S, Hbk.out.below Hb4.out, Hok.out, HS.out, Kd.R_below HR.out Hb4.out, Hbw.out.trans (Hb4.out.mono Hbw.out.size), Hnw.out, Nat.le_succ_of_le hdl⟩)⟩
          case measure => simp [intOf]; omega
        · have hnw : Hid (¬ xd < st.1.nw) := Lib.hid (by rcases Hnw.out with h | h <;> omega)
          have hstep : Hid (playP n (l.take (k + 1)) = (st.1.meet xa xb xd, st.2 ++ [⟨xa, xb, xd⟩])) := Lib.hid (by
            rw [HP.out]
            unfold stepP
            rw [if_pos ⟨by rw [hn.out]; exact ht, hd, hnw.out⟩])
          go_wp2_with fail
          refine (refPair_yes n xa xb _ ht).mono ?_
          rintro e w3 ⟨rfl, hb3⟩
          obtain ⟨hc0, hc1, hc2⟩ := Cells.out w3 (hb3.mono (by simp)) (blk_below Hnx.out hb3)
          have Hb3 := Lib.hid (Hbx.out.trans (hb3.mono Hbx.out.size))
          clear hb3
          have hRw : Hid (Kd.R k65 65 w3 w.heap.size (fun g => ¬ S g) u9 st.2) := Lib.hid (Kd.R_below HR.out Hb3.out)
          have hBw : Hid (Below w.heap.size w w3) := Lib.hid (Hbw.out.trans (Hb3.out.mono Hbw.out.size))
          have hfr : Hid (∀ k, w3.heap.size ≤ k → ¬ S k) := Lib.hid (fun k hk hs => by
            obtain ⟨_, _, _, _, _, _, _, _, _, h8⟩ := Hbk.out.below Hb3.out
            have := h8 k hs
            omega)
          have hune : u9.ownBlock ≠ some wr.heap.size := fun e => by
            have := Kd.R_lt HR.out _ e
            omega
          go_wp2_with (at_builtin; refine Kd.R_append k65 (w0 := w) w.heap.size rfl (.tmp 50) (.tmp 58) 32 65 (.agg #[.int .i64 0, .int .i64 0, .int .i64 0]) 24 rfl Try.underlying32 info65 rfl (by decide) (by omega) u9 st.2 ⟨xa, xb, xd⟩ [.int .i64 xa, .int .i64 xb, .int .i64 xd] (fun g => ¬ S g) (fun _ => False) rfl rfl (k65_mkM _ _ _ _) (fun _ hk => hk.elim) hfr.out hRw.out hBw.out hBw.out.size (by omega) ?_; intro v1 w5 ho1 hB1 hg1 hat1; have hq0 := grown_cell hg1 hc0 hune; have hq1 := grown_cell hg1 hc1 hune; have hq2 := grown_cell hg1 hc2 hune; clear hc0 hc1 hc2; have HO1 := Lib.hid ho1; have HB1 := Lib.hid hB1; have HG1 := Lib.hid hg1; clear ho1 hB1 hg1 hat1)
          have hbk5 : Hid (BookAt w5 b st.1 S) := Lib.hid ((Hbk.out.below Hb3.out).keep (T := fun k => u9.ownBlock = some k) ((Fr.refl _ w3).grown HG1.out (fun k hk _ => hk)) (fun i hs e => HR.out.1 i e hs))
          refine (Meet_yes b st.1 S xa xb xd _ hbk5.out Hok.out (by rw [hn.out]; exact ht) hd (by have := hnw.out; omega)).mono ?_
          rintro e w6 ⟨rfl, hS6⟩
          have HS6 := Lib.hid hS6
          clear hS6
          go_wp2_with fail
          go_roundw
          case rel =>
            obtain ⟨S', h1, h2, h3⟩ := HS6.out
            exact ⟨k + 1, xd, by omega, by go_num, rfl, Lib.hid (by rw [hstep.out]; exact PlayInv.fr (Hok.out.meet hd (by have := hnw.out; omega)) HS.out HO1.out HB1.out h1 h2 h3 (.inl rfl) (by simp; omega))⟩
          case measure => simp [intOf]; omega
      · have hstep : Hid (playP n (l.take (k + 1)) = st) := Lib.hid (by
          rw [HP.out]
          unfold stepP
          rw [if_neg (fun h => ht ⟨hn.out ▸ h.1, h.2.1⟩)])
        have hmeet : Hid (∀ w4 : World, BookAt w4 b st.1 S → Calls Try.prog 25 #[.pointer (some ⟨b, 0, none⟩), .int .i64 xa, .int .i64 xb, .int .i64 xd] w4 fun e w' => e = .returned (.int .i64 1) ∧ Below w4.heap.size w4 w') :=
          fun w4 h4 => Meet_arg b st.1 S xa xb xd w4 h4 (by rw [hn.out]; exact ht)
        by_cases ht2 : Two n xa xb
        · have hd : ¬ IsDay xd := fun h => ht ⟨ht2, h⟩
          by_cases hd0 : xd < 0
          · go_wp2_with fail
            refine (refPair_yes n xa xb _ ht2).mono ?_
            rintro e w3 ⟨rfl, hb3⟩
            obtain ⟨hc0, hc1, hc2⟩ := Cells.out w3 (hb3.mono (by simp)) (blk_below Hnx.out hb3)
            have Hb3 := Lib.hid (Hbx.out.trans (hb3.mono Hbx.out.size))
            clear hb3
            go_wp2_with fail
            refine (hmeet.out _ (Hbk.out.below Hb3.out)).mono ?_
            rintro e w4 ⟨rfl, hb4⟩
            have Hb4 := Lib.hid (Hb3.out.trans (hb4.mono Hb3.out.size))
            clear hb4
            go_wp2_with fail
            go_roundw
            case rel => exact ⟨k + 1, m, by omega, by go_num, rfl, Lib.hid (by rw [hstep.out]; exact ⟨S, Hbk.out.below Hb4.out, Hok.out, HS.out, Kd.R_below HR.out Hb4.out, Hbw.out.trans (Hb4.out.mono Hbw.out.size), Hnw.out, Nat.le_succ_of_le hdl⟩)⟩
            case measure => simp [intOf]; omega
          · have hd1 : 999999 < xd := by
              unfold IsDay at hd
              omega
            go_wp2_with fail
            refine (refPair_yes n xa xb _ ht2).mono ?_
            rintro e w3 ⟨rfl, hb3⟩
            obtain ⟨hc0, hc1, hc2⟩ := Cells.out w3 (hb3.mono (by simp)) (blk_below Hnx.out hb3)
            have Hb3 := Lib.hid (Hbx.out.trans (hb3.mono Hbx.out.size))
            clear hb3
            go_wp2_with fail
            refine (hmeet.out _ (Hbk.out.below Hb3.out)).mono ?_
            rintro e w4 ⟨rfl, hb4⟩
            have Hb4 := Lib.hid (Hb3.out.trans (hb4.mono Hb3.out.size))
            clear hb4
            go_wp2_with fail
            go_roundw
            case rel => exact ⟨k + 1, m, by omega, by go_num, rfl, Lib.hid (by rw [hstep.out]; exact ⟨S, Hbk.out.below Hb4.out, Hok.out, HS.out, Kd.R_below HR.out Hb4.out, Hbw.out.trans (Hb4.out.mono Hbw.out.size), Hnw.out, Nat.le_succ_of_le hdl⟩)⟩
            case measure => simp [intOf]; omega
        · go_wp2_with fail
          refine (refPair_no n xa xb _ ht2).mono ?_
          rintro e w3 ⟨rfl, hb3⟩
          obtain ⟨hc0, hc1, hc2⟩ := Cells.out w3 (hb3.mono (by simp)) (blk_below Hnx.out hb3)
          have Hb3 := Lib.hid (Hbx.out.trans (hb3.mono Hbx.out.size))
          clear hb3
          go_wp2_with fail
          refine (hmeet.out _ (Hbk.out.below Hb3.out)).mono ?_
          rintro e w4 ⟨rfl, hb4⟩
          have Hb4 := Lib.hid (Hb3.out.trans (hb4.mono Hb3.out.size))
          clear hb4
          go_wp2_with fail
          go_roundw
          case rel => exact ⟨k + 1, m, by omega, by go_num, rfl, Lib.hid (by rw [hstep.out]; exact ⟨S, Hbk.out.below Hb4.out, Hok.out, HS.out, Kd.R_below HR.out Hb4.out, Hbw.out.trans (Hb4.out.mono Hbw.out.size), Hnw.out, Nat.le_succ_of_le hdl⟩)⟩
          case measure => simp [intOf]; omega
    · go_wp2_with fail
      refine bodyPost_ret (results_list (rs := [.tmp 4, .tmp 5, .tmp 6]) rfl (by simp) (.tmp (.tmp (.tmp .nil)))) rfl ⟨b, _, rfl, m, ?_⟩
      have := hinv.out
      rw [List.take_of_length_le (by omega)] at this
      have e : k = l.length := by omega
      rw [e] at this
      exact this
end Go.Proofs.Ytkbiggmkjbmgoaa.Bk
