/- Rank, walked. -/
import Derived.Test.YtkbiggmkjbmgoaaBD
import Derived.Test.YtkbiggmkjbmgoaaO
import Derived.Test.YtkbiggmkjbmgoaaD
namespace Go.Proofs.Ytkbiggmkjbmgoaa.Bk
open Go.RowKit Go.Proofs.YtkbiggmkjbmgoaaW.PrintWords Go.Proofs.YtkbiggmkjbmgoaaW.PrintLast Go.Proofs.YtkbiggmkjbmgoaaW.PrintMore Go.Proofs.Mp
set_option linter.unusedVariables false
set_option linter.unusedSimpArgs false

/-- The other devices below k. -/
def oth (a : Int) : Nat → List Int
  | 0 => []
  | k + 1 => if (k : Int) = a then oth a k else oth a k ++ [(k : Int)]
theorem oth_lt {a : Int} : ∀ {k : Nat} {x : Int}, x ∈ oth a k → 0 ≤ x ∧ x < k ∧ x ≠ a
  | 0, x, h => by simp [oth] at h
  | k + 1, x, h => by
    unfold oth at h
    split at h
    · have := oth_lt h; omega
    · rcases List.mem_append.1 h with h | h
      · have := oth_lt h; omega
      · simp at h; subst h; rename_i hne; omega
theorem oth_len (a : Int) : ∀ k : Nat, (oth a k).length ≤ k ∧ (k ≤ (oth a k).length + 1)
  | 0 => by simp [oth]
  | k + 1 => by
    have := oth_len a k
    unfold oth
    split
    · rename_i h
      have h2 : ∀ j : Nat, (j : Int) ≤ a → (oth a j).length = j := by
        intro j
        induction j with
        | zero => intro _; rfl
        | succ j ih => intro hj; unfold oth; rw [if_neg (by omega), List.length_append, ih (by omega)]; simp
      have := h2 k (by omega)
      omega
    · simp; omega
theorem oth_nodup (a : Int) : ∀ k : Nat, (oth a k).Nodup
  | 0 => by simp [oth]
  | k + 1 => by
    unfold oth
    split
    · exact oth_nodup a k
    · refine List.nodup_append.2 ⟨oth_nodup a k, by simp, fun x hx y hy e => ?_⟩
      simp at hy
      have := oth_lt hx
      omega
def wts (f : Int → Int) (l : List Int) : List (Int × Value) := l.map (fun b => (b, .int .i64 (f b)))
theorem wts_get (f : Int → Int) (l : List Int) (a : Int) : (mget a (wts f l)).getD (.int .i64 0) = .int .i64 (if a ∈ l then f a else 0) := by
  induction l with
  | nil => simp [wts, mget]
  | cons b r ih =>
    have e : mget a (wts f (b :: r)) = if b = a then some (.int .i64 (f b)) else mget a (wts f r) := by
      simp [wts, mget]
    rw [e]
    by_cases h : b = a
    · subst h; simp
    · rw [if_neg h, ih]
      have : (a ∈ b :: r) ↔ a ∈ r := by simp [Ne.symm h]
      simp [this]
theorem wts_none (f : Int → Int) {l : List Int} {a : Int} (h : a ∉ l) : mget a (wts f l) = none := by
  rw [mget_none]
  intro p hp
  obtain ⟨b, hb, rfl⟩ := List.mem_map.1 hp
  exact fun e => h (e ▸ hb)

theorem below_two (w : World) (o1 o2 : Obj) : Below w.heap.size w ((w.alloc o1).alloc o2) :=
  ((Below.refl w.heap.size w).alloc (Nat.le_refl _) o1).alloc (by simp) o2
theorem below_three (w : World) (o1 o2 o3 : Obj) : Below w.heap.size w (((w.alloc o1).alloc o2).alloc o3) :=
  (below_two w o1 o2).alloc (by simp; omega) o3
theorem R_none3 (W : World) (base : Nat) (hb : base ≤ W.heap.size) (ok : Nat → Prop) (hok : ok W.heap.size) : Kd.R (Kd.int .i64) 3 (W.alloc (.cells #[] 3)) base ok (.slice (some ⟨W.heap.size, 0, none⟩) 0 0) [] := by
  refine ⟨fun k hk => ?_, [], ?_, by simp, fun i p hp => by simp at hp⟩
  · have : W.heap.size = k := by simpa [Value.ownBlock] using hk
    exact this ▸ hok
  · have h := World.ownsRow_lit (base := base) (e := 3) (size := 1) W #[] 0 hb (by simp [maxLen]) (by simp)
    exact h
theorem zero3 (w : World) : (zeroValue 3).run Try.prog w = .ok (.int .i64 0) w := by kernel_rfl
structure RankInv (w wr : World) (f : Int → Int) (gw mb : Nat) (v : Value) (l : List Int) : Prop where
  out : Kd.R (Kd.int .i64) 3 wr w.heap.size (fun g => g ≠ gw ∧ g ≠ mb) v l
  box : wr.cell? ⟨gw, 0, none⟩ = some (.map (some mb))
  mp : IsMap (Value.int .i64) wr mb (wts f l)
  gwl : w.heap.size ≤ gw
  mbl : w.heap.size ≤ mb
  ne : gw ≠ mb
  below : Below w.heap.size w wr

theorem RankInv.grow {w wr w' : World} {f : Int → Int} {gw mb : Nat} {v : Value} {l : List Int} (h : RankInv w wr f gw mb v l) (hb : Below wr.heap.size wr w') : RankInv w w' f gw mb v l :=
  ⟨Kd.R_below h.out hb, (hb.cell (p := ⟨gw, 0, none⟩) (World.block_lt_of_cell? _ _ h.box)).trans h.box, h.mp.of_block (hb.block mb h.mp.lt), h.gwl, h.mbl, h.ne, h.below.trans (hb.mono h.below.size)⟩
set_option maxHeartbeats 400000 in
set_option maxRecDepth 100000 in
theorem Rank_yes (b : Nat) (B : Book) (S : Nat → Prop) (a d : Int) (w : World) (h : BookAt w b B S) (hB : B.Ok) (ha0 : 0 ≤ a) (ha1 : a < B.n) (hd : IsDay d) :
    Calls Try.prog 31 #[.pointer (some ⟨b, 0, none⟩), .int .i64 a, .int .i64 d] w fun e w' => ∃ (A : Option Addr) (c : Nat) (ys : List Int), e = .returned (.tuple #[.slice A ys.length c, .int .i64 0]) ∧ ys.length ≤ c ∧ ys.Perm (oth a B.n.toNat) ∧
      (∀ i j : Nat, i < j → (hj : j < ys.length) → ¬ (weightL (B.D (min a (ys.getD i 0), max a (ys.getD i 0))) d < weightL (B.D (min a (ys.getD j 0), max a (ys.getD j 0))) d ∨
        (weightL (B.D (min a (ys.getD i 0), max a (ys.getD i 0))) d = weightL (B.D (min a (ys.getD j 0), max a (ys.getD j 0))) d ∧ ys.getD j 0 < ys.getD i 0))) ∧ Kd.C (Kd.int .i64) w' A ys.length ys ∧ Below w.heap.size w w' := by
  have hmm := @run_makeMap Try.prog
  have H := Lib.hid h
  have HBk := Lib.hid hB
  obtain ⟨n, hn⟩ := Int.eq_ofNat_of_zero_le (show 0 ≤ B.n by have := hB.n2; omega)
  have h12 : n ≤ 12 := by have := hB.n12; omega
  have h2 : 2 ≤ n := by have := hB.n2; omega
  have Hd := Lib.hid hd
  have hdev := device_yes b B.n a w h.cell0 ha0 ha1
  go_enter Try.func31, Try.ntmps31
  go_wp2_with fail
  refine hdev.mono ?_
  rintro e w1 ⟨rfl, rfl⟩
  go_wp2_with fail
  refine (isDay_yes d _ hd).mono ?_
  rintro e w1 ⟨rfl, rfl⟩
  have hB0 : Below w1.heap.size w1 (((w1.alloc (.cells #[] 3)).alloc (.map #[] 0)).alloc (.cells #[.map (some (w1.heap.size + 1))] 96)) :=
    below_three w1 _ _ _
  have hc0 : (((w1.alloc (.cells #[] 3)).alloc (.map #[] 0)).alloc (.cells #[.map (some (w1.heap.size + 1))] 96)).cell? ⟨b, 0, none⟩ = some (.int .i64 n) := by
    have := (H.out.below hB0).cell0
    rwa [hn] at this
  have I0 : Hid (RankInv w1 (((w1.alloc (.cells #[] 3)).alloc (.map #[] 0)).alloc (.cells #[.map (some (w1.heap.size + 1))] 96)) (fun x => weightL (B.D (min a x, max a x)) d) (w1.heap.size + 1 + 1) (w1.heap.size + 1) (.slice (some ⟨w1.heap.size, 0, none⟩) 0 0) (oth a 0)) := Lib.hid (by
    have e1 : (w1.alloc (.cells #[] 3)).heap.size = w1.heap.size + 1 := by simp
    have e2 : ((w1.alloc (.cells #[] 3)).alloc (.map #[] 0)).heap.size = w1.heap.size + 1 + 1 := by simp
    refine ⟨?_, ?_, ?_, by omega, by omega, by omega, hB0⟩
    · refine Kd.R_below (R_none3 w1 w1.heap.size (Nat.le_refl _) _ ⟨by omega, by omega⟩) (below_two _ _ _)
    · have := blk_new ((w1.alloc (.cells #[] 3)).alloc (.map #[] 0)) (.cells #[.map (some (w1.heap.size + 1))] 96)
      rw [e2] at this
      exact (blk_cell this 0).trans rfl
    · have := IsMap.made (enc := Value.int .i64) (w1.alloc (.cells #[] 3))
      rw [e1] at this
      exact this.of_block (Below.heap_alloc _ _ _ (by omega)))
  go_wp2_with fail
  clear hc0 hdev h
  generalize ((w1.alloc (.cells #[] 3)).alloc (.map #[] 0)).alloc (.cells #[.map (some (w1.heap.size + 1))] 96) = w2 at *
  generalize w1.heap.size + 1 + 1 = gw at *
  generalize w1.heap.size + 1 = mb at *
  generalize hf : (fun x => weightL (B.D (min a x, max a x)) d) = f at *
  go_loopw [8, 28] (fun v i wr => ∃ k : Nat, k ≤ n ∧ i = .int .i64 k ∧ Hid (RankInv w1 wr f gw mb v (oth a k))) (fun _ i _ => n - (intOf i).toNat)
  case atStart => exact ⟨0, by omega, rfl, I0⟩
  case round =>
    obtain ⟨k, hk, rfl, hI⟩ := hrel
    obtain ⟨q1, q2, q3, q4, q5, q6, q7⟩ := hI.out
    have Q1 := Lib.hid q1
    have Q2 := Lib.hid q2
    have Q3 := Lib.hid q3
    have Q4 := Lib.hid q4
    have Q5 := Lib.hid q5
    have Q6 := Lib.hid q6
    have Q7 := Lib.hid q7
    have Hbk := Lib.hid (H.out.below q7)
    clear q1 q2 q3 q4 q5 q6 q7 hI
    by_cases hlt : k < n
    · have hdec : decide ((k : Int) < (n : Int)) = true := decide_eq_true (by omega)
      by_cases hka : (k : Int) = a
      · have hoth : oth a (k + 1) = oth a k := by rw [oth, if_pos hka]
        have Hpn := Lib.hid (fun w hc => pair_no b B.n a k w hc (by unfold Two; omega))
        have Hoth := Lib.hid hoth
        clear hka hoth
        go_wp2_with fail
        refine (Hpn.out _ Hbk.out.cell0).mono ?_
        rintro e w3 ⟨rfl, hb3⟩
        have HB3 := Lib.hid (hb3.alloc hb3.size (.cells #[.int .i64 (min a k), .int .i64 (max a k)] 75))
        clear hb3
        go_wp2_with fail
        generalize w3.alloc (.cells #[.int .i64 (min a k), .int .i64 (max a k)] 75) = w4 at *
        go_roundw
        case rel => exact ⟨k + 1, by omega, by go_num, Lib.hid (by rw [Hoth.out]; exact (RankInv.mk Q1.out Q2.out Q3.out Q4.out Q5.out Q6.out Q7.out).grow HB3.out)⟩
        case measure => simp [intOf]; omega
      · have hoth : oth a (k + 1) = oth a k ++ [(k : Int)] := by rw [oth, if_neg hka]
        have ht : Two B.n a k := by unfold Two; omega
        have Hpn := Lib.hid (fun w hc => pair_yes b B.n a k w hc ht)
        have Hoth := Lib.hid hoth
        have Hka := Lib.hid hka
        clear hka hoth ht
        go_wp2_with fail
        refine (Hpn.out _ Hbk.out.cell0).mono ?_
        rintro e w3 ⟨rfl, hb3⟩
        have HI := Lib.hid ((RankInv.mk Q1.out Q2.out Q3.out Q4.out Q5.out Q6.out Q7.out).grow hb3)
        have HI4 := Lib.hid (HI.out.grow ((Below.refl w3.heap.size w3).alloc (Nat.le_refl _) (.cells #[.int .i64 (min a k), .int .i64 (max a k)] 75)))
        have Hx := Lib.hid (blk_new w3 (.cells #[.int .i64 (min a k), .int .i64 (max a k)] 75))
        have Hfr := Lib.hid (show ∀ g, (w3.alloc (.cells #[.int .i64 (min a k), .int .i64 (max a k)] 75)).heap.size ≤ g → g ≠ gw ∧ g ≠ mb from fun g hg => by
          have h1 := World.block_lt_of_cell? _ _ HI4.out.box
          have h2 := HI4.out.mp.lt
          exact ⟨fun e => by subst e; exact absurd h1 (by simpa using hg), by omega⟩)
        have hne3 : u8.ownBlock ≠ some w3.heap.size := fun e => by
          have := Kd.R_lt HI.out.out _ e
          omega
        have Hl : Hid (((oth a k).length + 1) * 8 ≤ 140737488355328) := Lib.hid (by
          have := (oth_len a k).1
          omega)
        clear hb3 Q1 Q2 Q3 Q4 Q5 Q6 Q7 HI Hpn
        go_wp2_with (at_builtin; refine Kd.R_append (Kd.int .i64) (w0 := w1) w1.heap.size rfl (.tmp 39) (.tmp 41) 39 3 (.int .i64 0) 8 rfl Try.underlying39 info3 rfl (by decide) (by omega) u8 (oth a k) (k : Int) [.int .i64 k] (fun g => g ≠ gw ∧ g ≠ mb) (fun _ => False) rfl ?aX ?aP (fun _ hk => hk.elim) Hfr.out HI4.out.out HI4.out.below HI4.out.below.size Hl.out ?_; (case aP => exact rfl); (case aX => exact (show Value.slice (some ⟨w3.heap.size + 1, 0, none⟩) 1 1 = Value.slice (some ⟨(w3.alloc (.cells #[.int .i64 (min a k), .int .i64 (max a k)] 75)).heap.size, 0, none⟩) 1 1 from by rw [show (w3.alloc (.cells #[.int .i64 (min a k), .int .i64 (max a k)] 75)).heap.size = w3.heap.size + 1 from Array.size_push ..])); intro v1 w5 ho1 hB1 hg1 hat1; have HO1 := Lib.hid ho1; have HB1 := Lib.hid hB1; have HG1 := Lib.hid hg1; clear ho1 hB1 hg1 hat1)
        have hbox5 : Hid (w5.cell? ⟨gw, 0, none⟩ = some (.map (some mb)) ∧ IsMap (Value.int .i64) w5 mb (wts f (oth a k))) := Lib.hid (by
          have hne : u8.ownBlock ≠ some gw ∧ u8.ownBlock ≠ some mb := ⟨fun e => (HI4.out.out.1 _ e).1 rfl, fun e => (HI4.out.out.1 _ e).2 rfl⟩
          exact ⟨grown_cell HG1.out HI4.out.box hne.1, HI4.out.mp.of_block (HG1.out.block mb HI4.out.mp.lt (fun e => hne.2 e.symm))⟩)
        have hx5 : Hid (w5.cell? ⟨w3.heap.size, 0, none⟩ = some (.int .i64 (min a k)) ∧ w5.cell? ⟨w3.heap.size, 1, none⟩ = some (.int .i64 (max a k))) := Lib.hid
          ⟨grown_cell HG1.out ((blk_cell Hx.out 0).trans rfl) hne3, grown_cell HG1.out ((blk_cell Hx.out 1).trans rfl) hne3⟩
        have Q4 := Lib.hid HI4.out.gwl
        have Q5 := Lib.hid HI4.out.mbl
        have Q6 := Lib.hid HI4.out.ne
        clear HI4 Hx HG1 hne3 Hfr Hl
        generalize w3.heap.size = g3 at *
        have HW := Lib.hid (fun w (h : BookAt w b B S) => weight_calls b B S (min a k) (max a k) d w h HBk.out Hd.out)
        have hfk : weightL (B.D (min a (k : Int), max a (k : Int))) d = f k := by rw [← hf]
        rw [hfk] at HW
        clear hfk
        refine start_ (n := 7) (S := fun W => W.cell? ⟨gw, 0, none⟩ = some (.map (some mb)) ∧ W.cell? ⟨g3, 0, none⟩ = some (.int .i64 (min a k)) ∧ W.cell? ⟨g3, 1, none⟩ = some (.int .i64 (max a k))) (ds := [6]) #[false, false, false, false, false, false, false] (by kernel_rfl) rfl rfl ⟨hbox5.out.1, hx5.out.1, hx5.out.2⟩ (fun hHeld => ?_)
        refine take_ (i := 0) (N := some 43) (v := ?_) (a' := ?_) #[true, false, false, false, false, false, false] rfl rfl (by kernel_rfl) (fun _ _ _ h => h) (Or.inl ⟨by rfl, ?_⟩) hHeld ?_ ?_
        rotate_left
        · rintro w' ⟨s0, s1, s2⟩
          go_simp
          with_reducible rfl
        rotate_left
        · simp only [Act.put, List.setIfInBounds_toArray, List.set_cons_zero, List.set_cons_succ, i64_w, i32_w]
          rfl
        refine pure_ (i := 1) (N := some 44) (v := ?_) (a' := ?_) #[true, true, false, false, false, false, false] rfl rfl (by kernel_rfl) (fun _ _ _ h => h) (Or.inl ⟨by rfl, ?_⟩) ?_ ?_
        rotate_left
        · intro w'
          go_simp
          with_reducible rfl
        rotate_left
        · simp only [Act.put, List.setIfInBounds_toArray, List.set_cons_zero, List.set_cons_succ, i64_w, i32_w]
          rfl
        refine pure_ (i := 2) (N := some 45) (v := ?_) (a' := ?_) #[true, true, true, false, false, false, false] rfl rfl (by kernel_rfl) (fun _ _ _ h => h) (Or.inl ⟨by rfl, ?_⟩) ?_ ?_
        rotate_left
        · intro w'
          go_simp
          with_reducible rfl
        rotate_left
        · simp only [Act.put, List.setIfInBounds_toArray, List.set_cons_zero, List.set_cons_succ, i64_w, i32_w]
          rfl
        refine pure_ (i := 4) (N := some 47) (v := ?_) (a' := ?_) #[true, true, true, false, true, false, false] rfl rfl (by kernel_rfl) (fun _ _ _ h => h) (Or.inl ⟨by rfl, ?_⟩) ?_ ?_
        rotate_left
        · intro w'
          go_simp
          with_reducible rfl
        rotate_left
        · simp only [Act.put, List.setIfInBounds_toArray, List.set_cons_zero, List.set_cons_succ, i64_w, i32_w]
          rfl
        refine take_ (i := 3) (N := some 46) (v := ?_) (a' := ?_) #[true, true, true, true, true, false, false] rfl rfl (by kernel_rfl) (fun _ _ _ h => h) (Or.inl ⟨by rfl, ?_⟩) hHeld ?_ ?_
        rotate_left
        · rintro w' ⟨s0, s1, s2⟩
          go_simp
          with_reducible rfl
        rotate_left
        · simp only [Act.put, List.setIfInBounds_toArray, List.set_cons_zero, List.set_cons_succ, i64_w, i32_w]
          rfl
        refine one_ (i := 5) (N := some 48) #[true, true, true, true, true, true, false] rfl rfl (by kernel_rfl) (by decide) (fun K hK => ?_)
        refine goes_ Try.func43 (by kernel_rfl) rfl #[.pointer (some ⟨b, 0, none⟩), .agg #[.int .i64 (min a k), .int .i64 (max a k)], .int .i64 d] (by rfl) rfl rfl (by (try simp only [List.map_toArray, List.map_cons, List.map_nil]); first | done | rfl) ?_
        refine (HW.out _ ((H.out.below HB1.out).below (Below.refl _ _).drew)).mono ?_
        rintro e w6 ⟨rfl, hb6⟩
        have hb56 : Below w5.heap.size w5 w6 := (Below.refl w5.heap.size w5).drew.trans (hb6.mono (Nat.le_refl _))
        have hbw := fun (p : Addr) (v : Value) (h : w5.cell? p = some v) => (hb56.cell (p := p) (World.block_lt_of_cell? _ _ h)).trans h
        obtain ⟨o, hrun, hmap⟩ := IsMap.update key3 Try.underlying96 (hbox5.out.2.of_block (w' := w6) (hb56.block mb hbox5.out.2.lt)) (k : Int) (.int .i64 (f k))
        refine ⟨_, rfl, hK.out _ _ ⟨hbw _ _ hbox5.out.1, hbw _ _ hx5.out.1, hbw _ _ hx5.out.2⟩ (fun hHeld => ?_)⟩
        clear hK K
        refine norm_ (a' := ?_) ?_ ?_
        rotate_left
        · simp only [Act.put, List.setIfInBounds_toArray, List.set_cons_zero, List.set_cons_succ, i64_w, i32_w]
          rfl
        refine last_ (i := 6) (N := none) #[true, true, true, true, true, true, true] rfl rfl (by kernel_rfl) (by decide) (fun K hK => ?_)
        refine mapUpdate_step (by rfl) rfl rfl (by rfl) (by rfl) (by rfl) hrun ?_
        refine hK.out _ _ ?_
        clear hK K
        refine done_ (by kernel_rfl) ?_
        have HF : Hid (RankInv w1 (put w6 mb o) f gw mb v1 (oth a (k + 1))) := Lib.hid (by
          rw [Hoth.out]
          refine ⟨Kd.R_move (Kd.R_below HO1.out hb56) (fun i hi => put_heap i hi.2), ?_, ?_, Q4.out, Q5.out, Q6.out, ?_⟩
          · exact (World.cell?_of_block (w := w6) (put_heap gw Q6.out)).trans (hbw _ _ hbox5.out.1)
          · rw [mset_new (wts_none f (fun h => by have := oth_lt h; omega))] at hmap
            have : wts f (oth a k ++ [(k : Int)]) = wts f (oth a k) ++ [((k : Int), .int .i64 (f k))] := by simp [wts]
            rw [this]
            exact hmap
          · have hb1 := HB1.out.trans (hb56.mono HB1.out.size)
            exact ((Fr.refl (fun i => i = mb) w6).put (fun _ => rfl) o |>.below hb1.size (fun i hi e => by have := Q5.out; omega)) |> hb1.trans)
        clear hb6 hb56 hbw hmap hrun hHeld
        generalize put w6 mb o = w7 at *
        go_wp2_with fail
        go_roundw
        case rel => exact ⟨k + 1, by omega, by go_num, HF⟩
        case measure => simp [intOf]; omega
    · have hdec : decide ((k : Int) < (n : Int)) = false := decide_eq_false (by omega)
      obtain rfl : k = n := by omega
      have HS := Lib.hid (sort_calls (fun x => if x ∈ oth a k then f x else 0) gw mb (oth a k) u8 w1.heap.size _ wr Q1.out (by have := (oth_len a k).2; omega) (by have := (oth_len a k).1; omega)
        (fun e => (Q1.out.1 _ e).1 rfl) (fun e => (Q1.out.1 _ e).2 rfl) Q2.out Q3.out.lt (fun W hW x => by
          have := IsMap.lookup key3 Try.underlying96 (zero3 W) (Q3.out.of_block (w' := W) hW) x false
          rw [wts_get] at this
          exact this))
      have HR := Lib.hid (Kd.R_base Q1.out)
      clear Q1 Q2 Q3 Q4 Q5 Q6 hmm I0
      go_wp2_with fail
      refine HS.out.mono ?_
      rintro e w3 ⟨rfl, A, c, ys, rfl, hc, hp, hs, hC, hfr⟩
      have HP := Lib.hid hp
      have HS2 := Lib.hid hs
      have HC := Lib.hid hC
      have Hc := Lib.hid hc
      have HF := Lib.hid (Q7.out.trans (hfr.below Q7.out.size (fun i hi e => by have := HR.out i e; omega)))
      clear hp hs hC hc hfr HS Q7 HR
      go_wp2_with fail
      refine bodyPost_ret (results_list (rs := [.tmp 6, .tmp 7]) rfl (by simp) (.tmp (.tmp .nil))) rfl ⟨A, c, ys, rfl, Hc.out, by rw [hn, Int.toNat_natCast]; exact HP.out, fun i j hij hj => ?_, HC.out, HF.out⟩
      have hm : ∀ i : Nat, i < ys.length → ys.getD i 0 ∈ oth a k := fun i hi => by
        have : ys.getD i 0 ∈ ys := by
          rw [List.getD_eq_getElem?_getD, List.getElem?_eq_getElem hi]; exact List.getElem_mem hi
        exact HP.out.mem_iff.1 this
      have h1 := HS2.out i j hij hj
      rw [if_pos (hm i (by omega)), if_pos (hm j hj), ← hf] at h1
      exact h1
theorem Rank_no (b : Nat) (B : Book) (S : Nat → Prop) (a d : Int) (w : World) (h : BookAt w b B S) (hn : ¬ ((0 ≤ a ∧ a < B.n) ∧ IsDay d)) :
    Calls Try.prog 31 #[.pointer (some ⟨b, 0, none⟩), .int .i64 a, .int .i64 d] w fun e w' => e = .returned (.tuple #[.slice none 0 0, .int .i64 1]) ∧ Below w.heap.size w w' := by
  by_cases ha : 0 ≤ a ∧ a < B.n
  · have hd : ¬ IsDay d := fun hd => hn ⟨ha, hd⟩
    have h1 := Lib.hid (device_yes b B.n a w h.cell0 ha.1 ha.2)
    have h2 := Lib.hid (isDay_no d w hd)
    clear ha hd hn h
    go_enter Try.func31, Try.ntmps31
    go_wp2_with fail
    refine h1.out.mono ?_
    rintro e w1 ⟨rfl, rfl⟩
    go_wp2_with fail
    refine h2.out.mono ?_
    rintro e w1 ⟨rfl, rfl⟩
    go_wp2_with fail
    refine bodyPost_ret (results_list (rs := [.tmp 6, .tmp 7]) rfl (by simp) (.tmp (.tmp .nil))) rfl ⟨rfl, Below.refl _ _⟩
  · have h1 := Lib.hid (device_no b B.n a w h.cell0 ha)
    clear ha hn h
    go_enter Try.func31, Try.ntmps31
    go_wp2_with fail
    refine h1.out.mono ?_
    rintro e w1 ⟨rfl, rfl⟩
    go_wp2_with fail
    refine bodyPost_ret (results_list (rs := [.tmp 6, .tmp 7]) rfl (by simp) (.tmp (.tmp .nil))) rfl ⟨rfl, Below.refl _ _⟩
end Go.Proofs.Ytkbiggmkjbmgoaa.Bk
