/- Meet: what a further meeting does to a book. -/
import Derived.Test.YtkbiggmkjbmgoaaC
import Derived.Test.YtkbiggmkjbmgoaaO
namespace Go.Proofs.Ytkbiggmkjbmgoaa.Bk
open Go.RowKit Go.Proofs.YtkbiggmkjbmgoaaW.PrintWords Go.Proofs.YtkbiggmkjbmgoaaW.PrintLast Go.Proofs.YtkbiggmkjbmgoaaW.PrintMore Go.Proofs.Mp
set_option linter.unusedVariables false
set_option linter.unusedSimpArgs false

def upd (D : Int × Int → List Int) (p : Int × Int) (l : List Int) : Int × Int → List Int := fun q => if q = p then l else D q
theorem own_block_ne {w : World} {v : Value} {n : Nat} {xs : List Value} (h : w.ownsRow 0 3 1 v n xs) {i : Nat} (hi : ∀ cs fr, w.heap[i]? ≠ some (.cells cs 3 fr)) : v.ownBlock ≠ some i := by
  rcases h.2 with ⟨rfl, _⟩ | ⟨g, cap, cur, rfl, _, hh, _⟩
  · simp [Value.ownBlock]
  · intro e
    have : g = i := by simpa [Value.ownBlock] using e
    subst this
    exact hi _ _ hh

/-- THE WAY BACK: a pair's days are looked up, its slice is appended to (or made anew), and stored again. -/
theorem BookAt.add {W : World} {b : Nat} {B : Book} {S : Nat → Prop} (h : BookAt W b B S) (i j : Int) :
    ∃ mb v, W.cell? ⟨b, 1, none⟩ = some (.map (some mb)) ∧ mb < W.heap.size ∧ S mb ∧ (∀ W' : World, W'.heap[mb]? = W.heap[mb]? → (Instr.lookup 79 (.map (some mb)) (.agg #[.int .i64 i, .int .i64 j]) false).run Try.prog W' = .ok v W') ∧
      W.ownsRow 0 3 1 v (B.D (i, j)).length (nums .i64 (B.D (i, j))) ∧ (∀ g, v.ownBlock = some g → S g ∧ g ≠ b ∧ g ≠ mb) ∧
      ∀ (w1 : World) (v' : Value) (l' : List Int), W.grownBy w1 v.ownBlock → w1.ownsRow 0 3 1 v' l'.length (nums .i64 l') → (v'.ownBlock = v.ownBlock ∨ ∃ g, v'.ownBlock = some g ∧ W.heap.size ≤ g) →
        ∃ o, (Instr.mapUpdate 79 (.map (some mb)) (.agg #[.int .i64 i, .int .i64 j]) v').run Try.prog w1 = .ok () (put w1 mb o) ∧
          BookAt (put w1 mb o) b { B with D := upd B.D (i, j) l' } (fun k => S k ∨ (W.heap.size ≤ k ∧ k < w1.heap.size)) ∧ Fr S W (put w1 mb o) := by
  obtain ⟨mb, L, h1, h2, h3, h4, h5, h6, h7, h8⟩ := h
  have hmap : ∃ es clock, W.heap[mb]? = some (.map es clock) := by
    obtain ⟨es, clock, hh, _⟩ := h2
    exact ⟨es, clock, hh⟩
  have hbm : b ≠ mb := by
    rintro rfl
    obtain ⟨es, clock, hh⟩ := hmap
    rw [h1] at hh
    cases hh
  have hv : W.ownsRow 0 3 1 ((mget (i, j) L).getD (.slice none 0 0)) (B.D (i, j)).length (nums .i64 (B.D (i, j))) ∧ ∀ g, ((mget (i, j) L).getD (.slice none 0 0)).ownBlock = some g → S g := by
    cases hg : mget (i, j) L with
    | none =>
      rw [h6 _ hg]
      exact ⟨own_nil W 0 3 1, fun g hg => by simp [Value.ownBlock] at hg⟩
    | some v => exact h5 _ v hg
  have hne : ∀ (v : Value) (n : Nat) (xs : List Value), W.ownsRow 0 3 1 v n xs → v.ownBlock ≠ some b ∧ v.ownBlock ≠ some mb := fun v n xs ho =>
    ⟨own_block_ne ho (fun cs fr e => by rw [h1] at e; injection e with e; injection e with _ e; exact absurd e (by decide)), own_block_ne ho (fun cs fr e => by
      obtain ⟨es, clock, hh⟩ := hmap
      rw [hh] at e
      cases e)⟩
  refine ⟨mb, _, (blk_cell h1 1).trans rfl, h8 mb h4, h4, fun W' hW => ?_, hv.1, fun g hg => ⟨hv.2 g hg, fun e => (hne _ _ _ hv.1).1 (e ▸ hg), fun e => (hne _ _ _ hv.1).2 (e ▸ hg)⟩, ?_⟩
  · have := IsMap.lookup key75 Try.underlying79 (zero39 W') (h2.of_block (w' := W') hW) (i, j) false
    exact this
  · intro w1 v' l' hg ho hat
    have hvb := hne _ _ _ hv.1
    have hm1 : w1.heap[mb]? = W.heap[mb]? := hg.block mb (h8 mb h4) (fun e => hvb.2 e.symm)
    obtain ⟨o, hrun, hmap'⟩ := IsMap.update key75 Try.underlying79 (h2.of_block hm1) (i, j) v'
    have hfr : Fr S W (put w1 mb o) := ((Fr.refl S W).grown hg (fun k hk _ => hv.2 k hk)).put (fun _ => h4) o
    have hv'm : v'.ownBlock ≠ some mb := by
      rcases hat with e | ⟨g, e, hlt⟩
      · rw [e]; exact hvb.2
      · rw [e]
        intro e2
        injection e2 with e2
        have := h8 mb h4
        omega
    refine ⟨o, hrun, ⟨mb, mset (i, j) v' L, ?_, hmap', .inl h3, .inl h4, ?_, ?_, ?_, ?_⟩, hfr⟩
    · rw [put_heap b hbm, hg.block b (h8 b h3) (fun e => hvb.1 e.symm)]
      exact h1
    · intro p u hu
      rw [mget_mset] at hu
      by_cases hp : (i, j) = p
      · rw [if_pos hp] at hu
        injection hu with hu
        subst hu
        subst hp
        simp only [upd, if_true]
        refine ⟨own_grown (S := fun k => k = mb) ho ((Fr.refl (fun k => k = mb) w1).put (fun _ => rfl) o) (fun g hg e => hv'm (e ▸ hg)), fun g hg' => ?_⟩
        rcases hat with e | ⟨g', e, hlt⟩
        · exact .inl (hv.2 g (e ▸ hg'))
        · have : g' = g := by rw [e] at hg'; exact Option.some.inj hg'
          subst this
          exact .inr ⟨hlt, own_lt ho _ hg'⟩
      · rw [if_neg hp] at hu
        simp only [upd, if_neg (fun e => hp (Eq.symm e))]
        obtain ⟨hou, hSu⟩ := h5 p u hu
        refine ⟨?_, fun g hg' => .inl (hSu g hg')⟩
        have hdis : u.ownBlock = none ∨ u.ownBlock ≠ ((mget (i, j) L).getD (.slice none 0 0)).ownBlock := by
          cases hgl : mget (i, j) L with
          | none =>
            cases huo : u.ownBlock with
            | none => exact .inl rfl
            | some g => exact .inr (by simp [Value.ownBlock])
          | some v => exact h7 p (i, j) u v hu hgl (fun e => hp e.symm)
        exact own_grown (S := fun k => k = mb) (own_other hou hg hdis) ((Fr.refl (fun k => k = mb) w1).put (fun _ => rfl) o) (fun g hg' e => (hne _ _ _ hou).2 (e ▸ hg'))
    · intro p hp
      rw [mget_mset] at hp
      split at hp
      · cases hp
      · rename_i hne
        simp only [upd, if_neg (fun e => hne (Eq.symm e))]
        exact h6 p hp
    · intro p q u u' hu hu' hpq
      rw [mget_mset] at hu hu'
      have hother : ∀ (r : Int × Int) (x : Value), mget r L = some x → (i, j) ≠ r → x.ownBlock = none ∨ x.ownBlock ≠ v'.ownBlock := by
        intro r x hx hr
        rcases hat with e | ⟨g, e, hlt⟩
        · rw [e]
          cases hgl : mget (i, j) L with
          | none =>
            cases huo : x.ownBlock with
            | none => exact .inl rfl
            | some g => exact .inr (by simp [Value.ownBlock])
          | some v => exact h7 r (i, j) x v hx hgl (fun e => hr e.symm)
        · cases huo : x.ownBlock with
          | none => exact .inl rfl
          | some g' =>
            refine .inr ?_
            rw [e]
            intro e2
            injection e2 with e2
            have := own_lt (h5 r x hx).1 g' huo
            omega
      by_cases hp : (i, j) = p
      · rw [if_pos hp] at hu
        rw [if_neg (fun e => hpq (hp ▸ e))] at hu'
        injection hu with hu
        subst hu
        rcases hother q u' hu' (fun e => hpq (hp ▸ e)) with e | e
        · cases ho' : v'.ownBlock with
          | none => exact .inl rfl
          | some g => rw [e]; exact .inr (by simp)
        · exact .inr (fun e2 => e e2.symm)
      · rw [if_neg hp] at hu
        by_cases hq : (i, j) = q
        · rw [if_pos hq] at hu'
          injection hu' with hu'
          subst hu'
          exact hother p u hu hp
        · rw [if_neg hq] at hu'
          exact h7 p q u u' hu hu' hpq
    · intro k hk
      rw [put_size]
      rcases hk with hk | hk
      · exact Nat.lt_of_lt_of_le (h8 k hk) hg.size
      · exact hk.2

theorem BookAt.newest {W : World} {b : Nat} {B : Book} {S : Nat → Prop} (h : BookAt W b B S) (d : Int) :
    BookAt (W.setCell ⟨b, 2, none⟩ (.int .i64 d)) b { B with nw := d } S ∧ Fr S W (W.setCell ⟨b, 2, none⟩ (.int .i64 d)) := by
  obtain ⟨mb, L, h1, h2, h3, h4, h5, h6, h7, h8⟩ := h
  have hfr : Fr (fun k => k = b) W (W.setCell ⟨b, 2, none⟩ (.int .i64 d)) := (Fr.refl (fun k => k = b) W).setCell (fun _ => rfl) _
  have hbm : mb ≠ b := by
    rintro rfl
    obtain ⟨es, clock, hh, _⟩ := h2
    rw [h1] at hh
    cases hh
  refine ⟨⟨mb, L, blk_put h1 2 _ rfl, h2.of_block (hfr.block mb (h8 mb h4) hbm), h3, h4, fun p v hv => ⟨own_grown (h5 p v hv).1 hfr (fun g hg e => ?_), (h5 p v hv).2⟩, h6, h7, fun i hi => Nat.lt_of_lt_of_le (h8 i hi) hfr.size⟩, hfr.mono (fun i _ e => e ▸ h3)⟩
  refine own_block_ne (h5 p v hv).1 (i := b) (fun cs fr e2 => ?_) (e ▸ hg)
  rw [h1] at e2
  injection e2 with e2
  injection e2 with _ e2
  exact absurd e2 (by decide)

/-! ### The errors of Meet -/
theorem Meet_arg (b : Nat) (B : Book) (S : Nat → Prop) (x y d : Int) (w : World) (h : BookAt w b B S) (hn : ¬ (Two B.n x y ∧ IsDay d)) :
    Calls Try.prog 25 #[.pointer (some ⟨b, 0, none⟩), .int .i64 x, .int .i64 y, .int .i64 d] w fun e w' => e = .returned (.int .i64 1) ∧ Below w.heap.size w w' := by
  by_cases ht : Two B.n x y
  · have hd : ¬ IsDay d := fun hd => hn ⟨ht, hd⟩
    go_enter Try.func25, Try.ntmps25
    go_wp2_with fail
    refine (pair_yes b B.n x y _ h.cell0 ht).mono ?_
    rintro e w1 ⟨rfl, hb⟩
    go_wp2_with fail
    refine (isDay_no d _ hd).mono ?_
    rintro e w' ⟨rfl, rfl⟩
    go_wp2_with fail
    go_ret
    exact ⟨rfl, hb.alloc hb.size _⟩
  · go_enter Try.func25, Try.ntmps25
    go_wp2_with fail
    refine (pair_no b B.n x y _ h.cell0 ht).mono ?_
    rintro e w1 ⟨rfl, hb⟩
    go_wp2_with fail
    go_ret
    exact ⟨rfl, hb.alloc hb.size _⟩
theorem Meet_state (b : Nat) (B : Book) (S : Nat → Prop) (x y d : Int) (w : World) (h : BookAt w b B S) (ht : Two B.n x y) (hd : IsDay d) (hlt : d < B.nw) :
    Calls Try.prog 25 #[.pointer (some ⟨b, 0, none⟩), .int .i64 x, .int .i64 y, .int .i64 d] w fun e w' => e = .returned (.int .i64 6) ∧ Below w.heap.size w w' := by
  go_enter Try.func25, Try.ntmps25
  go_wp2_with fail
  refine (pair_yes b B.n x y _ h.cell0 ht).mono ?_
  rintro e w1 ⟨rfl, hb⟩
  have hc2 := (h.below hb).cell2
  have hbl := World.block_lt_of_cell? _ _ hc2
  simp only at hbl
  go_wp2_with fail
  refine (isDay_yes d _ hd).mono ?_
  rintro e w' ⟨rfl, rfl⟩
  go_wp2_with fail
  go_ret
  exact ⟨rfl, hb.alloc hb.size _⟩

theorem grown_cell {w w' : World} {row : Option Nat} {p : Addr} {v : Value} (hg : w.grownBy w' row) (h : w.cell? p = some v) (hne : row ≠ some p.block) : w'.cell? p = some v :=
  (World.cell?_of_block (w := w) (hg.block p.block (World.block_lt_of_cell? w p h) (fun e => hne e.symm))).trans h
/-! ### A meeting that is taken -/
def lastD (l : List Int) : Int := l.getD (l.length - 1) 0
def addDay (l : List Int) (d : Int) : List Int := if l = [] then [d] else if lastD l < d then l ++ [d] else l
def Book.meet (B : Book) (x y d : Int) : Book := ⟨B.n, d, upd B.D (min x y, max x y) (addDay (B.D (min x y, max x y)) d)⟩
theorem upd_self (D : Int × Int → List Int) (p : Int × Int) : upd D p (D p) = D := by
  funext q
  unfold upd
  split
  · rename_i h; rw [h]
  · rfl

theorem info3 : (Try.prog.info? 3).map (fun i => (i.zero, i.size, i.bytes)) = some (some (.int .i64 0), 1, 8) := by kernel_rfl

set_option maxRecDepth 100000 in
/-- The days are grown by one. -/
theorem Meet_add (b : Nat) (B : Book) (S : Nat → Prop) (x y d : Int) (w : World) (h : BookAt w b B S) (hB : B.Ok) (ht : Two B.n x y) (hd : IsDay d) (hlt : ¬ d < B.nw) (hnew : B.D (min x y, max x y) = [] ∨ lastD (B.D (min x y, max x y)) < d) :
    Calls Try.prog 25 #[.pointer (some ⟨b, 0, none⟩), .int .i64 x, .int .i64 y, .int .i64 d] w fun e w' => e = .returned (.int .i64 0) ∧
      ∃ S', (∀ i, S' i → S i ∨ w.heap.size ≤ i) ∧ Fr S w w' ∧ BookAt w' b ⟨B.n, d, upd B.D (min x y, max x y) (B.D (min x y, max x y) ++ [d])⟩ S' := by
  have hlen := hB.len (min x y, max x y)
  have hd0 := hd.1
  have hd1 := hd.2
  go_enter Try.func25, Try.ntmps25
  go_wp2_with fail
  refine (pair_yes b B.n x y _ h.cell0 ht).mono ?_
  rintro e w1 ⟨rfl, hb⟩
  have hc2 := (h.below hb).cell2
  have hbl := World.block_lt_of_cell? _ _ hc2
  simp only at hbl
  go_wp2_with fail
  refine (isDay_yes d _ hd).mono ?_
  rintro e w' ⟨rfl, rfl⟩
  go_wp2_with fail
  have h1 := h.below hb
  obtain ⟨mb, v, hc, hm, hSm, hl, hown, hvS, hback⟩ := h1.add (min x y) (max x y)
  have hl2 := fun k => hl ((w1.alloc (.cells #[.int .i64 (min x y), .int .i64 (max x y)] 75)).drewN k) (Below.heap_alloc _ _ _ hm)
  clear hl
  obtain ⟨A, c, rfl, hr⟩ := own_reads0 hown
  have HBack := Lib.hid hback
  have Hown := Lib.hid hown
  have HvS := Lib.hid hvS
  have H1 := Lib.hid h1
  clear hback hown hvS h1
  go_quiet (fail)
  have HBd := Lib.hid (pw_below_drewN (hb.alloc hb.size (.cells #[.int .i64 (min x y), .int .i64 (max x y)] 75)) nq)
  have hbd2 := pw_below_drewN (Below.alloc (Below.refl w1.heap.size w1) (Nat.le_refl _) (.cells #[.int .i64 (min x y), .int .i64 (max x y)] 75)) nq
  have hr2 := hr.below hbd2
  have HBd2 := Lib.hid hbd2
  have HP := Lib.hid (show ((w1.alloc (.cells #[.int .i64 (min x y), .int .i64 (max x y)] 75)).drewN nq).heap[w1.heap.size]? = some (.cells #[.int .i64 (min x y), .int .i64 (max x y)] 75 (0, 0)) from blk_new w1 _)
  clear hbd2 hl2 hr
  generalize (w1.alloc (.cells #[.int .i64 (min x y), .int .i64 (max x y)] 75)).drewN nq = w2 at *
  generalize hlD : B.D (min x y, max x y) = l at *
  have HLD := Lib.hid hlD
  clear hlD
  go_upto_region 7 with (fail)
  go_cut [52] (fun v wc => v = .bool true ∧ wc = w2)
  case first =>
    rcases hnew with rfl | hnew
    · go_wp2
      go_meet
      case rel => exact ⟨rfl, rfl⟩
    · by_cases h0 : l = []
      · subst h0
        go_wp2
        go_meet
        case rel => exact ⟨rfl, rfl⟩
      · have hl0 : 0 < l.length := List.length_pos_iff.2 h0
        obtain ⟨g, rfl, hg, hcell⟩ := hr2 hl0
        have hck := hcell (l.length - 1) (by omega)
        unfold lastD at hnew
        have hz : ((l.length : Int) == 0) = false := beq_eq_false_iff_ne.mpr (by omega)
        clear hcell hr2
        go_wp2
        go_meet
        case rel => exact ⟨by simp only [List.getD_eq_getElem?_getD] at hnew; rw [decide_eq_true hnew], rfl⟩
  case rest =>
    clear hnew
    obtain ⟨rfl, rfl⟩ := hcut
    have hcb : wc.cell? ⟨b, 1, none⟩ = some (.map (some mb)) := (HBd2.out.cell (p := ⟨b, 1, none⟩) hbl).trans hc
    have hp0 : wc.cell? ⟨w1.heap.size, 0, none⟩ = some (.int .i64 (min x y)) := (blk_cell HP.out 0).trans rfl
    have hp1 : wc.cell? ⟨w1.heap.size, 1, none⟩ = some (.int .i64 (max x y)) := (blk_cell HP.out 1).trans rfl
    go_wp2_with fail
    refine start_ (n := 10) (S := fun W => W.cell? ⟨b, 1, none⟩ = some (.map (some mb)) ∧ W.cell? ⟨w1.heap.size, 0, none⟩ = some (.int .i64 (min x y)) ∧ W.cell? ⟨w1.heap.size, 1, none⟩ = some (.int .i64 (max x y))) (ds := [9]) #[false, false, false, false, false, false, false, false, false, false] (by kernel_rfl) rfl rfl ⟨hcb, hp0, hp1⟩ (fun hHeld => ?_)
    have HBd3 := Lib.hid HBd.out.drew
    have HBd4 := Lib.hid HBd2.out.drew
    clear HBd HBd2 hr2 hcb hp0 hp1 HP
    generalize wc.drew = w3 at *
    refine pure_ (i := 0) (N := some 53) (v := ?_) (a' := ?_) #[true, false, false, false, false, false, false, false, false, false] rfl rfl (by kernel_rfl) (fun _ _ _ h => h) (Or.inl ⟨by rfl, ?_⟩) ?_ ?_
    rotate_left
    · intro w'
      go_simp
      with_reducible rfl
    rotate_left
    · simp only [Act.put, List.setIfInBounds_toArray, List.set_cons_zero, List.set_cons_succ, i64_w, i32_w]
      rfl
    refine pure_ (i := 1) (N := some 54) (v := ?_) (a' := ?_) #[true, true, false, false, false, false, false, false, false, false] rfl rfl (by kernel_rfl) (fun _ _ _ h => h) (Or.inl ⟨by rfl, ?_⟩) ?_ ?_
    rotate_left
    · intro w'
      go_simp
      with_reducible rfl
    rotate_left
    · simp only [Act.put, List.setIfInBounds_toArray, List.set_cons_zero, List.set_cons_succ, i64_w, i32_w]
      rfl
    refine pure_ (i := 2) (N := some 55) (v := ?_) (a' := ?_) #[true, true, true, false, false, false, false, false, false, false] rfl rfl (by kernel_rfl) (fun _ _ _ h => h) (Or.inl ⟨by rfl, ?_⟩) ?_ ?_
    rotate_left
    · intro w'
      go_simp
      with_reducible rfl
    rotate_left
    · simp only [Act.put, List.setIfInBounds_toArray, List.set_cons_zero, List.set_cons_succ, i64_w, i32_w]
      rfl
    refine pure_ (i := 5) (N := some 58) (v := ?_) (a' := ?_) #[true, true, true, false, false, true, false, false, false, false] rfl rfl (by kernel_rfl) (fun _ _ _ h => h) (Or.inl ⟨by rfl, ?_⟩) ?_ ?_
    rotate_left
    · intro w'
      go_simp
      with_reducible rfl
    rotate_left
    · simp only [Act.put, List.setIfInBounds_toArray, List.set_cons_zero, List.set_cons_succ, i64_w, i32_w]
      rfl
    refine pure_ (i := 6) (N := some 59) (v := ?_) (a' := ?_) #[true, true, true, false, false, true, true, false, false, false] rfl rfl (by kernel_rfl) (fun _ _ _ h => h) (Or.inl ⟨by rfl, ?_⟩) ?_ ?_
    rotate_left
    · intro w'
      go_simp
      with_reducible rfl
    rotate_left
    · simp only [Act.put, List.setIfInBounds_toArray, List.set_cons_zero, List.set_cons_succ, i64_w, i32_w]
      rfl
    refine take_ (i := 3) (N := some 56) (v := ?_) (a' := ?_) #[true, true, true, true, false, true, true, false, false, false] rfl rfl (by kernel_rfl) (fun _ _ _ h => h) (Or.inl ⟨by rfl, ?_⟩) hHeld ?_ ?_
    rotate_left
    · rintro w' ⟨s0, s1, s2⟩
      go_simp
      with_reducible rfl
    rotate_left
    · simp only [Act.put, List.setIfInBounds_toArray, List.set_cons_zero, List.set_cons_succ, i64_w, i32_w]
      rfl
    refine take_ (i := 4) (N := some 57) (v := ?_) (a' := ?_) #[true, true, true, true, true, true, true, false, false, false] rfl rfl (by kernel_rfl) (fun _ _ _ h => h) (Or.inl ⟨by rfl, ?_⟩) hHeld ?_ ?_
    rotate_left
    · rintro w' ⟨s0, s1, s2⟩
      go_simp
      with_reducible rfl
    rotate_left
    · simp only [Act.put, List.setIfInBounds_toArray, List.set_cons_zero, List.set_cons_succ, i64_w, i32_w]
      rfl
    refine one_ (i := 7) (N := some 60) #[true, true, true, true, true, true, true, true, false, false] rfl rfl (by kernel_rfl) (by decide) (fun K hK => ?_)
    refine value_ (v := .slice (some ⟨w3.heap.size, 0, none⟩) 1 1) (w1 := w3.alloc (.cells #[.int .i64 d] 3)) (by rfl) rfl ?_ ?_
    · go_simp
    have hsz3 : w1.heap.size ≤ w3.heap.size := HBd4.out.size
    have hpl : w1.heap.size < w3.heap.size := World.block_lt_of_cell? _ _ hHeld.2.1
    refine hK.out _ _ ⟨pw_cell_below (Below.alloc (Below.refl _ _) (Nat.le_refl _) _) hHeld.1, pw_cell_below (Below.alloc (Below.refl _ _) (Nat.le_refl _) _) hHeld.2.1, pw_cell_below (Below.alloc (Below.refl _ _) (Nat.le_refl _) _) hHeld.2.2⟩ (fun hHeld => ?_)
    clear hK K
    refine norm_ (a' := ?_) ?_ ?_
    rotate_left
    · simp only [Act.put, List.setIfInBounds_toArray, List.set_cons_zero, List.set_cons_succ, i64_w, i32_w]
      rfl
    have hg3 : w1.grownBy (w3.alloc (.cells #[.int .i64 d] 3)) (Value.slice A l.length c).ownBlock := World.grownBy.trans (grown_of_below HBd4.out _) (World.grownBy_alloc w3 _ _)
    have hown3 : (w3.alloc (.cells #[.int .i64 d] 3)).ownsRow 0 3 1 (.slice A l.length c) l.length (nums .i64 l) := by
      exact (pw_own_below Hown.out HBd4.out).alloc _
    obtain ⟨i0, hi, hzz⟩ := Option.map_eq_some_iff.1 info3
    simp only [Prod.mk.injEq] at hzz
    obtain ⟨v', w4, hr4, hown4, hg4, _, hat4⟩ := run_append_own_at (P := Try.prog) (w := w3.alloc (.cells #[.int .i64 d] 3)) 0 39 39 3 i0 (.int .i64 0) 1 8 Try.underlying39 hi hzz.1 hzz.2.1 hzz.2.2 rfl (by omega)
      (.slice A l.length c) l.length (nums .i64 l) hown3 ⟨w3.heap.size, 0, none⟩ 1 1 [.int .i64 d] rfl (World.news_of_block (cs := #[.int .i64 d]) (t := 3) (fr := (0, 0)) (heap_alloc_new w3 _)) (by simp [Value.oneCell']) (by simp only [maxLen]; omega) (by omega) (Nat.zero_le _)
    have hal : (w3.alloc (.cells #[.int .i64 d] 3)).heap.size = w3.heap.size + 1 := by simp
    refine one_ (i := 8) (N := some 61) #[true, true, true, true, true, true, true, true, true, false] rfl rfl (by kernel_rfl) (by decide) (fun K hK => ?_)
    refine append_step (by rfl) rfl rfl (by rfl) (by rfl) hr4 ?_
    have hnb : (Value.slice A l.length c).ownBlock ≠ some b := fun e => (HvS.out b e).2.1 rfl
    have hnp : (Value.slice A l.length c).ownBlock ≠ some w1.heap.size := fun e => by
      have := own_lt Hown.out _ e
      omega
    refine hK.out _ _ ⟨grown_cell hg4 hHeld.1 hnb, grown_cell hg4 hHeld.2.1 hnp, grown_cell hg4 hHeld.2.2 hnp⟩ (fun hHeld => ?_)
    clear hK K
    refine norm_ (a' := ?_) ?_ ?_
    rotate_left
    · simp only [Act.put, List.setIfInBounds_toArray, List.set_cons_zero, List.set_cons_succ, i64_w, i32_w]
      rfl
    have hown5 : w4.ownsRow 0 3 1 v' (l ++ [d]).length (nums .i64 (l ++ [d])) := by
      have : nums .i64 (l ++ [d]) = nums .i64 l ++ [.int .i64 d] := by simp [nums]
      rw [this, List.length_append]
      exact hown4
    have hg5 := World.grownBy.trans hg3 hg4
    obtain ⟨ob, hrun, hbook, hfr⟩ := HBack.out w4 v' (l ++ [d]) hg5 hown5 (by
      rcases hat4 with e | e
      · exact .inl e
      · exact .inr ⟨_, e, by rw [hal]; omega⟩)
    refine last_ (i := 9) (N := none) #[true, true, true, true, true, true, true, true, true, true] rfl rfl (by kernel_rfl) (by decide) (fun K hK => ?_)
    refine mapUpdate_step (by rfl) rfl rfl (by rfl) (by rfl) (by rfl) hrun ?_
    refine hK.out _ _ ?_
    clear hK K
    refine done_ (by kernel_rfl) ?_
    have hc5 := hbook.cell2
    have hf5 : (put w4 mb ob).frozen? ⟨b, 2, none⟩ = false := by
      obtain ⟨mb', L', h1', _⟩ := hbook
      exact blk_frozen h1' 2
    have Hbook := Lib.hid hbook
    have Hfr := Lib.hid hfr
    have hsz4 : w1.heap.size ≤ w4.heap.size := hg5.size
    clear hbook hfr hown5 hown4 hg4 hg3 hg5 hr4 hrun hat4 hown3 hHeld hnb hnp
    generalize put w4 mb ob = w5 at *
    go_wp2_with fail
    go_ret
    obtain ⟨hbk, hfk⟩ := Hbook.out.newest d
    refine ⟨rfl, (fun k => S k ∨ w1.heap.size ≤ k ∧ k < w4.heap.size), ?_, (Fr.of_below hb).trans (T := S) (Hfr.out.trans (T := fun k => S k ∨ w1.heap.size ≤ k ∧ k < w4.heap.size) hfk (fun i hi e => ?_)) (fun i _ e => e), ?_⟩
    · intro i hi
      rcases hi with hi | hi
      · exact .inl hi
      · exact .inr (Nat.le_trans hb.size hi.1)
    · rcases e with e | e
      · exact e
      · omega
    · rw [HLD.out]
      exact hbk

set_option maxRecDepth 100000 in
theorem Meet_same (b : Nat) (B : Book) (S : Nat → Prop) (x y d : Int) (w : World) (h : BookAt w b B S) (hB : B.Ok) (ht : Two B.n x y) (hd : IsDay d) (hlt : ¬ d < B.nw) (hne : B.D (min x y, max x y) ≠ []) (hold : ¬ lastD (B.D (min x y, max x y)) < d) :
    Calls Try.prog 25 #[.pointer (some ⟨b, 0, none⟩), .int .i64 x, .int .i64 y, .int .i64 d] w fun e w' => e = .returned (.int .i64 0) ∧
      Fr S w w' ∧ BookAt w' b ⟨B.n, d, B.D⟩ S := by
  have hlen := hB.len (min x y, max x y)
  have hd0 := hd.1
  have hd1 := hd.2
  go_enter Try.func25, Try.ntmps25
  go_wp2_with fail
  refine (pair_yes b B.n x y _ h.cell0 ht).mono ?_
  rintro e w1 ⟨rfl, hb⟩
  have hc2 := (h.below hb).cell2
  have hbl := World.block_lt_of_cell? _ _ hc2
  simp only at hbl
  go_wp2_with fail
  refine (isDay_yes d _ hd).mono ?_
  rintro e w' ⟨rfl, rfl⟩
  go_wp2_with fail
  have h1 := h.below hb
  obtain ⟨mb, v, hc, hm, hSm, hl, hown, hvS, hback⟩ := h1.add (min x y) (max x y)
  have hl2 := fun k => hl ((w1.alloc (.cells #[.int .i64 (min x y), .int .i64 (max x y)] 75)).drewN k) (Below.heap_alloc _ _ _ hm)
  clear hl hback hvS
  obtain ⟨A, c, rfl, hr⟩ := own_reads0 hown
  have Hown := Lib.hid hown
  have H1 := Lib.hid h1
  clear hown h1
  go_quiet (fail)
  have HBd := Lib.hid (pw_below_drewN (hb.alloc hb.size (.cells #[.int .i64 (min x y), .int .i64 (max x y)] 75)) nq)
  have hr2 := hr.below (pw_below_drewN (Below.alloc (Below.refl w1.heap.size w1) (Nat.le_refl _) (.cells #[.int .i64 (min x y), .int .i64 (max x y)] 75)) nq)
  clear hl2 hr
  generalize (w1.alloc (.cells #[.int .i64 (min x y), .int .i64 (max x y)] 75)).drewN nq = w2 at *
  generalize B.D (min x y, max x y) = l at *
  have hl0 : 0 < l.length := List.length_pos_iff.2 hne
  obtain ⟨g, rfl, hg, hcell⟩ := hr2 hl0
  have hck := hcell (l.length - 1) (by omega)
  have hdc : decide (l[l.length - 1]?.getD 0 < d) = false := by
    unfold lastD at hold
    rw [List.getD_eq_getElem?_getD] at hold
    exact decide_eq_false (by omega)
  have hz : ((l.length : Int) == 0) = false := beq_eq_false_iff_ne.mpr (by omega)
  have hbk := h.below HBd.out
  have hc5 := hbk.cell2
  have hf5 : w2.frozen? ⟨b, 2, none⟩ = false := by
    obtain ⟨mb', L', h1', _⟩ := hbk
    exact blk_frozen h1' 2
  have Hbk := Lib.hid hbk
  clear hcell hr2 hold hbk hne
  go_wp2
  go_ret
  obtain ⟨hbk, hfk⟩ := Hbk.out.newest d
  exact ⟨rfl, (Fr.of_below HBd.out).trans hfk (fun i _ e => e), hbk⟩

/-- Meet takes a meeting. -/
theorem Meet_yes (b : Nat) (B : Book) (S : Nat → Prop) (x y d : Int) (w : World) (h : BookAt w b B S) (hB : B.Ok) (ht : Two B.n x y) (hd : IsDay d) (hlt : ¬ d < B.nw) :
    Calls Try.prog 25 #[.pointer (some ⟨b, 0, none⟩), .int .i64 x, .int .i64 y, .int .i64 d] w fun e w' => e = .returned (.int .i64 0) ∧
      ∃ S', (∀ i, S' i → S i ∨ w.heap.size ≤ i) ∧ Fr S w w' ∧ BookAt w' b (B.meet x y d) S' := by
  by_cases hnew : B.D (min x y, max x y) = [] ∨ lastD (B.D (min x y, max x y)) < d
  · have e : B.meet x y d = ⟨B.n, d, upd B.D (min x y, max x y) (B.D (min x y, max x y) ++ [d])⟩ := by
      unfold Book.meet addDay
      split
      · rename_i h0; rw [h0]; rfl
      · rename_i h0
        rw [if_pos (hnew.resolve_left h0)]
    rw [e]
    exact Meet_add b B S x y d w h hB ht hd hlt hnew
  · have h0 : B.D (min x y, max x y) ≠ [] := fun e => hnew (.inl e)
    have h1 : ¬ lastD (B.D (min x y, max x y)) < d := fun e => hnew (.inr e)
    have e : B.meet x y d = ⟨B.n, d, B.D⟩ := by
      unfold Book.meet addDay
      rw [if_neg h0, if_neg h1, upd_self]
    rw [e]
    exact (Meet_same b B S x y d w h hB ht hd hlt h0 h1).mono fun e w' ⟨h1, h2, h3⟩ => ⟨h1, S, fun i hi => .inl hi, h2, h3⟩

theorem lastD_mem {l : List Int} (h : l ≠ []) : lastD l ∈ l := by
  unfold lastD
  have hl : 0 < l.length := List.length_pos_iff.2 h
  rw [List.getD_eq_getElem?_getD, List.getElem?_eq_getElem (by omega)]
  exact List.getElem_mem _
theorem lastD_max {l : List Int} (h : l.Pairwise (· < ·)) {m : Int} (hm : m ∈ l) : m ≤ lastD l := by
  unfold lastD
  obtain ⟨i, hi, rfl⟩ := List.mem_iff_getElem.1 hm
  rw [List.getD_eq_getElem?_getD, List.getElem?_eq_getElem (by omega)]
  simp only [Option.getD_some]
  rcases Nat.lt_or_ge i (l.length - 1) with h1 | h1
  · exact Int.le_of_lt (List.pairwise_iff_getElem.1 h i (l.length - 1) hi (by omega) h1)
  · have : i = l.length - 1 := by omega
    subst this
    exact Int.le_refl _
theorem addDay_mem {l : List Int} {d m : Int} : m ∈ addDay l d → m ∈ l ∨ m = d := by
  unfold addDay
  split
  · intro h; simp at h; exact .inr h
  · split
    · intro h; rcases List.mem_append.1 h with h | h
      · exact .inl h
      · simp at h; exact .inr h
    · exact .inl
theorem addDay_asc {l : List Int} {d : Int} (h : l.Pairwise (· < ·)) : (addDay l d).Pairwise (· < ·) := by
  unfold addDay
  split
  · simp
  · split
    · rename_i hl
      rw [List.pairwise_append]
      refine ⟨h, by simp, fun a ha b hb => ?_⟩
      simp at hb
      subst hb
      have := lastD_max h ha
      omega
    · exact h
theorem Book.Ok.meet {B : Book} (h : B.Ok) {x y d : Int} (hd : IsDay d) (hlt : ¬ d < B.nw) : (B.meet x y d).Ok where
  n2 := h.n2
  n12 := h.n12
  nw0 := by have := hd.1; simp only [Book.meet]; omega
  nw1 := hd.2
  asc p := by
    simp only [Book.meet, upd]
    split
    · exact addDay_asc (h.asc _)
    · exact h.asc p
  low p m hm := by
    simp only [Book.meet, upd] at hm
    split at hm
    · rcases addDay_mem hm with hm | rfl
      · exact h.low _ _ hm
      · exact hd.1
    · exact h.low p m hm
  high p m hm := by
    simp only [Book.meet, upd] at hm ⊢
    split at hm
    · rcases addDay_mem hm with hm | rfl
      · have := h.high _ _ hm; omega
      · exact Int.le_refl _
    · have := h.high p m hm; omega
end Go.Proofs.Ytkbiggmkjbmgoaa.Bk
