/- Match, Cut, awake, the reference's comparison, PriorityCompare's walk: merged out of TR, TU, TV, TX, TY. -/

import Derived.Test.YtkngdlmlijefbaaUM
import Derived.BigQuiet

import Derived.Test.YtkngdlmlijefbaaPPriorityOrderx5
section
namespace Go.Proofs.Ytkngdlmlijefbaa.Pq
open Go.RowKit Go.Proofs.YtkngdlmlijefbaaW.PrintWords Go.Proofs.YtkngdlmlijefbaaW.PrintLast Go.Proofs.YtkngdlmlijefbaaW.PrintMore Go.Proofs.Mp
open Go.Proofs.Ytkngdlmlijefbaa.PPriorityOrder
set_option linter.unusedVariables false
set_option linter.unusedSimpArgs false

theorem own_ne {w : World} {base : Nat} {ok : Nat → Prop} {v : Value} {l : List S32} (h : Kd.R k32 32 w base ok v l) {g : Nat} (hg : w.heap.size ≤ g) : ∀ k, v.ownBlock = some k → k ≠ g := fun k hk e => by have := Kd.R_lt h k hk; omega
set_option maxHeartbeats 8000000 in
set_option maxRecDepth 100000 in
theorem match_yes (A : Option Addr) (ca : Nat) (a : List S32) (B : Option Addr) (cb : Nat) (b : List S32) (budget : Int) (w : World) (ha : Kd.C k32 w A a.length a) (hb : Kd.C k32 w B b.length b) (hla : a.length ≤ 1000) (hlb : b.length ≤ 1000) (h : okAll a b budget = true) (hbu : budget ≤ 9223372036854775807) :
    Calls Try.prog 30 #[.slice A a.length ca, .slice B b.length cb, .int .i64 budget] w fun e w' => ∃ v u, e = .returned (.tuple #[v, u, .int .i64 0]) ∧ Kd.R (Kd.int .i64) 3 w' w.heap.size (fun _ => True) v ((res a b budget).map (·.1)) ∧ Kd.R k32 32 w' w.heap.size (fun _ => True) u ((res a b budget).map (·.2)) ∧ Below w.heap.size w w' := by
  have H1 := Lib.hid (Order_calls A ca a w ha hla)
  have Hb := Lib.hid hb
  unfold okAll at h
  simp only [Bool.and_eq_true, decide_eq_true_eq] at h
  obtain ⟨qa, qb, hb0⟩ := h
  have Qa := Lib.hid qa
  have Qb := Lib.hid qb
  have hneg : decide (budget < 0) = false := decide_eq_false (by omega)
  have la := ordT_len a
  have lb := ordT_len b
  have HVa := Lib.hid (ordT_valid (l := a) (fun x hx => (vB_iff x).1 (List.all_eq_true.1 qa x hx)))
  have HVb := Lib.hid (ordT_valid (l := b) (fun x hx => (vB_iff x).1 (List.all_eq_true.1 qb x hx)))
  clear qa qb ha hb
  go_enter Try.func30, Try.ntmps30
  go_wp2_with fail
  refine H1.out.mono ?_
  rintro e w1 ⟨h1, -⟩
  obtain ⟨v, rfl, hR, hB⟩ := h1 Qa.out
  have B1 := Lib.hid hB
  have R1 := Lib.hid hR
  clear h1 hB H1 hR
  go_wp2_with fail
  refine (Order_calls B cb b w1 (Kd.C_below Hb.out B1.out) hlb).mono ?_
  rintro e w2 ⟨h1, -⟩
  obtain ⟨u, rfl, hR, hB⟩ := h1 Qb.out
  have B2 := Lib.hid (B1.out.trans (hB.mono B1.out.size))
  have R1' := Lib.hid (Kd.R_below R1.out hB)
  have R2 := Lib.hid hR
  clear h1 hB hR R1 B1
  go_wp2_with fail
  refine (taker_calls _ _).mono ?_
  rintro e w3 ⟨rfl, hw3⟩
  obtain ⟨A1, c1, rfl, hs1⟩ := Src.of_R (Kd.R_alloc R1'.out (.cells #[.int .i64 budget] 3)) (own_ne R1'.out (Nat.le_refl _))
  obtain ⟨A2, c2, rfl, hs2⟩ := Src.of_R (Kd.R_alloc R2.out (.cells #[.int .i64 budget] 3)) (own_ne R2.out (Nat.le_refl _))
  rw [← hw3] at hs1 hs2
  have hg3 : w2.heap.size < w3.heap.size := by rw [hw3]; simp
  have hgw : w.heap.size ≤ w2.heap.size := B2.out.size
  have B3 : Hid (Below w.heap.size w w3) := Lib.hid (by rw [hw3]; exact B2.out.alloc hgw _)
  have HM : Hid (MI w3 w3 w2.heap.size A1 c1 (ordT a) A2 c2 (ordT b) budget [] [] (.slice none 0 0) (.slice none 0 0)) := Lib.hid
    ⟨hs1, hs2, HVa.out, HVb.out, Fr.refl _ _, by rw [hw3]; exact blk_new _ _, hb0, hbu, Kd.R_nil _ _ _ _ _, Kd.R_nil _ _ _ _ _, hg3⟩
  have HE : Hid (([] : List (Int × S32)) ++ mt ((ordT a).length + (ordT b).length) (ordT a) (ordT b) budget = res a b budget) := Lib.hid rfl
  clear hs1 hs2 HVa HVb hb0 hneg R1' R2 hw3 B2
  generalize w2.heap.size = gl at *
  generalize ordT a = x0 at *
  generalize ordT b = y0 at *
  go_wp2_with fail
  go_loopw [9, 11, 13, 14] (fun v9 v11 v13 v14 wr => ∃ (Ax : Option Addr) (cx : Nat) (x : List S32) (Ay : Option Addr) (cy : Nat) (y : List S32) (left : Int) (acc : List (Int × S32)), v9 = .slice Ax x.length cx ∧ v11 = .slice Ay y.length cy ∧ x.length + y.length + acc.length ≤ 2000 ∧
    Hid (MI w3 wr gl Ax cx x Ay cy y left (acc.map (·.1)) (acc.map (·.2)) v13 v14) ∧ Hid (acc ++ mt (x.length + y.length) x y left = res a b budget)) (fun v9 v11 _ _ _ => lenOf v9 + lenOf v11)
  case atStart => exact ⟨A1, c1, x0, A2, c2, y0, budget, [], rfl, rfl, by simp; omega, HM, HE⟩
  case round =>
    obtain ⟨Ax, cx, x, Ay, cy, y, left, acc, rfl, rfl, hlen, hM, hE⟩ := hrel
    have HMr := Lib.hid hM.out
    have HEr := Lib.hid hE.out
    clear hM hE HM HE
    cases y with
    | nil =>
      cases x with
      | nil =>
        have hres : Hid (acc = res a b budget) := Lib.hid (by
          have e := HEr.out
          rw [mt_none, List.append_nil] at e
          exact e)
        clear HEr
        go_wp2_with fail
        refine bodyPost_ret (v := .tuple #[u13, u14, .int .i64 0]) (by simp [results, Try.results30, go_sem]) rfl ⟨u13, u14, rfl, ?_, ?_, ?_⟩
        · rw [← hres.out]
          exact Kd.R_lower HMr.out.sd B3.out.size
        · rw [← hres.out]
          exact Kd.R_lower HMr.out.ot B3.out.size
        · exact below_of_fr B3.out HMr.out.fr (fun i hi e => by omega)
      | cons t x =>
        have hp : 0 < (t :: x).length + ([] : List S32).length := by simp
        simp only [List.length_cons, List.length_nil] at hlen ⊢
        have hcx : x.length + 1 ≤ cx := HMr.out.sx.cap
        obtain ⟨ad, rfl, hhd⟩ := HMr.out.sx.head HMr.out.fr
        have HHd := Lib.hid hhd
        have hpk : Hid (pick (t :: x) [] = some (0, t, x, [])) := Lib.hid rfl
        clear hhd
        go_wp2_with fail
        go_quiet (fail)
        go_wp2_with fail
        have hbq : Below wr.heap.size wr ((wr.alloc (.cells #[.string ⟨#[]⟩, .int .i64 0, .int .i64 0, .int .i64 0, .int .i64 0, .int .i64 0, .int .i64 0] 32)).drewN nq) := pw_below_drewN ((Below.refl wr.heap.size wr).alloc (Nat.le_refl _) _) _
        have HT : Hid (((wr.alloc (.cells #[.string ⟨#[]⟩, .int .i64 0, .int .i64 0, .int .i64 0, .int .i64 0, .int .i64 0, .int .i64 0] 32)).drewN nq).heap[wr.heap.size]? = some (.cells #[.string ⟨#[]⟩, .int .i64 0, .int .i64 0, .int .i64 0, .int .i64 0, .int .i64 0, .int .i64 0] 32 (0, 0))) := Lib.hid (blk_new wr _)
        have Hgt : Hid (w3.heap.size ≤ wr.heap.size) := Lib.hid HMr.out.fr.size
        have HMq := Lib.hid (HMr.out.below hbq)
        have HHq := Lib.hid (HHd.out _ hbq)
        have Hne : Hid (some wr.heap.size ≠ u14.ownBlock) := Lib.hid (fun e => by have := Kd.R_lt HMr.out.ot _ e.symm; omega)
        clear HMr HHd hbq
        generalize (wr.alloc (.cells #[.string ⟨#[]⟩, .int .i64 0, .int .i64 0, .int .i64 0, .int .i64 0, .int .i64 0, .int .i64 0] 32)).drewN nq = wq at *
        generalize wr.heap.size = gt at *
        have HVt := Lib.hid (HMq.out.vx t (by simp))
        have hsl : ∀ w, (Instr.slice 47 (.slice (some ad) (x.length + 1) cx) (some (.int .i64 1)) none none).run Try.prog w = .ok (.slice (tl ad cx) x.length (cx - 1)) w := run_tail ad x.length cx hcx
        refine start_ (n := 7) (S := fun W => (W.cell? ad = some (.string t.f0.f0) ∧ W.cell? ⟨ad.block, ad.off + 1, none⟩ = some (.int .i64 t.f0.f1) ∧ W.cell? ⟨ad.block, ad.off + 2, none⟩ = some (.int .i64 t.f1) ∧ W.cell? ⟨ad.block, ad.off + 3, none⟩ = some (.int .i64 t.f2) ∧ W.cell? ⟨ad.block, ad.off + 4, none⟩ = some (.int .i64 t.f3.f0) ∧ W.cell? ⟨ad.block, ad.off + 5, none⟩ = some (.int .i64 t.f3.f1) ∧ W.cell? ⟨ad.block, ad.off + 6, none⟩ = some (.int .i64 t.f4))) (ds := [5]) #[false, false, false, false, false, false, false] (by kernel_rfl) rfl rfl HHq.out (fun hHeld => ?_)
        have HMd := Lib.hid (HMq.out.below (below_drew (Below.refl _ _)))
        have HTd : Hid (wq.drew.heap[gt]? = _) := Lib.hid HT.out
        clear HMq HHq HT
        generalize wq.drew = wd at *
        refine pure_ (i := 0) (N := some 65) (v := ?_) (a' := ?_) #[true, false, false, false, false, false, false] rfl rfl (by kernel_rfl) (fun _ _ _ h => h) (Or.inl ⟨by rfl, ?_⟩) ?_ ?_
        rotate_left
        · intro w'
          go_simp
          with_reducible rfl
        rotate_left
        · simp only [Act.put, List.setIfInBounds_toArray, List.set_cons_zero, List.set_cons_succ, i64_w, i32_w]
          rfl
        refine pure_ (i := 1) (N := some 66) (v := ?_) (a' := ?_) #[true, true, false, false, false, false, false] rfl rfl (by kernel_rfl) (fun _ _ _ h => h) (Or.inl ⟨by rfl, ?_⟩) ?_ ?_
        rotate_left
        · intro w'
          go_simp
          with_reducible rfl
        rotate_left
        · simp only [Act.put, List.setIfInBounds_toArray, List.set_cons_zero, List.set_cons_succ, i64_w, i32_w]
          rfl
        refine take_ (i := 2) (N := some 67) (v := ?_) (a' := ?_) #[true, true, true, false, false, false, false] rfl rfl (by kernel_rfl) (fun _ _ _ h => h) (Or.inl ⟨by rfl, ?_⟩) hHeld ?_ ?_
        rotate_left
        · rintro w' ⟨s0, s1, s2, s3, s4, s5, s6⟩
          go_simp
          with_reducible rfl
        rotate_left
        · simp only [Act.put, List.setIfInBounds_toArray, List.set_cons_zero, List.set_cons_succ, i64_w, i32_w]
          rfl
        refine pure_ (i := 3) (N := some 68) (v := ?_) (a' := ?_) #[true, true, true, true, false, false, false] rfl rfl (by kernel_rfl) (fun _ _ _ h => h) (Or.inl ⟨by rfl, ?_⟩) ?_ ?_
        rotate_left
        · intro w'
          go_simp
          with_reducible rfl
        rotate_left
        · simp only [Act.put, List.setIfInBounds_toArray, List.set_cons_zero, List.set_cons_succ, i64_w, i32_w]
          rfl
        refine pure_ (i := 4) (N := some 69) (v := ?_) (a' := ?_) #[true, true, true, true, true, false, false] rfl rfl (by kernel_rfl) (fun _ _ _ h => h) (Or.inl ⟨by rfl, ?_⟩) ?_ ?_
        rotate_left
        · intro w'
          go_simp
          with_reducible rfl
        rotate_left
        · simp only [Act.put, List.setIfInBounds_toArray, List.set_cons_zero, List.set_cons_succ, i64_w, i32_w]
          rfl
        clear hsl
        have hf0 : wd.frozen? ⟨gt, 0, none⟩ = false := blk_frozen HTd.out 0
        have hf1 : wd.frozen? ⟨gt, 1, none⟩ = false := blk_frozen HTd.out 1
        have hf2 : wd.frozen? ⟨gt, 2, none⟩ = false := blk_frozen HTd.out 2
        have hf3 : wd.frozen? ⟨gt, 3, none⟩ = false := blk_frozen HTd.out 3
        have hf4 : wd.frozen? ⟨gt, 4, none⟩ = false := blk_frozen HTd.out 4
        have hf5 : wd.frozen? ⟨gt, 5, none⟩ = false := blk_frozen HTd.out 5
        have hf6 : wd.frozen? ⟨gt, 6, none⟩ = false := blk_frozen HTd.out 6
        have hz0 : wd.cell? ⟨gt, 0, none⟩ = some (.string ⟨#[]⟩) := (blk_cell HTd.out 0).trans rfl
        have hz1 : wd.cell? ⟨gt, 1, none⟩ = some (.int .i64 0) := (blk_cell HTd.out 1).trans rfl
        have hz2 : wd.cell? ⟨gt, 2, none⟩ = some (.int .i64 0) := (blk_cell HTd.out 2).trans rfl
        have hz3 : wd.cell? ⟨gt, 3, none⟩ = some (.int .i64 0) := (blk_cell HTd.out 3).trans rfl
        have hz4 : wd.cell? ⟨gt, 4, none⟩ = some (.int .i64 0) := (blk_cell HTd.out 4).trans rfl
        have hz5 : wd.cell? ⟨gt, 5, none⟩ = some (.int .i64 0) := (blk_cell HTd.out 5).trans rfl
        have hz6 : wd.cell? ⟨gt, 6, none⟩ = some (.int .i64 0) := (blk_cell HTd.out 6).trans rfl
        clear hHeld
        refine last_ (i := 5) (N := none) #[true, true, true, true, true, true, false] rfl rfl (by kernel_rfl) (by decide) (fun K hK => ?_)
        refine skip_ (w1 := wd.setCells gt 0 (tcs t)) (by rfl) rfl ?_ ?_
        · unfold tcs
          go_simp
          rfl
        refine hK.out _ _ ?_
        clear hK K
        refine pure_ (i := 6) (N := some 9) (v := ?_) (a' := ?_) #[true, true, true, true, true, true, true] rfl rfl (by kernel_rfl) (fun _ _ _ h => h) (Or.inl ⟨by rfl, ?_⟩) ?_ ?_
        rotate_left
        · intro w'
          go_simp
          with_reducible rfl
        rotate_left
        · simp only [Act.put, List.setIfInBounds_toArray, List.set_cons_zero, List.set_cons_succ, i64_w, i32_w]
          rfl
        refine done_ (by kernel_rfl) ?_
        have HMs := Lib.hid (HMd.out.tailx.store Hgt.out HTd.out Hne.out 0 (tcs t))
        have HEy : Hid (t.f1 ≤ left → (acc ++ [((0 : Int), t)]) ++ mt (x.length + ([] : List S32).length) x [] (left - t.f1) = res a b budget) := Lib.hid (fun h => by
          have e := HEr.out
          rw [show (t :: x).length + ([] : List S32).length = (x.length + 0) + 1 from rfl, mt_yes hpk.out h] at e
          rw [← e, List.append_assoc]; rfl)
        have HEn : Hid (¬ t.f1 ≤ left → acc ++ mt (x.length + ([] : List S32).length) x [] left = res a b budget) := Lib.hid (fun h => by
          have e := HEr.out
          rw [show (t :: x).length + ([] : List S32).length = (x.length + 0) + 1 from rfl, mt_no hpk.out h] at e
          exact e)
        have hcut : True := trivial
        clear HEr hpk
        have HTs : Hid ((wd.setCells gt 0 (tcs t)).heap[gt]? = _) := Lib.hid (blk_tcs HTd.out t)
        have hfoot := C7.of HTs.out
        obtain ⟨hz0, hz1, hz2, hz3, hz4, hz5, hz6⟩ := hfoot
        clear hf0 hf1 hf2 hf3 hf4 hf5 hf6 HTd HMd hcut
        generalize wd.setCells gt 0 (tcs t) = ws at *
        have Hgg : Hid (gt ≠ gl) := Lib.hid (by have := Hgt.out; have := HMs.out.gl; omega)
        have hlt0 := HVt.out.s0
        have hl0 := HMs.out.l0
        have hl1 := HMs.out.l1
        by_cases htk : t.f1 ≤ left
        · have HEy2 := Lib.hid (HEy.out htk)
          clear HEy HEn
          have HTK := Lib.hid (take_yes t gl left ws HMs.out.blk htk hlt0 hl1)
          go_wp2_with fail
          refine HTK.out.mono ?_
          rintro e wt ⟨rfl, hbk, hfr⟩
          have HM := Lib.hid (HMs.out.took hfr hbk (by omega) (by omega))
          have HT := Lib.hid ((hfr.block gt (blk_lt HTs.out) Hgg.out).trans HTs.out)
          clear hbk hfr HTK HMs HTs hz0 hz1 hz2 hz3 hz4 hz5 hz6
          obtain ⟨ss, hss⟩ : ∃ ss, ss = acc.map (·.1) := ⟨_, rfl⟩
          obtain ⟨ts, hts⟩ : ∃ ts, ts = acc.map (·.2) := ⟨_, rfl⟩
          have Hlen : Hid (ss.length ≤ 2000 ∧ ts.length ≤ 2000) := Lib.hid (by rw [hss, hts, List.length_map, List.length_map]; omega)
          rw [← hss, ← hts] at HM
          have Hss := Lib.hid hss
          have Hts := Lib.hid hts
          clear hss hts
          go_wp2_with fail
          have HM := Lib.hid (HM.out.below (below_drew (Below.refl _ _)))
          have HT : Hid (wt.drew.heap[gt]? = _) := Lib.hid HT.out
          refine start_ (n := 10) (S := fun W => C7 W gt t) (ds := [7]) #[false, false, false, false, false, false, false, false, false, false] (by kernel_rfl) rfl rfl (C7.of HT.out) (fun hHeld => ?_)
          generalize wt.drew = w4 at *
          refine pure_ (i := 0) (N := some 78) (v := ?_) (a' := ?_) #[true, false, false, false, false, false, false, false, false, false] rfl rfl (by kernel_rfl) (fun _ _ _ h => h) (Or.inl ⟨by rfl, ?_⟩) ?_ ?_
          rotate_left
          · intro w'
            go_simp
            with_reducible rfl
          rotate_left
          · simp only [Act.put, List.setIfInBounds_toArray, List.set_cons_zero, List.set_cons_succ, i64_w, i32_w]
            rfl
          refine pure_ (i := 1) (N := some 79) (v := ?_) (a' := ?_) #[true, true, false, false, false, false, false, false, false, false] rfl rfl (by kernel_rfl) (fun _ _ _ h => h) (Or.inl ⟨by rfl, ?_⟩) ?_ ?_
          rotate_left
          · intro w'
            go_simp
            with_reducible rfl
          rotate_left
          · simp only [Act.put, List.setIfInBounds_toArray, List.set_cons_zero, List.set_cons_succ, i64_w, i32_w]
            rfl
          refine pure_ (i := 4) (N := some 82) (v := ?_) (a' := ?_) #[true, true, false, false, true, false, false, false, false, false] rfl rfl (by kernel_rfl) (fun _ _ _ h => h) (Or.inl ⟨by rfl, ?_⟩) ?_ ?_
          rotate_left
          · intro w'
            go_simp
            with_reducible rfl
          rotate_left
          · simp only [Act.put, List.setIfInBounds_toArray, List.set_cons_zero, List.set_cons_succ, i64_w, i32_w]
            rfl
          refine take_ (i := 5) (N := some 83) (v := ?_) (a' := ?_) #[true, true, false, false, true, true, false, false, false, false] rfl rfl (by kernel_rfl) (fun _ _ _ h => h) (Or.inl ⟨by rfl, ?_⟩) hHeld ?_ ?_
          rotate_left
          · rintro w' ⟨s0, s1, s2, s3, s4, s5, s6⟩
            go_simp
            with_reducible rfl
          rotate_left
          · simp only [Act.put, List.setIfInBounds_toArray, List.set_cons_zero, List.set_cons_succ, i64_w, i32_w]
            rfl
          refine two_ (i := 2) (j := 6) (Ni := some 80) (Nj := some 84) #[true, true, true, false, true, true, false, false, false, false] #[true, true, false, false, true, true, true, false, false, false] rfl rfl rfl rfl (by kernel_rfl) (by decide) (by decide) (fun K hK => ?_) (fun K hK => ?_)
          · skip
            refine value_ (v := .slice (some ⟨w4.heap.size, 0, none⟩) 1 1) (w1 := w4.alloc (.cells #[.int .i64 0] 3)) (by rfl) rfl ?_ ?_
            · go_simp
            have hbl := (Below.refl w4.heap.size w4).alloc (Nat.le_refl _) (.cells #[.int .i64 0] 3)
            have HM := Lib.hid (HM.out.below hbl)
            have HT := Lib.hid (blk_below HT.out hbl)
            have HL1 := Lib.hid (blk_new w4 (.cells #[.int .i64 0] 3))
            refine hK.out _ _ (C7.of HT.out) (fun hHeld => ?_)
            clear hK K hbl
            refine norm_ (a' := ?_) ?_ ?_
            rotate_left
            · simp only [Act.put, List.setIfInBounds_toArray, List.set_cons_zero, List.set_cons_succ, i64_w, i32_w]
              rfl
            generalize w4.alloc (.cells #[.int .i64 0] 3) = wa at *
            generalize w4.heap.size = g1 at *
            refine two_ (i := 3) (j := 6) (Ni := some 81) (Nj := some 84) #[true, true, true, true, true, true, false, false, false, false] #[true, true, true, false, true, true, true, false, false, false] rfl rfl rfl rfl (by kernel_rfl) (by decide) (by decide) (fun K hK => ?_) (fun K hK => ?_)
            · skip
              refine Kd.R_append_rows_step (Kd.int .i64) (Rr := (Kd.int .i64).K wa) (w0 := wa) w3.heap.size (by rfl) (.tmp 78) (.tmp 80) 64 3 (.int .i64 0) 8 rfl Try.underlying64 info3 rfl (by decide) (by omega) u13 ss [0] (some ⟨g1, 0, none⟩) 1 1 (fun _ => True) (fun _ => False) rfl rfl HM.out.sd (C_one3 HL1.out) ?aK (fun _ hk => hk.elim) (fun _ _ => trivial) (fr_self HM.out.fr) HM.out.fr.size (by have := Hlen.out; omega) ?_
              case aK => exact fun y cs h => h
              intro v1 w5 ho1 hB1 hg1 hat1
              show K (Act.put _ (some 81) v1) w5
              have HT5 := Lib.hid (blk_grown HT.out hg1 (Kd.R_ne HM.out.sd HT.out (by decide)))
              have HM5 := Lib.hid (HM.out.app1 ho1 hB1 hg1)
              refine hK.out _ _ (C7.of HT5.out) (fun hHeld => ?_)
              clear hK K ho1 hB1 hg1 hat1 HM HT HL1
              refine norm_ (a' := ?_) ?_ ?_
              rotate_left
              · simp only [Act.put, List.setIfInBounds_toArray, List.set_cons_zero, List.set_cons_succ, i64_w, i32_w]
                rfl
              have HM := HM5
              have HT := HT5
              have Hlen : Hid ((ss ++ [(0 : Int)]).length ≤ 2001 ∧ ts.length ≤ 2000) := Lib.hid (by have := Hlen.out; simp; omega)
              clear HM5 HT5
              refine one_ (i := 6) (N := some 84) #[true, true, true, true, true, true, true, false, false, false] rfl rfl (by kernel_rfl) (by decide) (fun K hK => ?_)
              refine value_ (v := .slice (some ⟨w5.heap.size, 0, none⟩) 1 1) (w1 := w5.alloc (.cells (tcells t) 32)) (by rfl) rfl ?_ ?_
              · go_simp
                rfl
              have hbl := (Below.refl w5.heap.size w5).alloc (Nat.le_refl _) (.cells (tcells t) 32)
              have HM := Lib.hid (HM.out.below hbl)
              have HT := Lib.hid (blk_below HT.out hbl)
              have HL2 := Lib.hid (blk_new w5 (.cells (tcells t) 32))
              refine hK.out _ _ (C7.of HT.out) (fun hHeld => ?_)
              clear hK K hbl
              refine norm_ (a' := ?_) ?_ ?_
              rotate_left
              · simp only [Act.put, List.setIfInBounds_toArray, List.set_cons_zero, List.set_cons_succ, i64_w, i32_w]
                rfl
              generalize w5.alloc (.cells (tcells t) 32) = wb at *
              generalize w5.heap.size = g2 at *
              refine last_ (i := 7) (N := some 85) #[true, true, true, true, true, true, true, true, false, false] rfl rfl (by kernel_rfl) (by decide) (fun K hK => ?_)
              refine Kd.R_append_rows_step k32 (Rr := k32.K wb) (w0 := wb) w3.heap.size (by rfl) (.tmp 82) (.tmp 84) 47 32 (.agg #[.string ByteArray.empty, .int .i64 0, .int .i64 0, .int .i64 0, .int .i64 0, .int .i64 0, .int .i64 0]) 64 rfl Try.underlying47 info32 rfl (by decide) (by omega) u14 ts [t] (some ⟨g2, 0, none⟩) 1 1 (fun _ => True) (fun _ => False) rfl rfl HM.out.ot (C_one32 HL2.out) ?aK (fun _ hk => hk.elim) (fun _ _ => trivial) (fr_self HM.out.fr) HM.out.fr.size (by have := Hlen.out; omega) ?_
              case aK => exact fun y cs h => by obtain rfl := k32_open h; exact k32_mkM _ _ _ y
              intro v2 w6 ho1 hB1 hg1 hat1
              show K (Act.put _ (some 85) v2) w6
              have HM6 := Lib.hid (HM.out.app2 ho1 hB1 hg1)
              refine hK.out _ _ ?_
              clear hK K ho1 hB1 hg1 hat1 HM HT HL2
              refine norm_ (a' := ?_) ?_ ?_
              rotate_left
              · simp only [Act.put, List.setIfInBounds_toArray, List.set_cons_zero, List.set_cons_succ, i64_w, i32_w]
                rfl
              refine pure_ (i := 8) (N := some 13) (v := ?_) (a' := ?_) #[true, true, true, true, true, true, true, true, true, false] rfl rfl (by kernel_rfl) (fun _ _ _ h => h) (Or.inl ⟨by rfl, ?_⟩) ?_ ?_
              rotate_left
              · intro w'
                go_simp
                with_reducible rfl
              rotate_left
              · simp only [Act.put, List.setIfInBounds_toArray, List.set_cons_zero, List.set_cons_succ, i64_w, i32_w]
                rfl
              refine pure_ (i := 9) (N := some 14) (v := ?_) (a' := ?_) #[true, true, true, true, true, true, true, true, true, true] rfl rfl (by kernel_rfl) (fun _ _ _ h => h) (Or.inl ⟨by rfl, ?_⟩) ?_ ?_
              rotate_left
              · intro w'
                go_simp
                with_reducible rfl
              rotate_left
              · simp only [Act.put, List.setIfInBounds_toArray, List.set_cons_zero, List.set_cons_succ, i64_w, i32_w]
                rfl
              refine done_ (by kernel_rfl) ?_
              go_wp2_with fail
              go_roundw
              case rel => exact ⟨_, _, x, _, _, [], _, acc ++ [((0 : Int), t)], rfl, rfl, by simp at hlen ⊢; omega, Lib.hid (by rw [List.map_append, List.map_append, ← Hss.out, ← Hts.out]; exact HM6.out), HEy2⟩
              case measure => simp [lenOf] <;> omega
            · skip
              refine value_ (v := .slice (some ⟨wa.heap.size, 0, none⟩) 1 1) (w1 := wa.alloc (.cells (tcells t) 32)) (by rfl) rfl ?_ ?_
              · go_simp
                rfl
              have hbl := (Below.refl wa.heap.size wa).alloc (Nat.le_refl _) (.cells (tcells t) 32)
              have HM := Lib.hid (HM.out.below hbl)
              have HT := Lib.hid (blk_below HT.out hbl)
              have HL2 := Lib.hid (blk_new wa (.cells (tcells t) 32))
              refine hK.out _ _ (C7.of HT.out) (fun hHeld => ?_)
              clear hK K hbl
              refine norm_ (a' := ?_) ?_ ?_
              rotate_left
              · simp only [Act.put, List.setIfInBounds_toArray, List.set_cons_zero, List.set_cons_succ, i64_w, i32_w]
                rfl
              have HL1 := Lib.hid (blk_below HL1.out ((Below.refl wa.heap.size wa).alloc (Nat.le_refl _) (.cells (tcells t) 32)))
              generalize wa.alloc (.cells (tcells t) 32) = wc at *
              generalize wa.heap.size = g2 at *
              refine one_ (i := 3) (N := some 81) #[true, true, true, true, true, true, true, false, false, false] rfl rfl (by kernel_rfl) (by decide) (fun K hK => ?_)
              generalize hwa : wc = wa at *
              clear hwa
              refine Kd.R_append_rows_step (Kd.int .i64) (Rr := (Kd.int .i64).K wa) (w0 := wa) w3.heap.size (by rfl) (.tmp 78) (.tmp 80) 64 3 (.int .i64 0) 8 rfl Try.underlying64 info3 rfl (by decide) (by omega) u13 ss [0] (some ⟨g1, 0, none⟩) 1 1 (fun _ => True) (fun _ => False) rfl rfl HM.out.sd (C_one3 HL1.out) ?aK (fun _ hk => hk.elim) (fun _ _ => trivial) (fr_self HM.out.fr) HM.out.fr.size (by have := Hlen.out; omega) ?_
              case aK => exact fun y cs h => h
              intro v1 w5 ho1 hB1 hg1 hat1
              show K (Act.put _ (some 81) v1) w5
              have HT5 := Lib.hid (blk_grown HT.out hg1 (Kd.R_ne HM.out.sd HT.out (by decide)))
              have HM5 := Lib.hid (HM.out.app1 ho1 hB1 hg1)
              refine hK.out _ _ (C7.of HT5.out) (fun hHeld => ?_)
              have HL2 := Lib.hid (blk_grown HL2.out hg1 (Kd.R_ne HM.out.sd HL2.out (by decide)))
              clear hK K ho1 hB1 hg1 hat1 HM HT HL1
              refine norm_ (a' := ?_) ?_ ?_
              rotate_left
              · simp only [Act.put, List.setIfInBounds_toArray, List.set_cons_zero, List.set_cons_succ, i64_w, i32_w]
                rfl
              have HM := HM5
              have HT := HT5
              have Hlen : Hid ((ss ++ [(0 : Int)]).length ≤ 2001 ∧ ts.length ≤ 2000) := Lib.hid (by have := Hlen.out; simp; omega)
              clear HM5 HT5
              generalize hwb : w5 = wb at *
              clear hwb
              refine last_ (i := 7) (N := some 85) #[true, true, true, true, true, true, true, true, false, false] rfl rfl (by kernel_rfl) (by decide) (fun K hK => ?_)
              refine Kd.R_append_rows_step k32 (Rr := k32.K wb) (w0 := wb) w3.heap.size (by rfl) (.tmp 82) (.tmp 84) 47 32 (.agg #[.string ByteArray.empty, .int .i64 0, .int .i64 0, .int .i64 0, .int .i64 0, .int .i64 0, .int .i64 0]) 64 rfl Try.underlying47 info32 rfl (by decide) (by omega) u14 ts [t] (some ⟨g2, 0, none⟩) 1 1 (fun _ => True) (fun _ => False) rfl rfl HM.out.ot (C_one32 HL2.out) ?aK (fun _ hk => hk.elim) (fun _ _ => trivial) (fr_self HM.out.fr) HM.out.fr.size (by have := Hlen.out; omega) ?_
              case aK => exact fun y cs h => by obtain rfl := k32_open h; exact k32_mkM _ _ _ y
              intro v2 w6 ho1 hB1 hg1 hat1
              show K (Act.put _ (some 85) v2) w6
              have HM6 := Lib.hid (HM.out.app2 ho1 hB1 hg1)
              refine hK.out _ _ ?_
              clear hK K ho1 hB1 hg1 hat1 HM HT HL2
              refine norm_ (a' := ?_) ?_ ?_
              rotate_left
              · simp only [Act.put, List.setIfInBounds_toArray, List.set_cons_zero, List.set_cons_succ, i64_w, i32_w]
                rfl
              refine pure_ (i := 8) (N := some 13) (v := ?_) (a' := ?_) #[true, true, true, true, true, true, true, true, true, false] rfl rfl (by kernel_rfl) (fun _ _ _ h => h) (Or.inl ⟨by rfl, ?_⟩) ?_ ?_
              rotate_left
              · intro w'
                go_simp
                with_reducible rfl
              rotate_left
              · simp only [Act.put, List.setIfInBounds_toArray, List.set_cons_zero, List.set_cons_succ, i64_w, i32_w]
                rfl
              refine pure_ (i := 9) (N := some 14) (v := ?_) (a' := ?_) #[true, true, true, true, true, true, true, true, true, true] rfl rfl (by kernel_rfl) (fun _ _ _ h => h) (Or.inl ⟨by rfl, ?_⟩) ?_ ?_
              rotate_left
              · intro w'
                go_simp
                with_reducible rfl
              rotate_left
              · simp only [Act.put, List.setIfInBounds_toArray, List.set_cons_zero, List.set_cons_succ, i64_w, i32_w]
                rfl
              refine done_ (by kernel_rfl) ?_
              go_wp2_with fail
              go_roundw
              case rel => exact ⟨_, _, x, _, _, [], _, acc ++ [((0 : Int), t)], rfl, rfl, by simp at hlen ⊢; omega, Lib.hid (by rw [List.map_append, List.map_append, ← Hss.out, ← Hts.out]; exact HM6.out), HEy2⟩
              case measure => simp [lenOf] <;> omega
          · skip
            refine value_ (v := .slice (some ⟨w4.heap.size, 0, none⟩) 1 1) (w1 := w4.alloc (.cells (tcells t) 32)) (by rfl) rfl ?_ ?_
            · go_simp
              rfl
            have hbl := (Below.refl w4.heap.size w4).alloc (Nat.le_refl _) (.cells (tcells t) 32)
            have HM := Lib.hid (HM.out.below hbl)
            have HT := Lib.hid (blk_below HT.out hbl)
            have HL2 := Lib.hid (blk_new w4 (.cells (tcells t) 32))
            refine hK.out _ _ (C7.of HT.out) (fun hHeld => ?_)
            clear hK K hbl
            refine norm_ (a' := ?_) ?_ ?_
            rotate_left
            · simp only [Act.put, List.setIfInBounds_toArray, List.set_cons_zero, List.set_cons_succ, i64_w, i32_w]
              rfl
            generalize w4.alloc (.cells (tcells t) 32) = wa at *
            generalize w4.heap.size = g2 at *
            refine one_ (i := 2) (N := some 80) #[true, true, true, false, true, true, true, false, false, false] rfl rfl (by kernel_rfl) (by decide) (fun K hK => ?_)
            refine value_ (v := .slice (some ⟨wa.heap.size, 0, none⟩) 1 1) (w1 := wa.alloc (.cells #[.int .i64 0] 3)) (by rfl) rfl ?_ ?_
            · go_simp
            have hbl := (Below.refl wa.heap.size wa).alloc (Nat.le_refl _) (.cells #[.int .i64 0] 3)
            have HM := Lib.hid (HM.out.below hbl)
            have HT := Lib.hid (blk_below HT.out hbl)
            have HL1 := Lib.hid (blk_new wa (.cells #[.int .i64 0] 3))
            refine hK.out _ _ (C7.of HT.out) (fun hHeld => ?_)
            clear hK K hbl
            refine norm_ (a' := ?_) ?_ ?_
            rotate_left
            · simp only [Act.put, List.setIfInBounds_toArray, List.set_cons_zero, List.set_cons_succ, i64_w, i32_w]
              rfl
            have HL2 := Lib.hid (blk_below HL2.out ((Below.refl wa.heap.size wa).alloc (Nat.le_refl _) (.cells #[.int .i64 0] 3)))
            generalize wa.alloc (.cells #[.int .i64 0] 3) = wc at *
            generalize wa.heap.size = g1 at *
            refine one_ (i := 3) (N := some 81) #[true, true, true, true, true, true, true, false, false, false] rfl rfl (by kernel_rfl) (by decide) (fun K hK => ?_)
            generalize hwa : wc = wa at *
            clear hwa
            refine Kd.R_append_rows_step (Kd.int .i64) (Rr := (Kd.int .i64).K wa) (w0 := wa) w3.heap.size (by rfl) (.tmp 78) (.tmp 80) 64 3 (.int .i64 0) 8 rfl Try.underlying64 info3 rfl (by decide) (by omega) u13 ss [0] (some ⟨g1, 0, none⟩) 1 1 (fun _ => True) (fun _ => False) rfl rfl HM.out.sd (C_one3 HL1.out) ?aK (fun _ hk => hk.elim) (fun _ _ => trivial) (fr_self HM.out.fr) HM.out.fr.size (by have := Hlen.out; omega) ?_
            case aK => exact fun y cs h => h
            intro v1 w5 ho1 hB1 hg1 hat1
            show K (Act.put _ (some 81) v1) w5
            have HT5 := Lib.hid (blk_grown HT.out hg1 (Kd.R_ne HM.out.sd HT.out (by decide)))
            have HM5 := Lib.hid (HM.out.app1 ho1 hB1 hg1)
            refine hK.out _ _ (C7.of HT5.out) (fun hHeld => ?_)
            have HL2 := Lib.hid (blk_grown HL2.out hg1 (Kd.R_ne HM.out.sd HL2.out (by decide)))
            clear hK K ho1 hB1 hg1 hat1 HM HT HL1
            refine norm_ (a' := ?_) ?_ ?_
            rotate_left
            · simp only [Act.put, List.setIfInBounds_toArray, List.set_cons_zero, List.set_cons_succ, i64_w, i32_w]
              rfl
            have HM := HM5
            have HT := HT5
            have Hlen : Hid ((ss ++ [(0 : Int)]).length ≤ 2001 ∧ ts.length ≤ 2000) := Lib.hid (by have := Hlen.out; simp; omega)
            clear HM5 HT5
            generalize hwb : w5 = wb at *
            clear hwb
            refine last_ (i := 7) (N := some 85) #[true, true, true, true, true, true, true, true, false, false] rfl rfl (by kernel_rfl) (by decide) (fun K hK => ?_)
            refine Kd.R_append_rows_step k32 (Rr := k32.K wb) (w0 := wb) w3.heap.size (by rfl) (.tmp 82) (.tmp 84) 47 32 (.agg #[.string ByteArray.empty, .int .i64 0, .int .i64 0, .int .i64 0, .int .i64 0, .int .i64 0, .int .i64 0]) 64 rfl Try.underlying47 info32 rfl (by decide) (by omega) u14 ts [t] (some ⟨g2, 0, none⟩) 1 1 (fun _ => True) (fun _ => False) rfl rfl HM.out.ot (C_one32 HL2.out) ?aK (fun _ hk => hk.elim) (fun _ _ => trivial) (fr_self HM.out.fr) HM.out.fr.size (by have := Hlen.out; omega) ?_
            case aK => exact fun y cs h => by obtain rfl := k32_open h; exact k32_mkM _ _ _ y
            intro v2 w6 ho1 hB1 hg1 hat1
            show K (Act.put _ (some 85) v2) w6
            have HM6 := Lib.hid (HM.out.app2 ho1 hB1 hg1)
            refine hK.out _ _ ?_
            clear hK K ho1 hB1 hg1 hat1 HM HT HL2
            refine norm_ (a' := ?_) ?_ ?_
            rotate_left
            · simp only [Act.put, List.setIfInBounds_toArray, List.set_cons_zero, List.set_cons_succ, i64_w, i32_w]
              rfl
            refine pure_ (i := 8) (N := some 13) (v := ?_) (a' := ?_) #[true, true, true, true, true, true, true, true, true, false] rfl rfl (by kernel_rfl) (fun _ _ _ h => h) (Or.inl ⟨by rfl, ?_⟩) ?_ ?_
            rotate_left
            · intro w'
              go_simp
              with_reducible rfl
            rotate_left
            · simp only [Act.put, List.setIfInBounds_toArray, List.set_cons_zero, List.set_cons_succ, i64_w, i32_w]
              rfl
            refine pure_ (i := 9) (N := some 14) (v := ?_) (a' := ?_) #[true, true, true, true, true, true, true, true, true, true] rfl rfl (by kernel_rfl) (fun _ _ _ h => h) (Or.inl ⟨by rfl, ?_⟩) ?_ ?_
            rotate_left
            · intro w'
              go_simp
              with_reducible rfl
            rotate_left
            · simp only [Act.put, List.setIfInBounds_toArray, List.set_cons_zero, List.set_cons_succ, i64_w, i32_w]
              rfl
            refine done_ (by kernel_rfl) ?_
            go_wp2_with fail
            go_roundw
            case rel => exact ⟨_, _, x, _, _, [], _, acc ++ [((0 : Int), t)], rfl, rfl, by simp at hlen ⊢; omega, Lib.hid (by rw [List.map_append, List.map_append, ← Hss.out, ← Hts.out]; exact HM6.out), HEy2⟩
            case measure => simp [lenOf] <;> omega
        · have HEn2 := Lib.hid (HEn.out htk)
          clear HEn HEy
          have HTK := Lib.hid (take_no t gl left ws HMs.out.blk htk)
          clear htk
          go_wp2_with fail
          refine HTK.out.mono ?_
          rintro e wt ⟨rfl, hb⟩
          have HM := Lib.hid (HMs.out.below hb)
          clear hb HTK HMs HTs hz0 hz1 hz2 hz3 hz4 hz5 hz6
          go_wp2_with fail
          go_roundw
          case rel => exact ⟨_, _, x, _, _, [], _, acc, rfl, rfl, by simp at hlen ⊢; omega, HM, HEn2⟩
          case measure => simp [lenOf] <;> omega
    | cons t y =>
      cases x with
      | nil =>
        have hp : 0 < ([] : List S32).length + (t :: y).length := by simp
        simp only [List.length_cons, List.length_nil] at hlen ⊢
        have hcy : y.length + 1 ≤ cy := HMr.out.sy.cap
        obtain ⟨ad, rfl, hhd⟩ := HMr.out.sy.head HMr.out.fr
        have HHd := Lib.hid hhd
        have hpk : Hid (pick [] (t :: y) = some (1, t, [], y)) := Lib.hid rfl
        clear hhd
        have q1 : (((y.length : Int) + 1) == 0) = false := beq_eq_false_iff_ne.2 (by omega)
        go_wp2_with fail
        go_quiet (fail)
        go_wp2_with fail
        have hbq : Below wr.heap.size wr ((wr.alloc (.cells #[.string ⟨#[]⟩, .int .i64 0, .int .i64 0, .int .i64 0, .int .i64 0, .int .i64 0, .int .i64 0] 32)).drewN nq) := pw_below_drewN ((Below.refl wr.heap.size wr).alloc (Nat.le_refl _) _) _
        have HT : Hid (((wr.alloc (.cells #[.string ⟨#[]⟩, .int .i64 0, .int .i64 0, .int .i64 0, .int .i64 0, .int .i64 0, .int .i64 0] 32)).drewN nq).heap[wr.heap.size]? = some (.cells #[.string ⟨#[]⟩, .int .i64 0, .int .i64 0, .int .i64 0, .int .i64 0, .int .i64 0, .int .i64 0] 32 (0, 0))) := Lib.hid (blk_new wr _)
        have Hgt : Hid (w3.heap.size ≤ wr.heap.size) := Lib.hid HMr.out.fr.size
        have HMq := Lib.hid (HMr.out.below hbq)
        have HHq := Lib.hid (HHd.out _ hbq)
        have Hne : Hid (some wr.heap.size ≠ u14.ownBlock) := Lib.hid (fun e => by have := Kd.R_lt HMr.out.ot _ e.symm; omega)
        clear HMr HHd hbq
        generalize (wr.alloc (.cells #[.string ⟨#[]⟩, .int .i64 0, .int .i64 0, .int .i64 0, .int .i64 0, .int .i64 0, .int .i64 0] 32)).drewN nq = wq at *
        generalize wr.heap.size = gt at *
        have HVt := Lib.hid (HMq.out.vy t (by simp))
        have hsl : ∀ w, (Instr.slice 47 (.slice (some ad) (y.length + 1) cy) (some (.int .i64 1)) none none).run Try.prog w = .ok (.slice (tl ad cy) y.length (cy - 1)) w := run_tail ad y.length cy hcy
        refine start_ (n := 8) (S := fun W => (W.cell? ad = some (.string t.f0.f0) ∧ W.cell? ⟨ad.block, ad.off + 1, none⟩ = some (.int .i64 t.f0.f1) ∧ W.cell? ⟨ad.block, ad.off + 2, none⟩ = some (.int .i64 t.f1) ∧ W.cell? ⟨ad.block, ad.off + 3, none⟩ = some (.int .i64 t.f2) ∧ W.cell? ⟨ad.block, ad.off + 4, none⟩ = some (.int .i64 t.f3.f0) ∧ W.cell? ⟨ad.block, ad.off + 5, none⟩ = some (.int .i64 t.f3.f1) ∧ W.cell? ⟨ad.block, ad.off + 6, none⟩ = some (.int .i64 t.f4))) (ds := [6]) #[false, false, false, false, false, false, false, false] (by kernel_rfl) rfl rfl HHq.out (fun hHeld => ?_)
        have HMd := Lib.hid (HMq.out.below (below_drew (Below.refl _ _)))
        have HTd : Hid (wq.drew.heap[gt]? = _) := Lib.hid HT.out
        clear HMq HHq HT
        generalize wq.drew = wd at *
        refine pure_ (i := 0) (N := some 70) (v := ?_) (a' := ?_) #[true, false, false, false, false, false, false, false] rfl rfl (by kernel_rfl) (fun _ _ _ h => h) (Or.inl ⟨by rfl, ?_⟩) ?_ ?_
        rotate_left
        · intro w'
          go_simp
          with_reducible rfl
        rotate_left
        · simp only [Act.put, List.setIfInBounds_toArray, List.set_cons_zero, List.set_cons_succ, i64_w, i32_w]
          rfl
        refine pure_ (i := 1) (N := some 71) (v := ?_) (a' := ?_) #[true, true, false, false, false, false, false, false] rfl rfl (by kernel_rfl) (fun _ _ _ h => h) (Or.inl ⟨by rfl, ?_⟩) ?_ ?_
        rotate_left
        · intro w'
          go_simp
          with_reducible rfl
        rotate_left
        · simp only [Act.put, List.setIfInBounds_toArray, List.set_cons_zero, List.set_cons_succ, i64_w, i32_w]
          rfl
        refine take_ (i := 2) (N := some 72) (v := ?_) (a' := ?_) #[true, true, true, false, false, false, false, false] rfl rfl (by kernel_rfl) (fun _ _ _ h => h) (Or.inl ⟨by rfl, ?_⟩) hHeld ?_ ?_
        rotate_left
        · rintro w' ⟨s0, s1, s2, s3, s4, s5, s6⟩
          go_simp
          with_reducible rfl
        rotate_left
        · simp only [Act.put, List.setIfInBounds_toArray, List.set_cons_zero, List.set_cons_succ, i64_w, i32_w]
          rfl
        refine pure_ (i := 3) (N := some 73) (v := ?_) (a' := ?_) #[true, true, true, true, false, false, false, false] rfl rfl (by kernel_rfl) (fun _ _ _ h => h) (Or.inl ⟨by rfl, ?_⟩) ?_ ?_
        rotate_left
        · intro w'
          go_simp
          with_reducible rfl
        rotate_left
        · simp only [Act.put, List.setIfInBounds_toArray, List.set_cons_zero, List.set_cons_succ, i64_w, i32_w]
          rfl
        refine pure_ (i := 4) (N := some 74) (v := ?_) (a' := ?_) #[true, true, true, true, true, false, false, false] rfl rfl (by kernel_rfl) (fun _ _ _ h => h) (Or.inl ⟨by rfl, ?_⟩) ?_ ?_
        rotate_left
        · intro w'
          go_simp
          with_reducible rfl
        rotate_left
        · simp only [Act.put, List.setIfInBounds_toArray, List.set_cons_zero, List.set_cons_succ, i64_w, i32_w]
          rfl
        refine pure_ (i := 5) (N := some 16) (v := ?_) (a' := ?_) #[true, true, true, true, true, true, false, false] rfl rfl (by kernel_rfl) (fun _ _ _ h => h) (Or.inl ⟨by rfl, ?_⟩) ?_ ?_
        rotate_left
        · intro w'
          go_simp
          with_reducible rfl
        rotate_left
        · simp only [Act.put, List.setIfInBounds_toArray, List.set_cons_zero, List.set_cons_succ, i64_w, i32_w]
          rfl
        clear hsl
        have hf0 : wd.frozen? ⟨gt, 0, none⟩ = false := blk_frozen HTd.out 0
        have hf1 : wd.frozen? ⟨gt, 1, none⟩ = false := blk_frozen HTd.out 1
        have hf2 : wd.frozen? ⟨gt, 2, none⟩ = false := blk_frozen HTd.out 2
        have hf3 : wd.frozen? ⟨gt, 3, none⟩ = false := blk_frozen HTd.out 3
        have hf4 : wd.frozen? ⟨gt, 4, none⟩ = false := blk_frozen HTd.out 4
        have hf5 : wd.frozen? ⟨gt, 5, none⟩ = false := blk_frozen HTd.out 5
        have hf6 : wd.frozen? ⟨gt, 6, none⟩ = false := blk_frozen HTd.out 6
        have hz0 : wd.cell? ⟨gt, 0, none⟩ = some (.string ⟨#[]⟩) := (blk_cell HTd.out 0).trans rfl
        have hz1 : wd.cell? ⟨gt, 1, none⟩ = some (.int .i64 0) := (blk_cell HTd.out 1).trans rfl
        have hz2 : wd.cell? ⟨gt, 2, none⟩ = some (.int .i64 0) := (blk_cell HTd.out 2).trans rfl
        have hz3 : wd.cell? ⟨gt, 3, none⟩ = some (.int .i64 0) := (blk_cell HTd.out 3).trans rfl
        have hz4 : wd.cell? ⟨gt, 4, none⟩ = some (.int .i64 0) := (blk_cell HTd.out 4).trans rfl
        have hz5 : wd.cell? ⟨gt, 5, none⟩ = some (.int .i64 0) := (blk_cell HTd.out 5).trans rfl
        have hz6 : wd.cell? ⟨gt, 6, none⟩ = some (.int .i64 0) := (blk_cell HTd.out 6).trans rfl
        clear hHeld
        refine last_ (i := 6) (N := none) #[true, true, true, true, true, true, true, false] rfl rfl (by kernel_rfl) (by decide) (fun K hK => ?_)
        refine skip_ (w1 := wd.setCells gt 0 (tcs t)) (by rfl) rfl ?_ ?_
        · unfold tcs
          go_simp
          rfl
        refine hK.out _ _ ?_
        clear hK K
        refine pure_ (i := 7) (N := some 11) (v := ?_) (a' := ?_) #[true, true, true, true, true, true, true, true] rfl rfl (by kernel_rfl) (fun _ _ _ h => h) (Or.inl ⟨by rfl, ?_⟩) ?_ ?_
        rotate_left
        · intro w'
          go_simp
          with_reducible rfl
        rotate_left
        · simp only [Act.put, List.setIfInBounds_toArray, List.set_cons_zero, List.set_cons_succ, i64_w, i32_w]
          rfl
        refine done_ (by kernel_rfl) ?_
        have HMs := Lib.hid (HMd.out.taily.store Hgt.out HTd.out Hne.out 0 (tcs t))
        have HEy : Hid (t.f1 ≤ left → (acc ++ [((1 : Int), t)]) ++ mt (([] : List S32).length + y.length) [] y (left - t.f1) = res a b budget) := Lib.hid (fun h => by
          have e := HEr.out
          rw [show ([] : List S32).length + (t :: y).length = (([] : List S32).length + y.length) + 1 from rfl, mt_yes hpk.out h] at e
          rw [← e, List.append_assoc]; rfl)
        have HEn : Hid (¬ t.f1 ≤ left → acc ++ mt (([] : List S32).length + y.length) [] y left = res a b budget) := Lib.hid (fun h => by
          have e := HEr.out
          rw [show ([] : List S32).length + (t :: y).length = (([] : List S32).length + y.length) + 1 from rfl, mt_no hpk.out h] at e
          exact e)
        have hcut : True := trivial
        clear HEr hpk
        have HTs : Hid ((wd.setCells gt 0 (tcs t)).heap[gt]? = _) := Lib.hid (blk_tcs HTd.out t)
        have hfoot := C7.of HTs.out
        obtain ⟨hz0, hz1, hz2, hz3, hz4, hz5, hz6⟩ := hfoot
        clear hf0 hf1 hf2 hf3 hf4 hf5 hf6 HTd HMd hcut
        generalize wd.setCells gt 0 (tcs t) = ws at *
        have Hgg : Hid (gt ≠ gl) := Lib.hid (by have := Hgt.out; have := HMs.out.gl; omega)
        have hlt0 := HVt.out.s0
        have hl0 := HMs.out.l0
        have hl1 := HMs.out.l1
        by_cases htk : t.f1 ≤ left
        · have HEy2 := Lib.hid (HEy.out htk)
          clear HEy HEn
          have HTK := Lib.hid (take_yes t gl left ws HMs.out.blk htk hlt0 hl1)
          go_wp2_with fail
          refine HTK.out.mono ?_
          rintro e wt ⟨rfl, hbk, hfr⟩
          have HM := Lib.hid (HMs.out.took hfr hbk (by omega) (by omega))
          have HT := Lib.hid ((hfr.block gt (blk_lt HTs.out) Hgg.out).trans HTs.out)
          clear hbk hfr HTK HMs HTs hz0 hz1 hz2 hz3 hz4 hz5 hz6
          obtain ⟨ss, hss⟩ : ∃ ss, ss = acc.map (·.1) := ⟨_, rfl⟩
          obtain ⟨ts, hts⟩ : ∃ ts, ts = acc.map (·.2) := ⟨_, rfl⟩
          have Hlen : Hid (ss.length ≤ 2000 ∧ ts.length ≤ 2000) := Lib.hid (by rw [hss, hts, List.length_map, List.length_map]; omega)
          rw [← hss, ← hts] at HM
          have Hss := Lib.hid hss
          have Hts := Lib.hid hts
          clear hss hts
          go_wp2_with fail
          have HM := Lib.hid (HM.out.below (below_drew (Below.refl _ _)))
          have HT : Hid (wt.drew.heap[gt]? = _) := Lib.hid HT.out
          refine start_ (n := 10) (S := fun W => C7 W gt t) (ds := [7]) #[false, false, false, false, false, false, false, false, false, false] (by kernel_rfl) rfl rfl (C7.of HT.out) (fun hHeld => ?_)
          generalize wt.drew = w4 at *
          refine pure_ (i := 0) (N := some 78) (v := ?_) (a' := ?_) #[true, false, false, false, false, false, false, false, false, false] rfl rfl (by kernel_rfl) (fun _ _ _ h => h) (Or.inl ⟨by rfl, ?_⟩) ?_ ?_
          rotate_left
          · intro w'
            go_simp
            with_reducible rfl
          rotate_left
          · simp only [Act.put, List.setIfInBounds_toArray, List.set_cons_zero, List.set_cons_succ, i64_w, i32_w]
            rfl
          refine pure_ (i := 1) (N := some 79) (v := ?_) (a' := ?_) #[true, true, false, false, false, false, false, false, false, false] rfl rfl (by kernel_rfl) (fun _ _ _ h => h) (Or.inl ⟨by rfl, ?_⟩) ?_ ?_
          rotate_left
          · intro w'
            go_simp
            with_reducible rfl
          rotate_left
          · simp only [Act.put, List.setIfInBounds_toArray, List.set_cons_zero, List.set_cons_succ, i64_w, i32_w]
            rfl
          refine pure_ (i := 4) (N := some 82) (v := ?_) (a' := ?_) #[true, true, false, false, true, false, false, false, false, false] rfl rfl (by kernel_rfl) (fun _ _ _ h => h) (Or.inl ⟨by rfl, ?_⟩) ?_ ?_
          rotate_left
          · intro w'
            go_simp
            with_reducible rfl
          rotate_left
          · simp only [Act.put, List.setIfInBounds_toArray, List.set_cons_zero, List.set_cons_succ, i64_w, i32_w]
            rfl
          refine take_ (i := 5) (N := some 83) (v := ?_) (a' := ?_) #[true, true, false, false, true, true, false, false, false, false] rfl rfl (by kernel_rfl) (fun _ _ _ h => h) (Or.inl ⟨by rfl, ?_⟩) hHeld ?_ ?_
          rotate_left
          · rintro w' ⟨s0, s1, s2, s3, s4, s5, s6⟩
            go_simp
            with_reducible rfl
          rotate_left
          · simp only [Act.put, List.setIfInBounds_toArray, List.set_cons_zero, List.set_cons_succ, i64_w, i32_w]
            rfl
          refine two_ (i := 2) (j := 6) (Ni := some 80) (Nj := some 84) #[true, true, true, false, true, true, false, false, false, false] #[true, true, false, false, true, true, true, false, false, false] rfl rfl rfl rfl (by kernel_rfl) (by decide) (by decide) (fun K hK => ?_) (fun K hK => ?_)
          · skip
            refine value_ (v := .slice (some ⟨w4.heap.size, 0, none⟩) 1 1) (w1 := w4.alloc (.cells #[.int .i64 1] 3)) (by rfl) rfl ?_ ?_
            · go_simp
            have hbl := (Below.refl w4.heap.size w4).alloc (Nat.le_refl _) (.cells #[.int .i64 1] 3)
            have HM := Lib.hid (HM.out.below hbl)
            have HT := Lib.hid (blk_below HT.out hbl)
            have HL1 := Lib.hid (blk_new w4 (.cells #[.int .i64 1] 3))
            refine hK.out _ _ (C7.of HT.out) (fun hHeld => ?_)
            clear hK K hbl
            refine norm_ (a' := ?_) ?_ ?_
            rotate_left
            · simp only [Act.put, List.setIfInBounds_toArray, List.set_cons_zero, List.set_cons_succ, i64_w, i32_w]
              rfl
            generalize w4.alloc (.cells #[.int .i64 1] 3) = wa at *
            generalize w4.heap.size = g1 at *
            refine two_ (i := 3) (j := 6) (Ni := some 81) (Nj := some 84) #[true, true, true, true, true, true, false, false, false, false] #[true, true, true, false, true, true, true, false, false, false] rfl rfl rfl rfl (by kernel_rfl) (by decide) (by decide) (fun K hK => ?_) (fun K hK => ?_)
            · skip
              refine Kd.R_append_rows_step (Kd.int .i64) (Rr := (Kd.int .i64).K wa) (w0 := wa) w3.heap.size (by rfl) (.tmp 78) (.tmp 80) 64 3 (.int .i64 0) 8 rfl Try.underlying64 info3 rfl (by decide) (by omega) u13 ss [1] (some ⟨g1, 0, none⟩) 1 1 (fun _ => True) (fun _ => False) rfl rfl HM.out.sd (C_one3 HL1.out) ?aK (fun _ hk => hk.elim) (fun _ _ => trivial) (fr_self HM.out.fr) HM.out.fr.size (by have := Hlen.out; omega) ?_
              case aK => exact fun y cs h => h
              intro v1 w5 ho1 hB1 hg1 hat1
              show K (Act.put _ (some 81) v1) w5
              have HT5 := Lib.hid (blk_grown HT.out hg1 (Kd.R_ne HM.out.sd HT.out (by decide)))
              have HM5 := Lib.hid (HM.out.app1 ho1 hB1 hg1)
              refine hK.out _ _ (C7.of HT5.out) (fun hHeld => ?_)
              clear hK K ho1 hB1 hg1 hat1 HM HT HL1
              refine norm_ (a' := ?_) ?_ ?_
              rotate_left
              · simp only [Act.put, List.setIfInBounds_toArray, List.set_cons_zero, List.set_cons_succ, i64_w, i32_w]
                rfl
              have HM := HM5
              have HT := HT5
              have Hlen : Hid ((ss ++ [(1 : Int)]).length ≤ 2001 ∧ ts.length ≤ 2000) := Lib.hid (by have := Hlen.out; simp; omega)
              clear HM5 HT5
              refine one_ (i := 6) (N := some 84) #[true, true, true, true, true, true, true, false, false, false] rfl rfl (by kernel_rfl) (by decide) (fun K hK => ?_)
              refine value_ (v := .slice (some ⟨w5.heap.size, 0, none⟩) 1 1) (w1 := w5.alloc (.cells (tcells t) 32)) (by rfl) rfl ?_ ?_
              · go_simp
                rfl
              have hbl := (Below.refl w5.heap.size w5).alloc (Nat.le_refl _) (.cells (tcells t) 32)
              have HM := Lib.hid (HM.out.below hbl)
              have HT := Lib.hid (blk_below HT.out hbl)
              have HL2 := Lib.hid (blk_new w5 (.cells (tcells t) 32))
              refine hK.out _ _ (C7.of HT.out) (fun hHeld => ?_)
              clear hK K hbl
              refine norm_ (a' := ?_) ?_ ?_
              rotate_left
              · simp only [Act.put, List.setIfInBounds_toArray, List.set_cons_zero, List.set_cons_succ, i64_w, i32_w]
                rfl
              generalize w5.alloc (.cells (tcells t) 32) = wb at *
              generalize w5.heap.size = g2 at *
              refine last_ (i := 7) (N := some 85) #[true, true, true, true, true, true, true, true, false, false] rfl rfl (by kernel_rfl) (by decide) (fun K hK => ?_)
              refine Kd.R_append_rows_step k32 (Rr := k32.K wb) (w0 := wb) w3.heap.size (by rfl) (.tmp 82) (.tmp 84) 47 32 (.agg #[.string ByteArray.empty, .int .i64 0, .int .i64 0, .int .i64 0, .int .i64 0, .int .i64 0, .int .i64 0]) 64 rfl Try.underlying47 info32 rfl (by decide) (by omega) u14 ts [t] (some ⟨g2, 0, none⟩) 1 1 (fun _ => True) (fun _ => False) rfl rfl HM.out.ot (C_one32 HL2.out) ?aK (fun _ hk => hk.elim) (fun _ _ => trivial) (fr_self HM.out.fr) HM.out.fr.size (by have := Hlen.out; omega) ?_
              case aK => exact fun y cs h => by obtain rfl := k32_open h; exact k32_mkM _ _ _ y
              intro v2 w6 ho1 hB1 hg1 hat1
              show K (Act.put _ (some 85) v2) w6
              have HM6 := Lib.hid (HM.out.app2 ho1 hB1 hg1)
              refine hK.out _ _ ?_
              clear hK K ho1 hB1 hg1 hat1 HM HT HL2
              refine norm_ (a' := ?_) ?_ ?_
              rotate_left
              · simp only [Act.put, List.setIfInBounds_toArray, List.set_cons_zero, List.set_cons_succ, i64_w, i32_w]
                rfl
              refine pure_ (i := 8) (N := some 13) (v := ?_) (a' := ?_) #[true, true, true, true, true, true, true, true, true, false] rfl rfl (by kernel_rfl) (fun _ _ _ h => h) (Or.inl ⟨by rfl, ?_⟩) ?_ ?_
              rotate_left
              · intro w'
                go_simp
                with_reducible rfl
              rotate_left
              · simp only [Act.put, List.setIfInBounds_toArray, List.set_cons_zero, List.set_cons_succ, i64_w, i32_w]
                rfl
              refine pure_ (i := 9) (N := some 14) (v := ?_) (a' := ?_) #[true, true, true, true, true, true, true, true, true, true] rfl rfl (by kernel_rfl) (fun _ _ _ h => h) (Or.inl ⟨by rfl, ?_⟩) ?_ ?_
              rotate_left
              · intro w'
                go_simp
                with_reducible rfl
              rotate_left
              · simp only [Act.put, List.setIfInBounds_toArray, List.set_cons_zero, List.set_cons_succ, i64_w, i32_w]
                rfl
              refine done_ (by kernel_rfl) ?_
              go_wp2_with fail
              go_roundw
              case rel => exact ⟨_, _, [], _, _, y, _, acc ++ [((1 : Int), t)], rfl, rfl, by simp at hlen ⊢; omega, Lib.hid (by rw [List.map_append, List.map_append, ← Hss.out, ← Hts.out]; exact HM6.out), HEy2⟩
              case measure => simp [lenOf] <;> omega
            · skip
              refine value_ (v := .slice (some ⟨wa.heap.size, 0, none⟩) 1 1) (w1 := wa.alloc (.cells (tcells t) 32)) (by rfl) rfl ?_ ?_
              · go_simp
                rfl
              have hbl := (Below.refl wa.heap.size wa).alloc (Nat.le_refl _) (.cells (tcells t) 32)
              have HM := Lib.hid (HM.out.below hbl)
              have HT := Lib.hid (blk_below HT.out hbl)
              have HL2 := Lib.hid (blk_new wa (.cells (tcells t) 32))
              refine hK.out _ _ (C7.of HT.out) (fun hHeld => ?_)
              clear hK K hbl
              refine norm_ (a' := ?_) ?_ ?_
              rotate_left
              · simp only [Act.put, List.setIfInBounds_toArray, List.set_cons_zero, List.set_cons_succ, i64_w, i32_w]
                rfl
              have HL1 := Lib.hid (blk_below HL1.out ((Below.refl wa.heap.size wa).alloc (Nat.le_refl _) (.cells (tcells t) 32)))
              generalize wa.alloc (.cells (tcells t) 32) = wc at *
              generalize wa.heap.size = g2 at *
              refine one_ (i := 3) (N := some 81) #[true, true, true, true, true, true, true, false, false, false] rfl rfl (by kernel_rfl) (by decide) (fun K hK => ?_)
              generalize hwa : wc = wa at *
              clear hwa
              refine Kd.R_append_rows_step (Kd.int .i64) (Rr := (Kd.int .i64).K wa) (w0 := wa) w3.heap.size (by rfl) (.tmp 78) (.tmp 80) 64 3 (.int .i64 0) 8 rfl Try.underlying64 info3 rfl (by decide) (by omega) u13 ss [1] (some ⟨g1, 0, none⟩) 1 1 (fun _ => True) (fun _ => False) rfl rfl HM.out.sd (C_one3 HL1.out) ?aK (fun _ hk => hk.elim) (fun _ _ => trivial) (fr_self HM.out.fr) HM.out.fr.size (by have := Hlen.out; omega) ?_
              case aK => exact fun y cs h => h
              intro v1 w5 ho1 hB1 hg1 hat1
              show K (Act.put _ (some 81) v1) w5
              have HT5 := Lib.hid (blk_grown HT.out hg1 (Kd.R_ne HM.out.sd HT.out (by decide)))
              have HM5 := Lib.hid (HM.out.app1 ho1 hB1 hg1)
              refine hK.out _ _ (C7.of HT5.out) (fun hHeld => ?_)
              have HL2 := Lib.hid (blk_grown HL2.out hg1 (Kd.R_ne HM.out.sd HL2.out (by decide)))
              clear hK K ho1 hB1 hg1 hat1 HM HT HL1
              refine norm_ (a' := ?_) ?_ ?_
              rotate_left
              · simp only [Act.put, List.setIfInBounds_toArray, List.set_cons_zero, List.set_cons_succ, i64_w, i32_w]
                rfl
              have HM := HM5
              have HT := HT5
              have Hlen : Hid ((ss ++ [(1 : Int)]).length ≤ 2001 ∧ ts.length ≤ 2000) := Lib.hid (by have := Hlen.out; simp; omega)
              clear HM5 HT5
              generalize hwb : w5 = wb at *
              clear hwb
              refine last_ (i := 7) (N := some 85) #[true, true, true, true, true, true, true, true, false, false] rfl rfl (by kernel_rfl) (by decide) (fun K hK => ?_)
              refine Kd.R_append_rows_step k32 (Rr := k32.K wb) (w0 := wb) w3.heap.size (by rfl) (.tmp 82) (.tmp 84) 47 32 (.agg #[.string ByteArray.empty, .int .i64 0, .int .i64 0, .int .i64 0, .int .i64 0, .int .i64 0, .int .i64 0]) 64 rfl Try.underlying47 info32 rfl (by decide) (by omega) u14 ts [t] (some ⟨g2, 0, none⟩) 1 1 (fun _ => True) (fun _ => False) rfl rfl HM.out.ot (C_one32 HL2.out) ?aK (fun _ hk => hk.elim) (fun _ _ => trivial) (fr_self HM.out.fr) HM.out.fr.size (by have := Hlen.out; omega) ?_
              case aK => exact fun y cs h => by obtain rfl := k32_open h; exact k32_mkM _ _ _ y
              intro v2 w6 ho1 hB1 hg1 hat1
              show K (Act.put _ (some 85) v2) w6
              have HM6 := Lib.hid (HM.out.app2 ho1 hB1 hg1)
              refine hK.out _ _ ?_
              clear hK K ho1 hB1 hg1 hat1 HM HT HL2
              refine norm_ (a' := ?_) ?_ ?_
              rotate_left
              · simp only [Act.put, List.setIfInBounds_toArray, List.set_cons_zero, List.set_cons_succ, i64_w, i32_w]
                rfl
              refine pure_ (i := 8) (N := some 13) (v := ?_) (a' := ?_) #[true, true, true, true, true, true, true, true, true, false] rfl rfl (by kernel_rfl) (fun _ _ _ h => h) (Or.inl ⟨by rfl, ?_⟩) ?_ ?_
              rotate_left
              · intro w'
                go_simp
                with_reducible rfl
              rotate_left
              · simp only [Act.put, List.setIfInBounds_toArray, List.set_cons_zero, List.set_cons_succ, i64_w, i32_w]
                rfl
              refine pure_ (i := 9) (N := some 14) (v := ?_) (a' := ?_) #[true, true, true, true, true, true, true, true, true, true] rfl rfl (by kernel_rfl) (fun _ _ _ h => h) (Or.inl ⟨by rfl, ?_⟩) ?_ ?_
              rotate_left
              · intro w'
                go_simp
                with_reducible rfl
              rotate_left
              · simp only [Act.put, List.setIfInBounds_toArray, List.set_cons_zero, List.set_cons_succ, i64_w, i32_w]
                rfl
              refine done_ (by kernel_rfl) ?_
              go_wp2_with fail
              go_roundw
              case rel => exact ⟨_, _, [], _, _, y, _, acc ++ [((1 : Int), t)], rfl, rfl, by simp at hlen ⊢; omega, Lib.hid (by rw [List.map_append, List.map_append, ← Hss.out, ← Hts.out]; exact HM6.out), HEy2⟩
              case measure => simp [lenOf] <;> omega
          · skip
            refine value_ (v := .slice (some ⟨w4.heap.size, 0, none⟩) 1 1) (w1 := w4.alloc (.cells (tcells t) 32)) (by rfl) rfl ?_ ?_
            · go_simp
              rfl
            have hbl := (Below.refl w4.heap.size w4).alloc (Nat.le_refl _) (.cells (tcells t) 32)
            have HM := Lib.hid (HM.out.below hbl)
            have HT := Lib.hid (blk_below HT.out hbl)
            have HL2 := Lib.hid (blk_new w4 (.cells (tcells t) 32))
            refine hK.out _ _ (C7.of HT.out) (fun hHeld => ?_)
            clear hK K hbl
            refine norm_ (a' := ?_) ?_ ?_
            rotate_left
            · simp only [Act.put, List.setIfInBounds_toArray, List.set_cons_zero, List.set_cons_succ, i64_w, i32_w]
              rfl
            generalize w4.alloc (.cells (tcells t) 32) = wa at *
            generalize w4.heap.size = g2 at *
            refine one_ (i := 2) (N := some 80) #[true, true, true, false, true, true, true, false, false, false] rfl rfl (by kernel_rfl) (by decide) (fun K hK => ?_)
            refine value_ (v := .slice (some ⟨wa.heap.size, 0, none⟩) 1 1) (w1 := wa.alloc (.cells #[.int .i64 1] 3)) (by rfl) rfl ?_ ?_
            · go_simp
            have hbl := (Below.refl wa.heap.size wa).alloc (Nat.le_refl _) (.cells #[.int .i64 1] 3)
            have HM := Lib.hid (HM.out.below hbl)
            have HT := Lib.hid (blk_below HT.out hbl)
            have HL1 := Lib.hid (blk_new wa (.cells #[.int .i64 1] 3))
            refine hK.out _ _ (C7.of HT.out) (fun hHeld => ?_)
            clear hK K hbl
            refine norm_ (a' := ?_) ?_ ?_
            rotate_left
            · simp only [Act.put, List.setIfInBounds_toArray, List.set_cons_zero, List.set_cons_succ, i64_w, i32_w]
              rfl
            have HL2 := Lib.hid (blk_below HL2.out ((Below.refl wa.heap.size wa).alloc (Nat.le_refl _) (.cells #[.int .i64 1] 3)))
            generalize wa.alloc (.cells #[.int .i64 1] 3) = wc at *
            generalize wa.heap.size = g1 at *
            refine one_ (i := 3) (N := some 81) #[true, true, true, true, true, true, true, false, false, false] rfl rfl (by kernel_rfl) (by decide) (fun K hK => ?_)
            generalize hwa : wc = wa at *
            clear hwa
            refine Kd.R_append_rows_step (Kd.int .i64) (Rr := (Kd.int .i64).K wa) (w0 := wa) w3.heap.size (by rfl) (.tmp 78) (.tmp 80) 64 3 (.int .i64 0) 8 rfl Try.underlying64 info3 rfl (by decide) (by omega) u13 ss [1] (some ⟨g1, 0, none⟩) 1 1 (fun _ => True) (fun _ => False) rfl rfl HM.out.sd (C_one3 HL1.out) ?aK (fun _ hk => hk.elim) (fun _ _ => trivial) (fr_self HM.out.fr) HM.out.fr.size (by have := Hlen.out; omega) ?_
            case aK => exact fun y cs h => h
            intro v1 w5 ho1 hB1 hg1 hat1
            show K (Act.put _ (some 81) v1) w5
            have HT5 := Lib.hid (blk_grown HT.out hg1 (Kd.R_ne HM.out.sd HT.out (by decide)))
            have HM5 := Lib.hid (HM.out.app1 ho1 hB1 hg1)
            refine hK.out _ _ (C7.of HT5.out) (fun hHeld => ?_)
            have HL2 := Lib.hid (blk_grown HL2.out hg1 (Kd.R_ne HM.out.sd HL2.out (by decide)))
            clear hK K ho1 hB1 hg1 hat1 HM HT HL1
            refine norm_ (a' := ?_) ?_ ?_
            rotate_left
            · simp only [Act.put, List.setIfInBounds_toArray, List.set_cons_zero, List.set_cons_succ, i64_w, i32_w]
              rfl
            have HM := HM5
            have HT := HT5
            have Hlen : Hid ((ss ++ [(1 : Int)]).length ≤ 2001 ∧ ts.length ≤ 2000) := Lib.hid (by have := Hlen.out; simp; omega)
            clear HM5 HT5
            generalize hwb : w5 = wb at *
            clear hwb
            refine last_ (i := 7) (N := some 85) #[true, true, true, true, true, true, true, true, false, false] rfl rfl (by kernel_rfl) (by decide) (fun K hK => ?_)
            refine Kd.R_append_rows_step k32 (Rr := k32.K wb) (w0 := wb) w3.heap.size (by rfl) (.tmp 82) (.tmp 84) 47 32 (.agg #[.string ByteArray.empty, .int .i64 0, .int .i64 0, .int .i64 0, .int .i64 0, .int .i64 0, .int .i64 0]) 64 rfl Try.underlying47 info32 rfl (by decide) (by omega) u14 ts [t] (some ⟨g2, 0, none⟩) 1 1 (fun _ => True) (fun _ => False) rfl rfl HM.out.ot (C_one32 HL2.out) ?aK (fun _ hk => hk.elim) (fun _ _ => trivial) (fr_self HM.out.fr) HM.out.fr.size (by have := Hlen.out; omega) ?_
            case aK => exact fun y cs h => by obtain rfl := k32_open h; exact k32_mkM _ _ _ y
            intro v2 w6 ho1 hB1 hg1 hat1
            show K (Act.put _ (some 85) v2) w6
            have HM6 := Lib.hid (HM.out.app2 ho1 hB1 hg1)
            refine hK.out _ _ ?_
            clear hK K ho1 hB1 hg1 hat1 HM HT HL2
            refine norm_ (a' := ?_) ?_ ?_
            rotate_left
            · simp only [Act.put, List.setIfInBounds_toArray, List.set_cons_zero, List.set_cons_succ, i64_w, i32_w]
              rfl
            refine pure_ (i := 8) (N := some 13) (v := ?_) (a' := ?_) #[true, true, true, true, true, true, true, true, true, false] rfl rfl (by kernel_rfl) (fun _ _ _ h => h) (Or.inl ⟨by rfl, ?_⟩) ?_ ?_
            rotate_left
            · intro w'
              go_simp
              with_reducible rfl
            rotate_left
            · simp only [Act.put, List.setIfInBounds_toArray, List.set_cons_zero, List.set_cons_succ, i64_w, i32_w]
              rfl
            refine pure_ (i := 9) (N := some 14) (v := ?_) (a' := ?_) #[true, true, true, true, true, true, true, true, true, true] rfl rfl (by kernel_rfl) (fun _ _ _ h => h) (Or.inl ⟨by rfl, ?_⟩) ?_ ?_
            rotate_left
            · intro w'
              go_simp
              with_reducible rfl
            rotate_left
            · simp only [Act.put, List.setIfInBounds_toArray, List.set_cons_zero, List.set_cons_succ, i64_w, i32_w]
              rfl
            refine done_ (by kernel_rfl) ?_
            go_wp2_with fail
            go_roundw
            case rel => exact ⟨_, _, [], _, _, y, _, acc ++ [((1 : Int), t)], rfl, rfl, by simp at hlen ⊢; omega, Lib.hid (by rw [List.map_append, List.map_append, ← Hss.out, ← Hts.out]; exact HM6.out), HEy2⟩
            case measure => simp [lenOf] <;> omega
        · have HEn2 := Lib.hid (HEn.out htk)
          clear HEn HEy
          have HTK := Lib.hid (take_no t gl left ws HMs.out.blk htk)
          clear htk
          go_wp2_with fail
          refine HTK.out.mono ?_
          rintro e wt ⟨rfl, hb⟩
          have HM := Lib.hid (HMs.out.below hb)
          clear hb HTK HMs HTs hz0 hz1 hz2 hz3 hz4 hz5 hz6
          go_wp2_with fail
          go_roundw
          case rel => exact ⟨_, _, [], _, _, y, _, acc, rfl, rfl, by simp at hlen ⊢; omega, HM, HEn2⟩
          case measure => simp [lenOf] <;> omega
      | cons r x =>
        simp only [List.length_cons] at hlen ⊢
        have hcx : x.length + 1 ≤ cx := HMr.out.sx.cap
        have hcy : y.length + 1 ≤ cy := HMr.out.sy.cap
        obtain ⟨adx, rfl, hhx⟩ := HMr.out.sx.head HMr.out.fr
        obtain ⟨ady, rfl, hhy⟩ := HMr.out.sy.head HMr.out.fr
        have HHx := Lib.hid hhx
        have HHy := Lib.hid hhy
        clear hhx hhy
        by_cases hle : cmpT r t ≤ 0
        · have hd : decide (cmpT r t ≤ 0) = true := decide_eq_true hle
          have hpk : Hid (pick (r :: x) (t :: y) = some (0, r, x, t :: y)) := Lib.hid (by simp only [pick]; rw [if_pos hle])
          clear hle
          have q1 : (((y.length : Int) + 1) == 0) = false := beq_eq_false_iff_ne.2 (by omega)
          have q2 : decide (0 < (x.length : Int) + 1) = true := decide_eq_true (by omega)
          have q3 : decide (0 < (x.length : Int) + 1 + ((y.length : Int) + 1)) = true := decide_eq_true (by omega)
          go_wp2_with fail
          have Hbz : Hid (Below wr.heap.size wr (wr.alloc (.cells #[.string ⟨#[]⟩, .int .i64 0, .int .i64 0, .int .i64 0, .int .i64 0, .int .i64 0, .int .i64 0] 32)).drew) := Lib.hid (below_drew ((Below.refl wr.heap.size wr).alloc (Nat.le_refl _) _))
          have HTz : Hid ((wr.alloc (.cells #[.string ⟨#[]⟩, .int .i64 0, .int .i64 0, .int .i64 0, .int .i64 0, .int .i64 0, .int .i64 0] 32)).drew.heap[wr.heap.size]? = some (.cells #[.string ⟨#[]⟩, .int .i64 0, .int .i64 0, .int .i64 0, .int .i64 0, .int .i64 0, .int .i64 0] 32 (0, 0))) := Lib.hid (blk_new wr _)
          refine start_ (n := 18) (S := fun W => CA W adx r ∧ CA W ady t) (ds := []) #[false, false, false, false, false, false, false, false, false, false, false, false, false, false, false, false, false, false] (by kernel_rfl) rfl rfl ⟨HHx.out _ Hbz.out, HHy.out _ Hbz.out⟩ (fun hHeld => ?_)
          generalize (wr.alloc (.cells #[.string ⟨#[]⟩, .int .i64 0, .int .i64 0, .int .i64 0, .int .i64 0, .int .i64 0, .int .i64 0] 32)).drew = wz at *
          refine pure_ (i := 0) (N := some 47) (v := ?_) (a' := ?_) #[true, false, false, false, false, false, false, false, false, false, false, false, false, false, false, false, false, false] rfl rfl (by kernel_rfl) (fun _ _ _ h => h) (Or.inl ⟨by rfl, ?_⟩) ?_ ?_
          rotate_left
          · intro w'
            go_simp
            with_reducible rfl
          rotate_left
          · simp only [Act.put, List.setIfInBounds_toArray, List.set_cons_zero, List.set_cons_succ, i64_w, i32_w]
            rfl
          refine pure_ (i := 1) (N := some 48) (v := ?_) (a' := ?_) #[true, true, false, false, false, false, false, false, false, false, false, false, false, false, false, false, false, false] rfl rfl (by kernel_rfl) (fun _ _ _ h => h) (Or.inl ⟨by rfl, ?_⟩) ?_ ?_
          rotate_left
          · intro w'
            go_simp
            with_reducible rfl
          rotate_left
          · simp only [Act.put, List.setIfInBounds_toArray, List.set_cons_zero, List.set_cons_succ, i64_w, i32_w]
            rfl
          refine pure_ (i := 2) (N := some 49) (v := ?_) (a' := ?_) #[true, true, true, false, false, false, false, false, false, false, false, false, false, false, false, false, false, false] rfl rfl (by kernel_rfl) (fun _ _ _ h => h) (Or.inl ⟨by rfl, ?_⟩) ?_ ?_
          rotate_left
          · intro w'
            go_simp
            with_reducible rfl
          rotate_left
          · simp only [Act.put, List.setIfInBounds_toArray, List.set_cons_zero, List.set_cons_succ, i64_w, i32_w]
            rfl
          refine pure_ (i := 3) (N := some 50) (v := ?_) (a' := ?_) #[true, true, true, true, false, false, false, false, false, false, false, false, false, false, false, false, false, false] rfl rfl (by kernel_rfl) (fun _ _ _ h => h) (Or.inl ⟨by rfl, ?_⟩) ?_ ?_
          rotate_left
          · intro w'
            go_simp
            with_reducible rfl
          rotate_left
          · simp only [Act.put, List.setIfInBounds_toArray, List.set_cons_zero, List.set_cons_succ, i64_w, i32_w]
            rfl
          refine pure_ (i := 4) (N := some 51) (v := ?_) (a' := ?_) #[true, true, true, true, true, false, false, false, false, false, false, false, false, false, false, false, false, false] rfl rfl (by kernel_rfl) (fun _ _ _ h => h) (Or.inl ⟨by rfl, ?_⟩) ?_ ?_
          rotate_left
          · intro w'
            go_simp
            with_reducible rfl
          rotate_left
          · simp only [Act.put, List.setIfInBounds_toArray, List.set_cons_zero, List.set_cons_succ, i64_w, i32_w]
            rfl
          refine pure_ (i := 5) (N := some 52) (v := ?_) (a' := ?_) #[true, true, true, true, true, true, false, false, false, false, false, false, false, false, false, false, false, false] rfl rfl (by kernel_rfl) (fun _ _ _ h => h) (Or.inl ⟨by rfl, ?_⟩) ?_ ?_
          rotate_left
          · intro w'
            go_simp
            with_reducible rfl
          rotate_left
          · simp only [Act.put, List.setIfInBounds_toArray, List.set_cons_zero, List.set_cons_succ, i64_w, i32_w]
            rfl
          refine pure_ (i := 6) (N := some 53) (v := ?_) (a' := ?_) #[true, true, true, true, true, true, true, false, false, false, false, false, false, false, false, false, false, false] rfl rfl (by kernel_rfl) (fun _ _ _ h => h) (Or.inl ⟨by rfl, ?_⟩) ?_ ?_
          rotate_left
          · intro w'
            go_simp
            with_reducible rfl
          rotate_left
          · simp only [Act.put, List.setIfInBounds_toArray, List.set_cons_zero, List.set_cons_succ, i64_w, i32_w]
            rfl
          refine pure_ (i := 7) (N := some 54) (v := ?_) (a' := ?_) #[true, true, true, true, true, true, true, true, false, false, false, false, false, false, false, false, false, false] rfl rfl (by kernel_rfl) (fun _ _ _ h => h) (Or.inl ⟨by rfl, ?_⟩) ?_ ?_
          rotate_left
          · intro w'
            go_simp
            with_reducible rfl
          rotate_left
          · simp only [Act.put, List.setIfInBounds_toArray, List.set_cons_zero, List.set_cons_succ, i64_w, i32_w]
            rfl
          refine pure_ (i := 8) (N := some 55) (v := ?_) (a' := ?_) #[true, true, true, true, true, true, true, true, true, false, false, false, false, false, false, false, false, false] rfl rfl (by kernel_rfl) (fun _ _ _ h => h) (Or.inl ⟨by rfl, ?_⟩) ?_ ?_
          rotate_left
          · intro w'
            go_simp
            with_reducible rfl
          rotate_left
          · simp only [Act.put, List.setIfInBounds_toArray, List.set_cons_zero, List.set_cons_succ, i64_w, i32_w]
            rfl
          refine pure_ (i := 9) (N := some 56) (v := ?_) (a' := ?_) #[true, true, true, true, true, true, true, true, true, true, false, false, false, false, false, false, false, false] rfl rfl (by kernel_rfl) (fun _ _ _ h => h) (Or.inl ⟨by rfl, ?_⟩) ?_ ?_
          rotate_left
          · intro w'
            go_simp
            with_reducible rfl
          rotate_left
          · simp only [Act.put, List.setIfInBounds_toArray, List.set_cons_zero, List.set_cons_succ, i64_w, i32_w]
            rfl
          refine take_ (i := 10) (N := some 57) (v := ?_) (a' := ?_) #[true, true, true, true, true, true, true, true, true, true, true, false, false, false, false, false, false, false] rfl rfl (by kernel_rfl) (fun _ _ _ h => h) (Or.inl ⟨by rfl, ?_⟩) hHeld ?_ ?_
          rotate_left
          · rintro w' ⟨⟨s0, s1, s2, s3, s4, s5, s6⟩, ⟨t0, t1, t2, t3, t4, t5, t6⟩⟩
            go_simp
            with_reducible rfl
          rotate_left
          · simp only [Act.put, List.setIfInBounds_toArray, List.set_cons_zero, List.set_cons_succ, i64_w, i32_w]
            rfl
          refine pure_ (i := 11) (N := some 58) (v := ?_) (a' := ?_) #[true, true, true, true, true, true, true, true, true, true, true, true, false, false, false, false, false, false] rfl rfl (by kernel_rfl) (fun _ _ _ h => h) (Or.inl ⟨by rfl, ?_⟩) ?_ ?_
          rotate_left
          · intro w'
            go_simp
            with_reducible rfl
          rotate_left
          · simp only [Act.put, List.setIfInBounds_toArray, List.set_cons_zero, List.set_cons_succ, i64_w, i32_w]
            rfl
          refine pure_ (i := 12) (N := some 59) (v := ?_) (a' := ?_) #[true, true, true, true, true, true, true, true, true, true, true, true, true, false, false, false, false, false] rfl rfl (by kernel_rfl) (fun _ _ _ h => h) (Or.inl ⟨by rfl, ?_⟩) ?_ ?_
          rotate_left
          · intro w'
            go_simp
            with_reducible rfl
          rotate_left
          · simp only [Act.put, List.setIfInBounds_toArray, List.set_cons_zero, List.set_cons_succ, i64_w, i32_w]
            rfl
          refine take_ (i := 13) (N := some 60) (v := ?_) (a' := ?_) #[true, true, true, true, true, true, true, true, true, true, true, true, true, true, false, false, false, false] rfl rfl (by kernel_rfl) (fun _ _ _ h => h) (Or.inl ⟨by rfl, ?_⟩) hHeld ?_ ?_
          rotate_left
          · rintro w' ⟨⟨s0, s1, s2, s3, s4, s5, s6⟩, ⟨t0, t1, t2, t3, t4, t5, t6⟩⟩
            go_simp
            with_reducible rfl
          rotate_left
          · simp only [Act.put, List.setIfInBounds_toArray, List.set_cons_zero, List.set_cons_succ, i64_w, i32_w]
            rfl
          refine one_ (i := 14) (N := some 61) #[true, true, true, true, true, true, true, true, true, true, true, true, true, true, true, false, false, false] rfl rfl (by kernel_rfl) (by decide) (fun K hK => ?_)
          refine goes_ Try.func23 (by kernel_rfl) rfl #[.agg (tcells r), .agg (tcells t)] (by rfl) rfl rfl (by (try simp only [List.map_toArray, List.map_cons, List.map_nil]); first | done | rfl) ?_
          refine (Compare_calls r t _).mono ?_
          rintro e wq ⟨rfl, hb⟩
          have hbq : Below wr.heap.size wr wq := Hbz.out.trans (hb.mono Hbz.out.size)
          have HT := Lib.hid (blk_below HTz.out hb)
          refine ⟨_, rfl, hK.out _ _ ⟨HHx.out _ hbq, HHy.out _ hbq⟩ (fun hHeld => ?_)⟩
          clear hK K hb Hbz HTz
          refine norm_ (a' := ?_) ?_ ?_
          rotate_left
          · simp only [Act.put, List.setIfInBounds_toArray, List.set_cons_zero, List.set_cons_succ, i64_w, i32_w]
            rfl
          refine pure_ (i := 15) (N := some 62) (v := ?_) (a' := ?_) #[true, true, true, true, true, true, true, true, true, true, true, true, true, true, true, true, false, false] rfl rfl (by kernel_rfl) (fun _ _ _ h => h) (Or.inl ⟨by rfl, ?_⟩) ?_ ?_
          rotate_left
          · intro w'
            go_simp
            with_reducible rfl
          rotate_left
          · simp only [Act.put, List.setIfInBounds_toArray, List.set_cons_zero, List.set_cons_succ, i64_w, i32_w]
            rfl
          refine pure_ (i := 16) (N := some 63) (v := ?_) (a' := ?_) #[true, true, true, true, true, true, true, true, true, true, true, true, true, true, true, true, true, false] rfl rfl (by kernel_rfl) (fun _ _ _ h => h) (Or.inl ⟨by rfl, ?_⟩) ?_ ?_
          rotate_left
          · intro w'
            go_simp
            with_reducible rfl
          rotate_left
          · simp only [Act.put, List.setIfInBounds_toArray, List.set_cons_zero, List.set_cons_succ, i64_w, i32_w]
            rfl
          refine pure_ (i := 17) (N := some 64) (v := ?_) (a' := ?_) #[true, true, true, true, true, true, true, true, true, true, true, true, true, true, true, true, true, true] rfl rfl (by kernel_rfl) (fun _ _ _ h => h) (Or.inl ⟨by rfl, ?_⟩) ?_ ?_
          rotate_left
          · intro w'
            go_simp
            with_reducible rfl
          rotate_left
          · simp only [Act.put, List.setIfInBounds_toArray, List.set_cons_zero, List.set_cons_succ, i64_w, i32_w]
            rfl
          refine done_ (by kernel_rfl) ?_
          clear hHeld
          go_wp2_with fail
          have Hgt : Hid (w3.heap.size ≤ wr.heap.size) := Lib.hid HMr.out.fr.size
          have HMq := Lib.hid (HMr.out.below hbq)
          have HHq := Lib.hid (HHx.out _ hbq)
          have Hne : Hid (some wr.heap.size ≠ u14.ownBlock) := Lib.hid (fun e => by have := Kd.R_lt HMr.out.ot _ e.symm; omega)
          clear HMr HHx HHy hbq
          generalize wr.heap.size = gt at *
          have HVt := Lib.hid (HMq.out.vx r (by simp))
          clear hd
          have hsl : ∀ w, (Instr.slice 47 (.slice (some adx) (x.length + 1) cx) (some (.int .i64 1)) none none).run Try.prog w = .ok (.slice (tl adx cx) x.length (cx - 1)) w := run_tail adx x.length cx hcx
          refine start_ (n := 7) (S := fun W => (W.cell? adx = some (.string r.f0.f0) ∧ W.cell? ⟨adx.block, adx.off + 1, none⟩ = some (.int .i64 r.f0.f1) ∧ W.cell? ⟨adx.block, adx.off + 2, none⟩ = some (.int .i64 r.f1) ∧ W.cell? ⟨adx.block, adx.off + 3, none⟩ = some (.int .i64 r.f2) ∧ W.cell? ⟨adx.block, adx.off + 4, none⟩ = some (.int .i64 r.f3.f0) ∧ W.cell? ⟨adx.block, adx.off + 5, none⟩ = some (.int .i64 r.f3.f1) ∧ W.cell? ⟨adx.block, adx.off + 6, none⟩ = some (.int .i64 r.f4))) (ds := [5]) #[false, false, false, false, false, false, false] (by kernel_rfl) rfl rfl HHq.out (fun hHeld => ?_)
          have HMd := Lib.hid (HMq.out.below (below_drew (Below.refl _ _)))
          have HTd : Hid (wq.drew.heap[gt]? = _) := Lib.hid HT.out
          clear HMq HHq HT
          generalize wq.drew = wd at *
          refine pure_ (i := 0) (N := some 65) (v := ?_) (a' := ?_) #[true, false, false, false, false, false, false] rfl rfl (by kernel_rfl) (fun _ _ _ h => h) (Or.inl ⟨by rfl, ?_⟩) ?_ ?_
          rotate_left
          · intro w'
            go_simp
            with_reducible rfl
          rotate_left
          · simp only [Act.put, List.setIfInBounds_toArray, List.set_cons_zero, List.set_cons_succ, i64_w, i32_w]
            rfl
          refine pure_ (i := 1) (N := some 66) (v := ?_) (a' := ?_) #[true, true, false, false, false, false, false] rfl rfl (by kernel_rfl) (fun _ _ _ h => h) (Or.inl ⟨by rfl, ?_⟩) ?_ ?_
          rotate_left
          · intro w'
            go_simp
            with_reducible rfl
          rotate_left
          · simp only [Act.put, List.setIfInBounds_toArray, List.set_cons_zero, List.set_cons_succ, i64_w, i32_w]
            rfl
          refine take_ (i := 2) (N := some 67) (v := ?_) (a' := ?_) #[true, true, true, false, false, false, false] rfl rfl (by kernel_rfl) (fun _ _ _ h => h) (Or.inl ⟨by rfl, ?_⟩) hHeld ?_ ?_
          rotate_left
          · rintro w' ⟨s0, s1, s2, s3, s4, s5, s6⟩
            go_simp
            with_reducible rfl
          rotate_left
          · simp only [Act.put, List.setIfInBounds_toArray, List.set_cons_zero, List.set_cons_succ, i64_w, i32_w]
            rfl
          refine pure_ (i := 3) (N := some 68) (v := ?_) (a' := ?_) #[true, true, true, true, false, false, false] rfl rfl (by kernel_rfl) (fun _ _ _ h => h) (Or.inl ⟨by rfl, ?_⟩) ?_ ?_
          rotate_left
          · intro w'
            go_simp
            with_reducible rfl
          rotate_left
          · simp only [Act.put, List.setIfInBounds_toArray, List.set_cons_zero, List.set_cons_succ, i64_w, i32_w]
            rfl
          refine pure_ (i := 4) (N := some 69) (v := ?_) (a' := ?_) #[true, true, true, true, true, false, false] rfl rfl (by kernel_rfl) (fun _ _ _ h => h) (Or.inl ⟨by rfl, ?_⟩) ?_ ?_
          rotate_left
          · intro w'
            go_simp
            with_reducible rfl
          rotate_left
          · simp only [Act.put, List.setIfInBounds_toArray, List.set_cons_zero, List.set_cons_succ, i64_w, i32_w]
            rfl
          clear hsl
          have hf0 : wd.frozen? ⟨gt, 0, none⟩ = false := blk_frozen HTd.out 0
          have hf1 : wd.frozen? ⟨gt, 1, none⟩ = false := blk_frozen HTd.out 1
          have hf2 : wd.frozen? ⟨gt, 2, none⟩ = false := blk_frozen HTd.out 2
          have hf3 : wd.frozen? ⟨gt, 3, none⟩ = false := blk_frozen HTd.out 3
          have hf4 : wd.frozen? ⟨gt, 4, none⟩ = false := blk_frozen HTd.out 4
          have hf5 : wd.frozen? ⟨gt, 5, none⟩ = false := blk_frozen HTd.out 5
          have hf6 : wd.frozen? ⟨gt, 6, none⟩ = false := blk_frozen HTd.out 6
          have hz0 : wd.cell? ⟨gt, 0, none⟩ = some (.string ⟨#[]⟩) := (blk_cell HTd.out 0).trans rfl
          have hz1 : wd.cell? ⟨gt, 1, none⟩ = some (.int .i64 0) := (blk_cell HTd.out 1).trans rfl
          have hz2 : wd.cell? ⟨gt, 2, none⟩ = some (.int .i64 0) := (blk_cell HTd.out 2).trans rfl
          have hz3 : wd.cell? ⟨gt, 3, none⟩ = some (.int .i64 0) := (blk_cell HTd.out 3).trans rfl
          have hz4 : wd.cell? ⟨gt, 4, none⟩ = some (.int .i64 0) := (blk_cell HTd.out 4).trans rfl
          have hz5 : wd.cell? ⟨gt, 5, none⟩ = some (.int .i64 0) := (blk_cell HTd.out 5).trans rfl
          have hz6 : wd.cell? ⟨gt, 6, none⟩ = some (.int .i64 0) := (blk_cell HTd.out 6).trans rfl
          clear hHeld
          refine last_ (i := 5) (N := none) #[true, true, true, true, true, true, false] rfl rfl (by kernel_rfl) (by decide) (fun K hK => ?_)
          refine skip_ (w1 := wd.setCells gt 0 (tcs r)) (by rfl) rfl ?_ ?_
          · unfold tcs
            go_simp
            rfl
          refine hK.out _ _ ?_
          clear hK K
          refine pure_ (i := 6) (N := some 9) (v := ?_) (a' := ?_) #[true, true, true, true, true, true, true] rfl rfl (by kernel_rfl) (fun _ _ _ h => h) (Or.inl ⟨by rfl, ?_⟩) ?_ ?_
          rotate_left
          · intro w'
            go_simp
            with_reducible rfl
          rotate_left
          · simp only [Act.put, List.setIfInBounds_toArray, List.set_cons_zero, List.set_cons_succ, i64_w, i32_w]
            rfl
          refine done_ (by kernel_rfl) ?_
          have HMs := Lib.hid (HMd.out.tailx.store Hgt.out HTd.out Hne.out 0 (tcs r))
          have HEy : Hid (r.f1 ≤ left → (acc ++ [((0 : Int), r)]) ++ mt (x.length + (t :: y).length) x (t :: y) (left - r.f1) = res a b budget) := Lib.hid (fun h => by
            have e := HEr.out
            rw [show (r :: x).length + (t :: y).length = (x.length + (t :: y).length) + 1 from by simp only [List.length_cons]; omega, mt_yes hpk.out h] at e
            rw [← e, List.append_assoc]; rfl)
          have HEn : Hid (¬ r.f1 ≤ left → acc ++ mt (x.length + (t :: y).length) x (t :: y) left = res a b budget) := Lib.hid (fun h => by
            have e := HEr.out
            rw [show (r :: x).length + (t :: y).length = (x.length + (t :: y).length) + 1 from by simp only [List.length_cons]; omega, mt_no hpk.out h] at e
            exact e)
          have hcut : True := trivial
          clear HEr hpk
          have HTs : Hid ((wd.setCells gt 0 (tcs r)).heap[gt]? = _) := Lib.hid (blk_tcs HTd.out r)
          have hfoot := C7.of HTs.out
          obtain ⟨hz0, hz1, hz2, hz3, hz4, hz5, hz6⟩ := hfoot
          clear hf0 hf1 hf2 hf3 hf4 hf5 hf6 HTd HMd hcut
          generalize wd.setCells gt 0 (tcs r) = ws at *
          have Hgg : Hid (gt ≠ gl) := Lib.hid (by have := Hgt.out; have := HMs.out.gl; omega)
          have hlt0 := HVt.out.s0
          have hl0 := HMs.out.l0
          have hl1 := HMs.out.l1
          by_cases htk : r.f1 ≤ left
          · have HEy2 := Lib.hid (HEy.out htk)
            clear HEy HEn
            have HTK := Lib.hid (take_yes r gl left ws HMs.out.blk htk hlt0 hl1)
            go_wp2_with fail
            refine HTK.out.mono ?_
            rintro e wt ⟨rfl, hbk, hfr⟩
            have HM := Lib.hid (HMs.out.took hfr hbk (by omega) (by omega))
            have HT := Lib.hid ((hfr.block gt (blk_lt HTs.out) Hgg.out).trans HTs.out)
            clear hbk hfr HTK HMs HTs hz0 hz1 hz2 hz3 hz4 hz5 hz6
            obtain ⟨ss, hss⟩ : ∃ ss, ss = acc.map (·.1) := ⟨_, rfl⟩
            obtain ⟨ts, hts⟩ : ∃ ts, ts = acc.map (·.2) := ⟨_, rfl⟩
            have Hlen : Hid (ss.length ≤ 2000 ∧ ts.length ≤ 2000) := Lib.hid (by rw [hss, hts, List.length_map, List.length_map]; omega)
            rw [← hss, ← hts] at HM
            have Hss := Lib.hid hss
            have Hts := Lib.hid hts
            clear hss hts
            go_wp2_with fail
            have HM := Lib.hid (HM.out.below (below_drew (Below.refl _ _)))
            have HT : Hid (wt.drew.heap[gt]? = _) := Lib.hid HT.out
            refine start_ (n := 10) (S := fun W => C7 W gt r) (ds := [7]) #[false, false, false, false, false, false, false, false, false, false] (by kernel_rfl) rfl rfl (C7.of HT.out) (fun hHeld => ?_)
            generalize wt.drew = w4 at *
            refine pure_ (i := 0) (N := some 78) (v := ?_) (a' := ?_) #[true, false, false, false, false, false, false, false, false, false] rfl rfl (by kernel_rfl) (fun _ _ _ h => h) (Or.inl ⟨by rfl, ?_⟩) ?_ ?_
            rotate_left
            · intro w'
              go_simp
              with_reducible rfl
            rotate_left
            · simp only [Act.put, List.setIfInBounds_toArray, List.set_cons_zero, List.set_cons_succ, i64_w, i32_w]
              rfl
            refine pure_ (i := 1) (N := some 79) (v := ?_) (a' := ?_) #[true, true, false, false, false, false, false, false, false, false] rfl rfl (by kernel_rfl) (fun _ _ _ h => h) (Or.inl ⟨by rfl, ?_⟩) ?_ ?_
            rotate_left
            · intro w'
              go_simp
              with_reducible rfl
            rotate_left
            · simp only [Act.put, List.setIfInBounds_toArray, List.set_cons_zero, List.set_cons_succ, i64_w, i32_w]
              rfl
            refine pure_ (i := 4) (N := some 82) (v := ?_) (a' := ?_) #[true, true, false, false, true, false, false, false, false, false] rfl rfl (by kernel_rfl) (fun _ _ _ h => h) (Or.inl ⟨by rfl, ?_⟩) ?_ ?_
            rotate_left
            · intro w'
              go_simp
              with_reducible rfl
            rotate_left
            · simp only [Act.put, List.setIfInBounds_toArray, List.set_cons_zero, List.set_cons_succ, i64_w, i32_w]
              rfl
            refine take_ (i := 5) (N := some 83) (v := ?_) (a' := ?_) #[true, true, false, false, true, true, false, false, false, false] rfl rfl (by kernel_rfl) (fun _ _ _ h => h) (Or.inl ⟨by rfl, ?_⟩) hHeld ?_ ?_
            rotate_left
            · rintro w' ⟨s0, s1, s2, s3, s4, s5, s6⟩
              go_simp
              with_reducible rfl
            rotate_left
            · simp only [Act.put, List.setIfInBounds_toArray, List.set_cons_zero, List.set_cons_succ, i64_w, i32_w]
              rfl
            refine two_ (i := 2) (j := 6) (Ni := some 80) (Nj := some 84) #[true, true, true, false, true, true, false, false, false, false] #[true, true, false, false, true, true, true, false, false, false] rfl rfl rfl rfl (by kernel_rfl) (by decide) (by decide) (fun K hK => ?_) (fun K hK => ?_)
            · skip
              refine value_ (v := .slice (some ⟨w4.heap.size, 0, none⟩) 1 1) (w1 := w4.alloc (.cells #[.int .i64 0] 3)) (by rfl) rfl ?_ ?_
              · go_simp
              have hbl := (Below.refl w4.heap.size w4).alloc (Nat.le_refl _) (.cells #[.int .i64 0] 3)
              have HM := Lib.hid (HM.out.below hbl)
              have HT := Lib.hid (blk_below HT.out hbl)
              have HL1 := Lib.hid (blk_new w4 (.cells #[.int .i64 0] 3))
              refine hK.out _ _ (C7.of HT.out) (fun hHeld => ?_)
              clear hK K hbl
              refine norm_ (a' := ?_) ?_ ?_
              rotate_left
              · simp only [Act.put, List.setIfInBounds_toArray, List.set_cons_zero, List.set_cons_succ, i64_w, i32_w]
                rfl
              generalize w4.alloc (.cells #[.int .i64 0] 3) = wa at *
              generalize w4.heap.size = g1 at *
              refine two_ (i := 3) (j := 6) (Ni := some 81) (Nj := some 84) #[true, true, true, true, true, true, false, false, false, false] #[true, true, true, false, true, true, true, false, false, false] rfl rfl rfl rfl (by kernel_rfl) (by decide) (by decide) (fun K hK => ?_) (fun K hK => ?_)
              · skip
                refine Kd.R_append_rows_step (Kd.int .i64) (Rr := (Kd.int .i64).K wa) (w0 := wa) w3.heap.size (by rfl) (.tmp 78) (.tmp 80) 64 3 (.int .i64 0) 8 rfl Try.underlying64 info3 rfl (by decide) (by omega) u13 ss [0] (some ⟨g1, 0, none⟩) 1 1 (fun _ => True) (fun _ => False) rfl rfl HM.out.sd (C_one3 HL1.out) ?aK (fun _ hk => hk.elim) (fun _ _ => trivial) (fr_self HM.out.fr) HM.out.fr.size (by have := Hlen.out; omega) ?_
                case aK => exact fun y cs h => h
                intro v1 w5 ho1 hB1 hg1 hat1
                show K (Act.put _ (some 81) v1) w5
                have HT5 := Lib.hid (blk_grown HT.out hg1 (Kd.R_ne HM.out.sd HT.out (by decide)))
                have HM5 := Lib.hid (HM.out.app1 ho1 hB1 hg1)
                refine hK.out _ _ (C7.of HT5.out) (fun hHeld => ?_)
                clear hK K ho1 hB1 hg1 hat1 HM HT HL1
                refine norm_ (a' := ?_) ?_ ?_
                rotate_left
                · simp only [Act.put, List.setIfInBounds_toArray, List.set_cons_zero, List.set_cons_succ, i64_w, i32_w]
                  rfl
                have HM := HM5
                have HT := HT5
                have Hlen : Hid ((ss ++ [(0 : Int)]).length ≤ 2001 ∧ ts.length ≤ 2000) := Lib.hid (by have := Hlen.out; simp; omega)
                clear HM5 HT5
                refine one_ (i := 6) (N := some 84) #[true, true, true, true, true, true, true, false, false, false] rfl rfl (by kernel_rfl) (by decide) (fun K hK => ?_)
                refine value_ (v := .slice (some ⟨w5.heap.size, 0, none⟩) 1 1) (w1 := w5.alloc (.cells (tcells r) 32)) (by rfl) rfl ?_ ?_
                · go_simp
                  rfl
                have hbl := (Below.refl w5.heap.size w5).alloc (Nat.le_refl _) (.cells (tcells r) 32)
                have HM := Lib.hid (HM.out.below hbl)
                have HT := Lib.hid (blk_below HT.out hbl)
                have HL2 := Lib.hid (blk_new w5 (.cells (tcells r) 32))
                refine hK.out _ _ (C7.of HT.out) (fun hHeld => ?_)
                clear hK K hbl
                refine norm_ (a' := ?_) ?_ ?_
                rotate_left
                · simp only [Act.put, List.setIfInBounds_toArray, List.set_cons_zero, List.set_cons_succ, i64_w, i32_w]
                  rfl
                generalize w5.alloc (.cells (tcells r) 32) = wb at *
                generalize w5.heap.size = g2 at *
                refine last_ (i := 7) (N := some 85) #[true, true, true, true, true, true, true, true, false, false] rfl rfl (by kernel_rfl) (by decide) (fun K hK => ?_)
                refine Kd.R_append_rows_step k32 (Rr := k32.K wb) (w0 := wb) w3.heap.size (by rfl) (.tmp 82) (.tmp 84) 47 32 (.agg #[.string ByteArray.empty, .int .i64 0, .int .i64 0, .int .i64 0, .int .i64 0, .int .i64 0, .int .i64 0]) 64 rfl Try.underlying47 info32 rfl (by decide) (by omega) u14 ts [r] (some ⟨g2, 0, none⟩) 1 1 (fun _ => True) (fun _ => False) rfl rfl HM.out.ot (C_one32 HL2.out) ?aK (fun _ hk => hk.elim) (fun _ _ => trivial) (fr_self HM.out.fr) HM.out.fr.size (by have := Hlen.out; omega) ?_
                case aK => exact fun y cs h => by obtain rfl := k32_open h; exact k32_mkM _ _ _ y
                intro v2 w6 ho1 hB1 hg1 hat1
                show K (Act.put _ (some 85) v2) w6
                have HM6 := Lib.hid (HM.out.app2 ho1 hB1 hg1)
                refine hK.out _ _ ?_
                clear hK K ho1 hB1 hg1 hat1 HM HT HL2
                refine norm_ (a' := ?_) ?_ ?_
                rotate_left
                · simp only [Act.put, List.setIfInBounds_toArray, List.set_cons_zero, List.set_cons_succ, i64_w, i32_w]
                  rfl
                refine pure_ (i := 8) (N := some 13) (v := ?_) (a' := ?_) #[true, true, true, true, true, true, true, true, true, false] rfl rfl (by kernel_rfl) (fun _ _ _ h => h) (Or.inl ⟨by rfl, ?_⟩) ?_ ?_
                rotate_left
                · intro w'
                  go_simp
                  with_reducible rfl
                rotate_left
                · simp only [Act.put, List.setIfInBounds_toArray, List.set_cons_zero, List.set_cons_succ, i64_w, i32_w]
                  rfl
                refine pure_ (i := 9) (N := some 14) (v := ?_) (a' := ?_) #[true, true, true, true, true, true, true, true, true, true] rfl rfl (by kernel_rfl) (fun _ _ _ h => h) (Or.inl ⟨by rfl, ?_⟩) ?_ ?_
                rotate_left
                · intro w'
                  go_simp
                  with_reducible rfl
                rotate_left
                · simp only [Act.put, List.setIfInBounds_toArray, List.set_cons_zero, List.set_cons_succ, i64_w, i32_w]
                  rfl
                refine done_ (by kernel_rfl) ?_
                go_wp2_with fail
                go_roundw
                case rel => exact ⟨_, _, x, _, _, (t :: y), _, acc ++ [((0 : Int), r)], rfl, rfl, by simp at hlen ⊢; omega, Lib.hid (by rw [List.map_append, List.map_append, ← Hss.out, ← Hts.out]; exact HM6.out), HEy2⟩
                case measure => simp [lenOf] <;> omega
              · skip
                refine value_ (v := .slice (some ⟨wa.heap.size, 0, none⟩) 1 1) (w1 := wa.alloc (.cells (tcells r) 32)) (by rfl) rfl ?_ ?_
                · go_simp
                  rfl
                have hbl := (Below.refl wa.heap.size wa).alloc (Nat.le_refl _) (.cells (tcells r) 32)
                have HM := Lib.hid (HM.out.below hbl)
                have HT := Lib.hid (blk_below HT.out hbl)
                have HL2 := Lib.hid (blk_new wa (.cells (tcells r) 32))
                refine hK.out _ _ (C7.of HT.out) (fun hHeld => ?_)
                clear hK K hbl
                refine norm_ (a' := ?_) ?_ ?_
                rotate_left
                · simp only [Act.put, List.setIfInBounds_toArray, List.set_cons_zero, List.set_cons_succ, i64_w, i32_w]
                  rfl
                have HL1 := Lib.hid (blk_below HL1.out ((Below.refl wa.heap.size wa).alloc (Nat.le_refl _) (.cells (tcells r) 32)))
                generalize wa.alloc (.cells (tcells r) 32) = wc at *
                generalize wa.heap.size = g2 at *
                refine one_ (i := 3) (N := some 81) #[true, true, true, true, true, true, true, false, false, false] rfl rfl (by kernel_rfl) (by decide) (fun K hK => ?_)
                generalize hwa : wc = wa at *
                clear hwa
                refine Kd.R_append_rows_step (Kd.int .i64) (Rr := (Kd.int .i64).K wa) (w0 := wa) w3.heap.size (by rfl) (.tmp 78) (.tmp 80) 64 3 (.int .i64 0) 8 rfl Try.underlying64 info3 rfl (by decide) (by omega) u13 ss [0] (some ⟨g1, 0, none⟩) 1 1 (fun _ => True) (fun _ => False) rfl rfl HM.out.sd (C_one3 HL1.out) ?aK (fun _ hk => hk.elim) (fun _ _ => trivial) (fr_self HM.out.fr) HM.out.fr.size (by have := Hlen.out; omega) ?_
                case aK => exact fun y cs h => h
                intro v1 w5 ho1 hB1 hg1 hat1
                show K (Act.put _ (some 81) v1) w5
                have HT5 := Lib.hid (blk_grown HT.out hg1 (Kd.R_ne HM.out.sd HT.out (by decide)))
                have HM5 := Lib.hid (HM.out.app1 ho1 hB1 hg1)
                refine hK.out _ _ (C7.of HT5.out) (fun hHeld => ?_)
                have HL2 := Lib.hid (blk_grown HL2.out hg1 (Kd.R_ne HM.out.sd HL2.out (by decide)))
                clear hK K ho1 hB1 hg1 hat1 HM HT HL1
                refine norm_ (a' := ?_) ?_ ?_
                rotate_left
                · simp only [Act.put, List.setIfInBounds_toArray, List.set_cons_zero, List.set_cons_succ, i64_w, i32_w]
                  rfl
                have HM := HM5
                have HT := HT5
                have Hlen : Hid ((ss ++ [(0 : Int)]).length ≤ 2001 ∧ ts.length ≤ 2000) := Lib.hid (by have := Hlen.out; simp; omega)
                clear HM5 HT5
                generalize hwb : w5 = wb at *
                clear hwb
                refine last_ (i := 7) (N := some 85) #[true, true, true, true, true, true, true, true, false, false] rfl rfl (by kernel_rfl) (by decide) (fun K hK => ?_)
                refine Kd.R_append_rows_step k32 (Rr := k32.K wb) (w0 := wb) w3.heap.size (by rfl) (.tmp 82) (.tmp 84) 47 32 (.agg #[.string ByteArray.empty, .int .i64 0, .int .i64 0, .int .i64 0, .int .i64 0, .int .i64 0, .int .i64 0]) 64 rfl Try.underlying47 info32 rfl (by decide) (by omega) u14 ts [r] (some ⟨g2, 0, none⟩) 1 1 (fun _ => True) (fun _ => False) rfl rfl HM.out.ot (C_one32 HL2.out) ?aK (fun _ hk => hk.elim) (fun _ _ => trivial) (fr_self HM.out.fr) HM.out.fr.size (by have := Hlen.out; omega) ?_
                case aK => exact fun y cs h => by obtain rfl := k32_open h; exact k32_mkM _ _ _ y
                intro v2 w6 ho1 hB1 hg1 hat1
                show K (Act.put _ (some 85) v2) w6
                have HM6 := Lib.hid (HM.out.app2 ho1 hB1 hg1)
                refine hK.out _ _ ?_
                clear hK K ho1 hB1 hg1 hat1 HM HT HL2
                refine norm_ (a' := ?_) ?_ ?_
                rotate_left
                · simp only [Act.put, List.setIfInBounds_toArray, List.set_cons_zero, List.set_cons_succ, i64_w, i32_w]
                  rfl
                refine pure_ (i := 8) (N := some 13) (v := ?_) (a' := ?_) #[true, true, true, true, true, true, true, true, true, false] rfl rfl (by kernel_rfl) (fun _ _ _ h => h) (Or.inl ⟨by rfl, ?_⟩) ?_ ?_
                rotate_left
                · intro w'
                  go_simp
                  with_reducible rfl
                rotate_left
                · simp only [Act.put, List.setIfInBounds_toArray, List.set_cons_zero, List.set_cons_succ, i64_w, i32_w]
                  rfl
                refine pure_ (i := 9) (N := some 14) (v := ?_) (a' := ?_) #[true, true, true, true, true, true, true, true, true, true] rfl rfl (by kernel_rfl) (fun _ _ _ h => h) (Or.inl ⟨by rfl, ?_⟩) ?_ ?_
                rotate_left
                · intro w'
                  go_simp
                  with_reducible rfl
                rotate_left
                · simp only [Act.put, List.setIfInBounds_toArray, List.set_cons_zero, List.set_cons_succ, i64_w, i32_w]
                  rfl
                refine done_ (by kernel_rfl) ?_
                go_wp2_with fail
                go_roundw
                case rel => exact ⟨_, _, x, _, _, (t :: y), _, acc ++ [((0 : Int), r)], rfl, rfl, by simp at hlen ⊢; omega, Lib.hid (by rw [List.map_append, List.map_append, ← Hss.out, ← Hts.out]; exact HM6.out), HEy2⟩
                case measure => simp [lenOf] <;> omega
            · skip
              refine value_ (v := .slice (some ⟨w4.heap.size, 0, none⟩) 1 1) (w1 := w4.alloc (.cells (tcells r) 32)) (by rfl) rfl ?_ ?_
              · go_simp
                rfl
              have hbl := (Below.refl w4.heap.size w4).alloc (Nat.le_refl _) (.cells (tcells r) 32)
              have HM := Lib.hid (HM.out.below hbl)
              have HT := Lib.hid (blk_below HT.out hbl)
              have HL2 := Lib.hid (blk_new w4 (.cells (tcells r) 32))
              refine hK.out _ _ (C7.of HT.out) (fun hHeld => ?_)
              clear hK K hbl
              refine norm_ (a' := ?_) ?_ ?_
              rotate_left
              · simp only [Act.put, List.setIfInBounds_toArray, List.set_cons_zero, List.set_cons_succ, i64_w, i32_w]
                rfl
              generalize w4.alloc (.cells (tcells r) 32) = wa at *
              generalize w4.heap.size = g2 at *
              refine one_ (i := 2) (N := some 80) #[true, true, true, false, true, true, true, false, false, false] rfl rfl (by kernel_rfl) (by decide) (fun K hK => ?_)
              refine value_ (v := .slice (some ⟨wa.heap.size, 0, none⟩) 1 1) (w1 := wa.alloc (.cells #[.int .i64 0] 3)) (by rfl) rfl ?_ ?_
              · go_simp
              have hbl := (Below.refl wa.heap.size wa).alloc (Nat.le_refl _) (.cells #[.int .i64 0] 3)
              have HM := Lib.hid (HM.out.below hbl)
              have HT := Lib.hid (blk_below HT.out hbl)
              have HL1 := Lib.hid (blk_new wa (.cells #[.int .i64 0] 3))
              refine hK.out _ _ (C7.of HT.out) (fun hHeld => ?_)
              clear hK K hbl
              refine norm_ (a' := ?_) ?_ ?_
              rotate_left
              · simp only [Act.put, List.setIfInBounds_toArray, List.set_cons_zero, List.set_cons_succ, i64_w, i32_w]
                rfl
              have HL2 := Lib.hid (blk_below HL2.out ((Below.refl wa.heap.size wa).alloc (Nat.le_refl _) (.cells #[.int .i64 0] 3)))
              generalize wa.alloc (.cells #[.int .i64 0] 3) = wc at *
              generalize wa.heap.size = g1 at *
              refine one_ (i := 3) (N := some 81) #[true, true, true, true, true, true, true, false, false, false] rfl rfl (by kernel_rfl) (by decide) (fun K hK => ?_)
              generalize hwa : wc = wa at *
              clear hwa
              refine Kd.R_append_rows_step (Kd.int .i64) (Rr := (Kd.int .i64).K wa) (w0 := wa) w3.heap.size (by rfl) (.tmp 78) (.tmp 80) 64 3 (.int .i64 0) 8 rfl Try.underlying64 info3 rfl (by decide) (by omega) u13 ss [0] (some ⟨g1, 0, none⟩) 1 1 (fun _ => True) (fun _ => False) rfl rfl HM.out.sd (C_one3 HL1.out) ?aK (fun _ hk => hk.elim) (fun _ _ => trivial) (fr_self HM.out.fr) HM.out.fr.size (by have := Hlen.out; omega) ?_
              case aK => exact fun y cs h => h
              intro v1 w5 ho1 hB1 hg1 hat1
              show K (Act.put _ (some 81) v1) w5
              have HT5 := Lib.hid (blk_grown HT.out hg1 (Kd.R_ne HM.out.sd HT.out (by decide)))
              have HM5 := Lib.hid (HM.out.app1 ho1 hB1 hg1)
              refine hK.out _ _ (C7.of HT5.out) (fun hHeld => ?_)
              have HL2 := Lib.hid (blk_grown HL2.out hg1 (Kd.R_ne HM.out.sd HL2.out (by decide)))
              clear hK K ho1 hB1 hg1 hat1 HM HT HL1
              refine norm_ (a' := ?_) ?_ ?_
              rotate_left
              · simp only [Act.put, List.setIfInBounds_toArray, List.set_cons_zero, List.set_cons_succ, i64_w, i32_w]
                rfl
              have HM := HM5
              have HT := HT5
              have Hlen : Hid ((ss ++ [(0 : Int)]).length ≤ 2001 ∧ ts.length ≤ 2000) := Lib.hid (by have := Hlen.out; simp; omega)
              clear HM5 HT5
              generalize hwb : w5 = wb at *
              clear hwb
              refine last_ (i := 7) (N := some 85) #[true, true, true, true, true, true, true, true, false, false] rfl rfl (by kernel_rfl) (by decide) (fun K hK => ?_)
              refine Kd.R_append_rows_step k32 (Rr := k32.K wb) (w0 := wb) w3.heap.size (by rfl) (.tmp 82) (.tmp 84) 47 32 (.agg #[.string ByteArray.empty, .int .i64 0, .int .i64 0, .int .i64 0, .int .i64 0, .int .i64 0, .int .i64 0]) 64 rfl Try.underlying47 info32 rfl (by decide) (by omega) u14 ts [r] (some ⟨g2, 0, none⟩) 1 1 (fun _ => True) (fun _ => False) rfl rfl HM.out.ot (C_one32 HL2.out) ?aK (fun _ hk => hk.elim) (fun _ _ => trivial) (fr_self HM.out.fr) HM.out.fr.size (by have := Hlen.out; omega) ?_
              case aK => exact fun y cs h => by obtain rfl := k32_open h; exact k32_mkM _ _ _ y
              intro v2 w6 ho1 hB1 hg1 hat1
              show K (Act.put _ (some 85) v2) w6
              have HM6 := Lib.hid (HM.out.app2 ho1 hB1 hg1)
              refine hK.out _ _ ?_
              clear hK K ho1 hB1 hg1 hat1 HM HT HL2
              refine norm_ (a' := ?_) ?_ ?_
              rotate_left
              · simp only [Act.put, List.setIfInBounds_toArray, List.set_cons_zero, List.set_cons_succ, i64_w, i32_w]
                rfl
              refine pure_ (i := 8) (N := some 13) (v := ?_) (a' := ?_) #[true, true, true, true, true, true, true, true, true, false] rfl rfl (by kernel_rfl) (fun _ _ _ h => h) (Or.inl ⟨by rfl, ?_⟩) ?_ ?_
              rotate_left
              · intro w'
                go_simp
                with_reducible rfl
              rotate_left
              · simp only [Act.put, List.setIfInBounds_toArray, List.set_cons_zero, List.set_cons_succ, i64_w, i32_w]
                rfl
              refine pure_ (i := 9) (N := some 14) (v := ?_) (a' := ?_) #[true, true, true, true, true, true, true, true, true, true] rfl rfl (by kernel_rfl) (fun _ _ _ h => h) (Or.inl ⟨by rfl, ?_⟩) ?_ ?_
              rotate_left
              · intro w'
                go_simp
                with_reducible rfl
              rotate_left
              · simp only [Act.put, List.setIfInBounds_toArray, List.set_cons_zero, List.set_cons_succ, i64_w, i32_w]
                rfl
              refine done_ (by kernel_rfl) ?_
              go_wp2_with fail
              go_roundw
              case rel => exact ⟨_, _, x, _, _, (t :: y), _, acc ++ [((0 : Int), r)], rfl, rfl, by simp at hlen ⊢; omega, Lib.hid (by rw [List.map_append, List.map_append, ← Hss.out, ← Hts.out]; exact HM6.out), HEy2⟩
              case measure => simp [lenOf] <;> omega
          · have HEn2 := Lib.hid (HEn.out htk)
            clear HEn HEy
            have HTK := Lib.hid (take_no r gl left ws HMs.out.blk htk)
            clear htk
            go_wp2_with fail
            refine HTK.out.mono ?_
            rintro e wt ⟨rfl, hb⟩
            have HM := Lib.hid (HMs.out.below hb)
            clear hb HTK HMs HTs hz0 hz1 hz2 hz3 hz4 hz5 hz6
            go_wp2_with fail
            go_roundw
            case rel => exact ⟨_, _, x, _, _, (t :: y), _, acc, rfl, rfl, by simp at hlen ⊢; omega, HM, HEn2⟩
            case measure => simp [lenOf] <;> omega
        · have hd : decide (cmpT r t ≤ 0) = false := decide_eq_false hle
          have hpk : Hid (pick (r :: x) (t :: y) = some (1, t, r :: x, y)) := Lib.hid (by simp only [pick]; rw [if_neg hle])
          clear hle
          have q1 : (((y.length : Int) + 1) == 0) = false := beq_eq_false_iff_ne.2 (by omega)
          have q2 : decide (0 < (x.length : Int) + 1) = true := decide_eq_true (by omega)
          have q3 : decide (0 < (x.length : Int) + 1 + ((y.length : Int) + 1)) = true := decide_eq_true (by omega)
          go_wp2_with fail
          have Hbz : Hid (Below wr.heap.size wr (wr.alloc (.cells #[.string ⟨#[]⟩, .int .i64 0, .int .i64 0, .int .i64 0, .int .i64 0, .int .i64 0, .int .i64 0] 32)).drew) := Lib.hid (below_drew ((Below.refl wr.heap.size wr).alloc (Nat.le_refl _) _))
          have HTz : Hid ((wr.alloc (.cells #[.string ⟨#[]⟩, .int .i64 0, .int .i64 0, .int .i64 0, .int .i64 0, .int .i64 0, .int .i64 0] 32)).drew.heap[wr.heap.size]? = some (.cells #[.string ⟨#[]⟩, .int .i64 0, .int .i64 0, .int .i64 0, .int .i64 0, .int .i64 0, .int .i64 0] 32 (0, 0))) := Lib.hid (blk_new wr _)
          refine start_ (n := 18) (S := fun W => CA W adx r ∧ CA W ady t) (ds := []) #[false, false, false, false, false, false, false, false, false, false, false, false, false, false, false, false, false, false] (by kernel_rfl) rfl rfl ⟨HHx.out _ Hbz.out, HHy.out _ Hbz.out⟩ (fun hHeld => ?_)
          generalize (wr.alloc (.cells #[.string ⟨#[]⟩, .int .i64 0, .int .i64 0, .int .i64 0, .int .i64 0, .int .i64 0, .int .i64 0] 32)).drew = wz at *
          refine pure_ (i := 0) (N := some 47) (v := ?_) (a' := ?_) #[true, false, false, false, false, false, false, false, false, false, false, false, false, false, false, false, false, false] rfl rfl (by kernel_rfl) (fun _ _ _ h => h) (Or.inl ⟨by rfl, ?_⟩) ?_ ?_
          rotate_left
          · intro w'
            go_simp
            with_reducible rfl
          rotate_left
          · simp only [Act.put, List.setIfInBounds_toArray, List.set_cons_zero, List.set_cons_succ, i64_w, i32_w]
            rfl
          refine pure_ (i := 1) (N := some 48) (v := ?_) (a' := ?_) #[true, true, false, false, false, false, false, false, false, false, false, false, false, false, false, false, false, false] rfl rfl (by kernel_rfl) (fun _ _ _ h => h) (Or.inl ⟨by rfl, ?_⟩) ?_ ?_
          rotate_left
          · intro w'
            go_simp
            with_reducible rfl
          rotate_left
          · simp only [Act.put, List.setIfInBounds_toArray, List.set_cons_zero, List.set_cons_succ, i64_w, i32_w]
            rfl
          refine pure_ (i := 2) (N := some 49) (v := ?_) (a' := ?_) #[true, true, true, false, false, false, false, false, false, false, false, false, false, false, false, false, false, false] rfl rfl (by kernel_rfl) (fun _ _ _ h => h) (Or.inl ⟨by rfl, ?_⟩) ?_ ?_
          rotate_left
          · intro w'
            go_simp
            with_reducible rfl
          rotate_left
          · simp only [Act.put, List.setIfInBounds_toArray, List.set_cons_zero, List.set_cons_succ, i64_w, i32_w]
            rfl
          refine pure_ (i := 3) (N := some 50) (v := ?_) (a' := ?_) #[true, true, true, true, false, false, false, false, false, false, false, false, false, false, false, false, false, false] rfl rfl (by kernel_rfl) (fun _ _ _ h => h) (Or.inl ⟨by rfl, ?_⟩) ?_ ?_
          rotate_left
          · intro w'
            go_simp
            with_reducible rfl
          rotate_left
          · simp only [Act.put, List.setIfInBounds_toArray, List.set_cons_zero, List.set_cons_succ, i64_w, i32_w]
            rfl
          refine pure_ (i := 4) (N := some 51) (v := ?_) (a' := ?_) #[true, true, true, true, true, false, false, false, false, false, false, false, false, false, false, false, false, false] rfl rfl (by kernel_rfl) (fun _ _ _ h => h) (Or.inl ⟨by rfl, ?_⟩) ?_ ?_
          rotate_left
          · intro w'
            go_simp
            with_reducible rfl
          rotate_left
          · simp only [Act.put, List.setIfInBounds_toArray, List.set_cons_zero, List.set_cons_succ, i64_w, i32_w]
            rfl
          refine pure_ (i := 5) (N := some 52) (v := ?_) (a' := ?_) #[true, true, true, true, true, true, false, false, false, false, false, false, false, false, false, false, false, false] rfl rfl (by kernel_rfl) (fun _ _ _ h => h) (Or.inl ⟨by rfl, ?_⟩) ?_ ?_
          rotate_left
          · intro w'
            go_simp
            with_reducible rfl
          rotate_left
          · simp only [Act.put, List.setIfInBounds_toArray, List.set_cons_zero, List.set_cons_succ, i64_w, i32_w]
            rfl
          refine pure_ (i := 6) (N := some 53) (v := ?_) (a' := ?_) #[true, true, true, true, true, true, true, false, false, false, false, false, false, false, false, false, false, false] rfl rfl (by kernel_rfl) (fun _ _ _ h => h) (Or.inl ⟨by rfl, ?_⟩) ?_ ?_
          rotate_left
          · intro w'
            go_simp
            with_reducible rfl
          rotate_left
          · simp only [Act.put, List.setIfInBounds_toArray, List.set_cons_zero, List.set_cons_succ, i64_w, i32_w]
            rfl
          refine pure_ (i := 7) (N := some 54) (v := ?_) (a' := ?_) #[true, true, true, true, true, true, true, true, false, false, false, false, false, false, false, false, false, false] rfl rfl (by kernel_rfl) (fun _ _ _ h => h) (Or.inl ⟨by rfl, ?_⟩) ?_ ?_
          rotate_left
          · intro w'
            go_simp
            with_reducible rfl
          rotate_left
          · simp only [Act.put, List.setIfInBounds_toArray, List.set_cons_zero, List.set_cons_succ, i64_w, i32_w]
            rfl
          refine pure_ (i := 8) (N := some 55) (v := ?_) (a' := ?_) #[true, true, true, true, true, true, true, true, true, false, false, false, false, false, false, false, false, false] rfl rfl (by kernel_rfl) (fun _ _ _ h => h) (Or.inl ⟨by rfl, ?_⟩) ?_ ?_
          rotate_left
          · intro w'
            go_simp
            with_reducible rfl
          rotate_left
          · simp only [Act.put, List.setIfInBounds_toArray, List.set_cons_zero, List.set_cons_succ, i64_w, i32_w]
            rfl
          refine pure_ (i := 9) (N := some 56) (v := ?_) (a' := ?_) #[true, true, true, true, true, true, true, true, true, true, false, false, false, false, false, false, false, false] rfl rfl (by kernel_rfl) (fun _ _ _ h => h) (Or.inl ⟨by rfl, ?_⟩) ?_ ?_
          rotate_left
          · intro w'
            go_simp
            with_reducible rfl
          rotate_left
          · simp only [Act.put, List.setIfInBounds_toArray, List.set_cons_zero, List.set_cons_succ, i64_w, i32_w]
            rfl
          refine take_ (i := 10) (N := some 57) (v := ?_) (a' := ?_) #[true, true, true, true, true, true, true, true, true, true, true, false, false, false, false, false, false, false] rfl rfl (by kernel_rfl) (fun _ _ _ h => h) (Or.inl ⟨by rfl, ?_⟩) hHeld ?_ ?_
          rotate_left
          · rintro w' ⟨⟨s0, s1, s2, s3, s4, s5, s6⟩, ⟨t0, t1, t2, t3, t4, t5, t6⟩⟩
            go_simp
            with_reducible rfl
          rotate_left
          · simp only [Act.put, List.setIfInBounds_toArray, List.set_cons_zero, List.set_cons_succ, i64_w, i32_w]
            rfl
          refine pure_ (i := 11) (N := some 58) (v := ?_) (a' := ?_) #[true, true, true, true, true, true, true, true, true, true, true, true, false, false, false, false, false, false] rfl rfl (by kernel_rfl) (fun _ _ _ h => h) (Or.inl ⟨by rfl, ?_⟩) ?_ ?_
          rotate_left
          · intro w'
            go_simp
            with_reducible rfl
          rotate_left
          · simp only [Act.put, List.setIfInBounds_toArray, List.set_cons_zero, List.set_cons_succ, i64_w, i32_w]
            rfl
          refine pure_ (i := 12) (N := some 59) (v := ?_) (a' := ?_) #[true, true, true, true, true, true, true, true, true, true, true, true, true, false, false, false, false, false] rfl rfl (by kernel_rfl) (fun _ _ _ h => h) (Or.inl ⟨by rfl, ?_⟩) ?_ ?_
          rotate_left
          · intro w'
            go_simp
            with_reducible rfl
          rotate_left
          · simp only [Act.put, List.setIfInBounds_toArray, List.set_cons_zero, List.set_cons_succ, i64_w, i32_w]
            rfl
          refine take_ (i := 13) (N := some 60) (v := ?_) (a' := ?_) #[true, true, true, true, true, true, true, true, true, true, true, true, true, true, false, false, false, false] rfl rfl (by kernel_rfl) (fun _ _ _ h => h) (Or.inl ⟨by rfl, ?_⟩) hHeld ?_ ?_
          rotate_left
          · rintro w' ⟨⟨s0, s1, s2, s3, s4, s5, s6⟩, ⟨t0, t1, t2, t3, t4, t5, t6⟩⟩
            go_simp
            with_reducible rfl
          rotate_left
          · simp only [Act.put, List.setIfInBounds_toArray, List.set_cons_zero, List.set_cons_succ, i64_w, i32_w]
            rfl
          refine one_ (i := 14) (N := some 61) #[true, true, true, true, true, true, true, true, true, true, true, true, true, true, true, false, false, false] rfl rfl (by kernel_rfl) (by decide) (fun K hK => ?_)
          refine goes_ Try.func23 (by kernel_rfl) rfl #[.agg (tcells r), .agg (tcells t)] (by rfl) rfl rfl (by (try simp only [List.map_toArray, List.map_cons, List.map_nil]); first | done | rfl) ?_
          refine (Compare_calls r t _).mono ?_
          rintro e wq ⟨rfl, hb⟩
          have hbq : Below wr.heap.size wr wq := Hbz.out.trans (hb.mono Hbz.out.size)
          have HT := Lib.hid (blk_below HTz.out hb)
          refine ⟨_, rfl, hK.out _ _ ⟨HHx.out _ hbq, HHy.out _ hbq⟩ (fun hHeld => ?_)⟩
          clear hK K hb Hbz HTz
          refine norm_ (a' := ?_) ?_ ?_
          rotate_left
          · simp only [Act.put, List.setIfInBounds_toArray, List.set_cons_zero, List.set_cons_succ, i64_w, i32_w]
            rfl
          refine pure_ (i := 15) (N := some 62) (v := ?_) (a' := ?_) #[true, true, true, true, true, true, true, true, true, true, true, true, true, true, true, true, false, false] rfl rfl (by kernel_rfl) (fun _ _ _ h => h) (Or.inl ⟨by rfl, ?_⟩) ?_ ?_
          rotate_left
          · intro w'
            go_simp
            with_reducible rfl
          rotate_left
          · simp only [Act.put, List.setIfInBounds_toArray, List.set_cons_zero, List.set_cons_succ, i64_w, i32_w]
            rfl
          refine pure_ (i := 16) (N := some 63) (v := ?_) (a' := ?_) #[true, true, true, true, true, true, true, true, true, true, true, true, true, true, true, true, true, false] rfl rfl (by kernel_rfl) (fun _ _ _ h => h) (Or.inl ⟨by rfl, ?_⟩) ?_ ?_
          rotate_left
          · intro w'
            go_simp
            with_reducible rfl
          rotate_left
          · simp only [Act.put, List.setIfInBounds_toArray, List.set_cons_zero, List.set_cons_succ, i64_w, i32_w]
            rfl
          refine pure_ (i := 17) (N := some 64) (v := ?_) (a' := ?_) #[true, true, true, true, true, true, true, true, true, true, true, true, true, true, true, true, true, true] rfl rfl (by kernel_rfl) (fun _ _ _ h => h) (Or.inl ⟨by rfl, ?_⟩) ?_ ?_
          rotate_left
          · intro w'
            go_simp
            with_reducible rfl
          rotate_left
          · simp only [Act.put, List.setIfInBounds_toArray, List.set_cons_zero, List.set_cons_succ, i64_w, i32_w]
            rfl
          refine done_ (by kernel_rfl) ?_
          clear hHeld
          go_wp2_with fail
          have Hgt : Hid (w3.heap.size ≤ wr.heap.size) := Lib.hid HMr.out.fr.size
          have HMq := Lib.hid (HMr.out.below hbq)
          have HHq := Lib.hid (HHy.out _ hbq)
          have Hne : Hid (some wr.heap.size ≠ u14.ownBlock) := Lib.hid (fun e => by have := Kd.R_lt HMr.out.ot _ e.symm; omega)
          clear HMr HHx HHy hbq
          generalize wr.heap.size = gt at *
          have HVt := Lib.hid (HMq.out.vy t (by simp))
          clear hd
          have hsl : ∀ w, (Instr.slice 47 (.slice (some ady) (y.length + 1) cy) (some (.int .i64 1)) none none).run Try.prog w = .ok (.slice (tl ady cy) y.length (cy - 1)) w := run_tail ady y.length cy hcy
          refine start_ (n := 8) (S := fun W => (W.cell? ady = some (.string t.f0.f0) ∧ W.cell? ⟨ady.block, ady.off + 1, none⟩ = some (.int .i64 t.f0.f1) ∧ W.cell? ⟨ady.block, ady.off + 2, none⟩ = some (.int .i64 t.f1) ∧ W.cell? ⟨ady.block, ady.off + 3, none⟩ = some (.int .i64 t.f2) ∧ W.cell? ⟨ady.block, ady.off + 4, none⟩ = some (.int .i64 t.f3.f0) ∧ W.cell? ⟨ady.block, ady.off + 5, none⟩ = some (.int .i64 t.f3.f1) ∧ W.cell? ⟨ady.block, ady.off + 6, none⟩ = some (.int .i64 t.f4))) (ds := [6]) #[false, false, false, false, false, false, false, false] (by kernel_rfl) rfl rfl HHq.out (fun hHeld => ?_)
          have HMd := Lib.hid (HMq.out.below (below_drew (Below.refl _ _)))
          have HTd : Hid (wq.drew.heap[gt]? = _) := Lib.hid HT.out
          clear HMq HHq HT
          generalize wq.drew = wd at *
          refine pure_ (i := 0) (N := some 70) (v := ?_) (a' := ?_) #[true, false, false, false, false, false, false, false] rfl rfl (by kernel_rfl) (fun _ _ _ h => h) (Or.inl ⟨by rfl, ?_⟩) ?_ ?_
          rotate_left
          · intro w'
            go_simp
            with_reducible rfl
          rotate_left
          · simp only [Act.put, List.setIfInBounds_toArray, List.set_cons_zero, List.set_cons_succ, i64_w, i32_w]
            rfl
          refine pure_ (i := 1) (N := some 71) (v := ?_) (a' := ?_) #[true, true, false, false, false, false, false, false] rfl rfl (by kernel_rfl) (fun _ _ _ h => h) (Or.inl ⟨by rfl, ?_⟩) ?_ ?_
          rotate_left
          · intro w'
            go_simp
            with_reducible rfl
          rotate_left
          · simp only [Act.put, List.setIfInBounds_toArray, List.set_cons_zero, List.set_cons_succ, i64_w, i32_w]
            rfl
          refine take_ (i := 2) (N := some 72) (v := ?_) (a' := ?_) #[true, true, true, false, false, false, false, false] rfl rfl (by kernel_rfl) (fun _ _ _ h => h) (Or.inl ⟨by rfl, ?_⟩) hHeld ?_ ?_
          rotate_left
          · rintro w' ⟨s0, s1, s2, s3, s4, s5, s6⟩
            go_simp
            with_reducible rfl
          rotate_left
          · simp only [Act.put, List.setIfInBounds_toArray, List.set_cons_zero, List.set_cons_succ, i64_w, i32_w]
            rfl
          refine pure_ (i := 3) (N := some 73) (v := ?_) (a' := ?_) #[true, true, true, true, false, false, false, false] rfl rfl (by kernel_rfl) (fun _ _ _ h => h) (Or.inl ⟨by rfl, ?_⟩) ?_ ?_
          rotate_left
          · intro w'
            go_simp
            with_reducible rfl
          rotate_left
          · simp only [Act.put, List.setIfInBounds_toArray, List.set_cons_zero, List.set_cons_succ, i64_w, i32_w]
            rfl
          refine pure_ (i := 4) (N := some 74) (v := ?_) (a' := ?_) #[true, true, true, true, true, false, false, false] rfl rfl (by kernel_rfl) (fun _ _ _ h => h) (Or.inl ⟨by rfl, ?_⟩) ?_ ?_
          rotate_left
          · intro w'
            go_simp
            with_reducible rfl
          rotate_left
          · simp only [Act.put, List.setIfInBounds_toArray, List.set_cons_zero, List.set_cons_succ, i64_w, i32_w]
            rfl
          refine pure_ (i := 5) (N := some 16) (v := ?_) (a' := ?_) #[true, true, true, true, true, true, false, false] rfl rfl (by kernel_rfl) (fun _ _ _ h => h) (Or.inl ⟨by rfl, ?_⟩) ?_ ?_
          rotate_left
          · intro w'
            go_simp
            with_reducible rfl
          rotate_left
          · simp only [Act.put, List.setIfInBounds_toArray, List.set_cons_zero, List.set_cons_succ, i64_w, i32_w]
            rfl
          clear hsl
          have hf0 : wd.frozen? ⟨gt, 0, none⟩ = false := blk_frozen HTd.out 0
          have hf1 : wd.frozen? ⟨gt, 1, none⟩ = false := blk_frozen HTd.out 1
          have hf2 : wd.frozen? ⟨gt, 2, none⟩ = false := blk_frozen HTd.out 2
          have hf3 : wd.frozen? ⟨gt, 3, none⟩ = false := blk_frozen HTd.out 3
          have hf4 : wd.frozen? ⟨gt, 4, none⟩ = false := blk_frozen HTd.out 4
          have hf5 : wd.frozen? ⟨gt, 5, none⟩ = false := blk_frozen HTd.out 5
          have hf6 : wd.frozen? ⟨gt, 6, none⟩ = false := blk_frozen HTd.out 6
          have hz0 : wd.cell? ⟨gt, 0, none⟩ = some (.string ⟨#[]⟩) := (blk_cell HTd.out 0).trans rfl
          have hz1 : wd.cell? ⟨gt, 1, none⟩ = some (.int .i64 0) := (blk_cell HTd.out 1).trans rfl
          have hz2 : wd.cell? ⟨gt, 2, none⟩ = some (.int .i64 0) := (blk_cell HTd.out 2).trans rfl
          have hz3 : wd.cell? ⟨gt, 3, none⟩ = some (.int .i64 0) := (blk_cell HTd.out 3).trans rfl
          have hz4 : wd.cell? ⟨gt, 4, none⟩ = some (.int .i64 0) := (blk_cell HTd.out 4).trans rfl
          have hz5 : wd.cell? ⟨gt, 5, none⟩ = some (.int .i64 0) := (blk_cell HTd.out 5).trans rfl
          have hz6 : wd.cell? ⟨gt, 6, none⟩ = some (.int .i64 0) := (blk_cell HTd.out 6).trans rfl
          clear hHeld
          refine last_ (i := 6) (N := none) #[true, true, true, true, true, true, true, false] rfl rfl (by kernel_rfl) (by decide) (fun K hK => ?_)
          refine skip_ (w1 := wd.setCells gt 0 (tcs t)) (by rfl) rfl ?_ ?_
          · unfold tcs
            go_simp
            rfl
          refine hK.out _ _ ?_
          clear hK K
          refine pure_ (i := 7) (N := some 11) (v := ?_) (a' := ?_) #[true, true, true, true, true, true, true, true] rfl rfl (by kernel_rfl) (fun _ _ _ h => h) (Or.inl ⟨by rfl, ?_⟩) ?_ ?_
          rotate_left
          · intro w'
            go_simp
            with_reducible rfl
          rotate_left
          · simp only [Act.put, List.setIfInBounds_toArray, List.set_cons_zero, List.set_cons_succ, i64_w, i32_w]
            rfl
          refine done_ (by kernel_rfl) ?_
          have HMs := Lib.hid (HMd.out.taily.store Hgt.out HTd.out Hne.out 0 (tcs t))
          have HEy : Hid (t.f1 ≤ left → (acc ++ [((1 : Int), t)]) ++ mt ((r :: x).length + y.length) (r :: x) y (left - t.f1) = res a b budget) := Lib.hid (fun h => by
            have e := HEr.out
            rw [show (r :: x).length + (t :: y).length = ((r :: x).length + y.length) + 1 from by simp only [List.length_cons]; omega, mt_yes hpk.out h] at e
            rw [← e, List.append_assoc]; rfl)
          have HEn : Hid (¬ t.f1 ≤ left → acc ++ mt ((r :: x).length + y.length) (r :: x) y left = res a b budget) := Lib.hid (fun h => by
            have e := HEr.out
            rw [show (r :: x).length + (t :: y).length = ((r :: x).length + y.length) + 1 from by simp only [List.length_cons]; omega, mt_no hpk.out h] at e
            exact e)
          have hcut : True := trivial
          clear HEr hpk
          have HTs : Hid ((wd.setCells gt 0 (tcs t)).heap[gt]? = _) := Lib.hid (blk_tcs HTd.out t)
          have hfoot := C7.of HTs.out
          obtain ⟨hz0, hz1, hz2, hz3, hz4, hz5, hz6⟩ := hfoot
          clear hf0 hf1 hf2 hf3 hf4 hf5 hf6 HTd HMd hcut
          generalize wd.setCells gt 0 (tcs t) = ws at *
          have Hgg : Hid (gt ≠ gl) := Lib.hid (by have := Hgt.out; have := HMs.out.gl; omega)
          have hlt0 := HVt.out.s0
          have hl0 := HMs.out.l0
          have hl1 := HMs.out.l1
          by_cases htk : t.f1 ≤ left
          · have HEy2 := Lib.hid (HEy.out htk)
            clear HEy HEn
            have HTK := Lib.hid (take_yes t gl left ws HMs.out.blk htk hlt0 hl1)
            go_wp2_with fail
            refine HTK.out.mono ?_
            rintro e wt ⟨rfl, hbk, hfr⟩
            have HM := Lib.hid (HMs.out.took hfr hbk (by omega) (by omega))
            have HT := Lib.hid ((hfr.block gt (blk_lt HTs.out) Hgg.out).trans HTs.out)
            clear hbk hfr HTK HMs HTs hz0 hz1 hz2 hz3 hz4 hz5 hz6
            obtain ⟨ss, hss⟩ : ∃ ss, ss = acc.map (·.1) := ⟨_, rfl⟩
            obtain ⟨ts, hts⟩ : ∃ ts, ts = acc.map (·.2) := ⟨_, rfl⟩
            have Hlen : Hid (ss.length ≤ 2000 ∧ ts.length ≤ 2000) := Lib.hid (by rw [hss, hts, List.length_map, List.length_map]; omega)
            rw [← hss, ← hts] at HM
            have Hss := Lib.hid hss
            have Hts := Lib.hid hts
            clear hss hts
            go_wp2_with fail
            have HM := Lib.hid (HM.out.below (below_drew (Below.refl _ _)))
            have HT : Hid (wt.drew.heap[gt]? = _) := Lib.hid HT.out
            refine start_ (n := 10) (S := fun W => C7 W gt t) (ds := [7]) #[false, false, false, false, false, false, false, false, false, false] (by kernel_rfl) rfl rfl (C7.of HT.out) (fun hHeld => ?_)
            generalize wt.drew = w4 at *
            refine pure_ (i := 0) (N := some 78) (v := ?_) (a' := ?_) #[true, false, false, false, false, false, false, false, false, false] rfl rfl (by kernel_rfl) (fun _ _ _ h => h) (Or.inl ⟨by rfl, ?_⟩) ?_ ?_
            rotate_left
            · intro w'
              go_simp
              with_reducible rfl
            rotate_left
            · simp only [Act.put, List.setIfInBounds_toArray, List.set_cons_zero, List.set_cons_succ, i64_w, i32_w]
              rfl
            refine pure_ (i := 1) (N := some 79) (v := ?_) (a' := ?_) #[true, true, false, false, false, false, false, false, false, false] rfl rfl (by kernel_rfl) (fun _ _ _ h => h) (Or.inl ⟨by rfl, ?_⟩) ?_ ?_
            rotate_left
            · intro w'
              go_simp
              with_reducible rfl
            rotate_left
            · simp only [Act.put, List.setIfInBounds_toArray, List.set_cons_zero, List.set_cons_succ, i64_w, i32_w]
              rfl
            refine pure_ (i := 4) (N := some 82) (v := ?_) (a' := ?_) #[true, true, false, false, true, false, false, false, false, false] rfl rfl (by kernel_rfl) (fun _ _ _ h => h) (Or.inl ⟨by rfl, ?_⟩) ?_ ?_
            rotate_left
            · intro w'
              go_simp
              with_reducible rfl
            rotate_left
            · simp only [Act.put, List.setIfInBounds_toArray, List.set_cons_zero, List.set_cons_succ, i64_w, i32_w]
              rfl
            refine take_ (i := 5) (N := some 83) (v := ?_) (a' := ?_) #[true, true, false, false, true, true, false, false, false, false] rfl rfl (by kernel_rfl) (fun _ _ _ h => h) (Or.inl ⟨by rfl, ?_⟩) hHeld ?_ ?_
            rotate_left
            · rintro w' ⟨s0, s1, s2, s3, s4, s5, s6⟩
              go_simp
              with_reducible rfl
            rotate_left
            · simp only [Act.put, List.setIfInBounds_toArray, List.set_cons_zero, List.set_cons_succ, i64_w, i32_w]
              rfl
            refine two_ (i := 2) (j := 6) (Ni := some 80) (Nj := some 84) #[true, true, true, false, true, true, false, false, false, false] #[true, true, false, false, true, true, true, false, false, false] rfl rfl rfl rfl (by kernel_rfl) (by decide) (by decide) (fun K hK => ?_) (fun K hK => ?_)
            · skip
              refine value_ (v := .slice (some ⟨w4.heap.size, 0, none⟩) 1 1) (w1 := w4.alloc (.cells #[.int .i64 1] 3)) (by rfl) rfl ?_ ?_
              · go_simp
              have hbl := (Below.refl w4.heap.size w4).alloc (Nat.le_refl _) (.cells #[.int .i64 1] 3)
              have HM := Lib.hid (HM.out.below hbl)
              have HT := Lib.hid (blk_below HT.out hbl)
              have HL1 := Lib.hid (blk_new w4 (.cells #[.int .i64 1] 3))
              refine hK.out _ _ (C7.of HT.out) (fun hHeld => ?_)
              clear hK K hbl
              refine norm_ (a' := ?_) ?_ ?_
              rotate_left
              · simp only [Act.put, List.setIfInBounds_toArray, List.set_cons_zero, List.set_cons_succ, i64_w, i32_w]
                rfl
              generalize w4.alloc (.cells #[.int .i64 1] 3) = wa at *
              generalize w4.heap.size = g1 at *
              refine two_ (i := 3) (j := 6) (Ni := some 81) (Nj := some 84) #[true, true, true, true, true, true, false, false, false, false] #[true, true, true, false, true, true, true, false, false, false] rfl rfl rfl rfl (by kernel_rfl) (by decide) (by decide) (fun K hK => ?_) (fun K hK => ?_)
              · skip
                refine Kd.R_append_rows_step (Kd.int .i64) (Rr := (Kd.int .i64).K wa) (w0 := wa) w3.heap.size (by rfl) (.tmp 78) (.tmp 80) 64 3 (.int .i64 0) 8 rfl Try.underlying64 info3 rfl (by decide) (by omega) u13 ss [1] (some ⟨g1, 0, none⟩) 1 1 (fun _ => True) (fun _ => False) rfl rfl HM.out.sd (C_one3 HL1.out) ?aK (fun _ hk => hk.elim) (fun _ _ => trivial) (fr_self HM.out.fr) HM.out.fr.size (by have := Hlen.out; omega) ?_
                case aK => exact fun y cs h => h
                intro v1 w5 ho1 hB1 hg1 hat1
                show K (Act.put _ (some 81) v1) w5
                have HT5 := Lib.hid (blk_grown HT.out hg1 (Kd.R_ne HM.out.sd HT.out (by decide)))
                have HM5 := Lib.hid (HM.out.app1 ho1 hB1 hg1)
                refine hK.out _ _ (C7.of HT5.out) (fun hHeld => ?_)
                clear hK K ho1 hB1 hg1 hat1 HM HT HL1
                refine norm_ (a' := ?_) ?_ ?_
                rotate_left
                · simp only [Act.put, List.setIfInBounds_toArray, List.set_cons_zero, List.set_cons_succ, i64_w, i32_w]
                  rfl
                have HM := HM5
                have HT := HT5
                have Hlen : Hid ((ss ++ [(1 : Int)]).length ≤ 2001 ∧ ts.length ≤ 2000) := Lib.hid (by have := Hlen.out; simp; omega)
                clear HM5 HT5
                refine one_ (i := 6) (N := some 84) #[true, true, true, true, true, true, true, false, false, false] rfl rfl (by kernel_rfl) (by decide) (fun K hK => ?_)
                refine value_ (v := .slice (some ⟨w5.heap.size, 0, none⟩) 1 1) (w1 := w5.alloc (.cells (tcells t) 32)) (by rfl) rfl ?_ ?_
                · go_simp
                  rfl
                have hbl := (Below.refl w5.heap.size w5).alloc (Nat.le_refl _) (.cells (tcells t) 32)
                have HM := Lib.hid (HM.out.below hbl)
                have HT := Lib.hid (blk_below HT.out hbl)
                have HL2 := Lib.hid (blk_new w5 (.cells (tcells t) 32))
                refine hK.out _ _ (C7.of HT.out) (fun hHeld => ?_)
                clear hK K hbl
                refine norm_ (a' := ?_) ?_ ?_
                rotate_left
                · simp only [Act.put, List.setIfInBounds_toArray, List.set_cons_zero, List.set_cons_succ, i64_w, i32_w]
                  rfl
                generalize w5.alloc (.cells (tcells t) 32) = wb at *
                generalize w5.heap.size = g2 at *
                refine last_ (i := 7) (N := some 85) #[true, true, true, true, true, true, true, true, false, false] rfl rfl (by kernel_rfl) (by decide) (fun K hK => ?_)
                refine Kd.R_append_rows_step k32 (Rr := k32.K wb) (w0 := wb) w3.heap.size (by rfl) (.tmp 82) (.tmp 84) 47 32 (.agg #[.string ByteArray.empty, .int .i64 0, .int .i64 0, .int .i64 0, .int .i64 0, .int .i64 0, .int .i64 0]) 64 rfl Try.underlying47 info32 rfl (by decide) (by omega) u14 ts [t] (some ⟨g2, 0, none⟩) 1 1 (fun _ => True) (fun _ => False) rfl rfl HM.out.ot (C_one32 HL2.out) ?aK (fun _ hk => hk.elim) (fun _ _ => trivial) (fr_self HM.out.fr) HM.out.fr.size (by have := Hlen.out; omega) ?_
                case aK => exact fun y cs h => by obtain rfl := k32_open h; exact k32_mkM _ _ _ y
                intro v2 w6 ho1 hB1 hg1 hat1
                show K (Act.put _ (some 85) v2) w6
                have HM6 := Lib.hid (HM.out.app2 ho1 hB1 hg1)
                refine hK.out _ _ ?_
                clear hK K ho1 hB1 hg1 hat1 HM HT HL2
                refine norm_ (a' := ?_) ?_ ?_
                rotate_left
                · simp only [Act.put, List.setIfInBounds_toArray, List.set_cons_zero, List.set_cons_succ, i64_w, i32_w]
                  rfl
                refine pure_ (i := 8) (N := some 13) (v := ?_) (a' := ?_) #[true, true, true, true, true, true, true, true, true, false] rfl rfl (by kernel_rfl) (fun _ _ _ h => h) (Or.inl ⟨by rfl, ?_⟩) ?_ ?_
                rotate_left
                · intro w'
                  go_simp
                  with_reducible rfl
                rotate_left
                · simp only [Act.put, List.setIfInBounds_toArray, List.set_cons_zero, List.set_cons_succ, i64_w, i32_w]
                  rfl
                refine pure_ (i := 9) (N := some 14) (v := ?_) (a' := ?_) #[true, true, true, true, true, true, true, true, true, true] rfl rfl (by kernel_rfl) (fun _ _ _ h => h) (Or.inl ⟨by rfl, ?_⟩) ?_ ?_
                rotate_left
                · intro w'
                  go_simp
                  with_reducible rfl
                rotate_left
                · simp only [Act.put, List.setIfInBounds_toArray, List.set_cons_zero, List.set_cons_succ, i64_w, i32_w]
                  rfl
                refine done_ (by kernel_rfl) ?_
                go_wp2_with fail
                go_roundw
                case rel => exact ⟨_, _, (r :: x), _, _, y, _, acc ++ [((1 : Int), t)], rfl, rfl, by simp at hlen ⊢; omega, Lib.hid (by rw [List.map_append, List.map_append, ← Hss.out, ← Hts.out]; exact HM6.out), HEy2⟩
                case measure => simp [lenOf] <;> omega
              · skip
                refine value_ (v := .slice (some ⟨wa.heap.size, 0, none⟩) 1 1) (w1 := wa.alloc (.cells (tcells t) 32)) (by rfl) rfl ?_ ?_
                · go_simp
                  rfl
                have hbl := (Below.refl wa.heap.size wa).alloc (Nat.le_refl _) (.cells (tcells t) 32)
                have HM := Lib.hid (HM.out.below hbl)
                have HT := Lib.hid (blk_below HT.out hbl)
                have HL2 := Lib.hid (blk_new wa (.cells (tcells t) 32))
                refine hK.out _ _ (C7.of HT.out) (fun hHeld => ?_)
                clear hK K hbl
                refine norm_ (a' := ?_) ?_ ?_
                rotate_left
                · simp only [Act.put, List.setIfInBounds_toArray, List.set_cons_zero, List.set_cons_succ, i64_w, i32_w]
                  rfl
                have HL1 := Lib.hid (blk_below HL1.out ((Below.refl wa.heap.size wa).alloc (Nat.le_refl _) (.cells (tcells t) 32)))
                generalize wa.alloc (.cells (tcells t) 32) = wc at *
                generalize wa.heap.size = g2 at *
                refine one_ (i := 3) (N := some 81) #[true, true, true, true, true, true, true, false, false, false] rfl rfl (by kernel_rfl) (by decide) (fun K hK => ?_)
                generalize hwa : wc = wa at *
                clear hwa
                refine Kd.R_append_rows_step (Kd.int .i64) (Rr := (Kd.int .i64).K wa) (w0 := wa) w3.heap.size (by rfl) (.tmp 78) (.tmp 80) 64 3 (.int .i64 0) 8 rfl Try.underlying64 info3 rfl (by decide) (by omega) u13 ss [1] (some ⟨g1, 0, none⟩) 1 1 (fun _ => True) (fun _ => False) rfl rfl HM.out.sd (C_one3 HL1.out) ?aK (fun _ hk => hk.elim) (fun _ _ => trivial) (fr_self HM.out.fr) HM.out.fr.size (by have := Hlen.out; omega) ?_
                case aK => exact fun y cs h => h
                intro v1 w5 ho1 hB1 hg1 hat1
                show K (Act.put _ (some 81) v1) w5
                have HT5 := Lib.hid (blk_grown HT.out hg1 (Kd.R_ne HM.out.sd HT.out (by decide)))
                have HM5 := Lib.hid (HM.out.app1 ho1 hB1 hg1)
                refine hK.out _ _ (C7.of HT5.out) (fun hHeld => ?_)
                have HL2 := Lib.hid (blk_grown HL2.out hg1 (Kd.R_ne HM.out.sd HL2.out (by decide)))
                clear hK K ho1 hB1 hg1 hat1 HM HT HL1
                refine norm_ (a' := ?_) ?_ ?_
                rotate_left
                · simp only [Act.put, List.setIfInBounds_toArray, List.set_cons_zero, List.set_cons_succ, i64_w, i32_w]
                  rfl
                have HM := HM5
                have HT := HT5
                have Hlen : Hid ((ss ++ [(1 : Int)]).length ≤ 2001 ∧ ts.length ≤ 2000) := Lib.hid (by have := Hlen.out; simp; omega)
                clear HM5 HT5
                generalize hwb : w5 = wb at *
                clear hwb
                refine last_ (i := 7) (N := some 85) #[true, true, true, true, true, true, true, true, false, false] rfl rfl (by kernel_rfl) (by decide) (fun K hK => ?_)
                refine Kd.R_append_rows_step k32 (Rr := k32.K wb) (w0 := wb) w3.heap.size (by rfl) (.tmp 82) (.tmp 84) 47 32 (.agg #[.string ByteArray.empty, .int .i64 0, .int .i64 0, .int .i64 0, .int .i64 0, .int .i64 0, .int .i64 0]) 64 rfl Try.underlying47 info32 rfl (by decide) (by omega) u14 ts [t] (some ⟨g2, 0, none⟩) 1 1 (fun _ => True) (fun _ => False) rfl rfl HM.out.ot (C_one32 HL2.out) ?aK (fun _ hk => hk.elim) (fun _ _ => trivial) (fr_self HM.out.fr) HM.out.fr.size (by have := Hlen.out; omega) ?_
                case aK => exact fun y cs h => by obtain rfl := k32_open h; exact k32_mkM _ _ _ y
                intro v2 w6 ho1 hB1 hg1 hat1
                show K (Act.put _ (some 85) v2) w6
                have HM6 := Lib.hid (HM.out.app2 ho1 hB1 hg1)
                refine hK.out _ _ ?_
                clear hK K ho1 hB1 hg1 hat1 HM HT HL2
                refine norm_ (a' := ?_) ?_ ?_
                rotate_left
                · simp only [Act.put, List.setIfInBounds_toArray, List.set_cons_zero, List.set_cons_succ, i64_w, i32_w]
                  rfl
                refine pure_ (i := 8) (N := some 13) (v := ?_) (a' := ?_) #[true, true, true, true, true, true, true, true, true, false] rfl rfl (by kernel_rfl) (fun _ _ _ h => h) (Or.inl ⟨by rfl, ?_⟩) ?_ ?_
                rotate_left
                · intro w'
                  go_simp
                  with_reducible rfl
                rotate_left
                · simp only [Act.put, List.setIfInBounds_toArray, List.set_cons_zero, List.set_cons_succ, i64_w, i32_w]
                  rfl
                refine pure_ (i := 9) (N := some 14) (v := ?_) (a' := ?_) #[true, true, true, true, true, true, true, true, true, true] rfl rfl (by kernel_rfl) (fun _ _ _ h => h) (Or.inl ⟨by rfl, ?_⟩) ?_ ?_
                rotate_left
                · intro w'
                  go_simp
                  with_reducible rfl
                rotate_left
                · simp only [Act.put, List.setIfInBounds_toArray, List.set_cons_zero, List.set_cons_succ, i64_w, i32_w]
                  rfl
                refine done_ (by kernel_rfl) ?_
                go_wp2_with fail
                go_roundw
                case rel => exact ⟨_, _, (r :: x), _, _, y, _, acc ++ [((1 : Int), t)], rfl, rfl, by simp at hlen ⊢; omega, Lib.hid (by rw [List.map_append, List.map_append, ← Hss.out, ← Hts.out]; exact HM6.out), HEy2⟩
                case measure => simp [lenOf] <;> omega
            · skip
              refine value_ (v := .slice (some ⟨w4.heap.size, 0, none⟩) 1 1) (w1 := w4.alloc (.cells (tcells t) 32)) (by rfl) rfl ?_ ?_
              · go_simp
                rfl
              have hbl := (Below.refl w4.heap.size w4).alloc (Nat.le_refl _) (.cells (tcells t) 32)
              have HM := Lib.hid (HM.out.below hbl)
              have HT := Lib.hid (blk_below HT.out hbl)
              have HL2 := Lib.hid (blk_new w4 (.cells (tcells t) 32))
              refine hK.out _ _ (C7.of HT.out) (fun hHeld => ?_)
              clear hK K hbl
              refine norm_ (a' := ?_) ?_ ?_
              rotate_left
              · simp only [Act.put, List.setIfInBounds_toArray, List.set_cons_zero, List.set_cons_succ, i64_w, i32_w]
                rfl
              generalize w4.alloc (.cells (tcells t) 32) = wa at *
              generalize w4.heap.size = g2 at *
              refine one_ (i := 2) (N := some 80) #[true, true, true, false, true, true, true, false, false, false] rfl rfl (by kernel_rfl) (by decide) (fun K hK => ?_)
              refine value_ (v := .slice (some ⟨wa.heap.size, 0, none⟩) 1 1) (w1 := wa.alloc (.cells #[.int .i64 1] 3)) (by rfl) rfl ?_ ?_
              · go_simp
              have hbl := (Below.refl wa.heap.size wa).alloc (Nat.le_refl _) (.cells #[.int .i64 1] 3)
              have HM := Lib.hid (HM.out.below hbl)
              have HT := Lib.hid (blk_below HT.out hbl)
              have HL1 := Lib.hid (blk_new wa (.cells #[.int .i64 1] 3))
              refine hK.out _ _ (C7.of HT.out) (fun hHeld => ?_)
              clear hK K hbl
              refine norm_ (a' := ?_) ?_ ?_
              rotate_left
              · simp only [Act.put, List.setIfInBounds_toArray, List.set_cons_zero, List.set_cons_succ, i64_w, i32_w]
                rfl
              have HL2 := Lib.hid (blk_below HL2.out ((Below.refl wa.heap.size wa).alloc (Nat.le_refl _) (.cells #[.int .i64 1] 3)))
              generalize wa.alloc (.cells #[.int .i64 1] 3) = wc at *
              generalize wa.heap.size = g1 at *
              refine one_ (i := 3) (N := some 81) #[true, true, true, true, true, true, true, false, false, false] rfl rfl (by kernel_rfl) (by decide) (fun K hK => ?_)
              generalize hwa : wc = wa at *
              clear hwa
              refine Kd.R_append_rows_step (Kd.int .i64) (Rr := (Kd.int .i64).K wa) (w0 := wa) w3.heap.size (by rfl) (.tmp 78) (.tmp 80) 64 3 (.int .i64 0) 8 rfl Try.underlying64 info3 rfl (by decide) (by omega) u13 ss [1] (some ⟨g1, 0, none⟩) 1 1 (fun _ => True) (fun _ => False) rfl rfl HM.out.sd (C_one3 HL1.out) ?aK (fun _ hk => hk.elim) (fun _ _ => trivial) (fr_self HM.out.fr) HM.out.fr.size (by have := Hlen.out; omega) ?_
              case aK => exact fun y cs h => h
              intro v1 w5 ho1 hB1 hg1 hat1
              show K (Act.put _ (some 81) v1) w5
              have HT5 := Lib.hid (blk_grown HT.out hg1 (Kd.R_ne HM.out.sd HT.out (by decide)))
              have HM5 := Lib.hid (HM.out.app1 ho1 hB1 hg1)
              refine hK.out _ _ (C7.of HT5.out) (fun hHeld => ?_)
              have HL2 := Lib.hid (blk_grown HL2.out hg1 (Kd.R_ne HM.out.sd HL2.out (by decide)))
              clear hK K ho1 hB1 hg1 hat1 HM HT HL1
              refine norm_ (a' := ?_) ?_ ?_
              rotate_left
              · simp only [Act.put, List.setIfInBounds_toArray, List.set_cons_zero, List.set_cons_succ, i64_w, i32_w]
                rfl
              have HM := HM5
              have HT := HT5
              have Hlen : Hid ((ss ++ [(1 : Int)]).length ≤ 2001 ∧ ts.length ≤ 2000) := Lib.hid (by have := Hlen.out; simp; omega)
              clear HM5 HT5
              generalize hwb : w5 = wb at *
              clear hwb
              refine last_ (i := 7) (N := some 85) #[true, true, true, true, true, true, true, true, false, false] rfl rfl (by kernel_rfl) (by decide) (fun K hK => ?_)
              refine Kd.R_append_rows_step k32 (Rr := k32.K wb) (w0 := wb) w3.heap.size (by rfl) (.tmp 82) (.tmp 84) 47 32 (.agg #[.string ByteArray.empty, .int .i64 0, .int .i64 0, .int .i64 0, .int .i64 0, .int .i64 0, .int .i64 0]) 64 rfl Try.underlying47 info32 rfl (by decide) (by omega) u14 ts [t] (some ⟨g2, 0, none⟩) 1 1 (fun _ => True) (fun _ => False) rfl rfl HM.out.ot (C_one32 HL2.out) ?aK (fun _ hk => hk.elim) (fun _ _ => trivial) (fr_self HM.out.fr) HM.out.fr.size (by have := Hlen.out; omega) ?_
              case aK => exact fun y cs h => by obtain rfl := k32_open h; exact k32_mkM _ _ _ y
              intro v2 w6 ho1 hB1 hg1 hat1
              show K (Act.put _ (some 85) v2) w6
              have HM6 := Lib.hid (HM.out.app2 ho1 hB1 hg1)
              refine hK.out _ _ ?_
              clear hK K ho1 hB1 hg1 hat1 HM HT HL2
              refine norm_ (a' := ?_) ?_ ?_
              rotate_left
              · simp only [Act.put, List.setIfInBounds_toArray, List.set_cons_zero, List.set_cons_succ, i64_w, i32_w]
                rfl
              refine pure_ (i := 8) (N := some 13) (v := ?_) (a' := ?_) #[true, true, true, true, true, true, true, true, true, false] rfl rfl (by kernel_rfl) (fun _ _ _ h => h) (Or.inl ⟨by rfl, ?_⟩) ?_ ?_
              rotate_left
              · intro w'
                go_simp
                with_reducible rfl
              rotate_left
              · simp only [Act.put, List.setIfInBounds_toArray, List.set_cons_zero, List.set_cons_succ, i64_w, i32_w]
                rfl
              refine pure_ (i := 9) (N := some 14) (v := ?_) (a' := ?_) #[true, true, true, true, true, true, true, true, true, true] rfl rfl (by kernel_rfl) (fun _ _ _ h => h) (Or.inl ⟨by rfl, ?_⟩) ?_ ?_
              rotate_left
              · intro w'
                go_simp
                with_reducible rfl
              rotate_left
              · simp only [Act.put, List.setIfInBounds_toArray, List.set_cons_zero, List.set_cons_succ, i64_w, i32_w]
                rfl
              refine done_ (by kernel_rfl) ?_
              go_wp2_with fail
              go_roundw
              case rel => exact ⟨_, _, (r :: x), _, _, y, _, acc ++ [((1 : Int), t)], rfl, rfl, by simp at hlen ⊢; omega, Lib.hid (by rw [List.map_append, List.map_append, ← Hss.out, ← Hts.out]; exact HM6.out), HEy2⟩
              case measure => simp [lenOf] <;> omega
          · have HEn2 := Lib.hid (HEn.out htk)
            clear HEn HEy
            have HTK := Lib.hid (take_no t gl left ws HMs.out.blk htk)
            clear htk
            go_wp2_with fail
            refine HTK.out.mono ?_
            rintro e wt ⟨rfl, hb⟩
            have HM := Lib.hid (HMs.out.below hb)
            clear hb HTK HMs HTs hz0 hz1 hz2 hz3 hz4 hz5 hz6
            go_wp2_with fail
            go_roundw
            case rel => exact ⟨_, _, (r :: x), _, _, y, _, acc, rfl, rfl, by simp at hlen ⊢; omega, HM, HEn2⟩
            case measure => simp [lenOf] <;> omega
end Go.Proofs.Ytkngdlmlijefbaa.Pq
end
section
namespace Go.Proofs.Ytkngdlmlijefbaa.Pq
open Go.RowKit Go.Proofs.YtkngdlmlijefbaaW.PrintWords Go.Proofs.YtkngdlmlijefbaaW.PrintLast Go.Proofs.YtkngdlmlijefbaaW.PrintMore Go.Proofs.Mp
open Go.Proofs.Ytkngdlmlijefbaa.PPriorityOrder
set_option linter.unusedVariables false
set_option linter.unusedSimpArgs false

theorem Match_calls (A : Option Addr) (ca : Nat) (a : List S32) (B : Option Addr) (cb : Nat) (b : List S32) (budget : Int) (w : World) (ha : Kd.C k32 w A a.length a) (hb : Kd.C k32 w B b.length b) (hla : a.length ≤ 1000) (hlb : b.length ≤ 1000) (hbu : budget ≤ 9223372036854775807) :
    Calls Try.prog 30 #[.slice A a.length ca, .slice B b.length cb, .int .i64 budget] w (MatR w a b budget) := by
  cases h : okAll a b budget with
  | true => exact (match_yes A ca a B cb b budget w ha hb hla hlb h hbu).mono fun e w' he => ⟨fun _ => he, fun h2 => absurd h2 (by rw [h]; simp)⟩
  | false => exact (match_no A ca a B cb b budget w ha hb hla hlb h).mono fun e w' he => ⟨fun h2 => absurd h2 (by rw [h]; simp), fun _ => he⟩
def sum (l : List S32) : Int := (l.map (·.f1)).foldr (· + ·) 0
theorem sum_cons (t : S32) (l : List S32) : sum (t :: l) = t.f1 + sum l := rfl
theorem sum_nil : sum [] = 0 := rfl
theorem sum_snoc : ∀ (l : List S32) (t : S32), sum (l ++ [t]) = sum l + t.f1
  | [], t => by simp [sum]
  | x :: l, t => by rw [List.cons_append, sum_cons, sum_snoc l t, sum_cons]; omega
/-- What is taken: valid tasks of the sides, which cost no more than the budget. -/
theorem mt_facts : ∀ (n : Nat) (x y : List S32) (left : Int), (∀ t ∈ x, Vt t) → (∀ t ∈ y, Vt t) → 0 ≤ left → (∀ p ∈ mt n x y left, Vt p.2) ∧ 0 ≤ sum ((mt n x y left).map (·.2)) ∧ sum ((mt n x y left).map (·.2)) ≤ left ∧ (mt n x y left).length ≤ n
  | 0, x, y, left, _, _, h0 => by simp [mt, sum]; exact h0
  | n + 1, x, y, left, vx, vy, h0 => by
    cases hp : pick x y with
    | none => simp only [mt, hp]; simp [sum]; exact h0
    | some q =>
      obtain ⟨s, t, x', y'⟩ := q
      have hv : Vt t ∧ (∀ u ∈ x', Vt u) ∧ (∀ u ∈ y', Vt u) := by
        cases x with
        | nil =>
          cases y with
          | nil => simp [pick] at hp
          | cons b y =>
            simp only [pick, Option.some.injEq, Prod.mk.injEq] at hp
            obtain ⟨_, rfl, rfl, rfl⟩ := hp
            exact ⟨vy _ (by simp), by simp, fun u hu => vy u (List.mem_cons_of_mem _ hu)⟩
        | cons a x =>
          cases y with
          | nil =>
            simp only [pick, Option.some.injEq, Prod.mk.injEq] at hp
            obtain ⟨_, rfl, rfl, rfl⟩ := hp
            exact ⟨vx _ (by simp), fun u hu => vx u (List.mem_cons_of_mem _ hu), by simp⟩
          | cons b y =>
            simp only [pick] at hp
            split at hp
            · simp only [Option.some.injEq, Prod.mk.injEq] at hp
              obtain ⟨_, rfl, rfl, rfl⟩ := hp
              exact ⟨vx _ (by simp), fun u hu => vx u (List.mem_cons_of_mem _ hu), vy⟩
            · simp only [Option.some.injEq, Prod.mk.injEq] at hp
              obtain ⟨_, rfl, rfl, rfl⟩ := hp
              exact ⟨vy _ (by simp), vx, fun u hu => vy u (List.mem_cons_of_mem _ hu)⟩
      by_cases hl : t.f1 ≤ left
      · rw [mt_yes hp hl]
        obtain ⟨h1, h2, h3, h4⟩ := mt_facts n x' y' (left - t.f1) hv.2.1 hv.2.2 (by omega)
        have := hv.1.s0
        refine ⟨fun p hp => ?_, ?_, ?_, by simp; omega⟩
        · rcases List.mem_cons.1 hp with rfl | hp
          · exact hv.1
          · exact h1 p hp
        · rw [List.map_cons, sum_cons]; simp only; omega
        · rw [List.map_cons, sum_cons]; simp only; omega
      · rw [mt_no hp hl]
        obtain ⟨h1, h2, h3, h4⟩ := mt_facts n x' y' left hv.2.1 hv.2.2 h0
        exact ⟨h1, h2, h3, by omega⟩
/-- What Cut takes. -/
def cutT (l : List S32) (budget : Int) : List S32 := (res l [] budget).map (·.2)
def okCut (l : List S32) (budget : Int) : Bool := l.all vB && decide (0 ≤ budget)
theorem okAll_nil (l : List S32) (budget : Int) : okAll l [] budget = okCut l budget := by simp [okAll, okCut]
def CutR (w : World) (l : List S32) (budget : Int) (e : Ending) (w' : World) : Prop :=
  (okCut l budget = true → ∃ u, e = .returned (.tuple #[u, .int .i64 (sum (cutT l budget)), .int .i64 0]) ∧ Kd.R k32 32 w' w.heap.size (fun _ => True) u (cutT l budget) ∧ Below w.heap.size w w') ∧
  (okCut l budget = false → e = .returned (.tuple #[.slice none 0 0, .int .i64 0, .int .i64 1]) ∧ Below w.heap.size w w')
theorem sum_take_le : ∀ (l : List S32) (k : Nat), (∀ t ∈ l, 0 ≤ t.f1) → 0 ≤ sum (l.take k) ∧ sum (l.take k) ≤ sum l
  | [], k, _ => by simp [sum]
  | t :: l, 0, h => by
    have := (sum_take_le l 0 (fun u hu => h u (List.mem_cons_of_mem _ hu))).2
    have h0 := h t (by simp)
    simp only [List.take_zero] at *
    rw [sum_cons, sum_nil] at *
    omega
  | t :: l, k + 1, h => by
    have := sum_take_le l k (fun u hu => h u (List.mem_cons_of_mem _ hu))
    have h0 := h t (by simp)
    rw [List.take_succ_cons, sum_cons, sum_cons]
    omega
set_option maxHeartbeats 1000000 in
set_option maxRecDepth 100000 in
theorem Cut_calls (A : Option Addr) (c : Nat) (l : List S32) (budget : Int) (w : World) (h : Kd.C k32 w A l.length l) (hl : l.length ≤ 1000) (hbu : budget ≤ 9223372036854775807) :
    Calls Try.prog 28 #[.slice A l.length c, .int .i64 budget] w (CutR w l budget) := by
  have HM := Lib.hid (Match_calls A c l none 0 [] budget w h (Kd.C_nil k32 w) hl (by simp) hbu)
  clear h
  cases hok : okCut l budget with
  | false =>
    have Hok := Lib.hid hok
    clear hok
    go_enter Try.func28, Try.ntmps28
    go_wp2_with fail
    refine HM.out.mono ?_
    rintro e w1 ⟨-, h2⟩
    obtain ⟨rfl, hB⟩ := h2 ((okAll_nil l budget).trans Hok.out)
    have B1 := Lib.hid hB
    clear h2 hB HM
    go_wp2_with fail
    go_loopw [10, 22] (fun v10 v22 wr => v10 = .int .i64 0 ∧ v22 = .int .i64 0 ∧ Hid (wr = w1)) (fun _ _ _ => 0)
    case atStart => exact ⟨rfl, rfl, Lib.hid rfl⟩
    case round =>
      obtain ⟨rfl, rfl, hw⟩ := hrel
      have Hw := Lib.hid hw.out
      clear hw
      go_wp2_with fail
      refine bodyPost_ret (v := .tuple #[.slice none 0 0, .int .i64 0, .int .i64 1]) (by simp [results, Try.results28, go_sem]) rfl ⟨fun h => absurd h (by rw [Hok.out]; simp), fun _ => ⟨rfl, by rw [Hw.out]; exact B1.out⟩⟩
  | true =>
    have Hok := Lib.hid hok
    have Hf : Hid ((∀ p ∈ res l [] budget, Vt p.2) ∧ 0 ≤ sum (cutT l budget) ∧ sum (cutT l budget) ≤ budget ∧ (res l [] budget).length ≤ 1000) := Lib.hid (by
      have hk := hok
      unfold okCut at hk
      simp only [Bool.and_eq_true, decide_eq_true_eq] at hk
      have hv : ∀ x ∈ ordT l, Vt x := ordT_valid (fun x hx => (vB_iff x).1 (List.all_eq_true.1 hk.1 x hx))
      obtain ⟨h1, h2, h3, h4⟩ := mt_facts ((ordT l).length + (ordT []).length) (ordT l) (ordT []) budget hv (by simp [ordT]) hk.2
      refine ⟨h1, h2, h3, Nat.le_trans h4 ?_⟩
      have := ordT_len l
      have e : (ordT []).length = 0 := rfl
      omega)
    clear hok
    go_enter Try.func28, Try.ntmps28
    go_wp2_with fail
    refine HM.out.mono ?_
    rintro e w1 ⟨h1, -⟩
    obtain ⟨v, u, rfl, hR1, hR2, hB⟩ := h1 ((okAll_nil l budget).trans Hok.out)
    have B1 := Lib.hid hB
    have R2 : Hid (Kd.R k32 32 w1 w.heap.size (fun _ => True) u (cutT l budget)) := Lib.hid hR2
    have hv0 : Hid (∀ t ∈ cutT l budget, 0 ≤ t.f1) := Lib.hid (fun t ht => by
      obtain ⟨p, hp, rfl⟩ := List.mem_map.1 ht
      exact (Hf.out.1 p hp).s0)
    have hsb : sum (cutT l budget) ≤ budget := Hf.out.2.2.1
    have hn : (cutT l budget).length ≤ 1000 := by unfold cutT; rw [List.length_map]; exact Hf.out.2.2.2
    clear h1 hB HM hR1 hR2 Hf
    generalize hL : cutT l budget = L at *
    have HL := Lib.hid hL
    clear hL
    obtain ⟨Au, cu, rfl, hcu, hCu⟩ := Kd.R_reads R2.out
    have HCu := Lib.hid hCu
    clear hcu hCu
    go_wp2_with fail
    go_loopw [10, 22] (fun v10 v22 wr => ∃ k : Nat, k ≤ L.length ∧ v22 = .int .i64 k ∧ v10 = .int .i64 (sum (L.take k)) ∧ Hid (Below w1.heap.size w1 wr)) (fun _ v _ => L.length - (intOf v).toNat)
    case atStart => exact ⟨0, by omega, rfl, rfl, Lib.hid (Below.refl _ _)⟩
    case round =>
      obtain ⟨k, hk, rfl, rfl, hB⟩ := hrel
      have HB := Lib.hid hB.out
      clear hB
      by_cases hlt : k < L.length
      · have hdec : decide ((k : Int) < (L.length : Int)) = true := decide_eq_true (by omega)
        obtain ⟨ad, rfl, ha0, ha1, ha2, ha3, ha4, ha5, ha6⟩ := at_T32 (Kd.C_below HCu.out HB.out) k (by omega) (by omega)
        rw [Int.toNat_natCast] at ha0 ha1 ha2 ha3 ha4 ha5 ha6
        rw [rd32 hlt] at ha0 ha1 ha2 ha3 ha4 ha5 ha6
        have hs1 := sum_take_le L (k + 1) hv0.out
        have hs0 := sum_take_le L k hv0.out
        have hsn : Hid (sum (L.take (k + 1)) = sum (L.take k) + L[k].f1) := Lib.hid (by rw [List.take_succ_eq_append_getElem hlt, sum_snoc])
        have hsr : 0 ≤ sum (L.take k) + L[k].f1 ∧ sum (L.take k) + L[k].f1 ≤ 9223372036854775807 := by have := hsn.out; omega
        have hsr0 := hsr.1
        have hsr1 := hsr.2
        clear hs1 hs0 hsr
        generalize L[k] = t at *
        generalize sum (L.take k) = sk at *
        go_wp2_with fail
        go_roundw
        case rel => exact ⟨k + 1, by omega, by go_num, by rw [hsn.out], Lib.hid (HB.out.alloc HB.out.size _)⟩
        case measure => simp [intOf]; omega
      · have hdec : decide ((k : Int) < (L.length : Int)) = false := decide_eq_false (by omega)
        obtain rfl : k = L.length := by omega
        have hsf : Hid (sum (L.take L.length) = sum L) := Lib.hid (by rw [List.take_length])
        generalize sum (L.take L.length) = sf at *
        go_wp2_with fail
        refine bodyPost_ret (v := .tuple #[.slice Au L.length cu, .int .i64 sf, .int .i64 0]) (by simp [results, Try.results28, go_sem]) rfl ⟨fun _ => ⟨.slice Au L.length cu, ?_, ?_, B1.out.trans (HB.out.mono B1.out.size)⟩, fun h => absurd Hok.out (by rw [h]; simp)⟩
        · rw [HL.out, hsf.out]
        · rw [HL.out]; exact Kd.R_below R2.out HB.out
end Go.Proofs.Ytkngdlmlijefbaa.Pq
end
section
namespace Go.Proofs.Ytkngdlmlijefbaa.Pq
open Go.RowKit Go.Proofs.YtkngdlmlijefbaaW.PrintWords Go.Proofs.YtkngdlmlijefbaaW.PrintLast Go.Proofs.YtkngdlmlijefbaaW.PrintMore Go.Proofs.Mp
open Go.Proofs.Ytkngdlmlijefbaa.PPriorityOrder
set_option linter.unusedVariables false
set_option linter.unusedSimpArgs false

def nm (x : Int) : ByteArray := strOfNums ((List.replicate 32 0 : List Int).set 0 x)
def tk (x size spare : Int) : S32 := ⟨⟨nm x, 0⟩, size, spare, ⟨1, 2⟩, 0⟩
theorem task_f (x size spare : Int) : kinkeeplaw41_task.f x size spare = some ((tk x size spare).f0.f0, 0, size, spare, 1, 2, 0) := rfl
theorem task_c (x size spare : Int) (w : World) : Calls Try.prog 32 #[.int .u8 x, .int .i64 size, .int .i64 spare] w fun e w' => e = .returned (.agg #[.string (nm x), .int .i64 0, .int .i64 size, .int .i64 spare, .int .i64 1, .int .i64 2, .int .i64 0]) ∧ Below w.heap.size w w' :=
  kinkeeplaw41_task.calls _ _ _ _ _ _ _ _ _ _ w (task_f x size spare)
theorem nm_size (x : Int) : (nm x).size = 32 := by
  unfold nm
  simp [strOfNums, ByteArray.size]
theorem tk_valid (x size spare : Int) (h : (0 ≤ size ∧ size ≤ 1048576) ∧ -16 ≤ spare ∧ spare ≤ 16) : vB (tk x size spare) = true :=
  (vB_iff _).2 ⟨nm_size x, (by decide : (0 : Int) ≤ 0), (by decide : (0 : Int) < 16), h.1.1, h.1.2, h.2.1, h.2.2, (by decide : (1 : Int) ≤ 2), (by decide : (2 : Int) ≤ 1073741824), (by decide : (0 : Int) ≤ 1), (by decide : (1 : Int) ≤ 2),
    (by decide : Nat.gcd (1 : Int).natAbs (2 : Int).natAbs = 1), (by decide : (0 : Int) ≤ 0), (by decide : (0 : Int) ≤ 999999)⟩
theorem cmp_spare {a b : S32} (h : a.f2 < b.f2) : cmpT a b = -1 := by
  unfold cmpT
  have : cmpI a.f2 b.f2 = -1 := by unfold cmpI; rw [if_pos h]
  rw [this]
  simp only [ors]
  rw [if_neg (by decide)]
def L3 : List S32 := [tk 1 60 0, tk 2 50 1, tk 3 40 2]
theorem L3_ord : ordT L3 = L3 := by
  have h12 : cmpT (tk 1 60 0) (tk 2 50 1) = -1 := cmp_spare (by decide)
  have h13 : cmpT (tk 1 60 0) (tk 3 40 2) = -1 := cmp_spare (by decide)
  have h23 : cmpT (tk 2 50 1) (tk 3 40 2) = -1 := cmp_spare (by decide)
  simp [ordT, L3, ins, h12, h13, h23]
theorem L3_ok : okCut L3 100 = true := by
  unfold okCut L3
  simp [tk_valid]
theorem L3_cut : cutT L3 100 = [tk 1 60 0, tk 3 40 2] := by
  unfold cutT res
  rw [L3_ord]
  have e : ordT [] = [] := rfl
  rw [e]
  simp [L3, mt, pick, tk]
set_option maxHeartbeats 400000 in
theorem New_calls (w : World) : Calls Try.prog 12 #[] w fun e w' => e = .returned (.pointer (some ⟨w.heap.size + 1, 0, none⟩)) ∧ w' = (w.alloc (.map #[] 0)).alloc (.cells #[.map (some w.heap.size)] 73) := by
  have hmm := @run_makeMap Try.prog
  go_enter Try.func12, Try.ntmps12
  go_wp2_with fail
  go_ret
  exact ⟨rfl, rfl⟩
def c21 (a b c : S32) : Array Value := #[.string a.f0.f0, .int .i64 a.f0.f1, .int .i64 a.f1, .int .i64 a.f2, .int .i64 a.f3.f0, .int .i64 a.f3.f1, .int .i64 a.f4, .string b.f0.f0, .int .i64 b.f0.f1, .int .i64 b.f1, .int .i64 b.f2, .int .i64 b.f3.f0, .int .i64 b.f3.f1, .int .i64 b.f4, .string c.f0.f0, .int .i64 c.f0.f1, .int .i64 c.f1, .int .i64 c.f2, .int .i64 c.f3.f0, .int .i64 c.f3.f1, .int .i64 c.f4]
theorem C_three {W : World} {g : Nat} {a b c : S32} (h : W.heap[g]? = some (.cells (c21 a b c) 32 (0, 0))) : Kd.C k32 W (some ⟨g, 0, none⟩) 3 [a, b, c] := by
  have hO : OwnT W g 3 [a, b, c] := ⟨_, h, by simp, by simp [maxLen], rfl, rfl⟩
  exact (Kd.R_reads' (OwnT.to_R (base := 0) (ok := fun _ => True) hO (Nat.zero_le _) trivial)).2.2
set_option maxHeartbeats 1000000 in
set_option maxRecDepth 100000 in
theorem awake_calls (w : World) : Calls Try.prog 11 #[] w fun e w' => e = .returned (.bool true) ∧ Below w.heap.size w w' := by
  have T1 := Lib.hid (task_c 1 60 0)
  have T2 := Lib.hid (task_c 2 50 1)
  have T3 := Lib.hid (task_c 3 40 2)
  have T9 := Lib.hid (task_c 9 1 (-1))
  have T0 := Lib.hid (task_c 1 1 0)
  go_enter Try.func11, Try.ntmps11
  go_wp2_with fail
  refine (T1.out _).mono ?_
  rintro e w1 ⟨rfl, hb⟩
  have B1 := Lib.hid hb
  clear hb
  go_wp2_with fail
  refine (T2.out _).mono ?_
  rintro e w2 ⟨rfl, hb⟩
  have B2 := Lib.hid (B1.out.trans (hb.mono B1.out.size))
  clear hb B1
  go_wp2_with fail
  refine (T3.out _).mono ?_
  rintro e w3 ⟨rfl, hb⟩
  have B3 := Lib.hid (B2.out.trans (hb.mono B2.out.size))
  clear hb B2
  have e21 : Hid ((w3.alloc (.cells (c21 (tk 1 60 0) (tk 2 50 1) (tk 3 40 2)) 32)).heap[w3.heap.size]? = some (.cells (c21 (tk 1 60 0) (tk 2 50 1) (tk 3 40 2)) 32 (0, 0))) := Lib.hid (blk_new _ _)
  have hbc := B3.out.alloc B3.out.size (.cells (c21 (tk 1 60 0) (tk 2 50 1) (tk 3 40 2)) 32)
  have CU := Lib.hid (Cut_calls (some ⟨w3.heap.size, 0, none⟩) 3 L3 100 _ (C_three e21.out) (by decide) (by decide))
  have BC := Lib.hid hbc
  clear hbc e21 T1 T2 T3
  go_wp2_with fail
  refine CU.out.mono ?_
  rintro e w4 ⟨h1, -⟩
  obtain ⟨u, rfl, hR, hb⟩ := h1 L3_ok
  have B4 := Lib.hid (BC.out.trans (hb.mono BC.out.size))
  rw [L3_cut] at hR
  have hsum : sum (cutT L3 100) = 100 := by rw [L3_cut]; rfl
  rw [hsum]
  obtain ⟨g, cap, rfl, hg, hO⟩ := OwnT.of_R hR (fun e => by
    subst e
    have := (Kd.R_reads' hR).1
    simp at this)
  have ha2 : w4.cell? ⟨g, 2, none⟩ = some (.int .i64 60) := hO.cell (i := 0) (c := 2) rfl (by decide)
  have hc2 : w4.cell? ⟨g, 9, none⟩ = some (.int .i64 40) := hO.cell (i := 1) (c := 2) rfl (by decide)
  clear h1 hR hb hO CU BC hsum hg
  go_wp2_with fail
  refine (T9.out _).mono ?_
  rintro e w5 ⟨rfl, hb⟩
  have B5 := Lib.hid (B4.out.trans (hb.mono B4.out.size))
  clear hb ha2 hc2
  go_wp2_with fail
  refine (T0.out _).mono ?_
  rintro e w6 ⟨rfl, hb⟩
  have B6 := Lib.hid (B5.out.trans (hb.mono B5.out.size))
  clear hb
  have CM := Lib.hid (Compare_calls (tk 9 1 (-1)) (tk 1 1 0) w6)
  rw [show cmpT (tk 9 1 (-1)) (tk 1 1 0) = -1 from cmp_spare (by decide)] at CM
  go_wp2_with fail
  refine CM.out.mono ?_
  rintro e w7 ⟨rfl, hb⟩
  have B7 := Lib.hid (B6.out.trans (hb.mono B6.out.size))
  clear hb CM
  go_wp2_with fail
  refine (New_calls _).mono ?_
  rintro e w8 ⟨rfl, rfl⟩
  have B8 := Lib.hid ((B7.out.alloc B7.out.size (.map #[] 0)).alloc (B7.out.alloc B7.out.size (.map #[] 0)).size (.cells #[.map (some w7.heap.size)] 73))
  go_wp2_with fail
  go_ret
  exact ⟨rfl, B8.out⟩
end Go.Proofs.Ytkngdlmlijefbaa.Pq
end
section
namespace Go.Proofs.Ytkngdlmlijefbaa.Pq
open Go.RowKit Go.Proofs.YtkngdlmlijefbaaW.PrintWords
open Go.Proofs.Ytkngdlmlijefbaa.PPriorityOrder
set_option linter.unusedVariables false
set_option linter.unusedSimpArgs false

theorem sign_int (x y : Int) : kinkeepref41_sign.f (decide (x < y)) (x == y) = some (cmpI x y) := by
  unfold kinkeepref41_sign.f cmpI
  by_cases h1 : x < y
  · rw [decide_eq_true h1, if_pos rfl, if_pos h1]
  · rw [decide_eq_false h1, if_neg (by simp), if_neg h1]
    by_cases h2 : x = y
    · rw [beq_iff_eq.2 h2, if_pos rfl, if_neg (by omega)]
    · rw [beq_eq_false_iff_ne.2 h2, if_neg (by simp), if_pos (by omega)]
theorem sign_str (x y : ByteArray) : kinkeepref41_sign.f (Op.bytesLess x.toList y.toList) (x.toList == y.toList) = some (cmpS x y) := by
  unfold kinkeepref41_sign.f cmpS
  have h := less_iff x.toList y.toList
  by_cases h1 : Op.bytesLess x.toList y.toList = true
  · rw [if_pos h1, if_pos h1]
  · rw [if_neg h1, if_neg h1]
    by_cases h2 : x.toList = y.toList
    · rw [beq_iff_eq.2 h2, if_pos rfl, if_neg (fun k => (h.1 k).2 h2)]
    · rw [beq_eq_false_iff_ne.2 h2, if_neg (by simp), if_pos (h.2 ⟨h1, h2⟩)]
theorem ref_l0 (l : List Int) (hl : l.length ≤ 100) : ∀ (d i k : Nat), i + d = l.length → d < k → kinkeepref41_Compare.l0 k l (l.length : Int) (i : Int) = some (ors (l.drop i)) := by
  intro d
  induction d with
  | zero =>
    intro i k hi hk
    obtain ⟨k, rfl⟩ : ∃ j, k = j + 1 := ⟨k - 1, by omega⟩
    rw [kinkeepref41_Compare.l0, if_neg (by omega), List.drop_of_length_le (by omega)]
    rfl
  | succ d ih =>
    intro i k hi hk
    obtain ⟨k, rfl⟩ : ∃ j, k = j + 1 := ⟨k - 1, by omega⟩
    have hlt : i < l.length := by omega
    have hr : rd l (i : Int) = l[i] := by unfold rd; rw [Int.toNat_natCast, List.getD_eq_getElem?_getD, List.getElem?_eq_getElem hlt]; rfl
    have hw : wrap64 ((i : Int) + 1) = ((i + 1 : Nat) : Int) := by unfold wrap64; omega
    rw [kinkeepref41_Compare.l0, if_pos (by omega), if_pos (by omega), if_pos (by omega), hr, hw, List.drop_eq_getElem_cons hlt]
    by_cases h0 : l[i] = 0
    · rw [if_pos h0, ih (i + 1) k (by omega) (by omega)]
      simp only [ors]
      rw [if_pos h0]
    · rw [if_neg h0]
      simp only [ors]
      rw [if_neg h0]
theorem refcmp_f (a b : S32) : kinkeepref41_Compare.f 10 a.f0.f0 a.f0.f1 a.f1 a.f2 a.f3.f0 a.f3.f1 a.f4 b.f0.f0 b.f0.f1 b.f1 b.f2 b.f3.f0 b.f3.f1 b.f4 = some (cmpT a b) := by
  unfold kinkeepref41_Compare.f
  simp only [sign_int, sign_str, Option.bind_some]
  have := ref_l0 [cmpI a.f2 b.f2, cmpI (wrap64 (a.f3.f0 * b.f3.f1)) (wrap64 (b.f3.f0 * a.f3.f1)), cmpI a.f4 b.f4, cmpI a.f1 b.f1, cmpS a.f0.f0 b.f0.f0, cmpI a.f0.f1 b.f0.f1] (by simp) 6 0 10 rfl (by omega)
  exact this
theorem refcmp_c (a b : S32) (w : World) : Calls Try.prog 25 #[.agg #[.string a.f0.f0, .int .i64 a.f0.f1, .int .i64 a.f1, .int .i64 a.f2, .int .i64 a.f3.f0, .int .i64 a.f3.f1, .int .i64 a.f4], .agg #[.string b.f0.f0, .int .i64 b.f0.f1, .int .i64 b.f1, .int .i64 b.f2, .int .i64 b.f3.f0, .int .i64 b.f3.f1, .int .i64 b.f4]] w fun e w' => e = .returned (.int .i64 (cmpT a b)) ∧ Below w.heap.size w w' :=
  kinkeepref41_Compare.calls 10 _ _ _ _ _ _ _ _ _ _ _ _ _ _ _ w (refcmp_f a b)
end Go.Proofs.Ytkngdlmlijefbaa.Pq
end
section
namespace Go.Proofs.Ytkngdlmlijefbaa.Pq
open Go.RowKit Go.Proofs.YtkngdlmlijefbaaW.PrintWords Go.Proofs.YtkngdlmlijefbaaW.PrintLast Go.Proofs.YtkngdlmlijefbaaW.PrintMore Go.Proofs.Mp
open Go.Proofs.Ytkngdlmlijefbaa.PPriorityOrder
set_option linter.unusedVariables false
set_option linter.unusedSimpArgs false

def Yes (w : World) (e : Ending) (w' : World) : Prop := e = .returned (.bool true) ∧ Below w.heap.size w w'
def Awake : Prop := ∀ w : World, Calls Try.prog 11 #[] w (Yes w)
theorem refcmp_c' (a b : S32) (w : World) : Calls Try.prog 25 #[.agg (tcells a), .agg (tcells b)] w fun e w' => e = .returned (.int .i64 (cmpT a b)) ∧ Below w.heap.size w w' := refcmp_c a b w
end Go.Proofs.Ytkngdlmlijefbaa.Pq
end
