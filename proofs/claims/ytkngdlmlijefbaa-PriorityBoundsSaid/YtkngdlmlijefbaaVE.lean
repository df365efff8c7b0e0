/- The law PriorityBounds: its walk. -/
import Derived.Test.YtkngdlmlijefbaaVD
import Derived.IntWalk
namespace Go.Proofs.Ytkngdlmlijefbaa.Pq
open Go.RowKit Go.Proofs.YtkngdlmlijefbaaW.PrintWords Go.Proofs.YtkngdlmlijefbaaW.PrintLast Go.Proofs.YtkngdlmlijefbaaW.PrintMore Go.Proofs.Mp
open Go.Proofs.Ytkngdlmlijefbaa.PPriorityOrder
set_option linter.unusedVariables false
set_option linter.unusedSimpArgs false

theorem CA.below {w W : World} {ad : Addr} {t : S32} (h : CA w ad t) (hb : Below w.heap.size w W) : CA W ad t := by
  obtain ⟨h0, h1, h2, h3, h4, h5, h6⟩ := h
  have key : ∀ (p : Addr) (v : Value), w.cell? p = some v → W.cell? p = some v := fun p v hp => (hb.cell (p := p) (World.block_lt_of_cell? _ _ hp)).trans hp
  exact ⟨key _ _ h0, key _ _ h1, key _ _ h2, key _ _ h3, key _ _ h4, key _ _ h5, key _ _ h6⟩
def firstB (l : List S32) (b : Int) (t : S32) (k : Nat) : Bool := decide (t.f1 ≤ b) && (l.take k).all (fun u => decide (cmpT t u ≤ 0))
theorem firstB_succ {l : List S32} {b : Int} {t : S32} {k : Nat} (h : k < l.length) : firstB l b t (k + 1) = (firstB l b t k && decide (cmpT t l[k] ≤ 0)) := by
  unfold firstB
  rw [List.take_succ_eq_append_getElem h, List.all_append, Bool.and_assoc]
  simp
set_option maxHeartbeats 4000000 in
set_option maxRecDepth 100000 in
theorem bounds_walk (aw : Awake) (A : Option Addr) (c : Nat) (l : List S32) (budget : Int) (w : World) (hc : l.length ≤ c) (h : Kd.C k32 w A l.length l) (hbu : budget ≤ 9223372036854775807) : Calls Try.prog 8 #[.slice A l.length c, .int .i64 budget] w (Yes w) := by
  have HL := Lib.hid h
  have AW := Lib.hid aw
  clear h aw
  go_enter Try.func8, Try.ntmps8
  go_wp2_with fail
  refine (AW.out _).mono ?_
  rintro e w1 ⟨rfl, hb⟩
  have B1 := Lib.hid hb
  have hba := hb.alloc hb.size (.cells #[.slice A l.length c] 47)
  have Ba := Lib.hid hba
  have HF := Lib.hid (fun b hb2 => few_c1 b A c l hb2 w1.heap.size (w1.alloc (.cells #[.slice A l.length c] 47)) (blk_new _ _) hc (Kd.C_below HL.out hba))
  clear hb hba
  cases hf : fewB l with
  | false =>
    have HF := Lib.hid (HF.out false hf)
    clear hf
    go_wp2_with fail
    refine HF.out.mono ?_
    rintro e w2 ⟨rfl, hb⟩
    have B2 := Lib.hid (Ba.out.trans (hb.mono Ba.out.size))
    clear hb HF
    go_wp2_with fail
    refine (AW.out _).mono ?_
    rintro e w3 ⟨rfl, hb⟩
    have B3 := Lib.hid (B2.out.trans (hb.mono B2.out.size))
    clear hb
    go_wp2_with fail
    go_ret
    exact ⟨rfl, B3.out⟩
  | true =>
    have hl := fewB_len' hf
    have HF := Lib.hid (HF.out true hf)
    clear hf
    go_wp2_with fail
    refine HF.out.mono ?_
    rintro e w2 ⟨rfl, hb⟩
    have B2 := Lib.hid (Ba.out.trans (hb.mono Ba.out.size))
    clear hb HF Ba B1
    go_wp2_with fail
    refine (Cut_calls A c l budget w2 (Kd.C_below HL.out B2.out) (by omega) hbu).mono ?_
    rintro e w3 ⟨h1, h2⟩
    cases hv : okCut l budget with
    | false =>
      obtain ⟨rfl, hb⟩ := h2 hv
      have B3 := Lib.hid (B2.out.trans (hb.mono B2.out.size))
      clear h1 h2 hb hv
      go_wp2_with fail
      go_ret
      exact ⟨rfl, B3.out⟩
    | true =>
      obtain ⟨u, rfl, hR, hb⟩ := h1 hv
      have HBn := Lib.hid (bnd hv)
      have B3 := Lib.hid (B2.out.trans (hb.mono B2.out.size))
      rw [cut_tkn] at hR ⊢
      have hn : (tkn (ordT l) budget).length ≤ 20 := by
        have := tkn_len (ordT l) budget
        have := ordT_len l
        omega
      obtain ⟨Al, cl, rfl, hcl, hCl⟩ := Kd.R_reads hR
      have HC := Lib.hid hCl
      have hs0 := HBn.out.s0
      have hsb := HBn.out.sb
      clear h1 h2 hb hv hR hCl
      generalize tkn (ordT l) budget = L at *
      obtain ⟨sn, hsn⟩ : ∃ sn, sn = sum L := ⟨_, rfl⟩
      rw [← hsn] at hs0 hsb ⊢
      have Hsn := Lib.hid hsn
      clear hsn
      go_wp2_with fail
      go_loopw [8, 43] (fun v8 v43 wr => ∃ k : Nat, k ≤ L.length ∧ v43 = .int .i64 k ∧ v8 = .int .i64 (sum (L.take k)) ∧ Hid (Below w3.heap.size w3 wr)) (fun _ v _ => L.length - (intOf v).toNat)
      case atStart => exact ⟨0, by omega, rfl, rfl, Lib.hid (Below.refl _ _)⟩
      case round =>
        obtain ⟨k, hk, rfl, rfl, hB⟩ := hrel
        have HB := Lib.hid hB.out
        clear hB
        by_cases hlt : k < L.length
        · have hdec : decide ((k : Int) < (L.length : Int)) = true := decide_eq_true (by omega)
          have i1 : (0 : Int) ≤ (k : Int) := by omega
          have i2 : (k : Int) < (L.length : Int) := by omega
          obtain ⟨ad, rfl, p0, p1, p2, p3, p4, p5, p6⟩ := at32 (Kd.C_below HC.out HB.out) hlt
          have hsr : Hid (sum (L.take (k + 1)) = sum (L.take k) + L[k].f1) := Lib.hid (by rw [List.take_succ_eq_append_getElem hlt, sum_snoc])
          have hb1 := sum_take_le L (k + 1) HBn.out.v0
          have hb2 := sum_take_le L k HBn.out.v0
          have hb3 := HBn.out.v0 L[k] (List.getElem_mem hlt)
          have hb4 : 0 ≤ sum (L.take k) + L[k].f1 ∧ sum (L.take k) + L[k].f1 ≤ sn ∧ 0 ≤ sum (L.take k) := by have := hsr.out; have := Hsn.out; omega
          have hb5 := hb4.1
          have hb6 := hb4.2.1
          have hb7 := hb4.2.2
          have Hmem := Lib.hid (HBn.out.mem L[k] (List.getElem_mem hlt))
          have hba := (Below.refl wr.heap.size wr).alloc (Nat.le_refl _) (.cells #[.string L[k].f0.f0, .int .i64 L[k].f0.f1, .int .i64 L[k].f1, .int .i64 L[k].f2, .int .i64 L[k].f3.f0, .int .i64 L[k].f3.f1, .int .i64 L[k].f4] 32)
          have HT := Lib.hid (blk_new wr (.cells #[.string L[k].f0.f0, .int .i64 L[k].f0.f1, .int .i64 L[k].f1, .int .i64 L[k].f2, .int .i64 L[k].f3.f0, .int .i64 L[k].f3.f1, .int .i64 L[k].f4] 32))
          have HT : Hid ((wr.alloc (.cells #[.string L[k].f0.f0, .int .i64 L[k].f0.f1, .int .i64 L[k].f1, .int .i64 L[k].f2, .int .i64 L[k].f3.f0, .int .i64 L[k].f3.f1, .int .i64 L[k].f4] 32)).heap[wr.heap.size]? = some (.cells (tcells L[k]) 32 (0, 0))) := HT
          have HBa := Lib.hid (HB.out.trans (hba.mono HB.out.size))
          clear hb1 hb2 hb4
          have Hord : Hid (0 < k → ∃ j : Nat, j + 1 = k ∧ ∃ y, cmpT y L[k] = -1 ∧ ∀ W, Below wr.heap.size wr W → CA W (ad.add (j * 7)) y) := Lib.hid (fun h0 => by
            obtain ⟨j, rfl⟩ : ∃ j, k = j + 1 := ⟨k - 1, by omega⟩
            obtain ⟨ad2, e2, q⟩ := at32 (Kd.C_below HC.out HB.out) (show j < L.length from by omega)
            injection e2 with e2
            subst e2
            exact ⟨j, rfl, L[j], HBn.out.ord j hlt, fun W hW => CA.below q hW⟩)
          generalize L[k] = x at *
          generalize sum (L.take k) = s0 at *
          go_wp2_with fail
          have HDa := Lib.hid hba
          generalize wr.alloc (.cells #[.string x.f0.f0, .int .i64 x.f0.f1, .int .i64 x.f1, .int .i64 x.f2, .int .i64 x.f3.f0, .int .i64 x.f3.f1, .int .i64 x.f4] 32) = w4 at *
          clear p0 p1 p2 p3 p4 p5 p6 hba
          by_cases h0 : 0 < k
          · obtain ⟨j, hj, y, hy, hq⟩ := Hord.out h0
            have HQ := Lib.hid hq
            have HY := Lib.hid hy
            have d0 : decide (0 < k) = true := decide_eq_true h0
            have d0' : decide ((0 : Int) < (k : Int)) = true := decide_eq_true (by omega)
            have hw1 : IntKind.i64.wrap ((k : Int) - 1) = (j : Int) := by rw [IntWalk.i64_in _ (by omega)]; omega
            have j1 : (0 : Int) ≤ (j : Int) := by omega
            have j2 : (j : Int) < (L.length : Int) := by omega
            have HBd := Lib.hid HBa.out.drew
            have HTd := Lib.hid (blk_below HT.out (below_drew (Below.refl _ _)))
            have HDd := Lib.hid HDa.out.drew
            clear hq hy Hord h0 HBa HT HDa
            generalize hg : wr.heap.size = g10 at *
            have Hg := Lib.hid hg
            clear hg
            refine start_ (n := 18) (S := fun W => C7 W g10 x ∧ CA W (ad.add (j * 7)) y) (ds := []) #[false, false, false, false, false, false, false, false, false, false, false, false, false, false, false, false, false, false] (by kernel_rfl) rfl rfl ⟨C7.of HTd.out, HQ.out _ HDd.out⟩ (fun hHeld => ?_)
            generalize w4.drew = w5 at *
            refine pure_ (i := 0) (N := some 48) (v := ?_) (a' := ?_) #[true, false, false, false, false, false, false, false, false, false, false, false, false, false, false, false, false, false] rfl rfl (by kernel_rfl) (fun _ _ _ h => h) (Or.inl ⟨by rfl, ?_⟩) ?_ ?_
            rotate_left
            · intro w'
              go_simp
              with_reducible rfl
            rotate_left
            · simp only [Act.put, List.setIfInBounds_toArray, List.set_cons_zero, List.set_cons_succ, i64_w, i32_w]
              rfl
            refine take_ (i := 1) (N := some 49) (v := ?_) (a' := ?_) #[true, true, false, false, false, false, false, false, false, false, false, false, false, false, false, false, false, false] rfl rfl (by kernel_rfl) (fun _ _ _ h => h) (Or.inl ⟨by rfl, ?_⟩) hHeld ?_ ?_
            rotate_left
            · rintro w' ⟨⟨s0, s1, s2, s3, s4, s5, s6⟩, ⟨t0, t1, t2, t3, t4, t5, t6⟩⟩
              go_simp
              with_reducible rfl
            rotate_left
            · simp only [Act.put, List.setIfInBounds_toArray, List.set_cons_zero, List.set_cons_succ, i64_w, i32_w]
              rfl
            refine one_ (i := 2) (N := some 50) #[true, true, true, false, false, false, false, false, false, false, false, false, false, false, false, false, false, false] rfl rfl (by kernel_rfl) (by decide) (fun K hK => ?_)
            refine goes_ Try.func29 (by kernel_rfl) rfl #[.slice A l.length c, .agg (tcells x)] (by rfl) rfl rfl (by (try simp only [List.map_toArray, List.map_cons, List.map_nil]); first | done | rfl) ?_
            refine (has_c true A c l x Hmem.out _ (Kd.C_below HL.out (B3.out.trans (HBd.out.mono B3.out.size))) hc (by omega)).mono ?_
            rintro e w6 ⟨rfl, hb⟩
            have HBe := Lib.hid (HBd.out.trans (hb.mono HBd.out.size))
            have HTe := Lib.hid (blk_below HTd.out hb)
            have HDe := Lib.hid (thn Hg.out HDd.out hb)
            refine ⟨_, rfl, hK.out _ _ ⟨C7.of HTe.out, HQ.out _ HDe.out⟩ (fun hHeld => ?_)⟩
            clear hK K hb HBd HTd HDd
            refine norm_ (a' := ?_) ?_ ?_
            rotate_left
            · simp only [Act.put, List.setIfInBounds_toArray, List.set_cons_zero, List.set_cons_succ, i64_w, i32_w]
              rfl
            refine pure_ (i := 3) (N := some 51) (v := ?_) (a' := ?_) #[true, true, true, true, false, false, false, false, false, false, false, false, false, false, false, false, false, false] rfl rfl (by kernel_rfl) (fun _ _ _ h => h) (Or.inl ⟨by rfl, ?_⟩) ?_ ?_
            rotate_left
            · intro w'
              go_simp
              with_reducible rfl
            rotate_left
            · simp only [Act.put, List.setIfInBounds_toArray, List.set_cons_zero, List.set_cons_succ, i64_w, i32_w]
              rfl
            refine pure_ (i := 4) (N := some 52) (v := ?_) (a' := ?_) #[true, true, true, true, true, false, false, false, false, false, false, false, false, false, false, false, false, false] rfl rfl (by kernel_rfl) (fun _ _ _ h => h) (Or.inl ⟨by rfl, ?_⟩) ?_ ?_
            rotate_left
            · intro w'
              go_simp
              with_reducible rfl
            rotate_left
            · simp only [Act.put, List.setIfInBounds_toArray, List.set_cons_zero, List.set_cons_succ, i64_w, i32_w]
              rfl
            refine pure_ (i := 5) (N := some 53) (v := ?_) (a' := ?_) #[true, true, true, true, true, true, false, false, false, false, false, false, false, false, false, false, false, false] rfl rfl (by kernel_rfl) (fun _ _ _ h => h) (Or.inl ⟨by rfl, ?_⟩) ?_ ?_
            rotate_left
            · intro w'
              go_simp
              with_reducible rfl
            rotate_left
            · simp only [Act.put, List.setIfInBounds_toArray, List.set_cons_zero, List.set_cons_succ, i64_w, i32_w]
              rfl
            refine pure_ (i := 6) (N := some 54) (v := ?_) (a' := ?_) #[true, true, true, true, true, true, true, false, false, false, false, false, false, false, false, false, false, false] rfl rfl (by kernel_rfl) (fun _ _ _ h => h) (Or.inl ⟨by rfl, ?_⟩) ?_ ?_
            rotate_left
            · intro w'
              go_simp
              with_reducible rfl
            rotate_left
            · simp only [Act.put, List.setIfInBounds_toArray, List.set_cons_zero, List.set_cons_succ, i64_w, i32_w]
              rfl
            refine pure_ (i := 7) (N := some 55) (v := ?_) (a' := ?_) #[true, true, true, true, true, true, true, true, false, false, false, false, false, false, false, false, false, false] rfl rfl (by kernel_rfl) (fun _ _ _ h => h) (Or.inl ⟨by rfl, ?_⟩) ?_ ?_
            rotate_left
            · intro w'
              go_simp
              with_reducible rfl
            rotate_left
            · simp only [Act.put, List.setIfInBounds_toArray, List.set_cons_zero, List.set_cons_succ, i64_w, i32_w]
              rfl
            refine pure_ (i := 8) (N := some 56) (v := ?_) (a' := ?_) #[true, true, true, true, true, true, true, true, true, false, false, false, false, false, false, false, false, false] rfl rfl (by kernel_rfl) (fun _ _ _ h => h) (Or.inl ⟨by rfl, ?_⟩) ?_ ?_
            rotate_left
            · intro w'
              go_simp
              with_reducible rfl
            rotate_left
            · simp only [Act.put, List.setIfInBounds_toArray, List.set_cons_zero, List.set_cons_succ, i64_w, i32_w]
              rfl
            refine pure_ (i := 9) (N := some 57) (v := ?_) (a' := ?_) #[true, true, true, true, true, true, true, true, true, true, false, false, false, false, false, false, false, false] rfl rfl (by kernel_rfl) (fun _ _ _ h => h) (Or.inl ⟨by rfl, ?_⟩) ?_ ?_
            rotate_left
            · intro w'
              go_simp
              with_reducible rfl
            rotate_left
            · simp only [Act.put, List.setIfInBounds_toArray, List.set_cons_zero, List.set_cons_succ, i64_w, i32_w]
              rfl
            refine pure_ (i := 10) (N := some 58) (v := ?_) (a' := ?_) #[true, true, true, true, true, true, true, true, true, true, true, false, false, false, false, false, false, false] rfl rfl (by kernel_rfl) (fun _ _ _ h => h) (Or.inl ⟨by rfl, ?_⟩) ?_ ?_
            rotate_left
            · intro w'
              go_simp
              with_reducible rfl
            rotate_left
            · simp only [Act.put, List.setIfInBounds_toArray, List.set_cons_zero, List.set_cons_succ, i64_w, i32_w]
              rfl
            refine pure_ (i := 11) (N := some 59) (v := ?_) (a' := ?_) #[true, true, true, true, true, true, true, true, true, true, true, true, false, false, false, false, false, false] rfl rfl (by kernel_rfl) (fun _ _ _ h => h) (Or.inl ⟨by rfl, ?_⟩) ?_ ?_
            rotate_left
            · intro w'
              go_simp
              with_reducible rfl
            rotate_left
            · simp only [Act.put, List.setIfInBounds_toArray, List.set_cons_zero, List.set_cons_succ, i64_w, i32_w]
              rfl
            refine take_ (i := 12) (N := some 60) (v := ?_) (a' := ?_) #[true, true, true, true, true, true, true, true, true, true, true, true, true, false, false, false, false, false] rfl rfl (by kernel_rfl) (fun _ _ _ h => h) (Or.inl ⟨by rfl, ?_⟩) hHeld ?_ ?_
            rotate_left
            · rintro w' ⟨⟨s0, s1, s2, s3, s4, s5, s6⟩, ⟨t0, t1, t2, t3, t4, t5, t6⟩⟩
              go_simp
              with_reducible rfl
            rotate_left
            · simp only [Act.put, List.setIfInBounds_toArray, List.set_cons_zero, List.set_cons_succ, i64_w, i32_w]
              rfl
            refine take_ (i := 13) (N := some 61) (v := ?_) (a' := ?_) #[true, true, true, true, true, true, true, true, true, true, true, true, true, true, false, false, false, false] rfl rfl (by kernel_rfl) (fun _ _ _ h => h) (Or.inl ⟨by rfl, ?_⟩) hHeld ?_ ?_
            rotate_left
            · rintro w' ⟨⟨s0, s1, s2, s3, s4, s5, s6⟩, ⟨t0, t1, t2, t3, t4, t5, t6⟩⟩
              go_simp
              with_reducible rfl
            rotate_left
            · simp only [Act.put, List.setIfInBounds_toArray, List.set_cons_zero, List.set_cons_succ, i64_w, i32_w]
              rfl
            clear hw1 j1 j2
            refine one_ (i := 14) (N := some 62) #[true, true, true, true, true, true, true, true, true, true, true, true, true, true, true, false, false, false] rfl rfl (by kernel_rfl) (by decide) (fun K hK => ?_)
            refine goes_ Try.func23 (by kernel_rfl) rfl #[.agg (tcells y), .agg (tcells x)] (by rfl) rfl rfl (by (try simp only [List.map_toArray, List.map_cons, List.map_nil]); first | done | rfl) ?_
            refine (Compare_calls y x _).mono ?_
            rintro e w7 ⟨rfl, hb⟩
            have HBf := Lib.hid (HBe.out.trans (hb.mono HBe.out.size))
            have HTf := Lib.hid (blk_below HTe.out hb)
            rw [HY.out]
            refine ⟨_, rfl, hK.out _ _ ⟨C7.of HTf.out, HQ.out _ (thn Hg.out HDe.out hb)⟩ (fun hHeld => ?_)⟩
            clear hK K hb HBe HTe HDe
            refine norm_ (a' := ?_) ?_ ?_
            rotate_left
            · simp only [Act.put, List.setIfInBounds_toArray, List.set_cons_zero, List.set_cons_succ, i64_w, i32_w]
              rfl
            refine pure_ (i := 15) (N := some 63) (v := ?_) (a' := ?_) #[true, true, true, true, true, true, true, true, true, true, true, true, true, true, true, true, false, false] rfl rfl (by kernel_rfl) (fun _ _ _ h => h) (Or.inl ⟨by rfl, ?_⟩) ?_ ?_
            rotate_left
            · intro w'
              go_simp
              with_reducible rfl
            rotate_left
            · simp only [Act.put, List.setIfInBounds_toArray, List.set_cons_zero, List.set_cons_succ, i64_w, i32_w]
              rfl
            refine pure_ (i := 16) (N := some 64) (v := ?_) (a' := ?_) #[true, true, true, true, true, true, true, true, true, true, true, true, true, true, true, true, true, false] rfl rfl (by kernel_rfl) (fun _ _ _ h => h) (Or.inl ⟨by rfl, ?_⟩) ?_ ?_
            rotate_left
            · intro w'
              go_simp
              with_reducible rfl
            rotate_left
            · simp only [Act.put, List.setIfInBounds_toArray, List.set_cons_zero, List.set_cons_succ, i64_w, i32_w]
              rfl
            refine pure_ (i := 17) (N := some 65) (v := ?_) (a' := ?_) #[true, true, true, true, true, true, true, true, true, true, true, true, true, true, true, true, true, true] rfl rfl (by kernel_rfl) (fun _ _ _ h => h) (Or.inl ⟨by rfl, ?_⟩) ?_ ?_
            rotate_left
            · intro w'
              go_simp
              with_reducible rfl
            rotate_left
            · simp only [Act.put, List.setIfInBounds_toArray, List.set_cons_zero, List.set_cons_succ, i64_w, i32_w]
              rfl
            refine done_ (by kernel_rfl) ?_
            clear hHeld d0 d0'
            obtain ⟨p0, p1, p2, p3, p4, p5, p6⟩ := C7.of HTf.out
            go_wp2_with fail
            go_roundw
            case rel => exact ⟨k + 1, by omega, by go_num, by rw [hsr.out], HBf⟩
            case measure => simp [intOf]; omega
          · have d0 : decide (0 < k) = false := decide_eq_false h0
            have d0' : decide ((0 : Int) < (k : Int)) = false := decide_eq_false (by omega)
            have HBd := Lib.hid HBa.out.drew
            have HTd := Lib.hid (blk_below HT.out (below_drew (Below.refl _ _)))
            clear Hord h0 HBa HT HDa
            generalize wr.heap.size = g10 at *
            refine start_ (n := 18) (S := fun W => C7 W g10 x) (ds := []) #[false, false, false, false, false, false, false, false, false, false, false, false, false, false, false, false, false, false] (by kernel_rfl) rfl rfl (C7.of HTd.out) (fun hHeld => ?_)
            generalize w4.drew = w5 at *
            refine pure_ (i := 0) (N := some 48) (v := ?_) (a' := ?_) #[true, false, false, false, false, false, false, false, false, false, false, false, false, false, false, false, false, false] rfl rfl (by kernel_rfl) (fun _ _ _ h => h) (Or.inl ⟨by rfl, ?_⟩) ?_ ?_
            rotate_left
            · intro w'
              go_simp
              with_reducible rfl
            rotate_left
            · simp only [Act.put, List.setIfInBounds_toArray, List.set_cons_zero, List.set_cons_succ, i64_w, i32_w]
              rfl
            refine take_ (i := 1) (N := some 49) (v := ?_) (a' := ?_) #[true, true, false, false, false, false, false, false, false, false, false, false, false, false, false, false, false, false] rfl rfl (by kernel_rfl) (fun _ _ _ h => h) (Or.inl ⟨by rfl, ?_⟩) hHeld ?_ ?_
            rotate_left
            · rintro w' ⟨s0, s1, s2, s3, s4, s5, s6⟩
              go_simp
              with_reducible rfl
            rotate_left
            · simp only [Act.put, List.setIfInBounds_toArray, List.set_cons_zero, List.set_cons_succ, i64_w, i32_w]
              rfl
            refine one_ (i := 2) (N := some 50) #[true, true, true, false, false, false, false, false, false, false, false, false, false, false, false, false, false, false] rfl rfl (by kernel_rfl) (by decide) (fun K hK => ?_)
            refine goes_ Try.func29 (by kernel_rfl) rfl #[.slice A l.length c, .agg (tcells x)] (by rfl) rfl rfl (by (try simp only [List.map_toArray, List.map_cons, List.map_nil]); first | done | rfl) ?_
            refine (has_c true A c l x Hmem.out _ (Kd.C_below HL.out (B3.out.trans (HBd.out.mono B3.out.size))) hc (by omega)).mono ?_
            rintro e w6 ⟨rfl, hb⟩
            have HBe := Lib.hid (HBd.out.trans (hb.mono HBd.out.size))
            have HTe := Lib.hid (blk_below HTd.out hb)
            refine ⟨_, rfl, hK.out _ _ (C7.of HTe.out) (fun hHeld => ?_)⟩
            clear hK K hb HBd HTd
            refine norm_ (a' := ?_) ?_ ?_
            rotate_left
            · simp only [Act.put, List.setIfInBounds_toArray, List.set_cons_zero, List.set_cons_succ, i64_w, i32_w]
              rfl
            refine pure_ (i := 3) (N := some 51) (v := ?_) (a' := ?_) #[true, true, true, true, false, false, false, false, false, false, false, false, false, false, false, false, false, false] rfl rfl (by kernel_rfl) (fun _ _ _ h => h) (Or.inl ⟨by rfl, ?_⟩) ?_ ?_
            rotate_left
            · intro w'
              go_simp
              with_reducible rfl
            rotate_left
            · simp only [Act.put, List.setIfInBounds_toArray, List.set_cons_zero, List.set_cons_succ, i64_w, i32_w]
              rfl
            refine pure_ (i := 4) (N := some 52) (v := ?_) (a' := ?_) #[true, true, true, true, true, false, false, false, false, false, false, false, false, false, false, false, false, false] rfl rfl (by kernel_rfl) (fun _ _ _ h => h) (Or.inl ⟨by rfl, ?_⟩) ?_ ?_
            rotate_left
            · intro w'
              go_simp
              with_reducible rfl
            rotate_left
            · simp only [Act.put, List.setIfInBounds_toArray, List.set_cons_zero, List.set_cons_succ, i64_w, i32_w]
              rfl
            refine pure_ (i := 5) (N := some 53) (v := ?_) (a' := ?_) #[true, true, true, true, true, true, false, false, false, false, false, false, false, false, false, false, false, false] rfl rfl (by kernel_rfl) (fun _ _ _ h => h) (Or.inl ⟨by rfl, ?_⟩) ?_ ?_
            rotate_left
            · intro w'
              go_simp
              with_reducible rfl
            rotate_left
            · simp only [Act.put, List.setIfInBounds_toArray, List.set_cons_zero, List.set_cons_succ, i64_w, i32_w]
              rfl
            refine pure_ (i := 6) (N := some 54) (v := ?_) (a' := ?_) #[true, true, true, true, true, true, true, false, false, false, false, false, false, false, false, false, false, false] rfl rfl (by kernel_rfl) (fun _ _ _ h => h) (Or.inl ⟨by rfl, ?_⟩) ?_ ?_
            rotate_left
            · intro w'
              go_simp
              with_reducible rfl
            rotate_left
            · simp only [Act.put, List.setIfInBounds_toArray, List.set_cons_zero, List.set_cons_succ, i64_w, i32_w]
              rfl
            refine pure_ (i := 7) (N := some 55) (v := ?_) (a' := ?_) #[true, true, true, true, true, true, true, true, false, false, false, false, false, false, false, false, false, false] rfl rfl (by kernel_rfl) (fun _ _ _ h => h) (Or.inl ⟨by rfl, ?_⟩) ?_ ?_
            rotate_left
            · intro w'
              go_simp
              with_reducible rfl
            rotate_left
            · simp only [Act.put, List.setIfInBounds_toArray, List.set_cons_zero, List.set_cons_succ, i64_w, i32_w]
              rfl
            refine pure_ (i := 8) (N := some 56) (v := undef) (a' := ?_) #[true, true, true, true, true, true, true, true, true, false, false, false, false, false, false, false, false, false] rfl rfl (by kernel_rfl) (fun _ _ _ h => h) (Or.inr ⟨by rfl, rfl⟩) ?_ ?_
            rotate_left
            · simp only [Act.put, List.setIfInBounds_toArray, List.set_cons_zero, List.set_cons_succ, i64_w, i32_w]
              rfl
            refine pure_ (i := 9) (N := some 57) (v := undef) (a' := ?_) #[true, true, true, true, true, true, true, true, true, true, false, false, false, false, false, false, false, false] rfl rfl (by kernel_rfl) (fun _ _ _ h => h) (Or.inr ⟨by rfl, rfl⟩) ?_ ?_
            rotate_left
            · simp only [Act.put, List.setIfInBounds_toArray, List.set_cons_zero, List.set_cons_succ, i64_w, i32_w]
              rfl
            refine pure_ (i := 10) (N := some 58) (v := undef) (a' := ?_) #[true, true, true, true, true, true, true, true, true, true, true, false, false, false, false, false, false, false] rfl rfl (by kernel_rfl) (fun _ _ _ h => h) (Or.inr ⟨by rfl, rfl⟩) ?_ ?_
            rotate_left
            · simp only [Act.put, List.setIfInBounds_toArray, List.set_cons_zero, List.set_cons_succ, i64_w, i32_w]
              rfl
            refine pure_ (i := 11) (N := some 59) (v := undef) (a' := ?_) #[true, true, true, true, true, true, true, true, true, true, true, true, false, false, false, false, false, false] rfl rfl (by kernel_rfl) (fun _ _ _ h => h) (Or.inr ⟨by rfl, rfl⟩) ?_ ?_
            rotate_left
            · simp only [Act.put, List.setIfInBounds_toArray, List.set_cons_zero, List.set_cons_succ, i64_w, i32_w]
              rfl
            refine pure_ (i := 12) (N := some 60) (v := undef) (a' := ?_) #[true, true, true, true, true, true, true, true, true, true, true, true, true, false, false, false, false, false] rfl rfl (by kernel_rfl) (fun _ _ _ h => h) (Or.inr ⟨by rfl, rfl⟩) ?_ ?_
            rotate_left
            · simp only [Act.put, List.setIfInBounds_toArray, List.set_cons_zero, List.set_cons_succ, i64_w, i32_w]
              rfl
            refine pure_ (i := 13) (N := some 61) (v := undef) (a' := ?_) #[true, true, true, true, true, true, true, true, true, true, true, true, true, true, false, false, false, false] rfl rfl (by kernel_rfl) (fun _ _ _ h => h) (Or.inr ⟨by rfl, rfl⟩) ?_ ?_
            rotate_left
            · simp only [Act.put, List.setIfInBounds_toArray, List.set_cons_zero, List.set_cons_succ, i64_w, i32_w]
              rfl
            refine pure_ (i := 14) (N := some 62) (v := undef) (a' := ?_) #[true, true, true, true, true, true, true, true, true, true, true, true, true, true, true, false, false, false] rfl rfl (by kernel_rfl) (fun _ _ _ h => h) (Or.inr ⟨by rfl, rfl⟩) ?_ ?_
            rotate_left
            · simp only [Act.put, List.setIfInBounds_toArray, List.set_cons_zero, List.set_cons_succ, i64_w, i32_w]
              rfl
            refine pure_ (i := 15) (N := some 63) (v := undef) (a' := ?_) #[true, true, true, true, true, true, true, true, true, true, true, true, true, true, true, true, false, false] rfl rfl (by kernel_rfl) (fun _ _ _ h => h) (Or.inr ⟨by rfl, rfl⟩) ?_ ?_
            rotate_left
            · simp only [Act.put, List.setIfInBounds_toArray, List.set_cons_zero, List.set_cons_succ, i64_w, i32_w]
              rfl
            refine pure_ (i := 16) (N := some 64) (v := ?_) (a' := ?_) #[true, true, true, true, true, true, true, true, true, true, true, true, true, true, true, true, true, false] rfl rfl (by kernel_rfl) (fun _ _ _ h => h) (Or.inl ⟨by rfl, ?_⟩) ?_ ?_
            rotate_left
            · intro w'
              go_simp
              with_reducible rfl
            rotate_left
            · simp only [Act.put, List.setIfInBounds_toArray, List.set_cons_zero, List.set_cons_succ, i64_w, i32_w]
              rfl
            refine pure_ (i := 17) (N := some 65) (v := ?_) (a' := ?_) #[true, true, true, true, true, true, true, true, true, true, true, true, true, true, true, true, true, true] rfl rfl (by kernel_rfl) (fun _ _ _ h => h) (Or.inl ⟨by rfl, ?_⟩) ?_ ?_
            rotate_left
            · intro w'
              go_simp
              with_reducible rfl
            rotate_left
            · simp only [Act.put, List.setIfInBounds_toArray, List.set_cons_zero, List.set_cons_succ, i64_w, i32_w]
              rfl
            refine done_ (by kernel_rfl) ?_
            clear hHeld d0 d0'
            obtain ⟨p0, p1, p2, p3, p4, p5, p6⟩ := C7.of HTe.out
            go_wp2_with fail
            go_roundw
            case rel => exact ⟨k + 1, by omega, by go_num, by rw [hsr.out], HBe⟩
            case measure => simp [intOf]; omega
        · have hdec : decide ((k : Int) < (L.length : Int)) = false := decide_eq_false (by omega)
          obtain rfl : k = L.length := by omega
          have hse : Hid (sum (L.take L.length) = sn) := Lib.hid (by rw [List.take_length, Hsn.out])
          rw [hse.out]
          have hne : (sn != sn) = false := by simp
          have hgt : decide (budget < sn) = false := decide_eq_false (by omega)
          go_wp2_with fail
          clear hne hgt hse
          have HB0 := Lib.hid HB.out
          clear HB
          go_loopw [81] (fun v81 wq => ∃ k : Nat, k ≤ l.length ∧ v81 = .int .i64 k ∧ Hid (Below w3.heap.size w3 wq)) (fun v _ => l.length - (intOf v).toNat)
          case atStart => exact ⟨0, by omega, rfl, HB0⟩
          case round =>
            obtain ⟨k, hk, rfl, hB⟩ := hrel
            have HB := Lib.hid hB.out
            clear hB HB0
            by_cases hlt : k < l.length
            · have hdec : decide ((k : Int) < (l.length : Int)) = true := decide_eq_true (by omega)
              obtain ⟨ad, rfl, p0, p1, p2, p3, p4, p5, p6⟩ := at32 (Kd.C_below HL.out (B3.out.trans (HB.out.mono B3.out.size))) hlt
              have Hpass := Lib.hid (HBn.out.pass l[k] (List.getElem_mem hlt))
              have Hfirst : Hid (firstB l budget l[k] l.length = true → hasB L l[k] = true) := Lib.hid (fun h => HBn.out.first l[k] (List.getElem_mem hlt) (by unfold firstB at h; rwa [List.take_length] at h))
              generalize l[k] = x at *
              have hba := (Below.refl wr.heap.size wr).alloc (Nat.le_refl _) (.cells #[.string x.f0.f0, .int .i64 x.f0.f1, .int .i64 x.f1, .int .i64 x.f2, .int .i64 x.f3.f0, .int .i64 x.f3.f1, .int .i64 x.f4] 32)
              have HT : Hid ((wr.alloc (.cells #[.string x.f0.f0, .int .i64 x.f0.f1, .int .i64 x.f1, .int .i64 x.f2, .int .i64 x.f3.f0, .int .i64 x.f3.f1, .int .i64 x.f4] 32)).heap[wr.heap.size]? = some (.cells (tcells x) 32 (0, 0))) := Lib.hid (blk_new wr (.cells #[.string x.f0.f0, .int .i64 x.f0.f1, .int .i64 x.f1, .int .i64 x.f2, .int .i64 x.f3.f0, .int .i64 x.f3.f1, .int .i64 x.f4] 32))
              have HBa := Lib.hid (HB.out.trans (hba.mono HB.out.size))
              clear hba HB
              cases hh : hasB L x with
              | true =>
                have HH := Lib.hid hh
                clear hh Hpass
                go_wp2_with fail
                generalize wr.alloc (.cells #[.string x.f0.f0, .int .i64 x.f0.f1, .int .i64 x.f1, .int .i64 x.f2, .int .i64 x.f3.f0, .int .i64 x.f3.f1, .int .i64 x.f4] 32) = w4 at *
                generalize wr.heap.size = g12 at *
                clear p0 p1 p2 p3 p4 p5 p6
                refine (has_c true Al cl L x HH.out _ (Kd.C_below HC.out HBa.out) hcl (by omega)).mono ?_
                rintro e w5 ⟨rfl, hb⟩
                have HB5 := Lib.hid (HBa.out.trans (hb.mono HBa.out.size))
                have HT5 := Lib.hid (blk_below HT.out hb)
                clear hb HBa HT HH
                obtain ⟨p0, p1, p2, p3, p4, p5, p6⟩ := C7.of HT5.out
                go_wp2_with fail
                clear p0 p1 p2 p3 p4 p5 p6
                go_loopw [13, 103] (fun v13 v103 wq => ∃ j : Nat, j ≤ l.length ∧ v103 = .int .i64 j ∧ v13 = .bool (firstB l budget x j) ∧ Hid (wq.heap[g12]? = some (.cells (tcells x) 32 (0, 0))) ∧ Hid (Below w3.heap.size w3 wq)) (fun _ v _ => l.length - (intOf v).toNat)
                case atStart => exact ⟨0, by omega, rfl, by simp [firstB], HT5, HB5⟩
                case round =>
                  obtain ⟨j, hj, rfl, rfl, hT, hB⟩ := hrel
                  have HT := Lib.hid hT.out
                  have HB := Lib.hid hB.out
                  clear hT hB HT5 HB5
                  by_cases hjl : j < l.length
                  · have hdec2 : decide ((j : Int) < (l.length : Int)) = true := decide_eq_true (by omega)
                    obtain ⟨ad', e', p0, p1, p2, p3, p4, p5, p6⟩ := at32 (Kd.C_below HL.out (B3.out.trans (HB.out.mono B3.out.size))) hjl
                    injection e' with e'
                    subst e'
                    have Hsu := Lib.hid (firstB_succ (b := budget) (t := x) hjl)
                    generalize l[j] = y at *
                    have hba := (Below.refl wr.heap.size wr).alloc (Nat.le_refl _) (.cells #[.string y.f0.f0, .int .i64 y.f0.f1, .int .i64 y.f1, .int .i64 y.f2, .int .i64 y.f3.f0, .int .i64 y.f3.f1, .int .i64 y.f4] 32)
                    have HTy : Hid ((wr.alloc (.cells #[.string y.f0.f0, .int .i64 y.f0.f1, .int .i64 y.f1, .int .i64 y.f2, .int .i64 y.f3.f0, .int .i64 y.f3.f1, .int .i64 y.f4] 32)).heap[wr.heap.size]? = some (.cells (tcells y) 32 (0, 0))) := Lib.hid (blk_new wr (.cells #[.string y.f0.f0, .int .i64 y.f0.f1, .int .i64 y.f1, .int .i64 y.f2, .int .i64 y.f3.f0, .int .i64 y.f3.f1, .int .i64 y.f4] 32))
                    have HTa := Lib.hid (blk_below HT.out hba)
                    have HBa := Lib.hid (HB.out.trans (hba.mono HB.out.size))
                    clear hba HB HT
                    cases hfb : firstB l budget x j with
                    | true =>
                      have Hfb := Lib.hid hfb
                      clear hfb
                      obtain ⟨q0, q1, q2, q3, q4, q5, q6⟩ := C7.of HTa.out
                      obtain ⟨r0, r1, r2, r3, r4, r5, r6⟩ := C7.of HTy.out
                      go_wp2_with fail
                      generalize wr.alloc (.cells #[.string y.f0.f0, .int .i64 y.f0.f1, .int .i64 y.f1, .int .i64 y.f2, .int .i64 y.f3.f0, .int .i64 y.f3.f1, .int .i64 y.f4] 32) = w6 at *
                      refine (Compare_calls x y _).mono ?_
                      rintro e w7 ⟨rfl, hb⟩
                      have HB7 := Lib.hid (HBa.out.trans (hb.mono HBa.out.size))
                      have HT7 := Lib.hid (blk_below HTa.out hb)
                      clear p0 p1 p2 p3 p4 p5 p6 q0 q1 q2 q3 q4 q5 q6 r0 r1 r2 r3 r4 r5 r6 hb
                      go_wp2_with fail
                      go_roundw
                      case rel => exact ⟨j + 1, by omega, by go_num, by rw [Hsu.out, Hfb.out, Bool.true_and], HT7, HB7⟩
                      case measure => simp [intOf]; omega
                    | false =>
                      have Hfb := Lib.hid hfb
                      clear hfb
                      go_wp2_with fail
                      go_roundw
                      case rel => exact ⟨j + 1, by omega, by go_num, by rw [Hsu.out, Hfb.out, Bool.false_and], HTa, HBa⟩
                      case measure => simp [intOf]; omega
                  · have hdec2 : decide ((j : Int) < (l.length : Int)) = false := decide_eq_false (by omega)
                    obtain rfl : j = l.length := by omega
                    cases hfb : firstB l budget x l.length with
                    | true =>
                      have Hh := Lib.hid (Hfirst.out hfb)
                      have Hfb := Lib.hid hfb
                      clear hfb
                      obtain ⟨q0, q1, q2, q3, q4, q5, q6⟩ := C7.of HT.out
                      go_wp2_with fail
                      refine (has_c true Al cl L x Hh.out _ (Kd.C_below HC.out HB.out) hcl (by omega)).mono ?_
                      rintro e w7 ⟨rfl, hb⟩
                      have HB7 := Lib.hid (HB.out.trans (hb.mono HB.out.size))
                      clear q0 q1 q2 q3 q4 q5 q6 hb
                      go_wp2_with fail
                      go_roundw
                      case rel => exact ⟨k + 1, by omega, by go_num, HB7⟩
                      case measure => simp [intOf]; omega
                    | false =>
                      have Hfb := Lib.hid hfb
                      clear hfb
                      go_wp2_with fail
                      go_roundw
                      case rel => exact ⟨k + 1, by omega, by go_num, HB⟩
                      case measure => simp [intOf]; omega
              | false =>
                have HH := Lib.hid hh
                have HPS : Hid (decide (x.f1 ≤ budget - sn) = false) := Lib.hid (by rw [Hsn.out]; exact Hpass.out hh)
                clear hh Hpass
                go_wp2_with fail
                generalize wr.alloc (.cells #[.string x.f0.f0, .int .i64 x.f0.f1, .int .i64 x.f1, .int .i64 x.f2, .int .i64 x.f3.f0, .int .i64 x.f3.f1, .int .i64 x.f4] 32) = w4 at *
                generalize wr.heap.size = g12 at *
                clear p0 p1 p2 p3 p4 p5 p6
                refine (has_c false Al cl L x HH.out _ (Kd.C_below HC.out HBa.out) hcl (by omega)).mono ?_
                rintro e w5 ⟨rfl, hb⟩
                have HB5 := Lib.hid (HBa.out.trans (hb.mono HBa.out.size))
                have HT5 := Lib.hid (blk_below HT.out hb)
                clear hb HBa HT HH
                have hps := HPS.out
                obtain ⟨p0, p1, p2, p3, p4, p5, p6⟩ := C7.of HT5.out
                go_wp2_with fail
                clear p0 p1 p2 p3 p4 p5 p6
                go_loopw [13, 103] (fun v13 v103 wq => ∃ j : Nat, j ≤ l.length ∧ v103 = .int .i64 j ∧ v13 = .bool (firstB l budget x j) ∧ Hid (wq.heap[g12]? = some (.cells (tcells x) 32 (0, 0))) ∧ Hid (Below w3.heap.size w3 wq)) (fun _ v _ => l.length - (intOf v).toNat)
                case atStart => exact ⟨0, by omega, rfl, by simp [firstB], HT5, HB5⟩
                case round =>
                  obtain ⟨j, hj, rfl, rfl, hT, hB⟩ := hrel
                  have HT := Lib.hid hT.out
                  have HB := Lib.hid hB.out
                  clear hT hB HT5 HB5
                  by_cases hjl : j < l.length
                  · have hdec2 : decide ((j : Int) < (l.length : Int)) = true := decide_eq_true (by omega)
                    obtain ⟨ad', e', p0, p1, p2, p3, p4, p5, p6⟩ := at32 (Kd.C_below HL.out (B3.out.trans (HB.out.mono B3.out.size))) hjl
                    injection e' with e'
                    subst e'
                    have Hsu := Lib.hid (firstB_succ (b := budget) (t := x) hjl)
                    generalize l[j] = y at *
                    have hba := (Below.refl wr.heap.size wr).alloc (Nat.le_refl _) (.cells #[.string y.f0.f0, .int .i64 y.f0.f1, .int .i64 y.f1, .int .i64 y.f2, .int .i64 y.f3.f0, .int .i64 y.f3.f1, .int .i64 y.f4] 32)
                    have HTy : Hid ((wr.alloc (.cells #[.string y.f0.f0, .int .i64 y.f0.f1, .int .i64 y.f1, .int .i64 y.f2, .int .i64 y.f3.f0, .int .i64 y.f3.f1, .int .i64 y.f4] 32)).heap[wr.heap.size]? = some (.cells (tcells y) 32 (0, 0))) := Lib.hid (blk_new wr (.cells #[.string y.f0.f0, .int .i64 y.f0.f1, .int .i64 y.f1, .int .i64 y.f2, .int .i64 y.f3.f0, .int .i64 y.f3.f1, .int .i64 y.f4] 32))
                    have HTa := Lib.hid (blk_below HT.out hba)
                    have HBa := Lib.hid (HB.out.trans (hba.mono HB.out.size))
                    clear hba HB HT
                    cases hfb : firstB l budget x j with
                    | true =>
                      have Hfb := Lib.hid hfb
                      clear hfb
                      obtain ⟨q0, q1, q2, q3, q4, q5, q6⟩ := C7.of HTa.out
                      obtain ⟨r0, r1, r2, r3, r4, r5, r6⟩ := C7.of HTy.out
                      go_wp2_with fail
                      generalize wr.alloc (.cells #[.string y.f0.f0, .int .i64 y.f0.f1, .int .i64 y.f1, .int .i64 y.f2, .int .i64 y.f3.f0, .int .i64 y.f3.f1, .int .i64 y.f4] 32) = w6 at *
                      refine (Compare_calls x y _).mono ?_
                      rintro e w7 ⟨rfl, hb⟩
                      have HB7 := Lib.hid (HBa.out.trans (hb.mono HBa.out.size))
                      have HT7 := Lib.hid (blk_below HTa.out hb)
                      clear p0 p1 p2 p3 p4 p5 p6 q0 q1 q2 q3 q4 q5 q6 r0 r1 r2 r3 r4 r5 r6 hb
                      go_wp2_with fail
                      go_roundw
                      case rel => exact ⟨j + 1, by omega, by go_num, by rw [Hsu.out, Hfb.out, Bool.true_and], HT7, HB7⟩
                      case measure => simp [intOf]; omega
                    | false =>
                      have Hfb := Lib.hid hfb
                      clear hfb
                      go_wp2_with fail
                      go_roundw
                      case rel => exact ⟨j + 1, by omega, by go_num, by rw [Hsu.out, Hfb.out, Bool.false_and], HTa, HBa⟩
                      case measure => simp [intOf]; omega
                  · have hdec2 : decide ((j : Int) < (l.length : Int)) = false := decide_eq_false (by omega)
                    obtain rfl : j = l.length := by omega
                    cases hfb : firstB l budget x l.length with
                    | true =>
                      have Hh := Lib.hid (Hfirst.out hfb)
                      have Hfb := Lib.hid hfb
                      clear hfb
                      obtain ⟨q0, q1, q2, q3, q4, q5, q6⟩ := C7.of HT.out
                      go_wp2_with fail
                      refine (has_c true Al cl L x Hh.out _ (Kd.C_below HC.out HB.out) hcl (by omega)).mono ?_
                      rintro e w7 ⟨rfl, hb⟩
                      have HB7 := Lib.hid (HB.out.trans (hb.mono HB.out.size))
                      clear q0 q1 q2 q3 q4 q5 q6 hb
                      go_wp2_with fail
                      go_roundw
                      case rel => exact ⟨k + 1, by omega, by go_num, HB7⟩
                      case measure => simp [intOf]; omega
                    | false =>
                      have Hfb := Lib.hid hfb
                      clear hfb
                      go_wp2_with fail
                      go_roundw
                      case rel => exact ⟨k + 1, by omega, by go_num, HB⟩
                      case measure => simp [intOf]; omega
            · have hdec : decide ((k : Int) < (l.length : Int)) = false := decide_eq_false (by omega)
              go_wp2_with fail
              go_ret
              exact ⟨rfl, B3.out.trans (HB.out.mono B3.out.size)⟩
theorem Bounds_law (A : Option Addr) (c : Nat) (l : List S32) (budget : Int) {w : World} (h : l.length ≤ c ∧ Kd.C k32 w A l.length l) (_ : True) (hb : (Lit.int .i64 budget).wf = true) : Calls Try.prog 8 #[.slice A l.length c, .int .i64 budget] w fun e w' => e = .returned (.bool true) ∧ Below w.heap.size w w' :=
  bounds_walk awake_calls A c l budget w h.1 h.2 (bounds_i64 hb).2
end Go.Proofs.Ytkngdlmlijefbaa.Pq
