/- run: calls on a new clock, as a contract; what the calls keep. -/
import Derived.Test.YtpacadeldhcckaaDK
namespace Go.Proofs.Ytpacadeldhcckaa.Dc
open Go.RowKit Go.Proofs.YtpacadeldhcckaaW.PrintWords Go.Proofs.YtpacadeldhcckaaW.PrintLast Go.Proofs.YtpacadeldhcckaaW.PrintMore Go.Proofs.Mp
set_option linter.unusedVariables false
set_option linter.unusedSimpArgs false
attribute [local go_sem] max_ii min_ii

/-- One call. -/
inductive Step1 (x : Op3) (C : Ck) : Ck → Prop
  | read (h : x.f0 = 1) : Step1 x C (C.read x.f2)
  | hear (h : x.f0 ≠ 1) (i : Nat) (hi : i < 12) (he : x.f1 = i) (hd : IsDay x.f2) (s : Int) (hs : IsSupp C.first C.quorum (tell C.told i x.f2) s) : Step1 x C (C.heard i x.f2 s)
  | none (h : x.f0 ≠ 1) (hn : ¬ ((0 ≤ x.f1 ∧ x.f1 < 12) ∧ IsDay x.f2)) : Step1 x C C
inductive Runs (C0 : Ck) : List Op3 → Ck → Prop
  | nil : Runs C0 [] C0
  | snoc {l : List Op3} {C C' : Ck} {x : Op3} (h : Runs C0 l C) (hs : Step1 x C C') : Runs C0 (l ++ [x]) C'
theorem Step1.inv {x : Op3} {C C' : Ck} {s : Int} (hq : Q3 x) (h : Step1 x C C') (hC : CInv C s) : ∃ s', CInv C' s' ∧ C'.first = C.first ∧ C'.quorum = C.quorum := by
  cases h with
  | read h => exact ⟨s, (hC.read _ hq.2.2).1, rfl, rfl⟩
  | hear h i hi he hd s' hs =>
    refine ⟨s', (hC.heard hi hd hs).1, ?_, ?_⟩ <;> (unfold Ck.heard; split <;> rfl)
  | none h hn => exact ⟨s, hC, rfl, rfl⟩
set_option maxHeartbeats 400000 in
set_option maxRecDepth 100000 in
theorem run_no (day leap q : Int) (A : Option Addr) (c k : Nat) (h : ¬ Args day leap q) (w : World) : Calls Try.prog 16 #[.int .i64 day, .int .i64 leap, .int .i64 q, .slice A k c] w fun e w' => e = .returned (.pointer none) ∧ Below w.heap.size w w' := by
  have HN := Lib.hid (New_no day leap q w h)
  clear h
  go_enter Try.func16, Try.ntmps16
  go_wp2_with fail
  refine HN.out.mono ?_
  rintro e w1 ⟨rfl, hb⟩
  have B1 := Lib.hid hb
  clear hb
  go_wp2_with fail
  go_ret
  exact ⟨rfl, B1.out⟩
set_option maxHeartbeats 1000000 in
set_option maxRecDepth 100000 in
theorem run_yes (day leap q : Int) (A : Option Addr) (c : Nat) (l : List Op3) (h : Args day leap q) (hk : l.length ≤ 100) (w : World) (hl : Kd.C k3 w A l.length l) (hq : ∀ p ∈ l, Q3 p) :
    Calls Try.prog 16 #[.int .i64 day, .int .i64 leap, .int .i64 q, .slice A l.length c] w fun e w' => e = .returned (.pointer (some ⟨w.heap.size, 0, none⟩)) ∧ ∃ C s, Runs (Ck.new day leap q) l C ∧ CInv C s ∧ C.first = day ∧ C.quorum = q ∧ ClkAt w' w.heap.size C ∧ Below w.heap.size w w' := by
  have HN := Lib.hid (New_yes day leap q w h)
  have HI := Lib.hid (CInv.new h)
  have Hl := Lib.hid hl
  have Hq := Lib.hid hq
  clear hl hq h
  go_enter Try.func16, Try.ntmps16
  go_wp2_with fail
  refine HN.out.mono ?_
  rintro e w1 ⟨rfl, hc, hb⟩
  have H2 := Lib.hid hc
  have B2 := Lib.hid hb
  clear hb hc HN
  obtain ⟨g, hg⟩ : ∃ g, g = w.heap.size := ⟨_, rfl⟩
  rw [← hg] at H2 ⊢
  have Hg := Lib.hid hg
  clear hg
  go_wp2_with fail
  go_loopw [11] (fun vi wr => ∃ (i : Nat) (C : Ck) (s : Int), i ≤ l.length ∧ vi = .int .i64 i ∧ Hid (Runs (Ck.new day leap q) (l.take i) C ∧ CInv C s ∧ C.first = day ∧ C.quorum = q) ∧ Hid (ClkAt wr g C) ∧ Hid (Below w.heap.size w wr)) (fun vi _ => l.length - (intOf vi).toNat)
  case atStart => exact ⟨0, _, _, by omega, rfl, Lib.hid ⟨Runs.nil, HI.out, rfl, rfl⟩, H2, B2⟩
  case round =>
    obtain ⟨i, C, s, hi, rfl, hI, hC, hB⟩ := hrel
    have HIC := Lib.hid hI.out
    have HC := Lib.hid hC.out
    have HB := Lib.hid hB.out
    clear hI hC hB HI H2 B2
    by_cases hlt : i < l.length
    · have hdec : decide ((i : Int) < (l.length : Int)) = true := decide_eq_true (by omega)
      obtain ⟨ad, rfl, ha0, ha1, ha2⟩ := at3 (Kd.C_below Hl.out HB.out) i (by omega) (by omega)
      rw [Int.toNat_natCast] at ha0 ha1 ha2
      have hxi : rd3 l (i : Int) = l[i] := by unfold rd3; rw [Int.toNat_natCast, List.getD_eq_getElem?_getD, List.getElem?_eq_getElem hlt]; rfl
      have hxq : Hid (Q3 (rd3 l i)) := Lib.hid (Hq.out _ (by rw [hxi]; exact List.getElem_mem hlt))
      have Hst : Hid (∀ C', Step1 (rd3 l i) C C' → Runs (Ck.new day leap q) (l.take (i + 1)) C' ∧ ∃ s', CInv C' s' ∧ C'.first = day ∧ C'.quorum = q) := Lib.hid (fun C' hs => by
        obtain ⟨k1, k2, k3', k4⟩ := HIC.out
        obtain ⟨s', e1, e2, e3⟩ := hs.inv hxq.out k2
        refine ⟨?_, s', e1, e2.trans k3', e3.trans k4⟩
        rw [List.take_succ_eq_append_getElem hlt, ← hxi]
        exact k1.snoc hs)
      clear hxi
      generalize rd3 l (i : Int) = x at *
      obtain ⟨xk, xv, xd⟩ := x
      simp only at ha0 ha1 ha2
      by_cases hk1 : xk = 1
      · have hkd : (xk == 1) = true := beq_iff_eq.2 hk1
        have HR := Lib.hid (Read_calls g C xd wr HC.out HIC.out.2.1.ok hxq.out.2.2)
        have HS := Lib.hid (Hst.out _ (Step1.read (x := ⟨xk, xv, xd⟩) hk1))
        clear hk1
        go_wp2_with fail
        refine HR.out.mono ?_
        rintro e w4 ⟨rfl, hc, hf⟩
        have H4 := Lib.hid hc
        have B4 := Lib.hid (HB.out.trans (hf.below HB.out.size (fun i hi e => by have := Hg.out; omega)))
        clear hc hf HR ha0 ha1 ha2
        go_wp2_with fail
        go_roundw
        case rel =>
          obtain ⟨k1, s', k2, k3', k4⟩ := HS.out
          exact ⟨i + 1, _, s', by omega, by go_num, Lib.hid ⟨k1, k2, k3', k4⟩, H4, B4⟩
        case measure => simp [intOf]; omega
      · have hkd : (xk == 1) = false := beq_eq_false_iff_ne.2 hk1
        have Hk1 := Lib.hid hk1
        have HP1 := Lib.hid ha1
        have HP2 := Lib.hid ha2
        clear hk1
        go_wp2_with fail
        refine start_ (n := 12) (S := fun W => W.cell? ⟨(ad.add (i * 3)).block, (ad.add (i * 3)).off + 1, none⟩ = some (.int .i64 xv) ∧ W.cell? ⟨(ad.add (i * 3)).block, (ad.add (i * 3)).off + 2, none⟩ = some (.int .i64 xd)) (ds := []) #[false, false, false, false, false, false, false, false, false, false, false, false] (by kernel_rfl) rfl rfl ⟨HP1.out, HP2.out⟩ (fun hHeld => ?_)
        refine pure_ (i := 0) (N := some 40) (v := ?_) (a' := ?_) #[true, false, false, false, false, false, false, false, false, false, false, false] rfl rfl (by kernel_rfl) (fun _ _ _ h => h) (Or.inl ⟨by rfl, ?_⟩) ?_ ?_
        rotate_left
        · intro w'
          go_simp
          with_reducible rfl
        rotate_left
        · simp only [Act.put, List.setIfInBounds_toArray, List.set_cons_zero, List.set_cons_succ, i64_w, i32_w]
          rfl
        refine pure_ (i := 1) (N := some 41) (v := ?_) (a' := ?_) #[true, true, false, false, false, false, false, false, false, false, false, false] rfl rfl (by kernel_rfl) (fun _ _ _ h => h) (Or.inl ⟨by rfl, ?_⟩) ?_ ?_
        rotate_left
        · intro w'
          go_simp
          with_reducible rfl
        rotate_left
        · simp only [Act.put, List.setIfInBounds_toArray, List.set_cons_zero, List.set_cons_succ, i64_w, i32_w]
          rfl
        refine pure_ (i := 2) (N := some 42) (v := ?_) (a' := ?_) #[true, true, true, false, false, false, false, false, false, false, false, false] rfl rfl (by kernel_rfl) (fun _ _ _ h => h) (Or.inl ⟨by rfl, ?_⟩) ?_ ?_
        rotate_left
        · intro w'
          go_simp
          with_reducible rfl
        rotate_left
        · simp only [Act.put, List.setIfInBounds_toArray, List.set_cons_zero, List.set_cons_succ, i64_w, i32_w]
          rfl
        refine pure_ (i := 3) (N := some 43) (v := ?_) (a' := ?_) #[true, true, true, true, false, false, false, false, false, false, false, false] rfl rfl (by kernel_rfl) (fun _ _ _ h => h) (Or.inl ⟨by rfl, ?_⟩) ?_ ?_
        rotate_left
        · intro w'
          go_simp
          with_reducible rfl
        rotate_left
        · simp only [Act.put, List.setIfInBounds_toArray, List.set_cons_zero, List.set_cons_succ, i64_w, i32_w]
          rfl
        refine pure_ (i := 4) (N := some 44) (v := ?_) (a' := ?_) #[true, true, true, true, true, false, false, false, false, false, false, false] rfl rfl (by kernel_rfl) (fun _ _ _ h => h) (Or.inl ⟨by rfl, ?_⟩) ?_ ?_
        rotate_left
        · intro w'
          go_simp
          with_reducible rfl
        rotate_left
        · simp only [Act.put, List.setIfInBounds_toArray, List.set_cons_zero, List.set_cons_succ, i64_w, i32_w]
          rfl
        refine take_ (i := 5) (N := some 45) (v := ?_) (a' := ?_) #[true, true, true, true, true, true, false, false, false, false, false, false] rfl rfl (by kernel_rfl) (fun _ _ _ h => h) (Or.inl ⟨by rfl, ?_⟩) hHeld ?_ ?_
        rotate_left
        · rintro w' ⟨s0, s1⟩
          go_simp
          with_reducible rfl
        rotate_left
        · simp only [Act.put, List.setIfInBounds_toArray, List.set_cons_zero, List.set_cons_succ, i64_w, i32_w]
          rfl
        refine pure_ (i := 6) (N := some 46) (v := ?_) (a' := ?_) #[true, true, true, true, true, true, true, false, false, false, false, false] rfl rfl (by kernel_rfl) (fun _ _ _ h => h) (Or.inl ⟨by rfl, ?_⟩) ?_ ?_
        rotate_left
        · intro w'
          go_simp
          with_reducible rfl
        rotate_left
        · simp only [Act.put, List.setIfInBounds_toArray, List.set_cons_zero, List.set_cons_succ, i64_w, i32_w]
          rfl
        refine pure_ (i := 7) (N := some 47) (v := ?_) (a' := ?_) #[true, true, true, true, true, true, true, true, false, false, false, false] rfl rfl (by kernel_rfl) (fun _ _ _ h => h) (Or.inl ⟨by rfl, ?_⟩) ?_ ?_
        rotate_left
        · intro w'
          go_simp
          with_reducible rfl
        rotate_left
        · simp only [Act.put, List.setIfInBounds_toArray, List.set_cons_zero, List.set_cons_succ, i64_w, i32_w]
          rfl
        refine pure_ (i := 8) (N := some 48) (v := ?_) (a' := ?_) #[true, true, true, true, true, true, true, true, true, false, false, false] rfl rfl (by kernel_rfl) (fun _ _ _ h => h) (Or.inl ⟨by rfl, ?_⟩) ?_ ?_
        rotate_left
        · intro w'
          go_simp
          with_reducible rfl
        rotate_left
        · simp only [Act.put, List.setIfInBounds_toArray, List.set_cons_zero, List.set_cons_succ, i64_w, i32_w]
          rfl
        refine pure_ (i := 9) (N := some 49) (v := ?_) (a' := ?_) #[true, true, true, true, true, true, true, true, true, true, false, false] rfl rfl (by kernel_rfl) (fun _ _ _ h => h) (Or.inl ⟨by rfl, ?_⟩) ?_ ?_
        rotate_left
        · intro w'
          go_simp
          with_reducible rfl
        rotate_left
        · simp only [Act.put, List.setIfInBounds_toArray, List.set_cons_zero, List.set_cons_succ, i64_w, i32_w]
          rfl
        refine take_ (i := 10) (N := some 50) (v := ?_) (a' := ?_) #[true, true, true, true, true, true, true, true, true, true, true, false] rfl rfl (by kernel_rfl) (fun _ _ _ h => h) (Or.inl ⟨by rfl, ?_⟩) hHeld ?_ ?_
        rotate_left
        · rintro w' ⟨s0, s1⟩
          go_simp
          with_reducible rfl
        rotate_left
        · simp only [Act.put, List.setIfInBounds_toArray, List.set_cons_zero, List.set_cons_succ, i64_w, i32_w]
          rfl
        have HCd := Lib.hid (show ClkAt wr.drew g C from HC.out)
        have HBd := Lib.hid HB.out.drew
        generalize wr.drew = wd at *
        clear HP1 HP2 ha0 ha1 ha2 HC HB
        refine one_ (i := 11) (N := some 51) #[true, true, true, true, true, true, true, true, true, true, true, true] rfl rfl (by kernel_rfl) (by decide) (fun K hK => ?_)
        refine goes_ Try.func15 (by kernel_rfl) rfl #[.pointer (some ⟨g, 0, none⟩), .int .i64 xv, .int .i64 xd] (by rfl) rfl rfl (by (try simp only [List.map_toArray, List.map_cons, List.map_nil]); first | done | rfl) ?_
        by_cases hv : (0 ≤ xv ∧ xv < 12) ∧ IsDay xd
        · obtain ⟨m, hm⟩ := Int.eq_ofNat_of_zero_le hv.1.1
          have hm12 : m < 12 := by omega
          have hday := hv.2
          subst hm
          clear hv
          refine (Hear_yes g C m xd _ HCd.out HIC.out.2.1.ok hm12 hday).mono ?_
          rintro e w4 ⟨s2, rfl, hs2, hc, hf⟩
          have HS := Lib.hid (Hst.out _ (Step1.hear (x := ⟨xk, (m : Int), xd⟩) Hk1.out m hm12 rfl hday s2 hs2))
          have H4 := Lib.hid hc
          have B4 := Lib.hid (HBd.out.trans (hf.below HBd.out.size (fun i hi e => by have := Hg.out; omega)))
          have hcell : ∀ (p : Addr) (v : Value), p.block ≠ g → wd.cell? p = some v → w4.cell? p = some v := fun p v hp h => (hf.cell (p := p) (World.block_lt_of_cell? _ _ h) hp).trans h
          have hadg : (ad.add (i * 3)).block ≠ g := fun e => by
            obtain ⟨_, _, h5⟩ := id Hl.out
            obtain ⟨ad', e1, h6⟩ := h5 (by omega)
            injection e1 with e1
            subst e1
            obtain ⟨p, hp⟩ : ∃ p, l[i]? = some p := ⟨_, List.getElem?_eq_getElem hlt⟩
            obtain ⟨cc, k1, k2, k4⟩ := h6 i p hp
            obtain rfl := k3_open k2
            have := World.block_lt_of_cell? _ _ (k4 0 _ rfl)
            have e2 : k3.sz = 3 := rfl
            rw [e2, Nat.add_zero] at this
            have := Hg.out
            omega
          refine ⟨_, rfl, hK.out _ _ ⟨hcell _ _ hadg hHeld.1, hcell _ _ hadg hHeld.2⟩ (fun hHeld => ?_)⟩
          clear hK K hc hf hs2 hcell hadg
          refine norm_ (a' := ?_) ?_ ?_
          rotate_left
          · simp only [Act.put, List.setIfInBounds_toArray, List.set_cons_zero, List.set_cons_succ, i64_w, i32_w]
            rfl
          clear hHeld
          refine done_ (by kernel_rfl) ?_
          go_wp2_with fail
          go_roundw
          case rel =>
            obtain ⟨k1, s', k2, k3', k4⟩ := HS.out
            exact ⟨i + 1, _, s', by omega, by go_num, Lib.hid ⟨k1, k2, k3', k4⟩, H4, B4⟩
          case measure => simp [intOf]; omega
        · have HS := Lib.hid (Hst.out _ (Step1.none (x := ⟨xk, xv, xd⟩) Hk1.out hv))
          refine (Hear_no g xv xd _ hv).mono ?_
          rintro e w4 ⟨rfl, hb⟩
          have H4 := Lib.hid (HCd.out.below hb)
          have B4 := Lib.hid (HBd.out.trans (hb.mono HBd.out.size))
          refine ⟨_, rfl, hK.out _ _ ⟨(hb.cell (p := ⟨(ad.add (i * 3)).block, (ad.add (i * 3)).off + 1, none⟩) (World.block_lt_of_cell? _ _ hHeld.1)).trans hHeld.1, (hb.cell (p := ⟨(ad.add (i * 3)).block, (ad.add (i * 3)).off + 2, none⟩) (World.block_lt_of_cell? _ _ hHeld.2)).trans hHeld.2⟩ (fun hHeld => ?_)⟩
          clear hK K hb hv
          refine norm_ (a' := ?_) ?_ ?_
          rotate_left
          · simp only [Act.put, List.setIfInBounds_toArray, List.set_cons_zero, List.set_cons_succ, i64_w, i32_w]
            rfl
          clear hHeld
          refine done_ (by kernel_rfl) ?_
          go_wp2_with fail
          go_roundw
          case rel =>
            obtain ⟨k1, s', k2, k3', k4⟩ := HS.out
            exact ⟨i + 1, _, s', by omega, by go_num, Lib.hid ⟨k1, k2, k3', k4⟩, H4, B4⟩
          case measure => simp [intOf]; omega
    · have hdec : decide ((i : Int) < (l.length : Int)) = false := decide_eq_false (by omega)
      obtain rfl : i = l.length := by omega
      have HIC2 : Hid (Runs (Ck.new day leap q) l C ∧ CInv C s ∧ C.first = day ∧ C.quorum = q) := Lib.hid (by have := HIC.out; rwa [List.take_length] at this)
      go_wp2_with fail
      go_ret
      rw [← Hg.out]
      exact ⟨rfl, C, s, HIC2.out.1, HIC2.out.2.1, HIC2.out.2.2.1, HIC2.out.2.2.2, HC.out, by rw [Hg.out]; exact HB.out⟩
end Go.Proofs.Ytpacadeldhcckaa.Dc
