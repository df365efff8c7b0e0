/- The law DayclockRises: its walk, for every day, leap, quorum and list of calls, on the heap as it is. -/
import Derived.Test.YtpacadeldhcckaaDG
import Derived.Test.YtpacadeldhcckaaDJ
namespace Go.Proofs.Ytpacadeldhcckaa.Dc
open Go.RowKit Go.Proofs.YtpacadeldhcckaaW.PrintWords Go.Proofs.YtpacadeldhcckaaW.PrintLast Go.Proofs.YtpacadeldhcckaaW.PrintMore Go.Proofs.Mp
set_option linter.unusedVariables false
set_option linter.unusedSimpArgs false
attribute [local go_sem] max_ii min_ii

theorem countP_set_le {α : Type} (p : α → Bool) : ∀ (l : List α) (i : Nat) (x : α), (∀ y, l[i]? = some y → p y = true → p x = true) → l.countP p ≤ (l.set i x).countP p
  | [], i, x, _ => by simp
  | y :: l, 0, x, h => by
    have := h y rfl
    simp only [List.set_cons_zero, List.countP_cons]
    cases hy : p y with
    | false => simp
    | true => rw [this hy]; simp
  | y :: l, i + 1, x, h => by
    have := countP_set_le p l i x (fun z hz => h z (by simpa using hz))
    simp only [List.set_cons_succ, List.countP_cons]
    omega
theorem cge_tell (l : List (Bool × Int)) (i : Nat) (e d : Int) : cge l d ≤ cge (tell l i e) d := by
  unfold cge tell
  refine countP_set_le _ l i _ (fun y hy hp => ?_)
  rw [List.getD_eq_getElem?_getD, hy]
  simp only [Bool.and_eq_true, decide_eq_true_eq, Option.getD_some] at hp ⊢
  first | exact ⟨trivial, by omega⟩ | exact ⟨rfl, by omega⟩
/-- What the calls keep. -/
structure CInv (C : Ck) (s : Int) : Prop where
  ok : C.Ok
  supp : IsSupp C.first C.quorum C.told s
  le : s ≤ C.day
  own : C.day ≤ s + C.own
theorem CInv.day {C : Ck} {s : Int} (h : CInv C s) : IsDay s := h.supp.day h.ok.first h.ok.q0 h.ok.days
theorem CInv.read {C : Ck} {s : Int} (h : CInv C s) (wall : Int) (hw : In64 wall) : CInv (C.read wall) s ∧ C.day ≤ (C.read wall).day := by
  have h1 := Ck.step_bd h.ok wall
  have h2 := h.le
  have h3 := h.own
  refine ⟨⟨Ck.read_ok h.ok wall hw, h.supp, ?_, ?_⟩, ?_⟩
  · show s ≤ C.day + C.step wall; omega
  · show C.day + C.step wall ≤ s + (C.own + C.step wall); omega
  · show C.day ≤ C.day + C.step wall; omega
theorem supp_mono {f q : Int} {l : List (Bool × Int)} {s s' : Int} {i : Nat} {e : Int} (h : IsSupp f q l s) (h' : IsSupp f q (tell l i e) s') : s ≤ s' := by
  refine (h' s).2 ?_
  rcases (h s).1 (Int.le_refl _) with h1 | h1
  · exact .inl h1
  · exact .inr (by have := cge_tell l i e s; omega)
theorem CInv.heard {C : Ck} {s s' : Int} (h : CInv C s) {i : Nat} (hi : i < 12) {d : Int} (hd : IsDay d) (hs : IsSupp C.first C.quorum (tell C.told i d) s') : CInv (C.heard i d s') s' ∧ C.day ≤ (C.heard i d s').day := by
  have hok := Ck.heard_ok h.ok hi hd hs
  have h1 := supp_mono h.supp hs
  have h2 := h.own
  unfold Ck.heard at hok ⊢
  by_cases hc : C.day < s'
  · rw [if_pos hc] at hok ⊢
    exact ⟨⟨hok, hs, Int.le_refl _, by simp⟩, by simp only; omega⟩
  · rw [if_neg hc] at hok ⊢
    exact ⟨⟨hok, hs, by simp only; omega, by simp only; omega⟩, Int.le_refl _⟩
theorem CInv.new {day leap q : Int} (h : Args day leap q) : CInv (Ck.new day leap q) day := by
  refine ⟨Ck.new_ok h, fun d => ?_, Int.le_refl _, by show day ≤ day + 0; omega⟩
  have : cge (Ck.new day leap q).told d = 0 := by simp [cge, Ck.new, List.replicate, List.countP_cons]
  rw [this]
  have := h.2.2.1
  show d ≤ day ↔ d ≤ day ∨ q ≤ ((0 : Nat) : Int)
  omega
set_option maxHeartbeats 400000 in
set_option maxRecDepth 100000 in
theorem rises_bad (day leap q : Int) (A : Option Addr) (c k : Nat) (h : ¬ Args day leap q) (w : World) : Calls Try.prog 4 #[.int .i64 day, .int .i64 leap, .int .i64 q, .slice A k c] w fun e w' => e = .returned (.bool true) ∧ Below w.heap.size w w' := by
  have HN := Lib.hid (New_no day leap q w h)
  clear h
  go_enter Try.func4, Try.ntmps4
  go_wp2_with fail
  refine HN.out.mono ?_
  rintro e w1 ⟨rfl, hb⟩
  have B1 := Lib.hid hb
  clear hb
  go_wp2_with fail
  refine (awake_calls _).mono ?_
  rintro e w2 ⟨rfl, hb⟩
  have B2 := Lib.hid (B1.out.trans (hb.mono B1.out.size))
  clear hb
  go_wp2_with fail
  refine (awake_calls _).mono ?_
  rintro e w3 ⟨rfl, hb⟩
  have B3 := Lib.hid (B2.out.trans (hb.mono B2.out.size))
  clear hb
  go_wp2_with fail
  go_ret
  exact ⟨rfl, B3.out⟩
set_option maxHeartbeats 400000 in
set_option maxRecDepth 100000 in
theorem rises_long (day leap q : Int) (A : Option Addr) (c k : Nat) (h : Args day leap q) (hk : k ≤ 9223372036854775807) (ho : 30 < k) (w : World) : Calls Try.prog 4 #[.int .i64 day, .int .i64 leap, .int .i64 q, .slice A k c] w fun e w' => e = .returned (.bool true) ∧ Below w.heap.size w w' := by
  have HN := Lib.hid (New_yes day leap q w h)
  clear h
  go_enter Try.func4, Try.ntmps4
  go_wp2_with fail
  refine HN.out.mono ?_
  rintro e w1 ⟨rfl, hc, hb⟩
  have B1 := Lib.hid hb
  clear hb hc
  have q1 : (30 : Int) < k := by omega
  go_wp2_with fail
  refine (awake_calls _).mono ?_
  rintro e w2 ⟨rfl, hb⟩
  have B2 := Lib.hid (B1.out.trans (hb.mono B1.out.size))
  clear hb
  go_wp2_with fail
  refine (awake_calls _).mono ?_
  rintro e w3 ⟨rfl, hb⟩
  have B3 := Lib.hid (B2.out.trans (hb.mono B2.out.size))
  clear hb
  go_wp2_with fail
  go_ret
  exact ⟨rfl, B3.out⟩
set_option maxHeartbeats 1000000 in
set_option maxRecDepth 100000 in
theorem rises_main (day leap q : Int) (A : Option Addr) (c : Nat) (l : List Op3) (h : Args day leap q) (hk : l.length ≤ 30) (w : World) (hl : Kd.C k3 w A l.length l) (hq : ∀ p ∈ l, Q3 p) :
    Calls Try.prog 4 #[.int .i64 day, .int .i64 leap, .int .i64 q, .slice A l.length c] w fun e w' => e = .returned (.bool true) ∧ Below w.heap.size w w' := by
  have HN := Lib.hid (New_yes day leap q w h)
  have HI := Lib.hid (CInv.new h)
  have Hl := Lib.hid hl
  have Hq := Lib.hid hq
  have hkk : ¬ (30 : Int) < (l.length : Int) := by omega
  clear hl hq h
  go_enter Try.func4, Try.ntmps4
  go_wp2_with fail
  refine HN.out.mono ?_
  rintro e w1 ⟨rfl, hc, hb⟩
  have H1 := Lib.hid hc
  have B1 := Lib.hid hb
  clear hb hc HN
  go_wp2_with fail
  refine (awake_calls _).mono ?_
  rintro e w2 ⟨rfl, hb⟩
  have H2 := Lib.hid (H1.out.below hb)
  have B2 := Lib.hid (B1.out.trans (hb.mono B1.out.size))
  clear hb
  obtain ⟨g, hg⟩ : ∃ g, g = w.heap.size := ⟨_, rfl⟩
  rw [← hg] at H2 ⊢
  have Hg := Lib.hid hg
  clear hg H1 B1
  go_wp2_with fail
  refine (Day_calls g _ _ H2.out).mono ?_
  rintro e w3 ⟨rfl, rfl⟩
  go_wp2_with fail
  go_loopw [11, 12] (fun vl vi wr => ∃ (i : Nat) (C : Ck) (s : Int), i ≤ l.length ∧ vi = .int .i64 i ∧ vl = .int .i64 C.day ∧ Hid (CInv C s) ∧ Hid (ClkAt wr g C) ∧ Hid (Below w.heap.size w wr)) (fun _ vi _ => l.length - (intOf vi).toNat)
  case atStart => exact ⟨0, _, _, by omega, rfl, rfl, HI, H2, B2⟩
  case round =>
    obtain ⟨i, C, s, hi, rfl, rfl, hI, hC, hB⟩ := hrel
    have HIC := Lib.hid hI.out
    have HC := Lib.hid hC.out
    have HB := Lib.hid hB.out
    clear hI hC hB HI H2 B2
    by_cases hlt : i < l.length
    · have hdec : decide ((i : Int) < (l.length : Int)) = true := decide_eq_true (by omega)
      obtain ⟨ad, rfl, ha0, ha1, ha2⟩ := at3 (Kd.C_below Hl.out HB.out) i (by omega) (by omega)
      rw [Int.toNat_natCast] at ha0 ha1 ha2
      have hxq : Hid (Q3 (rd3 l i)) := Lib.hid (Hq.out _ (by
        have : rd3 l (i : Int) = l[i] := by unfold rd3; rw [Int.toNat_natCast, List.getD_eq_getElem?_getD, List.getElem?_eq_getElem hlt]; rfl
        rw [this]; exact List.getElem_mem hlt))
      generalize rd3 l (i : Int) = x at *
      obtain ⟨xk, xv, xd⟩ := x
      simp only at ha0 ha1 ha2
      by_cases hk1 : xk = 1
      · have hkd : (xk == 1) = true := beq_iff_eq.2 hk1
        have HR := Lib.hid (Read_calls g C xd wr HC.out HIC.out.ok hxq.out.2.2)
        have hcr := HIC.out.read xd hxq.out.2.2
        have HI2 := Lib.hid hcr.1
        have Hle := Lib.hid hcr.2
        clear hk1 hcr
        go_wp2_with fail
        refine HR.out.mono ?_
        rintro e w4 ⟨rfl, hc, hf⟩
        have H4 := Lib.hid hc
        have B4 := Lib.hid (HB.out.trans (hf.below HB.out.size (fun i hi e => by have := Hg.out; omega)))
        clear hc hf HR
        generalize C.read xd = C2 at *
        generalize C.day = d1 at *
        obtain ⟨s2, hs2⟩ : ∃ s2, s2 = s := ⟨_, rfl⟩
        rw [← hs2] at HI2
        clear hs2 ha0 ha1 ha2
        have hle := Hle.out
        have HDa := Lib.hid (fun w h => Day_calls g C2 w h)
        have HOw := Lib.hid (fun w h => Own_calls g C2 w h)
        have HSu := Lib.hid (fun w h => sp_step g C2 s2 HI2.out.supp HI2.out.ok w h)
        have hs0 := HI2.out.day.1
        have hs1 := HI2.out.day.2
        have hd0 := HI2.out.ok.day.1
        have hd1 := HI2.out.ok.day.2
        have ho0 := HI2.out.ok.own0
        have ho1 := HI2.out.ok.own1
        have hi1 := HI2.out.le
        have hi2 := HI2.out.own
        generalize hD2 : C2.day = d2 at *
        generalize hO2 : C2.own = o2 at *
        have HD2 := Lib.hid hD2
        clear hD2 hO2
        have g1 : decide (d2 < d1) = false := decide_eq_false (by omega)
        have g2 : decide (s2 + o2 < d2) = false := decide_eq_false (by omega)
        have g3 : decide (d2 < s2) = false := decide_eq_false (by omega)
        have g4 : decide ((999999 : Int) < d2) = false := decide_eq_false (by omega)
        go_wp2_with fail
        refine (HDa.out _ H4.out).mono ?_
        rintro e w5 ⟨rfl, rfl⟩
        go_wp2_with fail
        refine (HDa.out _ H4.out).mono ?_
        rintro e w5 ⟨rfl, rfl⟩
        go_wp2_with fail
        refine (HSu.out _ H4.out).mono ?_
        rintro e w6 ⟨rfl, hb⟩
        have H6 := Lib.hid (H4.out.below hb)
        have B6 := Lib.hid (B4.out.trans (hb.mono B4.out.size))
        clear hb
        go_wp2_with fail
        refine (HOw.out _ H6.out).mono ?_
        rintro e w7 ⟨rfl, rfl⟩
        go_wp2_with fail
        refine (HSu.out _ H6.out).mono ?_
        rintro e w8 ⟨rfl, hb⟩
        have H8 := Lib.hid (H6.out.below hb)
        have B8 := Lib.hid (B6.out.trans (hb.mono B6.out.size))
        clear hb
        go_wp2_with fail
        refine (HDa.out _ H8.out).mono ?_
        rintro e w9 ⟨rfl, rfl⟩
        go_wp2_with fail
        refine (HDa.out _ H8.out).mono ?_
        rintro e w9 ⟨rfl, rfl⟩
        go_wp2_with fail
        refine (HDa.out _ H8.out).mono ?_
        rintro e w9 ⟨rfl, rfl⟩
        go_wp2_with fail
        go_roundw
        case rel => exact ⟨i + 1, C2, s2, by omega, by go_num, by rw [HD2.out], HI2, H8, B8⟩
        case measure => simp [intOf]; omega
      · have hkd : (xk == 1) = false := beq_eq_false_iff_ne.2 hk1
        have HP1 := Lib.hid ha1
        have HP2 := Lib.hid ha2
        clear hk1
        go_wp2_with fail
        refine start_ (n := 12) (S := fun W => W.cell? ⟨(ad.add (i * 3)).block, (ad.add (i * 3)).off + 1, none⟩ = some (.int .i64 xv) ∧ W.cell? ⟨(ad.add (i * 3)).block, (ad.add (i * 3)).off + 2, none⟩ = some (.int .i64 xd)) (ds := []) #[false, false, false, false, false, false, false, false, false, false, false, false] (by kernel_rfl) rfl rfl ⟨HP1.out, HP2.out⟩ (fun hHeld => ?_)
        refine pure_ (i := 0) (N := some 65) (v := ?_) (a' := ?_) #[true, false, false, false, false, false, false, false, false, false, false, false] rfl rfl (by kernel_rfl) (fun _ _ _ h => h) (Or.inl ⟨by rfl, ?_⟩) ?_ ?_
        rotate_left
        · intro w'
          go_simp
          with_reducible rfl
        rotate_left
        · simp only [Act.put, List.setIfInBounds_toArray, List.set_cons_zero, List.set_cons_succ, i64_w, i32_w]
          rfl
        refine pure_ (i := 1) (N := some 66) (v := ?_) (a' := ?_) #[true, true, false, false, false, false, false, false, false, false, false, false] rfl rfl (by kernel_rfl) (fun _ _ _ h => h) (Or.inl ⟨by rfl, ?_⟩) ?_ ?_
        rotate_left
        · intro w'
          go_simp
          with_reducible rfl
        rotate_left
        · simp only [Act.put, List.setIfInBounds_toArray, List.set_cons_zero, List.set_cons_succ, i64_w, i32_w]
          rfl
        refine pure_ (i := 2) (N := some 67) (v := ?_) (a' := ?_) #[true, true, true, false, false, false, false, false, false, false, false, false] rfl rfl (by kernel_rfl) (fun _ _ _ h => h) (Or.inl ⟨by rfl, ?_⟩) ?_ ?_
        rotate_left
        · intro w'
          go_simp
          with_reducible rfl
        rotate_left
        · simp only [Act.put, List.setIfInBounds_toArray, List.set_cons_zero, List.set_cons_succ, i64_w, i32_w]
          rfl
        refine pure_ (i := 3) (N := some 68) (v := ?_) (a' := ?_) #[true, true, true, true, false, false, false, false, false, false, false, false] rfl rfl (by kernel_rfl) (fun _ _ _ h => h) (Or.inl ⟨by rfl, ?_⟩) ?_ ?_
        rotate_left
        · intro w'
          go_simp
          with_reducible rfl
        rotate_left
        · simp only [Act.put, List.setIfInBounds_toArray, List.set_cons_zero, List.set_cons_succ, i64_w, i32_w]
          rfl
        refine pure_ (i := 4) (N := some 69) (v := ?_) (a' := ?_) #[true, true, true, true, true, false, false, false, false, false, false, false] rfl rfl (by kernel_rfl) (fun _ _ _ h => h) (Or.inl ⟨by rfl, ?_⟩) ?_ ?_
        rotate_left
        · intro w'
          go_simp
          with_reducible rfl
        rotate_left
        · simp only [Act.put, List.setIfInBounds_toArray, List.set_cons_zero, List.set_cons_succ, i64_w, i32_w]
          rfl
        refine take_ (i := 5) (N := some 70) (v := ?_) (a' := ?_) #[true, true, true, true, true, true, false, false, false, false, false, false] rfl rfl (by kernel_rfl) (fun _ _ _ h => h) (Or.inl ⟨by rfl, ?_⟩) hHeld ?_ ?_
        rotate_left
        · rintro w' ⟨s0, s1⟩
          go_simp
          with_reducible rfl
        rotate_left
        · simp only [Act.put, List.setIfInBounds_toArray, List.set_cons_zero, List.set_cons_succ, i64_w, i32_w]
          rfl
        refine pure_ (i := 6) (N := some 71) (v := ?_) (a' := ?_) #[true, true, true, true, true, true, true, false, false, false, false, false] rfl rfl (by kernel_rfl) (fun _ _ _ h => h) (Or.inl ⟨by rfl, ?_⟩) ?_ ?_
        rotate_left
        · intro w'
          go_simp
          with_reducible rfl
        rotate_left
        · simp only [Act.put, List.setIfInBounds_toArray, List.set_cons_zero, List.set_cons_succ, i64_w, i32_w]
          rfl
        refine pure_ (i := 7) (N := some 72) (v := ?_) (a' := ?_) #[true, true, true, true, true, true, true, true, false, false, false, false] rfl rfl (by kernel_rfl) (fun _ _ _ h => h) (Or.inl ⟨by rfl, ?_⟩) ?_ ?_
        rotate_left
        · intro w'
          go_simp
          with_reducible rfl
        rotate_left
        · simp only [Act.put, List.setIfInBounds_toArray, List.set_cons_zero, List.set_cons_succ, i64_w, i32_w]
          rfl
        refine pure_ (i := 8) (N := some 73) (v := ?_) (a' := ?_) #[true, true, true, true, true, true, true, true, true, false, false, false] rfl rfl (by kernel_rfl) (fun _ _ _ h => h) (Or.inl ⟨by rfl, ?_⟩) ?_ ?_
        rotate_left
        · intro w'
          go_simp
          with_reducible rfl
        rotate_left
        · simp only [Act.put, List.setIfInBounds_toArray, List.set_cons_zero, List.set_cons_succ, i64_w, i32_w]
          rfl
        refine pure_ (i := 9) (N := some 74) (v := ?_) (a' := ?_) #[true, true, true, true, true, true, true, true, true, true, false, false] rfl rfl (by kernel_rfl) (fun _ _ _ h => h) (Or.inl ⟨by rfl, ?_⟩) ?_ ?_
        rotate_left
        · intro w'
          go_simp
          with_reducible rfl
        rotate_left
        · simp only [Act.put, List.setIfInBounds_toArray, List.set_cons_zero, List.set_cons_succ, i64_w, i32_w]
          rfl
        refine take_ (i := 10) (N := some 75) (v := ?_) (a' := ?_) #[true, true, true, true, true, true, true, true, true, true, true, false] rfl rfl (by kernel_rfl) (fun _ _ _ h => h) (Or.inl ⟨by rfl, ?_⟩) hHeld ?_ ?_
        rotate_left
        · rintro w' ⟨s0, s1⟩
          go_simp
          with_reducible rfl
        rotate_left
        · simp only [Act.put, List.setIfInBounds_toArray, List.set_cons_zero, List.set_cons_succ, i64_w, i32_w]
          rfl
        have HCd := Lib.hid (show ClkAt wr.drew g C from HC.out)
        have HBd := Lib.hid HB.out.drew
        generalize wr.drew = wd at *
        clear HP1 HP2 ha0 ha1 ha2 HC HB
        refine one_ (i := 11) (N := some 76) #[true, true, true, true, true, true, true, true, true, true, true, true] rfl rfl (by kernel_rfl) (by decide) (fun K hK => ?_)
        refine goes_ Try.func15 (by kernel_rfl) rfl #[.pointer (some ⟨g, 0, none⟩), .int .i64 xv, .int .i64 xd] (by rfl) rfl rfl (by (try simp only [List.map_toArray, List.map_cons, List.map_nil]); first | done | rfl) ?_
        by_cases hv : (0 ≤ xv ∧ xv < 12) ∧ IsDay xd
        · obtain ⟨m, hm⟩ := Int.eq_ofNat_of_zero_le hv.1.1
          have hm12 : m < 12 := by omega
          have hday := hv.2
          subst hm
          clear hv
          refine (Hear_yes g C m xd _ HCd.out HIC.out.ok hm12 hday).mono ?_
          rintro e w4 ⟨s2, rfl, hs2, hc, hf⟩
          have hcr := HIC.out.heard hm12 hday hs2
          have HI2 := Lib.hid hcr.1
          have Hle := Lib.hid hcr.2
          have H4 := Lib.hid hc
          have B4 := Lib.hid (HBd.out.trans (hf.below HBd.out.size (fun i hi e => by have := Hg.out; omega)))
          have hcell : ∀ (p : Addr) (v : Value), p.block ≠ g → wd.cell? p = some v → w4.cell? p = some v := fun p v hp h => (hf.cell (p := p) (World.block_lt_of_cell? _ _ h) hp).trans h
          have hadg : (ad.add (i * 3)).block ≠ g := fun e => by
            obtain ⟨_, _, h5⟩ := id Hl.out
            obtain ⟨ad', e1, h6⟩ := h5 (by omega)
            injection e1 with e1
            subst e1
            obtain ⟨p, hp⟩ : ∃ p, l[i]? = some p := ⟨_, List.getElem?_eq_getElem hlt⟩
            obtain ⟨cc, k1, k2, k4⟩ := h6 i p hp
            obtain rfl := k3_open k2
            have := World.block_lt_of_cell? _ _ (k4 0 _ rfl)
            have e2 : k3.sz = 3 := rfl
            rw [e2, Nat.add_zero] at this
            have := Hg.out
            omega
          refine ⟨_, rfl, hK.out _ _ ⟨hcell _ _ hadg hHeld.1, hcell _ _ hadg hHeld.2⟩ (fun hHeld => ?_)⟩
          clear hK K hc hf hs2 hcr hcell hadg
          generalize C.heard m xd s2 = C2 at *
          generalize C.day = d1 at *
          refine norm_ (a' := ?_) ?_ ?_
          rotate_left
          · simp only [Act.put, List.setIfInBounds_toArray, List.set_cons_zero, List.set_cons_succ, i64_w, i32_w]
            rfl
          clear hHeld
          refine done_ (by kernel_rfl) ?_
          have hle := Hle.out
          have HDa := Lib.hid (fun w h => Day_calls g C2 w h)
          have HOw := Lib.hid (fun w h => Own_calls g C2 w h)
          have HSu := Lib.hid (fun w h => sp_step g C2 s2 HI2.out.supp HI2.out.ok w h)
          have hs0 := HI2.out.day.1
          have hs1 := HI2.out.day.2
          have hd0 := HI2.out.ok.day.1
          have hd1 := HI2.out.ok.day.2
          have ho0 := HI2.out.ok.own0
          have ho1 := HI2.out.ok.own1
          have hi1 := HI2.out.le
          have hi2 := HI2.out.own
          generalize hD2 : C2.day = d2 at *
          generalize hO2 : C2.own = o2 at *
          have HD2 := Lib.hid hD2
          clear hD2 hO2
          have g1 : decide (d2 < d1) = false := decide_eq_false (by omega)
          have g2 : decide (s2 + o2 < d2) = false := decide_eq_false (by omega)
          have g3 : decide (d2 < s2) = false := decide_eq_false (by omega)
          have g4 : decide ((999999 : Int) < d2) = false := decide_eq_false (by omega)
          go_wp2_with fail
          refine (HDa.out _ H4.out).mono ?_
          rintro e w5 ⟨rfl, rfl⟩
          go_wp2_with fail
          refine (HDa.out _ H4.out).mono ?_
          rintro e w5 ⟨rfl, rfl⟩
          go_wp2_with fail
          refine (HSu.out _ H4.out).mono ?_
          rintro e w6 ⟨rfl, hb⟩
          have H6 := Lib.hid (H4.out.below hb)
          have B6 := Lib.hid (B4.out.trans (hb.mono B4.out.size))
          clear hb
          go_wp2_with fail
          refine (HOw.out _ H6.out).mono ?_
          rintro e w7 ⟨rfl, rfl⟩
          go_wp2_with fail
          refine (HSu.out _ H6.out).mono ?_
          rintro e w8 ⟨rfl, hb⟩
          have H8 := Lib.hid (H6.out.below hb)
          have B8 := Lib.hid (B6.out.trans (hb.mono B6.out.size))
          clear hb
          go_wp2_with fail
          refine (HDa.out _ H8.out).mono ?_
          rintro e w9 ⟨rfl, rfl⟩
          go_wp2_with fail
          refine (HDa.out _ H8.out).mono ?_
          rintro e w9 ⟨rfl, rfl⟩
          go_wp2_with fail
          refine (HDa.out _ H8.out).mono ?_
          rintro e w9 ⟨rfl, rfl⟩
          go_wp2_with fail
          go_roundw
          case rel => exact ⟨i + 1, C2, s2, by omega, by go_num, by rw [HD2.out], HI2, H8, B8⟩
          case measure => simp [intOf]; omega
        · refine (Hear_no g xv xd _ hv).mono ?_
          rintro e w4 ⟨rfl, hb⟩
          have H4 := Lib.hid (HCd.out.below hb)
          have B4 := Lib.hid (HBd.out.trans (hb.mono HBd.out.size))
          refine ⟨_, rfl, hK.out _ _ ⟨(hb.cell (p := ⟨(ad.add (i * 3)).block, (ad.add (i * 3)).off + 1, none⟩) (World.block_lt_of_cell? _ _ hHeld.1)).trans hHeld.1, (hb.cell (p := ⟨(ad.add (i * 3)).block, (ad.add (i * 3)).off + 2, none⟩) (World.block_lt_of_cell? _ _ hHeld.2)).trans hHeld.2⟩ (fun hHeld => ?_)⟩
          clear hK K hb
          have HI2 := HIC
          have Hle : Hid (C.day ≤ C.day) := Lib.hid (Int.le_refl _)
          obtain ⟨C2, hC2⟩ : ∃ C2, C2 = C := ⟨_, rfl⟩
          obtain ⟨s2, hs2⟩ : ∃ s2, s2 = s := ⟨_, rfl⟩
          obtain ⟨d1, hd1⟩ : ∃ d1, d1 = C.day := ⟨_, rfl⟩
          have Hle : Hid (d1 ≤ C2.day) := Lib.hid (by rw [hC2, hd1]; exact Int.le_refl _)
          rw [← hd1]
          rw [← hC2] at H4
          rw [← hC2, ← hs2] at HI2
          clear hC2 hs2 hd1 hv
          refine norm_ (a' := ?_) ?_ ?_
          rotate_left
          · simp only [Act.put, List.setIfInBounds_toArray, List.set_cons_zero, List.set_cons_succ, i64_w, i32_w]
            rfl
          clear hHeld
          refine done_ (by kernel_rfl) ?_
          have hle := Hle.out
          have HDa := Lib.hid (fun w h => Day_calls g C2 w h)
          have HOw := Lib.hid (fun w h => Own_calls g C2 w h)
          have HSu := Lib.hid (fun w h => sp_step g C2 s2 HI2.out.supp HI2.out.ok w h)
          have hs0 := HI2.out.day.1
          have hs1 := HI2.out.day.2
          have hd0 := HI2.out.ok.day.1
          have hd1 := HI2.out.ok.day.2
          have ho0 := HI2.out.ok.own0
          have ho1 := HI2.out.ok.own1
          have hi1 := HI2.out.le
          have hi2 := HI2.out.own
          generalize hD2 : C2.day = d2 at *
          generalize hO2 : C2.own = o2 at *
          have HD2 := Lib.hid hD2
          clear hD2 hO2
          have g1 : decide (d2 < d1) = false := decide_eq_false (by omega)
          have g2 : decide (s2 + o2 < d2) = false := decide_eq_false (by omega)
          have g3 : decide (d2 < s2) = false := decide_eq_false (by omega)
          have g4 : decide ((999999 : Int) < d2) = false := decide_eq_false (by omega)
          go_wp2_with fail
          refine (HDa.out _ H4.out).mono ?_
          rintro e w5 ⟨rfl, rfl⟩
          go_wp2_with fail
          refine (HDa.out _ H4.out).mono ?_
          rintro e w5 ⟨rfl, rfl⟩
          go_wp2_with fail
          refine (HSu.out _ H4.out).mono ?_
          rintro e w6 ⟨rfl, hb⟩
          have H6 := Lib.hid (H4.out.below hb)
          have B6 := Lib.hid (B4.out.trans (hb.mono B4.out.size))
          clear hb
          go_wp2_with fail
          refine (HOw.out _ H6.out).mono ?_
          rintro e w7 ⟨rfl, rfl⟩
          go_wp2_with fail
          refine (HSu.out _ H6.out).mono ?_
          rintro e w8 ⟨rfl, hb⟩
          have H8 := Lib.hid (H6.out.below hb)
          have B8 := Lib.hid (B6.out.trans (hb.mono B6.out.size))
          clear hb
          go_wp2_with fail
          refine (HDa.out _ H8.out).mono ?_
          rintro e w9 ⟨rfl, rfl⟩
          go_wp2_with fail
          refine (HDa.out _ H8.out).mono ?_
          rintro e w9 ⟨rfl, rfl⟩
          go_wp2_with fail
          refine (HDa.out _ H8.out).mono ?_
          rintro e w9 ⟨rfl, rfl⟩
          go_wp2_with fail
          go_roundw
          case rel => exact ⟨i + 1, C2, s2, by omega, by go_num, by rw [HD2.out], HI2, H8, B8⟩
          case measure => simp [intOf]; omega
    · have hdec : decide ((i : Int) < (l.length : Int)) = false := decide_eq_false (by omega)
      go_wp2_with fail
      go_ret
      exact ⟨rfl, HB.out⟩
theorem Rises_walk (day leap q : Int) (A : Option Addr) (c : Nat) (l : List Op3) {w : World} (_ : (Lit.int .i64 day).wf = true) (_ : (Lit.int .i64 leap).wf = true) (_ : (Lit.int .i64 q).wf = true)
    (hl : Kd.C k3 w A l.length l) (hq : ∀ p ∈ l, Q3 p) :
    Calls Try.prog 4 #[.int .i64 day, .int .i64 leap, .int .i64 q, .slice A l.length c] w fun e w' => e = .returned (.bool true) ∧ Below w.heap.size w w' := by
  by_cases h : Args day leap q
  · by_cases ho : 30 < l.length
    · exact rises_long day leap q A c l.length h hl.2.1 ho w
    · exact rises_main day leap q A c l h (by omega) w hl hq
  · exact rises_bad day leap q A c l.length h w
end Go.Proofs.Ytpacadeldhcckaa.Dc
