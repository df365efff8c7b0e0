/- The law PriorityMatch: its walk. -/
import Derived.Test.YtkngdlmlijefbaaVF
import Derived.OpenShut
namespace Go.Proofs.Ytkngdlmlijefbaa.Pq
open Go.RowKit Go.Proofs.YtkngdlmlijefbaaW.PrintWords Go.Proofs.YtkngdlmlijefbaaW.PrintLast Go.Proofs.YtkngdlmlijefbaaW.PrintMore Go.Proofs.Mp
open Go.Proofs.Ytkngdlmlijefbaa.PPriorityOrder
set_option linter.unusedVariables false
set_option linter.unusedSimpArgs false

set_option maxHeartbeats 1000000 in
set_option maxRecDepth 100000 in
theorem rmatch_no (A : Option Addr) (ca : Nat) (a : List S32) (B : Option Addr) (cb : Nat) (b : List S32) (budget : Int) (w : World) (ha : Kd.C k35 w A a.length (a.map p35)) (hb : Kd.C k35 w B b.length (b.map p35)) (hla : a.length ≤ 1000) (hlb : b.length ≤ 1000) (hca : a.length ≤ ca) (hcb : b.length ≤ cb) (h : okAll a b budget = false) :
    Calls Try.prog 31 #[.slice A a.length ca, .slice B b.length cb, .int .i64 budget] w fun e w' => e = .returned (.tuple #[.slice none 0 0, .slice none 0 0, .int .i64 1]) ∧ Below w.heap.size w w' := by
  have Ha := Lib.hid ha
  have Hb := Lib.hid hb
  have hh := h
  unfold okAll at hh
  clear ha hb h
  cases qa : a.all vB with
  | false =>
    have Qa := Lib.hid qa
    clear hh qa
    go_enter Try.func31, Try.ntmps31
    go_wp2_with fail
    refine (refvalid_c A ca a false Qa.out w Ha.out hla hca).mono ?_
    rintro e w0 ⟨rfl, hb⟩
    have B0 := Lib.hid hb
    clear hb
    go_wp2_with fail
    exact bodyPost_ret (v := .tuple #[.slice none 0 0, .slice none 0 0, .int .i64 1]) (by simp [results, Try.results31, go_sem]) rfl ⟨rfl, B0.out⟩
  | true =>
    have Qa := Lib.hid qa
    rw [qa, Bool.true_and] at hh
    clear qa
    cases qb : b.all vB with
    | false =>
      have Qb := Lib.hid qb
      clear hh qb
      go_enter Try.func31, Try.ntmps31
      go_wp2_with fail
      refine (refvalid_c A ca a true Qa.out w Ha.out hla hca).mono ?_
      rintro e w0 ⟨rfl, hb⟩
      have B0 := Lib.hid hb
      clear hb
      go_wp2_with fail
      refine (refvalid_c B cb b false Qb.out w0 (Kd.C_below Hb.out B0.out) hlb hcb).mono ?_
      rintro e w1 ⟨rfl, hb⟩
      have B1 := Lib.hid (B0.out.trans (hb.mono B0.out.size))
      clear hb
      go_wp2_with fail
      exact bodyPost_ret (v := .tuple #[.slice none 0 0, .slice none 0 0, .int .i64 1]) (by simp [results, Try.results31, go_sem]) rfl ⟨rfl, B1.out⟩
    | true =>
      have Qb := Lib.hid qb
      rw [qb, Bool.true_and] at hh
      have hneg : decide (budget < 0) = true := decide_eq_true (by have := of_decide_eq_false hh; omega)
      clear qb hh
      go_enter Try.func31, Try.ntmps31
      go_wp2_with fail
      refine (refvalid_c A ca a true Qa.out w Ha.out hla hca).mono ?_
      rintro e w0 ⟨rfl, hb⟩
      have B0 := Lib.hid hb
      clear hb
      go_wp2_with fail
      refine (refvalid_c B cb b true Qb.out w0 (Kd.C_below Hb.out B0.out) hlb hcb).mono ?_
      rintro e w1 ⟨rfl, hb⟩
      have B1 := Lib.hid (B0.out.trans (hb.mono B0.out.size))
      clear hb
      go_wp2_with fail
      exact bodyPost_ret (v := .tuple #[.slice none 0 0, .slice none 0 0, .int .i64 1]) (by simp [results, Try.results31, go_sem]) rfl ⟨rfl, B1.out⟩
theorem RMatch_calls (A : Option Addr) (ca : Nat) (a : List S32) (B : Option Addr) (cb : Nat) (b : List S32) (budget : Int) (w : World) (ha : Kd.C k35 w A a.length (a.map p35)) (hb : Kd.C k35 w B b.length (b.map p35)) (hla : a.length ≤ 1000) (hlb : b.length ≤ 1000) (hca : a.length ≤ ca) (hcb : b.length ≤ cb) (hbu : budget ≤ 9223372036854775807) :
    Calls Try.prog 31 #[.slice A a.length ca, .slice B b.length cb, .int .i64 budget] w (RMatR w a b budget) := by
  cases h : okAll a b budget with
  | true => exact (rmatch_yes A ca a B cb b budget w ha hb hla hlb hca hcb h hbu).mono fun e w' he => ⟨fun _ => he, fun h2 => absurd h2 (by rw [h]; simp)⟩
  | false => exact (rmatch_no A ca a B cb b budget w ha hb hla hlb hca hcb h).mono fun e w' he => ⟨fun h2 => absurd h2 (by rw [h]; simp), fun _ => he⟩
theorem few_c2 (r : Bool) (A : Option Addr) (ca : Nat) (a : List S32) (B : Option Addr) (cb : Nat) (b : List S32) (hr : (fewB a && fewB b) = r) (g : Nat) (w : World) (h : w.heap[g]? = some (.cells #[.slice A a.length ca, .slice B b.length cb] 47 (0, 0))) (hca : a.length ≤ ca) (hcb : b.length ≤ cb) (ha : Kd.C k32 w A a.length a) (hb : Kd.C k32 w B b.length b) :
    Calls Try.prog 22 #[.slice (some ⟨g, 0, none⟩) 2 2] w fun e w' => e = .returned (.bool r) ∧ Below w.heap.size w w' := by
  have hC : Kd.C (Kd.slice 32 k32) w (some ⟨g, 0, none⟩) 2 [a, b] := by
    refine ⟨rfl, by omega, fun _ => ⟨⟨g, 0, none⟩, rfl, fun j p hj => ?_⟩⟩
    have e1 : (Kd.slice 32 k32).sz = 1 := rfl
    match j, hj with
    | 0, hj =>
      simp at hj
      subst hj
      refine ⟨[.slice A a.length ca], rfl, ⟨A, ca, rfl, hca, ha⟩, fun i u hi => ?_⟩
      obtain rfl : i = 0 := by have := (List.getElem?_eq_some_iff.1 hi).1; simp at this; omega
      rw [e1, add_plain, blk_cell h]
      simpa using hi
    | 1, hj =>
      simp at hj
      subst hj
      refine ⟨[.slice B b.length cb], rfl, ⟨B, cb, rfl, hcb, hb⟩, fun i u hi => ?_⟩
      obtain rfl : i = 0 := by have := (List.getElem?_eq_some_iff.1 hi).1; simp at this; omega
      rw [e1, add_plain, blk_cell h]
      simpa using hi
    | j + 2, hj => simp at hj
  have := kinkeeplaw41_few.calls 100 (some ⟨g, 0, none⟩) 2 [a, b] (fewB a && fewB b) w hC (Nat.le_refl _) (few_2 a b 100 (Nat.le_refl _))
  rw [hr] at this
  exact this
theorem atI' {w : World} {A : Option Addr} {xs : List Int} (h : Kd.C (Kd.int .i64) w A xs.length xs) {i : Nat} (hi : i < xs.length) : ∃ ad, A = some ad ∧ w.cell? (ad.add i) = some (.int .i64 xs[i]) := by
  obtain ⟨h1, h2, h3⟩ := h
  obtain ⟨ad, e, h4⟩ := h3 (by omega)
  obtain ⟨cs, c1, c2, c3⟩ := h4 i xs[i] (List.getElem?_eq_getElem hi)
  refine ⟨ad, e, ?_⟩
  have c2 : cs = [.int .i64 xs[i]] := c2
  subst c2
  have := c3 0 _ rfl
  have e1 : (Kd.int .i64).sz = 1 := rfl
  rw [e1, Nat.mul_one, Nat.add_zero] at this
  exact this
theorem fewB_len2 {l : List S32} (h : fewB l = true) : l.length ≤ 20 := by
  unfold fewB at h
  simp only [Bool.and_eq_true, decide_eq_true_eq] at h
  exact h.1
theorem res_len {a b : List S32} {budget : Int} (h : okAll a b budget = true) : (res a b budget).length ≤ a.length + b.length := by
  unfold okAll at h
  simp only [Bool.and_eq_true, decide_eq_true_eq] at h
  have h1 := (mt_facts ((ordT a).length + (ordT b).length) (ordT a) (ordT b) budget (ordT_valid (fun x hx => (vB_iff x).1 (List.all_eq_true.1 h.1 x hx))) (ordT_valid (fun x hx => (vB_iff x).1 (List.all_eq_true.1 h.2.1 x hx))) h.2.2).2.2.2
  have h2 := ordT_len a
  have h3 := ordT_len b
  unfold res
  omega
set_option maxHeartbeats 2000000 in
set_option maxRecDepth 100000 in
theorem match_walk (aw : Awake) (A : Option Addr) (ca : Nat) (a : List S32) (B : Option Addr) (cb : Nat) (b : List S32) (budget : Int) (w : World) (hca : a.length ≤ ca) (ha : Kd.C k32 w A a.length a) (hcb : b.length ≤ cb) (hb : Kd.C k32 w B b.length b) (hbu : budget ≤ 9223372036854775807) :
    Calls Try.prog 9 #[.slice A a.length ca, .slice B b.length cb, .int .i64 budget] w (Yes w) := by
  have HA := Lib.hid ha
  have HB := Lib.hid hb
  have AW := Lib.hid aw
  clear ha hb aw
  go_enter Try.func9, Try.ntmps9
  go_wp2_with fail
  refine (AW.out _).mono ?_
  rintro e w1 ⟨rfl, hb⟩
  have B1 := Lib.hid hb
  have hba := hb.alloc hb.size (.cells #[.slice A a.length ca, .slice B b.length cb] 47)
  have Ba := Lib.hid hba
  have HF := Lib.hid (fun r hr => few_c2 r A ca a B cb b hr w1.heap.size (w1.alloc (.cells #[.slice A a.length ca, .slice B b.length cb] 47)) (blk_new _ _) hca hcb (Kd.C_below HA.out hba) (Kd.C_below HB.out hba))
  clear hb hba
  cases hf : (fewB a && fewB b) with
  | false =>
    have HF := Lib.hid (HF.out false hf)
    clear hf
    go_wp2_with fail
    refine HF.out.mono ?_
    rintro e w2 ⟨rfl, hb⟩
    have B2 := Lib.hid (Ba.out.trans (hb.mono Ba.out.size))
    clear hb HF
    go_wp2_with fail
    refine (AW.out _).mono ?_
    rintro e w3 ⟨rfl, hb⟩
    have B3 := Lib.hid (B2.out.trans (hb.mono B2.out.size))
    clear hb
    go_wp2_with fail
    go_ret
    exact ⟨rfl, B3.out⟩
  | true =>
    have hf2 := hf
    rw [Bool.and_eq_true] at hf2
    have hla := fewB_len2 hf2.1
    have hlb := fewB_len2 hf2.2
    have HF := Lib.hid (HF.out true hf)
    clear hf hf2
    go_wp2_with fail
    refine HF.out.mono ?_
    rintro e w2 ⟨rfl, hb⟩
    have B2 := Lib.hid (Ba.out.trans (hb.mono Ba.out.size))
    clear hb HF Ba B1
    go_wp2_with fail
    refine (Match_calls A ca a B cb b budget w2 (Kd.C_below HA.out B2.out) (Kd.C_below HB.out B2.out) (by omega) (by omega) hbu).mono ?_
    rintro e w3 ⟨h1, h2⟩
    cases hv : okAll a b budget with
    | false =>
      have HV := Lib.hid hv
      obtain ⟨rfl, hb⟩ := h2 hv
      have B3 := Lib.hid (B2.out.trans (hb.mono B2.out.size))
      clear h1 h2 hb hv
      go_wp2_with fail
      refine (all_c A ca a _ (Kd.C_below HA.out B3.out) hca (by omega)).mono ?_
      rintro e w4 ⟨A', ca', rfl, hca', hC, hb⟩
      have B4 := Lib.hid (B3.out.trans (hb.mono B3.out.size))
      have HCa := Lib.hid hC
      clear hC hb
      go_wp2_with fail
      refine (all_c B cb b _ (Kd.C_below HB.out B4.out) hcb (by omega)).mono ?_
      rintro e w5 ⟨B', cb', rfl, hcb', hC, hb⟩
      have B5 := Lib.hid (B4.out.trans (hb.mono B4.out.size))
      have HCb := Lib.hid hC
      have HCa5 := Lib.hid (Kd.C_below HCa.out hb)
      clear hC hb HCa
      go_wp2_with fail
      refine (RMatch_calls A' ca' a B' cb' b budget _ HCa5.out HCb.out (by omega) (by omega) hca' hcb' hbu).mono ?_
      rintro e w6 ⟨-, h2⟩
      obtain ⟨rfl, hb⟩ := h2 HV.out
      have B6 := Lib.hid (B5.out.trans (hb.mono B5.out.size))
      clear h2 hb
      go_wp2_with fail
      refine (same_c none 0 none 0 [] _ (Kd.C_nil _ _) (Nat.le_refl _) (Kd.C_nil _ _) (Nat.le_refl _) (by simp)).mono ?_
      rintro e w7 ⟨rfl, hb⟩
      have B7 := Lib.hid (B6.out.trans (hb.mono B6.out.size))
      clear hb
      go_wp2_with fail
      go_loopw [13, 60] (fun v13 v60 wr => v60 = .int .i64 0 ∧ Hid (wr = w7)) (fun _ _ _ => 0)
      case atStart => exact ⟨rfl, Lib.hid rfl⟩
      case round =>
        obtain ⟨rfl, hw⟩ := hrel
        have Hw := Lib.hid hw.out
        clear hw
        go_wp2_with fail
        go_ret
        exact ⟨rfl, by rw [Hw.out]; exact B7.out⟩
    | true =>
      have HV := Lib.hid hv
      have hrl := res_len hv
      obtain ⟨v, u, rfl, hR1, hR2, hb⟩ := h1 hv
      have B3 := Lib.hid (B2.out.trans (hb.mono B2.out.size))
      obtain ⟨S, hS⟩ : ∃ S, S = (res a b budget).map (·.1) := ⟨_, rfl⟩
      obtain ⟨L, hL⟩ : ∃ L, L = (res a b budget).map (·.2) := ⟨_, rfl⟩
      rw [← hS] at hR1
      rw [← hL] at hR2
      have hl2 : L.length ≤ 40 := by rw [hL, List.length_map]; omega
      have hs2 : S.length ≤ 40 := by rw [hS, List.length_map]; omega
      have HS := Lib.hid hS
      have HL := Lib.hid hL
      clear hS hL
      obtain ⟨As, cs, rfl, hcs, hCs⟩ := Kd.R_reads hR1
      obtain ⟨Al, cl, rfl, hcl, hCl⟩ := Kd.R_reads hR2
      have HCs := Lib.hid hCs
      have HCl := Lib.hid hCl
      clear h1 h2 hb hv hR1 hR2 hCs hCl hrl
      go_wp2_with fail
      refine (all_c A ca a _ (Kd.C_below HA.out B3.out) hca (by omega)).mono ?_
      rintro e w4 ⟨A', ca', rfl, hca', hC, hb⟩
      have B4 := Lib.hid (B3.out.trans (hb.mono B3.out.size))
      have HCa := Lib.hid hC
      have HCs4 := Lib.hid (Kd.C_below HCs.out hb)
      have HCl4 := Lib.hid (Kd.C_below HCl.out hb)
      clear hC hb HCs HCl
      go_wp2_with fail
      refine (all_c B cb b _ (Kd.C_below HB.out B4.out) hcb (by omega)).mono ?_
      rintro e w5 ⟨B', cb', rfl, hcb', hC, hb⟩
      have B5 := Lib.hid (B4.out.trans (hb.mono B4.out.size))
      have HCb := Lib.hid hC
      have HCa5 := Lib.hid (Kd.C_below HCa.out hb)
      have HCs5 := Lib.hid (Kd.C_below HCs4.out hb)
      have HCl5 := Lib.hid (Kd.C_below HCl4.out hb)
      clear hC hb HCa HCs4 HCl4
      go_wp2_with fail
      refine (RMatch_calls A' ca' a B' cb' b budget _ HCa5.out HCb.out (by omega) (by omega) hca' hcb' hbu).mono ?_
      rintro e w6 ⟨h1, -⟩
      obtain ⟨v, u, rfl, hR1, hR2, hb⟩ := h1 HV.out
      have B6 := Lib.hid (B5.out.trans (hb.mono B5.out.size))
      have HCs6 := Lib.hid (Kd.C_below HCs5.out hb)
      have HCl6 := Lib.hid (Kd.C_below HCl5.out hb)
      rw [← HS.out] at hR1
      rw [← HL.out] at hR2
      obtain ⟨Aw, cw, rfl, hcw, hCw⟩ := Kd.R_reads hR1
      obtain ⟨Am, cm, hvm, hcm, hCm⟩ := Kd.R_reads hR2
      rw [List.length_map] at hvm hcm hCm
      subst hvm
      have HCw := Lib.hid hCw
      have HCm := Lib.hid hCm
      clear h1 hb hR1 hR2 hCw hCm HCs5 HCl5 HCa5 HCb HV HS HL
      go_wp2_with fail
      refine (same_c Al cl Am cm L _ HCl6.out hcl HCm.out hcm (by omega)).mono ?_
      rintro e w7 ⟨rfl, hb⟩
      have B7 := Lib.hid (B6.out.trans (hb.mono B6.out.size))
      have HCs7 := Lib.hid (Kd.C_below HCs6.out hb)
      have HCw7 := Lib.hid (Kd.C_below HCw.out hb)
      clear hb HCs6 HCw
      have hne : (S.length != S.length) = false := by simp
      go_wp2_with fail
      go_loopw [13, 60] (fun v13 v60 wr => ∃ k : Nat, k ≤ S.length ∧ v60 = .int .i64 k ∧ Hid (Below w7.heap.size w7 wr)) (fun _ v _ => S.length - (intOf v).toNat)
      case atStart => exact ⟨0, by omega, rfl, Lib.hid (Below.refl _ _)⟩
      case round =>
        obtain ⟨k, hk, rfl, hB⟩ := hrel
        have HBb := Lib.hid hB.out
        clear hB
        by_cases hlt : k < S.length
        · have hdec : decide ((k : Int) < (S.length : Int)) = true := decide_eq_true (by omega)
          have i1 : (0 : Int) ≤ (k : Int) := by omega
          have i2 : (k : Int) < (S.length : Int) := by omega
          obtain ⟨a1, rfl, s0⟩ := atI' (Kd.C_below HCs7.out HBb.out) hlt
          obtain ⟨a2, rfl, t0⟩ := atI' (Kd.C_below HCw7.out HBb.out) hlt
          generalize S[k] = x at *
          have hxx : (x != x) = false := by simp
          go_wp2_with fail
          go_quiet (fail)
          clear s0 t0
          go_wp2_with fail
          go_roundw
          case rel => exact ⟨k + 1, by omega, by go_num, Lib.hid (pw_below_drewN HBb.out _)⟩
          case measure => simp [intOf]; omega
        · have hdec : decide ((k : Int) < (S.length : Int)) = false := decide_eq_false (by omega)
          go_wp2_with fail
          go_ret
          exact ⟨rfl, B7.out.trans (HBb.out.mono B7.out.size)⟩
theorem Match_law (A : Option Addr) (ca : Nat) (a : List S32) (B : Option Addr) (cb : Nat) (b : List S32) (budget : Int) {w : World} (ha : a.length ≤ ca ∧ Kd.C k32 w A a.length a) (_ : True) (hb : b.length ≤ cb ∧ Kd.C k32 w B b.length b) (_ : True) (hbu : (Lit.int .i64 budget).wf = true) : Calls Try.prog 9 #[.slice A a.length ca, .slice B b.length cb, .int .i64 budget] w fun e w' => e = .returned (.bool true) ∧ Below w.heap.size w w' :=
  match_walk awake_calls A ca a B cb b budget w ha.1 ha.2 hb.1 hb.2 (bounds_i64 hbu).2
end Go.Proofs.Ytkngdlmlijefbaa.Pq
