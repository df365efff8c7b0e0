/- The law PriorityAlone: its walk. -/
import Derived.Test.YtkngdlmlijefbaaUN
import Derived.OpenShut
namespace Go.Proofs.Ytkngdlmlijefbaa.Pq
open Go.RowKit Go.Proofs.YtkngdlmlijefbaaW.PrintWords Go.Proofs.YtkngdlmlijefbaaW.PrintLast Go.Proofs.YtkngdlmlijefbaaW.PrintMore Go.Proofs.Mp
open Go.Proofs.Ytkngdlmlijefbaa.PPriorityOrder
set_option linter.unusedVariables false
set_option linter.unusedSimpArgs false
attribute [local go_sem high] eqV

/-- Taking in order from a budget. -/
def tkn : List S32 → Int → List S32
  | [], _ => []
  | t :: l, left => if t.f1 ≤ left then t :: tkn l (left - t.f1) else tkn l left
theorem mt_left : ∀ (l : List S32) (left : Int), mt l.length l [] left = (tkn l left).map (fun t => ((0 : Int), t))
  | [], left => rfl
  | t :: l, left => by
    have hp : pick (t :: l) [] = some (0, t, l, []) := rfl
    by_cases h : t.f1 ≤ left
    · rw [List.length_cons, mt_yes hp h, mt_left l]
      simp only [tkn]
      rw [if_pos h]
      rfl
    · rw [List.length_cons, mt_no hp h, mt_left l]
      simp only [tkn]
      rw [if_neg h]
theorem mt_right : ∀ (l : List S32) (left : Int), mt l.length [] l left = (tkn l left).map (fun t => ((1 : Int), t))
  | [], left => rfl
  | t :: l, left => by
    have hp : pick [] (t :: l) = some (1, t, [], l) := rfl
    by_cases h : t.f1 ≤ left
    · rw [List.length_cons, mt_yes hp h, mt_right l]
      simp only [tkn]
      rw [if_pos h]
      rfl
    · rw [List.length_cons, mt_no hp h, mt_right l]
      simp only [tkn]
      rw [if_neg h]
theorem tkn_len : ∀ (l : List S32) (left : Int), (tkn l left).length ≤ l.length
  | [], left => Nat.le_refl _
  | t :: l, left => by
    have h1 := tkn_len l (left - t.f1)
    have h2 := tkn_len l left
    simp only [tkn]
    split
    · simp; omega
    · simp; omega
theorem res_left (l : List S32) (b : Int) : res l [] b = (tkn (ordT l) b).map (fun t => ((0 : Int), t)) := by
  unfold res
  have e : ordT [] = [] := rfl
  rw [e]
  exact mt_left _ _
theorem res_right (l : List S32) (b : Int) : res [] l b = (tkn (ordT l) b).map (fun t => ((1 : Int), t)) := by
  unfold res
  have e : ordT [] = [] := rfl
  rw [e, List.length_nil, Nat.zero_add]
  exact mt_right _ _
theorem cut_tkn (l : List S32) (b : Int) : cutT l b = tkn (ordT l) b := by
  unfold cutT
  rw [res_left, List.map_map]
  exact List.map_id' _
theorem map_const {α : Type} (l : List α) (c : Int) : (l.map (fun t => (c, t))).map (·.1) = List.replicate l.length c := by
  rw [List.map_map]
  induction l with
  | nil => rfl
  | cons x l ih => rw [List.map_cons, List.length_cons, List.replicate_succ, ih]; rfl
theorem map_snd {α : Type} (l : List α) (c : Int) : (l.map (fun t => (c, t))).map (·.2) = l := by
  rw [List.map_map]
  exact List.map_id' _
theorem atI {w : World} {A : Option Addr} {n : Nat} {c : Int} (h : Kd.C (Kd.int .i64) w A n (List.replicate n c)) {i : Nat} (hi : i < n) : ∃ ad, A = some ad ∧ w.cell? (ad.add i) = some (.int .i64 c) := by
  obtain ⟨h1, h2, h3⟩ := h
  obtain ⟨ad, e, h4⟩ := h3 (by omega)
  obtain ⟨cs, c1, c2, c3⟩ := h4 i c (by rw [List.getElem?_replicate, if_pos hi])
  refine ⟨ad, e, ?_⟩
  have c2 : cs = [.int .i64 c] := c2
  subst c2
  have := c3 0 _ rfl
  have e1 : (Kd.int .i64).sz = 1 := rfl
  rw [e1, Nat.mul_one, Nat.add_zero] at this
  exact this
theorem at32 {w : World} {A : Option Addr} {l : List S32} (h : Kd.C k32 w A l.length l) {k : Nat} (hk : k < l.length) : ∃ ad, A = some ad ∧ CA w (ad.add (k * 7)) l[k] := by
  obtain ⟨ad, rfl, h0, h1, h2, h3, h4, h5, h6⟩ := at_T32 h k (by omega) (by omega)
  rw [Int.toNat_natCast, rd32 hk] at h0 h1 h2 h3 h4 h5 h6
  exact ⟨ad, rfl, h0, h1, h2, h3, h4, h5, h6⟩
theorem few_c1 (b : Bool) (A : Option Addr) (c : Nat) (l : List S32) (hb : fewB l = b) (g : Nat) (w : World) (h : w.heap[g]? = some (.cells #[.slice A l.length c] 47 (0, 0))) (hc : l.length ≤ c) (hl : Kd.C k32 w A l.length l) :
    Calls Try.prog 22 #[.slice (some ⟨g, 0, none⟩) 1 1] w fun e w' => e = .returned (.bool b) ∧ Below w.heap.size w w' := by
  have hC : Kd.C (Kd.slice 32 k32) w (some ⟨g, 0, none⟩) 1 [l] := by
    refine ⟨rfl, by omega, fun _ => ⟨⟨g, 0, none⟩, rfl, fun j p hj => ?_⟩⟩
    obtain ⟨hj1, rfl⟩ := List.getElem?_eq_some_iff.1 hj
    obtain rfl : j = 0 := by simp at hj1; omega
    refine ⟨[.slice A l.length c], rfl, ⟨A, c, rfl, hc, hl⟩, fun i u hi => ?_⟩
    rw [Nat.zero_mul, Nat.zero_add, add_plain, blk_cell h i, ← hi]
    simp
  have := kinkeeplaw41_few.calls 100 (some ⟨g, 0, none⟩) 1 [l] (fewB l) w hC (Nat.le_refl _) (few_1 l 100 (Nat.le_refl _))
  rw [hb] at this
  exact this
theorem fewB_len' {l : List S32} (h : fewB l = true) : l.length ≤ 20 := by
  unfold fewB at h
  simp only [Bool.and_eq_true, decide_eq_true_eq] at h
  exact h.1
theorem okAll_nil2 (l : List S32) (budget : Int) : okAll [] l budget = okCut l budget := by simp [okAll, okCut]
theorem eqS_self (t : S32) : eqS t t = true := (eqS_iff t t).2 rfl
set_option maxHeartbeats 2000000 in
set_option maxRecDepth 100000 in
theorem alone_walk (aw : Awake) (A : Option Addr) (c : Nat) (l : List S32) (budget : Int) (w : World) (hc : l.length ≤ c) (h : Kd.C k32 w A l.length l) (hbu : budget ≤ 9223372036854775807) : Calls Try.prog 10 #[.slice A l.length c, .int .i64 budget] w (Yes w) := by
  have HL := Lib.hid h
  have AW := Lib.hid aw
  clear h aw
  go_enter Try.func10, Try.ntmps10
  go_wp2_with fail
  refine (AW.out _).mono ?_
  rintro e w1 ⟨rfl, hb⟩
  have B1 := Lib.hid hb
  have hba := hb.alloc hb.size (.cells #[.slice A l.length c] 47)
  have Ba := Lib.hid hba
  have HF := Lib.hid (fun b hb2 => few_c1 b A c l hb2 w1.heap.size (w1.alloc (.cells #[.slice A l.length c] 47)) (blk_new _ _) hc (Kd.C_below HL.out hba))
  clear hb hba
  cases hf : fewB l with
  | false =>
    have HF := Lib.hid (HF.out false hf)
    clear hf
    go_wp2_with fail
    refine HF.out.mono ?_
    rintro e w2 ⟨rfl, hb⟩
    have B2 := Lib.hid (Ba.out.trans (hb.mono Ba.out.size))
    clear hb HF
    go_wp2_with fail
    refine (AW.out _).mono ?_
    rintro e w3 ⟨rfl, hb⟩
    have B3 := Lib.hid (B2.out.trans (hb.mono B2.out.size))
    clear hb
    go_wp2_with fail
    go_ret
    exact ⟨rfl, B3.out⟩
  | true =>
    have hl := fewB_len' hf
    have HF := Lib.hid (HF.out true hf)
    clear hf
    go_wp2_with fail
    refine HF.out.mono ?_
    rintro e w2 ⟨rfl, hb⟩
    have B2 := Lib.hid (Ba.out.trans (hb.mono Ba.out.size))
    clear hb HF Ba B1
    go_wp2_with fail
    refine (Cut_calls A c l budget w2 (Kd.C_below HL.out B2.out) (by omega) hbu).mono ?_
    rintro e w3 ⟨h1, h2⟩
    cases hv : okCut l budget with
    | false =>
      have HV := Lib.hid hv
      obtain ⟨rfl, hb⟩ := h2 hv
      have B3 := Lib.hid (B2.out.trans (hb.mono B2.out.size))
      clear h1 h2 hb hv
      go_wp2_with fail
      refine (Match_calls A c l none 0 [] budget w3 (Kd.C_below HL.out B3.out) (Kd.C_nil _ _) (by omega) (by simp) hbu).mono ?_
      rintro e w4 ⟨-, h2⟩
      obtain ⟨rfl, hb⟩ := h2 ((okAll_nil l budget).trans HV.out)
      have B4 := Lib.hid (B3.out.trans (hb.mono B3.out.size))
      clear h2 hb
      go_wp2_with fail
      refine (Match_calls none 0 [] A c l budget w4 (Kd.C_nil _ _) (Kd.C_below HL.out B4.out) (by simp) (by omega) hbu).mono ?_
      rintro e w5 ⟨-, h2⟩
      obtain ⟨rfl, hb⟩ := h2 ((okAll_nil2 l budget).trans HV.out)
      have B5 := Lib.hid (B4.out.trans (hb.mono B4.out.size))
      clear h2 hb
      go_wp2_with fail
      go_loopw [14, 83] (fun v14 v83 wr => v83 = .int .i64 0 ∧ Hid (wr = w5)) (fun _ _ _ => 0)
      case atStart => exact ⟨rfl, Lib.hid rfl⟩
      case round =>
        obtain ⟨rfl, hw⟩ := hrel
        have Hw := Lib.hid hw.out
        clear hw
        go_wp2_with fail
        go_ret
        exact ⟨rfl, by rw [Hw.out]; exact B5.out⟩
    | true =>
      have HV := Lib.hid hv
      obtain ⟨u, rfl, hR, hb⟩ := h1 hv
      have B3 := Lib.hid (B2.out.trans (hb.mono B2.out.size))
      rw [cut_tkn] at hR
      have hn : (tkn (ordT l) budget).length ≤ 20 := by
        have := tkn_len (ordT l) budget
        have := ordT_len l
        omega
      obtain ⟨Al, cl, rfl, hcl, hCl⟩ := Kd.R_reads hR
      have HC1 := Lib.hid hCl
      clear h1 h2 hb hv hR hCl
      go_wp2_with fail
      refine (Match_calls A c l none 0 [] budget w3 (Kd.C_below HL.out B3.out) (Kd.C_nil _ _) (by omega) (by simp) hbu).mono ?_
      rintro e w4 ⟨h1, -⟩
      obtain ⟨v, u, rfl, hR1, hR2, hb⟩ := h1 ((okAll_nil l budget).trans HV.out)
      rw [res_left, map_const] at hR1
      rw [res_left, map_snd] at hR2
      have B4 := Lib.hid (B3.out.trans (hb.mono B3.out.size))
      have HC1' := Lib.hid (Kd.C_below HC1.out hb)
      obtain ⟨As, cs, rfl, hcs, hCs⟩ := Kd.R_reads hR1
      rw [List.length_replicate] at hcs hCs
      obtain ⟨Am, cm, rfl, hcm, hCm⟩ := Kd.R_reads hR2
      have HCs := Lib.hid hCs
      have HCm := Lib.hid hCm
      rw [List.length_replicate]
      clear h1 hb hR1 hR2 HC1 hCs hCm
      go_wp2_with fail
      refine (Match_calls none 0 [] A c l budget w4 (Kd.C_nil _ _) (Kd.C_below HL.out B4.out) (by simp) (by omega) hbu).mono ?_
      rintro e w5 ⟨h1, -⟩
      obtain ⟨v, u, rfl, hR1, hR2, hb⟩ := h1 ((okAll_nil2 l budget).trans HV.out)
      rw [res_right, map_const] at hR1
      rw [res_right, map_snd] at hR2
      have B5 := Lib.hid (B4.out.trans (hb.mono B4.out.size))
      have HC15 := Lib.hid (Kd.C_below HC1'.out hb)
      have HCs5 := Lib.hid (Kd.C_below HCs.out hb)
      have HCm5 := Lib.hid (Kd.C_below HCm.out hb)
      obtain ⟨At, ct, rfl, hct, hCt⟩ := Kd.R_reads hR1
      rw [List.length_replicate] at hct hCt
      obtain ⟨An, cn, rfl, hcn, hCn⟩ := Kd.R_reads hR2
      have HCt := Lib.hid hCt
      have HCn := Lib.hid hCn
      rw [List.length_replicate]
      clear h1 hb hR1 hR2 HC1' HCs HCm hCt hCn
      generalize tkn (ordT l) budget = L at *
      go_wp2_with fail
      go_loopw [14, 83] (fun v14 v83 wr => ∃ k : Nat, k ≤ L.length ∧ v83 = .int .i64 k ∧ Hid (Below w5.heap.size w5 wr)) (fun _ v _ => L.length - (intOf v).toNat)
      case atStart => exact ⟨0, by omega, rfl, Lib.hid (Below.refl _ _)⟩
      case round =>
        obtain ⟨k, hk, rfl, hB⟩ := hrel
        have HB := Lib.hid hB.out
        clear hB
        by_cases hlt : k < L.length
        · have hdec : decide ((k : Int) < (L.length : Int)) = true := decide_eq_true (by omega)
          have i1 : (0 : Int) ≤ (k : Int) := by omega
          have i2 : (k : Int) < (L.length : Int) := by omega
          obtain ⟨a1, rfl, p0, p1, p2, p3, p4, p5, p6⟩ := at32 (Kd.C_below HC15.out HB.out) hlt
          obtain ⟨a2, rfl, q0, q1, q2, q3, q4, q5, q6⟩ := at32 (Kd.C_below HCm5.out HB.out) hlt
          obtain ⟨a3, rfl, r0, r1, r2, r3, r4, r5, r6⟩ := at32 (Kd.C_below HCn.out HB.out) hlt
          obtain ⟨a4, rfl, s0⟩ := atI (Kd.C_below HCs5.out HB.out) hlt
          obtain ⟨a5, rfl, t0⟩ := atI (Kd.C_below HCt.out HB.out) hlt
          have hE := eqS_self L[k]
          generalize L[k] = x at *
          go_wp2_with fail
          go_quiet (fail)
          clear p0 p1 p2 p3 p4 p5 p6 q0 q1 q2 q3 q4 q5 q6 r0 r1 r2 r3 r4 r5 r6 s0 t0
          go_wp2_with fail
          go_roundw
          case rel => exact ⟨k + 1, by omega, by go_num, Lib.hid (pw_below_drewN HB.out _)⟩
          case measure => simp [intOf]; omega
        · have hdec : decide ((k : Int) < (L.length : Int)) = false := decide_eq_false (by omega)
          go_wp2_with fail
          go_ret
          exact ⟨rfl, B5.out.trans (HB.out.mono B5.out.size)⟩
theorem Alone_law (A : Option Addr) (c : Nat) (l : List S32) (budget : Int) {w : World} (h : l.length ≤ c ∧ Kd.C k32 w A l.length l) (_ : True) (hb : (Lit.int .i64 budget).wf = true) : Calls Try.prog 10 #[.slice A l.length c, .int .i64 budget] w fun e w' => e = .returned (.bool true) ∧ Below w.heap.size w w' :=
  alone_walk awake_calls A c l budget w h.1 h.2 (bounds_i64 hb).2
end Go.Proofs.Ytkngdlmlijefbaa.Pq
