/- The reference's Order: its walk; the law PriorityOrder. -/
import Derived.Test.YtkngdlmlijefbaaVA
namespace Go.Proofs.Ytkngdlmlijefbaa.Pq
open Go.RowKit Go.Proofs.YtkngdlmlijefbaaW.PrintWords Go.Proofs.YtkngdlmlijefbaaW.PrintLast Go.Proofs.YtkngdlmlijefbaaW.PrintMore Go.Proofs.Mp
open Go.Proofs.Ytkngdlmlijefbaa.PPriorityOrder
set_option linter.unusedVariables false
set_option linter.unusedSimpArgs false

def ROrdR (w : World) (l : List S32) (e : Ending) (w' : World) : Prop :=
  (l.all vB = true → ∃ v, e = .returned (.tuple #[v, .int .i64 0]) ∧ Kd.R k35 35 w' w.heap.size (fun _ => True) v ((ordT l).map p35) ∧ Below w.heap.size w w') ∧
  (l.all vB = false → e = .returned (.tuple #[.slice none 0 0, .int .i64 1]) ∧ Below w.heap.size w w')
theorem ordT_take {l : List S32} {k : Nat} (h : k < l.length) : ordT (l.take (k + 1)) = ins l[k] (ordT (l.take k)) := by
  unfold ordT
  rw [List.take_succ_eq_append_getElem h, List.foldl_append]
  rfl
theorem refvalid_c (A : Option Addr) (c : Nat) (l : List S32) (b : Bool) (hb : l.all vB = b) (w : World) (h : Kd.C k35 w A l.length (l.map p35)) (hl : l.length ≤ 1000) (hc : l.length ≤ c) : Calls Try.prog 35 #[.slice A l.length c] w fun e w' => e = .returned (.bool b) ∧ Below w.heap.size w w' := by
  have := kinkeepref41_valid.calls 1073742900 A c (l.map p35) (l.all vB) w (by rw [List.length_map]; exact h) (by rw [List.length_map]; exact hc) (valids_f l hl _ (Nat.le_refl _))
  rw [List.length_map, hb] at this
  exact this
set_option maxHeartbeats 1000000 in
set_option maxRecDepth 100000 in
theorem refOrder_calls (A : Option Addr) (c : Nat) (l : List S32) (w : World) (h : Kd.C k35 w A l.length (l.map p35)) (hl : l.length ≤ 1000) (hc : l.length ≤ c) :
    Calls Try.prog 18 #[.slice A l.length c] w (ROrdR w l) := by
  have HL := Lib.hid h
  clear h
  cases hv : l.all vB with
  | false =>
    have HV := Lib.hid hv
    clear hv
    go_enter Try.func18, Try.ntmps18
    go_wp2_with fail
    refine (refvalid_c A c l false HV.out w HL.out hl hc).mono ?_
    rintro e w1 ⟨rfl, hb⟩
    have HB := Lib.hid hb
    clear hb
    go_wp2_with fail
    go_ret2
    exact ⟨fun h => absurd h (by rw [HV.out]; simp), fun _ => ⟨rfl, HB.out⟩⟩
  | true =>
    have HV := Lib.hid hv
    clear hv
    go_enter Try.func18, Try.ntmps18
    go_wp2_with fail
    refine (refvalid_c A c l true HV.out w HL.out hl hc).mono ?_
    rintro e w1 ⟨rfl, hb⟩
    have HR0 := Lib.hid (R_none35 w1 w.heap.size hb.size (fun _ => True) trivial)
    have HB0 := Lib.hid (hb.alloc hb.size (.cells #[] 35))
    clear hb
    go_wp2_with fail
    generalize w1.alloc (.cells #[] 35) = w2 at *
    go_loopw [4, 13] (fun v4 v13 wr => ∃ k : Nat, k ≤ l.length ∧ v13 = .int .i64 k ∧ Hid (Kd.R k35 35 wr w.heap.size (fun _ => True) v4 ((ordT (l.take k)).map p35)) ∧ Hid (Below w.heap.size w wr)) (fun _ v _ => l.length - (intOf v).toNat)
    case atStart => exact ⟨0, by omega, rfl, HR0, HB0⟩
    case round =>
      obtain ⟨k, hk, rfl, hR, hB⟩ := hrel
      have HR := Lib.hid hR.out
      have HB := Lib.hid hB.out
      clear hR hB HR0 HB0
      by_cases hlt : k < l.length
      · have hdec : decide ((k : Int) < (l.length : Int)) = true := decide_eq_true (by omega)
        obtain ⟨ad, rfl, ha0, ha1, ha2, ha3, ha4, ha5, ha6⟩ := at_T35 (Kd.C_below HL.out HB.out) k (by omega) (by omega)
        rw [Int.toNat_natCast] at ha0 ha1 ha2 ha3 ha4 ha5 ha6
        rw [rd35 hlt] at ha0 ha1 ha2 ha3 ha4 ha5 ha6
        simp only [p35] at ha0 ha1 ha2 ha3 ha4 ha5 ha6
        have Htk := Lib.hid (ordT_take hlt)
        obtain ⟨Ao, co, hvo, hco, hCo⟩ := Kd.R_reads HR.out
        rw [List.length_map] at hvo hco hCo
        subst hvo
        have hlo : (ordT (l.take k)).length ≤ 1000 := by
          have := ordT_len (l.take k)
          rw [List.length_take] at this
          omega
        have hba := (Below.refl wr.heap.size wr).alloc (Nat.le_refl _) (.cells (tcells l[k]) 35)
        have HI := Lib.hid (insert_calls Ao co l[k] (ordT (l.take k)) (wr.alloc (.cells (tcells l[k]) 35)) (Kd.C_below hCo hba) hlo hco)
        have HBa := Lib.hid (HB.out.trans (hba.mono HB.out.size))
        have HRa := Lib.hid (Kd.R_below HR.out hba)
        clear hba hco hCo HR
        generalize l[k] = x at *
        generalize ordT (l.take k) = o at *
        go_wp2_with fail
        refine HI.out.mono ?_
        rintro e w3 ⟨hb, he⟩
        have HB3 := Lib.hid (HBa.out.trans (hb.mono HBa.out.size))
        rcases he with ⟨rfl, hi⟩ | ⟨v, rfl, hR⟩
        · have HR3 : Hid (Kd.R k35 35 w3 w.heap.size (fun _ => True) (.slice Ao o.length co) ((ordT (l.take (k + 1))).map p35)) := Lib.hid (by
            rw [Htk.out, hi]
            exact Kd.R_below HRa.out hb)
          clear hb hi ha0 ha1 ha2 ha3 ha4 ha5 ha6 HI HRa
          go_wp2_with fail
          go_roundw
          case rel => exact ⟨k + 1, by omega, by go_num, HR3, HB3⟩
          case measure => simp [intOf]; omega
        · have HR3 : Hid (Kd.R k35 35 w3 w.heap.size (fun _ => True) v ((ordT (l.take (k + 1))).map p35)) := Lib.hid (by
            rw [Htk.out]
            exact Kd.R_lower hR HBa.out.size)
          clear hb hR ha0 ha1 ha2 ha3 ha4 ha5 ha6 HI HRa
          go_wp2_with fail
          go_roundw
          case rel => exact ⟨k + 1, by omega, by go_num, HR3, HB3⟩
          case measure => simp [intOf]; omega
      · have hdec : decide ((k : Int) < (l.length : Int)) = false := decide_eq_false (by omega)
        obtain rfl : k = l.length := by omega
        go_wp2_with fail
        go_ret2
        refine ⟨fun _ => ⟨_, rfl, ?_, HB.out⟩, fun h => absurd HV.out (by rw [h]; simp)⟩
        have := HR.out
        rw [List.take_length] at this
        exact this
theorem all_c (A : Option Addr) (c : Nat) (l : List S32) (w : World) (h : Kd.C k32 w A l.length l) (hc : l.length ≤ c) (hl : l.length ≤ 1000) :
    Calls Try.prog 27 #[.slice A l.length c] w fun e w' => ∃ A' c', e = .returned (.slice A' l.length c') ∧ l.length ≤ c' ∧ Kd.C k35 w' A' l.length (l.map p35) ∧ Below w.heap.size w w' :=
  (kinkeeplaw41_all.calls 1001 A c l (l.map p35) w h hc (all_f l hl _ (Nat.le_refl _))).mono (by
    rintro e w' ⟨v, rfl, hR, hb⟩
    obtain ⟨A', c', rfl, h1, h2⟩ := Kd.R_reads hR
    rw [List.length_map] at h1 h2
    exact ⟨A', c', by rw [List.length_map], h1, h2, hb⟩)
theorem same_c (A : Option Addr) (c : Nat) (A' : Option Addr) (c' : Nat) (l : List S32) (w : World) (h : Kd.C k32 w A l.length l) (hc : l.length ≤ c) (h' : Kd.C k35 w A' l.length (l.map p35)) (hc' : l.length ≤ c') (hl : l.length ≤ 1000) :
    Calls Try.prog 20 #[.slice A l.length c, .slice A' l.length c'] w fun e w' => e = .returned (.bool true) ∧ Below w.heap.size w w' := by
  have := kinkeeplaw41_same.calls 1001 A c l A' c' (l.map p35) true w h hc (by rw [List.length_map]; exact h') (by rw [List.length_map]; exact hc') (same_f l hl _ (Nat.le_refl _))
  rw [List.length_map] at this
  exact this
end Go.Proofs.Ytkngdlmlijefbaa.Pq
