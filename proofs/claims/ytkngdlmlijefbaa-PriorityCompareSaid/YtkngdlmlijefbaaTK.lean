/- slices.Compact over tasks: its walk. -/
import Derived.Test.YtkngdlmlijefbaaTJ
namespace Go.Proofs.Ytkngdlmlijefbaa.Pq
open Go.RowKit Go.Proofs.YtkngdlmlijefbaaW.PrintWords Go.Proofs.YtkngdlmlijefbaaW.PrintLast Go.Proofs.YtkngdlmlijefbaaW.PrintMore Go.Proofs.Mp
open Go.Proofs.Ytkngdlmlijefbaa.PPriorityOrder
set_option linter.unusedVariables false
set_option linter.unusedSimpArgs false

theorem eqV (d : Nat) (a b : S32) (w : World) : (Op.equalIn (d + 3) 32 (.agg #[.string a.f0.f0, .int .i64 a.f0.f1, .int .i64 a.f1, .int .i64 a.f2, .int .i64 a.f3.f0, .int .i64 a.f3.f1, .int .i64 a.f4]) (.agg #[.string b.f0.f0, .int .i64 b.f0.f1, .int .i64 b.f1, .int .i64 b.f2, .int .i64 b.f3.f0, .int .i64 b.f3.f1, .int .i64 b.f4])).run Try.prog w = .ok (eqS a b) w := eqA32 d w _ _ _ _ _ _ _ _ _ _ _ _ _ _
attribute [local go_sem high] eqV
theorem OwnT.seven {w : World} {g cap : Nat} {l : List S32} (h : OwnT w g cap l) {i : Nat} {a : S32} (hi : l[i]? = some a) : w.cell? ⟨g, i * 7, none⟩ = some (.string a.f0.f0) ∧ w.cell? ⟨g, i * 7 + 1, none⟩ = some (.int .i64 a.f0.f1) ∧ w.cell? ⟨g, i * 7 + 2, none⟩ = some (.int .i64 a.f1) ∧ w.cell? ⟨g, i * 7 + 3, none⟩ = some (.int .i64 a.f2) ∧ w.cell? ⟨g, i * 7 + 4, none⟩ = some (.int .i64 a.f3.f0) ∧ w.cell? ⟨g, i * 7 + 5, none⟩ = some (.int .i64 a.f3.f1) ∧ w.cell? ⟨g, i * 7 + 6, none⟩ = some (.int .i64 a.f4) :=
  ⟨h.cell (c := 0) hi (by decide), h.cell (c := 1) hi (by decide), h.cell (c := 2) hi (by decide), h.cell (c := 3) hi (by decide), h.cell (c := 4) hi (by decide), h.cell (c := 5) hi (by decide), h.cell (c := 6) hi (by decide)⟩
set_option maxHeartbeats 400000 in
set_option maxRecDepth 100000 in
theorem Compact_calls (g cap : Nat) (l : List S32) (w : World) (h : OwnT w g cap l) (hl : l.length ≤ 1000) :
    Calls Try.prog 50 #[.slice (some ⟨g, 0, none⟩) l.length cap] w fun e w' => e = .returned (.slice (some ⟨g, 0, none⟩) (cp l l.length).length cap) ∧ OwnT w' g cap (cp l l.length) ∧ Fr (fun i => i = g) w w' := by
  have H := Lib.hid h
  clear h
  obtain ⟨n, hn⟩ : ∃ n, n = l.length := ⟨_, rfl⟩
  rw [← hn]
  have Hn := Lib.hid hn
  rw [← hn] at hl
  clear hn
  by_cases h2 : n < 2
  · have hdec : decide ((n : Int) < 2) = true := decide_eq_true (by omega)
    go_enter Try.func50, Try.ntmps50
    go_wp2_with fail
    go_ret
    have e : cp l n = l := by
      rw [cp_apart n (by rw [Hn.out]; omega) (fun i hi => by omega), Hn.out, List.take_length]
    rw [e, ← Hn.out]
    exact ⟨rfl, H.out, Fr.refl _ _⟩
  · have hdec : decide ((n : Int) < 2) = false := decide_eq_false (by omega)
    go_enter Try.func50, Try.ntmps50
    go_wp2_with fail
    have hcapn : Hid (n ≤ cap ∧ cap ≤ maxLen) := Lib.hid (by
      obtain ⟨_, _, a1, a2, _⟩ := H.out
      rw [Hn.out]
      exact ⟨a1, a2⟩)
    go_loopw [3] (fun v wr => ∃ k : Nat, 1 ≤ k ∧ k ≤ n ∧ v = .int .i64 k ∧ Hid (∀ i, i + 1 < k → eqS (gt l (i + 1)) (gt l i) = false) ∧ Hid (OwnT wr g cap l) ∧ Hid (Fr (fun i => i = g) w wr)) (fun v _ => n - (intOf v).toNat)
    case atStart => exact ⟨1, by omega, by omega, rfl, Lib.hid (fun i hi => by omega), H, Lib.hid (Fr.refl _ _)⟩
    case round =>
      obtain ⟨k, hk1, hkn, rfl, hall, HR, HF⟩ := hrel
      have HR := Lib.hid HR.out
      have HF := Lib.hid HF.out
      have hall := Lib.hid hall.out
      by_cases hlt : k < n
      · have hd2 : decide ((k : Int) < (n : Int)) = true := decide_eq_true (by omega)
        obtain ⟨m, rfl⟩ : ∃ m, k = m + 1 := ⟨k - 1, by omega⟩
        have hw1 : wrap64 (((m + 1 : Nat) : Int) - 1) = (m : Int) := by unfold wrap64; omega
        have ha := gt_some (l := l) (i := m + 1) (by have := Hn.out; omega)
        have hb := gt_some (l := l) (i := m) (by have := Hn.out; omega)
        obtain ⟨ac0, ac1, ac2, ac3, ac4, ac5, ac6⟩ := HR.out.seven ha
        obtain ⟨bc0, bc1, bc2, bc3, bc4, bc5, bc6⟩ := HR.out.seven hb
        clear ha hb
        cases hE : eqS (gt l (m + 1)) (gt l m) with
        | false =>
          have HE := Lib.hid hE
          go_wp2_with fail
          go_quiet (fail)
          clear ac0 ac1 ac2 ac3 ac4 ac5 ac6 bc0 bc1 bc2 bc3 bc4 bc5 bc6
          go_wp2_with fail
          go_roundw
          case rel =>
            refine ⟨m + 2, by omega, by omega, by go_num, Lib.hid (fun i hi => ?_), Lib.hid (HR.out.below (pw_below_drewN (Below.refl _ _) _)), Lib.hid (HF.out.then_below (pw_below_drewN (Below.refl _ _) _))⟩
            rcases (show i = m ∨ i + 1 < m + 1 from by omega) with rfl | h
            · exact HE.out
            · exact hall.out i h
          case measure => simp [intOf]; omega
        | true =>
          have HE := Lib.hid hE
          go_wp2_with fail
          go_quiet (fail)
          clear ac0 ac1 ac2 ac3 ac4 ac5 ac6 bc0 bc1 bc2 bc3 bc4 bc5 bc6
          have hmc : m + 1 < cap := by have := hcapn.out.1; omega
          go_wp2_with fail
          obtain ⟨r, hr⟩ : ∃ r, r = n - (m + 1) := ⟨_, rfl⟩
          rw [← hr]
          have hr1 : m + 1 + r ≤ n := by omega
          have hr2 : n ≤ m + 1 + r := by omega
          clear hr
          have HK : Hid (KI l l (m + 1) (m + 1 + 1)) := Lib.hid (KI.start (by omega) (by have := Hn.out; omega) hall.out HE.out)
          have HR2 := Lib.hid (HR.out.below (pw_below_drewN (Below.refl _ _) nq))
          have HF2 := Lib.hid (HF.out.then_below (pw_below_drewN (Below.refl _ _) nq))
          clear hw1 hE hall HR HF
          go_loopw [3, 5] (fun v3 v5 w1 => ∃ (k q : Nat) (dk : List S32), 1 ≤ q ∧ q ≤ r ∧ k < n ∧ v3 = .int .i64 k ∧ v5 = .int .i64 q ∧ Hid (KI l dk k (m + 1 + q)) ∧ Hid (OwnT w1 g cap dk) ∧ Hid (Fr (fun i => i = g) w w1)) (fun _ v5 _ => r - (intOf v5).toNat)
          case atStart => exact ⟨m + 1, 1, l, by omega, by omega, by omega, by go_num, rfl, HK, HR2, HF2⟩
          case round =>
            obtain ⟨k, q, dk, hq1, hqr, hkn, rfl, rfl, hK, hR, hF⟩ := hrel
            have HK := Lib.hid hK.out
            have HR := Lib.hid hR.out
            have HF := Lib.hid hF.out
            clear HR2 HF2 hK hR hF
            by_cases hlt : q < r
            · have hd2 : decide ((q : Int) < (r : Int)) = true := decide_eq_true (by omega)
              obtain ⟨p, rfl⟩ : ∃ p, q = p + 1 := ⟨q - 1, by omega⟩
              have hw1 : wrap64 (((p + 1 : Nat) : Int) - 1) = (p : Int) := by unfold wrap64; omega
              have hll : l.length = n := Hn.out.symm
              have ha : dk[m + 1 + (p + 1)]? = some (gt l (m + 1 + (p + 1))) := (HK.out.rest _ (by omega)).trans (gt_some (by omega))
              have hb : dk[m + 1 + p]? = some (gt l (m + 1 + p)) := (HK.out.rest _ (by omega)).trans (gt_some (by omega))
              obtain ⟨ac0, ac1, ac2, ac3, ac4, ac5, ac6⟩ := HR.out.seven ha
              obtain ⟨bc0, bc1, bc2, bc3, bc4, bc5, bc6⟩ := HR.out.seven hb
              rw [Nat.add_mul (m + 1)] at ac0 ac1 ac2 ac3 ac4 ac5 ac6 bc0 bc1 bc2 bc3 bc4 bc5 bc6
              clear ha hb hll
              cases hE : eqS (gt l (m + 1 + (p + 1))) (gt l (m + 1 + p)) with
              | true =>
                have HE := Lib.hid hE
                go_wp2_with fail
                go_quiet (fail)
                clear ac0 ac1 ac2 ac3 ac4 ac5 ac6 bc0 bc1 bc2 bc3 bc4 bc5 bc6 hE
                go_wp2_with fail
                go_roundw
                case rel =>
                  refine ⟨k, p + 1 + 1, dk, by omega, by omega, by omega, rfl, by go_num, Lib.hid (HK.out.skip (j := m + 1 + (p + 1)) (by have := Hn.out; omega) HE.out), Lib.hid (HR.out.below (pw_below_drewN (Below.refl _ _) _)), Lib.hid (HF.out.then_below (pw_below_drewN (Below.refl _ _) _))⟩
                case measure => simp [intOf]; omega
              | false =>
                have HE := Lib.hid hE
                have hkj := HK.out.kj
                have hkd : k < dk.length := by have := HK.out.len; have := Hn.out; omega
                go_wp2_with fail
                go_quiet (fail)
                have HR4 := Lib.hid (HR.out.below (pw_below_drewN (Below.refl _ _) nq))
                have HF4 := Lib.hid (HF.out.then_below (pw_below_drewN (Below.refl _ _) nq))
                clear bc0 bc1 bc2 bc3 bc4 bc5 bc6 hE
                generalize wr.drewN nq = w4 at *
                have ha4 : dk[m + 1 + (p + 1)]? = some (gt l (m + 1 + (p + 1))) := (HK.out.rest _ (by omega)).trans (gt_some (by have := Hn.out; omega))
                obtain ⟨ac0, ac1, ac2, ac3, ac4, ac5, ac6⟩ := HR4.out.seven ha4
                rw [Nat.add_mul (m + 1)] at ac0 ac1 ac2 ac3 ac4 ac5 ac6
                obtain ⟨bc0, bc1, bc2, bc3, bc4, bc5, bc6⟩ := HR4.out.seven (gt_some hkd)
                have hf0 : w4.frozen? ⟨g, k * 7, none⟩ = false := HR4.out.frozen _
                have hf1 : w4.frozen? ⟨g, k * 7 + 1, none⟩ = false := HR4.out.frozen _
                have hf2 : w4.frozen? ⟨g, k * 7 + 2, none⟩ = false := HR4.out.frozen _
                have hf3 : w4.frozen? ⟨g, k * 7 + 3, none⟩ = false := HR4.out.frozen _
                have hf4 : w4.frozen? ⟨g, k * 7 + 4, none⟩ = false := HR4.out.frozen _
                have hf5 : w4.frozen? ⟨g, k * 7 + 5, none⟩ = false := HR4.out.frozen _
                have hf6 : w4.frozen? ⟨g, k * 7 + 6, none⟩ = false := HR4.out.frozen _
                have HP := Lib.hid (HR4.out.puts hkd (gt l (m + 1 + (p + 1))))
                have HFP : Hid (Fr (fun i => i = g) w (w4.setCells g (k * 7) (tcs (gt l (m + 1 + (p + 1)))))) := Lib.hid (by
                  obtain ⟨e1, e2, e3, e4⟩ := setCells_same g (tcs (gt l (m + 1 + (p + 1)))) (k * 7) w4
                  exact HF4.out.trans ⟨e1, e2, e3, by rw [e4]; exact Nat.le_refl _, fun x hx hn => setCells_far _ (k * 7) x hn⟩ (fun _ _ h => h))
                clear ha4 hkd
                go_wp2_with fail
                go_roundw
                case rel => exact ⟨k + 1, p + 1 + 1, dk.set k (gt l (m + 1 + (p + 1))), by omega, by omega, by omega, by go_num, by go_num, Lib.hid (HK.out.keep (j := m + 1 + (p + 1)) (by have := Hn.out; omega) HE.out), HP, HFP⟩
                case measure => simp [intOf]; omega
            · have hd2 : decide ((q : Int) < (r : Int)) = false := decide_eq_false (by omega)
              obtain rfl : q = r := by omega
              have hnq : n = m + 1 + q := by omega
              have hkj := HK.out.kj
              have HKl : Hid (dk.take k = cp l n ∧ (cp l n).length = k) := Lib.hid (by
                have h1 : KI l dk k l.length := by rw [← Hn.out, hnq]; exact HK.out
                rw [Hn.out]
                exact h1.last)
              have hkd : Hid (dk.length = n) := Lib.hid (by rw [Hn.out]; exact HK.out.len)
              have hn0 := hcapn.out.1
              obtain ⟨vs, hvl, hcl⟩ := run_clear7 wr 0 g (k * 7) (n - k) (cap - k) (by omega)
                (fun j hj => by
                  obtain ⟨cur, b1, b2, b3, b4, b5⟩ := HR.out
                  have := hkd.out
                  rw [blk_cell b1, Array.getElem?_eq_getElem (by omega)]; rfl) (fun j hj => HR.out.frozen _)
              have HC := Lib.hid (HR.out.clears (k := k) (by have := hkd.out; omega) vs (by rw [hvl, hkd.out]))
              have HFC : Hid (Fr (fun i => i = g) w (wr.setCells g (k * 7) vs)) := Lib.hid (by
                obtain ⟨e1, e2, e3, e4⟩ := setCells_same g vs (k * 7) wr
                exact HF.out.trans ⟨e1, e2, e3, by rw [e4]; exact Nat.le_refl _, fun x hx hn => setCells_far _ (k * 7) x hn⟩ (fun _ _ h => h))
              have hkc : k < cap := by omega
              clear hvl hnq
              go_wp2_with fail
              go_ret
              rw [HKl.out.2]
              have hh := HC.out
              rw [HKl.out.1] at hh
              exact ⟨rfl, hh, HFC.out⟩
      · have hd2 : decide ((k : Int) < (n : Int)) = false := decide_eq_false (by omega)
        obtain rfl : k = n := by omega
        go_wp2_with fail
        go_ret
        have e : cp l k = l := by
          rw [cp_apart k (by rw [Hn.out]; omega) hall.out, Hn.out, List.take_length]
        rw [e, ← Hn.out]
        exact ⟨rfl, HR.out, HF.out⟩
end Go.Proofs.Ytkngdlmlijefbaa.Pq
