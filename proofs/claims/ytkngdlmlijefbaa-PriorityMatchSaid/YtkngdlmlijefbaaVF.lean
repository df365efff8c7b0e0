/- The reference's Match: its walk. -/
import Derived.Test.YtkngdlmlijefbaaVB
namespace Go.Proofs.Ytkngdlmlijefbaa.Pq
open Go.RowKit Go.Proofs.YtkngdlmlijefbaaW.PrintWords Go.Proofs.YtkngdlmlijefbaaW.PrintLast Go.Proofs.YtkngdlmlijefbaaW.PrintMore Go.Proofs.Mp
open Go.Proofs.Ytkngdlmlijefbaa.PPriorityOrder
set_option linter.unusedVariables false
set_option linter.unusedSimpArgs false

theorem run_tail26 (ad : Addr) (n c : Nat) (h : n + 1 ≤ c) (w : World) : (Instr.slice 26 (.slice (some ad) (n + 1) c) (some (.int .i64 1)) none none).run Try.prog w = .ok (.slice (tl ad c) n (c - 1)) w := by
  have h1 : (1 : Int) ≤ ((n + 1 : Nat) : Int) := by omega
  by_cases hc : c = 1
  · simp [Instr.slice, run_underlying Try.underlying26, Instr.sliceBounds, Instr.sliceBound, asIntOf, Sem.run_bind, Result.andThen, size35, tl, hc, h1, Sem.run_pure]
    rw [if_pos (by omega : (1 : Int) ≤ (n : Int) + 1)]
    simp [hc]
  · simp [Instr.slice, run_underlying Try.underlying26, Instr.sliceBounds, Instr.sliceBound, asIntOf, Sem.run_bind, Result.andThen, size35, tl, hc, h1, Sem.run_pure]
    rw [if_pos (by omega : (1 : Int) ≤ (n : Int) + 1)]
    simp [hc]
/-- A part of a row of the reference's tasks that is read. -/
structure Src5 (w : World) (A : Option Addr) (c : Nat) (l : List S32) : Prop where
  rd : Kd.C k35 w A l.length (l.map p35)
  cap : l.length ≤ c
theorem Src5.tail {w : World} {ad : Addr} {c : Nat} {t : S32} {l : List S32} (h : Src5 w (some ad) c (t :: l)) : Src5 w (tl ad c) (c - 1) l := by
  have hc := h.cap
  rw [List.length_cons] at hc
  refine ⟨?_, by omega⟩
  have := C_drop h.rd 1 (by simp) (tl ad c) (fun hlt ad' e => by
    injection e with e
    subst e
    unfold tl
    rw [List.length_cons] at hlt
    rw [if_neg (by omega)]
    rfl)
  simpa using this
theorem Src5.head {w : World} {A : Option Addr} {c : Nat} {t : S32} {l : List S32} (h : Src5 w A c (t :: l)) : ∃ ad, A = some ad ∧ ∀ W, Below w.heap.size w W → CA W ad t := by
  obtain ⟨ad, rfl, hh⟩ := at35 h.rd (k := 0) (by simp)
  refine ⟨ad, rfl, fun W hW => ?_⟩
  have := hh W hW
  have e : ad.add (0 * 7) = ad := rfl
  rw [e] at this
  exact this
/-- What the reference's Match keeps while it goes. -/
structure MJ (w0 wr : World) (Ax : Option Addr) (cx : Nat) (x : List S32) (Ay : Option Addr) (cy : Nat) (y : List S32) (left : Int) (ss : List Int) (ts : List S32) (v13 v14 : Value) : Prop where
  sx : Src5 w0 Ax cx x
  sy : Src5 w0 Ay cy y
  vx : ∀ t ∈ x, Vt t
  vy : ∀ t ∈ y, Vt t
  bl : Below w0.heap.size w0 wr
  l0 : 0 ≤ left
  l1 : left ≤ 9223372036854775807
  sd : Kd.R (Kd.int .i64) 3 wr w0.heap.size (fun _ => True) v13 ss
  ot : Kd.R k35 35 wr w0.heap.size (fun _ => True) v14 (ts.map p35)
section
variable {w0 wr w1 : World} {Ax : Option Addr} {cx : Nat} {x : List S32} {Ay : Option Addr} {cy : Nat} {y : List S32} {left : Int} {ss : List Int} {ts : List S32} {v13 v14 : Value}
theorem MJ.below (h : MJ w0 wr Ax cx x Ay cy y left ss ts v13 v14) (hb : Below wr.heap.size wr w1) : MJ w0 w1 Ax cx x Ay cy y left ss ts v13 v14 :=
  ⟨h.sx, h.sy, h.vx, h.vy, h.bl.trans (hb.mono h.bl.size), h.l0, h.l1, Kd.R_below h.sd hb, Kd.R_below h.ot hb⟩
theorem MJ.tailx {ad : Addr} {t : S32} (h : MJ w0 wr (some ad) cx (t :: x) Ay cy y left ss ts v13 v14) : MJ w0 wr (tl ad cx) (cx - 1) x Ay cy y left ss ts v13 v14 :=
  ⟨h.sx.tail, h.sy, fun u hu => h.vx u (List.mem_cons_of_mem _ hu), h.vy, h.bl, h.l0, h.l1, h.sd, h.ot⟩
theorem MJ.taily {ad : Addr} {t : S32} (h : MJ w0 wr Ax cx x (some ad) cy (t :: y) left ss ts v13 v14) : MJ w0 wr Ax cx x (tl ad cy) (cy - 1) y left ss ts v13 v14 :=
  ⟨h.sx, h.sy.tail, h.vx, fun u hu => h.vy u (List.mem_cons_of_mem _ hu), h.bl, h.l0, h.l1, h.sd, h.ot⟩
theorem MJ.store (h : MJ w0 wr Ax cx x Ay cy y left ss ts v13 v14) {gt : Nat} {cs : Array Value} (hg : w0.heap.size ≤ gt) (hb : wr.heap[gt]? = some (.cells cs 35 (0, 0))) (hne : some gt ≠ v14.ownBlock) (o : Nat) (us : List Value) :
    MJ w0 (wr.setCells gt o us) Ax cx x Ay cy y left ss ts v13 v14 := by
  have hfar : ∀ k, k ≠ gt → (wr.setCells gt o us).heap[k]? = wr.heap[k]? := fun k hk => setCells_far us o k hk
  obtain ⟨e1, e2, e3, e4⟩ := setCells_same gt us o wr
  have hne3 : some gt ≠ v13.ownBlock := Kd.R_ne h.sd hb (by decide)
  exact ⟨h.sx, h.sy, h.vx, h.vy, ⟨e1.trans h.bl.os, e2.trans h.bl.tape, e3.trans h.bl.output, by rw [e4]; exact h.bl.size, fun i hi => (hfar i (by omega)).trans (h.bl.block i hi)⟩,
    h.l0, h.l1, Kd.R_drop (Kd.R_step (Kd.R_far1 h.sd rfl hne3) (fun k ho _ => hfar k ho.2)), Kd.R_drop (Kd.R_step (Kd.R_far1 h.ot rfl hne) (fun k ho _ => hfar k ho.2))⟩
theorem MJ.app1 (h : MJ w0 wr Ax cx x Ay cy y left ss ts v13 v14) {v1 : Value} {s : Int} (hR : Kd.R (Kd.int .i64) 3 w1 w0.heap.size (fun _ => True) v1 (ss ++ [s])) (hb : Below w0.heap.size wr w1) (hg : wr.grownBy w1 v13.ownBlock) :
    MJ w0 w1 Ax cx x Ay cy y left (ss ++ [s]) ts v1 v14 :=
  ⟨h.sx, h.sy, h.vx, h.vy, h.bl.trans hb, h.l0, h.l1, hR, Kd.R_grown2 h.ot rfl hg (fun k hk => by
    obtain ⟨cells, hc⟩ := own_cells h.sd rfl hk
    exact Kd.R_ne h.ot hc (by decide))⟩
theorem MJ.app2 (h : MJ w0 wr Ax cx x Ay cy y left ss ts v13 v14) {v1 : Value} {t : S32} (hR : Kd.R k35 35 w1 w0.heap.size (fun _ => True) v1 (ts.map p35 ++ [p35 t])) (hb : Below w0.heap.size wr w1) (hg : wr.grownBy w1 v14.ownBlock) :
    MJ w0 w1 Ax cx x Ay cy y left ss (ts ++ [t]) v13 v1 :=
  ⟨h.sx, h.sy, h.vx, h.vy, h.bl.trans hb, h.l0, h.l1, Kd.R_grown2 h.sd rfl hg (fun k hk => by
    obtain ⟨cells, hc⟩ := own_cells h.ot rfl hk
    exact Kd.R_ne h.sd hc (by decide)), by rw [List.map_append]; exact hR⟩
theorem MJ.took (h : MJ w0 wr Ax cx x Ay cy y left ss ts v13 v14) {l2 : Int} (h0 : 0 ≤ l2) (h1 : l2 ≤ 9223372036854775807) : MJ w0 wr Ax cx x Ay cy y l2 ss ts v13 v14 :=
  ⟨h.sx, h.sy, h.vx, h.vy, h.bl, h0, h1, h.sd, h.ot⟩
end
theorem blk_tcs35 {w : World} {g : Nat} {c0 c1 c2 c3 c4 c5 c6 : Value} (h : w.heap[g]? = some (.cells #[c0, c1, c2, c3, c4, c5, c6] 35 (0, 0))) (t : S32) : (w.setCells g 0 (tcs t)).heap[g]? = some (.cells (tcells t) 35 (0, 0)) := by
  have h0 := blk_put (cs' := #[.string t.f0.f0, c1, c2, c3, c4, c5, c6]) h 0 (.string t.f0.f0) rfl
  have h1 := blk_put (cs' := #[.string t.f0.f0, .int .i64 t.f0.f1, c2, c3, c4, c5, c6]) h0 1 (.int .i64 t.f0.f1) rfl
  have h2 := blk_put (cs' := #[.string t.f0.f0, .int .i64 t.f0.f1, .int .i64 t.f1, c3, c4, c5, c6]) h1 2 (.int .i64 t.f1) rfl
  have h3 := blk_put (cs' := #[.string t.f0.f0, .int .i64 t.f0.f1, .int .i64 t.f1, .int .i64 t.f2, c4, c5, c6]) h2 3 (.int .i64 t.f2) rfl
  have h4 := blk_put (cs' := #[.string t.f0.f0, .int .i64 t.f0.f1, .int .i64 t.f1, .int .i64 t.f2, .int .i64 t.f3.f0, c5, c6]) h3 4 (.int .i64 t.f3.f0) rfl
  have h5 := blk_put (cs' := #[.string t.f0.f0, .int .i64 t.f0.f1, .int .i64 t.f1, .int .i64 t.f2, .int .i64 t.f3.f0, .int .i64 t.f3.f1, c6]) h4 5 (.int .i64 t.f3.f1) rfl
  have h6 := blk_put (cs' := #[.string t.f0.f0, .int .i64 t.f0.f1, .int .i64 t.f1, .int .i64 t.f2, .int .i64 t.f3.f0, .int .i64 t.f3.f1, .int .i64 t.f4]) h5 6 (.int .i64 t.f4) rfl
  exact h6
def RMatR (w : World) (a b : List S32) (budget : Int) (e : Ending) (w' : World) : Prop :=
  (okAll a b budget = true → ∃ v u, e = .returned (.tuple #[v, u, .int .i64 0]) ∧ Kd.R (Kd.int .i64) 3 w' w.heap.size (fun _ => True) v ((res a b budget).map (·.1)) ∧ Kd.R k35 35 w' w.heap.size (fun _ => True) u (((res a b budget).map (·.2)).map p35) ∧ Below w.heap.size w w') ∧
  (okAll a b budget = false → e = .returned (.tuple #[.slice none 0 0, .slice none 0 0, .int .i64 1]) ∧ Below w.heap.size w w')
theorem R_none3' (W : World) (base : Nat) (hb : base ≤ W.heap.size) (ok : Nat → Prop) (hok : ok W.heap.size) : Kd.R (Kd.int .i64) 3 (W.alloc (.cells #[] 3)) base ok (.slice (some ⟨W.heap.size, 0, none⟩) 0 0) [] := by
  refine ⟨fun k hk => ?_, [], ?_, by simp, fun i p hp => by simp at hp⟩
  · have : W.heap.size = k := by simpa [Value.ownBlock] using hk
    exact this ▸ hok
  · exact World.ownsRow_lit (base := base) (e := 3) (size := 1) W #[] 0 hb (by simp [maxLen]) (by simp)
set_option maxHeartbeats 8000000 in
set_option maxRecDepth 100000 in
theorem rmatch_yes (A : Option Addr) (ca : Nat) (a : List S32) (B : Option Addr) (cb : Nat) (b : List S32) (budget : Int) (w : World) (ha : Kd.C k35 w A a.length (a.map p35)) (hb : Kd.C k35 w B b.length (b.map p35)) (hla : a.length ≤ 1000) (hlb : b.length ≤ 1000) (hca : a.length ≤ ca) (hcb : b.length ≤ cb) (h : okAll a b budget = true) (hbu : budget ≤ 9223372036854775807) :
    Calls Try.prog 31 #[.slice A a.length ca, .slice B b.length cb, .int .i64 budget] w fun e w' => ∃ v u, e = .returned (.tuple #[v, u, .int .i64 0]) ∧ Kd.R (Kd.int .i64) 3 w' w.heap.size (fun _ => True) v ((res a b budget).map (·.1)) ∧ Kd.R k35 35 w' w.heap.size (fun _ => True) u (((res a b budget).map (·.2)).map p35) ∧ Below w.heap.size w w' := by
  have Ha := Lib.hid ha
  have Hb := Lib.hid hb
  unfold okAll at h
  simp only [Bool.and_eq_true, decide_eq_true_eq] at h
  obtain ⟨qa, qb, hb0⟩ := h
  have Qa := Lib.hid qa
  have Qb := Lib.hid qb
  have hneg : decide (budget < 0) = false := decide_eq_false (by omega)
  have la := ordT_len a
  have lb := ordT_len b
  have HVa := Lib.hid (ordT_valid (l := a) (fun x hx => (vB_iff x).1 (List.all_eq_true.1 qa x hx)))
  have HVb := Lib.hid (ordT_valid (l := b) (fun x hx => (vB_iff x).1 (List.all_eq_true.1 qb x hx)))
  clear qa qb ha hb
  go_enter Try.func31, Try.ntmps31
  go_wp2_with fail
  refine (refvalid_c A ca a true Qa.out w Ha.out hla hca).mono ?_
  rintro e w0 ⟨rfl, hb⟩
  have B0 := Lib.hid hb
  clear hb
  go_wp2_with fail
  refine (refvalid_c B cb b true Qb.out w0 (Kd.C_below Hb.out B0.out) hlb hcb).mono ?_
  rintro e w1 ⟨rfl, hb⟩
  have B1 := Lib.hid (B0.out.trans (hb.mono B0.out.size))
  clear hb B0
  go_wp2_with fail
  refine (refOrder_calls A ca a w1 (Kd.C_below Ha.out B1.out) hla hca).mono ?_
  rintro e w2 ⟨h1, -⟩
  obtain ⟨v, rfl, hR, hB⟩ := h1 Qa.out
  have B2 := Lib.hid (B1.out.trans (hB.mono B1.out.size))
  obtain ⟨A1, c1, hv1, hc1, hC1⟩ := Kd.R_reads hR
  rw [List.length_map] at hv1 hc1 hC1
  subst hv1
  have S1 := Lib.hid (Src5.mk hC1 hc1)
  clear h1 hB hR hC1
  go_wp2_with fail
  refine (refOrder_calls B cb b w2 (Kd.C_below Hb.out B2.out) hlb hcb).mono ?_
  rintro e w3 ⟨h1, -⟩
  obtain ⟨u, rfl, hR, hB⟩ := h1 Qb.out
  have B3 := Lib.hid (B2.out.trans (hB.mono B2.out.size))
  have S1' : Hid (Src5 w3 A1 c1 (ordT a)) := Lib.hid ⟨Kd.C_below S1.out.rd hB, S1.out.cap⟩
  obtain ⟨A2, c2, hv2, hc2, hC2⟩ := Kd.R_reads hR
  rw [List.length_map] at hv2 hc2 hC2
  subst hv2
  have S2 := Lib.hid (Src5.mk hC2 hc2)
  clear h1 hB hR hC2 S1 B2
  have hb1 := (Below.refl w3.heap.size w3).alloc (Nat.le_refl _) (.cells #[] 3)
  have hsz : (w3.alloc (.cells #[] 3)).heap.size = w3.heap.size + 1 := Array.size_push ..
  have hb2 : Below (w3.alloc (.cells #[] 3)).heap.size (w3.alloc (.cells #[] 3)) ((w3.alloc (.cells #[] 3)).alloc (.cells #[] 35)) := (Below.refl _ _).alloc (Nat.le_refl _) _
  have HM : Hid (MJ w3 ((w3.alloc (.cells #[] 3)).alloc (.cells #[] 35)) A1 c1 (ordT a) A2 c2 (ordT b) budget [] [] (.slice (some ⟨w3.heap.size, 0, none⟩) 0 0) (.slice (some ⟨w3.heap.size + 1, 0, none⟩) 0 0)) := Lib.hid
    ⟨S1'.out, S2.out, HVa.out, HVb.out, hb1.trans (hb2.mono hb1.size), hb0, hbu, Kd.R_below (R_none3' w3 w3.heap.size (Nat.le_refl _) _ trivial) hb2, by
      have := R_none35 (w3.alloc (.cells #[] 3)) w3.heap.size hb1.size (fun _ => True) trivial
      rw [hsz] at this
      exact this⟩
  have HE : Hid (([] : List (Int × S32)) ++ mt ((ordT a).length + (ordT b).length) (ordT a) (ordT b) budget = res a b budget) := Lib.hid rfl
  clear HVa HVb hb0 hneg S1' S2 hb1 hb2 hsz
  generalize ordT a = x0 at *
  generalize ordT b = y0 at *
  go_wp2_with fail
  generalize (w3.alloc (.cells #[] 3)).alloc (.cells #[] 35) = wi at *
  go_loopw [2, 9, 11, 13, 14] (fun v2 v9 v11 v13 v14 wr => ∃ (Ax : Option Addr) (cx : Nat) (x : List S32) (Ay : Option Addr) (cy : Nat) (y : List S32) (left : Int) (acc : List (Int × S32)), v2 = .int .i64 left ∧ v9 = .slice Ax x.length cx ∧ v11 = .slice Ay y.length cy ∧ x.length + y.length + acc.length ≤ 2000 ∧
    Hid (MJ w3 wr Ax cx x Ay cy y left (acc.map (·.1)) (acc.map (·.2)) v13 v14) ∧ Hid (acc ++ mt (x.length + y.length) x y left = res a b budget)) (fun _ v9 v11 _ _ _ => lenOf v9 + lenOf v11)
  case atStart => exact ⟨A1, c1, x0, A2, c2, y0, budget, [], rfl, rfl, rfl, by simp; omega, HM, HE⟩
  case round =>
    obtain ⟨Ax, cx, x, Ay, cy, y, left, acc, rfl, rfl, rfl, hlen, hM, hE⟩ := hrel
    have HMr := Lib.hid hM.out
    have HEr := Lib.hid hE.out
    clear hM hE HM HE
    cases y with
    | nil =>
      cases x with
      | nil =>
        have hres : Hid (acc = res a b budget) := Lib.hid (by
          have e := HEr.out
          rw [mt_none, List.append_nil] at e
          exact e)
        clear HEr
        go_wp2_with fail
        refine bodyPost_ret (v := .tuple #[u13, u14, .int .i64 0]) (by simp [results, Try.results31, go_sem]) rfl ⟨u13, u14, rfl, ?_, ?_, ?_⟩
        · rw [← hres.out]
          exact Kd.R_lower HMr.out.sd B3.out.size
        · rw [← hres.out]
          exact Kd.R_lower HMr.out.ot B3.out.size
        · exact B3.out.trans (HMr.out.bl.mono B3.out.size)
      | cons t x =>
        have q1 : (((x.length : Int) + 1) == 0) = false := beq_eq_false_iff_ne.2 (by omega)
        have q3 : decide (0 < (x.length : Int) + 1) = true := decide_eq_true (by omega)
        simp only [List.length_cons, List.length_nil] at hlen ⊢
        have hcx : x.length + 1 ≤ cx := HMr.out.sx.cap
        obtain ⟨ad, rfl, hhd⟩ := HMr.out.sx.head
        have HHd := Lib.hid hhd
        have hpk : Hid (pick (t :: x) [] = some (0, t, x, [])) := Lib.hid rfl
        clear hhd
        go_wp2_with fail
        go_quiet (fail)
        have HMp := Lib.hid (HMr.out.below (pw_below_drewN (Below.refl wr.heap.size wr) nq))
        clear HMr
        generalize wr.drewN nq = wp at *
        have HVt := Lib.hid (HMp.out.vx t (by simp))
        have Hgt : Hid (w3.heap.size ≤ wp.heap.size) := Lib.hid HMp.out.bl.size
        have hbq := (Below.refl wp.heap.size wp).alloc (Nat.le_refl _) (.cells #[.string ⟨#[]⟩, .int .i64 0, .int .i64 0, .int .i64 0, .int .i64 0, .int .i64 0, .int .i64 0] 35)
        have HT := Lib.hid (blk_new wp (.cells #[.string ⟨#[]⟩, .int .i64 0, .int .i64 0, .int .i64 0, .int .i64 0, .int .i64 0, .int .i64 0] 35))
        have HMq := Lib.hid (HMp.out.below hbq)
        have HHq : Hid (∀ W, Below (wp.alloc (.cells #[.string ⟨#[]⟩, .int .i64 0, .int .i64 0, .int .i64 0, .int .i64 0, .int .i64 0, .int .i64 0] 35)).heap.size (wp.alloc (.cells #[.string ⟨#[]⟩, .int .i64 0, .int .i64 0, .int .i64 0, .int .i64 0, .int .i64 0, .int .i64 0] 35)) W → CA W ad t) := Lib.hid (fun W hW => HHd.out W (HMp.out.bl.trans ((hbq.trans (hW.mono hbq.size)).mono HMp.out.bl.size)))
        have Hne : Hid (some wp.heap.size ≠ u14.ownBlock) := Lib.hid (fun e => by have := Kd.R_lt HMp.out.ot _ e.symm; omega)
        clear HMp HHd hbq
        go_wp2_with fail
        generalize wp.alloc (.cells #[.string ⟨#[]⟩, .int .i64 0, .int .i64 0, .int .i64 0, .int .i64 0, .int .i64 0, .int .i64 0] 35) = wq at *
        generalize wp.heap.size = gt at *
        have hsl : ∀ w, (Instr.slice 26 (.slice (some ad) (x.length + 1) cx) (some (.int .i64 1)) none none).run Try.prog w = .ok (.slice (tl ad cx) x.length (cx - 1)) w := run_tail26 ad x.length cx hcx
        refine start_ (n := 7) (S := fun W => CA W ad t) (ds := [5]) #[false, false, false, false, false, false, false] (by kernel_rfl) rfl rfl (HHq.out _ (below_drew (Below.refl _ _))) (fun hHeld => ?_)
        have HMd := Lib.hid (HMq.out.below (below_drew (Below.refl _ _)))
        have HTd : Hid (wq.drew.heap[gt]? = _) := Lib.hid HT.out
        clear HMq HHq HT
        generalize wq.drew = wd at *
        refine pure_ (i := 0) (N := some 70) (v := ?_) (a' := ?_) #[true, false, false, false, false, false, false] rfl rfl (by kernel_rfl) (fun _ _ _ h => h) (Or.inl ⟨by rfl, ?_⟩) ?_ ?_
        rotate_left
        · intro w'
          go_simp
          with_reducible rfl
        rotate_left
        · simp only [Act.put, List.setIfInBounds_toArray, List.set_cons_zero, List.set_cons_succ, i64_w, i32_w]
          rfl
        refine pure_ (i := 1) (N := some 71) (v := ?_) (a' := ?_) #[true, true, false, false, false, false, false] rfl rfl (by kernel_rfl) (fun _ _ _ h => h) (Or.inl ⟨by rfl, ?_⟩) ?_ ?_
        rotate_left
        · intro w'
          go_simp
          with_reducible rfl
        rotate_left
        · simp only [Act.put, List.setIfInBounds_toArray, List.set_cons_zero, List.set_cons_succ, i64_w, i32_w]
          rfl
        refine take_ (i := 2) (N := some 72) (v := ?_) (a' := ?_) #[true, true, true, false, false, false, false] rfl rfl (by kernel_rfl) (fun _ _ _ h => h) (Or.inl ⟨by rfl, ?_⟩) hHeld ?_ ?_
        rotate_left
        · rintro w' ⟨s0, s1, s2, s3, s4, s5, s6⟩
          go_simp
          with_reducible rfl
        rotate_left
        · simp only [Act.put, List.setIfInBounds_toArray, List.set_cons_zero, List.set_cons_succ, i64_w, i32_w]
          rfl
        refine pure_ (i := 3) (N := some 73) (v := ?_) (a' := ?_) #[true, true, true, true, false, false, false] rfl rfl (by kernel_rfl) (fun _ _ _ h => h) (Or.inl ⟨by rfl, ?_⟩) ?_ ?_
        rotate_left
        · intro w'
          go_simp
          with_reducible rfl
        rotate_left
        · simp only [Act.put, List.setIfInBounds_toArray, List.set_cons_zero, List.set_cons_succ, i64_w, i32_w]
          rfl
        refine pure_ (i := 4) (N := some 74) (v := ?_) (a' := ?_) #[true, true, true, true, true, false, false] rfl rfl (by kernel_rfl) (fun _ _ _ h => h) (Or.inl ⟨by rfl, ?_⟩) ?_ ?_
        rotate_left
        · intro w'
          go_simp
          with_reducible rfl
        rotate_left
        · simp only [Act.put, List.setIfInBounds_toArray, List.set_cons_zero, List.set_cons_succ, i64_w, i32_w]
          rfl
        clear hsl
        have hf0 : wd.frozen? ⟨gt, 0, none⟩ = false := blk_frozen HTd.out 0
        have hf1 : wd.frozen? ⟨gt, 1, none⟩ = false := blk_frozen HTd.out 1
        have hf2 : wd.frozen? ⟨gt, 2, none⟩ = false := blk_frozen HTd.out 2
        have hf3 : wd.frozen? ⟨gt, 3, none⟩ = false := blk_frozen HTd.out 3
        have hf4 : wd.frozen? ⟨gt, 4, none⟩ = false := blk_frozen HTd.out 4
        have hf5 : wd.frozen? ⟨gt, 5, none⟩ = false := blk_frozen HTd.out 5
        have hf6 : wd.frozen? ⟨gt, 6, none⟩ = false := blk_frozen HTd.out 6
        have hz0 : wd.cell? ⟨gt, 0, none⟩ = some (.string ⟨#[]⟩) := (blk_cell HTd.out 0).trans rfl
        have hz1 : wd.cell? ⟨gt, 1, none⟩ = some (.int .i64 0) := (blk_cell HTd.out 1).trans rfl
        have hz2 : wd.cell? ⟨gt, 2, none⟩ = some (.int .i64 0) := (blk_cell HTd.out 2).trans rfl
        have hz3 : wd.cell? ⟨gt, 3, none⟩ = some (.int .i64 0) := (blk_cell HTd.out 3).trans rfl
        have hz4 : wd.cell? ⟨gt, 4, none⟩ = some (.int .i64 0) := (blk_cell HTd.out 4).trans rfl
        have hz5 : wd.cell? ⟨gt, 5, none⟩ = some (.int .i64 0) := (blk_cell HTd.out 5).trans rfl
        have hz6 : wd.cell? ⟨gt, 6, none⟩ = some (.int .i64 0) := (blk_cell HTd.out 6).trans rfl
        clear hHeld
        refine last_ (i := 5) (N := none) #[true, true, true, true, true, true, false] rfl rfl (by kernel_rfl) (by decide) (fun K hK => ?_)
        refine skip_ (w1 := wd.setCells gt 0 (tcs t)) (by rfl) rfl ?_ ?_
        · unfold tcs
          go_simp
          rfl
        refine hK.out _ _ ?_
        clear hK K
        refine pure_ (i := 6) (N := some 9) (v := ?_) (a' := ?_) #[true, true, true, true, true, true, true] rfl rfl (by kernel_rfl) (fun _ _ _ h => h) (Or.inl ⟨by rfl, ?_⟩) ?_ ?_
        rotate_left
        · intro w'
          go_simp
          with_reducible rfl
        rotate_left
        · simp only [Act.put, List.setIfInBounds_toArray, List.set_cons_zero, List.set_cons_succ, i64_w, i32_w]
          rfl
        refine done_ (by kernel_rfl) ?_
        have HMs := Lib.hid (HMd.out.tailx.store Hgt.out HTd.out Hne.out 0 (tcs t))
        have HEy : Hid (t.f1 ≤ left → (acc ++ [((0 : Int), t)]) ++ mt (x.length + ([] : List S32).length) x [] (left - t.f1) = res a b budget) := Lib.hid (fun h => by
          have e := HEr.out
          rw [show (t :: x).length + ([] : List S32).length = (x.length + 0) + 1 from rfl, mt_yes hpk.out h] at e
          rw [← e, List.append_assoc]; rfl)
        have HEn : Hid (¬ t.f1 ≤ left → acc ++ mt (x.length + ([] : List S32).length) x [] left = res a b budget) := Lib.hid (fun h => by
          have e := HEr.out
          rw [show (t :: x).length + ([] : List S32).length = (x.length + 0) + 1 from rfl, mt_no hpk.out h] at e
          exact e)
        have hcut : True := trivial
        clear HEr hpk
        have HTs : Hid ((wd.setCells gt 0 (tcs t)).heap[gt]? = _) := Lib.hid (blk_tcs35 HTd.out t)
        have hfoot := C7.of35 HTs.out
        obtain ⟨hz0, hz1, hz2, hz3, hz4, hz5, hz6⟩ := hfoot
        clear hf0 hf1 hf2 hf3 hf4 hf5 hf6 HTd HMd hcut
        generalize wd.setCells gt 0 (tcs t) = ws at *
        have hlt0 := HVt.out.s0
        have hl0 := HMs.out.l0
        have hl1 := HMs.out.l1
        by_cases htk : t.f1 ≤ left
        · have HEy2 := Lib.hid (HEy.out htk)
          clear HEy HEn
          have dtk : decide (t.f1 ≤ left) = true := decide_eq_true htk
          obtain ⟨ss, hss⟩ : ∃ ss, ss = acc.map (·.1) := ⟨_, rfl⟩
          obtain ⟨ts, hts⟩ : ∃ ts, ts = acc.map (·.2) := ⟨_, rfl⟩
          have Hlen : Hid (ss.length ≤ 2000 ∧ ts.length ≤ 2000) := Lib.hid (by rw [hss, hts, List.length_map, List.length_map]; omega)
          rw [← hss, ← hts] at HMs
          have Hss := Lib.hid hss
          have Hts := Lib.hid hts
          clear hss hts
          go_wp2_with fail
          clear hz0 hz1 hz2 hz3 hz4 hz5 hz6
          have HM := Lib.hid (HMs.out.below (below_drew (Below.refl _ _)))
          have HT : Hid (ws.drew.heap[gt]? = _) := Lib.hid HTs.out
          clear HMs HTs
          refine start_ (n := 10) (S := fun W => C7 W gt t) (ds := [7]) #[false, false, false, false, false, false, false, false, false, false] (by kernel_rfl) rfl rfl (C7.of35 HT.out) (fun hHeld => ?_)
          generalize ws.drew = w4 at *
          refine pure_ (i := 0) (N := some 84) (v := ?_) (a' := ?_) #[true, false, false, false, false, false, false, false, false, false] rfl rfl (by kernel_rfl) (fun _ _ _ h => h) (Or.inl ⟨by rfl, ?_⟩) ?_ ?_
          rotate_left
          · intro w'
            go_simp
            with_reducible rfl
          rotate_left
          · simp only [Act.put, List.setIfInBounds_toArray, List.set_cons_zero, List.set_cons_succ, i64_w, i32_w]
            rfl
          refine pure_ (i := 1) (N := some 85) (v := ?_) (a' := ?_) #[true, true, false, false, false, false, false, false, false, false] rfl rfl (by kernel_rfl) (fun _ _ _ h => h) (Or.inl ⟨by rfl, ?_⟩) ?_ ?_
          rotate_left
          · intro w'
            go_simp
            with_reducible rfl
          rotate_left
          · simp only [Act.put, List.setIfInBounds_toArray, List.set_cons_zero, List.set_cons_succ, i64_w, i32_w]
            rfl
          refine pure_ (i := 4) (N := some 88) (v := ?_) (a' := ?_) #[true, true, false, false, true, false, false, false, false, false] rfl rfl (by kernel_rfl) (fun _ _ _ h => h) (Or.inl ⟨by rfl, ?_⟩) ?_ ?_
          rotate_left
          · intro w'
            go_simp
            with_reducible rfl
          rotate_left
          · simp only [Act.put, List.setIfInBounds_toArray, List.set_cons_zero, List.set_cons_succ, i64_w, i32_w]
            rfl
          refine take_ (i := 5) (N := some 89) (v := ?_) (a' := ?_) #[true, true, false, false, true, true, false, false, false, false] rfl rfl (by kernel_rfl) (fun _ _ _ h => h) (Or.inl ⟨by rfl, ?_⟩) hHeld ?_ ?_
          rotate_left
          · rintro w' ⟨s0, s1, s2, s3, s4, s5, s6⟩
            go_simp
            with_reducible rfl
          rotate_left
          · simp only [Act.put, List.setIfInBounds_toArray, List.set_cons_zero, List.set_cons_succ, i64_w, i32_w]
            rfl
          refine two_ (i := 2) (j := 6) (Ni := some 86) (Nj := some 90) #[true, true, true, false, true, true, false, false, false, false] #[true, true, false, false, true, true, true, false, false, false] rfl rfl rfl rfl (by kernel_rfl) (by decide) (by decide) (fun K hK => ?_) (fun K hK => ?_)
          · skip
            refine value_ (v := .slice (some ⟨w4.heap.size, 0, none⟩) 1 1) (w1 := w4.alloc (.cells #[.int .i64 0] 3)) (by rfl) rfl ?_ ?_
            · go_simp
            have hbl := (Below.refl w4.heap.size w4).alloc (Nat.le_refl _) (.cells #[.int .i64 0] 3)
            have HM := Lib.hid (HM.out.below hbl)
            have HT := Lib.hid (blk_below HT.out hbl)
            have HL1 := Lib.hid (blk_new w4 (.cells #[.int .i64 0] 3))
            refine hK.out _ _ (C7.of35 HT.out) (fun hHeld => ?_)
            clear hK K hbl
            refine norm_ (a' := ?_) ?_ ?_
            rotate_left
            · simp only [Act.put, List.setIfInBounds_toArray, List.set_cons_zero, List.set_cons_succ, i64_w, i32_w]
              rfl
            generalize w4.alloc (.cells #[.int .i64 0] 3) = wa at *
            generalize w4.heap.size = g1 at *
            refine two_ (i := 3) (j := 6) (Ni := some 87) (Nj := some 90) #[true, true, true, true, true, true, false, false, false, false] #[true, true, true, false, true, true, true, false, false, false] rfl rfl rfl rfl (by kernel_rfl) (by decide) (by decide) (fun K hK => ?_) (fun K hK => ?_)
            · skip
              refine Kd.R_append_rows_step (Kd.int .i64) (Rr := (Kd.int .i64).K wa) (w0 := wa) w3.heap.size (by rfl) (.tmp 84) (.tmp 86) 64 3 (.int .i64 0) 8 rfl Try.underlying64 info3 rfl (by decide) (by omega) u13 ss [0] (some ⟨g1, 0, none⟩) 1 1 (fun _ => True) (fun _ => False) rfl rfl HM.out.sd (C_one3 HL1.out) ?aK (fun _ hk => hk.elim) (fun _ _ => trivial) (fr_self (S := fun _ => False) (Fr.of_below HM.out.bl)) HM.out.bl.size (by have := Hlen.out; omega) ?_
              case aK => exact fun y cs h => h
              intro v1 w5 ho1 hB1 hg1 hat1
              show K (Act.put _ (some 87) v1) w5
              have HT5 := Lib.hid (blk_grown HT.out hg1 (Kd.R_ne HM.out.sd HT.out (by decide)))
              have HM5 := Lib.hid (HM.out.app1 ho1 hB1 hg1)
              refine hK.out _ _ (C7.of35 HT5.out) (fun hHeld => ?_)
              clear hK K ho1 hB1 hg1 hat1 HM HT HL1
              refine norm_ (a' := ?_) ?_ ?_
              rotate_left
              · simp only [Act.put, List.setIfInBounds_toArray, List.set_cons_zero, List.set_cons_succ, i64_w, i32_w]
                rfl
              have HM := HM5
              have HT := HT5
              have Hlen : Hid ((ss ++ [(0 : Int)]).length ≤ 2001 ∧ ts.length ≤ 2000) := Lib.hid (by have := Hlen.out; simp; omega)
              clear HM5 HT5
              refine one_ (i := 6) (N := some 90) #[true, true, true, true, true, true, true, false, false, false] rfl rfl (by kernel_rfl) (by decide) (fun K hK => ?_)
              refine value_ (v := .slice (some ⟨w5.heap.size, 0, none⟩) 1 1) (w1 := w5.alloc (.cells (tcells t) 35)) (by rfl) rfl ?_ ?_
              · go_simp
                rfl
              have hbl := (Below.refl w5.heap.size w5).alloc (Nat.le_refl _) (.cells (tcells t) 35)
              have HM := Lib.hid (HM.out.below hbl)
              have HT := Lib.hid (blk_below HT.out hbl)
              have HL2 := Lib.hid (blk_new w5 (.cells (tcells t) 35))
              refine hK.out _ _ (C7.of35 HT.out) (fun hHeld => ?_)
              clear hK K hbl
              refine norm_ (a' := ?_) ?_ ?_
              rotate_left
              · simp only [Act.put, List.setIfInBounds_toArray, List.set_cons_zero, List.set_cons_succ, i64_w, i32_w]
                rfl
              generalize w5.alloc (.cells (tcells t) 35) = wb at *
              generalize w5.heap.size = g2 at *
              refine last_ (i := 7) (N := some 91) #[true, true, true, true, true, true, true, true, false, false] rfl rfl (by kernel_rfl) (by decide) (fun K hK => ?_)
              refine Kd.R_append_rows_step k35 (Rr := k35.K wb) (w0 := wb) w3.heap.size (by rfl) (.tmp 88) (.tmp 90) 26 35 (.agg #[.string ByteArray.empty, .int .i64 0, .int .i64 0, .int .i64 0, .int .i64 0, .int .i64 0, .int .i64 0]) 64 rfl Try.underlying26 info35 rfl (by decide) (by omega) u14 (ts.map p35) [p35 t] (some ⟨g2, 0, none⟩) 1 1 (fun _ => True) (fun _ => False) rfl rfl HM.out.ot (C_one35 HL2.out) ?aK (fun _ hk => hk.elim) (fun _ _ => trivial) (fr_self (S := fun _ => False) (Fr.of_below HM.out.bl)) HM.out.bl.size (by have := Hlen.out; rw [List.length_map]; simp only [List.length_append, List.length_cons, List.length_nil] at this; omega) ?_
              case aK => exact fun y cs h => by obtain rfl := k35_open h; exact k35_mkM _ _ _ y
              intro v2 w6 ho1 hB1 hg1 hat1
              show K (Act.put _ (some 91) v2) w6
              have HM6 := Lib.hid (HM.out.app2 ho1 hB1 hg1)
              have HT6 := Lib.hid (blk_grown HT.out hg1 Hne.out)
              refine hK.out _ _ ?_
              clear hK K ho1 hB1 hg1 hat1 HM HT HL2
              refine norm_ (a' := ?_) ?_ ?_
              rotate_left
              · simp only [Act.put, List.setIfInBounds_toArray, List.set_cons_zero, List.set_cons_succ, i64_w, i32_w]
                rfl
              refine pure_ (i := 8) (N := some 13) (v := ?_) (a' := ?_) #[true, true, true, true, true, true, true, true, true, false] rfl rfl (by kernel_rfl) (fun _ _ _ h => h) (Or.inl ⟨by rfl, ?_⟩) ?_ ?_
              rotate_left
              · intro w'
                go_simp
                with_reducible rfl
              rotate_left
              · simp only [Act.put, List.setIfInBounds_toArray, List.set_cons_zero, List.set_cons_succ, i64_w, i32_w]
                rfl
              refine pure_ (i := 9) (N := some 14) (v := ?_) (a' := ?_) #[true, true, true, true, true, true, true, true, true, true] rfl rfl (by kernel_rfl) (fun _ _ _ h => h) (Or.inl ⟨by rfl, ?_⟩) ?_ ?_
              rotate_left
              · intro w'
                go_simp
                with_reducible rfl
              rotate_left
              · simp only [Act.put, List.setIfInBounds_toArray, List.set_cons_zero, List.set_cons_succ, i64_w, i32_w]
                rfl
              refine done_ (by kernel_rfl) ?_
              obtain ⟨y0, y1, y2, y3, y4, y5, y6⟩ := C7.of35 HT6.out
              clear y0 y1 y3 y4 y5 y6
              go_wp2_with fail
              go_roundw
              case rel => exact ⟨_, _, x, _, _, [], _, acc ++ [((0 : Int), t)], rfl, rfl, rfl, by simp at hlen ⊢; omega, Lib.hid (by rw [List.map_append, List.map_append, ← Hss.out, ← Hts.out]; exact HM6.out.took (by omega) (by omega)), HEy2⟩
              case measure => simp [lenOf] <;> omega
            · skip
              refine value_ (v := .slice (some ⟨wa.heap.size, 0, none⟩) 1 1) (w1 := wa.alloc (.cells (tcells t) 35)) (by rfl) rfl ?_ ?_
              · go_simp
                rfl
              have hbl := (Below.refl wa.heap.size wa).alloc (Nat.le_refl _) (.cells (tcells t) 35)
              have HM := Lib.hid (HM.out.below hbl)
              have HT := Lib.hid (blk_below HT.out hbl)
              have HL2 := Lib.hid (blk_new wa (.cells (tcells t) 35))
              refine hK.out _ _ (C7.of35 HT.out) (fun hHeld => ?_)
              clear hK K hbl
              refine norm_ (a' := ?_) ?_ ?_
              rotate_left
              · simp only [Act.put, List.setIfInBounds_toArray, List.set_cons_zero, List.set_cons_succ, i64_w, i32_w]
                rfl
              have HL1 := Lib.hid (blk_below HL1.out ((Below.refl wa.heap.size wa).alloc (Nat.le_refl _) (.cells (tcells t) 35)))
              generalize wa.alloc (.cells (tcells t) 35) = wc at *
              generalize wa.heap.size = g2 at *
              refine one_ (i := 3) (N := some 87) #[true, true, true, true, true, true, true, false, false, false] rfl rfl (by kernel_rfl) (by decide) (fun K hK => ?_)
              refine Kd.R_append_rows_step (Kd.int .i64) (Rr := (Kd.int .i64).K wc) (w0 := wc) w3.heap.size (by rfl) (.tmp 84) (.tmp 86) 64 3 (.int .i64 0) 8 rfl Try.underlying64 info3 rfl (by decide) (by omega) u13 ss [0] (some ⟨g1, 0, none⟩) 1 1 (fun _ => True) (fun _ => False) rfl rfl HM.out.sd (C_one3 HL1.out) ?aK (fun _ hk => hk.elim) (fun _ _ => trivial) (fr_self (S := fun _ => False) (Fr.of_below HM.out.bl)) HM.out.bl.size (by have := Hlen.out; omega) ?_
              case aK => exact fun y cs h => h
              intro v1 w5 ho1 hB1 hg1 hat1
              show K (Act.put _ (some 87) v1) w5
              have HT5 := Lib.hid (blk_grown HT.out hg1 (Kd.R_ne HM.out.sd HT.out (by decide)))
              have HM5 := Lib.hid (HM.out.app1 ho1 hB1 hg1)
              refine hK.out _ _ (C7.of35 HT5.out) (fun hHeld => ?_)
              have HL2 := Lib.hid (blk_grown HL2.out hg1 (Kd.R_ne HM.out.sd HL2.out (by decide)))
              clear hK K ho1 hB1 hg1 hat1 HM HT HL1
              refine norm_ (a' := ?_) ?_ ?_
              rotate_left
              · simp only [Act.put, List.setIfInBounds_toArray, List.set_cons_zero, List.set_cons_succ, i64_w, i32_w]
                rfl
              have HM := HM5
              have HT := HT5
              have Hlen : Hid ((ss ++ [(0 : Int)]).length ≤ 2001 ∧ ts.length ≤ 2000) := Lib.hid (by have := Hlen.out; simp; omega)
              clear HM5 HT5
              refine last_ (i := 7) (N := some 91) #[true, true, true, true, true, true, true, true, false, false] rfl rfl (by kernel_rfl) (by decide) (fun K hK => ?_)
              refine Kd.R_append_rows_step k35 (Rr := k35.K w5) (w0 := w5) w3.heap.size (by rfl) (.tmp 88) (.tmp 90) 26 35 (.agg #[.string ByteArray.empty, .int .i64 0, .int .i64 0, .int .i64 0, .int .i64 0, .int .i64 0, .int .i64 0]) 64 rfl Try.underlying26 info35 rfl (by decide) (by omega) u14 (ts.map p35) [p35 t] (some ⟨g2, 0, none⟩) 1 1 (fun _ => True) (fun _ => False) rfl rfl HM.out.ot (C_one35 HL2.out) ?aK (fun _ hk => hk.elim) (fun _ _ => trivial) (fr_self (S := fun _ => False) (Fr.of_below HM.out.bl)) HM.out.bl.size (by have := Hlen.out; rw [List.length_map]; simp only [List.length_append, List.length_cons, List.length_nil] at this; omega) ?_
              case aK => exact fun y cs h => by obtain rfl := k35_open h; exact k35_mkM _ _ _ y
              intro v2 w6 ho1 hB1 hg1 hat1
              show K (Act.put _ (some 91) v2) w6
              have HM6 := Lib.hid (HM.out.app2 ho1 hB1 hg1)
              have HT6 := Lib.hid (blk_grown HT.out hg1 Hne.out)
              refine hK.out _ _ ?_
              clear hK K ho1 hB1 hg1 hat1 HM HT HL2
              refine norm_ (a' := ?_) ?_ ?_
              rotate_left
              · simp only [Act.put, List.setIfInBounds_toArray, List.set_cons_zero, List.set_cons_succ, i64_w, i32_w]
                rfl
              refine pure_ (i := 8) (N := some 13) (v := ?_) (a' := ?_) #[true, true, true, true, true, true, true, true, true, false] rfl rfl (by kernel_rfl) (fun _ _ _ h => h) (Or.inl ⟨by rfl, ?_⟩) ?_ ?_
              rotate_left
              · intro w'
                go_simp
                with_reducible rfl
              rotate_left
              · simp only [Act.put, List.setIfInBounds_toArray, List.set_cons_zero, List.set_cons_succ, i64_w, i32_w]
                rfl
              refine pure_ (i := 9) (N := some 14) (v := ?_) (a' := ?_) #[true, true, true, true, true, true, true, true, true, true] rfl rfl (by kernel_rfl) (fun _ _ _ h => h) (Or.inl ⟨by rfl, ?_⟩) ?_ ?_
              rotate_left
              · intro w'
                go_simp
                with_reducible rfl
              rotate_left
              · simp only [Act.put, List.setIfInBounds_toArray, List.set_cons_zero, List.set_cons_succ, i64_w, i32_w]
                rfl
              refine done_ (by kernel_rfl) ?_
              obtain ⟨y0, y1, y2, y3, y4, y5, y6⟩ := C7.of35 HT6.out
              clear y0 y1 y3 y4 y5 y6
              go_wp2_with fail
              go_roundw
              case rel => exact ⟨_, _, x, _, _, [], _, acc ++ [((0 : Int), t)], rfl, rfl, rfl, by simp at hlen ⊢; omega, Lib.hid (by rw [List.map_append, List.map_append, ← Hss.out, ← Hts.out]; exact HM6.out.took (by omega) (by omega)), HEy2⟩
              case measure => simp [lenOf] <;> omega
          · skip
            refine value_ (v := .slice (some ⟨w4.heap.size, 0, none⟩) 1 1) (w1 := w4.alloc (.cells (tcells t) 35)) (by rfl) rfl ?_ ?_
            · go_simp
              rfl
            have hbl := (Below.refl w4.heap.size w4).alloc (Nat.le_refl _) (.cells (tcells t) 35)
            have HM := Lib.hid (HM.out.below hbl)
            have HT := Lib.hid (blk_below HT.out hbl)
            have HL2 := Lib.hid (blk_new w4 (.cells (tcells t) 35))
            refine hK.out _ _ (C7.of35 HT.out) (fun hHeld => ?_)
            clear hK K hbl
            refine norm_ (a' := ?_) ?_ ?_
            rotate_left
            · simp only [Act.put, List.setIfInBounds_toArray, List.set_cons_zero, List.set_cons_succ, i64_w, i32_w]
              rfl
            generalize w4.alloc (.cells (tcells t) 35) = wa at *
            generalize w4.heap.size = g2 at *
            refine one_ (i := 2) (N := some 86) #[true, true, true, false, true, true, true, false, false, false] rfl rfl (by kernel_rfl) (by decide) (fun K hK => ?_)
            refine value_ (v := .slice (some ⟨wa.heap.size, 0, none⟩) 1 1) (w1 := wa.alloc (.cells #[.int .i64 0] 3)) (by rfl) rfl ?_ ?_
            · go_simp
            have hbl := (Below.refl wa.heap.size wa).alloc (Nat.le_refl _) (.cells #[.int .i64 0] 3)
            have HM := Lib.hid (HM.out.below hbl)
            have HT := Lib.hid (blk_below HT.out hbl)
            have HL1 := Lib.hid (blk_new wa (.cells #[.int .i64 0] 3))
            refine hK.out _ _ (C7.of35 HT.out) (fun hHeld => ?_)
            clear hK K hbl
            refine norm_ (a' := ?_) ?_ ?_
            rotate_left
            · simp only [Act.put, List.setIfInBounds_toArray, List.set_cons_zero, List.set_cons_succ, i64_w, i32_w]
              rfl
            have HL2 := Lib.hid (blk_below HL2.out ((Below.refl wa.heap.size wa).alloc (Nat.le_refl _) (.cells #[.int .i64 0] 3)))
            generalize wa.alloc (.cells #[.int .i64 0] 3) = wc at *
            generalize wa.heap.size = g1 at *
            refine one_ (i := 3) (N := some 87) #[true, true, true, true, true, true, true, false, false, false] rfl rfl (by kernel_rfl) (by decide) (fun K hK => ?_)
            refine Kd.R_append_rows_step (Kd.int .i64) (Rr := (Kd.int .i64).K wc) (w0 := wc) w3.heap.size (by rfl) (.tmp 84) (.tmp 86) 64 3 (.int .i64 0) 8 rfl Try.underlying64 info3 rfl (by decide) (by omega) u13 ss [0] (some ⟨g1, 0, none⟩) 1 1 (fun _ => True) (fun _ => False) rfl rfl HM.out.sd (C_one3 HL1.out) ?aK (fun _ hk => hk.elim) (fun _ _ => trivial) (fr_self (S := fun _ => False) (Fr.of_below HM.out.bl)) HM.out.bl.size (by have := Hlen.out; omega) ?_
            case aK => exact fun y cs h => h
            intro v1 w5 ho1 hB1 hg1 hat1
            show K (Act.put _ (some 87) v1) w5
            have HT5 := Lib.hid (blk_grown HT.out hg1 (Kd.R_ne HM.out.sd HT.out (by decide)))
            have HM5 := Lib.hid (HM.out.app1 ho1 hB1 hg1)
            refine hK.out _ _ (C7.of35 HT5.out) (fun hHeld => ?_)
            have HL2 := Lib.hid (blk_grown HL2.out hg1 (Kd.R_ne HM.out.sd HL2.out (by decide)))
            clear hK K ho1 hB1 hg1 hat1 HM HT HL1
            refine norm_ (a' := ?_) ?_ ?_
            rotate_left
            · simp only [Act.put, List.setIfInBounds_toArray, List.set_cons_zero, List.set_cons_succ, i64_w, i32_w]
              rfl
            have HM := HM5
            have HT := HT5
            have Hlen : Hid ((ss ++ [(0 : Int)]).length ≤ 2001 ∧ ts.length ≤ 2000) := Lib.hid (by have := Hlen.out; simp; omega)
            clear HM5 HT5
            refine last_ (i := 7) (N := some 91) #[true, true, true, true, true, true, true, true, false, false] rfl rfl (by kernel_rfl) (by decide) (fun K hK => ?_)
            refine Kd.R_append_rows_step k35 (Rr := k35.K w5) (w0 := w5) w3.heap.size (by rfl) (.tmp 88) (.tmp 90) 26 35 (.agg #[.string ByteArray.empty, .int .i64 0, .int .i64 0, .int .i64 0, .int .i64 0, .int .i64 0, .int .i64 0]) 64 rfl Try.underlying26 info35 rfl (by decide) (by omega) u14 (ts.map p35) [p35 t] (some ⟨g2, 0, none⟩) 1 1 (fun _ => True) (fun _ => False) rfl rfl HM.out.ot (C_one35 HL2.out) ?aK (fun _ hk => hk.elim) (fun _ _ => trivial) (fr_self (S := fun _ => False) (Fr.of_below HM.out.bl)) HM.out.bl.size (by have := Hlen.out; rw [List.length_map]; simp only [List.length_append, List.length_cons, List.length_nil] at this; omega) ?_
            case aK => exact fun y cs h => by obtain rfl := k35_open h; exact k35_mkM _ _ _ y
            intro v2 w6 ho1 hB1 hg1 hat1
            show K (Act.put _ (some 91) v2) w6
            have HM6 := Lib.hid (HM.out.app2 ho1 hB1 hg1)
            have HT6 := Lib.hid (blk_grown HT.out hg1 Hne.out)
            refine hK.out _ _ ?_
            clear hK K ho1 hB1 hg1 hat1 HM HT HL2
            refine norm_ (a' := ?_) ?_ ?_
            rotate_left
            · simp only [Act.put, List.setIfInBounds_toArray, List.set_cons_zero, List.set_cons_succ, i64_w, i32_w]
              rfl
            refine pure_ (i := 8) (N := some 13) (v := ?_) (a' := ?_) #[true, true, true, true, true, true, true, true, true, false] rfl rfl (by kernel_rfl) (fun _ _ _ h => h) (Or.inl ⟨by rfl, ?_⟩) ?_ ?_
            rotate_left
            · intro w'
              go_simp
              with_reducible rfl
            rotate_left
            · simp only [Act.put, List.setIfInBounds_toArray, List.set_cons_zero, List.set_cons_succ, i64_w, i32_w]
              rfl
            refine pure_ (i := 9) (N := some 14) (v := ?_) (a' := ?_) #[true, true, true, true, true, true, true, true, true, true] rfl rfl (by kernel_rfl) (fun _ _ _ h => h) (Or.inl ⟨by rfl, ?_⟩) ?_ ?_
            rotate_left
            · intro w'
              go_simp
              with_reducible rfl
            rotate_left
            · simp only [Act.put, List.setIfInBounds_toArray, List.set_cons_zero, List.set_cons_succ, i64_w, i32_w]
              rfl
            refine done_ (by kernel_rfl) ?_
            obtain ⟨y0, y1, y2, y3, y4, y5, y6⟩ := C7.of35 HT6.out
            clear y0 y1 y3 y4 y5 y6
            go_wp2_with fail
            go_roundw
            case rel => exact ⟨_, _, x, _, _, [], _, acc ++ [((0 : Int), t)], rfl, rfl, rfl, by simp at hlen ⊢; omega, Lib.hid (by rw [List.map_append, List.map_append, ← Hss.out, ← Hts.out]; exact HM6.out.took (by omega) (by omega)), HEy2⟩
            case measure => simp [lenOf] <;> omega
        · have HEn2 := Lib.hid (HEn.out htk)
          clear HEn HEy
          have dtk : decide (t.f1 ≤ left) = false := decide_eq_false htk
          clear htk
          go_wp2_with fail
          go_roundw
          case rel => exact ⟨_, _, x, _, _, [], _, acc, rfl, rfl, rfl, by simp at hlen ⊢; omega, HMs, HEn2⟩
          case measure => simp [lenOf] <;> omega
    | cons t y =>
      cases x with
      | nil =>
        have q2 : decide (0 < (y.length : Int) + 1) = true := decide_eq_true (by omega)
        simp only [List.length_cons, List.length_nil] at hlen ⊢
        have hcy : y.length + 1 ≤ cy := HMr.out.sy.cap
        obtain ⟨ad, rfl, hhd⟩ := HMr.out.sy.head
        have HHd := Lib.hid hhd
        have hpk : Hid (pick [] (t :: y) = some (1, t, [], y)) := Lib.hid rfl
        clear hhd
        go_wp2_with fail
        go_quiet (fail)
        have HMp := Lib.hid (HMr.out.below (pw_below_drewN (Below.refl wr.heap.size wr) nq))
        clear HMr
        generalize wr.drewN nq = wp at *
        have HVt := Lib.hid (HMp.out.vy t (by simp))
        have Hgt : Hid (w3.heap.size ≤ wp.heap.size) := Lib.hid HMp.out.bl.size
        have hbq := (Below.refl wp.heap.size wp).alloc (Nat.le_refl _) (.cells #[.string ⟨#[]⟩, .int .i64 0, .int .i64 0, .int .i64 0, .int .i64 0, .int .i64 0, .int .i64 0] 35)
        have HT := Lib.hid (blk_new wp (.cells #[.string ⟨#[]⟩, .int .i64 0, .int .i64 0, .int .i64 0, .int .i64 0, .int .i64 0, .int .i64 0] 35))
        have HMq := Lib.hid (HMp.out.below hbq)
        have HHq : Hid (∀ W, Below (wp.alloc (.cells #[.string ⟨#[]⟩, .int .i64 0, .int .i64 0, .int .i64 0, .int .i64 0, .int .i64 0, .int .i64 0] 35)).heap.size (wp.alloc (.cells #[.string ⟨#[]⟩, .int .i64 0, .int .i64 0, .int .i64 0, .int .i64 0, .int .i64 0, .int .i64 0] 35)) W → CA W ad t) := Lib.hid (fun W hW => HHd.out W (HMp.out.bl.trans ((hbq.trans (hW.mono hbq.size)).mono HMp.out.bl.size)))
        have Hne : Hid (some wp.heap.size ≠ u14.ownBlock) := Lib.hid (fun e => by have := Kd.R_lt HMp.out.ot _ e.symm; omega)
        clear HMp HHd hbq
        go_wp2_with fail
        generalize wp.alloc (.cells #[.string ⟨#[]⟩, .int .i64 0, .int .i64 0, .int .i64 0, .int .i64 0, .int .i64 0, .int .i64 0] 35) = wq at *
        generalize wp.heap.size = gt at *
        have hsl : ∀ w, (Instr.slice 26 (.slice (some ad) (y.length + 1) cy) (some (.int .i64 1)) none none).run Try.prog w = .ok (.slice (tl ad cy) y.length (cy - 1)) w := run_tail26 ad y.length cy hcy
        refine start_ (n := 7) (S := fun W => CA W ad t) (ds := [5]) #[false, false, false, false, false, false, false] (by kernel_rfl) rfl rfl (HHq.out _ (below_drew (Below.refl _ _))) (fun hHeld => ?_)
        have HMd := Lib.hid (HMq.out.below (below_drew (Below.refl _ _)))
        have HTd : Hid (wq.drew.heap[gt]? = _) := Lib.hid HT.out
        clear HMq HHq HT
        generalize wq.drew = wd at *
        refine pure_ (i := 0) (N := some 75) (v := ?_) (a' := ?_) #[true, false, false, false, false, false, false] rfl rfl (by kernel_rfl) (fun _ _ _ h => h) (Or.inl ⟨by rfl, ?_⟩) ?_ ?_
        rotate_left
        · intro w'
          go_simp
          with_reducible rfl
        rotate_left
        · simp only [Act.put, List.setIfInBounds_toArray, List.set_cons_zero, List.set_cons_succ, i64_w, i32_w]
          rfl
        refine pure_ (i := 1) (N := some 76) (v := ?_) (a' := ?_) #[true, true, false, false, false, false, false] rfl rfl (by kernel_rfl) (fun _ _ _ h => h) (Or.inl ⟨by rfl, ?_⟩) ?_ ?_
        rotate_left
        · intro w'
          go_simp
          with_reducible rfl
        rotate_left
        · simp only [Act.put, List.setIfInBounds_toArray, List.set_cons_zero, List.set_cons_succ, i64_w, i32_w]
          rfl
        refine take_ (i := 2) (N := some 77) (v := ?_) (a' := ?_) #[true, true, true, false, false, false, false] rfl rfl (by kernel_rfl) (fun _ _ _ h => h) (Or.inl ⟨by rfl, ?_⟩) hHeld ?_ ?_
        rotate_left
        · rintro w' ⟨s0, s1, s2, s3, s4, s5, s6⟩
          go_simp
          with_reducible rfl
        rotate_left
        · simp only [Act.put, List.setIfInBounds_toArray, List.set_cons_zero, List.set_cons_succ, i64_w, i32_w]
          rfl
        refine pure_ (i := 3) (N := some 78) (v := ?_) (a' := ?_) #[true, true, true, true, false, false, false] rfl rfl (by kernel_rfl) (fun _ _ _ h => h) (Or.inl ⟨by rfl, ?_⟩) ?_ ?_
        rotate_left
        · intro w'
          go_simp
          with_reducible rfl
        rotate_left
        · simp only [Act.put, List.setIfInBounds_toArray, List.set_cons_zero, List.set_cons_succ, i64_w, i32_w]
          rfl
        refine pure_ (i := 4) (N := some 79) (v := ?_) (a' := ?_) #[true, true, true, true, true, false, false] rfl rfl (by kernel_rfl) (fun _ _ _ h => h) (Or.inl ⟨by rfl, ?_⟩) ?_ ?_
        rotate_left
        · intro w'
          go_simp
          with_reducible rfl
        rotate_left
        · simp only [Act.put, List.setIfInBounds_toArray, List.set_cons_zero, List.set_cons_succ, i64_w, i32_w]
          rfl
        clear hsl
        have hf0 : wd.frozen? ⟨gt, 0, none⟩ = false := blk_frozen HTd.out 0
        have hf1 : wd.frozen? ⟨gt, 1, none⟩ = false := blk_frozen HTd.out 1
        have hf2 : wd.frozen? ⟨gt, 2, none⟩ = false := blk_frozen HTd.out 2
        have hf3 : wd.frozen? ⟨gt, 3, none⟩ = false := blk_frozen HTd.out 3
        have hf4 : wd.frozen? ⟨gt, 4, none⟩ = false := blk_frozen HTd.out 4
        have hf5 : wd.frozen? ⟨gt, 5, none⟩ = false := blk_frozen HTd.out 5
        have hf6 : wd.frozen? ⟨gt, 6, none⟩ = false := blk_frozen HTd.out 6
        have hz0 : wd.cell? ⟨gt, 0, none⟩ = some (.string ⟨#[]⟩) := (blk_cell HTd.out 0).trans rfl
        have hz1 : wd.cell? ⟨gt, 1, none⟩ = some (.int .i64 0) := (blk_cell HTd.out 1).trans rfl
        have hz2 : wd.cell? ⟨gt, 2, none⟩ = some (.int .i64 0) := (blk_cell HTd.out 2).trans rfl
        have hz3 : wd.cell? ⟨gt, 3, none⟩ = some (.int .i64 0) := (blk_cell HTd.out 3).trans rfl
        have hz4 : wd.cell? ⟨gt, 4, none⟩ = some (.int .i64 0) := (blk_cell HTd.out 4).trans rfl
        have hz5 : wd.cell? ⟨gt, 5, none⟩ = some (.int .i64 0) := (blk_cell HTd.out 5).trans rfl
        have hz6 : wd.cell? ⟨gt, 6, none⟩ = some (.int .i64 0) := (blk_cell HTd.out 6).trans rfl
        clear hHeld
        refine last_ (i := 5) (N := none) #[true, true, true, true, true, true, false] rfl rfl (by kernel_rfl) (by decide) (fun K hK => ?_)
        refine skip_ (w1 := wd.setCells gt 0 (tcs t)) (by rfl) rfl ?_ ?_
        · unfold tcs
          go_simp
          rfl
        refine hK.out _ _ ?_
        clear hK K
        refine pure_ (i := 6) (N := some 11) (v := ?_) (a' := ?_) #[true, true, true, true, true, true, true] rfl rfl (by kernel_rfl) (fun _ _ _ h => h) (Or.inl ⟨by rfl, ?_⟩) ?_ ?_
        rotate_left
        · intro w'
          go_simp
          with_reducible rfl
        rotate_left
        · simp only [Act.put, List.setIfInBounds_toArray, List.set_cons_zero, List.set_cons_succ, i64_w, i32_w]
          rfl
        refine done_ (by kernel_rfl) ?_
        have HMs := Lib.hid (HMd.out.taily.store Hgt.out HTd.out Hne.out 0 (tcs t))
        have HEy : Hid (t.f1 ≤ left → (acc ++ [((1 : Int), t)]) ++ mt (([] : List S32).length + y.length) [] y (left - t.f1) = res a b budget) := Lib.hid (fun h => by
          have e := HEr.out
          rw [show ([] : List S32).length + (t :: y).length = (([] : List S32).length + y.length) + 1 from rfl, mt_yes hpk.out h] at e
          rw [← e, List.append_assoc]; rfl)
        have HEn : Hid (¬ t.f1 ≤ left → acc ++ mt (([] : List S32).length + y.length) [] y left = res a b budget) := Lib.hid (fun h => by
          have e := HEr.out
          rw [show ([] : List S32).length + (t :: y).length = (([] : List S32).length + y.length) + 1 from rfl, mt_no hpk.out h] at e
          exact e)
        have hcut : True := trivial
        clear HEr hpk
        have HTs : Hid ((wd.setCells gt 0 (tcs t)).heap[gt]? = _) := Lib.hid (blk_tcs35 HTd.out t)
        have hfoot := C7.of35 HTs.out
        obtain ⟨hz0, hz1, hz2, hz3, hz4, hz5, hz6⟩ := hfoot
        clear hf0 hf1 hf2 hf3 hf4 hf5 hf6 HTd HMd hcut
        generalize wd.setCells gt 0 (tcs t) = ws at *
        have hlt0 := HVt.out.s0
        have hl0 := HMs.out.l0
        have hl1 := HMs.out.l1
        by_cases htk : t.f1 ≤ left
        · have HEy2 := Lib.hid (HEy.out htk)
          clear HEy HEn
          have dtk : decide (t.f1 ≤ left) = true := decide_eq_true htk
          obtain ⟨ss, hss⟩ : ∃ ss, ss = acc.map (·.1) := ⟨_, rfl⟩
          obtain ⟨ts, hts⟩ : ∃ ts, ts = acc.map (·.2) := ⟨_, rfl⟩
          have Hlen : Hid (ss.length ≤ 2000 ∧ ts.length ≤ 2000) := Lib.hid (by rw [hss, hts, List.length_map, List.length_map]; omega)
          rw [← hss, ← hts] at HMs
          have Hss := Lib.hid hss
          have Hts := Lib.hid hts
          clear hss hts
          go_wp2_with fail
          clear hz0 hz1 hz2 hz3 hz4 hz5 hz6
          have HM := Lib.hid (HMs.out.below (below_drew (Below.refl _ _)))
          have HT : Hid (ws.drew.heap[gt]? = _) := Lib.hid HTs.out
          clear HMs HTs
          refine start_ (n := 10) (S := fun W => C7 W gt t) (ds := [7]) #[false, false, false, false, false, false, false, false, false, false] (by kernel_rfl) rfl rfl (C7.of35 HT.out) (fun hHeld => ?_)
          generalize ws.drew = w4 at *
          refine pure_ (i := 0) (N := some 84) (v := ?_) (a' := ?_) #[true, false, false, false, false, false, false, false, false, false] rfl rfl (by kernel_rfl) (fun _ _ _ h => h) (Or.inl ⟨by rfl, ?_⟩) ?_ ?_
          rotate_left
          · intro w'
            go_simp
            with_reducible rfl
          rotate_left
          · simp only [Act.put, List.setIfInBounds_toArray, List.set_cons_zero, List.set_cons_succ, i64_w, i32_w]
            rfl
          refine pure_ (i := 1) (N := some 85) (v := ?_) (a' := ?_) #[true, true, false, false, false, false, false, false, false, false] rfl rfl (by kernel_rfl) (fun _ _ _ h => h) (Or.inl ⟨by rfl, ?_⟩) ?_ ?_
          rotate_left
          · intro w'
            go_simp
            with_reducible rfl
          rotate_left
          · simp only [Act.put, List.setIfInBounds_toArray, List.set_cons_zero, List.set_cons_succ, i64_w, i32_w]
            rfl
          refine pure_ (i := 4) (N := some 88) (v := ?_) (a' := ?_) #[true, true, false, false, true, false, false, false, false, false] rfl rfl (by kernel_rfl) (fun _ _ _ h => h) (Or.inl ⟨by rfl, ?_⟩) ?_ ?_
          rotate_left
          · intro w'
            go_simp
            with_reducible rfl
          rotate_left
          · simp only [Act.put, List.setIfInBounds_toArray, List.set_cons_zero, List.set_cons_succ, i64_w, i32_w]
            rfl
          refine take_ (i := 5) (N := some 89) (v := ?_) (a' := ?_) #[true, true, false, false, true, true, false, false, false, false] rfl rfl (by kernel_rfl) (fun _ _ _ h => h) (Or.inl ⟨by rfl, ?_⟩) hHeld ?_ ?_
          rotate_left
          · rintro w' ⟨s0, s1, s2, s3, s4, s5, s6⟩
            go_simp
            with_reducible rfl
          rotate_left
          · simp only [Act.put, List.setIfInBounds_toArray, List.set_cons_zero, List.set_cons_succ, i64_w, i32_w]
            rfl
          refine two_ (i := 2) (j := 6) (Ni := some 86) (Nj := some 90) #[true, true, true, false, true, true, false, false, false, false] #[true, true, false, false, true, true, true, false, false, false] rfl rfl rfl rfl (by kernel_rfl) (by decide) (by decide) (fun K hK => ?_) (fun K hK => ?_)
          · skip
            refine value_ (v := .slice (some ⟨w4.heap.size, 0, none⟩) 1 1) (w1 := w4.alloc (.cells #[.int .i64 1] 3)) (by rfl) rfl ?_ ?_
            · go_simp
            have hbl := (Below.refl w4.heap.size w4).alloc (Nat.le_refl _) (.cells #[.int .i64 1] 3)
            have HM := Lib.hid (HM.out.below hbl)
            have HT := Lib.hid (blk_below HT.out hbl)
            have HL1 := Lib.hid (blk_new w4 (.cells #[.int .i64 1] 3))
            refine hK.out _ _ (C7.of35 HT.out) (fun hHeld => ?_)
            clear hK K hbl
            refine norm_ (a' := ?_) ?_ ?_
            rotate_left
            · simp only [Act.put, List.setIfInBounds_toArray, List.set_cons_zero, List.set_cons_succ, i64_w, i32_w]
              rfl
            generalize w4.alloc (.cells #[.int .i64 1] 3) = wa at *
            generalize w4.heap.size = g1 at *
            refine two_ (i := 3) (j := 6) (Ni := some 87) (Nj := some 90) #[true, true, true, true, true, true, false, false, false, false] #[true, true, true, false, true, true, true, false, false, false] rfl rfl rfl rfl (by kernel_rfl) (by decide) (by decide) (fun K hK => ?_) (fun K hK => ?_)
            · skip
              refine Kd.R_append_rows_step (Kd.int .i64) (Rr := (Kd.int .i64).K wa) (w0 := wa) w3.heap.size (by rfl) (.tmp 84) (.tmp 86) 64 3 (.int .i64 0) 8 rfl Try.underlying64 info3 rfl (by decide) (by omega) u13 ss [1] (some ⟨g1, 0, none⟩) 1 1 (fun _ => True) (fun _ => False) rfl rfl HM.out.sd (C_one3 HL1.out) ?aK (fun _ hk => hk.elim) (fun _ _ => trivial) (fr_self (S := fun _ => False) (Fr.of_below HM.out.bl)) HM.out.bl.size (by have := Hlen.out; omega) ?_
              case aK => exact fun y cs h => h
              intro v1 w5 ho1 hB1 hg1 hat1
              show K (Act.put _ (some 87) v1) w5
              have HT5 := Lib.hid (blk_grown HT.out hg1 (Kd.R_ne HM.out.sd HT.out (by decide)))
              have HM5 := Lib.hid (HM.out.app1 ho1 hB1 hg1)
              refine hK.out _ _ (C7.of35 HT5.out) (fun hHeld => ?_)
              clear hK K ho1 hB1 hg1 hat1 HM HT HL1
              refine norm_ (a' := ?_) ?_ ?_
              rotate_left
              · simp only [Act.put, List.setIfInBounds_toArray, List.set_cons_zero, List.set_cons_succ, i64_w, i32_w]
                rfl
              have HM := HM5
              have HT := HT5
              have Hlen : Hid ((ss ++ [(1 : Int)]).length ≤ 2001 ∧ ts.length ≤ 2000) := Lib.hid (by have := Hlen.out; simp; omega)
              clear HM5 HT5
              refine one_ (i := 6) (N := some 90) #[true, true, true, true, true, true, true, false, false, false] rfl rfl (by kernel_rfl) (by decide) (fun K hK => ?_)
              refine value_ (v := .slice (some ⟨w5.heap.size, 0, none⟩) 1 1) (w1 := w5.alloc (.cells (tcells t) 35)) (by rfl) rfl ?_ ?_
              · go_simp
                rfl
              have hbl := (Below.refl w5.heap.size w5).alloc (Nat.le_refl _) (.cells (tcells t) 35)
              have HM := Lib.hid (HM.out.below hbl)
              have HT := Lib.hid (blk_below HT.out hbl)
              have HL2 := Lib.hid (blk_new w5 (.cells (tcells t) 35))
              refine hK.out _ _ (C7.of35 HT.out) (fun hHeld => ?_)
              clear hK K hbl
              refine norm_ (a' := ?_) ?_ ?_
              rotate_left
              · simp only [Act.put, List.setIfInBounds_toArray, List.set_cons_zero, List.set_cons_succ, i64_w, i32_w]
                rfl
              generalize w5.alloc (.cells (tcells t) 35) = wb at *
              generalize w5.heap.size = g2 at *
              refine last_ (i := 7) (N := some 91) #[true, true, true, true, true, true, true, true, false, false] rfl rfl (by kernel_rfl) (by decide) (fun K hK => ?_)
              refine Kd.R_append_rows_step k35 (Rr := k35.K wb) (w0 := wb) w3.heap.size (by rfl) (.tmp 88) (.tmp 90) 26 35 (.agg #[.string ByteArray.empty, .int .i64 0, .int .i64 0, .int .i64 0, .int .i64 0, .int .i64 0, .int .i64 0]) 64 rfl Try.underlying26 info35 rfl (by decide) (by omega) u14 (ts.map p35) [p35 t] (some ⟨g2, 0, none⟩) 1 1 (fun _ => True) (fun _ => False) rfl rfl HM.out.ot (C_one35 HL2.out) ?aK (fun _ hk => hk.elim) (fun _ _ => trivial) (fr_self (S := fun _ => False) (Fr.of_below HM.out.bl)) HM.out.bl.size (by have := Hlen.out; rw [List.length_map]; simp only [List.length_append, List.length_cons, List.length_nil] at this; omega) ?_
              case aK => exact fun y cs h => by obtain rfl := k35_open h; exact k35_mkM _ _ _ y
              intro v2 w6 ho1 hB1 hg1 hat1
              show K (Act.put _ (some 91) v2) w6
              have HM6 := Lib.hid (HM.out.app2 ho1 hB1 hg1)
              have HT6 := Lib.hid (blk_grown HT.out hg1 Hne.out)
              refine hK.out _ _ ?_
              clear hK K ho1 hB1 hg1 hat1 HM HT HL2
              refine norm_ (a' := ?_) ?_ ?_
              rotate_left
              · simp only [Act.put, List.setIfInBounds_toArray, List.set_cons_zero, List.set_cons_succ, i64_w, i32_w]
                rfl
              refine pure_ (i := 8) (N := some 13) (v := ?_) (a' := ?_) #[true, true, true, true, true, true, true, true, true, false] rfl rfl (by kernel_rfl) (fun _ _ _ h => h) (Or.inl ⟨by rfl, ?_⟩) ?_ ?_
              rotate_left
              · intro w'
                go_simp
                with_reducible rfl
              rotate_left
              · simp only [Act.put, List.setIfInBounds_toArray, List.set_cons_zero, List.set_cons_succ, i64_w, i32_w]
                rfl
              refine pure_ (i := 9) (N := some 14) (v := ?_) (a' := ?_) #[true, true, true, true, true, true, true, true, true, true] rfl rfl (by kernel_rfl) (fun _ _ _ h => h) (Or.inl ⟨by rfl, ?_⟩) ?_ ?_
              rotate_left
              · intro w'
                go_simp
                with_reducible rfl
              rotate_left
              · simp only [Act.put, List.setIfInBounds_toArray, List.set_cons_zero, List.set_cons_succ, i64_w, i32_w]
                rfl
              refine done_ (by kernel_rfl) ?_
              obtain ⟨y0, y1, y2, y3, y4, y5, y6⟩ := C7.of35 HT6.out
              clear y0 y1 y3 y4 y5 y6
              go_wp2_with fail
              go_roundw
              case rel => exact ⟨_, _, [], _, _, y, _, acc ++ [((1 : Int), t)], rfl, rfl, rfl, by simp at hlen ⊢; omega, Lib.hid (by rw [List.map_append, List.map_append, ← Hss.out, ← Hts.out]; exact HM6.out.took (by omega) (by omega)), HEy2⟩
              case measure => simp [lenOf] <;> omega
            · skip
              refine value_ (v := .slice (some ⟨wa.heap.size, 0, none⟩) 1 1) (w1 := wa.alloc (.cells (tcells t) 35)) (by rfl) rfl ?_ ?_
              · go_simp
                rfl
              have hbl := (Below.refl wa.heap.size wa).alloc (Nat.le_refl _) (.cells (tcells t) 35)
              have HM := Lib.hid (HM.out.below hbl)
              have HT := Lib.hid (blk_below HT.out hbl)
              have HL2 := Lib.hid (blk_new wa (.cells (tcells t) 35))
              refine hK.out _ _ (C7.of35 HT.out) (fun hHeld => ?_)
              clear hK K hbl
              refine norm_ (a' := ?_) ?_ ?_
              rotate_left
              · simp only [Act.put, List.setIfInBounds_toArray, List.set_cons_zero, List.set_cons_succ, i64_w, i32_w]
                rfl
              have HL1 := Lib.hid (blk_below HL1.out ((Below.refl wa.heap.size wa).alloc (Nat.le_refl _) (.cells (tcells t) 35)))
              generalize wa.alloc (.cells (tcells t) 35) = wc at *
              generalize wa.heap.size = g2 at *
              refine one_ (i := 3) (N := some 87) #[true, true, true, true, true, true, true, false, false, false] rfl rfl (by kernel_rfl) (by decide) (fun K hK => ?_)
              refine Kd.R_append_rows_step (Kd.int .i64) (Rr := (Kd.int .i64).K wc) (w0 := wc) w3.heap.size (by rfl) (.tmp 84) (.tmp 86) 64 3 (.int .i64 0) 8 rfl Try.underlying64 info3 rfl (by decide) (by omega) u13 ss [1] (some ⟨g1, 0, none⟩) 1 1 (fun _ => True) (fun _ => False) rfl rfl HM.out.sd (C_one3 HL1.out) ?aK (fun _ hk => hk.elim) (fun _ _ => trivial) (fr_self (S := fun _ => False) (Fr.of_below HM.out.bl)) HM.out.bl.size (by have := Hlen.out; omega) ?_
              case aK => exact fun y cs h => h
              intro v1 w5 ho1 hB1 hg1 hat1
              show K (Act.put _ (some 87) v1) w5
              have HT5 := Lib.hid (blk_grown HT.out hg1 (Kd.R_ne HM.out.sd HT.out (by decide)))
              have HM5 := Lib.hid (HM.out.app1 ho1 hB1 hg1)
              refine hK.out _ _ (C7.of35 HT5.out) (fun hHeld => ?_)
              have HL2 := Lib.hid (blk_grown HL2.out hg1 (Kd.R_ne HM.out.sd HL2.out (by decide)))
              clear hK K ho1 hB1 hg1 hat1 HM HT HL1
              refine norm_ (a' := ?_) ?_ ?_
              rotate_left
              · simp only [Act.put, List.setIfInBounds_toArray, List.set_cons_zero, List.set_cons_succ, i64_w, i32_w]
                rfl
              have HM := HM5
              have HT := HT5
              have Hlen : Hid ((ss ++ [(1 : Int)]).length ≤ 2001 ∧ ts.length ≤ 2000) := Lib.hid (by have := Hlen.out; simp; omega)
              clear HM5 HT5
              refine last_ (i := 7) (N := some 91) #[true, true, true, true, true, true, true, true, false, false] rfl rfl (by kernel_rfl) (by decide) (fun K hK => ?_)
              refine Kd.R_append_rows_step k35 (Rr := k35.K w5) (w0 := w5) w3.heap.size (by rfl) (.tmp 88) (.tmp 90) 26 35 (.agg #[.string ByteArray.empty, .int .i64 0, .int .i64 0, .int .i64 0, .int .i64 0, .int .i64 0, .int .i64 0]) 64 rfl Try.underlying26 info35 rfl (by decide) (by omega) u14 (ts.map p35) [p35 t] (some ⟨g2, 0, none⟩) 1 1 (fun _ => True) (fun _ => False) rfl rfl HM.out.ot (C_one35 HL2.out) ?aK (fun _ hk => hk.elim) (fun _ _ => trivial) (fr_self (S := fun _ => False) (Fr.of_below HM.out.bl)) HM.out.bl.size (by have := Hlen.out; rw [List.length_map]; simp only [List.length_append, List.length_cons, List.length_nil] at this; omega) ?_
              case aK => exact fun y cs h => by obtain rfl := k35_open h; exact k35_mkM _ _ _ y
              intro v2 w6 ho1 hB1 hg1 hat1
              show K (Act.put _ (some 91) v2) w6
              have HM6 := Lib.hid (HM.out.app2 ho1 hB1 hg1)
              have HT6 := Lib.hid (blk_grown HT.out hg1 Hne.out)
              refine hK.out _ _ ?_
              clear hK K ho1 hB1 hg1 hat1 HM HT HL2
              refine norm_ (a' := ?_) ?_ ?_
              rotate_left
              · simp only [Act.put, List.setIfInBounds_toArray, List.set_cons_zero, List.set_cons_succ, i64_w, i32_w]
                rfl
              refine pure_ (i := 8) (N := some 13) (v := ?_) (a' := ?_) #[true, true, true, true, true, true, true, true, true, false] rfl rfl (by kernel_rfl) (fun _ _ _ h => h) (Or.inl ⟨by rfl, ?_⟩) ?_ ?_
              rotate_left
              · intro w'
                go_simp
                with_reducible rfl
              rotate_left
              · simp only [Act.put, List.setIfInBounds_toArray, List.set_cons_zero, List.set_cons_succ, i64_w, i32_w]
                rfl
              refine pure_ (i := 9) (N := some 14) (v := ?_) (a' := ?_) #[true, true, true, true, true, true, true, true, true, true] rfl rfl (by kernel_rfl) (fun _ _ _ h => h) (Or.inl ⟨by rfl, ?_⟩) ?_ ?_
              rotate_left
              · intro w'
                go_simp
                with_reducible rfl
              rotate_left
              · simp only [Act.put, List.setIfInBounds_toArray, List.set_cons_zero, List.set_cons_succ, i64_w, i32_w]
                rfl
              refine done_ (by kernel_rfl) ?_
              obtain ⟨y0, y1, y2, y3, y4, y5, y6⟩ := C7.of35 HT6.out
              clear y0 y1 y3 y4 y5 y6
              go_wp2_with fail
              go_roundw
              case rel => exact ⟨_, _, [], _, _, y, _, acc ++ [((1 : Int), t)], rfl, rfl, rfl, by simp at hlen ⊢; omega, Lib.hid (by rw [List.map_append, List.map_append, ← Hss.out, ← Hts.out]; exact HM6.out.took (by omega) (by omega)), HEy2⟩
              case measure => simp [lenOf] <;> omega
          · skip
            refine value_ (v := .slice (some ⟨w4.heap.size, 0, none⟩) 1 1) (w1 := w4.alloc (.cells (tcells t) 35)) (by rfl) rfl ?_ ?_
            · go_simp
              rfl
            have hbl := (Below.refl w4.heap.size w4).alloc (Nat.le_refl _) (.cells (tcells t) 35)
            have HM := Lib.hid (HM.out.below hbl)
            have HT := Lib.hid (blk_below HT.out hbl)
            have HL2 := Lib.hid (blk_new w4 (.cells (tcells t) 35))
            refine hK.out _ _ (C7.of35 HT.out) (fun hHeld => ?_)
            clear hK K hbl
            refine norm_ (a' := ?_) ?_ ?_
            rotate_left
            · simp only [Act.put, List.setIfInBounds_toArray, List.set_cons_zero, List.set_cons_succ, i64_w, i32_w]
              rfl
            generalize w4.alloc (.cells (tcells t) 35) = wa at *
            generalize w4.heap.size = g2 at *
            refine one_ (i := 2) (N := some 86) #[true, true, true, false, true, true, true, false, false, false] rfl rfl (by kernel_rfl) (by decide) (fun K hK => ?_)
            refine value_ (v := .slice (some ⟨wa.heap.size, 0, none⟩) 1 1) (w1 := wa.alloc (.cells #[.int .i64 1] 3)) (by rfl) rfl ?_ ?_
            · go_simp
            have hbl := (Below.refl wa.heap.size wa).alloc (Nat.le_refl _) (.cells #[.int .i64 1] 3)
            have HM := Lib.hid (HM.out.below hbl)
            have HT := Lib.hid (blk_below HT.out hbl)
            have HL1 := Lib.hid (blk_new wa (.cells #[.int .i64 1] 3))
            refine hK.out _ _ (C7.of35 HT.out) (fun hHeld => ?_)
            clear hK K hbl
            refine norm_ (a' := ?_) ?_ ?_
            rotate_left
            · simp only [Act.put, List.setIfInBounds_toArray, List.set_cons_zero, List.set_cons_succ, i64_w, i32_w]
              rfl
            have HL2 := Lib.hid (blk_below HL2.out ((Below.refl wa.heap.size wa).alloc (Nat.le_refl _) (.cells #[.int .i64 1] 3)))
            generalize wa.alloc (.cells #[.int .i64 1] 3) = wc at *
            generalize wa.heap.size = g1 at *
            refine one_ (i := 3) (N := some 87) #[true, true, true, true, true, true, true, false, false, false] rfl rfl (by kernel_rfl) (by decide) (fun K hK => ?_)
            refine Kd.R_append_rows_step (Kd.int .i64) (Rr := (Kd.int .i64).K wc) (w0 := wc) w3.heap.size (by rfl) (.tmp 84) (.tmp 86) 64 3 (.int .i64 0) 8 rfl Try.underlying64 info3 rfl (by decide) (by omega) u13 ss [1] (some ⟨g1, 0, none⟩) 1 1 (fun _ => True) (fun _ => False) rfl rfl HM.out.sd (C_one3 HL1.out) ?aK (fun _ hk => hk.elim) (fun _ _ => trivial) (fr_self (S := fun _ => False) (Fr.of_below HM.out.bl)) HM.out.bl.size (by have := Hlen.out; omega) ?_
            case aK => exact fun y cs h => h
            intro v1 w5 ho1 hB1 hg1 hat1
            show K (Act.put _ (some 87) v1) w5
            have HT5 := Lib.hid (blk_grown HT.out hg1 (Kd.R_ne HM.out.sd HT.out (by decide)))
            have HM5 := Lib.hid (HM.out.app1 ho1 hB1 hg1)
            refine hK.out _ _ (C7.of35 HT5.out) (fun hHeld => ?_)
            have HL2 := Lib.hid (blk_grown HL2.out hg1 (Kd.R_ne HM.out.sd HL2.out (by decide)))
            clear hK K ho1 hB1 hg1 hat1 HM HT HL1
            refine norm_ (a' := ?_) ?_ ?_
            rotate_left
            · simp only [Act.put, List.setIfInBounds_toArray, List.set_cons_zero, List.set_cons_succ, i64_w, i32_w]
              rfl
            have HM := HM5
            have HT := HT5
            have Hlen : Hid ((ss ++ [(1 : Int)]).length ≤ 2001 ∧ ts.length ≤ 2000) := Lib.hid (by have := Hlen.out; simp; omega)
            clear HM5 HT5
            refine last_ (i := 7) (N := some 91) #[true, true, true, true, true, true, true, true, false, false] rfl rfl (by kernel_rfl) (by decide) (fun K hK => ?_)
            refine Kd.R_append_rows_step k35 (Rr := k35.K w5) (w0 := w5) w3.heap.size (by rfl) (.tmp 88) (.tmp 90) 26 35 (.agg #[.string ByteArray.empty, .int .i64 0, .int .i64 0, .int .i64 0, .int .i64 0, .int .i64 0, .int .i64 0]) 64 rfl Try.underlying26 info35 rfl (by decide) (by omega) u14 (ts.map p35) [p35 t] (some ⟨g2, 0, none⟩) 1 1 (fun _ => True) (fun _ => False) rfl rfl HM.out.ot (C_one35 HL2.out) ?aK (fun _ hk => hk.elim) (fun _ _ => trivial) (fr_self (S := fun _ => False) (Fr.of_below HM.out.bl)) HM.out.bl.size (by have := Hlen.out; rw [List.length_map]; simp only [List.length_append, List.length_cons, List.length_nil] at this; omega) ?_
            case aK => exact fun y cs h => by obtain rfl := k35_open h; exact k35_mkM _ _ _ y
            intro v2 w6 ho1 hB1 hg1 hat1
            show K (Act.put _ (some 91) v2) w6
            have HM6 := Lib.hid (HM.out.app2 ho1 hB1 hg1)
            have HT6 := Lib.hid (blk_grown HT.out hg1 Hne.out)
            refine hK.out _ _ ?_
            clear hK K ho1 hB1 hg1 hat1 HM HT HL2
            refine norm_ (a' := ?_) ?_ ?_
            rotate_left
            · simp only [Act.put, List.setIfInBounds_toArray, List.set_cons_zero, List.set_cons_succ, i64_w, i32_w]
              rfl
            refine pure_ (i := 8) (N := some 13) (v := ?_) (a' := ?_) #[true, true, true, true, true, true, true, true, true, false] rfl rfl (by kernel_rfl) (fun _ _ _ h => h) (Or.inl ⟨by rfl, ?_⟩) ?_ ?_
            rotate_left
            · intro w'
              go_simp
              with_reducible rfl
            rotate_left
            · simp only [Act.put, List.setIfInBounds_toArray, List.set_cons_zero, List.set_cons_succ, i64_w, i32_w]
              rfl
            refine pure_ (i := 9) (N := some 14) (v := ?_) (a' := ?_) #[true, true, true, true, true, true, true, true, true, true] rfl rfl (by kernel_rfl) (fun _ _ _ h => h) (Or.inl ⟨by rfl, ?_⟩) ?_ ?_
            rotate_left
            · intro w'
              go_simp
              with_reducible rfl
            rotate_left
            · simp only [Act.put, List.setIfInBounds_toArray, List.set_cons_zero, List.set_cons_succ, i64_w, i32_w]
              rfl
            refine done_ (by kernel_rfl) ?_
            obtain ⟨y0, y1, y2, y3, y4, y5, y6⟩ := C7.of35 HT6.out
            clear y0 y1 y3 y4 y5 y6
            go_wp2_with fail
            go_roundw
            case rel => exact ⟨_, _, [], _, _, y, _, acc ++ [((1 : Int), t)], rfl, rfl, rfl, by simp at hlen ⊢; omega, Lib.hid (by rw [List.map_append, List.map_append, ← Hss.out, ← Hts.out]; exact HM6.out.took (by omega) (by omega)), HEy2⟩
            case measure => simp [lenOf] <;> omega
        · have HEn2 := Lib.hid (HEn.out htk)
          clear HEn HEy
          have dtk : decide (t.f1 ≤ left) = false := decide_eq_false htk
          clear htk
          go_wp2_with fail
          go_roundw
          case rel => exact ⟨_, _, [], _, _, y, _, acc, rfl, rfl, rfl, by simp at hlen ⊢; omega, HMs, HEn2⟩
          case measure => simp [lenOf] <;> omega
      | cons r x =>
        simp only [List.length_cons] at hlen ⊢
        have hcx : x.length + 1 ≤ cx := HMr.out.sx.cap
        have hcy : y.length + 1 ≤ cy := HMr.out.sy.cap
        obtain ⟨adx, rfl, hhx⟩ := HMr.out.sx.head
        obtain ⟨ady, rfl, hhy⟩ := HMr.out.sy.head
        have HHx := Lib.hid hhx
        have HHy := Lib.hid hhy
        have han := cmpT_anti (HMr.out.vx r (by simp)).vc (HMr.out.vy t (by simp)).vc
        have HVr := Lib.hid (HMr.out.vx r (by simp))
        have HVy := Lib.hid (HMr.out.vy t (by simp))
        clear hhx hhy
        by_cases hle : cmpT r t ≤ 0
        · have hd : decide (cmpT t r < 0) = false := decide_eq_false (by omega)
          have hpk : Hid (pick (r :: x) (t :: y) = some (0, r, x, t :: y)) := Lib.hid (by simp only [pick]; rw [if_pos hle])
          clear hle han
          have q1 : (((x.length : Int) + 1) == 0) = false := beq_eq_false_iff_ne.2 (by omega)
          have q2 : decide (0 < (y.length : Int) + 1) = true := decide_eq_true (by omega)
          have q3 : decide (0 < (x.length : Int) + 1) = true := decide_eq_true (by omega)
          go_wp2_with fail
          have HMz := Lib.hid (HMr.out.below (below_drew (Below.refl wr.heap.size wr)))
          clear HMr
          refine start_ (n := 18) (S := fun W => CA W ady t ∧ CA W adx r) (ds := []) #[false, false, false, false, false, false, false, false, false, false, false, false, false, false, false, false, false, false] (by kernel_rfl) rfl rfl ⟨HHy.out _ HMz.out.bl, HHx.out _ HMz.out.bl⟩ (fun hHeld => ?_)
          generalize wr.drew = wz at *
          refine pure_ (i := 0) (N := some 49) (v := ?_) (a' := ?_) #[true, false, false, false, false, false, false, false, false, false, false, false, false, false, false, false, false, false] rfl rfl (by kernel_rfl) (fun _ _ _ h => h) (Or.inl ⟨by rfl, ?_⟩) ?_ ?_
          rotate_left
          · intro w'
            go_simp
            with_reducible rfl
          rotate_left
          · simp only [Act.put, List.setIfInBounds_toArray, List.set_cons_zero, List.set_cons_succ, i64_w, i32_w]
            rfl
          refine pure_ (i := 1) (N := some 50) (v := ?_) (a' := ?_) #[true, true, false, false, false, false, false, false, false, false, false, false, false, false, false, false, false, false] rfl rfl (by kernel_rfl) (fun _ _ _ h => h) (Or.inl ⟨by rfl, ?_⟩) ?_ ?_
          rotate_left
          · intro w'
            go_simp
            with_reducible rfl
          rotate_left
          · simp only [Act.put, List.setIfInBounds_toArray, List.set_cons_zero, List.set_cons_succ, i64_w, i32_w]
            rfl
          refine pure_ (i := 2) (N := some 51) (v := ?_) (a' := ?_) #[true, true, true, false, false, false, false, false, false, false, false, false, false, false, false, false, false, false] rfl rfl (by kernel_rfl) (fun _ _ _ h => h) (Or.inl ⟨by rfl, ?_⟩) ?_ ?_
          rotate_left
          · intro w'
            go_simp
            with_reducible rfl
          rotate_left
          · simp only [Act.put, List.setIfInBounds_toArray, List.set_cons_zero, List.set_cons_succ, i64_w, i32_w]
            rfl
          refine pure_ (i := 3) (N := some 52) (v := ?_) (a' := ?_) #[true, true, true, true, false, false, false, false, false, false, false, false, false, false, false, false, false, false] rfl rfl (by kernel_rfl) (fun _ _ _ h => h) (Or.inl ⟨by rfl, ?_⟩) ?_ ?_
          rotate_left
          · intro w'
            go_simp
            with_reducible rfl
          rotate_left
          · simp only [Act.put, List.setIfInBounds_toArray, List.set_cons_zero, List.set_cons_succ, i64_w, i32_w]
            rfl
          refine pure_ (i := 4) (N := some 53) (v := ?_) (a' := ?_) #[true, true, true, true, true, false, false, false, false, false, false, false, false, false, false, false, false, false] rfl rfl (by kernel_rfl) (fun _ _ _ h => h) (Or.inl ⟨by rfl, ?_⟩) ?_ ?_
          rotate_left
          · intro w'
            go_simp
            with_reducible rfl
          rotate_left
          · simp only [Act.put, List.setIfInBounds_toArray, List.set_cons_zero, List.set_cons_succ, i64_w, i32_w]
            rfl
          refine pure_ (i := 5) (N := some 54) (v := ?_) (a' := ?_) #[true, true, true, true, true, true, false, false, false, false, false, false, false, false, false, false, false, false] rfl rfl (by kernel_rfl) (fun _ _ _ h => h) (Or.inl ⟨by rfl, ?_⟩) ?_ ?_
          rotate_left
          · intro w'
            go_simp
            with_reducible rfl
          rotate_left
          · simp only [Act.put, List.setIfInBounds_toArray, List.set_cons_zero, List.set_cons_succ, i64_w, i32_w]
            rfl
          refine pure_ (i := 6) (N := some 55) (v := ?_) (a' := ?_) #[true, true, true, true, true, true, true, false, false, false, false, false, false, false, false, false, false, false] rfl rfl (by kernel_rfl) (fun _ _ _ h => h) (Or.inl ⟨by rfl, ?_⟩) ?_ ?_
          rotate_left
          · intro w'
            go_simp
            with_reducible rfl
          rotate_left
          · simp only [Act.put, List.setIfInBounds_toArray, List.set_cons_zero, List.set_cons_succ, i64_w, i32_w]
            rfl
          refine pure_ (i := 7) (N := some 56) (v := ?_) (a' := ?_) #[true, true, true, true, true, true, true, true, false, false, false, false, false, false, false, false, false, false] rfl rfl (by kernel_rfl) (fun _ _ _ h => h) (Or.inl ⟨by rfl, ?_⟩) ?_ ?_
          rotate_left
          · intro w'
            go_simp
            with_reducible rfl
          rotate_left
          · simp only [Act.put, List.setIfInBounds_toArray, List.set_cons_zero, List.set_cons_succ, i64_w, i32_w]
            rfl
          refine pure_ (i := 8) (N := some 57) (v := ?_) (a' := ?_) #[true, true, true, true, true, true, true, true, true, false, false, false, false, false, false, false, false, false] rfl rfl (by kernel_rfl) (fun _ _ _ h => h) (Or.inl ⟨by rfl, ?_⟩) ?_ ?_
          rotate_left
          · intro w'
            go_simp
            with_reducible rfl
          rotate_left
          · simp only [Act.put, List.setIfInBounds_toArray, List.set_cons_zero, List.set_cons_succ, i64_w, i32_w]
            rfl
          refine pure_ (i := 9) (N := some 58) (v := ?_) (a' := ?_) #[true, true, true, true, true, true, true, true, true, true, false, false, false, false, false, false, false, false] rfl rfl (by kernel_rfl) (fun _ _ _ h => h) (Or.inl ⟨by rfl, ?_⟩) ?_ ?_
          rotate_left
          · intro w'
            go_simp
            with_reducible rfl
          rotate_left
          · simp only [Act.put, List.setIfInBounds_toArray, List.set_cons_zero, List.set_cons_succ, i64_w, i32_w]
            rfl
          refine take_ (i := 10) (N := some 59) (v := ?_) (a' := ?_) #[true, true, true, true, true, true, true, true, true, true, true, false, false, false, false, false, false, false] rfl rfl (by kernel_rfl) (fun _ _ _ h => h) (Or.inl ⟨by rfl, ?_⟩) hHeld ?_ ?_
          rotate_left
          · rintro w' ⟨⟨s0, s1, s2, s3, s4, s5, s6⟩, ⟨t0, t1, t2, t3, t4, t5, t6⟩⟩
            go_simp
            with_reducible rfl
          rotate_left
          · simp only [Act.put, List.setIfInBounds_toArray, List.set_cons_zero, List.set_cons_succ, i64_w, i32_w]
            rfl
          refine pure_ (i := 11) (N := some 60) (v := ?_) (a' := ?_) #[true, true, true, true, true, true, true, true, true, true, true, true, false, false, false, false, false, false] rfl rfl (by kernel_rfl) (fun _ _ _ h => h) (Or.inl ⟨by rfl, ?_⟩) ?_ ?_
          rotate_left
          · intro w'
            go_simp
            with_reducible rfl
          rotate_left
          · simp only [Act.put, List.setIfInBounds_toArray, List.set_cons_zero, List.set_cons_succ, i64_w, i32_w]
            rfl
          refine pure_ (i := 12) (N := some 61) (v := ?_) (a' := ?_) #[true, true, true, true, true, true, true, true, true, true, true, true, true, false, false, false, false, false] rfl rfl (by kernel_rfl) (fun _ _ _ h => h) (Or.inl ⟨by rfl, ?_⟩) ?_ ?_
          rotate_left
          · intro w'
            go_simp
            with_reducible rfl
          rotate_left
          · simp only [Act.put, List.setIfInBounds_toArray, List.set_cons_zero, List.set_cons_succ, i64_w, i32_w]
            rfl
          refine take_ (i := 13) (N := some 62) (v := ?_) (a' := ?_) #[true, true, true, true, true, true, true, true, true, true, true, true, true, true, false, false, false, false] rfl rfl (by kernel_rfl) (fun _ _ _ h => h) (Or.inl ⟨by rfl, ?_⟩) hHeld ?_ ?_
          rotate_left
          · rintro w' ⟨⟨s0, s1, s2, s3, s4, s5, s6⟩, ⟨t0, t1, t2, t3, t4, t5, t6⟩⟩
            go_simp
            with_reducible rfl
          rotate_left
          · simp only [Act.put, List.setIfInBounds_toArray, List.set_cons_zero, List.set_cons_succ, i64_w, i32_w]
            rfl
          refine one_ (i := 14) (N := some 63) #[true, true, true, true, true, true, true, true, true, true, true, true, true, true, true, false, false, false] rfl rfl (by kernel_rfl) (by decide) (fun K hK => ?_)
          refine goes_ Try.func25 (by kernel_rfl) rfl #[.agg (tcells t), .agg (tcells r)] (by rfl) rfl rfl (by (try simp only [List.map_toArray, List.map_cons, List.map_nil]); first | done | rfl) ?_
          refine (refcmp_c' t r _).mono ?_
          rintro e wp ⟨rfl, hb⟩
          have HMp := Lib.hid (HMz.out.below hb)
          refine ⟨_, rfl, hK.out _ _ ⟨HHy.out _ HMp.out.bl, HHx.out _ HMp.out.bl⟩ (fun hHeld => ?_)⟩
          clear hK K hb HMz
          refine norm_ (a' := ?_) ?_ ?_
          rotate_left
          · simp only [Act.put, List.setIfInBounds_toArray, List.set_cons_zero, List.set_cons_succ, i64_w, i32_w]
            rfl
          refine pure_ (i := 15) (N := some 64) (v := ?_) (a' := ?_) #[true, true, true, true, true, true, true, true, true, true, true, true, true, true, true, true, false, false] rfl rfl (by kernel_rfl) (fun _ _ _ h => h) (Or.inl ⟨by rfl, ?_⟩) ?_ ?_
          rotate_left
          · intro w'
            go_simp
            with_reducible rfl
          rotate_left
          · simp only [Act.put, List.setIfInBounds_toArray, List.set_cons_zero, List.set_cons_succ, i64_w, i32_w]
            rfl
          refine pure_ (i := 16) (N := some 65) (v := ?_) (a' := ?_) #[true, true, true, true, true, true, true, true, true, true, true, true, true, true, true, true, true, false] rfl rfl (by kernel_rfl) (fun _ _ _ h => h) (Or.inl ⟨by rfl, ?_⟩) ?_ ?_
          rotate_left
          · intro w'
            go_simp
            with_reducible rfl
          rotate_left
          · simp only [Act.put, List.setIfInBounds_toArray, List.set_cons_zero, List.set_cons_succ, i64_w, i32_w]
            rfl
          refine pure_ (i := 17) (N := some 66) (v := ?_) (a' := ?_) #[true, true, true, true, true, true, true, true, true, true, true, true, true, true, true, true, true, true] rfl rfl (by kernel_rfl) (fun _ _ _ h => h) (Or.inl ⟨by rfl, ?_⟩) ?_ ?_
          rotate_left
          · intro w'
            go_simp
            with_reducible rfl
          rotate_left
          · simp only [Act.put, List.setIfInBounds_toArray, List.set_cons_zero, List.set_cons_succ, i64_w, i32_w]
            rfl
          refine done_ (by kernel_rfl) ?_
          clear hHeld
          have HHd := HHx
          clear HHx HHy
          clear hd
          have HVt := HVr
          have Hgt : Hid (w3.heap.size ≤ wp.heap.size) := Lib.hid HMp.out.bl.size
          have hbq := (Below.refl wp.heap.size wp).alloc (Nat.le_refl _) (.cells #[.string ⟨#[]⟩, .int .i64 0, .int .i64 0, .int .i64 0, .int .i64 0, .int .i64 0, .int .i64 0] 35)
          have HT := Lib.hid (blk_new wp (.cells #[.string ⟨#[]⟩, .int .i64 0, .int .i64 0, .int .i64 0, .int .i64 0, .int .i64 0, .int .i64 0] 35))
          have HMq := Lib.hid (HMp.out.below hbq)
          have HHq : Hid (∀ W, Below (wp.alloc (.cells #[.string ⟨#[]⟩, .int .i64 0, .int .i64 0, .int .i64 0, .int .i64 0, .int .i64 0, .int .i64 0] 35)).heap.size (wp.alloc (.cells #[.string ⟨#[]⟩, .int .i64 0, .int .i64 0, .int .i64 0, .int .i64 0, .int .i64 0, .int .i64 0] 35)) W → CA W adx r) := Lib.hid (fun W hW => HHd.out W (HMp.out.bl.trans ((hbq.trans (hW.mono hbq.size)).mono HMp.out.bl.size)))
          have Hne : Hid (some wp.heap.size ≠ u14.ownBlock) := Lib.hid (fun e => by have := Kd.R_lt HMp.out.ot _ e.symm; omega)
          clear HMp HHd hbq
          go_wp2_with fail
          generalize wp.alloc (.cells #[.string ⟨#[]⟩, .int .i64 0, .int .i64 0, .int .i64 0, .int .i64 0, .int .i64 0, .int .i64 0] 35) = wq at *
          generalize wp.heap.size = gt at *
          have hsl : ∀ w, (Instr.slice 26 (.slice (some adx) (x.length + 1) cx) (some (.int .i64 1)) none none).run Try.prog w = .ok (.slice (tl adx cx) x.length (cx - 1)) w := run_tail26 adx x.length cx hcx
          refine start_ (n := 7) (S := fun W => CA W adx r) (ds := [5]) #[false, false, false, false, false, false, false] (by kernel_rfl) rfl rfl (HHq.out _ (below_drew (Below.refl _ _))) (fun hHeld => ?_)
          have HMd := Lib.hid (HMq.out.below (below_drew (Below.refl _ _)))
          have HTd : Hid (wq.drew.heap[gt]? = _) := Lib.hid HT.out
          clear HMq HHq HT
          generalize wq.drew = wd at *
          refine pure_ (i := 0) (N := some 70) (v := ?_) (a' := ?_) #[true, false, false, false, false, false, false] rfl rfl (by kernel_rfl) (fun _ _ _ h => h) (Or.inl ⟨by rfl, ?_⟩) ?_ ?_
          rotate_left
          · intro w'
            go_simp
            with_reducible rfl
          rotate_left
          · simp only [Act.put, List.setIfInBounds_toArray, List.set_cons_zero, List.set_cons_succ, i64_w, i32_w]
            rfl
          refine pure_ (i := 1) (N := some 71) (v := ?_) (a' := ?_) #[true, true, false, false, false, false, false] rfl rfl (by kernel_rfl) (fun _ _ _ h => h) (Or.inl ⟨by rfl, ?_⟩) ?_ ?_
          rotate_left
          · intro w'
            go_simp
            with_reducible rfl
          rotate_left
          · simp only [Act.put, List.setIfInBounds_toArray, List.set_cons_zero, List.set_cons_succ, i64_w, i32_w]
            rfl
          refine take_ (i := 2) (N := some 72) (v := ?_) (a' := ?_) #[true, true, true, false, false, false, false] rfl rfl (by kernel_rfl) (fun _ _ _ h => h) (Or.inl ⟨by rfl, ?_⟩) hHeld ?_ ?_
          rotate_left
          · rintro w' ⟨s0, s1, s2, s3, s4, s5, s6⟩
            go_simp
            with_reducible rfl
          rotate_left
          · simp only [Act.put, List.setIfInBounds_toArray, List.set_cons_zero, List.set_cons_succ, i64_w, i32_w]
            rfl
          refine pure_ (i := 3) (N := some 73) (v := ?_) (a' := ?_) #[true, true, true, true, false, false, false] rfl rfl (by kernel_rfl) (fun _ _ _ h => h) (Or.inl ⟨by rfl, ?_⟩) ?_ ?_
          rotate_left
          · intro w'
            go_simp
            with_reducible rfl
          rotate_left
          · simp only [Act.put, List.setIfInBounds_toArray, List.set_cons_zero, List.set_cons_succ, i64_w, i32_w]
            rfl
          refine pure_ (i := 4) (N := some 74) (v := ?_) (a' := ?_) #[true, true, true, true, true, false, false] rfl rfl (by kernel_rfl) (fun _ _ _ h => h) (Or.inl ⟨by rfl, ?_⟩) ?_ ?_
          rotate_left
          · intro w'
            go_simp
            with_reducible rfl
          rotate_left
          · simp only [Act.put, List.setIfInBounds_toArray, List.set_cons_zero, List.set_cons_succ, i64_w, i32_w]
            rfl
          clear hsl
          have hf0 : wd.frozen? ⟨gt, 0, none⟩ = false := blk_frozen HTd.out 0
          have hf1 : wd.frozen? ⟨gt, 1, none⟩ = false := blk_frozen HTd.out 1
          have hf2 : wd.frozen? ⟨gt, 2, none⟩ = false := blk_frozen HTd.out 2
          have hf3 : wd.frozen? ⟨gt, 3, none⟩ = false := blk_frozen HTd.out 3
          have hf4 : wd.frozen? ⟨gt, 4, none⟩ = false := blk_frozen HTd.out 4
          have hf5 : wd.frozen? ⟨gt, 5, none⟩ = false := blk_frozen HTd.out 5
          have hf6 : wd.frozen? ⟨gt, 6, none⟩ = false := blk_frozen HTd.out 6
          have hz0 : wd.cell? ⟨gt, 0, none⟩ = some (.string ⟨#[]⟩) := (blk_cell HTd.out 0).trans rfl
          have hz1 : wd.cell? ⟨gt, 1, none⟩ = some (.int .i64 0) := (blk_cell HTd.out 1).trans rfl
          have hz2 : wd.cell? ⟨gt, 2, none⟩ = some (.int .i64 0) := (blk_cell HTd.out 2).trans rfl
          have hz3 : wd.cell? ⟨gt, 3, none⟩ = some (.int .i64 0) := (blk_cell HTd.out 3).trans rfl
          have hz4 : wd.cell? ⟨gt, 4, none⟩ = some (.int .i64 0) := (blk_cell HTd.out 4).trans rfl
          have hz5 : wd.cell? ⟨gt, 5, none⟩ = some (.int .i64 0) := (blk_cell HTd.out 5).trans rfl
          have hz6 : wd.cell? ⟨gt, 6, none⟩ = some (.int .i64 0) := (blk_cell HTd.out 6).trans rfl
          clear hHeld
          refine last_ (i := 5) (N := none) #[true, true, true, true, true, true, false] rfl rfl (by kernel_rfl) (by decide) (fun K hK => ?_)
          refine skip_ (w1 := wd.setCells gt 0 (tcs r)) (by rfl) rfl ?_ ?_
          · unfold tcs
            go_simp
            rfl
          refine hK.out _ _ ?_
          clear hK K
          refine pure_ (i := 6) (N := some 9) (v := ?_) (a' := ?_) #[true, true, true, true, true, true, true] rfl rfl (by kernel_rfl) (fun _ _ _ h => h) (Or.inl ⟨by rfl, ?_⟩) ?_ ?_
          rotate_left
          · intro w'
            go_simp
            with_reducible rfl
          rotate_left
          · simp only [Act.put, List.setIfInBounds_toArray, List.set_cons_zero, List.set_cons_succ, i64_w, i32_w]
            rfl
          refine done_ (by kernel_rfl) ?_
          have HMs := Lib.hid (HMd.out.tailx.store Hgt.out HTd.out Hne.out 0 (tcs r))
          have HEy : Hid (r.f1 ≤ left → (acc ++ [((0 : Int), r)]) ++ mt (x.length + (t :: y).length) x (t :: y) (left - r.f1) = res a b budget) := Lib.hid (fun h => by
            have e := HEr.out
            rw [show (r :: x).length + (t :: y).length = (x.length + (t :: y).length) + 1 from by simp only [List.length_cons]; omega, mt_yes hpk.out h] at e
            rw [← e, List.append_assoc]; rfl)
          have HEn : Hid (¬ r.f1 ≤ left → acc ++ mt (x.length + (t :: y).length) x (t :: y) left = res a b budget) := Lib.hid (fun h => by
            have e := HEr.out
            rw [show (r :: x).length + (t :: y).length = (x.length + (t :: y).length) + 1 from by simp only [List.length_cons]; omega, mt_no hpk.out h] at e
            exact e)
          have hcut : True := trivial
          clear HEr hpk
          have HTs : Hid ((wd.setCells gt 0 (tcs r)).heap[gt]? = _) := Lib.hid (blk_tcs35 HTd.out r)
          have hfoot := C7.of35 HTs.out
          obtain ⟨hz0, hz1, hz2, hz3, hz4, hz5, hz6⟩ := hfoot
          clear hf0 hf1 hf2 hf3 hf4 hf5 hf6 HTd HMd hcut
          generalize wd.setCells gt 0 (tcs r) = ws at *
          have hlt0 := HVt.out.s0
          have hl0 := HMs.out.l0
          have hl1 := HMs.out.l1
          by_cases htk : r.f1 ≤ left
          · have HEy2 := Lib.hid (HEy.out htk)
            clear HEy HEn
            have dtk : decide (r.f1 ≤ left) = true := decide_eq_true htk
            obtain ⟨ss, hss⟩ : ∃ ss, ss = acc.map (·.1) := ⟨_, rfl⟩
            obtain ⟨ts, hts⟩ : ∃ ts, ts = acc.map (·.2) := ⟨_, rfl⟩
            have Hlen : Hid (ss.length ≤ 2000 ∧ ts.length ≤ 2000) := Lib.hid (by rw [hss, hts, List.length_map, List.length_map]; omega)
            rw [← hss, ← hts] at HMs
            have Hss := Lib.hid hss
            have Hts := Lib.hid hts
            clear hss hts
            go_wp2_with fail
            clear hz0 hz1 hz2 hz3 hz4 hz5 hz6
            have HM := Lib.hid (HMs.out.below (below_drew (Below.refl _ _)))
            have HT : Hid (ws.drew.heap[gt]? = _) := Lib.hid HTs.out
            clear HMs HTs
            refine start_ (n := 10) (S := fun W => C7 W gt r) (ds := [7]) #[false, false, false, false, false, false, false, false, false, false] (by kernel_rfl) rfl rfl (C7.of35 HT.out) (fun hHeld => ?_)
            generalize ws.drew = w4 at *
            refine pure_ (i := 0) (N := some 84) (v := ?_) (a' := ?_) #[true, false, false, false, false, false, false, false, false, false] rfl rfl (by kernel_rfl) (fun _ _ _ h => h) (Or.inl ⟨by rfl, ?_⟩) ?_ ?_
            rotate_left
            · intro w'
              go_simp
              with_reducible rfl
            rotate_left
            · simp only [Act.put, List.setIfInBounds_toArray, List.set_cons_zero, List.set_cons_succ, i64_w, i32_w]
              rfl
            refine pure_ (i := 1) (N := some 85) (v := ?_) (a' := ?_) #[true, true, false, false, false, false, false, false, false, false] rfl rfl (by kernel_rfl) (fun _ _ _ h => h) (Or.inl ⟨by rfl, ?_⟩) ?_ ?_
            rotate_left
            · intro w'
              go_simp
              with_reducible rfl
            rotate_left
            · simp only [Act.put, List.setIfInBounds_toArray, List.set_cons_zero, List.set_cons_succ, i64_w, i32_w]
              rfl
            refine pure_ (i := 4) (N := some 88) (v := ?_) (a' := ?_) #[true, true, false, false, true, false, false, false, false, false] rfl rfl (by kernel_rfl) (fun _ _ _ h => h) (Or.inl ⟨by rfl, ?_⟩) ?_ ?_
            rotate_left
            · intro w'
              go_simp
              with_reducible rfl
            rotate_left
            · simp only [Act.put, List.setIfInBounds_toArray, List.set_cons_zero, List.set_cons_succ, i64_w, i32_w]
              rfl
            refine take_ (i := 5) (N := some 89) (v := ?_) (a' := ?_) #[true, true, false, false, true, true, false, false, false, false] rfl rfl (by kernel_rfl) (fun _ _ _ h => h) (Or.inl ⟨by rfl, ?_⟩) hHeld ?_ ?_
            rotate_left
            · rintro w' ⟨s0, s1, s2, s3, s4, s5, s6⟩
              go_simp
              with_reducible rfl
            rotate_left
            · simp only [Act.put, List.setIfInBounds_toArray, List.set_cons_zero, List.set_cons_succ, i64_w, i32_w]
              rfl
            refine two_ (i := 2) (j := 6) (Ni := some 86) (Nj := some 90) #[true, true, true, false, true, true, false, false, false, false] #[true, true, false, false, true, true, true, false, false, false] rfl rfl rfl rfl (by kernel_rfl) (by decide) (by decide) (fun K hK => ?_) (fun K hK => ?_)
            · skip
              refine value_ (v := .slice (some ⟨w4.heap.size, 0, none⟩) 1 1) (w1 := w4.alloc (.cells #[.int .i64 0] 3)) (by rfl) rfl ?_ ?_
              · go_simp
              have hbl := (Below.refl w4.heap.size w4).alloc (Nat.le_refl _) (.cells #[.int .i64 0] 3)
              have HM := Lib.hid (HM.out.below hbl)
              have HT := Lib.hid (blk_below HT.out hbl)
              have HL1 := Lib.hid (blk_new w4 (.cells #[.int .i64 0] 3))
              refine hK.out _ _ (C7.of35 HT.out) (fun hHeld => ?_)
              clear hK K hbl
              refine norm_ (a' := ?_) ?_ ?_
              rotate_left
              · simp only [Act.put, List.setIfInBounds_toArray, List.set_cons_zero, List.set_cons_succ, i64_w, i32_w]
                rfl
              generalize w4.alloc (.cells #[.int .i64 0] 3) = wa at *
              generalize w4.heap.size = g1 at *
              refine two_ (i := 3) (j := 6) (Ni := some 87) (Nj := some 90) #[true, true, true, true, true, true, false, false, false, false] #[true, true, true, false, true, true, true, false, false, false] rfl rfl rfl rfl (by kernel_rfl) (by decide) (by decide) (fun K hK => ?_) (fun K hK => ?_)
              · skip
                refine Kd.R_append_rows_step (Kd.int .i64) (Rr := (Kd.int .i64).K wa) (w0 := wa) w3.heap.size (by rfl) (.tmp 84) (.tmp 86) 64 3 (.int .i64 0) 8 rfl Try.underlying64 info3 rfl (by decide) (by omega) u13 ss [0] (some ⟨g1, 0, none⟩) 1 1 (fun _ => True) (fun _ => False) rfl rfl HM.out.sd (C_one3 HL1.out) ?aK (fun _ hk => hk.elim) (fun _ _ => trivial) (fr_self (S := fun _ => False) (Fr.of_below HM.out.bl)) HM.out.bl.size (by have := Hlen.out; omega) ?_
                case aK => exact fun y cs h => h
                intro v1 w5 ho1 hB1 hg1 hat1
                show K (Act.put _ (some 87) v1) w5
                have HT5 := Lib.hid (blk_grown HT.out hg1 (Kd.R_ne HM.out.sd HT.out (by decide)))
                have HM5 := Lib.hid (HM.out.app1 ho1 hB1 hg1)
                refine hK.out _ _ (C7.of35 HT5.out) (fun hHeld => ?_)
                clear hK K ho1 hB1 hg1 hat1 HM HT HL1
                refine norm_ (a' := ?_) ?_ ?_
                rotate_left
                · simp only [Act.put, List.setIfInBounds_toArray, List.set_cons_zero, List.set_cons_succ, i64_w, i32_w]
                  rfl
                have HM := HM5
                have HT := HT5
                have Hlen : Hid ((ss ++ [(0 : Int)]).length ≤ 2001 ∧ ts.length ≤ 2000) := Lib.hid (by have := Hlen.out; simp; omega)
                clear HM5 HT5
                refine one_ (i := 6) (N := some 90) #[true, true, true, true, true, true, true, false, false, false] rfl rfl (by kernel_rfl) (by decide) (fun K hK => ?_)
                refine value_ (v := .slice (some ⟨w5.heap.size, 0, none⟩) 1 1) (w1 := w5.alloc (.cells (tcells r) 35)) (by rfl) rfl ?_ ?_
                · go_simp
                  rfl
                have hbl := (Below.refl w5.heap.size w5).alloc (Nat.le_refl _) (.cells (tcells r) 35)
                have HM := Lib.hid (HM.out.below hbl)
                have HT := Lib.hid (blk_below HT.out hbl)
                have HL2 := Lib.hid (blk_new w5 (.cells (tcells r) 35))
                refine hK.out _ _ (C7.of35 HT.out) (fun hHeld => ?_)
                clear hK K hbl
                refine norm_ (a' := ?_) ?_ ?_
                rotate_left
                · simp only [Act.put, List.setIfInBounds_toArray, List.set_cons_zero, List.set_cons_succ, i64_w, i32_w]
                  rfl
                generalize w5.alloc (.cells (tcells r) 35) = wb at *
                generalize w5.heap.size = g2 at *
                refine last_ (i := 7) (N := some 91) #[true, true, true, true, true, true, true, true, false, false] rfl rfl (by kernel_rfl) (by decide) (fun K hK => ?_)
                refine Kd.R_append_rows_step k35 (Rr := k35.K wb) (w0 := wb) w3.heap.size (by rfl) (.tmp 88) (.tmp 90) 26 35 (.agg #[.string ByteArray.empty, .int .i64 0, .int .i64 0, .int .i64 0, .int .i64 0, .int .i64 0, .int .i64 0]) 64 rfl Try.underlying26 info35 rfl (by decide) (by omega) u14 (ts.map p35) [p35 r] (some ⟨g2, 0, none⟩) 1 1 (fun _ => True) (fun _ => False) rfl rfl HM.out.ot (C_one35 HL2.out) ?aK (fun _ hk => hk.elim) (fun _ _ => trivial) (fr_self (S := fun _ => False) (Fr.of_below HM.out.bl)) HM.out.bl.size (by have := Hlen.out; rw [List.length_map]; simp only [List.length_append, List.length_cons, List.length_nil] at this; omega) ?_
                case aK => exact fun y cs h => by obtain rfl := k35_open h; exact k35_mkM _ _ _ y
                intro v2 w6 ho1 hB1 hg1 hat1
                show K (Act.put _ (some 91) v2) w6
                have HM6 := Lib.hid (HM.out.app2 ho1 hB1 hg1)
                have HT6 := Lib.hid (blk_grown HT.out hg1 Hne.out)
                refine hK.out _ _ ?_
                clear hK K ho1 hB1 hg1 hat1 HM HT HL2
                refine norm_ (a' := ?_) ?_ ?_
                rotate_left
                · simp only [Act.put, List.setIfInBounds_toArray, List.set_cons_zero, List.set_cons_succ, i64_w, i32_w]
                  rfl
                refine pure_ (i := 8) (N := some 13) (v := ?_) (a' := ?_) #[true, true, true, true, true, true, true, true, true, false] rfl rfl (by kernel_rfl) (fun _ _ _ h => h) (Or.inl ⟨by rfl, ?_⟩) ?_ ?_
                rotate_left
                · intro w'
                  go_simp
                  with_reducible rfl
                rotate_left
                · simp only [Act.put, List.setIfInBounds_toArray, List.set_cons_zero, List.set_cons_succ, i64_w, i32_w]
                  rfl
                refine pure_ (i := 9) (N := some 14) (v := ?_) (a' := ?_) #[true, true, true, true, true, true, true, true, true, true] rfl rfl (by kernel_rfl) (fun _ _ _ h => h) (Or.inl ⟨by rfl, ?_⟩) ?_ ?_
                rotate_left
                · intro w'
                  go_simp
                  with_reducible rfl
                rotate_left
                · simp only [Act.put, List.setIfInBounds_toArray, List.set_cons_zero, List.set_cons_succ, i64_w, i32_w]
                  rfl
                refine done_ (by kernel_rfl) ?_
                obtain ⟨y0, y1, y2, y3, y4, y5, y6⟩ := C7.of35 HT6.out
                clear y0 y1 y3 y4 y5 y6
                go_wp2_with fail
                go_roundw
                case rel => exact ⟨_, _, x, _, _, (t :: y), _, acc ++ [((0 : Int), r)], rfl, rfl, rfl, by simp at hlen ⊢; omega, Lib.hid (by rw [List.map_append, List.map_append, ← Hss.out, ← Hts.out]; exact HM6.out.took (by omega) (by omega)), HEy2⟩
                case measure => simp [lenOf] <;> omega
              · skip
                refine value_ (v := .slice (some ⟨wa.heap.size, 0, none⟩) 1 1) (w1 := wa.alloc (.cells (tcells r) 35)) (by rfl) rfl ?_ ?_
                · go_simp
                  rfl
                have hbl := (Below.refl wa.heap.size wa).alloc (Nat.le_refl _) (.cells (tcells r) 35)
                have HM := Lib.hid (HM.out.below hbl)
                have HT := Lib.hid (blk_below HT.out hbl)
                have HL2 := Lib.hid (blk_new wa (.cells (tcells r) 35))
                refine hK.out _ _ (C7.of35 HT.out) (fun hHeld => ?_)
                clear hK K hbl
                refine norm_ (a' := ?_) ?_ ?_
                rotate_left
                · simp only [Act.put, List.setIfInBounds_toArray, List.set_cons_zero, List.set_cons_succ, i64_w, i32_w]
                  rfl
                have HL1 := Lib.hid (blk_below HL1.out ((Below.refl wa.heap.size wa).alloc (Nat.le_refl _) (.cells (tcells r) 35)))
                generalize wa.alloc (.cells (tcells r) 35) = wc at *
                generalize wa.heap.size = g2 at *
                refine one_ (i := 3) (N := some 87) #[true, true, true, true, true, true, true, false, false, false] rfl rfl (by kernel_rfl) (by decide) (fun K hK => ?_)
                refine Kd.R_append_rows_step (Kd.int .i64) (Rr := (Kd.int .i64).K wc) (w0 := wc) w3.heap.size (by rfl) (.tmp 84) (.tmp 86) 64 3 (.int .i64 0) 8 rfl Try.underlying64 info3 rfl (by decide) (by omega) u13 ss [0] (some ⟨g1, 0, none⟩) 1 1 (fun _ => True) (fun _ => False) rfl rfl HM.out.sd (C_one3 HL1.out) ?aK (fun _ hk => hk.elim) (fun _ _ => trivial) (fr_self (S := fun _ => False) (Fr.of_below HM.out.bl)) HM.out.bl.size (by have := Hlen.out; omega) ?_
                case aK => exact fun y cs h => h
                intro v1 w5 ho1 hB1 hg1 hat1
                show K (Act.put _ (some 87) v1) w5
                have HT5 := Lib.hid (blk_grown HT.out hg1 (Kd.R_ne HM.out.sd HT.out (by decide)))
                have HM5 := Lib.hid (HM.out.app1 ho1 hB1 hg1)
                refine hK.out _ _ (C7.of35 HT5.out) (fun hHeld => ?_)
                have HL2 := Lib.hid (blk_grown HL2.out hg1 (Kd.R_ne HM.out.sd HL2.out (by decide)))
                clear hK K ho1 hB1 hg1 hat1 HM HT HL1
                refine norm_ (a' := ?_) ?_ ?_
                rotate_left
                · simp only [Act.put, List.setIfInBounds_toArray, List.set_cons_zero, List.set_cons_succ, i64_w, i32_w]
                  rfl
                have HM := HM5
                have HT := HT5
                have Hlen : Hid ((ss ++ [(0 : Int)]).length ≤ 2001 ∧ ts.length ≤ 2000) := Lib.hid (by have := Hlen.out; simp; omega)
                clear HM5 HT5
                refine last_ (i := 7) (N := some 91) #[true, true, true, true, true, true, true, true, false, false] rfl rfl (by kernel_rfl) (by decide) (fun K hK => ?_)
                refine Kd.R_append_rows_step k35 (Rr := k35.K w5) (w0 := w5) w3.heap.size (by rfl) (.tmp 88) (.tmp 90) 26 35 (.agg #[.string ByteArray.empty, .int .i64 0, .int .i64 0, .int .i64 0, .int .i64 0, .int .i64 0, .int .i64 0]) 64 rfl Try.underlying26 info35 rfl (by decide) (by omega) u14 (ts.map p35) [p35 r] (some ⟨g2, 0, none⟩) 1 1 (fun _ => True) (fun _ => False) rfl rfl HM.out.ot (C_one35 HL2.out) ?aK (fun _ hk => hk.elim) (fun _ _ => trivial) (fr_self (S := fun _ => False) (Fr.of_below HM.out.bl)) HM.out.bl.size (by have := Hlen.out; rw [List.length_map]; simp only [List.length_append, List.length_cons, List.length_nil] at this; omega) ?_
                case aK => exact fun y cs h => by obtain rfl := k35_open h; exact k35_mkM _ _ _ y
                intro v2 w6 ho1 hB1 hg1 hat1
                show K (Act.put _ (some 91) v2) w6
                have HM6 := Lib.hid (HM.out.app2 ho1 hB1 hg1)
                have HT6 := Lib.hid (blk_grown HT.out hg1 Hne.out)
                refine hK.out _ _ ?_
                clear hK K ho1 hB1 hg1 hat1 HM HT HL2
                refine norm_ (a' := ?_) ?_ ?_
                rotate_left
                · simp only [Act.put, List.setIfInBounds_toArray, List.set_cons_zero, List.set_cons_succ, i64_w, i32_w]
                  rfl
                refine pure_ (i := 8) (N := some 13) (v := ?_) (a' := ?_) #[true, true, true, true, true, true, true, true, true, false] rfl rfl (by kernel_rfl) (fun _ _ _ h => h) (Or.inl ⟨by rfl, ?_⟩) ?_ ?_
                rotate_left
                · intro w'
                  go_simp
                  with_reducible rfl
                rotate_left
                · simp only [Act.put, List.setIfInBounds_toArray, List.set_cons_zero, List.set_cons_succ, i64_w, i32_w]
                  rfl
                refine pure_ (i := 9) (N := some 14) (v := ?_) (a' := ?_) #[true, true, true, true, true, true, true, true, true, true] rfl rfl (by kernel_rfl) (fun _ _ _ h => h) (Or.inl ⟨by rfl, ?_⟩) ?_ ?_
                rotate_left
                · intro w'
                  go_simp
                  with_reducible rfl
                rotate_left
                · simp only [Act.put, List.setIfInBounds_toArray, List.set_cons_zero, List.set_cons_succ, i64_w, i32_w]
                  rfl
                refine done_ (by kernel_rfl) ?_
                obtain ⟨y0, y1, y2, y3, y4, y5, y6⟩ := C7.of35 HT6.out
                clear y0 y1 y3 y4 y5 y6
                go_wp2_with fail
                go_roundw
                case rel => exact ⟨_, _, x, _, _, (t :: y), _, acc ++ [((0 : Int), r)], rfl, rfl, rfl, by simp at hlen ⊢; omega, Lib.hid (by rw [List.map_append, List.map_append, ← Hss.out, ← Hts.out]; exact HM6.out.took (by omega) (by omega)), HEy2⟩
                case measure => simp [lenOf] <;> omega
            · skip
              refine value_ (v := .slice (some ⟨w4.heap.size, 0, none⟩) 1 1) (w1 := w4.alloc (.cells (tcells r) 35)) (by rfl) rfl ?_ ?_
              · go_simp
                rfl
              have hbl := (Below.refl w4.heap.size w4).alloc (Nat.le_refl _) (.cells (tcells r) 35)
              have HM := Lib.hid (HM.out.below hbl)
              have HT := Lib.hid (blk_below HT.out hbl)
              have HL2 := Lib.hid (blk_new w4 (.cells (tcells r) 35))
              refine hK.out _ _ (C7.of35 HT.out) (fun hHeld => ?_)
              clear hK K hbl
              refine norm_ (a' := ?_) ?_ ?_
              rotate_left
              · simp only [Act.put, List.setIfInBounds_toArray, List.set_cons_zero, List.set_cons_succ, i64_w, i32_w]
                rfl
              generalize w4.alloc (.cells (tcells r) 35) = wa at *
              generalize w4.heap.size = g2 at *
              refine one_ (i := 2) (N := some 86) #[true, true, true, false, true, true, true, false, false, false] rfl rfl (by kernel_rfl) (by decide) (fun K hK => ?_)
              refine value_ (v := .slice (some ⟨wa.heap.size, 0, none⟩) 1 1) (w1 := wa.alloc (.cells #[.int .i64 0] 3)) (by rfl) rfl ?_ ?_
              · go_simp
              have hbl := (Below.refl wa.heap.size wa).alloc (Nat.le_refl _) (.cells #[.int .i64 0] 3)
              have HM := Lib.hid (HM.out.below hbl)
              have HT := Lib.hid (blk_below HT.out hbl)
              have HL1 := Lib.hid (blk_new wa (.cells #[.int .i64 0] 3))
              refine hK.out _ _ (C7.of35 HT.out) (fun hHeld => ?_)
              clear hK K hbl
              refine norm_ (a' := ?_) ?_ ?_
              rotate_left
              · simp only [Act.put, List.setIfInBounds_toArray, List.set_cons_zero, List.set_cons_succ, i64_w, i32_w]
                rfl
              have HL2 := Lib.hid (blk_below HL2.out ((Below.refl wa.heap.size wa).alloc (Nat.le_refl _) (.cells #[.int .i64 0] 3)))
              generalize wa.alloc (.cells #[.int .i64 0] 3) = wc at *
              generalize wa.heap.size = g1 at *
              refine one_ (i := 3) (N := some 87) #[true, true, true, true, true, true, true, false, false, false] rfl rfl (by kernel_rfl) (by decide) (fun K hK => ?_)
              refine Kd.R_append_rows_step (Kd.int .i64) (Rr := (Kd.int .i64).K wc) (w0 := wc) w3.heap.size (by rfl) (.tmp 84) (.tmp 86) 64 3 (.int .i64 0) 8 rfl Try.underlying64 info3 rfl (by decide) (by omega) u13 ss [0] (some ⟨g1, 0, none⟩) 1 1 (fun _ => True) (fun _ => False) rfl rfl HM.out.sd (C_one3 HL1.out) ?aK (fun _ hk => hk.elim) (fun _ _ => trivial) (fr_self (S := fun _ => False) (Fr.of_below HM.out.bl)) HM.out.bl.size (by have := Hlen.out; omega) ?_
              case aK => exact fun y cs h => h
              intro v1 w5 ho1 hB1 hg1 hat1
              show K (Act.put _ (some 87) v1) w5
              have HT5 := Lib.hid (blk_grown HT.out hg1 (Kd.R_ne HM.out.sd HT.out (by decide)))
              have HM5 := Lib.hid (HM.out.app1 ho1 hB1 hg1)
              refine hK.out _ _ (C7.of35 HT5.out) (fun hHeld => ?_)
              have HL2 := Lib.hid (blk_grown HL2.out hg1 (Kd.R_ne HM.out.sd HL2.out (by decide)))
              clear hK K ho1 hB1 hg1 hat1 HM HT HL1
              refine norm_ (a' := ?_) ?_ ?_
              rotate_left
              · simp only [Act.put, List.setIfInBounds_toArray, List.set_cons_zero, List.set_cons_succ, i64_w, i32_w]
                rfl
              have HM := HM5
              have HT := HT5
              have Hlen : Hid ((ss ++ [(0 : Int)]).length ≤ 2001 ∧ ts.length ≤ 2000) := Lib.hid (by have := Hlen.out; simp; omega)
              clear HM5 HT5
              refine last_ (i := 7) (N := some 91) #[true, true, true, true, true, true, true, true, false, false] rfl rfl (by kernel_rfl) (by decide) (fun K hK => ?_)
              refine Kd.R_append_rows_step k35 (Rr := k35.K w5) (w0 := w5) w3.heap.size (by rfl) (.tmp 88) (.tmp 90) 26 35 (.agg #[.string ByteArray.empty, .int .i64 0, .int .i64 0, .int .i64 0, .int .i64 0, .int .i64 0, .int .i64 0]) 64 rfl Try.underlying26 info35 rfl (by decide) (by omega) u14 (ts.map p35) [p35 r] (some ⟨g2, 0, none⟩) 1 1 (fun _ => True) (fun _ => False) rfl rfl HM.out.ot (C_one35 HL2.out) ?aK (fun _ hk => hk.elim) (fun _ _ => trivial) (fr_self (S := fun _ => False) (Fr.of_below HM.out.bl)) HM.out.bl.size (by have := Hlen.out; rw [List.length_map]; simp only [List.length_append, List.length_cons, List.length_nil] at this; omega) ?_
              case aK => exact fun y cs h => by obtain rfl := k35_open h; exact k35_mkM _ _ _ y
              intro v2 w6 ho1 hB1 hg1 hat1
              show K (Act.put _ (some 91) v2) w6
              have HM6 := Lib.hid (HM.out.app2 ho1 hB1 hg1)
              have HT6 := Lib.hid (blk_grown HT.out hg1 Hne.out)
              refine hK.out _ _ ?_
              clear hK K ho1 hB1 hg1 hat1 HM HT HL2
              refine norm_ (a' := ?_) ?_ ?_
              rotate_left
              · simp only [Act.put, List.setIfInBounds_toArray, List.set_cons_zero, List.set_cons_succ, i64_w, i32_w]
                rfl
              refine pure_ (i := 8) (N := some 13) (v := ?_) (a' := ?_) #[true, true, true, true, true, true, true, true, true, false] rfl rfl (by kernel_rfl) (fun _ _ _ h => h) (Or.inl ⟨by rfl, ?_⟩) ?_ ?_
              rotate_left
              · intro w'
                go_simp
                with_reducible rfl
              rotate_left
              · simp only [Act.put, List.setIfInBounds_toArray, List.set_cons_zero, List.set_cons_succ, i64_w, i32_w]
                rfl
              refine pure_ (i := 9) (N := some 14) (v := ?_) (a' := ?_) #[true, true, true, true, true, true, true, true, true, true] rfl rfl (by kernel_rfl) (fun _ _ _ h => h) (Or.inl ⟨by rfl, ?_⟩) ?_ ?_
              rotate_left
              · intro w'
                go_simp
                with_reducible rfl
              rotate_left
              · simp only [Act.put, List.setIfInBounds_toArray, List.set_cons_zero, List.set_cons_succ, i64_w, i32_w]
                rfl
              refine done_ (by kernel_rfl) ?_
              obtain ⟨y0, y1, y2, y3, y4, y5, y6⟩ := C7.of35 HT6.out
              clear y0 y1 y3 y4 y5 y6
              go_wp2_with fail
              go_roundw
              case rel => exact ⟨_, _, x, _, _, (t :: y), _, acc ++ [((0 : Int), r)], rfl, rfl, rfl, by simp at hlen ⊢; omega, Lib.hid (by rw [List.map_append, List.map_append, ← Hss.out, ← Hts.out]; exact HM6.out.took (by omega) (by omega)), HEy2⟩
              case measure => simp [lenOf] <;> omega
          · have HEn2 := Lib.hid (HEn.out htk)
            clear HEn HEy
            have dtk : decide (r.f1 ≤ left) = false := decide_eq_false htk
            clear htk
            go_wp2_with fail
            go_roundw
            case rel => exact ⟨_, _, x, _, _, (t :: y), _, acc, rfl, rfl, rfl, by simp at hlen ⊢; omega, HMs, HEn2⟩
            case measure => simp [lenOf] <;> omega
        · have hd : decide (cmpT t r < 0) = true := decide_eq_true (by omega)
          have hpk : Hid (pick (r :: x) (t :: y) = some (1, t, r :: x, y)) := Lib.hid (by simp only [pick]; rw [if_neg hle])
          clear hle han
          have q1 : (((x.length : Int) + 1) == 0) = false := beq_eq_false_iff_ne.2 (by omega)
          have q2 : decide (0 < (y.length : Int) + 1) = true := decide_eq_true (by omega)
          have q3 : decide (0 < (x.length : Int) + 1) = true := decide_eq_true (by omega)
          go_wp2_with fail
          have HMz := Lib.hid (HMr.out.below (below_drew (Below.refl wr.heap.size wr)))
          clear HMr
          refine start_ (n := 18) (S := fun W => CA W ady t ∧ CA W adx r) (ds := []) #[false, false, false, false, false, false, false, false, false, false, false, false, false, false, false, false, false, false] (by kernel_rfl) rfl rfl ⟨HHy.out _ HMz.out.bl, HHx.out _ HMz.out.bl⟩ (fun hHeld => ?_)
          generalize wr.drew = wz at *
          refine pure_ (i := 0) (N := some 49) (v := ?_) (a' := ?_) #[true, false, false, false, false, false, false, false, false, false, false, false, false, false, false, false, false, false] rfl rfl (by kernel_rfl) (fun _ _ _ h => h) (Or.inl ⟨by rfl, ?_⟩) ?_ ?_
          rotate_left
          · intro w'
            go_simp
            with_reducible rfl
          rotate_left
          · simp only [Act.put, List.setIfInBounds_toArray, List.set_cons_zero, List.set_cons_succ, i64_w, i32_w]
            rfl
          refine pure_ (i := 1) (N := some 50) (v := ?_) (a' := ?_) #[true, true, false, false, false, false, false, false, false, false, false, false, false, false, false, false, false, false] rfl rfl (by kernel_rfl) (fun _ _ _ h => h) (Or.inl ⟨by rfl, ?_⟩) ?_ ?_
          rotate_left
          · intro w'
            go_simp
            with_reducible rfl
          rotate_left
          · simp only [Act.put, List.setIfInBounds_toArray, List.set_cons_zero, List.set_cons_succ, i64_w, i32_w]
            rfl
          refine pure_ (i := 2) (N := some 51) (v := ?_) (a' := ?_) #[true, true, true, false, false, false, false, false, false, false, false, false, false, false, false, false, false, false] rfl rfl (by kernel_rfl) (fun _ _ _ h => h) (Or.inl ⟨by rfl, ?_⟩) ?_ ?_
          rotate_left
          · intro w'
            go_simp
            with_reducible rfl
          rotate_left
          · simp only [Act.put, List.setIfInBounds_toArray, List.set_cons_zero, List.set_cons_succ, i64_w, i32_w]
            rfl
          refine pure_ (i := 3) (N := some 52) (v := ?_) (a' := ?_) #[true, true, true, true, false, false, false, false, false, false, false, false, false, false, false, false, false, false] rfl rfl (by kernel_rfl) (fun _ _ _ h => h) (Or.inl ⟨by rfl, ?_⟩) ?_ ?_
          rotate_left
          · intro w'
            go_simp
            with_reducible rfl
          rotate_left
          · simp only [Act.put, List.setIfInBounds_toArray, List.set_cons_zero, List.set_cons_succ, i64_w, i32_w]
            rfl
          refine pure_ (i := 4) (N := some 53) (v := ?_) (a' := ?_) #[true, true, true, true, true, false, false, false, false, false, false, false, false, false, false, false, false, false] rfl rfl (by kernel_rfl) (fun _ _ _ h => h) (Or.inl ⟨by rfl, ?_⟩) ?_ ?_
          rotate_left
          · intro w'
            go_simp
            with_reducible rfl
          rotate_left
          · simp only [Act.put, List.setIfInBounds_toArray, List.set_cons_zero, List.set_cons_succ, i64_w, i32_w]
            rfl
          refine pure_ (i := 5) (N := some 54) (v := ?_) (a' := ?_) #[true, true, true, true, true, true, false, false, false, false, false, false, false, false, false, false, false, false] rfl rfl (by kernel_rfl) (fun _ _ _ h => h) (Or.inl ⟨by rfl, ?_⟩) ?_ ?_
          rotate_left
          · intro w'
            go_simp
            with_reducible rfl
          rotate_left
          · simp only [Act.put, List.setIfInBounds_toArray, List.set_cons_zero, List.set_cons_succ, i64_w, i32_w]
            rfl
          refine pure_ (i := 6) (N := some 55) (v := ?_) (a' := ?_) #[true, true, true, true, true, true, true, false, false, false, false, false, false, false, false, false, false, false] rfl rfl (by kernel_rfl) (fun _ _ _ h => h) (Or.inl ⟨by rfl, ?_⟩) ?_ ?_
          rotate_left
          · intro w'
            go_simp
            with_reducible rfl
          rotate_left
          · simp only [Act.put, List.setIfInBounds_toArray, List.set_cons_zero, List.set_cons_succ, i64_w, i32_w]
            rfl
          refine pure_ (i := 7) (N := some 56) (v := ?_) (a' := ?_) #[true, true, true, true, true, true, true, true, false, false, false, false, false, false, false, false, false, false] rfl rfl (by kernel_rfl) (fun _ _ _ h => h) (Or.inl ⟨by rfl, ?_⟩) ?_ ?_
          rotate_left
          · intro w'
            go_simp
            with_reducible rfl
          rotate_left
          · simp only [Act.put, List.setIfInBounds_toArray, List.set_cons_zero, List.set_cons_succ, i64_w, i32_w]
            rfl
          refine pure_ (i := 8) (N := some 57) (v := ?_) (a' := ?_) #[true, true, true, true, true, true, true, true, true, false, false, false, false, false, false, false, false, false] rfl rfl (by kernel_rfl) (fun _ _ _ h => h) (Or.inl ⟨by rfl, ?_⟩) ?_ ?_
          rotate_left
          · intro w'
            go_simp
            with_reducible rfl
          rotate_left
          · simp only [Act.put, List.setIfInBounds_toArray, List.set_cons_zero, List.set_cons_succ, i64_w, i32_w]
            rfl
          refine pure_ (i := 9) (N := some 58) (v := ?_) (a' := ?_) #[true, true, true, true, true, true, true, true, true, true, false, false, false, false, false, false, false, false] rfl rfl (by kernel_rfl) (fun _ _ _ h => h) (Or.inl ⟨by rfl, ?_⟩) ?_ ?_
          rotate_left
          · intro w'
            go_simp
            with_reducible rfl
          rotate_left
          · simp only [Act.put, List.setIfInBounds_toArray, List.set_cons_zero, List.set_cons_succ, i64_w, i32_w]
            rfl
          refine take_ (i := 10) (N := some 59) (v := ?_) (a' := ?_) #[true, true, true, true, true, true, true, true, true, true, true, false, false, false, false, false, false, false] rfl rfl (by kernel_rfl) (fun _ _ _ h => h) (Or.inl ⟨by rfl, ?_⟩) hHeld ?_ ?_
          rotate_left
          · rintro w' ⟨⟨s0, s1, s2, s3, s4, s5, s6⟩, ⟨t0, t1, t2, t3, t4, t5, t6⟩⟩
            go_simp
            with_reducible rfl
          rotate_left
          · simp only [Act.put, List.setIfInBounds_toArray, List.set_cons_zero, List.set_cons_succ, i64_w, i32_w]
            rfl
          refine pure_ (i := 11) (N := some 60) (v := ?_) (a' := ?_) #[true, true, true, true, true, true, true, true, true, true, true, true, false, false, false, false, false, false] rfl rfl (by kernel_rfl) (fun _ _ _ h => h) (Or.inl ⟨by rfl, ?_⟩) ?_ ?_
          rotate_left
          · intro w'
            go_simp
            with_reducible rfl
          rotate_left
          · simp only [Act.put, List.setIfInBounds_toArray, List.set_cons_zero, List.set_cons_succ, i64_w, i32_w]
            rfl
          refine pure_ (i := 12) (N := some 61) (v := ?_) (a' := ?_) #[true, true, true, true, true, true, true, true, true, true, true, true, true, false, false, false, false, false] rfl rfl (by kernel_rfl) (fun _ _ _ h => h) (Or.inl ⟨by rfl, ?_⟩) ?_ ?_
          rotate_left
          · intro w'
            go_simp
            with_reducible rfl
          rotate_left
          · simp only [Act.put, List.setIfInBounds_toArray, List.set_cons_zero, List.set_cons_succ, i64_w, i32_w]
            rfl
          refine take_ (i := 13) (N := some 62) (v := ?_) (a' := ?_) #[true, true, true, true, true, true, true, true, true, true, true, true, true, true, false, false, false, false] rfl rfl (by kernel_rfl) (fun _ _ _ h => h) (Or.inl ⟨by rfl, ?_⟩) hHeld ?_ ?_
          rotate_left
          · rintro w' ⟨⟨s0, s1, s2, s3, s4, s5, s6⟩, ⟨t0, t1, t2, t3, t4, t5, t6⟩⟩
            go_simp
            with_reducible rfl
          rotate_left
          · simp only [Act.put, List.setIfInBounds_toArray, List.set_cons_zero, List.set_cons_succ, i64_w, i32_w]
            rfl
          refine one_ (i := 14) (N := some 63) #[true, true, true, true, true, true, true, true, true, true, true, true, true, true, true, false, false, false] rfl rfl (by kernel_rfl) (by decide) (fun K hK => ?_)
          refine goes_ Try.func25 (by kernel_rfl) rfl #[.agg (tcells t), .agg (tcells r)] (by rfl) rfl rfl (by (try simp only [List.map_toArray, List.map_cons, List.map_nil]); first | done | rfl) ?_
          refine (refcmp_c' t r _).mono ?_
          rintro e wp ⟨rfl, hb⟩
          have HMp := Lib.hid (HMz.out.below hb)
          refine ⟨_, rfl, hK.out _ _ ⟨HHy.out _ HMp.out.bl, HHx.out _ HMp.out.bl⟩ (fun hHeld => ?_)⟩
          clear hK K hb HMz
          refine norm_ (a' := ?_) ?_ ?_
          rotate_left
          · simp only [Act.put, List.setIfInBounds_toArray, List.set_cons_zero, List.set_cons_succ, i64_w, i32_w]
            rfl
          refine pure_ (i := 15) (N := some 64) (v := ?_) (a' := ?_) #[true, true, true, true, true, true, true, true, true, true, true, true, true, true, true, true, false, false] rfl rfl (by kernel_rfl) (fun _ _ _ h => h) (Or.inl ⟨by rfl, ?_⟩) ?_ ?_
          rotate_left
          · intro w'
            go_simp
            with_reducible rfl
          rotate_left
          · simp only [Act.put, List.setIfInBounds_toArray, List.set_cons_zero, List.set_cons_succ, i64_w, i32_w]
            rfl
          refine pure_ (i := 16) (N := some 65) (v := ?_) (a' := ?_) #[true, true, true, true, true, true, true, true, true, true, true, true, true, true, true, true, true, false] rfl rfl (by kernel_rfl) (fun _ _ _ h => h) (Or.inl ⟨by rfl, ?_⟩) ?_ ?_
          rotate_left
          · intro w'
            go_simp
            with_reducible rfl
          rotate_left
          · simp only [Act.put, List.setIfInBounds_toArray, List.set_cons_zero, List.set_cons_succ, i64_w, i32_w]
            rfl
          refine pure_ (i := 17) (N := some 66) (v := ?_) (a' := ?_) #[true, true, true, true, true, true, true, true, true, true, true, true, true, true, true, true, true, true] rfl rfl (by kernel_rfl) (fun _ _ _ h => h) (Or.inl ⟨by rfl, ?_⟩) ?_ ?_
          rotate_left
          · intro w'
            go_simp
            with_reducible rfl
          rotate_left
          · simp only [Act.put, List.setIfInBounds_toArray, List.set_cons_zero, List.set_cons_succ, i64_w, i32_w]
            rfl
          refine done_ (by kernel_rfl) ?_
          clear hHeld
          have HHd := HHy
          clear HHx HHy
          clear hd
          have HVt := HVy
          have Hgt : Hid (w3.heap.size ≤ wp.heap.size) := Lib.hid HMp.out.bl.size
          have hbq := (Below.refl wp.heap.size wp).alloc (Nat.le_refl _) (.cells #[.string ⟨#[]⟩, .int .i64 0, .int .i64 0, .int .i64 0, .int .i64 0, .int .i64 0, .int .i64 0] 35)
          have HT := Lib.hid (blk_new wp (.cells #[.string ⟨#[]⟩, .int .i64 0, .int .i64 0, .int .i64 0, .int .i64 0, .int .i64 0, .int .i64 0] 35))
          have HMq := Lib.hid (HMp.out.below hbq)
          have HHq : Hid (∀ W, Below (wp.alloc (.cells #[.string ⟨#[]⟩, .int .i64 0, .int .i64 0, .int .i64 0, .int .i64 0, .int .i64 0, .int .i64 0] 35)).heap.size (wp.alloc (.cells #[.string ⟨#[]⟩, .int .i64 0, .int .i64 0, .int .i64 0, .int .i64 0, .int .i64 0, .int .i64 0] 35)) W → CA W ady t) := Lib.hid (fun W hW => HHd.out W (HMp.out.bl.trans ((hbq.trans (hW.mono hbq.size)).mono HMp.out.bl.size)))
          have Hne : Hid (some wp.heap.size ≠ u14.ownBlock) := Lib.hid (fun e => by have := Kd.R_lt HMp.out.ot _ e.symm; omega)
          clear HMp HHd hbq
          go_wp2_with fail
          generalize wp.alloc (.cells #[.string ⟨#[]⟩, .int .i64 0, .int .i64 0, .int .i64 0, .int .i64 0, .int .i64 0, .int .i64 0] 35) = wq at *
          generalize wp.heap.size = gt at *
          have hsl : ∀ w, (Instr.slice 26 (.slice (some ady) (y.length + 1) cy) (some (.int .i64 1)) none none).run Try.prog w = .ok (.slice (tl ady cy) y.length (cy - 1)) w := run_tail26 ady y.length cy hcy
          refine start_ (n := 7) (S := fun W => CA W ady t) (ds := [5]) #[false, false, false, false, false, false, false] (by kernel_rfl) rfl rfl (HHq.out _ (below_drew (Below.refl _ _))) (fun hHeld => ?_)
          have HMd := Lib.hid (HMq.out.below (below_drew (Below.refl _ _)))
          have HTd : Hid (wq.drew.heap[gt]? = _) := Lib.hid HT.out
          clear HMq HHq HT
          generalize wq.drew = wd at *
          refine pure_ (i := 0) (N := some 75) (v := ?_) (a' := ?_) #[true, false, false, false, false, false, false] rfl rfl (by kernel_rfl) (fun _ _ _ h => h) (Or.inl ⟨by rfl, ?_⟩) ?_ ?_
          rotate_left
          · intro w'
            go_simp
            with_reducible rfl
          rotate_left
          · simp only [Act.put, List.setIfInBounds_toArray, List.set_cons_zero, List.set_cons_succ, i64_w, i32_w]
            rfl
          refine pure_ (i := 1) (N := some 76) (v := ?_) (a' := ?_) #[true, true, false, false, false, false, false] rfl rfl (by kernel_rfl) (fun _ _ _ h => h) (Or.inl ⟨by rfl, ?_⟩) ?_ ?_
          rotate_left
          · intro w'
            go_simp
            with_reducible rfl
          rotate_left
          · simp only [Act.put, List.setIfInBounds_toArray, List.set_cons_zero, List.set_cons_succ, i64_w, i32_w]
            rfl
          refine take_ (i := 2) (N := some 77) (v := ?_) (a' := ?_) #[true, true, true, false, false, false, false] rfl rfl (by kernel_rfl) (fun _ _ _ h => h) (Or.inl ⟨by rfl, ?_⟩) hHeld ?_ ?_
          rotate_left
          · rintro w' ⟨s0, s1, s2, s3, s4, s5, s6⟩
            go_simp
            with_reducible rfl
          rotate_left
          · simp only [Act.put, List.setIfInBounds_toArray, List.set_cons_zero, List.set_cons_succ, i64_w, i32_w]
            rfl
          refine pure_ (i := 3) (N := some 78) (v := ?_) (a' := ?_) #[true, true, true, true, false, false, false] rfl rfl (by kernel_rfl) (fun _ _ _ h => h) (Or.inl ⟨by rfl, ?_⟩) ?_ ?_
          rotate_left
          · intro w'
            go_simp
            with_reducible rfl
          rotate_left
          · simp only [Act.put, List.setIfInBounds_toArray, List.set_cons_zero, List.set_cons_succ, i64_w, i32_w]
            rfl
          refine pure_ (i := 4) (N := some 79) (v := ?_) (a' := ?_) #[true, true, true, true, true, false, false] rfl rfl (by kernel_rfl) (fun _ _ _ h => h) (Or.inl ⟨by rfl, ?_⟩) ?_ ?_
          rotate_left
          · intro w'
            go_simp
            with_reducible rfl
          rotate_left
          · simp only [Act.put, List.setIfInBounds_toArray, List.set_cons_zero, List.set_cons_succ, i64_w, i32_w]
            rfl
          clear hsl
          have hf0 : wd.frozen? ⟨gt, 0, none⟩ = false := blk_frozen HTd.out 0
          have hf1 : wd.frozen? ⟨gt, 1, none⟩ = false := blk_frozen HTd.out 1
          have hf2 : wd.frozen? ⟨gt, 2, none⟩ = false := blk_frozen HTd.out 2
          have hf3 : wd.frozen? ⟨gt, 3, none⟩ = false := blk_frozen HTd.out 3
          have hf4 : wd.frozen? ⟨gt, 4, none⟩ = false := blk_frozen HTd.out 4
          have hf5 : wd.frozen? ⟨gt, 5, none⟩ = false := blk_frozen HTd.out 5
          have hf6 : wd.frozen? ⟨gt, 6, none⟩ = false := blk_frozen HTd.out 6
          have hz0 : wd.cell? ⟨gt, 0, none⟩ = some (.string ⟨#[]⟩) := (blk_cell HTd.out 0).trans rfl
          have hz1 : wd.cell? ⟨gt, 1, none⟩ = some (.int .i64 0) := (blk_cell HTd.out 1).trans rfl
          have hz2 : wd.cell? ⟨gt, 2, none⟩ = some (.int .i64 0) := (blk_cell HTd.out 2).trans rfl
          have hz3 : wd.cell? ⟨gt, 3, none⟩ = some (.int .i64 0) := (blk_cell HTd.out 3).trans rfl
          have hz4 : wd.cell? ⟨gt, 4, none⟩ = some (.int .i64 0) := (blk_cell HTd.out 4).trans rfl
          have hz5 : wd.cell? ⟨gt, 5, none⟩ = some (.int .i64 0) := (blk_cell HTd.out 5).trans rfl
          have hz6 : wd.cell? ⟨gt, 6, none⟩ = some (.int .i64 0) := (blk_cell HTd.out 6).trans rfl
          clear hHeld
          refine last_ (i := 5) (N := none) #[true, true, true, true, true, true, false] rfl rfl (by kernel_rfl) (by decide) (fun K hK => ?_)
          refine skip_ (w1 := wd.setCells gt 0 (tcs t)) (by rfl) rfl ?_ ?_
          · unfold tcs
            go_simp
            rfl
          refine hK.out _ _ ?_
          clear hK K
          refine pure_ (i := 6) (N := some 11) (v := ?_) (a' := ?_) #[true, true, true, true, true, true, true] rfl rfl (by kernel_rfl) (fun _ _ _ h => h) (Or.inl ⟨by rfl, ?_⟩) ?_ ?_
          rotate_left
          · intro w'
            go_simp
            with_reducible rfl
          rotate_left
          · simp only [Act.put, List.setIfInBounds_toArray, List.set_cons_zero, List.set_cons_succ, i64_w, i32_w]
            rfl
          refine done_ (by kernel_rfl) ?_
          have HMs := Lib.hid (HMd.out.taily.store Hgt.out HTd.out Hne.out 0 (tcs t))
          have HEy : Hid (t.f1 ≤ left → (acc ++ [((1 : Int), t)]) ++ mt ((r :: x).length + y.length) (r :: x) y (left - t.f1) = res a b budget) := Lib.hid (fun h => by
            have e := HEr.out
            rw [show (r :: x).length + (t :: y).length = ((r :: x).length + y.length) + 1 from by simp only [List.length_cons]; omega, mt_yes hpk.out h] at e
            rw [← e, List.append_assoc]; rfl)
          have HEn : Hid (¬ t.f1 ≤ left → acc ++ mt ((r :: x).length + y.length) (r :: x) y left = res a b budget) := Lib.hid (fun h => by
            have e := HEr.out
            rw [show (r :: x).length + (t :: y).length = ((r :: x).length + y.length) + 1 from by simp only [List.length_cons]; omega, mt_no hpk.out h] at e
            exact e)
          have hcut : True := trivial
          clear HEr hpk
          have HTs : Hid ((wd.setCells gt 0 (tcs t)).heap[gt]? = _) := Lib.hid (blk_tcs35 HTd.out t)
          have hfoot := C7.of35 HTs.out
          obtain ⟨hz0, hz1, hz2, hz3, hz4, hz5, hz6⟩ := hfoot
          clear hf0 hf1 hf2 hf3 hf4 hf5 hf6 HTd HMd hcut
          generalize wd.setCells gt 0 (tcs t) = ws at *
          have hlt0 := HVt.out.s0
          have hl0 := HMs.out.l0
          have hl1 := HMs.out.l1
          by_cases htk : t.f1 ≤ left
          · have HEy2 := Lib.hid (HEy.out htk)
            clear HEy HEn
            have dtk : decide (t.f1 ≤ left) = true := decide_eq_true htk
            obtain ⟨ss, hss⟩ : ∃ ss, ss = acc.map (·.1) := ⟨_, rfl⟩
            obtain ⟨ts, hts⟩ : ∃ ts, ts = acc.map (·.2) := ⟨_, rfl⟩
            have Hlen : Hid (ss.length ≤ 2000 ∧ ts.length ≤ 2000) := Lib.hid (by rw [hss, hts, List.length_map, List.length_map]; omega)
            rw [← hss, ← hts] at HMs
            have Hss := Lib.hid hss
            have Hts := Lib.hid hts
            clear hss hts
            go_wp2_with fail
            clear hz0 hz1 hz2 hz3 hz4 hz5 hz6
            have HM := Lib.hid (HMs.out.below (below_drew (Below.refl _ _)))
            have HT : Hid (ws.drew.heap[gt]? = _) := Lib.hid HTs.out
            clear HMs HTs
            refine start_ (n := 10) (S := fun W => C7 W gt t) (ds := [7]) #[false, false, false, false, false, false, false, false, false, false] (by kernel_rfl) rfl rfl (C7.of35 HT.out) (fun hHeld => ?_)
            generalize ws.drew = w4 at *
            refine pure_ (i := 0) (N := some 84) (v := ?_) (a' := ?_) #[true, false, false, false, false, false, false, false, false, false] rfl rfl (by kernel_rfl) (fun _ _ _ h => h) (Or.inl ⟨by rfl, ?_⟩) ?_ ?_
            rotate_left
            · intro w'
              go_simp
              with_reducible rfl
            rotate_left
            · simp only [Act.put, List.setIfInBounds_toArray, List.set_cons_zero, List.set_cons_succ, i64_w, i32_w]
              rfl
            refine pure_ (i := 1) (N := some 85) (v := ?_) (a' := ?_) #[true, true, false, false, false, false, false, false, false, false] rfl rfl (by kernel_rfl) (fun _ _ _ h => h) (Or.inl ⟨by rfl, ?_⟩) ?_ ?_
            rotate_left
            · intro w'
              go_simp
              with_reducible rfl
            rotate_left
            · simp only [Act.put, List.setIfInBounds_toArray, List.set_cons_zero, List.set_cons_succ, i64_w, i32_w]
              rfl
            refine pure_ (i := 4) (N := some 88) (v := ?_) (a' := ?_) #[true, true, false, false, true, false, false, false, false, false] rfl rfl (by kernel_rfl) (fun _ _ _ h => h) (Or.inl ⟨by rfl, ?_⟩) ?_ ?_
            rotate_left
            · intro w'
              go_simp
              with_reducible rfl
            rotate_left
            · simp only [Act.put, List.setIfInBounds_toArray, List.set_cons_zero, List.set_cons_succ, i64_w, i32_w]
              rfl
            refine take_ (i := 5) (N := some 89) (v := ?_) (a' := ?_) #[true, true, false, false, true, true, false, false, false, false] rfl rfl (by kernel_rfl) (fun _ _ _ h => h) (Or.inl ⟨by rfl, ?_⟩) hHeld ?_ ?_
            rotate_left
            · rintro w' ⟨s0, s1, s2, s3, s4, s5, s6⟩
              go_simp
              with_reducible rfl
            rotate_left
            · simp only [Act.put, List.setIfInBounds_toArray, List.set_cons_zero, List.set_cons_succ, i64_w, i32_w]
              rfl
            refine two_ (i := 2) (j := 6) (Ni := some 86) (Nj := some 90) #[true, true, true, false, true, true, false, false, false, false] #[true, true, false, false, true, true, true, false, false, false] rfl rfl rfl rfl (by kernel_rfl) (by decide) (by decide) (fun K hK => ?_) (fun K hK => ?_)
            · skip
              refine value_ (v := .slice (some ⟨w4.heap.size, 0, none⟩) 1 1) (w1 := w4.alloc (.cells #[.int .i64 1] 3)) (by rfl) rfl ?_ ?_
              · go_simp
              have hbl := (Below.refl w4.heap.size w4).alloc (Nat.le_refl _) (.cells #[.int .i64 1] 3)
              have HM := Lib.hid (HM.out.below hbl)
              have HT := Lib.hid (blk_below HT.out hbl)
              have HL1 := Lib.hid (blk_new w4 (.cells #[.int .i64 1] 3))
              refine hK.out _ _ (C7.of35 HT.out) (fun hHeld => ?_)
              clear hK K hbl
              refine norm_ (a' := ?_) ?_ ?_
              rotate_left
              · simp only [Act.put, List.setIfInBounds_toArray, List.set_cons_zero, List.set_cons_succ, i64_w, i32_w]
                rfl
              generalize w4.alloc (.cells #[.int .i64 1] 3) = wa at *
              generalize w4.heap.size = g1 at *
              refine two_ (i := 3) (j := 6) (Ni := some 87) (Nj := some 90) #[true, true, true, true, true, true, false, false, false, false] #[true, true, true, false, true, true, true, false, false, false] rfl rfl rfl rfl (by kernel_rfl) (by decide) (by decide) (fun K hK => ?_) (fun K hK => ?_)
              · skip
                refine Kd.R_append_rows_step (Kd.int .i64) (Rr := (Kd.int .i64).K wa) (w0 := wa) w3.heap.size (by rfl) (.tmp 84) (.tmp 86) 64 3 (.int .i64 0) 8 rfl Try.underlying64 info3 rfl (by decide) (by omega) u13 ss [1] (some ⟨g1, 0, none⟩) 1 1 (fun _ => True) (fun _ => False) rfl rfl HM.out.sd (C_one3 HL1.out) ?aK (fun _ hk => hk.elim) (fun _ _ => trivial) (fr_self (S := fun _ => False) (Fr.of_below HM.out.bl)) HM.out.bl.size (by have := Hlen.out; omega) ?_
                case aK => exact fun y cs h => h
                intro v1 w5 ho1 hB1 hg1 hat1
                show K (Act.put _ (some 87) v1) w5
                have HT5 := Lib.hid (blk_grown HT.out hg1 (Kd.R_ne HM.out.sd HT.out (by decide)))
                have HM5 := Lib.hid (HM.out.app1 ho1 hB1 hg1)
                refine hK.out _ _ (C7.of35 HT5.out) (fun hHeld => ?_)
                clear hK K ho1 hB1 hg1 hat1 HM HT HL1
                refine norm_ (a' := ?_) ?_ ?_
                rotate_left
                · simp only [Act.put, List.setIfInBounds_toArray, List.set_cons_zero, List.set_cons_succ, i64_w, i32_w]
                  rfl
                have HM := HM5
                have HT := HT5
                have Hlen : Hid ((ss ++ [(1 : Int)]).length ≤ 2001 ∧ ts.length ≤ 2000) := Lib.hid (by have := Hlen.out; simp; omega)
                clear HM5 HT5
                refine one_ (i := 6) (N := some 90) #[true, true, true, true, true, true, true, false, false, false] rfl rfl (by kernel_rfl) (by decide) (fun K hK => ?_)
                refine value_ (v := .slice (some ⟨w5.heap.size, 0, none⟩) 1 1) (w1 := w5.alloc (.cells (tcells t) 35)) (by rfl) rfl ?_ ?_
                · go_simp
                  rfl
                have hbl := (Below.refl w5.heap.size w5).alloc (Nat.le_refl _) (.cells (tcells t) 35)
                have HM := Lib.hid (HM.out.below hbl)
                have HT := Lib.hid (blk_below HT.out hbl)
                have HL2 := Lib.hid (blk_new w5 (.cells (tcells t) 35))
                refine hK.out _ _ (C7.of35 HT.out) (fun hHeld => ?_)
                clear hK K hbl
                refine norm_ (a' := ?_) ?_ ?_
                rotate_left
                · simp only [Act.put, List.setIfInBounds_toArray, List.set_cons_zero, List.set_cons_succ, i64_w, i32_w]
                  rfl
                generalize w5.alloc (.cells (tcells t) 35) = wb at *
                generalize w5.heap.size = g2 at *
                refine last_ (i := 7) (N := some 91) #[true, true, true, true, true, true, true, true, false, false] rfl rfl (by kernel_rfl) (by decide) (fun K hK => ?_)
                refine Kd.R_append_rows_step k35 (Rr := k35.K wb) (w0 := wb) w3.heap.size (by rfl) (.tmp 88) (.tmp 90) 26 35 (.agg #[.string ByteArray.empty, .int .i64 0, .int .i64 0, .int .i64 0, .int .i64 0, .int .i64 0, .int .i64 0]) 64 rfl Try.underlying26 info35 rfl (by decide) (by omega) u14 (ts.map p35) [p35 t] (some ⟨g2, 0, none⟩) 1 1 (fun _ => True) (fun _ => False) rfl rfl HM.out.ot (C_one35 HL2.out) ?aK (fun _ hk => hk.elim) (fun _ _ => trivial) (fr_self (S := fun _ => False) (Fr.of_below HM.out.bl)) HM.out.bl.size (by have := Hlen.out; rw [List.length_map]; simp only [List.length_append, List.length_cons, List.length_nil] at this; omega) ?_
                case aK => exact fun y cs h => by obtain rfl := k35_open h; exact k35_mkM _ _ _ y
                intro v2 w6 ho1 hB1 hg1 hat1
                show K (Act.put _ (some 91) v2) w6
                have HM6 := Lib.hid (HM.out.app2 ho1 hB1 hg1)
                have HT6 := Lib.hid (blk_grown HT.out hg1 Hne.out)
                refine hK.out _ _ ?_
                clear hK K ho1 hB1 hg1 hat1 HM HT HL2
                refine norm_ (a' := ?_) ?_ ?_
                rotate_left
                · simp only [Act.put, List.setIfInBounds_toArray, List.set_cons_zero, List.set_cons_succ, i64_w, i32_w]
                  rfl
                refine pure_ (i := 8) (N := some 13) (v := ?_) (a' := ?_) #[true, true, true, true, true, true, true, true, true, false] rfl rfl (by kernel_rfl) (fun _ _ _ h => h) (Or.inl ⟨by rfl, ?_⟩) ?_ ?_
                rotate_left
                · intro w'
                  go_simp
                  with_reducible rfl
                rotate_left
                · simp only [Act.put, List.setIfInBounds_toArray, List.set_cons_zero, List.set_cons_succ, i64_w, i32_w]
                  rfl
                refine pure_ (i := 9) (N := some 14) (v := ?_) (a' := ?_) #[true, true, true, true, true, true, true, true, true, true] rfl rfl (by kernel_rfl) (fun _ _ _ h => h) (Or.inl ⟨by rfl, ?_⟩) ?_ ?_
                rotate_left
                · intro w'
                  go_simp
                  with_reducible rfl
                rotate_left
                · simp only [Act.put, List.setIfInBounds_toArray, List.set_cons_zero, List.set_cons_succ, i64_w, i32_w]
                  rfl
                refine done_ (by kernel_rfl) ?_
                obtain ⟨y0, y1, y2, y3, y4, y5, y6⟩ := C7.of35 HT6.out
                clear y0 y1 y3 y4 y5 y6
                go_wp2_with fail
                go_roundw
                case rel => exact ⟨_, _, (r :: x), _, _, y, _, acc ++ [((1 : Int), t)], rfl, rfl, rfl, by simp at hlen ⊢; omega, Lib.hid (by rw [List.map_append, List.map_append, ← Hss.out, ← Hts.out]; exact HM6.out.took (by omega) (by omega)), HEy2⟩
                case measure => simp [lenOf] <;> omega
              · skip
                refine value_ (v := .slice (some ⟨wa.heap.size, 0, none⟩) 1 1) (w1 := wa.alloc (.cells (tcells t) 35)) (by rfl) rfl ?_ ?_
                · go_simp
                  rfl
                have hbl := (Below.refl wa.heap.size wa).alloc (Nat.le_refl _) (.cells (tcells t) 35)
                have HM := Lib.hid (HM.out.below hbl)
                have HT := Lib.hid (blk_below HT.out hbl)
                have HL2 := Lib.hid (blk_new wa (.cells (tcells t) 35))
                refine hK.out _ _ (C7.of35 HT.out) (fun hHeld => ?_)
                clear hK K hbl
                refine norm_ (a' := ?_) ?_ ?_
                rotate_left
                · simp only [Act.put, List.setIfInBounds_toArray, List.set_cons_zero, List.set_cons_succ, i64_w, i32_w]
                  rfl
                have HL1 := Lib.hid (blk_below HL1.out ((Below.refl wa.heap.size wa).alloc (Nat.le_refl _) (.cells (tcells t) 35)))
                generalize wa.alloc (.cells (tcells t) 35) = wc at *
                generalize wa.heap.size = g2 at *
                refine one_ (i := 3) (N := some 87) #[true, true, true, true, true, true, true, false, false, false] rfl rfl (by kernel_rfl) (by decide) (fun K hK => ?_)
                refine Kd.R_append_rows_step (Kd.int .i64) (Rr := (Kd.int .i64).K wc) (w0 := wc) w3.heap.size (by rfl) (.tmp 84) (.tmp 86) 64 3 (.int .i64 0) 8 rfl Try.underlying64 info3 rfl (by decide) (by omega) u13 ss [1] (some ⟨g1, 0, none⟩) 1 1 (fun _ => True) (fun _ => False) rfl rfl HM.out.sd (C_one3 HL1.out) ?aK (fun _ hk => hk.elim) (fun _ _ => trivial) (fr_self (S := fun _ => False) (Fr.of_below HM.out.bl)) HM.out.bl.size (by have := Hlen.out; omega) ?_
                case aK => exact fun y cs h => h
                intro v1 w5 ho1 hB1 hg1 hat1
                show K (Act.put _ (some 87) v1) w5
                have HT5 := Lib.hid (blk_grown HT.out hg1 (Kd.R_ne HM.out.sd HT.out (by decide)))
                have HM5 := Lib.hid (HM.out.app1 ho1 hB1 hg1)
                refine hK.out _ _ (C7.of35 HT5.out) (fun hHeld => ?_)
                have HL2 := Lib.hid (blk_grown HL2.out hg1 (Kd.R_ne HM.out.sd HL2.out (by decide)))
                clear hK K ho1 hB1 hg1 hat1 HM HT HL1
                refine norm_ (a' := ?_) ?_ ?_
                rotate_left
                · simp only [Act.put, List.setIfInBounds_toArray, List.set_cons_zero, List.set_cons_succ, i64_w, i32_w]
                  rfl
                have HM := HM5
                have HT := HT5
                have Hlen : Hid ((ss ++ [(1 : Int)]).length ≤ 2001 ∧ ts.length ≤ 2000) := Lib.hid (by have := Hlen.out; simp; omega)
                clear HM5 HT5
                refine last_ (i := 7) (N := some 91) #[true, true, true, true, true, true, true, true, false, false] rfl rfl (by kernel_rfl) (by decide) (fun K hK => ?_)
                refine Kd.R_append_rows_step k35 (Rr := k35.K w5) (w0 := w5) w3.heap.size (by rfl) (.tmp 88) (.tmp 90) 26 35 (.agg #[.string ByteArray.empty, .int .i64 0, .int .i64 0, .int .i64 0, .int .i64 0, .int .i64 0, .int .i64 0]) 64 rfl Try.underlying26 info35 rfl (by decide) (by omega) u14 (ts.map p35) [p35 t] (some ⟨g2, 0, none⟩) 1 1 (fun _ => True) (fun _ => False) rfl rfl HM.out.ot (C_one35 HL2.out) ?aK (fun _ hk => hk.elim) (fun _ _ => trivial) (fr_self (S := fun _ => False) (Fr.of_below HM.out.bl)) HM.out.bl.size (by have := Hlen.out; rw [List.length_map]; simp only [List.length_append, List.length_cons, List.length_nil] at this; omega) ?_
                case aK => exact fun y cs h => by obtain rfl := k35_open h; exact k35_mkM _ _ _ y
                intro v2 w6 ho1 hB1 hg1 hat1
                show K (Act.put _ (some 91) v2) w6
                have HM6 := Lib.hid (HM.out.app2 ho1 hB1 hg1)
                have HT6 := Lib.hid (blk_grown HT.out hg1 Hne.out)
                refine hK.out _ _ ?_
                clear hK K ho1 hB1 hg1 hat1 HM HT HL2
                refine norm_ (a' := ?_) ?_ ?_
                rotate_left
                · simp only [Act.put, List.setIfInBounds_toArray, List.set_cons_zero, List.set_cons_succ, i64_w, i32_w]
                  rfl
                refine pure_ (i := 8) (N := some 13) (v := ?_) (a' := ?_) #[true, true, true, true, true, true, true, true, true, false] rfl rfl (by kernel_rfl) (fun _ _ _ h => h) (Or.inl ⟨by rfl, ?_⟩) ?_ ?_
                rotate_left
                · intro w'
                  go_simp
                  with_reducible rfl
                rotate_left
                · simp only [Act.put, List.setIfInBounds_toArray, List.set_cons_zero, List.set_cons_succ, i64_w, i32_w]
                  rfl
                refine pure_ (i := 9) (N := some 14) (v := ?_) (a' := ?_) #[true, true, true, true, true, true, true, true, true, true] rfl rfl (by kernel_rfl) (fun _ _ _ h => h) (Or.inl ⟨by rfl, ?_⟩) ?_ ?_
                rotate_left
                · intro w'
                  go_simp
                  with_reducible rfl
                rotate_left
                · simp only [Act.put, List.setIfInBounds_toArray, List.set_cons_zero, List.set_cons_succ, i64_w, i32_w]
                  rfl
                refine done_ (by kernel_rfl) ?_
                obtain ⟨y0, y1, y2, y3, y4, y5, y6⟩ := C7.of35 HT6.out
                clear y0 y1 y3 y4 y5 y6
                go_wp2_with fail
                go_roundw
                case rel => exact ⟨_, _, (r :: x), _, _, y, _, acc ++ [((1 : Int), t)], rfl, rfl, rfl, by simp at hlen ⊢; omega, Lib.hid (by rw [List.map_append, List.map_append, ← Hss.out, ← Hts.out]; exact HM6.out.took (by omega) (by omega)), HEy2⟩
                case measure => simp [lenOf] <;> omega
            · skip
              refine value_ (v := .slice (some ⟨w4.heap.size, 0, none⟩) 1 1) (w1 := w4.alloc (.cells (tcells t) 35)) (by rfl) rfl ?_ ?_
              · go_simp
                rfl
              have hbl := (Below.refl w4.heap.size w4).alloc (Nat.le_refl _) (.cells (tcells t) 35)
              have HM := Lib.hid (HM.out.below hbl)
              have HT := Lib.hid (blk_below HT.out hbl)
              have HL2 := Lib.hid (blk_new w4 (.cells (tcells t) 35))
              refine hK.out _ _ (C7.of35 HT.out) (fun hHeld => ?_)
              clear hK K hbl
              refine norm_ (a' := ?_) ?_ ?_
              rotate_left
              · simp only [Act.put, List.setIfInBounds_toArray, List.set_cons_zero, List.set_cons_succ, i64_w, i32_w]
                rfl
              generalize w4.alloc (.cells (tcells t) 35) = wa at *
              generalize w4.heap.size = g2 at *
              refine one_ (i := 2) (N := some 86) #[true, true, true, false, true, true, true, false, false, false] rfl rfl (by kernel_rfl) (by decide) (fun K hK => ?_)
              refine value_ (v := .slice (some ⟨wa.heap.size, 0, none⟩) 1 1) (w1 := wa.alloc (.cells #[.int .i64 1] 3)) (by rfl) rfl ?_ ?_
              · go_simp
              have hbl := (Below.refl wa.heap.size wa).alloc (Nat.le_refl _) (.cells #[.int .i64 1] 3)
              have HM := Lib.hid (HM.out.below hbl)
              have HT := Lib.hid (blk_below HT.out hbl)
              have HL1 := Lib.hid (blk_new wa (.cells #[.int .i64 1] 3))
              refine hK.out _ _ (C7.of35 HT.out) (fun hHeld => ?_)
              clear hK K hbl
              refine norm_ (a' := ?_) ?_ ?_
              rotate_left
              · simp only [Act.put, List.setIfInBounds_toArray, List.set_cons_zero, List.set_cons_succ, i64_w, i32_w]
                rfl
              have HL2 := Lib.hid (blk_below HL2.out ((Below.refl wa.heap.size wa).alloc (Nat.le_refl _) (.cells #[.int .i64 1] 3)))
              generalize wa.alloc (.cells #[.int .i64 1] 3) = wc at *
              generalize wa.heap.size = g1 at *
              refine one_ (i := 3) (N := some 87) #[true, true, true, true, true, true, true, false, false, false] rfl rfl (by kernel_rfl) (by decide) (fun K hK => ?_)
              refine Kd.R_append_rows_step (Kd.int .i64) (Rr := (Kd.int .i64).K wc) (w0 := wc) w3.heap.size (by rfl) (.tmp 84) (.tmp 86) 64 3 (.int .i64 0) 8 rfl Try.underlying64 info3 rfl (by decide) (by omega) u13 ss [1] (some ⟨g1, 0, none⟩) 1 1 (fun _ => True) (fun _ => False) rfl rfl HM.out.sd (C_one3 HL1.out) ?aK (fun _ hk => hk.elim) (fun _ _ => trivial) (fr_self (S := fun _ => False) (Fr.of_below HM.out.bl)) HM.out.bl.size (by have := Hlen.out; omega) ?_
              case aK => exact fun y cs h => h
              intro v1 w5 ho1 hB1 hg1 hat1
              show K (Act.put _ (some 87) v1) w5
              have HT5 := Lib.hid (blk_grown HT.out hg1 (Kd.R_ne HM.out.sd HT.out (by decide)))
              have HM5 := Lib.hid (HM.out.app1 ho1 hB1 hg1)
              refine hK.out _ _ (C7.of35 HT5.out) (fun hHeld => ?_)
              have HL2 := Lib.hid (blk_grown HL2.out hg1 (Kd.R_ne HM.out.sd HL2.out (by decide)))
              clear hK K ho1 hB1 hg1 hat1 HM HT HL1
              refine norm_ (a' := ?_) ?_ ?_
              rotate_left
              · simp only [Act.put, List.setIfInBounds_toArray, List.set_cons_zero, List.set_cons_succ, i64_w, i32_w]
                rfl
              have HM := HM5
              have HT := HT5
              have Hlen : Hid ((ss ++ [(1 : Int)]).length ≤ 2001 ∧ ts.length ≤ 2000) := Lib.hid (by have := Hlen.out; simp; omega)
              clear HM5 HT5
              refine last_ (i := 7) (N := some 91) #[true, true, true, true, true, true, true, true, false, false] rfl rfl (by kernel_rfl) (by decide) (fun K hK => ?_)
              refine Kd.R_append_rows_step k35 (Rr := k35.K w5) (w0 := w5) w3.heap.size (by rfl) (.tmp 88) (.tmp 90) 26 35 (.agg #[.string ByteArray.empty, .int .i64 0, .int .i64 0, .int .i64 0, .int .i64 0, .int .i64 0, .int .i64 0]) 64 rfl Try.underlying26 info35 rfl (by decide) (by omega) u14 (ts.map p35) [p35 t] (some ⟨g2, 0, none⟩) 1 1 (fun _ => True) (fun _ => False) rfl rfl HM.out.ot (C_one35 HL2.out) ?aK (fun _ hk => hk.elim) (fun _ _ => trivial) (fr_self (S := fun _ => False) (Fr.of_below HM.out.bl)) HM.out.bl.size (by have := Hlen.out; rw [List.length_map]; simp only [List.length_append, List.length_cons, List.length_nil] at this; omega) ?_
              case aK => exact fun y cs h => by obtain rfl := k35_open h; exact k35_mkM _ _ _ y
              intro v2 w6 ho1 hB1 hg1 hat1
              show K (Act.put _ (some 91) v2) w6
              have HM6 := Lib.hid (HM.out.app2 ho1 hB1 hg1)
              have HT6 := Lib.hid (blk_grown HT.out hg1 Hne.out)
              refine hK.out _ _ ?_
              clear hK K ho1 hB1 hg1 hat1 HM HT HL2
              refine norm_ (a' := ?_) ?_ ?_
              rotate_left
              · simp only [Act.put, List.setIfInBounds_toArray, List.set_cons_zero, List.set_cons_succ, i64_w, i32_w]
                rfl
              refine pure_ (i := 8) (N := some 13) (v := ?_) (a' := ?_) #[true, true, true, true, true, true, true, true, true, false] rfl rfl (by kernel_rfl) (fun _ _ _ h => h) (Or.inl ⟨by rfl, ?_⟩) ?_ ?_
              rotate_left
              · intro w'
                go_simp
                with_reducible rfl
              rotate_left
              · simp only [Act.put, List.setIfInBounds_toArray, List.set_cons_zero, List.set_cons_succ, i64_w, i32_w]
                rfl
              refine pure_ (i := 9) (N := some 14) (v := ?_) (a' := ?_) #[true, true, true, true, true, true, true, true, true, true] rfl rfl (by kernel_rfl) (fun _ _ _ h => h) (Or.inl ⟨by rfl, ?_⟩) ?_ ?_
              rotate_left
              · intro w'
                go_simp
                with_reducible rfl
              rotate_left
              · simp only [Act.put, List.setIfInBounds_toArray, List.set_cons_zero, List.set_cons_succ, i64_w, i32_w]
                rfl
              refine done_ (by kernel_rfl) ?_
              obtain ⟨y0, y1, y2, y3, y4, y5, y6⟩ := C7.of35 HT6.out
              clear y0 y1 y3 y4 y5 y6
              go_wp2_with fail
              go_roundw
              case rel => exact ⟨_, _, (r :: x), _, _, y, _, acc ++ [((1 : Int), t)], rfl, rfl, rfl, by simp at hlen ⊢; omega, Lib.hid (by rw [List.map_append, List.map_append, ← Hss.out, ← Hts.out]; exact HM6.out.took (by omega) (by omega)), HEy2⟩
              case measure => simp [lenOf] <;> omega
          · have HEn2 := Lib.hid (HEn.out htk)
            clear HEn HEy
            have dtk : decide (t.f1 ≤ left) = false := decide_eq_false htk
            clear htk
            go_wp2_with fail
            go_roundw
            case rel => exact ⟨_, _, (r :: x), _, _, y, _, acc, rfl, rfl, rfl, by simp at hlen ⊢; omega, HMs, HEn2⟩
            case measure => simp [lenOf] <;> omega
end Go.Proofs.Ytkngdlmlijefbaa.Pq
