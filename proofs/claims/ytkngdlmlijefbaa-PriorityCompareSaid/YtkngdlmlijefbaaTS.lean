/- What Match keeps, step by step. -/
import Derived.Test.YtkngdlmlijefbaaTQ
namespace Go.Proofs.Ytkngdlmlijefbaa.Pq
open Go.RowKit Go.Proofs.YtkngdlmlijefbaaW.PrintWords Go.Proofs.YtkngdlmlijefbaaW.PrintLast Go.Proofs.YtkngdlmlijefbaaW.PrintMore Go.Proofs.Mp
open Go.Proofs.Ytkngdlmlijefbaa.PPriorityOrder
set_option linter.unusedVariables false
set_option linter.unusedSimpArgs false

/-- The address behind the first element. -/
def tl (ad : Addr) (c : Nat) : Option Addr := if c = 1 then some ad else some (ad.add 7)
theorem run_tail (ad : Addr) (n c : Nat) (h : n + 1 ≤ c) (w : World) : (Instr.slice 47 (.slice (some ad) (n + 1) c) (some (.int .i64 1)) none none).run Try.prog w = .ok (.slice (tl ad c) n (c - 1)) w := by
  have h1 : (1 : Int) ≤ ((n + 1 : Nat) : Int) := by omega
  by_cases hc : c = 1
  · simp [Instr.slice, run_underlying Try.underlying47, Instr.sliceBounds, Instr.sliceBound, asIntOf, Sem.run_bind, Result.andThen, size32, tl, hc, h1, Sem.run_pure]
    rw [if_pos (by omega : (1 : Int) ≤ (n : Int) + 1)]
    simp [hc]
  · simp [Instr.slice, run_underlying Try.underlying47, Instr.sliceBounds, Instr.sliceBound, asIntOf, Sem.run_bind, Result.andThen, size32, tl, hc, h1, Sem.run_pure]
    rw [if_pos (by omega : (1 : Int) ≤ (n : Int) + 1)]
    simp [hc]
variable {w0 wr w1 : World} {gl : Nat} {Ax : Option Addr} {cx : Nat} {x : List S32} {Ay : Option Addr} {cy : Nat} {y : List S32} {left : Int} {ss : List Int} {ts : List S32} {v13 v14 : Value}
theorem MI.below (h : MI w0 wr gl Ax cx x Ay cy y left ss ts v13 v14) (hb : Below wr.heap.size wr w1) : MI w0 w1 gl Ax cx x Ay cy y left ss ts v13 v14 :=
  ⟨h.sx, h.sy, h.vx, h.vy, h.fr.then_below hb, blk_below h.blk hb, h.l0, h.l1, Kd.R_below h.sd hb, Kd.R_below h.ot hb, h.gl⟩
theorem MI.tailx {ad : Addr} {t : S32} (h : MI w0 wr gl (some ad) cx (t :: x) Ay cy y left ss ts v13 v14) : MI w0 wr gl (tl ad cx) (cx - 1) x Ay cy y left ss ts v13 v14 := by
  refine ⟨h.sx.tail _ (fun hp => ?_), h.sy, fun u hu => h.vx u (List.mem_cons_of_mem _ hu), h.vy, h.fr, h.blk, h.l0, h.l1, h.sd, h.ot, h.gl⟩
  have := h.sx.cap
  rw [List.length_cons] at this
  unfold tl
  rw [if_neg (by omega)]
theorem MI.taily {ad : Addr} {t : S32} (h : MI w0 wr gl Ax cx x (some ad) cy (t :: y) left ss ts v13 v14) : MI w0 wr gl Ax cx x (tl ad cy) (cy - 1) y left ss ts v13 v14 := by
  refine ⟨h.sx, h.sy.tail _ (fun hp => ?_), h.vx, fun u hu => h.vy u (List.mem_cons_of_mem _ hu), h.fr, h.blk, h.l0, h.l1, h.sd, h.ot, h.gl⟩
  have := h.sy.cap
  rw [List.length_cons] at this
  unfold tl
  rw [if_neg (by omega)]
/-- A store into a block of the loop's own. -/
theorem MI.store (h : MI w0 wr gl Ax cx x Ay cy y left ss ts v13 v14) {gt : Nat} {cs : Array Value} (hg : w0.heap.size ≤ gt) (hb : wr.heap[gt]? = some (.cells cs 32 (0, 0))) (hne : some gt ≠ v14.ownBlock) (o : Nat) (us : List Value) :
    MI w0 (wr.setCells gt o us) gl Ax cx x Ay cy y left ss ts v13 v14 := by
  have hfar : ∀ k, k ≠ gt → (wr.setCells gt o us).heap[k]? = wr.heap[k]? := fun k hk => setCells_far us o k hk
  have hgl := h.gl
  obtain ⟨e1, e2, e3, e4⟩ := setCells_same gt us o wr
  have hne3 : some gt ≠ v13.ownBlock := Kd.R_ne h.sd hb (by decide)
  exact ⟨h.sx, h.sy, h.vx, h.vy, h.fr.trans (T := fun i => i = gt) ⟨e1, e2, e3, by rw [e4]; exact Nat.le_refl _, fun i hi hn => hfar i hn⟩ (fun i hi e => by omega),
    (hfar gl (by omega)).trans h.blk, h.l0, h.l1, Kd.R_drop (Kd.R_step (Kd.R_far1 h.sd rfl hne3) (fun k ho _ => hfar k ho.2)), Kd.R_drop (Kd.R_step (Kd.R_far1 h.ot rfl hne) (fun k ho _ => hfar k ho.2)), h.gl⟩
/-- The closure has taken t. -/
theorem MI.took (h : MI w0 wr gl Ax cx x Ay cy y left ss ts v13 v14) {l2 : Int} (hf : Fr (fun i => i = gl) wr w1) (hb : w1.heap[gl]? = some (.cells #[.int .i64 l2] 3 (0, 0))) (h0 : 0 ≤ l2) (h1 : l2 ≤ 9223372036854775807) :
    MI w0 w1 gl Ax cx x Ay cy y l2 ss ts v13 v14 := by
  have hne3 : ∀ k, v13.ownBlock = some k → k ≠ gl := fun k hk e => by have := Kd.R_base h.sd k hk; have := h.gl; omega
  have hne : ∀ k, v14.ownBlock = some k → k ≠ gl := fun k hk e => by have := Kd.R_base h.ot k hk; have := h.gl; omega
  exact ⟨h.sx, h.sy, h.vx, h.vy, h.fr.trans hf (fun _ _ e => e), hb, h0, h1,
    Kd.R_drop (Kd.R_step (Kd.R_far1 h.sd rfl (g := gl) (fun e => hne3 gl e.symm rfl)) (fun k ho hk => hf.block k hk ho.2)), Kd.R_drop (Kd.R_step (Kd.R_far1 h.ot rfl (g := gl) (fun e => hne gl e.symm rfl)) (fun k ho hk => hf.block k hk ho.2)), h.gl⟩
/-- The first of a part. -/
theorem Src.head {w : World} {g : Nat} {A : Option Addr} {c : Nat} {t : S32} {l : List S32} (h : Src w g A c (t :: l)) (hf : Fr (fun i => i = g) w wr) : ∃ ad, A = some ad ∧ ∀ W, Below wr.heap.size wr W → (W.cell? ad = some (.string t.f0.f0) ∧ W.cell? ⟨ad.block, ad.off + 1, none⟩ = some (.int .i64 t.f0.f1) ∧ W.cell? ⟨ad.block, ad.off + 2, none⟩ = some (.int .i64 t.f1) ∧ W.cell? ⟨ad.block, ad.off + 3, none⟩ = some (.int .i64 t.f2) ∧ W.cell? ⟨ad.block, ad.off + 4, none⟩ = some (.int .i64 t.f3.f0) ∧ W.cell? ⟨ad.block, ad.off + 5, none⟩ = some (.int .i64 t.f3.f1) ∧ W.cell? ⟨ad.block, ad.off + 6, none⟩ = some (.int .i64 t.f4)) := by
  obtain ⟨ad, rfl, h0, h1, h2, h3, h4, h5, h6⟩ := at_T32 (h.now hf) 0 (by omega) (by simp)
  have e : ad.add (Int.toNat 0 * 7) = ad := by rw [show Int.toNat 0 * 7 = 0 from rfl]; rfl
  have et : rd_T32 (t :: l) 0 = t := rfl
  rw [e, et] at h0 h1 h2 h3 h4 h5 h6
  refine ⟨ad, rfl, fun W hb => ?_⟩
  have key : ∀ (p : Addr) (v : Value), wr.cell? p = some v → W.cell? p = some v := fun p v hp => (hb.cell (p := p) (World.block_lt_of_cell? _ _ hp)).trans hp
  exact ⟨key _ _ h0, key _ _ h1, key _ _ h2, key _ _ h3, key _ _ h4, key _ _ h5, key _ _ h6⟩
theorem MI.fr2 (h : MI w0 wr gl Ax cx x Ay cy y left ss ts v13 v14) (hb : Below w0.heap.size wr w1) : Fr (fun i => i = gl) w0 w1 ∧ w1.heap[gl]? = some (.cells #[.int .i64 left] 3 (0, 0)) :=
  ⟨⟨hb.os.trans h.fr.os, hb.tape.trans h.fr.tape, hb.output.trans h.fr.output, Nat.le_trans h.fr.size hb.size, fun i hi hn => (hb.block i hi).trans (h.fr.block i hi hn)⟩, (hb.block gl h.gl).trans h.blk⟩
theorem own_cells {α : Type} {d : Kd α} {e : Nat} {w : World} {base : Nat} {ok : Nat → Prop} {v : Value} {xs : List α} (h : d.R e w base ok v xs) (hE : d.E = []) {k : Nat} (hk : v.ownBlock = some k) : ∃ cells, w.heap[k]? = some (.cells cells e (0, 0)) := by
  obtain ⟨_, _, _, q, hq, cells, hc⟩ := (Kd.R_bound h).1 k hk
  rw [hE] at hq
  obtain rfl : q = e := by simpa using hq
  exact ⟨cells, hc⟩
/-- A side is appended. -/
theorem MI.app1 (h : MI w0 wr gl Ax cx x Ay cy y left ss ts v13 v14) {v1 : Value} {s : Int} (hR : Kd.R (Kd.int .i64) 3 w1 w0.heap.size (fun _ => True) v1 (ss ++ [s])) (hb : Below w0.heap.size wr w1) (hg : wr.grownBy w1 v13.ownBlock) :
    MI w0 w1 gl Ax cx x Ay cy y left (ss ++ [s]) ts v1 v14 :=
  ⟨h.sx, h.sy, h.vx, h.vy, (h.fr2 hb).1, (h.fr2 hb).2, h.l0, h.l1, hR, Kd.R_grown2 h.ot rfl hg (fun k hk => by
    obtain ⟨cells, hc⟩ := own_cells h.sd rfl hk
    exact Kd.R_ne h.ot hc (by decide)), h.gl⟩
/-- A task is appended. -/
theorem MI.app2 (h : MI w0 wr gl Ax cx x Ay cy y left ss ts v13 v14) {v1 : Value} {t : S32} (hR : Kd.R k32 32 w1 w0.heap.size (fun _ => True) v1 (ts ++ [t])) (hb : Below w0.heap.size wr w1) (hg : wr.grownBy w1 v14.ownBlock) :
    MI w0 w1 gl Ax cx x Ay cy y left ss (ts ++ [t]) v13 v1 :=
  ⟨h.sx, h.sy, h.vx, h.vy, (h.fr2 hb).1, (h.fr2 hb).2, h.l0, h.l1, Kd.R_grown2 h.sd rfl hg (fun k hk => by
    obtain ⟨cells, hc⟩ := own_cells h.ot rfl hk
    exact Kd.R_ne h.sd hc (by decide)), hR, h.gl⟩
theorem blk_tcs {w : World} {g : Nat} {c0 c1 c2 c3 c4 c5 c6 : Value} (h : w.heap[g]? = some (.cells #[c0, c1, c2, c3, c4, c5, c6] 32 (0, 0))) (t : S32) : (w.setCells g 0 (tcs t)).heap[g]? = some (.cells (tcells t) 32 (0, 0)) := by
  have h0 := blk_put (cs' := #[.string t.f0.f0, c1, c2, c3, c4, c5, c6]) h 0 (.string t.f0.f0) rfl
  have h1 := blk_put (cs' := #[.string t.f0.f0, .int .i64 t.f0.f1, c2, c3, c4, c5, c6]) h0 1 (.int .i64 t.f0.f1) rfl
  have h2 := blk_put (cs' := #[.string t.f0.f0, .int .i64 t.f0.f1, .int .i64 t.f1, c3, c4, c5, c6]) h1 2 (.int .i64 t.f1) rfl
  have h3 := blk_put (cs' := #[.string t.f0.f0, .int .i64 t.f0.f1, .int .i64 t.f1, .int .i64 t.f2, c4, c5, c6]) h2 3 (.int .i64 t.f2) rfl
  have h4 := blk_put (cs' := #[.string t.f0.f0, .int .i64 t.f0.f1, .int .i64 t.f1, .int .i64 t.f2, .int .i64 t.f3.f0, c5, c6]) h3 4 (.int .i64 t.f3.f0) rfl
  have h5 := blk_put (cs' := #[.string t.f0.f0, .int .i64 t.f0.f1, .int .i64 t.f1, .int .i64 t.f2, .int .i64 t.f3.f0, .int .i64 t.f3.f1, c6]) h4 5 (.int .i64 t.f3.f1) rfl
  have h6 := blk_put (cs' := #[.string t.f0.f0, .int .i64 t.f0.f1, .int .i64 t.f1, .int .i64 t.f2, .int .i64 t.f3.f0, .int .i64 t.f3.f1, .int .i64 t.f4]) h5 6 (.int .i64 t.f4) rfl
  exact h6
/-- The cells of a task's block. -/
def C7 (W : World) (g : Nat) (t : S32) : Prop := W.cell? ⟨g, 0, none⟩ = some (.string t.f0.f0) ∧ W.cell? ⟨g, 1, none⟩ = some (.int .i64 t.f0.f1) ∧ W.cell? ⟨g, 2, none⟩ = some (.int .i64 t.f1) ∧ W.cell? ⟨g, 3, none⟩ = some (.int .i64 t.f2) ∧ W.cell? ⟨g, 4, none⟩ = some (.int .i64 t.f3.f0) ∧ W.cell? ⟨g, 5, none⟩ = some (.int .i64 t.f3.f1) ∧ W.cell? ⟨g, 6, none⟩ = some (.int .i64 t.f4)
theorem C7.of {W : World} {g : Nat} {t : S32} (h : W.heap[g]? = some (.cells (tcells t) 32 (0, 0))) : C7 W g t :=
  ⟨(blk_cell h 0).trans rfl, (blk_cell h 1).trans rfl, (blk_cell h 2).trans rfl, (blk_cell h 3).trans rfl, (blk_cell h 4).trans rfl, (blk_cell h 5).trans rfl, (blk_cell h 6).trans rfl⟩
theorem C_one3 {W : World} {g : Nat} {s : Int} (h : W.heap[g]? = some (.cells #[.int .i64 s] 3 (0, 0))) : Kd.C (Kd.int .i64) W (some ⟨g, 0, none⟩) 1 [s] :=
  C_of_cells (xs := [s]) (by simp) (fun j hj => by
    obtain rfl : j = 0 := by simp at hj; omega
    exact (blk_cell h 0).trans rfl)
theorem C_one32 {W : World} {g : Nat} {t : S32} (h : W.heap[g]? = some (.cells (tcells t) 32 (0, 0))) : Kd.C k32 W (some ⟨g, 0, none⟩) 1 [t] := by
  refine ⟨rfl, by omega, fun _ => ⟨⟨g, 0, none⟩, rfl, fun j p hj => ?_⟩⟩
  obtain ⟨hj1, rfl⟩ := List.getElem?_eq_some_iff.1 hj
  obtain rfl : j = 0 := by simp at hj1; omega
  refine ⟨tcs t, rfl, k32_mk W t, fun i u hi => ?_⟩
  rw [Nat.zero_mul, Nat.zero_add, add_plain, blk_cell h i, ← hi]
  unfold tcells tcs
  simp
theorem fr_self {S : Nat → Prop} (h : Fr S w0 wr) : Below w0.heap.size wr wr := ⟨rfl, rfl, rfl, Nat.le_refl _, fun _ _ => rfl⟩
theorem Compare_calls (a b : S32) (W : World) : Calls Try.prog 23 #[.agg (tcells a), .agg (tcells b)] W fun e w' => e = .returned (.int .i64 (cmpT a b)) ∧ Below W.heap.size W w' :=
  (Compare_exact a b W).mono (by
    rintro e w' ⟨rfl, q, os, rfl⟩
    refine ⟨rfl, ⟨rfl, rfl, rfl, ?_, fun k hk => ?_⟩⟩
    · rw [Sort.size_grow]
      exact Nat.le_add_right _ _
    · rw [Sort.heap_grow_old _ _ (show k < (W.drewN q).heap.size from hk)]
      rfl)
/-- The cells of a task at an address. -/
def CA (W : World) (ad : Addr) (t : S32) : Prop := W.cell? ad = some (.string t.f0.f0) ∧ W.cell? ⟨ad.block, ad.off + 1, none⟩ = some (.int .i64 t.f0.f1) ∧ W.cell? ⟨ad.block, ad.off + 2, none⟩ = some (.int .i64 t.f1) ∧ W.cell? ⟨ad.block, ad.off + 3, none⟩ = some (.int .i64 t.f2) ∧ W.cell? ⟨ad.block, ad.off + 4, none⟩ = some (.int .i64 t.f3.f0) ∧ W.cell? ⟨ad.block, ad.off + 5, none⟩ = some (.int .i64 t.f3.f1) ∧ W.cell? ⟨ad.block, ad.off + 6, none⟩ = some (.int .i64 t.f4)
end Go.Proofs.Ytkngdlmlijefbaa.Pq
