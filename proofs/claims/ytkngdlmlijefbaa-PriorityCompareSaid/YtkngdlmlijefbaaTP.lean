/- What Match takes (plain); the closure of taker. -/
import Derived.Test.YtkngdlmlijefbaaTO
namespace Go.Proofs.Ytkngdlmlijefbaa.Pq
open Go.RowKit Go.Proofs.YtkngdlmlijefbaaW.PrintWords Go.Proofs.YtkngdlmlijefbaaW.PrintLast Go.Proofs.YtkngdlmlijefbaaW.PrintMore Go.Proofs.Mp
open Go.Proofs.Ytkngdlmlijefbaa.PPriorityOrder
set_option linter.unusedVariables false
set_option linter.unusedSimpArgs false

/-- The next of two sides: its side, the task, what is left of both. -/
def pick : List S32 → List S32 → Option (Int × S32 × List S32 × List S32)
  | [], [] => none
  | a :: x, [] => some (0, a, x, [])
  | [], b :: y => some (1, b, [], y)
  | a :: x, b :: y => if cmpT a b ≤ 0 then some (0, a, x, b :: y) else some (1, b, a :: x, y)
/-- What is taken out of two sides. -/
def mt : Nat → List S32 → List S32 → Int → List (Int × S32)
  | 0, _, _, _ => []
  | n + 1, x, y, left => match pick x y with
    | none => []
    | some (s, t, x', y') => if t.f1 ≤ left then (s, t) :: mt n x' y' (left - t.f1) else mt n x' y' left
theorem mt_none (n : Nat) (left : Int) : mt n [] [] left = [] := by cases n <;> rfl
theorem mt_yes {n : Nat} {x y x' y' : List S32} {s left : Int} {t : S32} (h : pick x y = some (s, t, x', y')) (hl : t.f1 ≤ left) : mt (n + 1) x y left = (s, t) :: mt n x' y' (left - t.f1) := by
  simp only [mt, h]; rw [if_pos hl]
theorem mt_no {n : Nat} {x y x' y' : List S32} {s left : Int} {t : S32} (h : pick x y = some (s, t, x', y')) (hl : ¬ t.f1 ≤ left) : mt (n + 1) x y left = mt n x' y' left := by
  simp only [mt, h]; rw [if_neg hl]
/-- A part of a row that is read. -/
structure Src (w : World) (g : Nat) (A : Option Addr) (c : Nat) (l : List S32) : Prop where
  rd : Kd.C k32 w A l.length l
  cap : l.length ≤ c
  max : c ≤ maxLen
  ne : ∀ ad, A = some ad → 0 < l.length → ad.block ≠ g
theorem Src.now {w wr : World} {g : Nat} {A : Option Addr} {c : Nat} {l : List S32} (h : Src w g A c l) (hf : Fr (fun i => i = g) w wr) : Kd.C k32 wr A l.length l := by
  obtain ⟨h1, h2, h3⟩ := h.rd
  refine ⟨h1, h2, fun hp => ?_⟩
  obtain ⟨ad, e, h4⟩ := h3 hp
  refine ⟨ad, e, fun j p hj => ?_⟩
  obtain ⟨cs, c1, c2, c3⟩ := h4 j p hj
  refine ⟨cs, c1, ?_, fun i u hi => ?_⟩
  · obtain rfl := k32_open c2
    exact k32_mk wr p
  · have := c3 i u hi
    exact (hf.cell (World.block_lt_of_cell? _ _ this) (by rw [add_block]; exact h.ne ad e hp)).trans this
theorem add_add7 (ad : Addr) (m n : Nat) : (ad.add m).add n = ad.add (m + n) := Go.Proofs.YtkngdlmlijefbaaW.PrintWords.add_add ad m n
theorem Src.tail {w : World} {g : Nat} {ad : Addr} {c : Nat} {t : S32} {l : List S32} (h : Src w g (some ad) c (t :: l)) (A : Option Addr) (hA : 0 < l.length → A = some (ad.add 7)) : Src w g A (c - 1) l := by
  obtain ⟨h1, h2, h3⟩ := h.rd
  have hc := h.cap
  have hm := h.max
  rw [List.length_cons] at h2 hc
  refine ⟨⟨rfl, by omega, fun hp => ?_⟩, by omega, by omega, fun ad' e hp => ?_⟩
  · obtain ⟨ad', e, h4⟩ := h3 (by simp)
    injection e with e
    subst e
    refine ⟨_, hA hp, fun j p hj => ?_⟩
    obtain ⟨cs, c1, c2, c3⟩ := h4 (j + 1) p (by simpa using hj)
    refine ⟨cs, c1, c2, fun i u hi => ?_⟩
    have := c3 i u hi
    have e7 : k32.sz = 7 := rfl
    rw [e7] at this ⊢
    rw [add_add7, show 7 + (j * 7 + i) = (j + 1) * 7 + i from by omega]
    exact this
  · rw [hA hp] at e
    injection e with e
    subst e
    exact h.ne ad rfl (by simp)
theorem Src.of_R {w : World} {base : Nat} {ok : Nat → Prop} {v : Value} {l : List S32} {g : Nat} (h : Kd.R k32 32 w base ok v l) (hg : ∀ k, v.ownBlock = some k → k ≠ g) : ∃ A c, v = .slice A l.length c ∧ Src w g A c l := by
  obtain ⟨A, c, rfl, h1, h2⟩ := Kd.R_reads h
  refine ⟨A, c, rfl, h2, h1, ?_, fun ad e hp => ?_⟩
  · obtain ⟨_, inner, ho, hr⟩ := h
    rcases ho.2 with ⟨h0, h0'⟩ | ⟨g, cap, cur, hv, hg, hh, h1, h2, h3, h4⟩
    · injection h0 with _ _ h0
      subst h0
      simp [maxLen]
    · injection hv with _ _ hc
      subst hc
      exact h2
  · subst e
    have := hg ad.block
    obtain ⟨gb, cap, e2, _⟩ := Kd.R_form h hp
    injection e2 with e2
    injection e2 with e2
    subst e2
    exact hg _ (by simp [Value.ownBlock])
set_option maxHeartbeats 400000 in
theorem taker_calls (budget : Int) (w : World) : Calls Try.prog 44 #[.int .i64 budget] w fun e w' => e = .returned (.func (.func 55) #[] #[.pointer (some ⟨w.heap.size, 0, none⟩)]) ∧ w' = w.alloc (.cells #[.int .i64 budget] 3) := by
  go_enter Try.func44, Try.ntmps44
  go_wp2_with fail
  go_ret
  exact ⟨rfl, rfl⟩
set_option maxHeartbeats 400000 in
set_option maxRecDepth 100000 in
theorem take_no (t : S32) (g : Nat) (left : Int) (w : World) (h : w.heap[g]? = some (.cells #[.int .i64 left] 3 (0, 0))) (hl : ¬ t.f1 ≤ left) :
    Calls Try.prog 55 #[.agg #[.string t.f0.f0, .int .i64 t.f0.f1, .int .i64 t.f1, .int .i64 t.f2, .int .i64 t.f3.f0, .int .i64 t.f3.f1, .int .i64 t.f4], .pointer (some ⟨g, 0, none⟩)] w fun e w' => e = .returned (.bool false) ∧ Below w.heap.size w w' := by
  have hb := (Below.refl w.heap.size w).alloc (Nat.le_refl _) (.cells #[.string t.f0.f0, .int .i64 t.f0.f1, .int .i64 t.f1, .int .i64 t.f2, .int .i64 t.f3.f0, .int .i64 t.f3.f1, .int .i64 t.f4] 32)
  have hbl := blk_below h hb
  have hc : (w.alloc (.cells #[.string t.f0.f0, .int .i64 t.f0.f1, .int .i64 t.f1, .int .i64 t.f2, .int .i64 t.f3.f0, .int .i64 t.f3.f1, .int .i64 t.f4] 32)).cell? ⟨g, 0, none⟩ = some (.int .i64 left) := (blk_cell hbl 0).trans rfl
  have HB := Lib.hid hb
  have hd : decide (left < t.f1) = true := decide_eq_true (by omega)
  clear hb h hbl
  go_enter Try.func55, Try.ntmps55
  go_wp2_with fail
  go_ret
  exact ⟨rfl, HB.out⟩
set_option maxHeartbeats 400000 in
set_option maxRecDepth 100000 in
theorem take_yes (t : S32) (g : Nat) (left : Int) (w : World) (h : w.heap[g]? = some (.cells #[.int .i64 left] 3 (0, 0))) (hl : t.f1 ≤ left) (h0 : 0 ≤ t.f1) (hm : left ≤ 9223372036854775807) :
    Calls Try.prog 55 #[.agg #[.string t.f0.f0, .int .i64 t.f0.f1, .int .i64 t.f1, .int .i64 t.f2, .int .i64 t.f3.f0, .int .i64 t.f3.f1, .int .i64 t.f4], .pointer (some ⟨g, 0, none⟩)] w fun e w' => e = .returned (.bool true) ∧ w'.heap[g]? = some (.cells #[.int .i64 (left - t.f1)] 3 (0, 0)) ∧ Fr (fun i => i = g) w w' := by
  have hb := (Below.refl w.heap.size w).alloc (Nat.le_refl _) (.cells #[.string t.f0.f0, .int .i64 t.f0.f1, .int .i64 t.f1, .int .i64 t.f2, .int .i64 t.f3.f0, .int .i64 t.f3.f1, .int .i64 t.f4] 32)
  have hbl := blk_below h hb
  have hc : (w.alloc (.cells #[.string t.f0.f0, .int .i64 t.f0.f1, .int .i64 t.f1, .int .i64 t.f2, .int .i64 t.f3.f0, .int .i64 t.f3.f1, .int .i64 t.f4] 32)).cell? ⟨g, 0, none⟩ = some (.int .i64 left) := (blk_cell hbl 0).trans rfl
  have hfz := blk_frozen hbl 0
  have HBL := Lib.hid hbl
  have HB := Lib.hid hb
  have hd : decide (left < t.f1) = false := decide_eq_false (by omega)
  have hw : wrap64 (left - t.f1) = left - t.f1 := by unfold wrap64; omega
  clear hb h hbl
  go_enter Try.func55, Try.ntmps55
  go_wp2_with fail
  go_ret
  generalize w.alloc (.cells #[.string t.f0.f0, .int .i64 t.f0.f1, .int .i64 t.f1, .int .i64 t.f2, .int .i64 t.f3.f0, .int .i64 t.f3.f1, .int .i64 t.f4] 32) = w2 at *
  exact ⟨rfl, blk_put HBL.out 0 _ rfl, Fr.setCell (S := fun i => i = g) (Fr.of_below HB.out) (p := ⟨g, 0, none⟩) (fun _ => rfl) _⟩
end Go.Proofs.Ytkngdlmlijefbaa.Pq
