/- slices.Compact over tasks. -/
import Derived.Test.YtkngdlmlijefbaaTI
import Derived.Test.YtkngdlmlijefbaaTC
import Derived.Lib.SliceRun
import Derived.BigQuiet
namespace Go.Proofs.Ytkngdlmlijefbaa.Pq
open Go.RowKit Go.Proofs.YtkngdlmlijefbaaW.PrintWords Go.Proofs.YtkngdlmlijefbaaW.PrintLast Go.Proofs.YtkngdlmlijefbaaW.PrintMore Go.Proofs.Mp
open Go.Proofs.Ytkngdlmlijefbaa.PPriorityOrder
set_option linter.unusedVariables false
set_option linter.unusedSimpArgs false

def eqS (a b : S32) : Bool := (a.f0.f0.toList == b.f0.f0.toList && (a.f0.f1 == b.f0.f1)) && (a.f1 == b.f1 && (a.f2 == b.f2 && ((a.f3.f0 == b.f3.f0 && (a.f3.f1 == b.f3.f1)) && (a.f4 == b.f4))))
theorem ba_toList_inj {a b : ByteArray} (h : a.toList = b.toList) : a = b := by
  rw [ByteArray.toList_eq, ByteArray.toList_eq] at h
  cases a; cases b
  congr 1
  exact Array.toList_inj.1 h
theorem eqS_iff (a b : S32) : eqS a b = true ↔ a = b := by
  obtain ⟨⟨a0, a1⟩, a2, a3, ⟨a4, a5⟩, a6⟩ := a
  obtain ⟨⟨b0, b1⟩, b2, b3, ⟨b4, b5⟩, b6⟩ := b
  unfold eqS
  simp only [Bool.and_eq_true, beq_iff_eq, S32.mk.injEq, S28.mk.injEq, S30.mk.injEq]
  exact ⟨fun ⟨⟨h0, h1⟩, h2, h3, ⟨h4, h5⟩, h6⟩ => ⟨⟨ba_toList_inj h0, h1⟩, h2, h3, ⟨h4, h5⟩, h6⟩, fun ⟨⟨h0, h1⟩, h2, h3, ⟨h4, h5⟩, h6⟩ => ⟨⟨by rw [h0], h1⟩, h2, h3, ⟨h4, h5⟩, h6⟩⟩
def gt (l : List S32) (i : Nat) : S32 := l.getD i z32
theorem gt_some {l : List S32} {i : Nat} (h : i < l.length) : l[i]? = some (gt l i) := by
  unfold gt; rw [List.getD_eq_getElem?_getD, List.getElem?_eq_getElem h]; rfl
/-- The first j elements, equal ones beside one another once. -/
def cp (l : List S32) : Nat → List S32
  | 0 => []
  | 1 => l.take 1
  | j + 2 => if eqS (gt l (j + 1)) (gt l j) = true then cp l (j + 1) else cp l (j + 1) ++ [gt l (j + 1)]
theorem cp_len (l : List S32) : ∀ j, (cp l j).length ≤ j
  | 0 => Nat.le_refl _
  | 1 => by simp [cp]; omega
  | j + 2 => by
    have := cp_len l (j + 1)
    simp only [cp]
    split
    · omega
    · simp; omega
theorem cp_apart {l : List S32} : ∀ j, j ≤ l.length → (∀ i, i + 1 < j → eqS (gt l (i + 1)) (gt l i) = false) → cp l j = l.take j
  | 0, _, _ => by simp [cp]
  | 1, _, _ => rfl
  | j + 2, hj, h => by
    have ih := cp_apart (j + 1) (by omega) (fun i hi => h i (by omega))
    simp only [cp]
    rw [h j (by omega), if_neg (by simp), ih, List.take_succ_eq_append_getElem (by omega : j + 1 < l.length)]
    congr 2
    have := gt_some (l := l) (i := j + 1) (by omega)
    rw [List.getElem?_eq_getElem (by omega)] at this
    exact (Option.some.inj this).symm
theorem OwnT.puts {w : World} {g cap : Nat} {l : List S32} (h : OwnT w g cap l) {i : Nat} (hi : i < l.length) (a : S32) : OwnT (w.setCells g (i * 7) (tcs a)) g cap (l.set i a) := by
  obtain ⟨cur, h1, h2, h3, h4, h5⟩ := h
  obtain ⟨cur', e1, e2, e3⟩ := setCells_row (tcs a) (i * 7) w cur h1 (by rw [tcs_len]; omega)
  refine ⟨cur', e1, by rw [List.length_set]; exact h2, h3, by rw [e2, h4], ?_⟩
  rw [List.length_set]
  have hcl : cur'.toList.length = cap * 7 := by simp [e2, h4]
  have hta := tcs_len a
  generalize hts : tcs a = ts at *
  refine tflat_ext (by rw [List.length_take, List.length_set, hcl]; omega) fun k b hk c hc => ?_
  have hkl : k < l.length := by have := (List.getElem?_eq_some_iff.1 hk).1; simpa using this
  have hcc : cur.toList.length = cap * 7 := by simp [h4]
  rw [List.getElem?_take, if_pos (by omega), e3, hta]
  rw [List.getElem?_set] at hk
  by_cases hki : i = k
  · rw [if_pos hki, if_pos hi] at hk
    obtain rfl := Option.some.inj hk
    rw [hts, List.append_assoc, List.getElem?_append_right (by rw [List.length_take]; omega), List.length_take, List.getElem?_append_left (by omega), show k * 7 + c - min (i * 7) cur.toList.length = c from by omega]
  · rw [if_neg hki] at hk
    have hold := tflat_get l k c b hk hc
    rw [← h5, List.getElem?_take, if_pos (by omega)] at hold
    rw [← hold]
    rcases Nat.lt_or_gt_of_ne hki with hlt | hgt
    · have e : (cur.toList.take (i * 7) ++ ts).length = i * 7 + 7 := by rw [List.length_append, List.length_take]; omega
      rw [List.getElem?_append_right (by omega), List.getElem?_drop, e, show i * 7 + 7 + (k * 7 + c - (i * 7 + 7)) = k * 7 + c from by omega]
    · rw [List.append_assoc, List.getElem?_append_left (by rw [List.length_take]; omega), List.getElem?_take, if_pos (by omega)]
theorem OwnT.clears {w : World} {g cap : Nat} {l : List S32} (h : OwnT w g cap l) {k : Nat} (hk : k ≤ l.length) (vs : List Value) (hv : vs.length = (l.length - k) * 7) : OwnT (w.setCells g (k * 7) vs) g cap (l.take k) := by
  obtain ⟨cur, h1, h2, h3, h4, h5⟩ := h
  obtain ⟨cur', e1, e2, e3⟩ := setCells_row vs (k * 7) w cur h1 (by rw [hv]; omega)
  refine ⟨cur', e1, by rw [List.length_take]; omega, h3, by rw [e2, h4], ?_⟩
  have hcc : cur.toList.length = cap * 7 := by simp [h4]
  rw [List.length_take, Nat.min_eq_left hk, e3, List.append_assoc, List.take_append_of_le_length (by rw [List.length_take]; omega), List.take_take, Nat.min_self, ← tflat_take, ← h5, List.take_take, Nat.min_eq_left (by omega)]
theorem zero32 (w : World) : (zeroValue 32).run Try.prog w = .ok (.agg #[.string ⟨#[]⟩, .int .i64 0, .int .i64 0, .int .i64 0, .int .i64 0, .int .i64 0, .int .i64 0]) w := by kernel_rfl
theorem run_clear7 (w : World) (ty : TypeId) (b o n c : Nat) (hn : 0 < n) (hc : ∀ j, j < n * 7 → (w.cell? ⟨b, o + j, none⟩).isSome = true) (hf : ∀ j, j < n * 7 → w.frozen? ⟨b, o + j, none⟩ = false) :
    ∃ vs : List Value, vs.length = n * 7 ∧ (Builtin.clear_ #[47] ty #[.slice (some ⟨b, o, none⟩) n c]).run Try.prog w = .ok (.tuple #[]) (w.setCells b o vs) := by
  refine ⟨(Builtin.zeroCells (Value.agg #[.string ⟨#[]⟩, .int .i64 0, .int .i64 0, .int .i64 0, .int .i64 0, .int .i64 0, .int .i64 0]).cells n).toList, by simp [Builtin.zeroCells, Value.cells], ?_⟩
  have hst := run_storeCells_cells (P := Try.prog) b o (Builtin.zeroCells (Value.agg #[.string ⟨#[]⟩, .int .i64 0, .int .i64 0, .int .i64 0, .int .i64 0, .int .i64 0, .int .i64 0]).cells n).toList 0 w (by simpa [Builtin.zeroCells, Value.cells] using hc) (by simpa [Builtin.zeroCells, Value.cells] using hf) (by
    intro v hv
    simp only [Builtin.zeroCells, Value.cells, Array.toList_map, List.mem_map] at hv
    obtain ⟨i, _, rfl⟩ := hv
    have : i % 7 = 0 ∨ i % 7 = 1 ∨ i % 7 = 2 ∨ i % 7 = 3 ∨ i % 7 = 4 ∨ i % 7 = 5 ∨ i % 7 = 6 := by omega
    rcases this with h | h | h | h | h | h | h <;> simp [h, Value.oneCell'])
  simp only [Nat.add_zero] at hst
  obtain ⟨m, rfl⟩ : ∃ m, n = m + 1 := ⟨n - 1, by omega⟩
  simp [Builtin.clear_, run_underlying Try.underlying47, zero32, hst]
/-- The row while Compact goes over it. -/
structure KI (l dk : List S32) (k j : Nat) : Prop where
  len : dk.length = l.length
  kj : k < j
  jn : j ≤ l.length
  kept : dk.take k = cp l j
  rest : ∀ i, j ≤ i + 1 → dk[i]? = l[i]?
theorem KI.start {l : List S32} {k : Nat} (hk : 0 < k) (hkl : k < l.length) (h : ∀ i, i + 1 < k → eqS (gt l (i + 1)) (gt l i) = false) (he : eqS (gt l k) (gt l (k - 1)) = true) : KI l l k (k + 1) := by
  obtain ⟨m, rfl⟩ : ∃ m, k = m + 1 := ⟨k - 1, by omega⟩
  refine ⟨rfl, by omega, by omega, ?_, fun i _ => rfl⟩
  rw [← cp_apart (m + 1) (by omega) h]
  simp only [cp]
  rw [if_pos (show eqS (gt l (m + 1)) (gt l m) = true from he)]
theorem KI.skip {l dk : List S32} {k j : Nat} (h : KI l dk k j) (hj : j < l.length) (he : eqS (gt l j) (gt l (j - 1)) = true) : KI l dk k (j + 1) := by
  have hkj := h.kj
  obtain ⟨m, rfl⟩ : ∃ m, j = m + 1 := ⟨j - 1, by omega⟩
  refine ⟨h.len, by omega, by omega, ?_, fun i hi => h.rest i (by omega)⟩
  rw [h.kept]
  simp only [cp]
  rw [if_pos (show eqS (gt l (m + 1)) (gt l m) = true from he)]
theorem KI.keep {l dk : List S32} {k j : Nat} (h : KI l dk k j) (hj : j < l.length) (he : eqS (gt l j) (gt l (j - 1)) = false) : KI l (dk.set k (gt l j)) (k + 1) (j + 1) := by
  have hkj := h.kj
  have hlen := h.len
  obtain ⟨m, rfl⟩ : ∃ m, j = m + 1 := ⟨j - 1, by omega⟩
  refine ⟨by rw [List.length_set]; exact h.len, by omega, by omega, ?_, fun i hi => ?_⟩
  · simp only [cp]
    rw [show m + 1 - 1 = m from rfl] at he
    rw [he, if_neg (by simp), ← h.kept, List.take_succ_eq_append_getElem (by rw [List.length_set]; omega)]
    simp [List.take_set_of_le]
  · rw [List.getElem?_set, if_neg (by omega)]
    exact h.rest i (by omega)
theorem KI.last {l dk : List S32} {k : Nat} (h : KI l dk k l.length) : dk.take k = cp l l.length ∧ (cp l l.length).length = k := by
  refine ⟨h.kept, ?_⟩
  rw [← h.kept, List.length_take]
  have := h.len
  have := h.kj
  omega
end Go.Proofs.Ytkngdlmlijefbaa.Pq
