/- The told days: the row of them, the predicate, the first that is none. -/
import Derived.Test.YtpacadeldhcckaaDB
import Derived.Lib.SliceRun
namespace Go.Proofs.Ytpacadeldhcckaa.Dc
open Go.RowKit Go.Proofs.YtpacadeldhcckaaW.PrintWords Go.Proofs.YtpacadeldhcckaaW.PrintLast Go.Proofs.YtpacadeldhcckaaW.PrintMore Go.Proofs.Mp
set_option linter.unusedVariables false
set_option linter.unusedSimpArgs false

theorem flat_len (l : List (Bool × Int)) : (flat l).length = 2 * l.length := by
  unfold flat
  induction l with
  | nil => rfl
  | cons p l ih => simp only [List.flatMap_cons, List.length_append, List.length_cons, List.length_nil, ih]; omega
theorem flat_get0 : ∀ (l : List (Bool × Int)) (i : Nat) (p : Bool × Int), l[i]? = some p → (flat l)[i * 2]? = some (.bool p.1) ∧ (flat l)[i * 2 + 1]? = some (.int .i64 p.2)
  | [], i, p, h => by simp at h
  | q :: l, 0, p, h => by simp at h; subst h; simp [flat]
  | q :: l, i + 1, p, h => by
    have ih := flat_get0 l i p (by simpa using h)
    have e : flat (q :: l) = .bool q.1 :: .int .i64 q.2 :: flat l := rfl
    rw [e, show (i + 1) * 2 = i * 2 + 1 + 1 from by omega]
    simpa using ih
theorem flat_set : ∀ (l : List (Bool × Int)) (i : Nat) (p : Bool × Int), flat (l.set i p) = ((flat l).set (i * 2) (.bool p.1)).set (i * 2 + 1) (.int .i64 p.2)
  | [], i, p => by simp [flat]
  | q :: l, 0, p => by simp [flat]
  | q :: l, i + 1, p => by
    have ih := flat_set l i p
    have e : ∀ (q : Bool × Int) l, flat (q :: l) = .bool q.1 :: .int .i64 q.2 :: flat l := fun _ _ => rfl
    rw [List.set_cons_succ, e, e, ih, show (i + 1) * 2 = i * 2 + 1 + 1 from by omega]
    simp
/-- Block g is the row l (a copy of the clock's array). -/
def Row (w : World) (g : Nat) (l : List (Bool × Int)) : Prop := w.heap[g]? = some (.cells (flat l).toArray 49 (0, 0))
theorem Row.c0 {w : World} {g : Nat} {l : List (Bool × Int)} (h : Row w g l) (i : Nat) (p : Bool × Int) (hp : l[i]? = some p) : w.cell? ⟨g, i * 2, none⟩ = some (.bool p.1) :=
  (blk_cell h _).trans (by simpa using (flat_get0 l i p hp).1)
theorem Row.c1 {w : World} {g : Nat} {l : List (Bool × Int)} (h : Row w g l) (i : Nat) (p : Bool × Int) (hp : l[i]? = some p) : w.cell? ⟨g, i * 2 + 1, none⟩ = some (.int .i64 p.2) :=
  (blk_cell h _).trans (by simpa using (flat_get0 l i p hp).2)
theorem Row.put {w : World} {g : Nat} {l : List (Bool × Int)} (h : Row w g l) (i : Nat) (p : Bool × Int) : Row ((w.setCell ⟨g, i * 2, none⟩ (.bool p.1)).setCell ⟨g, i * 2 + 1, none⟩ (.int .i64 p.2)) g (l.set i p) :=
  blk_put (blk_put h _ _ rfl) _ _ (by rw [flat_set]; simp)

set_option maxRecDepth 100000 in
/-- The predicate of DeleteFunc. -/
theorem none_calls (b : Bool) (d : Int) (w : World) : Calls Try.prog 19 #[.agg #[.bool b, .int .i64 d]] w fun e w' => e = .returned (.bool (!b)) ∧ Below w.heap.size w w' := by
  have HB := Lib.hid ((Below.refl w.heap.size w).alloc (Nat.le_refl _) (.cells #[.bool b, .int .i64 d] 48))
  go_enter Try.func19, Try.ntmps19
  go_wp2_with fail
  go_ret
  exact ⟨rfl, HB.out⟩
set_option maxHeartbeats 400000 in
set_option maxRecDepth 100000 in
theorem Index_calls (g : Nat) (l : List (Bool × Int)) (w : World) (h : Row w g l) (hl : l.length = 12) :
    Calls Try.prog 22 #[.slice (some ⟨g, 0, none⟩) 12 12, .func (.func 19) #[] #[]] w fun e w' => ((e = .returned (.int .i64 (-1)) ∧ ∀ p ∈ l, p.1 = true) ∨ ∃ k : Nat, e = .returned (.int .i64 k) ∧ k < 12 ∧ (∀ p ∈ l.take k, p.1 = true) ∧ ∃ d, l[k]? = some (false, d)) ∧ Below w.heap.size w w' := by
  have H := Lib.hid h
  clear h
  go_enter Try.func22, Try.ntmps22
  go_wp2_with fail
  go_loopw [8] (fun v wr => ∃ k : Nat, k ≤ 12 ∧ v = .int .i64 k ∧ Hid (∀ p ∈ l.take k, p.1 = true) ∧ Hid (Below w.heap.size w wr)) (fun v _ => 12 - (intOf v).toNat)
  case atStart => exact ⟨0, by omega, rfl, Lib.hid (by simp), Lib.hid (Below.refl _ _)⟩
  case round =>
    obtain ⟨k, hk, rfl, hall, hB⟩ := hrel
    by_cases hlt : k < 12
    · have hdec : decide ((k : Int) < 12) = true := decide_eq_true (by omega)
      obtain ⟨p, hp⟩ : ∃ p, l[k]? = some p := ⟨_, List.getElem?_eq_getElem (by omega)⟩
      have HR := Lib.hid (show Row wr g l from blk_below H.out hB.out)
      have hc0 := HR.out.c0 k p hp
      have hc1 := HR.out.c1 k p hp
      obtain ⟨pb, pd⟩ := p
      simp only at hc0 hc1
      have Hp := Lib.hid hp
      have HB := Lib.hid hB.out
      clear hp hB
      cases pb with
      | true =>
        go_wp2_with fail
        refine (none_calls true pd _).mono ?_
        rintro e w2 ⟨rfl, hb⟩
        have HB2 := Lib.hid (HB.out.trans (hb.mono HB.out.size))
        clear hb hc0 hc1
        go_wp2_with fail
        go_roundw
        case rel => exact ⟨k + 1, by omega, by go_num, Lib.hid (fun q hq => by
          obtain ⟨hk2, hp2⟩ := List.getElem?_eq_some_iff.1 Hp.out
          rw [List.take_succ_eq_append_getElem hk2, hp2] at hq
          rcases List.mem_append.1 hq with h | h
          · exact hall.out q h
          · simp at h; subst h; rfl), HB2⟩
        case measure => simp [intOf]; omega
      | false =>
        go_wp2_with fail
        refine (none_calls false pd _).mono ?_
        rintro e w2 ⟨rfl, hb⟩
        have HB2 := Lib.hid (HB.out.trans (hb.mono HB.out.size))
        clear hb hc0 hc1
        go_wp2_with fail
        go_ret
        exact ⟨.inr ⟨k, rfl, hlt, hall.out, pd, Hp.out⟩, HB2.out⟩
    · have hdec : decide ((k : Int) < 12) = false := decide_eq_false (by omega)
      obtain rfl : k = 12 := by omega
      have Hall := Lib.hid (show ∀ p ∈ l, p.1 = true from by have := hall.out; rwa [← hl, List.take_length] at this)
      go_wp2_with fail
      go_ret
      exact ⟨.inl ⟨rfl, Hall.out⟩, hB.out⟩
theorem zero48 (w : World) : (zeroValue 48).run Try.prog w = .ok (.agg #[.bool false, .int .i64 0]) w := by kernel_rfl
theorem run_clear2 (w : World) (ty : TypeId) (b o n c : Nat) (hn : 0 < n) (hc : ∀ j, j < n * 2 → (w.cell? ⟨b, o + j, none⟩).isSome = true) (hf : ∀ j, j < n * 2 → w.frozen? ⟨b, o + j, none⟩ = false) :
    ∃ vs : List Value, vs.length = n * 2 ∧ (Builtin.clear_ #[52] ty #[.slice (some ⟨b, o, none⟩) n c]).run Try.prog w = .ok (.tuple #[]) (w.setCells b o vs) := by
  refine ⟨(Builtin.zeroCells (Value.agg #[.bool false, .int .i64 0]).cells n).toList, by simp [Builtin.zeroCells, Value.cells], ?_⟩
  have hst := run_storeCells_cells (P := Try.prog) b o (Builtin.zeroCells (Value.agg #[.bool false, .int .i64 0]).cells n).toList 0 w (by simpa [Builtin.zeroCells, Value.cells] using hc) (by simpa [Builtin.zeroCells, Value.cells] using hf) (by
    intro v hv
    simp only [Builtin.zeroCells, Value.cells, Array.toList_map, List.mem_map] at hv
    obtain ⟨i, _, rfl⟩ := hv
    have : i % 2 = 0 ∨ i % 2 = 1 := by omega
    rcases this with h | h <;> simp [h, Value.oneCell'])
  simp only [Nat.add_zero] at hst
  obtain ⟨m, rfl⟩ : ∃ m, n = m + 1 := ⟨n - 1, by omega⟩
  simp [Builtin.clear_, run_underlying Try.underlying52, zero48, hst]
theorem flat_take : ∀ (l : List (Bool × Int)) (i : Nat), (flat l).take (i * 2) = flat (l.take i)
  | l, 0 => by simp [flat]
  | [], i + 1 => by simp [flat]
  | q :: l, i + 1 => by
    have ih := flat_take l i
    have e : ∀ (q : Bool × Int) l, flat (q :: l) = .bool q.1 :: .int .i64 q.2 :: flat l := fun _ _ => rfl
    rw [List.take_succ_cons, e, e, show (i + 1) * 2 = i * 2 + 1 + 1 from by omega, List.take_succ_cons, List.take_succ_cons, ih]
/-- The row while DeleteFunc goes over it. -/
structure KI (l dk : List (Bool × Int)) (i j : Nat) : Prop where
  len : dk.length = 12
  ij : i < j
  j12 : j ≤ 12
  kept : dk.take i = (l.take j).filter (·.1)
  rest : dk.drop j = l.drop j
theorem KI.at {l dk : List (Bool × Int)} {i j : Nat} (h : KI l dk i j) (hj : j < 12) (hl : l.length = 12) : dk[j]? = l[j]? := by
  have := congrArg (fun x => x[0]?) h.rest
  simpa [List.getElem?_drop] using this
theorem KI.keep {l dk : List (Bool × Int)} {i j : Nat} (h : KI l dk i j) (hl : l.length = 12) {d : Int} (hj : l[j]? = some (true, d)) : KI l (dk.set i (true, d)) (i + 1) (j + 1) := by
  obtain ⟨hj1, hj2⟩ := List.getElem?_eq_some_iff.1 hj
  have hi := h.ij
  have hlen := h.len
  refine ⟨by rw [List.length_set]; exact hlen, by omega, by omega, ?_, ?_⟩
  · rw [List.take_succ_eq_append_getElem hj1, List.filter_append, ← h.kept, hj2, List.take_succ_eq_append_getElem (by rw [List.length_set]; omega)]
    simp [List.take_set_of_le]
  · rw [List.drop_set_of_lt (by omega)]
    have := congrArg (List.drop 1) h.rest
    simpa [List.drop_drop] using this
theorem KI.skip {l dk : List (Bool × Int)} {i j : Nat} (h : KI l dk i j) (hl : l.length = 12) {d : Int} (hj : l[j]? = some (false, d)) : KI l dk i (j + 1) := by
  obtain ⟨hj1, hj2⟩ := List.getElem?_eq_some_iff.1 hj
  have hi := h.ij
  refine ⟨h.len, by omega, by omega, ?_, ?_⟩
  · rw [List.take_succ_eq_append_getElem hj1, List.filter_append, ← h.kept, hj2]
    simp
  · have := congrArg (List.drop 1) h.rest
    simpa [List.drop_drop] using this
theorem KI.start {l : List (Bool × Int)} {k : Nat} (hl : l.length = 12) (hk : k < 12) (hall : ∀ p ∈ l.take k, p.1 = true) {d : Int} (hd : l[k]? = some (false, d)) : KI l l k (k + 1) := by
  obtain ⟨hj1, hj2⟩ := List.getElem?_eq_some_iff.1 hd
  refine ⟨hl, by omega, by omega, ?_, rfl⟩
  rw [List.take_succ_eq_append_getElem hj1, List.filter_append, hj2]
  simp only [List.filter_cons, List.filter_nil]
  simp
  exact (List.filter_eq_self.2 (fun p hp => hall p hp)).symm
set_option maxHeartbeats 400000 in
set_option maxRecDepth 100000 in
/-- slices.DeleteFunc over the told days: those that are none go. -/
theorem Delete_calls (g : Nat) (l : List (Bool × Int)) (w : World) (h : Row w g l) (hl : l.length = 12) :
    Calls Try.prog 18 #[.slice (some ⟨g, 0, none⟩) 12 12, .func (.func 19) #[] #[]] w fun e w' => ∃ cs : Array Value, e = .returned (.slice (some ⟨g, 0, none⟩) (l.filter (·.1)).length 12) ∧ w'.heap[g]? = some (.cells cs 49 (0, 0)) ∧ cs.size = 24 ∧ cs.toList.take ((l.filter (·.1)).length * 2) = flat (l.filter (·.1)) ∧ Fr (fun i => i = g) w w' := by
  have H := Lib.hid h
  have HI := Lib.hid (Index_calls g l w h hl)
  have hgl := blk_lt h
  clear h
  go_enter Try.func18, Try.ntmps18
  go_wp2_with fail
  refine HI.out.mono ?_
  rintro e w1 ⟨(⟨rfl, hall⟩ | ⟨k, rfl, hk, hall, d, hd⟩), hb⟩
  · have HA := Lib.hid hall
    have HB := Lib.hid hb
    clear hall hb
    go_wp2_with fail
    go_ret
    have hf : l.filter (·.1) = l := List.filter_eq_self.2 (fun p hp => HA.out p hp)
    refine ⟨(flat l).toArray, ?_, blk_below H.out HB.out, by simp [flat_len, hl], by rw [hf, List.toList_toArray, flat_take, List.take_length], Fr.of_below HB.out⟩
    rw [hf, hl]
    rfl
  · have hne : ((k : Int) == -1) = false := beq_eq_false_iff_ne.2 (by omega)
    have HK := Lib.hid (KI.start hl hk hall hd)
    have HB := Lib.hid hb
    clear hall hb hd
    have HF1 := Lib.hid (Fr.of_below (S := fun x => x = g) HB.out)
    have HR1 := Lib.hid (show Row w1 g l from blk_below H.out HB.out)
    go_wp2_with fail
    go_loopw [5, 6] (fun vi vj wr => ∃ (i j : Nat) (dk : List (Bool × Int)), vi = .int .i64 i ∧ vj = .int .i64 j ∧ i < j ∧ j ≤ 12 ∧ Hid (KI l dk i j) ∧ Hid (Row wr g dk) ∧ Hid (Fr (fun x => x = g) w wr)) (fun _ vj _ => 12 - (intOf vj).toNat)
    case atStart => exact ⟨k, k + 1, l, rfl, by go_num, by omega, by omega, HK, HR1, HF1⟩
    case round =>
      obtain ⟨i, j, dk, rfl, rfl, hij, hj, hKI, hR, hF⟩ := hrel
      have HKI := Lib.hid hKI.out
      have HF := Lib.hid hF.out
      have HR := Lib.hid hR.out
      clear hKI hR hF HK HF1 HR1
      by_cases hlt : j < 12
      · have hdec : decide ((j : Int) < 12) = true := decide_eq_true (by omega)
        obtain ⟨p, hp⟩ : ∃ p, l[j]? = some p := ⟨_, List.getElem?_eq_getElem (by omega)⟩
        have hp2 : dk[j]? = some p := (HKI.out.at hlt hl).trans hp
        have hc0 := HR.out.c0 j p hp2
        have hc1 := HR.out.c1 j p hp2
        obtain ⟨pb, pd⟩ := p
        simp only at hc0 hc1
        have Hp := Lib.hid hp
        have HBx := Lib.hid ((Below.refl wr.heap.size wr).alloc (Nat.le_refl _) (.cells #[.bool pb, .int .i64 pd] 48))
        have Hx := Lib.hid (blk_new wr (.cells #[.bool pb, .int .i64 pd] 48))
        clear hp hp2
        cases pb with
        | true =>
          go_wp2_with fail
          refine (none_calls true pd _).mono ?_
          rintro e w2 ⟨rfl, hb⟩
          have HR2 := Lib.hid (show Row w2 g dk from blk_below (blk_below HR.out HBx.out) hb)
          have HF2 := Lib.hid (HF.out.then_below (HBx.out.trans (hb.mono HBx.out.size)))
          have Hx2 := Lib.hid (blk_below Hx.out hb)
          have hx0 : w2.cell? ⟨wr.heap.size, 0, none⟩ = some (.bool true) := (blk_cell Hx2.out 0).trans rfl
          have hx1 : w2.cell? ⟨wr.heap.size, 1, none⟩ = some (.int .i64 pd) := (blk_cell Hx2.out 1).trans rfl
          have hf0 : w2.frozen? ⟨g, i * 2, none⟩ = false := blk_frozen HR2.out _
          have hf1 : w2.frozen? ⟨g, i * 2 + 1, none⟩ = false := blk_frozen HR2.out _
          obtain ⟨q, hq⟩ : ∃ q, dk[i]? = some q := ⟨_, List.getElem?_eq_getElem (by have := HKI.out.len; omega)⟩
          have hq0 := HR2.out.c0 i q hq
          have hq1 := HR2.out.c1 i q hq
          have hi12 : i < 12 := by omega
          clear hb hc0 hc1 hq Hx Hx2
          go_wp2_with fail
          go_roundw
          case rel => exact ⟨i + 1, j + 1, dk.set i (true, pd), by go_num, by go_num, by omega, by omega, Lib.hid (HKI.out.keep hl Hp.out), Lib.hid (HR2.out.put i (true, pd)), Lib.hid ((HF2.out.setCell (fun _ => rfl) _).setCell (fun _ => rfl) _)⟩
          case measure => simp [intOf]; omega
        | false =>
          go_wp2_with fail
          refine (none_calls false pd _).mono ?_
          rintro e w2 ⟨rfl, hb⟩
          have HR2 := Lib.hid (show Row w2 g dk from blk_below (blk_below HR.out HBx.out) hb)
          have HF2 := Lib.hid (HF.out.then_below (HBx.out.trans (hb.mono HBx.out.size)))
          clear hb hc0 hc1 Hx
          go_wp2_with fail
          go_roundw
          case rel => exact ⟨i, j + 1, dk, rfl, by go_num, by omega, by omega, Lib.hid (HKI.out.skip hl Hp.out), HR2, HF2⟩
          case measure => simp [intOf]; omega
      · have hdec : decide ((j : Int) < 12) = false := decide_eq_false (by omega)
        obtain rfl : j = 12 := by omega
        have Hkept : Hid (dk.take i = l.filter (·.1)) := Lib.hid (by have := HKI.out.kept; rwa [← hl, List.take_length] at this)
        have hil : Hid ((l.filter (·.1)).length = i) := Lib.hid (by
          rw [← Hkept.out, List.length_take]
          have := HKI.out.len
          omega)
        have hsz : (flat dk).toArray.size = 24 := by simp [flat_len, HKI.out.len]
        obtain ⟨vs, hvl, hcl⟩ := run_clear2 wr 0 g (i * 2) (12 - i) (12 - i) (by omega)
          (fun j hj => by rw [blk_cell HR.out, Array.getElem?_eq_getElem (by rw [hsz]; omega)]; rfl) (fun j hj => blk_frozen HR.out _)
        have Hset := Lib.hid (setCells_row vs (i * 2) wr _ HR.out (by rw [hsz, hvl]; omega))
        have HF2 : Hid (Fr (fun x => x = g) wr (wr.setCells g (i * 2) vs)) := Lib.hid (by
          obtain ⟨e1, e2, e3, e4⟩ := setCells_same g vs (i * 2) wr
          exact ⟨e1, e2, e3, by rw [e4]; exact Nat.le_refl _, fun x hx hn => setCells_far vs (i * 2) x hn⟩)
        have hi12 : i < 12 := by omega
        clear hvl hsz
        go_wp2_with fail
        go_ret
        obtain ⟨cur', h1, h2, h3⟩ := Hset.out
        have hlen := HKI.out.len
        refine ⟨?_, cur', h1, by rw [h2]; simp [flat_len, hlen], ?_, HF.out.trans HF2.out (fun _ _ h => h)⟩
        · rw [hil.out]; rfl
        · rw [hil.out, h3, List.append_assoc, List.take_append_of_le_length (by rw [List.length_take, flat_len]; omega), List.take_take, Nat.min_self, flat_take, Hkept.out]
end Go.Proofs.Ytpacadeldhcckaa.Dc
