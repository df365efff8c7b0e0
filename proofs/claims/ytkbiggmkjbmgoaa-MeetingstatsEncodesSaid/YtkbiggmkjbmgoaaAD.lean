/- The wire writer. -/
import Derived.Test.YtkbiggmkjbmgoaaAC
import Derived.Test.YtkbiggmkjbmgoaaD
namespace Go.Proofs.Ytkbiggmkjbmgoaa.Bk
open Go.RowKit Go.Proofs.YtkbiggmkjbmgoaaW.PrintWords Go.Proofs.YtkbiggmkjbmgoaaW.PrintLast Go.Proofs.YtkbiggmkjbmgoaaW.PrintMore Go.Proofs.Mp
set_option linter.unusedVariables false
set_option linter.unusedSimpArgs false

/-- BLOCK g IS A WRITER WITHOUT ERROR THAT HAS THE BYTES xs; ITS MEMORY IS S. -/
def WrAt (w : World) (g : Nat) (xs : List Int) (S : Nat → Prop) : Prop :=
  ∃ v, w.heap[g]? = some (.cells #[v, .int .i64 0] 103 (0, 0)) ∧ S g ∧ Kd.R (Kd.int .u8) 5 w 0 (fun k => S k ∧ k ≠ g) v xs ∧ ∀ i, S i → i < w.heap.size
theorem WrAt.keep {w w' : World} {g : Nat} {xs : List Int} {S T : Nat → Prop} (h : WrAt w g xs S) (hf : Fr T w w') (hd : ∀ i, S i → ¬ T i) : WrAt w' g xs S := by
  obtain ⟨v, h1, h2, h3, h4⟩ := h
  exact ⟨v, hf.heap h1 (hd g h2), h2, Kd.R_move h3 (fun k hk => hf.block k (h4 k hk.1) (hd k hk.1)), fun i hi => Nat.lt_of_lt_of_le (h4 i hi) hf.size⟩
theorem WrAt.below {w w' : World} {g : Nat} {xs : List Int} {S : Nat → Prop} (h : WrAt w g xs S) (hb : Below w.heap.size w w') : WrAt w' g xs S :=
  h.keep (T := fun _ => False) (Fr.of_below hb) (fun _ _ h => h)
theorem WrAt.c1 {w : World} {g : Nat} {xs : List Int} {S : Nat → Prop} (h : WrAt w g xs S) : w.cell? ⟨g, 1, none⟩ = some (.int .i64 0) := by
  obtain ⟨v, h1, _⟩ := h
  exact (blk_cell h1 1).trans rfl

theorem NewWriter_calls (w : World) :
    Calls Try.prog 44 #[] w fun e w' => ∃ g, e = .returned (.pointer (some ⟨g, 0, none⟩)) ∧ WrAt w' g [] (fun i => i = g) ∧ w.heap.size ≤ g ∧ Below w.heap.size w w' := by
  have HB := Lib.hid ((Below.refl w.heap.size w).alloc (Nat.le_refl _) (.cells #[.slice none 0 0, .int .i64 0] 103))
  have HN := Lib.hid (blk_new w (.cells #[.slice none 0 0, .int .i64 0] 103))
  go_enter Try.func44, Try.ntmps44
  go_wp2_with fail
  go_ret
  refine ⟨_, rfl, ⟨_, HN.out, rfl, Kd.R_nil _ _ _ _ _, fun i hi => ?_⟩, Nat.le_refl _, HB.out⟩
  subst hi
  exact blk_lt HN.out

theorem R_none' {α : Type} (d : Kd α) (e : Nat) (W : World) (base : Nat) (hb : base ≤ W.heap.size) (ok : Nat → Prop) (hok : ok W.heap.size) : Kd.R d e (W.alloc (.cells #[] e)) base ok (.slice (some ⟨W.heap.size, 0, none⟩) 0 0) [] := by
  refine ⟨fun k hk => ?_, [], ?_, by simp, fun i p hp => by simp at hp⟩
  · have : W.heap.size = k := by simpa [Value.ownBlock] using hk
    exact this ▸ hok
  · have h := World.ownsRow_lit (base := base) (e := e) (size := d.sz) W #[] 0 hb (by simp [maxLen]) (by simp)
    exact h

set_option maxRecDepth 100000 in
theorem raw_calls (g : Nat) (xs : List Int) (S : Nat → Prop) (A : Option Addr) (c : Nat) (ys : List Int) (w : World) (h : WrAt w g xs S) (hy : Kd.C (Kd.int .u8) w A ys.length ys) (hl : xs.length + ys.length ≤ 1000000000) :
    Calls Try.prog 60 #[.pointer (some ⟨g, 0, none⟩), .slice A ys.length c] w fun e w' => e = .returned (.tuple #[]) ∧ ∃ S', (∀ i, S' i → S i ∨ w.heap.size ≤ i) ∧ Fr S w w' ∧ WrAt w' g (xs ++ ys) S' := by
  obtain ⟨v, h1, h2, h3, h4⟩ := h
  have hc0 : w.cell? ⟨g, 0, none⟩ = some v := (blk_cell h1 0).trans rfl
  have hc1 : w.cell? ⟨g, 1, none⟩ = some (.int .i64 0) := (blk_cell h1 1).trans rfl
  have HR := Lib.hid (Kd.R_mono h3 (ok' := fun k => (S k ∧ k ≠ g) ∨ w.heap.size ≤ k) (fun k hk => .inl hk))
  have HY := Lib.hid hy
  have H1 := Lib.hid h1
  have Hne : Hid (v.ownBlock ≠ some g ∧ ∀ k, v.ownBlock = some k → S k) := Lib.hid ⟨fun e => (h3.1 g e).2 rfl, fun k e => (h3.1 k e).1⟩
  have H2 := Lib.hid h2
  have H4 := Lib.hid h4
  clear h1 h2 h3 h4 hy
  go_enter Try.func60, Try.ntmps60
  go_wp2_with (at_builtin; refine Kd.R_append_rows (Kd.int .u8) (w0 := w) 0 rfl (.tmp 13) (.tmp 14) 53 5 (.int .u8 0) 1 rfl Try.underlying53 PMeetingstatsEncodes.info5 rfl (by decide) (by omega) v xs ys _ _ _ (fun k => (S k ∧ k ≠ g) ∨ w.heap.size ≤ k) (fun _ => False) rfl rfl HR.out HY.out (fun _ _ h => h) (fun _ h => h.elim) (fun k hk => .inr hk) (Below.refl 0 w |>.mono (Nat.zero_le _)) (Nat.zero_le _) (by omega) ?_; intro v1 w1 ho1 hB1 hg1 hat1; obtain ⟨A1, c1, hv1, _, _⟩ := Kd.R_reads ho1; subst hv1; have hq0 := grown_cell hg1 hc0 Hne.out.1; have hq1 := grown_cell hg1 hc1 Hne.out.1; have hf0 := blk_frozen (blk_grown H1.out hg1 (fun e => Hne.out.1 e.symm)) 0; have HO1 := Lib.hid ho1; have HG1 := Lib.hid hg1; have HA1 := Lib.hid hat1; clear ho1 hB1 hg1 hat1)
  go_end0
  refine ⟨rfl, fun k => S k ∨ (w.heap.size ≤ k ∧ k < w1.heap.size), fun i hi => hi.elim .inl (fun h => .inr h.1), ?_, ?_⟩
  · exact ((Fr.refl S w).grown HG1.out (fun k hk _ => Hne.out.2 k hk)).setCell (fun _ => H2.out) _
  · have hb1 := blk_grown H1.out HG1.out (fun e => Hne.out.1 e.symm)
    have hgw : g < w.heap.size := blk_lt H1.out
    have hsz := HG1.out.size
    refine ⟨_, blk_put hb1 0 _ rfl, .inl H2.out, ?_, fun i hi => ?_⟩
    · have h5 := Kd.R_bound (Kd.R_types HO1.out hb1 (fun q hq => by simp [Kd.int, Kd.scalar] at hq; omega))
      rw [List.length_append] at h5
      refine Kd.R_mono (Kd.R_move h5 (fun k hk => Below.heap_setCell _ _ _ _ (fun e => hk.1.2 (by first | exact e | exact e.symm)))) (fun k hk => ⟨?_, hk.1.2⟩)
      rcases hk.1.1 with h | h
      · exact .inl h.1
      · exact .inr ⟨h, hk.2.2.1⟩
    · have : i < w1.heap.size := by rcases hi with h | h
                                    · exact Nat.lt_of_lt_of_le (H4.out i h) hsz
                                    · exact h.2
      simpa using this

set_option maxRecDepth 100000 in
theorem appended_calls (n : Nat) (w : World) (hn : n < 18446744073709551616) :
    Calls Try.prog 61 #[.slice none 0 0, .int .u64 n] w fun e w' => ∃ A c, e = .returned (.slice A (enc7 n).length c) ∧ Kd.C (Kd.int .u8) w' A (enc7 n).length (enc7 n) ∧ Below w.heap.size w w' := by
  refine (PMeetingstatsEncodes.wire_appended.calls 10 (fun _ => False) _ [] n _ w w (Below.refl _ _) (Kd.R_nil _ _ _ _ _) (appended_yes n hn)).mono ?_
  rintro e w' ⟨v, rfl, hR, hb, _⟩
  obtain ⟨A, c, rfl, _, hC⟩ := Kd.R_reads hR
  exact ⟨A, c, rfl, hC, hb⟩

set_option maxRecDepth 100000 in
theorem WUint_calls (g : Nat) (xs : List Int) (S : Nat → Prop) (n : Nat) (w : World) (h : WrAt w g xs S) (hn : n < 18446744073709551616) (hl : xs.length ≤ 100000000) :
    Calls Try.prog 45 #[.pointer (some ⟨g, 0, none⟩), .int .u64 n] w fun e w' => e = .returned (.tuple #[]) ∧ ∃ S', (∀ i, S' i → S i ∨ w.heap.size ≤ i) ∧ Fr S w w' ∧ WrAt w' g (xs ++ enc7 n) S' := by
  have H := Lib.hid h
  clear h
  go_enter Try.func45, Try.ntmps45
  go_wp2_with fail
  refine (appended_calls n _ hn).mono ?_
  rintro e w1 ⟨A, c, rfl, hC, hb⟩
  have HC := Lib.hid hC
  have HB := Lib.hid hb
  clear hC hb
  go_wp2_with fail
  refine (raw_calls g xs S A c (enc7 n) _ (H.out.below HB.out) HC.out (by have := enc7_len64 n hn; omega)).mono ?_
  rintro e w2 ⟨rfl, S', h1, h2, h3⟩
  have h1 := Lib.hid h1
  have h2 := Lib.hid h2
  have h3 := Lib.hid h3
  go_wp2_with fail
  go_end0
  refine ⟨rfl, S', fun i hi => ?_, (Fr.of_below HB.out).trans h2.out (fun i _ hi => hi), h3.out⟩
  rcases h1.out i hi with h | h
  · exact .inl h
  · exact .inr (Nat.le_trans HB.out.size h)

set_option maxRecDepth 100000 in
theorem WCount_calls (g : Nat) (xs : List Int) (S : Nat → Prop) (n : Nat) (w : World) (h : WrAt w g xs S) (hn : n < 9223372036854775808) (hl : xs.length ≤ 100000000) :
    Calls Try.prog 47 #[.pointer (some ⟨g, 0, none⟩), .int .i64 n] w fun e w' => e = .returned (.tuple #[]) ∧ ∃ S', (∀ i, S' i → S i ∨ w.heap.size ≤ i) ∧ Fr S w w' ∧ WrAt w' g (xs ++ enc7 n) S' := by
  have H := Lib.hid h
  clear h
  have hdec : decide ((n : Int) < 0) = false := decide_eq_false (by omega)
  have hw : IntKind.u64.wrap (n : Int) = (n : Int) := by rw [IntKind.wrap_u64]; omega
  go_enter Try.func47, Try.ntmps47
  go_wp2_with fail
  refine (WUint_calls g xs S n _ H.out (by omega) hl).mono ?_
  rintro e w2 ⟨rfl, S', h1, h2, h3⟩
  have h1 := Lib.hid h1
  have h2 := Lib.hid h2
  have h3 := Lib.hid h3
  go_wp2_with fail
  go_end0
  refine ⟨rfl, S', h1.out, h2.out, h3.out⟩

set_option maxRecDepth 100000 in
theorem Done_calls (g : Nat) (xs : List Int) (S : Nat → Prop) (w : World) (h : WrAt w g xs S) (hl : xs.length ≤ 1048576) :
    Calls Try.prog 48 #[.pointer (some ⟨g, 0, none⟩)] w fun e w' => ∃ v, e = .returned (.tuple #[v, .int .i64 0]) ∧ Kd.R (Kd.int .u8) 5 w' w.heap.size (fun _ => True) v xs ∧ Below w.heap.size w w' := by
  obtain ⟨v, h1, h2, h3, h4⟩ := h
  obtain ⟨A, c, rfl, hle, hC⟩ := Kd.R_reads h3
  have hc0 : w.cell? ⟨g, 0, none⟩ = some (.slice A xs.length c) := (blk_cell h1 0).trans rfl
  have hc1 : w.cell? ⟨g, 1, none⟩ = some (.int .i64 0) := (blk_cell h1 1).trans rfl
  have hgw := blk_lt h1
  have HC := Lib.hid hC
  have H1 := Lib.hid h1
  have hdec : decide (1048576 < (xs.length : Int)) = false := decide_eq_false (by omega)
  have HO := Lib.hid (R_none' (Kd.int .u8) 5 w w.heap.size (Nat.le_refl _) (fun k => w.heap.size ≤ k) (Nat.le_refl _))
  have HB := Lib.hid ((Below.refl w.heap.size w).alloc (Nat.le_refl _) (.cells #[] 5))
  have HC1 := Lib.hid (Kd.C_alloc hC (.cells #[] 5))
  clear h1 h2 h3 h4 hC
  go_enter Try.func48, Try.ntmps48
  go_wp2_with (at_builtin; refine Kd.R_append_rows (Kd.int .u8) (w0 := w) w.heap.size rfl (.tmp 19) (.tmp 23) 53 5 (.int .u8 0) 1 rfl Try.underlying53 PMeetingstatsEncodes.info5 rfl (by decide) (by omega) _ [] xs _ _ _ (fun k => w.heap.size ≤ k) (fun _ => False) rfl rfl HO.out HC1.out (fun _ _ h => h) (fun _ h => h.elim) (fun k hk => Nat.le_trans HB.out.size hk) HB.out HB.out.size (by simp; omega) ?_; intro v1 w1 ho1 hB1 hg1 hat1; have HO1 := Lib.hid ho1; have HB1 := Lib.hid hB1; clear ho1 hB1 hg1 hat1)
  refine bodyPost_ret (results_list (rs := [.tmp 2, .tmp 3]) rfl (by simp) (.tmp (.tmp .nil))) rfl ⟨_, rfl, Kd.R_mono HO1.out (fun _ _ => trivial), HB1.out⟩
end Go.Proofs.Ytkbiggmkjbmgoaa.Bk
