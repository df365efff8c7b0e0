/- The encoding of a book. -/
import Derived.Test.YtkbiggmkjbmgoaaAD
namespace Go.Proofs.Ytkbiggmkjbmgoaa.Bk
open Go.RowKit Go.Proofs.YtkbiggmkjbmgoaaW.PrintWords Go.Proofs.YtkbiggmkjbmgoaaW.PrintLast Go.Proofs.YtkbiggmkjbmgoaaW.PrintMore Go.Proofs.Mp
set_option linter.unusedVariables false
set_option linter.unusedSimpArgs false

def rowP (a j : Nat) : List (Int × Int) := (List.range j).map (fun i => ((a : Int), ((a + 1 + i : Nat) : Int)))
def prsA (n a : Nat) : List (Int × Int) := (List.range a).flatMap (fun x => rowP x (n - (x + 1)))
def prs (n : Int) : List (Int × Int) := prsA n.toNat n.toNat
theorem rowP_succ (a j : Nat) : rowP a (j + 1) = rowP a j ++ [((a : Int), ((a + 1 + j : Nat) : Int))] := by
  unfold rowP; rw [List.range_succ, List.map_append]; rfl
theorem prsA_succ (n a : Nat) : prsA n (a + 1) = prsA n a ++ rowP a (n - (a + 1)) := by
  unfold prsA; rw [List.range_succ, List.flatMap_append]; simp
theorem rowP_len (a j : Nat) : (rowP a j).length = j := by unfold rowP; simp
theorem prsA_len (n : Nat) (h : n ≤ 12) : ∀ a, a ≤ 12 → (prsA n a).length ≤ 12 * a
  | 0, _ => by simp [prsA]
  | a + 1, ha => by rw [prsA_succ, List.length_append, rowP_len]; have := prsA_len n h a (by omega); omega
theorem mem_prsA {n : Nat} {p : Int × Int} : ∀ {a : Nat}, p ∈ prsA n a → 0 ≤ p.1 ∧ p.1 < p.2 ∧ p.2 < n ∧ p.1 < a
  | 0, h => by simp [prsA] at h
  | a + 1, h => by
    rw [prsA_succ, List.mem_append] at h
    rcases h with h | h
    · have := mem_prsA h; omega
    · unfold rowP at h
      obtain ⟨i, hi, rfl⟩ := List.mem_map.1 h
      have := List.mem_range.1 hi
      simp; omega

def k75 : Kd (Int × Int) := Kd.pair (Kd.int .i64) (Kd.int .i64)
theorem k75_mkM (w : World) (base : Nat) (ok : Nat → Prop) (x : Int × Int) : k75.M w base ok x [.int .i64 x.1, .int .i64 x.2] := ⟨[.int .i64 x.1], [.int .i64 x.2], rfl, rfl, rfl⟩
theorem k75_open {w : World} {x : Int × Int} {cs : List Value} (h : k75.K w x cs) : cs = [.int .i64 x.1, .int .i64 x.2] := by
  obtain ⟨_, _, rfl, rfl, rfl⟩ := h
  rfl
theorem info75 : (Try.prog.info? 75).map (fun i => (i.zero, i.size, i.bytes)) = some (some (.agg #[.int .i64 0, .int .i64 0]), 2, 16) := by kernel_rfl

set_option maxRecDepth 100000 in
theorem pairs_calls (b : Nat) (B : Book) (S : Nat → Prop) (w : World) (h : BookAt w b B S) (hB : B.Ok) :
    Calls Try.prog 46 #[.pointer (some ⟨b, 0, none⟩)] w fun e w' => ∃ v, e = .returned v ∧ Kd.R k75 75 w' w.heap.size (fun _ => True) v (prs B.n) ∧ Below w.heap.size w w' := by
  have H := Lib.hid h
  obtain ⟨n, hn⟩ := Int.eq_ofNat_of_zero_le (show 0 ≤ B.n by have := hB.n2; omega)
  have h12 : n ≤ 12 := by have := hB.n12; omega
  have hc0 := h.cell0
  rw [hn] at hc0
  have Hc : Hid (∀ wr, Below w.heap.size w wr → wr.cell? ⟨b, 0, none⟩ = some (.int .i64 n)) := Lib.hid (fun wr hb => by
    have := (h.below hb).cell0
    rwa [hn] at this)
  rw [show prs B.n = prsA n n from by rw [hn]; rfl]
  clear hn h
  go_enter Try.func46, Try.ntmps46
  go_wp2_with fail
  go_loopw [3, 10] (fun v i wr => ∃ a : Nat, a ≤ n ∧ i = .int .i64 a ∧ Hid (Kd.R k75 75 wr w.heap.size (fun _ => True) v (prsA n a)) ∧ Hid (Below w.heap.size w wr)) (fun _ i _ => n - (intOf i).toNat)
  case atStart => exact ⟨0, by omega, rfl, Lib.hid (Kd.R_nil _ _ _ _ _), Lib.hid (Below.refl _ _)⟩
  case round =>
    clear hc0
    obtain ⟨a, ha, rfl, hR, hBw⟩ := hrel
    by_cases hlt : a < n
    · have hdec : decide ((a : Int) < (n : Int)) = true := decide_eq_true (by omega)
      have HR := Lib.hid hR.out
      clear hR
      go_wp2_with fail
      go_loopw [3, 5] (fun v i wr2 => ∃ j : Nat, a + 1 + j ≤ n ∧ i = .int .i64 ((a + 1 + j : Nat) : Int) ∧ Hid (Kd.R k75 75 wr2 w.heap.size (fun _ => True) v (prsA n a ++ rowP a j)) ∧ Hid (Below w.heap.size w wr2)) (fun _ i _ => n - (intOf i).toNat)
      case atStart => exact ⟨0, by omega, by simp, Lib.hid (by simpa [rowP] using HR.out), hBw⟩
      case round =>
        obtain ⟨j, hj, rfl, hR2, hB2⟩ := hrel
        have hcj := Hc.out _ hB2.out
        by_cases hj2 : a + 1 + j < n
        · have hdec2 : decide ((((a + 1 + j : Nat) : Int)) < (n : Int)) = true := decide_eq_true (by omega)
          generalize hbj : ((a + 1 + j : Nat) : Int) = bj at *
          have HO := Lib.hid hR2.out
          have HB2 := Lib.hid hB2.out
          have Hl : Hid (((prsA n a ++ rowP a j).length + 1) * 16 ≤ 140737488355328) := Lib.hid (by
            have := prsA_len n h12 a (by omega)
            rw [List.length_append, rowP_len]; omega)
          clear hR2 hB2
          go_wp2_with (at_builtin; refine Kd.R_append k75 (w0 := w) w.heap.size rfl (.tmp 23) (.tmp 27) 86 75 (.agg #[.int .i64 0, .int .i64 0]) 16 rfl Try.underlying86 info75 rfl (by decide) (by omega) _ (prsA n a ++ rowP a j) ((a : Int), bj) [.int .i64 a, .int .i64 bj] (fun _ => True) (fun _ => False) rfl rfl (k75_mkM _ _ _ _) (fun _ hk => hk.elim) (fun _ _ => trivial) HO.out HB2.out HB2.out.size Hl.out ?_; intro v1 w5 ho1 hB1 hg1 hat1; have HO1 := Lib.hid ho1; have HB1 := Lib.hid hB1; clear ho1 hB1 hg1 hat1)
          go_roundw
          case rel =>
            refine ⟨j + 1, by omega, by subst hbj; congr 1, ?_, HB1⟩
            rw [rowP_succ, ← List.append_assoc, hbj]
            exact HO1
          case measure => subst hbj; simp [intOf]; omega
        · have hdec2 : decide ((((a + 1 + j : Nat) : Int)) < (n : Int)) = false := decide_eq_false (by omega)
          generalize hbj : ((a + 1 + j : Nat) : Int) = bj at *
          have hj3 : j = n - (a + 1) := by omega
          go_wp2_with fail
          go_roundw
          case rel =>
            refine ⟨a + 1, by omega, by simp, ?_, hB2⟩
            rw [prsA_succ, ← hj3]
            exact hR2
          case measure => simp [intOf]; omega
    · have hdec : decide ((a : Int) < (n : Int)) = false := decide_eq_false (by omega)
      obtain rfl : a = n := by omega
      go_wp2_with fail
      go_ret
      exact ⟨_, rfl, hR.out, hBw.out⟩

def deltas : Int → List Int → List Int
  | _, [] => []
  | last, d :: t => enc7 (d - last).toNat ++ deltas d t
def encP (l : List Int) : List Int := enc7 l.length ++ deltas 0 l
def encA (B : Book) (k : Nat) : List Int := enc7 B.n.toNat ++ ((prs B.n).take k).flatMap (fun p => encP (B.D p))
def encB (B : Book) : List Int := enc7 B.n.toNat ++ (prs B.n).flatMap (fun p => encP (B.D p))
theorem encA_all (B : Book) : encA B (prs B.n).length = encB B := by unfold encA encB; rw [List.take_length]
theorem encA_succ (B : Book) (k : Nat) (p : Int × Int) (h : (prs B.n)[k]? = some p) : encA B (k + 1) = encA B k ++ encP (B.D p) := by
  unfold encA
  rw [List.take_add_one, h, List.flatMap_append, List.append_assoc]; simp
theorem encA_le (B : Book) (k : Nat) : (encA B k).length ≤ (encB B).length := by
  unfold encA encB
  rw [List.length_append, List.length_append]
  have h : (prs B.n).flatMap (fun p => encP (B.D p)) = ((prs B.n).take k).flatMap (fun p => encP (B.D p)) ++ ((prs B.n).drop k).flatMap (fun p => encP (B.D p)) := by
    rw [← List.flatMap_append, List.take_append_drop]
  rw [h, List.length_append]; omega
theorem lastOf_succ (l : List Int) (k : Nat) (h : k < l.length) : l.take (k + 1) = l.take k ++ [l.getD k 0] := by
  rw [List.take_add_one, List.getElem?_eq_getElem h, List.getD_eq_getElem?_getD, List.getElem?_eq_getElem h]; rfl
def lastOr (l : List Int) (k : Nat) : Int := if k = 0 then 0 else l.getD (k - 1) 0
theorem deltas_snoc (l : List Int) (d : Int) : ∀ last, deltas last (l ++ [d]) = deltas last l ++ enc7 (d - (l.getLastD last)).toNat := by
  induction l with
  | nil => intro last; simp [deltas]
  | cons x t ih => intro last; simp only [List.cons_append, deltas, ih, List.append_assoc]; congr 2; cases t <;> rfl
theorem getLastD_take (l : List Int) (k : Nat) (h : k ≤ l.length) : (l.take k).getLastD 0 = lastOr l k := by
  unfold lastOr
  cases k with
  | zero => simp
  | succ k => rw [lastOf_succ l k (by omega)]; simp
theorem deltas_succ (l : List Int) (k : Nat) (h : k < l.length) : deltas 0 (l.take (k + 1)) = deltas 0 (l.take k) ++ enc7 (l.getD k 0 - lastOr l k).toNat := by
  rw [lastOf_succ l k h, deltas_snoc, getLastD_take l k (by omega)]
theorem deltas_le (l : List Int) (k : Nat) : ∀ last, (deltas last (l.take k)).length ≤ (deltas last l).length := by
  induction l generalizing k with
  | nil => intro last; simp
  | cons x t ih => intro last; cases k with
    | zero => simp [deltas]
    | succ k => simp only [List.take_succ_cons, deltas, List.length_append]; have := ih k x; omega

/-- The list of pairs as it is read. -/
theorem at75 {w : World} {A : Option Addr} {xs : List (Int × Int)} (h : Kd.C k75 w A xs.length xs) (k : Nat) (p : Int × Int) (hp : xs[k]? = some p) :
    ∃ ad, A = some ad ∧ w.cell? (ad.add (k * 2)) = some (.int .i64 p.1) ∧ w.cell? ⟨(ad.add (k * 2)).block, (ad.add (k * 2)).off + 1, none⟩ = some (.int .i64 p.2) := by
  have hk : k < xs.length := (List.getElem?_eq_some_iff.1 hp).1
  obtain ⟨ad, e, hc⟩ := h.2.2 (by omega)
  obtain ⟨c, _, hK, hcell⟩ := hc k p hp
  obtain rfl := k75_open hK
  have e2 : k75.sz = 2 := rfl
  rw [e2] at hcell
  exact ⟨ad, e, hcell 0 _ rfl, by rw [← add_field _ _ 1 (by omega)]; exact hcell 1 _ rfl⟩

/-- From w0 on, where it was xs0 with the memory S0, the writer has come to xs. -/
def St (S0 : Nat → Prop) (w0 w : World) (g : Nat) (xs : List Int) : Prop := ∃ S', WrAt w g xs S' ∧ Fr S0 w0 w ∧ ∀ i, S' i → S0 i ∨ w0.heap.size ≤ i
theorem St.start {S0 : Nat → Prop} {w : World} {g : Nat} {xs : List Int} (h : WrAt w g xs S0) : St S0 w w g xs := ⟨S0, h, Fr.refl _ _, fun i hi => .inl hi⟩
theorem St.below {S0 : Nat → Prop} {w0 w w' : World} {g : Nat} {xs : List Int} (h : St S0 w0 w g xs) (hb : Below w.heap.size w w') : St S0 w0 w' g xs := by
  obtain ⟨S', h1, h2, h3⟩ := h
  exact ⟨S', h1.below hb, h2.then_below hb, h3⟩
theorem St.step {S0 S1 : Nat → Prop} {w0 w w' : World} {g : Nat} {xs ys : List Int} (h1 : WrAt w g xs S1) (h2 : Fr S0 w0 w) (h3 : ∀ i, S1 i → S0 i ∨ w0.heap.size ≤ i) (h : St S1 w w' g ys) : St S0 w0 w' g ys := by
  obtain ⟨S', k1, k2, k3⟩ := h
  refine ⟨S', k1, h2.trans k2 (fun i hi hs => ?_), fun i hi => ?_⟩
  · rcases h3 i hs with h | h
    · exact h
    · omega
  · rcases k3 i hi with h | h
    · exact h3 i h
    · exact .inr (Nat.le_trans h2.size h)
theorem St.uint {S0 : Nat → Prop} {w0 w : World} {g : Nat} {xs : List Int} (h : St S0 w0 w g xs) (n : Nat) (hn : n < 18446744073709551616) (hl : xs.length ≤ 100000000) :
    Calls Try.prog 45 #[.pointer (some ⟨g, 0, none⟩), .int .u64 n] w fun e w' => e = .returned (.tuple #[]) ∧ St S0 w0 w' g (xs ++ enc7 n) := by
  obtain ⟨S', h1, h2, h3⟩ := h
  refine (WUint_calls g xs S' n w h1 hn hl).mono ?_
  rintro e w' ⟨rfl, S'', k1, k2, k3⟩
  exact ⟨rfl, St.step h1 h2 h3 ⟨S'', k3, k2, k1⟩⟩
theorem St.count {S0 : Nat → Prop} {w0 w : World} {g : Nat} {xs : List Int} (h : St S0 w0 w g xs) (n : Nat) (hn : n < 9223372036854775808) (hl : xs.length ≤ 100000000) :
    Calls Try.prog 47 #[.pointer (some ⟨g, 0, none⟩), .int .i64 n] w fun e w' => e = .returned (.tuple #[]) ∧ St S0 w0 w' g (xs ++ enc7 n) := by
  obtain ⟨S', h1, h2, h3⟩ := h
  refine (WCount_calls g xs S' n w h1 hn hl).mono ?_
  rintro e w' ⟨rfl, S'', k1, k2, k3⟩
  exact ⟨rfl, St.step h1 h2 h3 ⟨S'', k3, k2, k1⟩⟩
theorem St.fr {S0 : Nat → Prop} {w0 w : World} {g : Nat} {xs : List Int} (h : St S0 w0 w g xs) : Fr S0 w0 w := by
  obtain ⟨_, _, h, _⟩ := h; exact h
/-- What is read of a pair's days stays so while another memory is written. -/
theorem days_stay {w5 : World} {b : Nat} {B : Book} {S S' : Nat → Prop} (h : BookAt w5 b B S) (hd : ∀ i, S i → ¬ S' i) (i j : Int) :
    ∃ mb A c, ∀ wr : World, Fr S' w5 wr → b < wr.heap.size ∧ wr.cell? ⟨b, 1, none⟩ = some (.map (some mb)) ∧ (∀ W : World, W.heap[mb]? = wr.heap[mb]? → (Instr.lookup 79 (.map (some mb)) (.agg #[.int .i64 i, .int .i64 j]) false).run Try.prog W = .ok (.slice A (B.D (i, j)).length c) W) ∧ Reads0 wr A (B.D (i, j)) := by
  obtain ⟨mb, v, h1, h2, h3, h4, h5, h6, _⟩ := h.add i j
  obtain ⟨A, c, rfl, hr⟩ := own_reads0 h5
  have hb1 := World.block_lt_of_cell? _ _ h1
  have hb2 : S b := by obtain ⟨_, _, _, _, h, _⟩ := h; exact h
  refine ⟨mb, A, c, fun wr hf => ⟨Nat.lt_of_lt_of_le hb1 hf.size, (hf.cell (p := ⟨b, 1, none⟩) hb1 (hd b hb2)).trans h1, fun W hW => h4 W (hW.trans (hf.block mb h2 (hd mb h3))), hr.keep hf (fun g e => hd g (h6 g (by subst e; rfl)).1)⟩⟩
set_option maxHeartbeats 8000000 in
set_option maxRecDepth 100000 in
theorem Encode_calls (b : Nat) (B : Book) (S : Nat → Prop) (w : World) (h : BookAt w b B S) (hB : B.Ok) (hlen : (encB B).length ≤ 1048576) :
    Calls Try.prog 28 #[.pointer (some ⟨b, 0, none⟩)] w fun e w' => ∃ v, e = .returned v ∧ Kd.R (Kd.int .u8) 5 w' w.heap.size (fun _ => True) v (encB B) ∧ Below w.heap.size w w' := by
  have H := Lib.hid h
  have HBk := Lib.hid hB
  have hn0 : 0 ≤ B.n := by have := hB.n2; omega
  have hn12 : B.n ≤ 12 := hB.n12
  have hu : IntKind.u64.wrap B.n = B.n := by rw [IntKind.wrap_u64]; omega
  have hSlt : Hid (∀ i, S i → i < w.heap.size) := Lib.hid (by obtain ⟨_, _, _, _, _, _, _, _, _, h8⟩ := h; exact h8)
  clear h hB
  go_enter Try.func28, Try.ntmps28
  go_wp2_with fail
  refine (NewWriter_calls _).mono ?_
  rintro e w1 ⟨g, rfl, hw1, hg1, hb1⟩
  have hc0 := (H.out.below hb1).cell0
  have hWU := WUint_calls g [] (fun i => i = g) B.n.toNat _ hw1 (by omega) (by simp)
  rw [Int.toNat_of_nonneg hn0] at hWU
  have Hw1 := Lib.hid hw1
  have Hb1 := Lib.hid hb1
  clear hw1 hb1
  go_wp2_with fail
  refine hWU.mono ?_
  rintro e w2 ⟨rfl, S2, s1, s2, s3⟩
  have HF2 : Hid (Below w.heap.size w w2) := Lib.hid (Hb1.out.trans (s2.below Hb1.out.size (fun i hi e => by omega)))
  have HS2 : Hid (∀ i, S2 i → w.heap.size ≤ i) := Lib.hid (fun i hi => by
    rcases s1 i hi with h | h
    · omega
    · exact Nat.le_trans Hb1.out.size h)
  have HW2 := Lib.hid s3
  clear s1 s2 s3 hc0 Hw1 Hb1 hWU
  go_wp2_with fail
  refine (pairs_calls b B S _ (H.out.below HF2.out) HBk.out).mono ?_
  rintro e w3 ⟨v3, rfl, hR, hb3⟩
  obtain ⟨A, c, rfl, hle, hC⟩ := Kd.R_reads hR
  have HB3 := Lib.hid (HF2.out.trans (hb3.mono HF2.out.size))
  have HW3 := Lib.hid (HW2.out.below hb3)
  have HS2w : Hid (∀ i, S2 i → i < w2.heap.size) := Lib.hid (by obtain ⟨_, _, _, _, h⟩ := HW2.out; exact h)
  have Pf : Hid (∀ wr, Fr S2 w3 wr → Kd.C k75 wr A (prs B.n).length (prs B.n)) := Lib.hid (fun wr hf =>
    (Kd.R_reads' (Kd.R_move (Kd.R_bound hR) (fun k hk => hf.block k hk.2.2.1 (fun h => by have := HS2w.out k h; have := hk.2.1; omega)))).2.2)
  have Bf : Hid (∀ wr, Fr S2 w3 wr → BookAt wr b B S) := Lib.hid (fun wr hf =>
    (H.out.below HB3.out).keep hf (fun i hi h => by have := HS2.out i h; have := hSlt.out i hi; omega))
  have Hst : Hid (St S2 w3 w3 g (encA B 0)) := Lib.hid (by
    have := St.start HW3.out
    simpa [encA] using this)
  have HS2n : Hid (∀ i, S i → ¬ S2 i) := Lib.hid (fun i hi h => by have := HS2.out i h; have := hSlt.out i hi; omega)
  have Hlt : Hid ((prs B.n).length ≤ 144) := Lib.hid (by
    have := prsA_len B.n.toNat (by omega) B.n.toNat (by omega)
    unfold prs; omega)
  have hm := Hlt.out
  clear hR hb3 hC hle HW2 HW3 HF2
  go_wp2_with fail
  go_loopw [22] (fun i wr => ∃ k : Nat, k ≤ (prs B.n).length ∧ i = .int .i64 k ∧ Hid (St S2 w3 wr g (encA B k))) (fun i _ => (prs B.n).length - (intOf i).toNat)
  case atStart => exact ⟨0, by omega, rfl, Hst⟩
  case round =>
    clear Hst
    obtain ⟨k, hk, rfl, hst⟩ := hrel
    have hle := encA_le B k
    by_cases hlt : k < (prs B.n).length
    · have hdec : decide ((k : Int) < ((prs B.n).length : Int)) = true := decide_eq_true (by omega)
      obtain ⟨S1, hW, hF, hsub⟩ := hst.out
      obtain ⟨⟨pi, pj⟩, hp⟩ : ∃ p, (prs B.n)[k]? = some p := ⟨_, List.getElem?_eq_getElem hlt⟩
      obtain ⟨ad, rfl, hq0, hq1⟩ := at75 (Pf.out wr hF) k _ hp
      have hS1 : ∀ i, S i → ¬ S1 i := fun i hi h => by
        rcases hsub i h with h | h
        · exact HS2n.out i hi h
        · have := hSlt.out i hi
          have := HB3.out.size
          omega
      have hal := (Below.refl wr.heap.size wr).alloc (Nat.le_refl _) (.cells #[.int .i64 pi, .int .i64 pj] 75)
      have hgp : ¬ S1 wr.heap.size := fun h => by
        obtain ⟨_, _, _, _, h8⟩ := hW
        have := h8 _ h
        omega
      obtain ⟨mb, A2, c2, hds⟩ := days_stay ((Bf.out wr hF).below hal) hS1 pi pj
      have Hds := Lib.hid hds
      have HW5 := Lib.hid (hW.below hal)
      have HF5 := Lib.hid (hF.then_below hal)
      have Hsub := Lib.hid hsub
      have Hst5 := Lib.hid (St.start HW5.out)
      have Hgp := Lib.hid (fun (wx : World) (hf : Fr S1 (wr.alloc (.cells #[.int .i64 pi, .int .i64 pj] 75)) wx) => hf.heap (blk_new wr (.cells #[.int .i64 pi, .int .i64 pj] 75)) hgp)
      have Hp := Lib.hid hp
      have Hle := Lib.hid (show (encA B k).length ≤ 1048576 from Nat.le_trans hle hlen)
      have Hle2 : Hid ((encA B (k + 1)).length ≤ 1048576) := Lib.hid (Nat.le_trans (encA_le B (k + 1)) hlen)
      clear hW hF hsub hst hS1 hal hgp hds hle
      simp only at hq0 hq1
      go_wp2_with fail
      generalize wr.alloc (.cells #[.int .i64 pi, .int .i64 pj] 75) = w5 at *
      have hlenD := HBk.out.len (pi, pj)
      have hasc := HBk.out.asc (pi, pj)
      have hlow := HBk.out.low (pi, pj)
      have hhigh : ∀ m ∈ B.D (pi, pj), m ≤ 999999 := fun m hm => by have := HBk.out.high (pi, pj) m hm; have := HBk.out.nw1; omega
      have hencs : encA B (k + 1) = encA B k ++ (enc7 (B.D (pi, pj)).length ++ deltas 0 (B.D (pi, pj))) := encA_succ B k _ Hp.out
      generalize hlD : B.D (pi, pj) = l at *
      have Hasc := Lib.hid hasc
      have Hlow := Lib.hid hlow
      have Hhigh := Lib.hid hhigh
      have Hencs := Lib.hid hencs
      clear hlD hasc hlow hhigh hencs
      obtain ⟨hbl, hcb, hlk, hrd⟩ := Hds.out w5 (Fr.refl _ _)
      have hgb := Hgp.out w5 (Fr.refl _ _)
      have hp0 : w5.cell? ⟨wr.heap.size, 0, none⟩ = some (.int .i64 pi) := (blk_cell hgb 0).trans rfl
      have hp1 : w5.cell? ⟨wr.heap.size, 1, none⟩ = some (.int .i64 pj) := (blk_cell hgb 1).trans rfl
      have Hst6 := Lib.hid (Hst5.out.below (Below.refl w5.heap.size w5).drew)
      generalize wr.heap.size = gp at *
      refine start_ (n := 9) (S := fun W => W.cell? ⟨b, 1, none⟩ = some (.map (some mb)) ∧ W.cell? ⟨gp, 0, none⟩ = some (.int .i64 pi) ∧ W.cell? ⟨gp, 1, none⟩ = some (.int .i64 pj) ∧ (Instr.lookup 79 (.map (some mb)) (.agg #[.int .i64 pi, .int .i64 pj]) false).run Try.prog W = .ok (.slice A2 l.length c2) W) (ds := [8]) #[false, false, false, false, false, false, false, false, false] (by kernel_rfl) rfl rfl ⟨hcb, hp0, hp1, hlk _ rfl⟩ (fun hHeld => ?_)
      clear hcb hp0 hp1 hlk hrd hgb hbl
      generalize w5.drew = w6 at *
      refine pure_ (i := 0) (N := some 26) (v := ?_) (a' := ?_) #[true, false, false, false, false, false, false, false, false] rfl rfl (by kernel_rfl) (fun _ _ _ h => h) (Or.inl ⟨by rfl, ?_⟩) ?_ ?_
      rotate_left
      · intro w'
        go_simp
        with_reducible rfl
      rotate_left
      · simp only [Act.put, List.setIfInBounds_toArray, List.set_cons_zero, List.set_cons_succ, i64_w, i32_w]
        rfl
      refine pure_ (i := 1) (N := some 27) (v := ?_) (a' := ?_) #[true, true, false, false, false, false, false, false, false] rfl rfl (by kernel_rfl) (fun _ _ _ h => h) (Or.inl ⟨by rfl, ?_⟩) ?_ ?_
      rotate_left
      · intro w'
        go_simp
        with_reducible rfl
      rotate_left
      · simp only [Act.put, List.setIfInBounds_toArray, List.set_cons_zero, List.set_cons_succ, i64_w, i32_w]
        rfl
      refine pure_ (i := 2) (N := some 28) (v := ?_) (a' := ?_) #[true, true, true, false, false, false, false, false, false] rfl rfl (by kernel_rfl) (fun _ _ _ h => h) (Or.inl ⟨by rfl, ?_⟩) ?_ ?_
      rotate_left
      · intro w'
        go_simp
        with_reducible rfl
      rotate_left
      · simp only [Act.put, List.setIfInBounds_toArray, List.set_cons_zero, List.set_cons_succ, i64_w, i32_w]
        rfl
      refine pure_ (i := 3) (N := some 29) (v := ?_) (a' := ?_) #[true, true, true, true, false, false, false, false, false] rfl rfl (by kernel_rfl) (fun _ _ _ h => h) (Or.inl ⟨by rfl, ?_⟩) ?_ ?_
      rotate_left
      · intro w'
        go_simp
        with_reducible rfl
      rotate_left
      · simp only [Act.put, List.setIfInBounds_toArray, List.set_cons_zero, List.set_cons_succ, i64_w, i32_w]
        rfl
      refine take_ (i := 4) (N := some 30) (v := ?_) (a' := ?_) #[true, true, true, true, true, false, false, false, false] rfl rfl (by kernel_rfl) (fun _ _ _ h => h) (Or.inl ⟨by rfl, ?_⟩) hHeld ?_ ?_
      rotate_left
      · rintro w' ⟨s0, s1, s2, s3⟩
        go_simp
        with_reducible rfl
      rotate_left
      · simp only [Act.put, List.setIfInBounds_toArray, List.set_cons_zero, List.set_cons_succ, i64_w, i32_w]
        rfl
      refine take_ (i := 5) (N := some 31) (v := ?_) (a' := ?_) #[true, true, true, true, true, true, false, false, false] rfl rfl (by kernel_rfl) (fun _ _ _ h => h) (Or.inl ⟨by rfl, ?_⟩) hHeld ?_ ?_
      rotate_left
      · rintro w' ⟨s0, s1, s2, s3⟩
        go_simp
        with_reducible rfl
      rotate_left
      · simp only [Act.put, List.setIfInBounds_toArray, List.set_cons_zero, List.set_cons_succ, i64_w, i32_w]
        rfl
      refine take_ (i := 6) (N := some 32) (v := ?_) (a' := ?_) #[true, true, true, true, true, true, true, false, false] rfl rfl (by kernel_rfl) (fun _ _ _ h => h) (Or.inl ⟨by rfl, ?_⟩) hHeld ?_ ?_
      rotate_left
      · rintro w' ⟨s0, s1, s2, s3⟩
        go_simp
        with_reducible rfl
      rotate_left
      · simp only [Act.put, List.setIfInBounds_toArray, List.set_cons_zero, List.set_cons_succ, i64_w, i32_w]
        rfl
      refine pure_ (i := 7) (N := some 33) (v := ?_) (a' := ?_) #[true, true, true, true, true, true, true, true, false] rfl rfl (by kernel_rfl) (fun _ _ _ h => h) (Or.inl ⟨by rfl, ?_⟩) ?_ ?_
      rotate_left
      · intro w'
        go_simp
        with_reducible rfl
      rotate_left
      · simp only [Act.put, List.setIfInBounds_toArray, List.set_cons_zero, List.set_cons_succ, i64_w, i32_w]
        rfl
      refine last_ (i := 8) (N := some 34) #[true, true, true, true, true, true, true, true, true] rfl rfl (by kernel_rfl) (by decide) (fun K hK => ?_)
      refine goes_ Try.func47 (by kernel_rfl) rfl #[.pointer (some ⟨g, 0, none⟩), .int .i64 (l.length : Int)] (by rfl) rfl rfl (by (try simp only [List.map_toArray, List.map_cons, List.map_nil]); first | done | rfl) ?_
      refine (Hst6.out.count l.length (by omega) (by have := Hle.out; omega)).mono ?_
      rintro e w7 ⟨rfl, hst7⟩
      have Hst7 := Lib.hid hst7
      refine ⟨_, rfl, hK.out _ _ ?_⟩
      clear hK K hst7 hHeld
      refine norm_ (a' := ?_) ?_ ?_
      rotate_left
      · simp only [Act.put, List.setIfInBounds_toArray, List.set_cons_zero, List.set_cons_succ, i64_w, i32_w]
        rfl
      refine done_ (by kernel_rfl) ?_
      go_wp2_with fail
      obtain ⟨hbl, hcb, hlk, hrd⟩ := Hds.out w7 Hst7.out.fr
      have hgb := Hgp.out w7 Hst7.out.fr
      have hgl := blk_lt hgb
      have hp0 : w7.cell? ⟨gp, 0, none⟩ = some (.int .i64 pi) := (blk_cell hgb 0).trans rfl
      have hp1 : w7.cell? ⟨gp, 1, none⟩ = some (.int .i64 pj) := (blk_cell hgb 1).trans rfl
      have hl2 := fun k => hlk (w7.drewN k) rfl
      clear hlk hgb hrd
      go_quiet (fail)
      have Hst8 := Lib.hid (Hst7.out.below (pw_below_drewN (Below.refl w7.heap.size w7) nq))
      clear hcb hp0 hp1 hl2 hbl hgl
      generalize w7.drewN nq = w8 at *
      have H0 : Hid (St S1 w5 w8 g (encA B k ++ enc7 l.length ++ deltas 0 (l.take 0))) := Lib.hid (by simpa [deltas] using Hst8.out)
      go_wp2_with fail
      go_loopw [6, 42] (fun lv i wx => ∃ j : Nat, j ≤ l.length ∧ i = .int .i64 j ∧ lv = .int .i64 (lastOr l j) ∧ Hid (St S1 w5 wx g (encA B k ++ enc7 l.length ++ deltas 0 (l.take j)))) (fun _ i _ => l.length - (intOf i).toNat)
      case atStart => exact ⟨0, by omega, rfl, rfl, H0⟩
      case round =>
        obtain ⟨j, hj, rfl, rfl, hst9⟩ := hrel
        by_cases hj2 : j < l.length
        · have hdec2 : decide ((j : Int) < (l.length : Int)) = true := decide_eq_true (by omega)
          obtain ⟨hbl, hcb, hlk, hrd⟩ := Hds.out _ hst9.out.fr
          obtain ⟨gd, rfl, hgd, hcell⟩ := hrd (by omega)
          have hcj := hcell j hj2
          have hmem : l.getD j 0 ∈ l := by rw [List.getD_eq_getElem?_getD, List.getElem?_eq_getElem hj2]; exact List.getElem_mem _
          have hd0 := Hlow.out _ hmem
          have hd1 := Hhigh.out _ hmem
          have hl0 : 0 ≤ lastOr l j ∧ lastOr l j ≤ l.getD j 0 := by
            unfold lastOr
            split
            · exact ⟨by omega, hd0⟩
            · have hj3 : j - 1 < l.length := by omega
              have hm2 : l.getD (j - 1) 0 ∈ l := by rw [List.getD_eq_getElem?_getD, List.getElem?_eq_getElem hj3]; exact List.getElem_mem _
              refine ⟨Hlow.out _ hm2, ?_⟩
              rw [List.getD_eq_getElem?_getD, List.getElem?_eq_getElem hj3, List.getD_eq_getElem?_getD, List.getElem?_eq_getElem hj2]
              exact Int.le_of_lt (List.pairwise_iff_getElem.1 Hasc.out (j - 1) j hj3 hj2 (by omega))
          have hdel : Hid (deltas 0 (l.take (j + 1)) = deltas 0 (l.take j) ++ enc7 (l.getD j 0 - lastOr l j).toNat) := Lib.hid (deltas_succ l j hj2)
          have hlx : Hid (lastOr l (j + 1) = l.getD j 0) := Lib.hid (by unfold lastOr; rw [if_neg (by omega)]; rfl)
          have hbig : Hid ((encA B k ++ enc7 l.length ++ deltas 0 (l.take j)).length ≤ 1048576) := Lib.hid (by
            have h1 := Hle2.out
            rw [Hencs.out] at h1
            have := deltas_le l j 0
            simp only [List.length_append] at h1 ⊢
            omega)
          have Hst9 := Lib.hid hst9.out
          clear hst9 hlk hrd hcell hmem hcb hbl
          generalize l.getD j 0 = dj at *
          generalize lastOr l j = lj at *
          have hu2 : IntKind.u64.wrap (dj - lj) = dj - lj := by rw [IntKind.wrap_u64]; omega
          have hWU := Hst9.out.uint (dj - lj).toNat (by omega) (by have := hbig.out; omega)
          rw [Int.toNat_of_nonneg (by omega)] at hWU
          go_wp2_with fail
          refine hWU.mono ?_
          rintro e w9 ⟨rfl, hst10⟩
          have Hst10 := Lib.hid hst10
          clear hWU hst10
          go_wp2_with fail
          go_roundw
          case rel =>
            refine ⟨j + 1, by omega, by simp, by rw [hlx.out], ?_⟩
            rw [hdel.out, ← List.append_assoc]
            exact Hst10
          case measure => simp [intOf]; omega
        · have hdec2 : decide ((j : Int) < (l.length : Int)) = false := decide_eq_false (by omega)
          obtain rfl : j = l.length := by omega
          have h := hst9.out
          rw [List.take_length, List.append_assoc, ← Hencs.out] at h
          have Hst11 := Lib.hid (St.step HW5.out HF5.out Hsub.out h)
          clear h hst9
          go_wp2_with fail
          go_roundw
          case rel => exact ⟨k + 1, by omega, by simp, Hst11⟩
          case measure => simp [intOf]; omega
    · have hdec : decide ((k : Int) < ((prs B.n).length : Int)) = false := decide_eq_false (by omega)
      obtain rfl : k = (prs B.n).length := by omega
      have hst2 := hst.out
      rw [encA_all] at hst2
      obtain ⟨S1, hW, hF, hsub⟩ := hst2
      have HW := Lib.hid hW
      have HBe := Lib.hid (HB3.out.trans (hF.below HB3.out.size (fun i hi h => by have := HS2.out i h; omega)))
      clear hW hF hsub hst
      go_wp2_with fail
      refine (Done_calls g _ S1 _ HW.out hlen).mono ?_
      rintro e w8 ⟨v8, rfl, hR8, hb8⟩
      have HR8 := Lib.hid (Kd.R_lower hR8 HBe.out.size)
      have HB8 := Lib.hid (HBe.out.trans (hb8.mono HBe.out.size))
      clear hR8 hb8
      go_wp2_with fail
      go_ret
      exact ⟨_, rfl, HR8.out, HB8.out⟩
end Go.Proofs.Ytkbiggmkjbmgoaa.Bk
