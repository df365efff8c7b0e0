/- The wire reader. -/
import Derived.Test.YtkbiggmkjbmgoaaAF
import Derived.Test.YtkbiggmkjbmgoaaAD
import Derived.Defers
namespace Go.Proofs.Ytkbiggmkjbmgoaa.Bk
open Go.RowKit Go.Proofs.YtkbiggmkjbmgoaaW.PrintWords Go.Proofs.YtkbiggmkjbmgoaaW.PrintLast Go.Proofs.YtkbiggmkjbmgoaaW.PrintMore Go.Proofs.Mp
set_option linter.unusedVariables false
set_option linter.unusedSimpArgs false

/-- BLOCK g IS A READER OF THE BYTES bs, FROM at ON, WITH THE ERROR e; ITS MEMORY IS M. -/
def RdAt (w : World) (g : Nat) (bs : List Int) (at' e : Int) (M : Nat → Prop) : Prop :=
  ∃ A c last, w.heap[g]? = some (.cells #[.slice A bs.length c, .int .i64 at', .int .i64 last, .int .i64 e] 108 (0, 0)) ∧ bs.length ≤ c ∧
    (0 < bs.length → ∃ gb, A = some ⟨gb, 0, none⟩ ∧ gb ≠ g ∧ M gb ∧ gb < w.heap.size ∧ ∀ j, j < bs.length → w.cell? ⟨gb, j, none⟩ = some (.int .u8 (bs.getD j 0))) ∧ M g ∧ ∀ i, M i → i < w.heap.size
theorem RdAt.keep {w w' : World} {g : Nat} {bs : List Int} {p e : Int} {M T : Nat → Prop} (h : RdAt w g bs p e M) (hf : Fr T w w') (hd : ∀ i, M i → ¬ T i) : RdAt w' g bs p e M := by
  obtain ⟨A, c, last, h1, h2, h3, h4, h5⟩ := h
  refine ⟨A, c, last, hf.heap h1 (hd g h4), h2, fun h0 => ?_, h4, fun i hi => Nat.lt_of_lt_of_le (h5 i hi) hf.size⟩
  obtain ⟨gb, k1, k2, k3, k4, k5⟩ := h3 h0
  exact ⟨gb, k1, k2, k3, Nat.lt_of_lt_of_le k4 hf.size, fun j hj => (hf.cell (p := ⟨gb, j, none⟩) k4 (hd gb k3)).trans (k5 j hj)⟩
theorem RdAt.below {w w' : World} {g : Nat} {bs : List Int} {p e : Int} {M : Nat → Prop} (h : RdAt w g bs p e M) (hb : Below w.heap.size w w') : RdAt w' g bs p e M :=
  h.keep (T := fun _ => False) (Fr.of_below hb) (fun _ _ h => h)

/-- the reader behind writes to its block alone -/
theorem RdAt.turn {w w' : World} {g : Nat} {bs : List Int} {p e p' e' : Int} {M : Nat → Prop} (h : RdAt w g bs p e M) (hf : Fr (fun i => i = g) w w')
    (hg : ∀ A c last, w.heap[g]? = some (.cells #[.slice A bs.length c, .int .i64 p, .int .i64 last, .int .i64 e] 108 (0, 0)) → ∃ last', w'.heap[g]? = some (.cells #[.slice A bs.length c, .int .i64 p', .int .i64 last', .int .i64 e'] 108 (0, 0))) : RdAt w' g bs p' e' M := by
  obtain ⟨A, c, last, h1, h2, h3, h4, h5⟩ := h
  obtain ⟨last', h6⟩ := hg A c last h1
  refine ⟨A, c, last', h6, h2, fun h0 => ?_, h4, fun i hi => Nat.lt_of_lt_of_le (h5 i hi) hf.size⟩
  obtain ⟨gb, k1, k2, k3, k4, k5⟩ := h3 h0
  exact ⟨gb, k1, k2, k3, Nat.lt_of_lt_of_le k4 hf.size, fun j hj => (hf.cell (p := ⟨gb, j, none⟩) k4 k2).trans (k5 j hj)⟩

theorem Rfail_calls (g : Nat) (bs : List Int) (p x : Int) (M : Nat → Prop) (w : World) (h : RdAt w g bs p 0 M) :
    Calls Try.prog 71 #[.pointer (some ⟨g, 0, none⟩), .int .i64 x] w fun e w' => e = .returned (.tuple #[]) ∧ Fr (fun i => i = g) w w' ∧ RdAt w' g bs p x M := by
  obtain ⟨A, c, last, h1, _⟩ := id h
  have hc3 : w.cell? ⟨g, 3, none⟩ = some (.int .i64 0) := (blk_cell h1 3).trans rfl
  have hf3 := blk_frozen h1 3
  have H := Lib.hid h
  clear h
  have hfr : Hid (Fr (fun i => i = g) w (w.setCell ⟨g, 3, none⟩ (.int .i64 x))) := Lib.hid (Fr.setCell (S := fun i => i = g) (Fr.refl _ w) (p := ⟨g, 3, none⟩) (fun _ => rfl) _)
  go_enter Try.func71, Try.ntmps71
  go_wp2_with fail
  go_end0
  exact ⟨rfl, hfr.out, H.out.turn hfr.out (fun A c last h => ⟨last, blk_put h 3 _ rfl⟩)⟩
set_option maxRecDepth 100000 in
theorem take_err (g : Nat) (bs : List Int) (p x n : Int) (M : Nat → Prop) (w : World) (h : RdAt w g bs p x M) (hx : x ≠ 0) :
    Calls Try.prog 82 #[.pointer (some ⟨g, 0, none⟩), .int .u64 n] w fun e w' => e = .returned (.slice none 0 0) ∧ w' = w := by
  obtain ⟨A, c, last, h1, _⟩ := id h
  have hc3 : w.cell? ⟨g, 3, none⟩ = some (.int .i64 x) := (blk_cell h1 3).trans rfl
  have hb : (x != 0) = true := bne_iff_ne.2 hx
  clear h h1
  go_enter Try.func82, Try.ntmps82
  go_wp2_with fail
  go_ret
  exact ⟨rfl, rfl⟩
set_option maxHeartbeats 8000000 in
set_option maxRecDepth 100000 in
theorem take_end (g : Nat) (bs : List Int) (M : Nat → Prop) (w : World) (h : RdAt w g bs bs.length 0 M) (hl : bs.length ≤ 1000000000) :
    Calls Try.prog 82 #[.pointer (some ⟨g, 0, none⟩), .int .u64 1] w fun e w' => e = .returned (.slice none 0 0) ∧ Fr (fun i => i = g) w w' ∧ RdAt w' g bs bs.length 3 M := by
  obtain ⟨A, c, last, h1, _⟩ := id h
  have hc0 : w.cell? ⟨g, 0, none⟩ = some (.slice A bs.length c) := (blk_cell h1 0).trans rfl
  have hc1 : w.cell? ⟨g, 1, none⟩ = some (.int .i64 bs.length) := (blk_cell h1 1).trans rfl
  have hc3 : w.cell? ⟨g, 3, none⟩ = some (.int .i64 0) := (blk_cell h1 3).trans rfl
  have hlt := blk_lt h1
  have H := Lib.hid h
  clear h h1
  go_enter Try.func82, Try.ntmps82
  go_wp2_with fail
  go_quiet (fail)
  go_wp2_with fail
  have HRd := Lib.hid (H.out.below (pw_below_drewN (Below.refl w.heap.size w) nq))
  have HFd : Hid (Fr (fun i => i = g) w (w.drewN nq)) := Lib.hid ((Fr.refl _ w).drewN nq)
  generalize w.drewN nq = w1 at *
  refine (Rfail_calls g bs bs.length 3 M _ HRd.out).mono ?_
  rintro e w2 ⟨rfl, hf, hr⟩
  have HF := Lib.hid (HFd.out.trans hf (fun i _ h => h))
  have HR := Lib.hid hr
  clear hf hr
  go_wp2_with fail
  go_ret
  exact ⟨rfl, HF.out, HR.out⟩
set_option maxHeartbeats 8000000 in
set_option maxRecDepth 100000 in
theorem take_one (g : Nat) (bs : List Int) (p : Nat) (M : Nat → Prop) (w : World) (h : RdAt w g bs p 0 M) (hl : bs.length ≤ 1000000000) (hp : p < bs.length) :
    Calls Try.prog 82 #[.pointer (some ⟨g, 0, none⟩), .int .u64 1] w fun e w' => ∃ gb, e = .returned (.slice (some ⟨gb, p, none⟩) 1 1) ∧ Fr (fun i => i = g) w w' ∧ RdAt w' g bs (p + 1 : Nat) 0 M ∧ gb ≠ g ∧ w'.cell? ⟨gb, p, none⟩ = some (.int .u8 (bs.getD p 0)) := by
  obtain ⟨A, c, last, h1, hc, h3, _⟩ := id h
  obtain ⟨gb, rfl, hne, _, hgl, hcell⟩ := h3 (by omega)
  have hc0 : w.cell? ⟨g, 0, none⟩ = some (.slice (some ⟨gb, 0, none⟩) bs.length c) := (blk_cell h1 0).trans rfl
  have hc1 : w.cell? ⟨g, 1, none⟩ = some (.int .i64 p) := (blk_cell h1 1).trans rfl
  have hc3 : w.cell? ⟨g, 3, none⟩ = some (.int .i64 0) := (blk_cell h1 3).trans rfl
  have hlt := blk_lt h1
  have hf1 := blk_frozen h1 1
  have H := Lib.hid h
  have Hcell := Lib.hid (hcell p hp)
  have hw : IntKind.u64.wrap ((bs.length : Int) - (p : Int)) = (bs.length : Int) - (p : Int) := by rw [IntKind.wrap_u64]; omega
  have hd : decide ((bs.length : Int) - (p : Int) < 1) = false := decide_eq_false (by omega)
  clear h h1 h3 hcell
  go_enter Try.func82, Try.ntmps82
  go_wp2_with fail
  go_quiet (fail)
  generalize nq = nq1 at *
  go_wp2_with fail
  go_quiet (fail)
  go_wp2_with fail
  go_ret
  have hfr : Fr (fun i => i = g) w ((w.drewN (nq1 + nq)).setCell ⟨g, 1, none⟩ (.int .i64 ((p : Int) + 1))) := Fr.setCell (S := fun i => i = g) ((Fr.refl _ w).drewN _) (p := ⟨g, 1, none⟩) (fun _ => rfl) _
  exact ⟨gb, rfl, hfr, by
    have := H.out.turn (p' := (p : Int) + 1) (e' := 0) hfr (fun A c last h => ⟨last, blk_put (w := w.drewN (nq1 + nq)) h 1 _ rfl⟩)
    simpa using this, hne, (hfr.cell (p := ⟨gb, p, none⟩) hgl hne).trans Hcell.out⟩

theorem and127 : ∀ a : Nat, a < 256 → bits .and .u8 (a : Int) 127 = ((a % 128 : Nat) : Int) := by decide +kernel
theorem dec_ten (n : Nat) (l : List Int) : dec 10 n l = none := by cases l <;> simp [dec]
theorem eqNil1 (a : Addr) (n c : Nat) (w : World) : (binOp BinOp.eql 53 (.slice (some a) n c) (.slice none 0 0)).run Try.prog w = .ok (.bool false) w := by kernel_rfl
theorem eqNil0 (w : World) : (binOp BinOp.eql 53 (.slice none 0 0) (.slice none 0 0)).run Try.prog w = .ok (.bool true) w := by kernel_rfl
attribute [local go_sem] eqNil1 eqNil0
/-- What a number's reading leaves. -/
def NumAt (w w' : World) (g : Nat) (bs : List Int) (p : Nat) (M : Nat → Prop) (v : Nat) (q : Nat) (x : Int) : Prop :=
  Fr (fun i => i = g) w w' ∧ RdAt w' g bs q x M ∧ ((dec 0 0 (bs.drop p) = some (v, bs.drop q) ∧ x = 0 ∧ p ≤ q ∧ q ≤ bs.length ∧ v < 18446744073709551616) ∨ (dec 0 0 (bs.drop p) = none ∧ v = 0 ∧ x = 3))
set_option maxHeartbeats 8000000 in
set_option maxRecDepth 100000 in
theorem number_calls (g : Nat) (bs : List Int) (p : Nat) (M : Nat → Prop) (w : World) (h : RdAt w g bs p 0 M) (hl : bs.length ≤ 1000000000) (hp : p ≤ bs.length) (hb : ∀ x ∈ bs, 0 ≤ x ∧ x < 256) :
    Calls Try.prog 70 #[.pointer (some ⟨g, 0, none⟩)] w fun e w' => ∃ (v q : Nat) (x : Int), e = .returned (.int .u64 v) ∧ NumAt w w' g bs p M v q x := by
  have H := Lib.hid h
  have Hb := Lib.hid hb
  clear h hb
  go_enter Try.func70, Try.ntmps70
  go_wp2_with fail
  go_loopw [3, 7] (fun n i wr => ∃ k a : Nat, k ≤ 10 ∧ i = .int .i64 k ∧ n = .int .u64 a ∧ a < 2 ^ (7 * k) ∧ p + k ≤ bs.length ∧ Hid (dec 0 0 (bs.drop p) = dec k a (bs.drop (p + k))) ∧ Hid (Fr (fun i => i = g) w wr) ∧ Hid (RdAt wr g bs (p + k : Nat) 0 M)) (fun _ i _ => 10 - (intOf i).toNat)
  case atStart => exact ⟨0, 0, by omega, rfl, rfl, by simp, by omega, rfl, Fr.refl _ _, H⟩
  case round =>
    obtain ⟨k, a, hk, rfl, rfl, ha, hpk, hdec, hfr, hrd⟩ := hrel
    by_cases hk10 : k = 10
    · subst hk10
      have hnone : Hid (dec 0 0 (bs.drop p) = none) := Lib.hid (hdec.out.trans (dec_ten _ _))
      clear hdec
      go_wp2_with fail
      refine (Rfail_calls g bs (p + 10 : Nat) 3 M _ hrd.out).mono ?_
      rintro e w2 ⟨rfl, hf, hr⟩
      have HF := Lib.hid (hfr.out.trans hf (fun i _ h => h))
      have HR := Lib.hid hr
      clear hf hr
      go_wp2_with fail
      go_ret
      exact ⟨0, p + 10, 3, rfl, HF.out, HR.out, .inr ⟨hnone.out, rfl, rfl⟩⟩
    · have hlt : decide ((k : Int) < 10) = true := decide_eq_true (by omega)
      by_cases hend : p + k = bs.length
      · have hnone : Hid (dec 0 0 (bs.drop p) = none) := Lib.hid (hdec.out.trans (by rw [hend, List.drop_length]; rfl))
        rw [hend] at hrd
        clear hdec
        go_wp2_with fail
        refine (take_end g bs M _ hrd.out hl).mono ?_
        rintro e w2 ⟨rfl, hf, hr⟩
        have HF := Lib.hid (hfr.out.trans hf (fun i _ h => h))
        have HR := Lib.hid hr
        clear hf hr
        go_wp2_with fail
        go_ret
        exact ⟨0, bs.length, 3, rfl, HF.out, HR.out, .inr ⟨hnone.out, rfl, rfl⟩⟩
      · have hlt2 : p + k < bs.length := by omega
        have hdrop : bs.drop (p + k) = bs.getD (p + k) 0 :: bs.drop (p + k + 1) := by
          rw [List.drop_eq_getElem_cons hlt2, List.getD_eq_getElem?_getD, List.getElem?_eq_getElem hlt2]; rfl
        have hby : 0 ≤ bs.getD (p + k) 0 ∧ bs.getD (p + k) 0 < 256 := by
          rw [List.getD_eq_getElem?_getD, List.getElem?_eq_getElem hlt2]
          exact Hb.out _ (List.getElem_mem _)
        have htk := take_one g bs (p + k) M wr hrd.out hl hlt2
        have hdec2 := hdec.out
        rw [hdrop] at hdec2
        obtain ⟨bn, hbn⟩ := Int.eq_ofNat_of_zero_le hby.1
        rw [hbn] at hdec2 hby htk
        have hbn2 : bn < 256 := by omega
        have hand := and127 bn hbn2
        have Hdec2 := Lib.hid hdec2
        have Htk := Lib.hid htk
        clear hdec hdec2 htk hdrop hbn
        go_wp2_with fail
        refine Htk.out.mono ?_
        rintro e w2 ⟨gb, rfl, hf, hr, hne, hcell⟩
        have HF := Lib.hid (hfr.out.trans hf (fun i _ h => h))
        have HR := Lib.hid hr
        have hlb := World.block_lt_of_cell? _ _ hcell
        clear hf hr Htk
        have Hrd : Hid (RdAt w2 g bs (p + k + 1 : Nat) 0 M) := HR
        generalize hn' : a + bn % 128 * 2 ^ (7 * k) = n' at *
        by_cases hbad : (k = 9 ∧ (1 : Int) < bn) ∨ (0 < k ∧ (bn : Int) = 0)
        · have hnone : Hid (dec 0 0 (bs.drop p) = none) := Lib.hid (by rw [Hdec2.out]; simp only [dec]; rw [if_neg (by omega), if_pos hbad])
          have fin : Hid (∀ w', Fr (fun i => i = g) w2 w' → RdAt w' g bs (p + k + 1 : Nat) 3 M → NumAt w w' g bs p M 0 (p + k + 1) 3) := Lib.hid (fun w' hf hr => ⟨HF.out.trans hf (fun i _ h => h), hr, .inr ⟨hnone.out, rfl, rfl⟩⟩)
          have hrf := Rfail_calls g bs (p + k + 1 : Nat) 3 M w2 Hrd.out
          have Hrf := Lib.hid hrf
          clear hrf
          rcases hbad with ⟨rfl, h1⟩ | ⟨h0, h1⟩
          · have hx : decide ((1 : Int) < (bn : Int)) = true := decide_eq_true h1
            clear h1
            go_wp2_with fail
            refine Hrf.out.mono ?_
            rintro e w3 ⟨rfl, hf, hr⟩
            have HX := Lib.hid (fin.out w3 hf hr)
            clear hf hr
            go_wp2_with fail
            go_ret
            exact ⟨0, _, _, rfl, HX.out⟩
          · obtain rfl : bn = 0 := by omega
            have hk0 : decide ((0 : Int) < (k : Int)) = true := decide_eq_true (by omega)
            by_cases h9 : k = 9
            · subst h9
              go_wp2_with fail
              refine Hrf.out.mono ?_
              rintro e w3 ⟨rfl, hf, hr⟩
              have HX := Lib.hid (fin.out w3 hf hr)
              clear hf hr
              go_wp2_with fail
              go_ret
              exact ⟨0, _, _, rfl, HX.out⟩
            · have hx : ((k : Int) == 9) = false := beq_eq_false_iff_ne.2 (by omega)
              go_wp2_with fail
              refine Hrf.out.mono ?_
              rintro e w3 ⟨rfl, hf, hr⟩
              have HX := Lib.hid (fin.out w3 hf hr)
              clear hf hr
              go_wp2_with fail
              go_ret
              exact ⟨0, _, _, rfl, HX.out⟩
        · have ret : Hid (bn < 128 → NumAt w w2 g bs p M n' (p + k + 1) 0) := Lib.hid (fun hlt3 => ⟨HF.out, Hrd.out, .inl ⟨by
              rw [Hdec2.out]; simp only [dec]
              rw [if_neg (by omega), if_neg hbad, if_pos (by omega), ← hn', show ((bn : Int) % 128).toNat = bn % 128 from by omega], rfl, by omega, by omega, by
              by_cases h9 : k = 9
              · subst h9
                have : bn = 1 := by omega
                subst this
                have : n' = a + 1 % 128 * 2 ^ (7 * 9) := hn'.symm
                simp at this ha
                omega
              · have h1 := p7_le8 k (by omega)
                have h2 : bn % 128 * 2 ^ (7 * k) ≤ 127 * 72057594037927936 := Nat.mul_le_mul (by omega) h1
                omega⟩⟩)
          have nxt : Hid (¬ bn < 128 → dec 0 0 (bs.drop p) = dec (k + 1) n' (bs.drop (p + (k + 1))) ∧ n' < 2 ^ (7 * (k + 1))) := Lib.hid (fun hge => by
            refine ⟨?_, ?_⟩
            · rw [Hdec2.out]; simp only [dec]
              rw [if_neg (by omega), if_neg hbad, if_neg (by omega), ← hn', show ((bn : Int) % 128).toNat = bn % 128 from by omega]
              rfl
            · rw [p7, ← hn']
              have : bn % 128 * 2 ^ (7 * k) ≤ 127 * 2 ^ (7 * k) := Nat.mul_le_mul_right _ (by omega)
              omega)
          have hor : bits .or .u64 (a : Int) (IntKind.u64.wrap ((bn : Int) % 128 * 2 ^ (7 * k))) = (n' : Int) := by
            have h1 : bn % 128 * 2 ^ (7 * k) < 18446744073709551616 := by
              by_cases h9 : k = 9
              · subst h9
                have : bn = 1 := by omega
                subst this
                simp
              · have h1 := p7_le8 k (by omega)
                have h2 : bn % 128 * 2 ^ (7 * k) ≤ 127 * 72057594037927936 := Nat.mul_le_mul (by omega) h1
                omega
            have ha64 : a < 18446744073709551616 := Nat.lt_of_lt_of_le ha (by
              by_cases h9 : k = 9
              · subst h9; simp
              · have := p7_le8 k (by omega); omega)
            have e1 : (bn : Int) % 128 * 2 ^ (7 * k) = ((bn % 128 * 2 ^ (7 * k) : Nat) : Int) := by
              rw [Int.natCast_mul, Int.natCast_pow]; rfl
            rw [e1, show IntKind.u64.wrap ((bn % 128 * 2 ^ (7 * k) : Nat) : Int) = ((bn % 128 * 2 ^ (7 * k) : Nat) : Int) from by rw [IntKind.wrap_u64]; omega]
            rw [bits_or_u64_nat a _ ha64 h1, ← hn', ← or_top a (bn % 128) k ha, Nat.shiftLeft_eq]
          by_cases h9 : k = 9
          · have hb1 : bn = 1 := by omega
            have HRt := Lib.hid (ret.out (by omega))
            subst h9
            have hor9 : bits .or .u64 (a : Int) ((bn : Int) % 128 * 9223372036854775808) = (n' : Int) := by
              have : IntKind.u64.wrap ((bn : Int) % 128 * 9223372036854775808) = (bn : Int) % 128 * 9223372036854775808 := by rw [IntKind.wrap_u64]; omega
              simpa [this] using hor
            have q1 : decide ((1 : Int) < (bn : Int)) = false := decide_eq_false (by omega)
            have q2 : ((bn : Int) == 0) = false := beq_eq_false_iff_ne.2 (by omega)
            have q3 : decide ((bn : Int) < 128) = true := decide_eq_true (by omega)
            have q4 : (bn : Int) ≤ 1 := by omega
            clear hor hbad hb1
            go_wp2_with fail
            go_ret
            exact ⟨_, _, _, rfl, HRt.out⟩
          · have hx : ((k : Int) == 9) = false := beq_eq_false_iff_ne.2 (by omega)
            by_cases hk0 : k = 0
            · subst hk0
              simp only [Nat.add_zero] at hcell
              have hor0 : bits .or .u64 (a : Int) ((bn : Int) % 128) = (n' : Int) := by
                have : IntKind.u64.wrap ((bn : Int) % 128) = (bn : Int) % 128 := by rw [IntKind.wrap_u64]; omega
                simpa [this] using hor
              by_cases hlt3 : bn < 128
              · have HRt := Lib.hid (ret.out hlt3)
                have hd3 : decide ((bn : Int) < 128) = true := decide_eq_true (by omega)
                clear hor hbad
                go_wp2_with fail
                go_ret
                exact ⟨_, _, _, rfl, HRt.out⟩
              · have HN := Lib.hid (nxt.out hlt3)
                have hd3 : decide ((bn : Int) < 128) = false := decide_eq_false (by omega)
                clear hor hbad
                go_wp2_with fail
                go_roundw
                case rel => exact ⟨1, n', by omega, by simp, rfl, HN.out.2, by omega, Lib.hid HN.out.1, HF, Hrd⟩
                case measure => simp [intOf]
            · have hkp : decide ((0 : Int) < (k : Int)) = true := decide_eq_true (by omega)
              have hbz : ((bn : Int) == 0) = false := beq_eq_false_iff_ne.2 (by omega)
              by_cases hlt3 : bn < 128
              · have HRt := Lib.hid (ret.out hlt3)
                have hd3 : decide ((bn : Int) < 128) = true := decide_eq_true (by omega)
                clear hbad
                go_wp2_with fail
                go_ret
                exact ⟨_, _, _, rfl, HRt.out⟩
              · have HN := Lib.hid (nxt.out hlt3)
                have hd3 : decide ((bn : Int) < 128) = false := decide_eq_false (by omega)
                clear hbad
                go_wp2_with fail
                go_roundw
                case rel => exact ⟨k + 1, n', by omega, by simp, rfl, HN.out.2, by omega, Lib.hid HN.out.1, HF, Hrd⟩
                case measure => simp [intOf]; omega
end Go.Proofs.Ytkbiggmkjbmgoaa.Bk
