/- The wire reader: counts. -/
import Derived.Test.YtkbiggmkjbmgoaaAG
namespace Go.Proofs.Ytkbiggmkjbmgoaa.Bk
open Go.RowKit Go.Proofs.YtkbiggmkjbmgoaaW.PrintWords Go.Proofs.YtkbiggmkjbmgoaaW.PrintLast Go.Proofs.YtkbiggmkjbmgoaaW.PrintMore Go.Proofs.Mp
set_option linter.unusedVariables false
set_option linter.unusedSimpArgs false
attribute [local go_sem] eqNil1 eqNil0 max_ii

set_option maxRecDepth 100000 in
theorem number_err (g : Nat) (bs : List Int) (p x : Int) (M : Nat → Prop) (w : World) (h : RdAt w g bs p x M) (hx : x ≠ 0) :
    Calls Try.prog 70 #[.pointer (some ⟨g, 0, none⟩)] w fun e w' => e = .returned (.int .u64 0) ∧ w' = w := by
  have Htk := Lib.hid (take_err g bs p x 1 M w h hx)
  clear h hx
  go_enter Try.func70, Try.ntmps70
  go_wp2_with fail
  go_loopw [7] (fun i wr => i = .int .i64 0 ∧ wr = w) (fun i _ => 0)
  case atStart => exact ⟨rfl, rfl⟩
  case round =>
    obtain ⟨rfl, rfl⟩ := hrel
    go_wp2_with fail
    refine Htk.out.mono ?_
    rintro e w2 ⟨rfl, rfl⟩
    go_wp2_with fail
    go_ret
    exact ⟨rfl, rfl⟩

/-- What a limited number's reading leaves. -/
def LimAt (w w' : World) (g : Nat) (bs : List Int) (p : Nat) (M : Nat → Prop) (lim v q : Nat) (x : Int) : Prop :=
  Fr (fun i => i = g) w w' ∧ RdAt w' g bs q x M ∧ ((dec 0 0 (bs.drop p) = some (v, bs.drop q) ∧ x = 0 ∧ p ≤ q ∧ q ≤ bs.length ∧ v ≤ lim) ∨ (x ≠ 0 ∧ v = 0 ∧ ∀ v t, dec 0 0 (bs.drop p) = some (v, t) → lim < v))
set_option maxRecDepth 100000 in
theorem limited_calls (g : Nat) (bs : List Int) (p : Nat) (M : Nat → Prop) (lim : Nat) (w : World) (h : RdAt w g bs p 0 M) (hl : bs.length ≤ 1000000000) (hp : p ≤ bs.length) (hb : ∀ x ∈ bs, 0 ≤ x ∧ x < 256) (hlim : lim ≤ 1000000000) :
    Calls Try.prog 64 #[.pointer (some ⟨g, 0, none⟩), .int .i64 lim] w fun e w' => ∃ (v q : Nat) (x : Int), e = .returned (.int .u64 v) ∧ LimAt w w' g bs p M lim v q x := by
  have Hn := Lib.hid (number_calls g bs p M w h hl hp hb)
  have hw : IntKind.u64.wrap (lim : Int) = (lim : Int) := by rw [IntKind.wrap_u64]; omega
  have hmx : max (lim : Int) 0 = (lim : Int) := by omega
  clear h
  go_enter Try.func64, Try.ntmps64
  go_wp2_with fail
  refine Hn.out.mono ?_
  rintro e w1 ⟨v, q, x, rfl, hf, hr, hn⟩
  by_cases hv : lim < v
  · have hd : decide ((lim : Int) < (v : Int)) = true := decide_eq_true (by omega)
    rcases hn with ⟨h1, rfl, h3, h4, h5⟩ | ⟨_, rfl, _⟩
    · have HF := Lib.hid hf
      have HR := Lib.hid hr
      have H1 := Lib.hid h1
      clear hf hr h1
      go_wp2_with fail
      refine (Rfail_calls g bs q 2 M _ HR.out).mono ?_
      rintro e w2 ⟨rfl, hf, hr⟩
      have HF2 := Lib.hid (HF.out.trans hf (fun i _ h => h))
      have HR2 := Lib.hid hr
      clear hf hr
      go_wp2_with fail
      go_ret
      refine ⟨0, q, 2, rfl, HF2.out, HR2.out, .inr ⟨by decide, rfl, fun v' t h => ?_⟩⟩
      rw [H1.out] at h
      injection h with h
      injection h with h _
      omega
    · omega
  · have hd : decide ((lim : Int) < (v : Int)) = false := decide_eq_false (by omega)
    have Hfin : Hid (LimAt w w1 g bs p M lim v q x) := Lib.hid ⟨hf, hr, by
      rcases hn with ⟨h1, rfl, h3, h4, h5⟩ | ⟨h1, rfl, rfl⟩
      · exact .inl ⟨h1, rfl, h3, h4, by omega⟩
      · exact .inr ⟨by decide, rfl, fun v t h => by rw [h1] at h; cases h⟩⟩
    clear hf hr hn
    go_wp2_with fail
    go_ret
    exact ⟨v, q, x, rfl, Hfin.out⟩
set_option maxRecDepth 100000 in
theorem limited_err (g : Nat) (bs : List Int) (p x : Int) (M : Nat → Prop) (lim : Nat) (w : World) (h : RdAt w g bs p x M) (hx : x ≠ 0) (hlim : lim ≤ 1000000000) :
    Calls Try.prog 64 #[.pointer (some ⟨g, 0, none⟩), .int .i64 lim] w fun e w' => e = .returned (.int .u64 0) ∧ w' = w := by
  have Hn := Lib.hid (number_err g bs p x M w h hx)
  have hw : IntKind.u64.wrap (lim : Int) = (lim : Int) := by rw [IntKind.wrap_u64]; omega
  have hmx : max (lim : Int) 0 = (lim : Int) := by omega
  have hd : decide ((lim : Int) < 0) = false := decide_eq_false (by omega)
  clear h
  go_enter Try.func64, Try.ntmps64
  go_wp2_with fail
  refine Hn.out.mono ?_
  rintro e w1 ⟨rfl, rfl⟩
  go_wp2_with fail
  go_ret
  exact ⟨rfl, rfl⟩

theorem value_calls (g : Nat) (bs : List Int) (p x : Int) (M : Nat → Prop) (w : World) (h : RdAt w g bs p x M) :
    Calls Try.prog 63 #[.pointer (some ⟨g, 0, none⟩)] w fun e w' => ∃ g1 g3, e = .returned (.func (.func 69) #[] #[.pointer (some ⟨g1, 0, none⟩), .pointer (some ⟨g3, 0, none⟩)]) ∧ Below w.heap.size w w' ∧ w.heap.size ≤ g1 ∧ w.heap.size ≤ g3 ∧
      w'.heap[g1]? = some (.cells #[.pointer (some ⟨g, 0, none⟩)] 91 (0, 0)) ∧ w'.heap[g3]? = some (.cells #[.int .i64 p] 3 (0, 0)) := by
  have hmf : ∀ (fn : Fn) (first cap : Array Value) (w : World), (Instr.makeFunc fn first cap).run Try.prog w = .ok (.func fn first cap) w := fun _ _ _ _ => rfl
  obtain ⟨A, c, last, h1, _⟩ := id h
  have hc1 : w.cell? ⟨g, 1, none⟩ = some (.int .i64 p) := (blk_cell h1 1).trans rfl
  have hlt := blk_lt h1
  have hbx := ((Below.refl w.heap.size w).alloc (Nat.le_refl _) (.cells #[.pointer (some ⟨g, 0, none⟩)] 91))
  have HB := Lib.hid (hbx.alloc hbx.size (.cells #[.int .i64 p] 3))
  have HA0 := Lib.hid (blk_alloc (blk_new w (.cells #[.pointer (some ⟨g, 0, none⟩)] 91)) (.cells #[.int .i64 p] 3))
  have HB0 := Lib.hid (blk_new (w.alloc (.cells #[.pointer (some ⟨g, 0, none⟩)] 91)) (.cells #[.int .i64 p] 3))
  have Hz : Hid ((w.alloc (.cells #[.pointer (some ⟨g, 0, none⟩)] 91)).heap.size = w.heap.size + 1) := Lib.hid (Array.size_push ..)
  clear h h1 hbx
  go_enter Try.func63, Try.ntmps63
  go_wp2_with fail
  go_ret
  refine ⟨_, _, rfl, HB.out, Nat.le_refl _, by omega, HA0.out, ?_⟩
  have := HB0.out
  rwa [Hz.out] at this
theorem close_calls (g : Nat) (bs : List Int) (p q x : Int) (M : Nat → Prop) (g1 g3 : Nat) (u : FrameMode) (w : World) (h : RdAt w g bs q x M) (h1 : w.heap[g1]? = some (.cells #[.pointer (some ⟨g, 0, none⟩)] 91 (0, 0))) (h3 : w.heap[g3]? = some (.cells #[.int .i64 p] 3 (0, 0))) :
    CallsD Try.prog 69 #[.pointer (some ⟨g1, 0, none⟩), .pointer (some ⟨g3, 0, none⟩)] u w fun e u' w' => u' = u ∧ (e = .returned (.tuple #[]) ∧ Fr (fun i => i = g) w w' ∧ RdAt w' g bs (if x = 0 then q else p) x M) := by
  obtain ⟨A, c, last, hk, _⟩ := id h
  have hc1 : w.cell? ⟨g1, 0, none⟩ = some (.pointer (some ⟨g, 0, none⟩)) := (blk_cell h1 0).trans rfl
  have hc3 : w.cell? ⟨g3, 0, none⟩ = some (.int .i64 p) := (blk_cell h3 0).trans rfl
  have hce : w.cell? ⟨g, 3, none⟩ = some (.int .i64 x) := (blk_cell hk 3).trans rfl
  have hca : w.cell? ⟨g, 1, none⟩ = some (.int .i64 q) := (blk_cell hk 1).trans rfl
  have hcl : w.cell? ⟨g, 2, none⟩ = some (.int .i64 last) := (blk_cell hk 2).trans rfl
  have hf1 := blk_frozen hk 1
  have hf2 := blk_frozen hk 2
  have H := Lib.hid h
  clear h hk h1 h3
  by_cases hx : x = 0
  · subst hx
    have hfr : Hid (Fr (fun i => i = g) w (w.setCell ⟨g, 2, none⟩ (.int .i64 p))) := Lib.hid (Fr.setCell (S := fun i => i = g) (Fr.refl _ w) (p := ⟨g, 2, none⟩) (fun _ => rfl) _)
    go_enter_d Try.func69, Try.ntmps69
    go_wp2_with fail
    go_end0
    exact ⟨rfl, hfr.out, H.out.turn hfr.out (fun A c last h => ⟨p, blk_put h 2 _ rfl⟩)⟩
  · have hb : (x != 0) = true := bne_iff_ne.2 hx
    rw [if_neg hx]
    have hfr : Hid (Fr (fun i => i = g) w (w.setCell ⟨g, 1, none⟩ (.int .i64 p))) := Lib.hid (Fr.setCell (S := fun i => i = g) (Fr.refl _ w) (p := ⟨g, 1, none⟩) (fun _ => rfl) _)
    go_enter_d Try.func69, Try.ntmps69
    go_wp2_with fail
    (try simp only [Exit.inBlock, Exit.then])
    refine bodyPost_ret (results_none rfl _ _ _) rfl ?_
    exact ⟨rfl, hfr.out, H.out.turn hfr.out (fun A c last h => ⟨last, blk_put h 1 _ rfl⟩)⟩

/-- What a count's reading leaves: the count and the place behind it, or an error, and the place is the old one. -/
def CntAt (w w' : World) (g : Nat) (bs : List Int) (p : Nat) (M : Nat → Prop) (lim v q : Nat) (x : Int) : Prop :=
  Fr (fun i => i = g) w w' ∧ RdAt w' g bs q x M ∧ ((dec 0 0 (bs.drop p) = some (v, bs.drop q) ∧ x = 0 ∧ p ≤ q ∧ q ≤ bs.length ∧ v ≤ lim) ∨ (x ≠ 0 ∧ v = 0 ∧ q = p ∧ ∀ v t, dec 0 0 (bs.drop p) = some (v, t) → lim < v))
set_option maxRecDepth 100000 in
theorem RCount_calls (g : Nat) (bs : List Int) (p : Nat) (M : Nat → Prop) (lim : Nat) (w : World) (h : RdAt w g bs p 0 M) (hl : bs.length ≤ 1000000000) (hp : p ≤ bs.length) (hb : ∀ x ∈ bs, 0 ≤ x ∧ x < 256) (hlim : lim ≤ 1000000000) :
    Calls Try.prog 50 #[.pointer (some ⟨g, 0, none⟩), .int .i64 lim] w fun e w' => ∃ (v q : Nat) (x : Int), e = .returned (.int .i64 v) ∧ CntAt w w' g bs p M lim v q x := by
  have Hv := Lib.hid (value_calls g bs p 0 M w h)
  have H := Lib.hid h
  have hgw : Hid (g < w.heap.size) := Lib.hid (by obtain ⟨_, _, _, h1, _⟩ := h; exact blk_lt h1)
  have Hb := Lib.hid hb
  clear h hb
  go_enter_defers Try.func50, Try.ntmps50
  go_wp2_with fail
  refine Hv.out.mono ?_
  rintro e w1 ⟨g1, g3, rfl, hb1, hg1, hg3, hk1, hk3⟩
  have HB1 := Lib.hid hb1
  have HR1 := Lib.hid (H.out.below hb1)
  have HK1 := Lib.hid hk1
  have HK3 := Lib.hid hk3
  clear hb1 hk1 hk3
  go_wp2_with fail
  refine (limited_calls g bs p M lim _ HR1.out hl hp Hb.out hlim).mono ?_
  rintro e w2 ⟨v, q, x, rfl, hf, hr, hn⟩
  have hv64 : v ≤ 1000000000 := by
    rcases hn with ⟨_, _, _, _, h⟩ | ⟨_, rfl, _⟩ <;> omega
  have hcv : wrap64 (v : Int) = (v : Int) := wrap_in (by unfold In64; omega)
  have HF := Lib.hid hf
  have HR := Lib.hid hr
  have HN := Lib.hid hn
  clear hf hr hn
  go_wp2_with fail
  have hg := hgw.out
  have k1 := HF.out.heap HK1.out (by omega)
  have k3 := HF.out.heap HK3.out (by omega)
  refine leaves_cons (f := 69) (args := #[.pointer (some ⟨g1, 0, none⟩), .pointer (some ⟨g3, 0, none⟩)]) (by simp) (by simp [go_sem]) ?_
  refine (close_calls g bs p q x M g1 g3 .returning _ HR.out k1 k3).mono ?_
  rintro e u' w3 ⟨rfl, rfl, hf, hr⟩
  refine ⟨_, results_tmp rfl _ _ _, ?_⟩
  have hfr : Fr (fun i => i = g) w w3 := ((Fr.of_below HB1.out).trans HF.out (fun i _ h => h)).trans hf (fun i _ h => h)
  rcases HN.out with ⟨n1, rfl, n3, n4, n5⟩ | ⟨n1, rfl, n3⟩
  · rw [if_pos rfl] at hr
    exact ⟨v, q, 0, rfl, hfr, hr, .inl ⟨n1, rfl, n3, n4, n5⟩⟩
  · rw [if_neg n1] at hr
    exact ⟨0, p, x, rfl, hfr, hr, .inr ⟨n1, rfl, rfl, n3⟩⟩
set_option maxRecDepth 100000 in
theorem RCount_err (g : Nat) (bs : List Int) (p : Nat) (x : Int) (M : Nat → Prop) (lim : Nat) (w : World) (h : RdAt w g bs p x M) (hx : x ≠ 0) (hlim : lim ≤ 1000000000) :
    Calls Try.prog 50 #[.pointer (some ⟨g, 0, none⟩), .int .i64 lim] w fun e w' => e = .returned (.int .i64 0) ∧ Fr (fun i => i = g) w w' ∧ RdAt w' g bs p x M := by
  have Hv := Lib.hid (value_calls g bs p x M w h)
  have H := Lib.hid h
  have hgw : Hid (g < w.heap.size) := Lib.hid (by obtain ⟨_, _, _, h1, _⟩ := h; exact blk_lt h1)
  have Hx := Lib.hid hx
  clear h hx
  go_enter_defers Try.func50, Try.ntmps50
  go_wp2_with fail
  refine Hv.out.mono ?_
  rintro e w1 ⟨g1, g3, rfl, hb1, hg1, hg3, hk1, hk3⟩
  have HB1 := Lib.hid hb1
  have HR1 := Lib.hid (H.out.below hb1)
  have HK1 := Lib.hid hk1
  have HK3 := Lib.hid hk3
  clear hb1 hk1 hk3
  go_wp2_with fail
  refine (limited_err g bs p x M lim _ HR1.out Hx.out hlim).mono ?_
  rintro e w2 ⟨rfl, rfl⟩
  go_wp2_with fail
  refine leaves_cons (f := 69) (args := #[.pointer (some ⟨g1, 0, none⟩), .pointer (some ⟨g3, 0, none⟩)]) (by simp) (by simp [go_sem]) ?_
  refine (close_calls g bs p p x M g1 g3 .returning _ HR1.out HK1.out HK3.out).mono ?_
  rintro e u' w3 ⟨rfl, rfl, hf, hr⟩
  refine ⟨_, results_tmp rfl _ _ _, rfl, (Fr.of_below HB1.out).trans hf (fun i _ h => h), ?_⟩
  rwa [if_neg Hx.out] at hr

theorem Left_calls (g : Nat) (bs : List Int) (p : Nat) (x : Int) (M : Nat → Prop) (w : World) (h : RdAt w g bs p x M) (hl : bs.length ≤ 1000000000) (hp : p ≤ bs.length) :
    Calls Try.prog 65 #[.pointer (some ⟨g, 0, none⟩)] w fun e w' => e = .returned (.int .i64 ((bs.length : Int) - (p : Int))) ∧ Below w.heap.size w w' := by
  obtain ⟨A, c, last, h1, _⟩ := id h
  have hc0 : w.cell? ⟨g, 0, none⟩ = some (.slice A bs.length c) := (blk_cell h1 0).trans rfl
  have hc1 : w.cell? ⟨g, 1, none⟩ = some (.int .i64 p) := (blk_cell h1 1).trans rfl
  have hlt := blk_lt h1
  clear h h1
  go_enter Try.func65, Try.ntmps65
  go_wp2_with fail
  go_quiet (fail)
  go_wp2_with fail
  go_ret
  exact ⟨rfl, pw_below_drewN (Below.refl _ _) _⟩
set_option maxRecDepth 100000 in
theorem End_calls (g : Nat) (bs : List Int) (p : Nat) (x : Int) (M : Nat → Prop) (w : World) (h : RdAt w g bs p x M) (hl : bs.length ≤ 1000000000) (hp : p ≤ bs.length) :
    Calls Try.prog 51 #[.pointer (some ⟨g, 0, none⟩)] w fun e w' => e = .returned (.tuple #[.int .i64 p, .int .i64 (if x = 0 then (if p < bs.length then 3 else 0) else x)]) ∧ Below w.heap.size w w' := by
  obtain ⟨A, c, last, h1, _⟩ := id h
  have hc1 : w.cell? ⟨g, 1, none⟩ = some (.int .i64 p) := (blk_cell h1 1).trans rfl
  have hc3 : w.cell? ⟨g, 3, none⟩ = some (.int .i64 x) := (blk_cell h1 3).trans rfl
  have hlt := blk_lt h1
  have H := Lib.hid h
  clear h h1
  by_cases hx : x = 0
  · subst hx
    rw [if_pos rfl]
    by_cases hp2 : p < bs.length
    · rw [if_pos hp2]
      have hd : decide ((0 : Int) < (bs.length : Int) - (p : Int)) = true := decide_eq_true (by omega)
      go_enter Try.func51, Try.ntmps51
      go_wp2_with fail
      go_quiet (fail)
      have HB := Lib.hid (pw_below_drewN (Below.refl w.heap.size w) nq)
      have HR := Lib.hid (H.out.below HB.out)
      generalize w.drewN nq = w1 at *
      go_wp2_with fail
      refine (Left_calls g bs p 0 M _ HR.out hl hp).mono ?_
      rintro e w2 ⟨rfl, hb2⟩
      have HB2 := Lib.hid (HB.out.trans (hb2.mono HB.out.size))
      clear hb2
      go_wp2_with fail
      refine bodyPost_ret (results_list (rs := [.tmp 2, .tmp 3]) rfl (by simp) (.tmp (.tmp .nil))) rfl ⟨rfl, HB2.out⟩
    · rw [if_neg hp2]
      have hd : decide ((0 : Int) < (bs.length : Int) - (p : Int)) = false := decide_eq_false (by omega)
      go_enter Try.func51, Try.ntmps51
      go_wp2_with fail
      go_quiet (fail)
      have HB := Lib.hid (pw_below_drewN (Below.refl w.heap.size w) nq)
      have HR := Lib.hid (H.out.below HB.out)
      generalize w.drewN nq = w1 at *
      go_wp2_with fail
      refine (Left_calls g bs p 0 M _ HR.out hl hp).mono ?_
      rintro e w2 ⟨rfl, hb2⟩
      have HB2 := Lib.hid (HB.out.trans (hb2.mono HB.out.size))
      clear hb2
      go_wp2_with fail
      refine bodyPost_ret (results_list (rs := [.tmp 2, .tmp 3]) rfl (by simp) (.tmp (.tmp .nil))) rfl ⟨rfl, HB2.out⟩
  · rw [if_neg hx]
    have hb : (x == 0) = false := beq_eq_false_iff_ne.2 hx
    go_enter Try.func51, Try.ntmps51
    go_wp2_with fail
    go_quiet (fail)
    have HB := Lib.hid (pw_below_drewN (Below.refl w.heap.size w) nq)
    generalize w.drewN nq = w1 at *
    go_wp2_with fail
    refine bodyPost_ret (results_list (rs := [.tmp 2, .tmp 3]) rfl (by simp) (.tmp (.tmp .nil))) rfl ⟨rfl, HB.out⟩

set_option maxRecDepth 100000 in
theorem NewReader_calls (A : Option Addr) (c : Nat) (bs : List Int) (w : World) (h : Kd.C (Kd.int .u8) w A bs.length bs) (hl : bs.length ≤ 1000000000) :
    Calls Try.prog 49 #[.slice A bs.length c] w fun e w' => ∃ g M, e = .returned (.pointer (some ⟨g, 0, none⟩)) ∧ RdAt w' g bs 0 0 M ∧ Below w.heap.size w w' ∧ ∀ i, M i → w.heap.size ≤ i := by
  have HO := Lib.hid (R_none' (Kd.int .u8) 5 w w.heap.size (Nat.le_refl _) (fun k => w.heap.size ≤ k) (Nat.le_refl _))
  have HB := Lib.hid ((Below.refl w.heap.size w).alloc (Nat.le_refl _) (.cells #[] 5))
  have HC1 := Lib.hid (Kd.C_alloc h (.cells #[] 5))
  clear h
  go_enter Try.func49, Try.ntmps49
  go_wp2_with (at_builtin; refine Kd.R_append_rows (Kd.int .u8) (w0 := w) w.heap.size rfl (.tmp 3) (.tmp 4) 53 5 (.int .u8 0) 1 rfl Try.underlying53 PMeetingstatsEncodes.info5 rfl (by decide) (by omega) _ [] bs _ _ _ (fun k => w.heap.size ≤ k) (fun _ => False) rfl rfl HO.out HC1.out (fun _ _ h => h) (fun _ h => h.elim) (fun k hk => Nat.le_trans HB.out.size hk) HB.out HB.out.size (by simp; omega) ?_; intro v1 w1 ho1 hB1 hg1 hat1; rw [List.nil_append] at ho1; obtain ⟨A1, c1, hv1, hle1, hC1⟩ := Kd.R_reads ho1; subst hv1; have HO1 := Lib.hid ho1; have HL1 := Lib.hid hle1; have HC3 := Lib.hid hC1; have HB1 := Lib.hid hB1; clear ho1 hB1 hg1 hat1 hle1 hC1)
  go_ret
  have hbx := HB1.out.alloc HB1.out.size (.cells #[.slice A1 bs.length c1, .int .i64 0, .int .i64 0, .int .i64 0] 108)
  have hnew := blk_new w1 (.cells #[.slice A1 bs.length c1, .int .i64 0, .int .i64 0, .int .i64 0] 108)
  have hb2 := (Below.refl w1.heap.size w1).alloc (Nat.le_refl _) (.cells #[.slice A1 bs.length c1, .int .i64 0, .int .i64 0, .int .i64 0] 108)
  refine ⟨_, fun i => w.heap.size ≤ i ∧ i < w1.heap.size + 1, rfl, ⟨A1, c1, 0, hnew, HL1.out, fun h0 => ?_, ⟨HB1.out.size, by omega⟩, fun i hi => ?_⟩, hbx, fun i hi => hi.1⟩
  · obtain ⟨inner, ho⟩ := Kd.R_own HO1.out
    obtain ⟨g, cap, he, hg1, hg2⟩ := ho.form h0
    injection he with he1 he2 he3
    subst he1
    have hglt := own_lt ho g rfl
    have hgb := HO1.out.1 g rfl
    refine ⟨g, rfl, by omega, ⟨hgb, by omega⟩, ?_, fun j hj => ?_⟩
    · have := blk_lt hnew; omega
    · obtain ⟨ad, hA, hcell⟩ := HC3.out.2.2 h0
      injection hA with hA
      subst hA
      obtain ⟨cs, _, hK, hc⟩ := hcell j (bs.getD j 0) (by rw [List.getElem?_eq_getElem hj, List.getD_eq_getElem?_getD, List.getElem?_eq_getElem hj]; rfl)
      have hcs : cs = [.int .u8 (bs.getD j 0)] := hK
      subst hcs
      have := hc 0 _ rfl
      have e : (Kd.int .u8).sz = 1 := rfl
      rw [e, Nat.mul_one, Nat.add_zero, add_plain] at this
      exact pw_cell_below hb2 this
  · have h2 : (w1.alloc (.cells #[.slice A1 bs.length c1, .int .i64 0, .int .i64 0, .int .i64 0] 108)).heap.size = w1.heap.size + 1 := Array.size_push ..
    have := hi.2
    omega
end Go.Proofs.Ytkbiggmkjbmgoaa.Bk
