/- Match of package priority: its walk. -/
import Derived.Test.YtkngdlmlijefbaaTP
namespace Go.Proofs.Ytkngdlmlijefbaa.Pq
open Go.RowKit Go.Proofs.YtkngdlmlijefbaaW.PrintWords Go.Proofs.YtkngdlmlijefbaaW.PrintLast Go.Proofs.YtkngdlmlijefbaaW.PrintMore Go.Proofs.Mp
open Go.Proofs.Ytkngdlmlijefbaa.PPriorityOrder
set_option linter.unusedVariables false
set_option linter.unusedSimpArgs false

def res (a b : List S32) (budget : Int) : List (Int × S32) := mt ((ordT a).length + (ordT b).length) (ordT a) (ordT b) budget
def okAll (a b : List S32) (budget : Int) : Bool := a.all vB && (b.all vB && decide (0 ≤ budget))
def MatR (w : World) (a b : List S32) (budget : Int) (e : Ending) (w' : World) : Prop :=
  (okAll a b budget = true → ∃ v u, e = .returned (.tuple #[v, u, .int .i64 0]) ∧ Kd.R (Kd.int .i64) 3 w' w.heap.size (fun _ => True) v ((res a b budget).map (·.1)) ∧ Kd.R k32 32 w' w.heap.size (fun _ => True) u ((res a b budget).map (·.2)) ∧ Below w.heap.size w w') ∧
  (okAll a b budget = false → e = .returned (.tuple #[.slice none 0 0, .slice none 0 0, .int .i64 1]) ∧ Below w.heap.size w w')
def lenOf : Value → Nat
  | .slice _ n _ => n
  | _ => 0
/-- What Match keeps while it goes. -/
structure MI (w0 wr : World) (gl : Nat) (Ax : Option Addr) (cx : Nat) (x : List S32) (Ay : Option Addr) (cy : Nat) (y : List S32) (left : Int) (ss : List Int) (ts : List S32) (v13 v14 : Value) : Prop where
  sx : Src w0 gl Ax cx x
  sy : Src w0 gl Ay cy y
  vx : ∀ t ∈ x, Vt t
  vy : ∀ t ∈ y, Vt t
  fr : Fr (fun i => i = gl) w0 wr
  blk : wr.heap[gl]? = some (.cells #[.int .i64 left] 3 (0, 0))
  l0 : 0 ≤ left
  l1 : left ≤ 9223372036854775807
  sd : Kd.R (Kd.int .i64) 3 wr w0.heap.size (fun _ => True) v13 ss
  ot : Kd.R k32 32 wr w0.heap.size (fun _ => True) v14 ts
  gl : gl < w0.heap.size
theorem match_no (A : Option Addr) (ca : Nat) (a : List S32) (B : Option Addr) (cb : Nat) (b : List S32) (budget : Int) (w : World) (ha : Kd.C k32 w A a.length a) (hb : Kd.C k32 w B b.length b) (hla : a.length ≤ 1000) (hlb : b.length ≤ 1000) (h : okAll a b budget = false) :
    Calls Try.prog 30 #[.slice A a.length ca, .slice B b.length cb, .int .i64 budget] w fun e w' => e = .returned (.tuple #[.slice none 0 0, .slice none 0 0, .int .i64 1]) ∧ Below w.heap.size w w' := by
  have H1 := Lib.hid (Order_calls A ca a w ha hla)
  have Hb := Lib.hid hb
  have hh := h
  unfold okAll at hh
  clear ha hb h
  cases qa : a.all vB with
  | false =>
    have Qa := Lib.hid qa
    clear hh qa
    go_enter Try.func30, Try.ntmps30
    go_wp2_with fail
    refine H1.out.mono ?_
    rintro e w1 ⟨-, h2⟩
    obtain ⟨rfl, hB⟩ := h2 Qa.out
    have B1 := Lib.hid hB
    clear h2 hB H1
    go_wp2_with fail
    refine (Order_calls B cb b w1 (Kd.C_below Hb.out B1.out) hlb).mono ?_
    rintro e w2 ⟨h1, h2⟩
    cases qb : b.all vB with
    | false =>
      obtain ⟨rfl, hB⟩ := h2 qb
      have B2 := Lib.hid (B1.out.trans (hB.mono B1.out.size))
      clear h1 h2 hB qb
      go_wp2_with fail
      exact bodyPost_ret (v := .tuple #[.slice none 0 0, .slice none 0 0, .int .i64 1]) (by simp [results, Try.results30, go_sem]) rfl ⟨rfl, B2.out⟩
    | true =>
      obtain ⟨v, rfl, hR, hB⟩ := h1 qb
      have B2 := Lib.hid (B1.out.trans (hB.mono B1.out.size))
      clear h1 h2 hB qb hR
      go_wp2_with fail
      exact bodyPost_ret (v := .tuple #[.slice none 0 0, .slice none 0 0, .int .i64 1]) (by simp [results, Try.results30, go_sem]) rfl ⟨rfl, B2.out⟩
  | true =>
    have Qa := Lib.hid qa
    rw [qa, Bool.true_and] at hh
    clear qa
    cases qb : b.all vB with
    | false =>
      have Qb := Lib.hid qb
      clear hh qb
      go_enter Try.func30, Try.ntmps30
      go_wp2_with fail
      refine H1.out.mono ?_
      rintro e w1 ⟨h1, -⟩
      obtain ⟨v, rfl, hR, hB⟩ := h1 Qa.out
      have B1 := Lib.hid hB
      clear h1 hB H1 hR
      go_wp2_with fail
      refine (Order_calls B cb b w1 (Kd.C_below Hb.out B1.out) hlb).mono ?_
      rintro e w2 ⟨-, h2⟩
      obtain ⟨rfl, hB⟩ := h2 Qb.out
      have B2 := Lib.hid (B1.out.trans (hB.mono B1.out.size))
      clear h2 hB
      go_wp2_with fail
      exact bodyPost_ret (v := .tuple #[.slice none 0 0, .slice none 0 0, .int .i64 1]) (by simp [results, Try.results30, go_sem]) rfl ⟨rfl, B2.out⟩
    | true =>
      have Qb := Lib.hid qb
      rw [qb, Bool.true_and] at hh
      have hneg : decide (budget < 0) = true := decide_eq_true (by have := of_decide_eq_false hh; omega)
      clear qb hh
      go_enter Try.func30, Try.ntmps30
      go_wp2_with fail
      refine H1.out.mono ?_
      rintro e w1 ⟨h1, -⟩
      obtain ⟨v, rfl, hR, hB⟩ := h1 Qa.out
      have B1 := Lib.hid hB
      clear h1 hB H1 hR
      go_wp2_with fail
      refine (Order_calls B cb b w1 (Kd.C_below Hb.out B1.out) hlb).mono ?_
      rintro e w2 ⟨h1, -⟩
      obtain ⟨u, rfl, hR, hB⟩ := h1 Qb.out
      have B2 := Lib.hid (B1.out.trans (hB.mono B1.out.size))
      clear h1 hB hR
      go_wp2_with fail
      exact bodyPost_ret (v := .tuple #[.slice none 0 0, .slice none 0 0, .int .i64 1]) (by simp [results, Try.results30, go_sem]) rfl ⟨rfl, B2.out⟩
end Go.Proofs.Ytkngdlmlijefbaa.Pq
