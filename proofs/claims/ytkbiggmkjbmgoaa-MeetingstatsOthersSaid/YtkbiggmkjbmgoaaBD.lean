/- Rank: the devices sorted by their weights. -/
import Derived.Test.YtkbiggmkjbmgoaaBC
import Derived.Test.YtkbiggmkjbmgoaaBB
import Derived.Sort.OwnSortedInts
import Derived.Shelf.Lay
import Derived.Ground.SlsfProg
namespace Go.Proofs
open Go.Shelf
shelf_lay_g SlLaysF.n6 Slsf 6 at Try 54 as Ytkbiggmkjbmgoaa.sortL
end Go.Proofs
namespace Go.Proofs.Ytkbiggmkjbmgoaa.Bk
open Go.RowKit Go.Proofs.YtkbiggmkjbmgoaaW.PrintWords Go.Proofs.YtkbiggmkjbmgoaaW.PrintLast Go.Proofs.YtkbiggmkjbmgoaaW.PrintMore Go.Proofs.Mp
set_option linter.unusedVariables false
set_option linter.unusedSimpArgs false

theorem ltW (f : Int → Int) (x y : Int) : ltOf (cfW f) x y = decide (f y < f x ∨ (f y = f x ∧ x < y)) := by
  unfold ltOf cfW
  apply decide_eq_decide.2
  rcases cmpI_cases (f y) (f x) with ⟨h1, h2⟩ | ⟨h1, h2⟩ | ⟨h1, h2⟩ <;> rw [h2]
  · simp; omega
  · rcases cmpI_cases x y with ⟨h3, h4⟩ | ⟨h3, h4⟩ | ⟨h3, h4⟩ <;> rw [h4] <;> simp <;> omega
  · simp; omega
theorem swoW (f : Int → Int) : Sort.SWO (ltOf (cfW f)) where
  irrefl x := by rw [ltW]; simp
  trans x y z h1 h2 := by rw [ltW] at *; simp at *; omega
  ntrans x y z h1 h2 := by rw [ltW] at *; simp at *; omega
theorem C_of_cells {w : World} {g : Nat} {xs : List Int} (hl : xs.length ≤ 9223372036854775807) (h : ∀ j, (hj : j < xs.length) → w.cell? ⟨g, j, none⟩ = some (.int .i64 xs[j])) : Kd.C (Kd.int .i64) w (some ⟨g, 0, none⟩) xs.length xs :=
  ⟨rfl, hl, fun _ => ⟨_, rfl, fun j p hj => by
    obtain ⟨hj1, rfl⟩ := List.getElem?_eq_some_iff.1 hj
    refine ⟨[.int .i64 xs[j]], rfl, rfl, fun i u hi => ?_⟩
    cases i with
    | zero =>
      simp at hi
      subst hi
      have e : (Kd.int .i64).sz = 1 := rfl
      rw [e, Nat.mul_one, Nat.add_zero, add_plain]
      exact h j hj1
    | succ i => simp at hi⟩⟩

set_option maxHeartbeats 4000000 in
/-- slices.SortFunc at the closure over the weights. -/
theorem sort_calls (f : Int → Int) (gw mb : Nat) (xs : List Int) (v : Value) (base : Nat) (ok : Nat → Prop) (w : World) (hR : Kd.R (Kd.int .i64) 3 w base ok v xs) (h0 : 0 < xs.length) (hlen : xs.length ≤ 1000)
    (hgw : v.ownBlock ≠ some gw) (hmb : v.ownBlock ≠ some mb) (hc : w.cell? ⟨gw, 0, none⟩ = some (.map (some mb))) (hml : mb < w.heap.size)
    (hlook : ∀ W : World, W.heap[mb]? = w.heap[mb]? → ∀ a : Int, (Instr.lookup 96 (.map (some mb)) (.int .i64 a) false).run Try.prog W = .ok (.int .i64 (f a)) W) :
    Calls Try.prog 54 #[v, .func (.func 55) #[] #[.pointer (some ⟨gw, 0, none⟩)]] w fun e w' => e = .returned (.tuple #[]) ∧ ∃ (A : Option Addr) (c : Nat) (ys : List Int), v = .slice A ys.length c ∧ ys.length ≤ c ∧ ys.Perm xs ∧
      (∀ i j : Nat, i < j → (hj : j < ys.length) → ¬ (f (ys.getD i 0) < f (ys.getD j 0) ∨ (f (ys.getD i 0) = f (ys.getD j 0) ∧ ys.getD j 0 < ys.getD i 0))) ∧ Kd.C (Kd.int .i64) w' A ys.length ys ∧ Fr (fun k => v.ownBlock = some k) w w' := by
  obtain ⟨inner, hown⟩ := Kd.R_own hR
  obtain ⟨A, c, hv, hcl, hC⟩ := Kd.R_reads hR
  obtain ⟨_, hv2⟩ := hown
  rcases hv2 with ⟨_, h⟩ | ⟨g, cap, cur, rfl, hg, hh, hcap, _⟩
  · omega
  injection hv with e1 e2 e3
  subst e1
  subst e3
  have hgg : g ≠ gw := fun e => hgw (by rw [← e]; rfl)
  have hgm : g ≠ mb := fun e => hmb (by rw [← e]; rfl)
  have hgl := blk_lt hh
  have hgwl := World.block_lt_of_cell? _ _ hc
  have hH : Sort.Holds (Value.int .i64) w g 0 xs.toArray := fun j hj => by
    have hj : j < xs.length := by simpa using hj
    obtain ⟨ad, he, hcell⟩ := Kd.at_int hC j (by omega) (by omega)
    injection he with he
    subst he
    rw [Int.toNat_natCast, add_plain, rd_l xs j hj] at hcell
    refine ⟨?_, blk_frozen hh _⟩
    rw [Nat.zero_add, hcell]
    simp [hj]
  have eg : ∀ args w, (callFunc 55 args).run Try.prog w = .ok (.enter 55 args) w := enters_of Try.func55 (by kernel_rfl) rfl
  have hcmp : CmpLays1 Try.prog 55 #[.pointer (some ⟨gw, 0, none⟩)] (Value.int .i64) (cfW f) g 0 xs.toArray.size w := by
    intro m os dk hs x y
    have hsz : ∀ i, i < w.heap.size → i ≠ g → (sortWorld (Value.int .i64) w g 0 m dk os).heap[i]? = w.heap[i]? := fun i hi hne =>
      (grownBy_sortedI (w := w) (g := g) (n := m) (os := os) dk).block i hi (fun e => hne (Option.some.inj e))
    have hc' : (sortWorld (Value.int .i64) w g 0 m dk os).cell? ⟨gw, 0, none⟩ = some (.map (some mb)) := (World.cell?_of_block (w := w) (hsz gw hgwl (Ne.symm hgg))).trans hc
    have hl := hlook _ (hsz mb hml (Ne.symm hgm))
    exact closure_calls f gw mb x y _ hc' (hl x) (hl y)
  have hS := Any.slices_SortFunc Ytkbiggmkjbmgoaa.sortL (Value.int .i64) (fun _ => rfl) (cfW f) (swoW f) 55 #[.pointer (some ⟨gw, 0, none⟩)] g 0 cap xs.toArray w eg hcmp hH hgl (by simp; omega)
  have hsz0 : xs.toArray.size = xs.length := by simp
  rw [hsz0] at hS
  change Calls Try.prog 54 _ _ _ at hS
  refine hS.mono ?_
  rintro e w' ⟨rfl, d', n, os, ⟨hp1, _, hp2⟩, hs, rfl⟩
  have hl' : d'.toList.length = xs.length := by simpa using hp1
  refine ⟨rfl, some ⟨g, 0, none⟩, cap, d'.toList, by rw [hl'], by omega, ?_, fun i j hij hj => ?_, ?_, ?_⟩
  · have : d'.extract 0 xs.length = d' := by rw [← hl', Array.length_toList, Array.extract_size]
    rw [this] at hp2
    rw [← hsz0, Array.extract_size] at hp2
    exact hp2
  · have h1 := hs i j (Nat.zero_le _) hij (by omega)
    rw [ltW] at h1
    have e1 : d'[i]! = d'.toList.getD i 0 := by
      have : i < d'.size := by have := Array.length_toList (xs := d'); omega
      simp [List.getD_eq_getElem?_getD, this]
    have e2 : d'[j]! = d'.toList.getD j 0 := by
      have : j < d'.size := by have := Array.length_toList (xs := d'); omega
      simp [List.getD_eq_getElem?_getD, this]
    rw [e1, e2] at h1
    exact of_decide_eq_false h1
  · refine C_of_cells (by omega) (fun j hj => ?_)
    have hj2 : j < d'.size := by simpa using hj
    have h1 := (Sort.holds_grow (Value.int .i64) (Sort.putRow (Value.int .i64) (Sort.ahead w n) g 0 d') os g 0 d' (by simpa using hgl) (Sort.holds_putRow (Value.int .i64) (Sort.ahead w n) g 0 xs.toArray d' (fun j hj => hH j hj) hp1) j hj2).1
    rw [Nat.zero_add] at h1
    refine h1.trans ?_
    simp [hj2]
  · exact (Fr.refl _ w).grown (grownBy_sortedI (w := w) (g := g) (n := n) (os := os) d') (fun k hk _ => hk)
end Go.Proofs.Ytkbiggmkjbmgoaa.Bk
