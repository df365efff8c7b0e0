/- The supported day of a clock: its walk. -/
import Derived.Test.YtpacadeldhcckaaDC
import Derived.Test.YtpacadeldhcckaaDD
import Derived.Shelf.SlSortCmp.WholeK
import Derived.Shelf.Lay
import Derived.Ground.SlsfProg
import Derived.Deep.MidRow
import Derived.Deep.WholeRow
namespace Go.Proofs
open Go.Shelf
shelf_lay_g SlLaysF0.n6 Slsf 6 at Try 20 as Ytpacadeldhcckaa.sortL
end Go.Proofs
namespace Go.Proofs.Ytpacadeldhcckaa.Dc
open Go.RowKit Go.Proofs.YtpacadeldhcckaaW.PrintWords Go.Proofs.YtpacadeldhcckaaW.PrintLast Go.Proofs.YtpacadeldhcckaaW.PrintMore Go.Proofs.Mp
set_option linter.unusedVariables false
set_option linter.unusedSimpArgs false
attribute [local go_sem] max_ii min_ii

abbrev Tk := Bool × Fin 1000000
def encT (x : Tk) : List Value := [.bool x.1, .int .i64 (x.2.val : Int)]
def cfT (x y : Tk) : Int := (y.2.val : Int) - (x.2.val : Int)
theorem ltT (x y : Tk) : ltOf cfT x y = decide (y.2.val < x.2.val) := by
  unfold ltOf cfT
  apply decide_eq_decide.2
  omega
theorem swoT : Sort.SWO (ltOf cfT) where
  irrefl x := by rw [ltT]; simp
  trans x y z h1 h2 := by rw [ltT] at *; simp at *; omega
  ntrans x y z h1 h2 := by rw [ltT] at *; simp at *; omega
set_option maxRecDepth 100000 in
theorem closureT (x y : Tk) (W : World) : Calls Try.prog 21 #[.agg #[.bool x.1, .int .i64 (x.2.val : Int)], .agg #[.bool y.1, .int .i64 (y.2.val : Int)]] W fun e w' => e = .returned (.int .i64 (cfT x y)) ∧ ∃ q os', w' = Sort.grow (W.drewN q) os' := by
  obtain ⟨xb, xd, hx⟩ := x
  obtain ⟨yb, yd, hy⟩ := y
  unfold cfT
  simp only
  have hw : wrap64 ((yd : Int) - (xd : Int)) = (yd : Int) - (xd : Int) := wrap_in (by unfold In64; omega)
  go_enter Try.func21, Try.ntmps21
  go_wp2_with fail
  go_ret
  exact ⟨rfl, 0, _, by rw [Sort.alloc_eq_grow, Sort.alloc_eq_grow, Sort.grow_grow]; rfl⟩
theorem psz (w : World) (g n : Nat) (d : Array Tk) : (Sort.putRowK encT 2 (Sort.ahead w n) g 0 d).heap.size = w.heap.size := by
  unfold Sort.putRowK
  rw [Sort.size_putRow]
  rfl
theorem grownBy_K {w : World} {g n : Nat} {os : Array Obj} (d : Array Tk) : w.grownBy (Sort.grow (Sort.putRowK encT 2 (Sort.ahead w n) g 0 d) os) (some g) := by
  refine ⟨rfl, rfl, rfl, by rw [Sort.size_grow, psz]; omega, fun k hk hne => ?_⟩
  rw [Sort.heap_grow_old _ _ (by rw [psz]; exact hk)]
  have : g ≠ k := fun e => hne (by rw [e])
  simp [Sort.putRowK, Sort.putRow, Sort.mapBlock, Sort.ahead, Array.getElem?_modify, this]
theorem isAgg48 (w : World) : (isAgg 48).run Try.prog w = .ok true w := by kernel_rfl
theorem size48 (w : World) : (Go.sizeOf 48).run Try.prog w = .ok 2 w := by kernel_rfl
def toT (p : Bool × Int) : Tk := (p.1, ⟨p.2.toNat % 1000000, Nat.mod_lt _ (by decide)⟩)
theorem toT_val {p : Bool × Int} (h : IsDay p.2) : ((toT p).2.val : Int) = p.2 := by
  unfold IsDay at h
  show ((p.2.toNat % 1000000 : Nat) : Int) = p.2
  omega
def ofT (x : Tk) : Bool × Int := (x.1, (x.2.val : Int))
theorem ofT_toT {p : Bool × Int} (h : IsDay p.2) : ofT (toT p) = p := by
  unfold ofT
  rw [toT_val h]
  rfl
set_option maxHeartbeats 1000000 in
/-- slices.SortFunc over told days. -/
theorem sortT (g : Nat) (L : List (Bool × Int)) (cs : Array Value) (w : World) (hh : w.heap[g]? = some (.cells cs 49 (0, 0))) (hcs : cs.toList.take (L.length * 2) = flat L) (hL : ∀ p ∈ L, IsDay p.2) (hlen : L.length ≤ 12) :
    Calls Try.prog 20 #[.slice (some ⟨g, 0, none⟩) L.length 12, .func (.func 21) #[] #[]] w fun e w' => e = .returned (.tuple #[]) ∧ ∃ ys : List (Bool × Int), ys.Perm L ∧ (∀ i j : Nat, (hij : i < j) → (hj : j < ys.length) → (ys[j]).2 ≤ (ys[i]'(by omega)).2) ∧
      (∀ i : Nat, (hi : i < ys.length) → w'.cell? ⟨g, i * 2 + 1, none⟩ = some (.int .i64 (ys[i]).2)) ∧ Fr (fun i => i = g) w w' := by
  have hgl := blk_lt hh
  have hcell : ∀ (i c : Nat), (hi : i < L.length) → c < 2 → w.cell? ⟨g, i * 2 + c, none⟩ = (encT (toT L[i]))[c]? := fun i c hi hc => by
    have hp : L[i]? = some L[i] := List.getElem?_eq_getElem hi
    have hg := flat_get0 L i _ hp
    have hv := toT_val (hL _ (List.getElem_mem hi))
    have ht : ∀ j, j < L.length * 2 → cs[j]? = (flat L)[j]? := fun j hj => by
      rw [← hcs, List.getElem?_take, if_pos hj, Array.getElem?_toList]
    rw [blk_cell hh, ht _ (by omega)]
    rcases (show c = 0 ∨ c = 1 from by omega) with rfl | rfl
    · exact hg.1
    · rw [hg.2]
      show some (Value.int .i64 L[i].2) = some (.int .i64 ((toT L[i]).2.val : Int))
      rw [hv]
  have hH : Sort.HoldsK encT 2 w g 0 (L.map toT).toArray := fun t ht => by
    have ht2 : t < L.length * 2 := by simpa using ht
    have hd : (L.map toT).toArray.size = L.length := by simp
    refine ⟨?_, blk_frozen hh _⟩
    rw [Sort.get_flatK _ _ _ _ (by rw [hd]; exact ht2), Nat.zero_add]
    have h1 := hcell (t / 2) (t % 2) (by omega) (by omega)
    rw [show t / 2 * 2 + t % 2 = t from by omega] at h1
    rw [h1]
    have e1 : (L.map toT).toArray[t / 2]! = toT (L[t / 2]'(by omega)) := by
      have : t / 2 < L.length := by omega
      simp [this]
    rw [e1]
    rcases (show t % 2 = 0 ∨ t % 2 = 1 from by omega) with h | h <;> rw [h] <;> rfl
  have eg : ∀ args w, (callFunc 21 args).run Try.prog w = .ok (.enter 21 args) w := enters_of Try.func21 (by kernel_rfl) rfl
  have hcmp : CmpLays Try.prog 21 #[] encT 2 cfT g 0 (L.map toT).toArray.size w := fun m os dk hs x y => closureT x y _
  have hS := AnyQ.slices_SortFunc Ytpacadeldhcckaa.sortL 2 isAgg48 size48 encT (fun _ => rfl) (fun x v hv => by simp [encT] at hv; rcases hv with rfl | rfl <;> rfl) cfT swoT 21 #[] g 0 12 (L.map toT).toArray w eg hcmp hH hgl (by simp; omega)
  have hsz0 : (L.map toT).toArray.size = L.length := by simp
  rw [hsz0] at hS
  change Calls Try.prog 20 _ _ _ at hS
  refine hS.mono ?_
  rintro e w' ⟨rfl, d', n, os, ⟨hp1, _, hp2⟩, hs, rfl⟩
  have hl' : d'.size = L.length := by rw [hp1]; simp
  have hperm : d'.toList.Perm (L.map toT) := by
    have e1 : d'.extract 0 L.length = d' := by rw [← hl', Array.extract_size]
    rw [e1, ← hsz0, Array.extract_size] at hp2
    exact hp2
  have hH' : Sort.HoldsK encT 2 (sortWorldK encT 2 w g 0 n d' os) g 0 d' := Sort.holdsK_grow encT 2 _ os g 0 d' (by rw [psz]; exact hgl) (Sort.holdsK_putRowK encT 2 (Sort.ahead w n) g 0 (L.map toT).toArray d' hH hp1)
  refine ⟨rfl, d'.toList.map ofT, ?_, fun i j hij hj => ?_, fun i hi => ?_, ?_⟩
  · have h1 := hperm.map ofT
    rw [List.map_map] at h1
    have h2 : L.map (ofT ∘ toT) = L := by
      conv => rhs; rw [← List.map_id L]
      exact List.map_congr_left (fun p hp => ofT_toT (hL p hp))
    rwa [h2] at h1
  · have hj2 : j < d'.size := by simpa using hj
    have h1 := hs i j (Nat.zero_le _) hij (by omega)
    rw [ltT] at h1
    have e1 : d'[i]! = d'[i]'(by omega) := by simp [show i < d'.size from by omega]
    have e2 : d'[j]! = d'[j] := by simp [hj2]
    rw [e1, e2] at h1
    have h3 := of_decide_eq_false h1
    simp [ofT]
    omega
  · have hi2 : i < d'.size := by simpa using hi
    have h1 := (Sort.HoldsK.cell hH' hi2 (c := 1) (by omega)).1
    rw [Nat.zero_add] at h1
    refine h1.trans ?_
    have e1 : d'[i]! = d'[i] := by simp [hi2]
    rw [e1]
    simp [encT, ofT]
  · exact (Fr.refl _ w).grown (grownBy_K (w := w) (g := g) (n := n) (os := os) d') (fun k hk _ => (Option.some.inj hk).symm)
set_option maxHeartbeats 1000000 in
set_option maxRecDepth 100000 in
theorem Supported_calls (g : Nat) (C : Ck) (w : World) (h : ClkAt w g C) (hC : C.Ok) :
    Calls Try.prog 12 #[.pointer (some ⟨g, 0, none⟩)] w fun e w' => ∃ s, e = .returned (.int .i64 s) ∧ IsSupp C.first C.quorum C.told s ∧ Below w.heap.size w w' := by
  have H := Lib.hid h
  have HC := Lib.hid hC
  have hflat : (flat C.told).length = 24 := by rw [flat_len, hC.len]
  have Hrg : Hid (w.rangeAt g 7 (flat C.told)) := Lib.hid (fun j v hv => by
    rw [blk_cell h]
    have : (C.cells.toArray)[7 + j]? = (flat C.told)[j]? := by
      simp [Ck.cells, show 7 + j = j + 1 + 1 + 1 + 1 + 1 + 1 + 1 from by omega]
    rw [this]
    exact hv)
  have Hinfo : Hid ((Try.prog.info? 49).map (·.size) = some (flat C.told).length) := Lib.hid (by rw [hflat]; kernel_rfl)
  have hstore := run_storeCells_new (P := Try.prog) w 49 #[.bool false, .int .i64 0, .bool false, .int .i64 0, .bool false, .int .i64 0, .bool false, .int .i64 0, .bool false, .int .i64 0, .bool false, .int .i64 0, .bool false, .int .i64 0, .bool false, .int .i64 0, .bool false, .int .i64 0, .bool false, .int .i64 0, .bool false, .int .i64 0, .bool false, .int .i64 0] (flat C.told).toArray (by rw [List.size_toArray]; exact Hinfo.out) (by simp [hflat]) (by
    simp [flat, Value.oneCell'])
  have hc0 : w.cell? ⟨g, 0, none⟩ = some (.int .i64 C.first) := (blk_cell h 0).trans rfl
  have hc4 : w.cell? ⟨g, 4, none⟩ = some (.int .i64 C.quorum) := (blk_cell h 4).trans rfl
  clear h
  go_enter Try.func12, Try.ntmps12
  go_wp2_with (refine wpList_load_mid (P := Try.prog) rfl 49 (.tmp 7) rfl g 7 rfl (flat C.told) _ Hrg.out Try.underlying49 rfl Hinfo.out ?_)
  have HRow := Lib.hid (show Row (w.alloc (.cells (flat C.told).toArray 49)) w.heap.size C.told from blk_new w _)
  have HB0 := Lib.hid ((Below.refl w.heap.size w).alloc (Nat.le_refl _) (.cells (flat C.told).toArray 49))
  clear hstore
  generalize w.alloc (.cells (flat C.told).toArray 49) = w1 at *
  generalize hgc : w.heap.size = gc at *
  refine (Delete_calls gc C.told w1 HRow.out HC.out.len).mono ?_
  rintro e w2 ⟨cs, rfl, hh, hsz, htake, hfr⟩
  have HB2 := Lib.hid (show Below w.heap.size w w2 from by
    have h1 : Below w.heap.size w w1 := by rw [hgc]; exact HB0.out
    exact h1.trans (hfr.below h1.size (fun i hi e => by omega)))
  have HH := Lib.hid hh
  have HT := Lib.hid htake
  obtain ⟨m, hm⟩ : ∃ m : Nat, C.quorum = ((m + 1 : Nat) : Int) := ⟨(C.quorum - 1).toNat, by have := hC.q0; omega⟩
  have hm12 : m < 12 := by have := hC.q1; omega
  have hcl : Hid (ClkAt w2 g C) := Lib.hid (H.out.below HB2.out)
  have hd0 : w2.cell? ⟨g, 0, none⟩ = some (.int .i64 C.first) := (blk_cell hcl.out 0).trans rfl
  have hd4 : w2.cell? ⟨g, 4, none⟩ = some (.int .i64 ((m + 1 : Nat) : Int)) := by rw [← hm]; exact (blk_cell hcl.out 4).trans rfl
  have Hm := Lib.hid hm
  have hLl : (C.told.filter (·.1)).length ≤ 12 := by rw [← hC.len]; exact List.length_filter_le _ _
  have HD := Lib.hid (show ∀ p ∈ C.told.filter (·.1), IsDay p.2 from fun p hp => hC.days p (List.mem_filter.1 hp).1)
  have HSort := Lib.hid (sortT gc (C.told.filter (·.1)) cs w2 HH.out HT.out HD.out hLl)
  clear hh hsz htake hfr hc0 hc4 HB0 HRow hflat Hrg Hinfo hm hC
  generalize hLn : (C.told.filter (·.1)).length = n at *
  by_cases hq : n < m + 1
  · have hdec : decide ((n : Int) < ((m + 1 : Nat) : Int)) = true := decide_eq_true (by omega)
    have Hs : Hid (IsSupp C.first C.quorum C.told C.first) := Lib.hid (supp_few (by rw [hLn, Hm.out]; omega))
    generalize ((m + 1 : Nat) : Int) = qq at *
    go_wp2_with fail
    go_ret
    exact ⟨_, rfl, Hs.out, HB2.out⟩
  · have hdec : decide ((n : Int) < ((m + 1 : Nat) : Int)) = false := decide_eq_false (by omega)
    have hw : wrap64 (((m + 1 : Nat) : Int) - 1) = (m : Int) := by rw [wrap_in (by unfold In64; omega)]; omega
    have hqb : 1 ≤ ((m + 1 : Nat) : Int) ∧ ((m + 1 : Nat) : Int) ≤ 12 := by omega
    have hqm : ((m + 1 : Nat) : Int) - 1 = (m : Int) := by omega
    generalize ((m + 1 : Nat) : Int) = qq at *
    go_wp2_with fail
    refine HSort.out.mono ?_
    rintro e w3 ⟨rfl, ys, hp, hord, hcell, hfr3⟩
    have hyl : ys.length = n := by rw [← hLn]; exact hp.length_eq
    have HB3 := Lib.hid (show Below w.heap.size w w3 from HB2.out.trans (hfr3.below HB2.out.size (fun i hi e => by omega)))
    have hcl3 : Hid (ClkAt w3 g C) := Lib.hid (H.out.below HB3.out)
    have hf0 : w3.cell? ⟨g, 0, none⟩ = some (.int .i64 C.first) := (blk_cell hcl3.out 0).trans rfl
    have hf4 : w3.cell? ⟨g, 4, none⟩ = some (.int .i64 qq) := by rw [← Hm.out]; exact (blk_cell hcl3.out 4).trans rfl
    have hfm := hcell m (by omega)
    have Hs : Hid (IsSupp C.first C.quorum C.told (max C.first (ys[m]'(by omega)).2)) := Lib.hid (by
      have := supp_many (f := C.first) (q := m + 1) (l := C.told) hp (by omega) (by omega) hord
      have h6 : ((m + 1 : Nat) : Int) = C.quorum := by rw [Hm.out]; omega
      rw [h6] at this
      exact this)
    have hmn : (m : Int) < (n : Int) := by omega
    generalize (ys[m]'(by omega)).2 = md at *
    clear hp hord hcell hfr3 HSort hd0 hd4 hcl HH HT
    go_wp2_with fail
    go_quiet (fail)
    go_wp2_with fail
    go_ret
    exact ⟨_, rfl, Hs.out, pw_below_drewN HB3.out _⟩
end Go.Proofs.Ytpacadeldhcckaa.Dc
