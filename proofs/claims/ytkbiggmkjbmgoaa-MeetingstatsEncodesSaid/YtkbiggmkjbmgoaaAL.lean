/- Decode. -/
import Derived.Test.YtkbiggmkjbmgoaaAM
import Derived.Test.YtkbiggmkjbmgoaaAI
import Derived.Test.YtkbiggmkjbmgoaaAH
namespace Go.Proofs.Ytkbiggmkjbmgoaa.Bk
open Go.RowKit Go.Proofs.YtkbiggmkjbmgoaaW.PrintWords Go.Proofs.YtkbiggmkjbmgoaaW.PrintLast Go.Proofs.YtkbiggmkjbmgoaaW.PrintMore Go.Proofs.Mp
set_option linter.unusedVariables false
set_option linter.unusedSimpArgs false
attribute [local go_sem] max_ii

/-- The book b and the reader g, from w0 on, where the book's memory was S0. -/
def Pst (S0 : Nat → Prop) (w0 wr : World) (b g : Nat) (B : Book) (bs : List Int) (q : Nat) (x : Int) (M : Nat → Prop) : Prop :=
  ∃ S, BookAt wr b B S ∧ RdAt wr g bs q x M ∧ Fr (fun i => S0 i ∨ i = g) w0 wr ∧ (∀ i, S i → S0 i ∨ w0.heap.size ≤ i) ∧ (∀ i, S i → ¬ M i)
theorem RdAt.mg {w : World} {g : Nat} {bs : List Int} {p e : Int} {M : Nat → Prop} (h : RdAt w g bs p e M) : M g := by
  obtain ⟨_, _, _, _, _, _, h, _⟩ := h; exact h
theorem RdAt.mlt {w : World} {g : Nat} {bs : List Int} {p e : Int} {M : Nat → Prop} (h : RdAt w g bs p e M) : ∀ i, M i → i < w.heap.size := by
  obtain ⟨_, _, _, _, _, _, _, h⟩ := h; exact h
theorem BookAt.slt {w : World} {b : Nat} {B : Book} {S : Nat → Prop} (h : BookAt w b B S) : ∀ i, S i → i < w.heap.size := by
  obtain ⟨_, _, _, _, _, _, _, _, _, h⟩ := h; exact h
theorem Pst.below {S0 : Nat → Prop} {w0 wr w' : World} {b g : Nat} {B : Book} {bs : List Int} {q : Nat} {x : Int} {M : Nat → Prop} (h : Pst S0 w0 wr b g B bs q x M) (hb : Below wr.heap.size wr w') : Pst S0 w0 w' b g B bs q x M := by
  obtain ⟨S, h1, h2, h3, h4, h5⟩ := h
  exact ⟨S, h1.below hb, h2.below hb, h3.then_below hb, h4, h5⟩
theorem Pst.fr {S0 : Nat → Prop} {w0 wr : World} {b g : Nat} {B : Book} {bs : List Int} {q : Nat} {x : Int} {M : Nat → Prop} (h : Pst S0 w0 wr b g B bs q x M) : Fr (fun i => S0 i ∨ i = g) w0 wr := by
  obtain ⟨_, _, _, h, _⟩ := h; exact h
/-- the reader has read -/
theorem Pst.read {S0 : Nat → Prop} {w0 wr w' : World} {b g : Nat} {B : Book} {bs : List Int} {q q' : Nat} {x x' : Int} {M : Nat → Prop} (h : Pst S0 w0 wr b g B bs q x M) (hf : Fr (fun i => i = g) wr w') (hr : RdAt w' g bs q' x' M) : Pst S0 w0 w' b g B bs q' x' M := by
  obtain ⟨S, h1, h2, h3, h4, h5⟩ := h
  have hg := h2.mg
  exact ⟨S, h1.keep hf (fun i hi e => by subst e; exact h5 i hi hg), hr, h3.trans hf (fun i _ h => .inr h), h4, h5⟩
theorem Pst.rebase {S0 S1 : Nat → Prop} {w0 w5 wr : World} {b g : Nat} {B : Book} {bs : List Int} {q : Nat} {x : Int} {M : Nat → Prop} (hF : Fr (fun i => S0 i ∨ i = g) w0 w5) (hs : ∀ i, S1 i → S0 i ∨ w0.heap.size ≤ i) (h : Pst S1 w5 wr b g B bs q x M) : Pst S0 w0 wr b g B bs q x M := by
  obtain ⟨S, h1, h2, h3, h4, h5⟩ := h
  refine ⟨S, h1, h2, hF.trans h3 (fun i hi h => ?_), fun i hi => ?_, h5⟩
  · rcases h with h | h
    · rcases hs i h with h | h
      · exact .inl h
      · omega
    · exact .inr h
  · rcases h4 i hi with h | h
    · exact hs i h
    · exact .inr (Nat.le_trans hF.size h)
theorem Pst.count {S0 : Nat → Prop} {w0 wr : World} {b g : Nat} {B : Book} {bs : List Int} {q : Nat} {M : Nat → Prop} (h : Pst S0 w0 wr b g B bs q 0 M) (lim : Nat) (hl : bs.length ≤ 1000000000) (hq : q ≤ bs.length) (hb : ∀ x ∈ bs, 0 ≤ x ∧ x < 256) (hlim : lim ≤ 1000000000) :
    Calls Try.prog 50 #[.pointer (some ⟨g, 0, none⟩), .int .i64 lim] wr fun e w' => ∃ (v q' : Nat) (x : Int), e = .returned (.int .i64 v) ∧ Pst S0 w0 w' b g B bs q' x M ∧
      ((dec 0 0 (bs.drop q) = some (v, bs.drop q') ∧ x = 0 ∧ q ≤ q' ∧ q' ≤ bs.length ∧ v ≤ lim) ∨ (x ≠ 0 ∧ v = 0 ∧ q' = q ∧ ∀ v t, dec 0 0 (bs.drop q) = some (v, t) → lim < v)) := by
  obtain ⟨S, h1, h2, h3⟩ := id h
  refine (RCount_calls g bs q M lim wr h2 hl hq hb hlim).mono ?_
  rintro e w' ⟨v, q', x, rfl, hf, hr, hn⟩
  exact ⟨v, q', x, rfl, h.read hf hr, hn⟩
theorem Pst.count_err {S0 : Nat → Prop} {w0 wr : World} {b g : Nat} {B : Book} {bs : List Int} {q : Nat} {x : Int} {M : Nat → Prop} (h : Pst S0 w0 wr b g B bs q x M) (hx : x ≠ 0) (lim : Nat) (hlim : lim ≤ 1000000000) :
    Calls Try.prog 50 #[.pointer (some ⟨g, 0, none⟩), .int .i64 lim] wr fun e w' => e = .returned (.int .i64 0) ∧ Pst S0 w0 w' b g B bs q x M := by
  obtain ⟨S, h1, h2, h3⟩ := id h
  refine (RCount_err g bs q x M lim wr h2 hx hlim).mono ?_
  rintro e w' ⟨rfl, hf, hr⟩
  exact ⟨rfl, h.read hf hr⟩

theorem dec_eq {l t : List Int} {v : Nat} (hb : ∀ x ∈ l, 0 ≤ x ∧ x < 256) (h : dec 0 0 l = some (v, t)) : l = enc7 v ++ t := by
  obtain ⟨m, h1, h2, _, _⟩ := dec_some l 0 0 v t hb h
  have : v = m := by simpa using h2
  rw [this]; exact h1
theorem drop_bytes {bs : List Int} (hb : ∀ x ∈ bs, 0 ≤ x ∧ x < 256) (q : Nat) : ∀ x ∈ bs.drop q, 0 ≤ x ∧ x < 256 := fun x hx => hb x (List.mem_of_mem_drop hx)
/-- reading on, in either mode -/
theorem Pst.cnt {S0 : Nat → Prop} {w0 wr : World} {b g : Nat} {B : Book} {bs : List Int} {q : Nat} {x : Int} {M : Nat → Prop} (h : Pst S0 w0 wr b g B bs q x M) (lim : Nat) (hl : bs.length ≤ 1000000000) (hb : ∀ x ∈ bs, 0 ≤ x ∧ x < 256) (hlim : lim ≤ 1000000000) (hq : x = 0 → q ≤ bs.length) :
    Calls Try.prog 50 #[.pointer (some ⟨g, 0, none⟩), .int .i64 lim] wr fun e w' => ∃ (v q' : Nat) (x' : Int), e = .returned (.int .i64 v) ∧ v ≤ lim ∧ Pst S0 w0 w' b g B bs q' x' M ∧
      ((x = 0 ∧ x' = 0 ∧ q' ≤ bs.length ∧ bs.drop q = enc7 v ++ bs.drop q' ∧ dec 0 0 (bs.drop q) = some (v, bs.drop q')) ∨ (x' ≠ 0 ∧ v = 0 ∧ (x = 0 → ∀ v t, dec 0 0 (bs.drop q) = some (v, t) → lim < v))) := by
  by_cases hx : x = 0
  · subst hx
    refine (h.count lim hl (hq rfl) hb hlim).mono ?_
    rintro e w' ⟨v, q', x', rfl, h1, h2⟩
    refine ⟨v, q', x', rfl, ?_, h1, ?_⟩
    · rcases h2 with ⟨_, _, _, _, h⟩ | ⟨_, rfl, _⟩ <;> omega
    · rcases h2 with ⟨k1, k2, _, k3, _⟩ | ⟨k1, k2, _, k3⟩
      · exact .inl ⟨rfl, k2, k3, dec_eq (drop_bytes hb q) k1, k1⟩
      · exact .inr ⟨k1, k2, fun _ => k3⟩
  · refine (h.count_err hx lim hlim).mono ?_
    rintro e w' ⟨rfl, h1⟩
    exact ⟨0, q, x, rfl, by omega, h1, .inr ⟨hx, rfl, fun h => absurd h hx⟩⟩

theorem flatMap_cong {α β : Type} {f g : α → List β} : ∀ (l : List α), (∀ p ∈ l, f p = g p) → l.flatMap f = l.flatMap g
  | [], _ => rfl
  | a :: l, h => by rw [List.flatMap_cons, List.flatMap_cons, h a (by simp), flatMap_cong l (fun p hp => h p (by simp [hp]))]
theorem rowP_nodup (a j : Nat) : (rowP a j).Nodup := by
  unfold rowP
  refine List.Pairwise.map _ (fun x y h e => ?_) (List.nodup_range (n := j))
  simp only [Prod.mk.injEq] at e
  omega
theorem prsA_nodup (n : Nat) : ∀ a, (prsA n a).Nodup
  | 0 => by simp [prsA]
  | a + 1 => by
    rw [prsA_succ]
    refine List.nodup_append.2 ⟨prsA_nodup n a, rowP_nodup _ _, fun p hp q hq e => ?_⟩
    subst e
    have := (mem_prsA hp).2.2.2
    unfold rowP at hq
    obtain ⟨i, _, rfl⟩ := List.mem_map.1 hq
    simp at this
theorem prs_once (n : Int) (k : Nat) (p : Int × Int) (h : (prs n)[k]? = some p) : p ∉ (prs n).take k ∧ p ∉ (prs n).drop (k + 1) := by
  have hn : (prs n).Nodup := prsA_nodup _ _
  rw [← List.take_append_drop k (prs n), prs_split n k p h] at hn
  rw [List.nodup_append] at hn
  obtain ⟨_, h2, h3⟩ := hn
  exact ⟨fun hp => h3 p hp p (by simp) rfl, (List.nodup_cons.1 h2).1⟩

/-- What a reading has come to. -/
def Mode (B : Book) (bs : List Int) (k q : Nat) (x : Int) : Prop := (x = 0 ∧ q ≤ bs.length ∧ bs = encA B k ++ bs.drop q) ∨ (x ≠ 0 ∧ ∀ B0, Valid B0 → encB B0 ≠ bs)
set_option maxRecDepth 100000 in
theorem End_err (g : Nat) (bs : List Int) (p : Nat) (x : Int) (M : Nat → Prop) (w : World) (h : RdAt w g bs p x M) (hx : x ≠ 0) :
    Calls Try.prog 51 #[.pointer (some ⟨g, 0, none⟩)] w fun e w' => e = .returned (.tuple #[.int .i64 p, .int .i64 x]) ∧ Below w.heap.size w w' := by
  obtain ⟨A, c, last, h1, _⟩ := id h
  have hc1 : w.cell? ⟨g, 1, none⟩ = some (.int .i64 p) := (blk_cell h1 1).trans rfl
  have hc3 : w.cell? ⟨g, 3, none⟩ = some (.int .i64 x) := (blk_cell h1 3).trans rfl
  have hlt := blk_lt h1
  clear h h1
  have hb : (x == 0) = false := beq_eq_false_iff_ne.2 hx
  go_enter Try.func51, Try.ntmps51
  go_wp2_with fail
  go_quiet (fail)
  have HB := Lib.hid (pw_below_drewN (Below.refl w.heap.size w) nq)
  generalize w.drewN nq = w1 at *
  go_wp2_with fail
  refine bodyPost_ret (results_list (rs := [.tmp 2, .tmp 3]) rfl (by simp) (.tmp (.tmp .nil))) rfl ⟨rfl, HB.out⟩
set_option maxHeartbeats 8000000 in
set_option maxRecDepth 100000 in
theorem Decode_calls (A : Option Addr) (c : Nat) (bs : List Int) (w : World) (hC : Kd.C (Kd.int .u8) w A bs.length bs) (hl : bs.length ≤ 1000000000) (hby : ∀ x ∈ bs, 0 ≤ x ∧ x < 256) :
    Calls Try.prog 29 #[.slice A bs.length c] w fun e w' => (∃ b B S, e = .returned (.tuple #[.pointer (some ⟨b, 0, none⟩), .int .i64 0]) ∧ BookAt w' b B S ∧ B.Ok ∧ Tidy B ∧ encB B = bs ∧ (∀ i, S i → w.heap.size ≤ i) ∧ Below w.heap.size w w') ∨
      (e = .returned (.tuple #[.pointer none, .int .i64 3]) ∧ Below w.heap.size w w' ∧ ∀ B0, Valid B0 → encB B0 ≠ bs) := by
  have HC := Lib.hid hC
  have Hby := Lib.hid hby
  clear hC hby
  go_enter Try.func29, Try.ntmps29
  go_wp2_with fail
  refine (NewReader_calls A c bs _ HC.out hl).mono ?_
  rintro e w1 ⟨g, M, rfl, hr, hb1, hM⟩
  have HR := Lib.hid hr
  have HB1 := Lib.hid hb1
  have HM := Lib.hid hM
  clear hr hb1 hM
  go_wp2_with fail
  refine (RCount_calls g bs 0 M 12 _ HR.out hl (by omega) Hby.out (by omega)).mono ?_
  rintro e w2 ⟨v, q, x, rfl, hf, hr, hn⟩
  rw [List.drop_zero] at hn
  have HB2 : Hid (Below w.heap.size w w2) := Lib.hid (HB1.out.trans (hf.below HB1.out.size (fun i hi e => by have := HM.out g HR.out.mg; omega)))
  have HR2 := Lib.hid hr
  have HN := Lib.hid hn
  clear hf hr hn HR HB1
  go_wp2_with fail
  by_cases hv : 2 ≤ (v : Int) ∧ (v : Int) ≤ 12
  · refine (New_yes v _ hv.1 hv.2).mono ?_
    rintro e w3 ⟨b, rfl, hb3, hbk⟩
    rcases HN.out with ⟨n1, rfl, _, n2, n3⟩ | ⟨_, rfl, _⟩
    · have hok0 : (Book.empty v).Ok := Book.empty_ok hv.1 hv.2
      have HS0 : Hid (∀ i, (w2.heap.size ≤ i ∧ i < w3.heap.size) → w2.heap.size ≤ i ∧ i < w3.heap.size) := Lib.hid (fun i h => h)
      have Hgw : Hid (g < w2.heap.size) := Lib.hid (HR2.out.mlt g HR2.out.mg)
      have HR3 := Lib.hid (HR2.out.below hb3)
      have HB3 := Lib.hid (HB2.out.trans (hb3.mono HB2.out.size))
      have Hbk3 := Lib.hid hbk
      have Hsz := Lib.hid hb3.size
      have Hsz2 := Lib.hid HB2.out.size
      have Hbs : Hid (bs = enc7 v ++ bs.drop q) := Lib.hid (dec_eq Hby.out n1)
      have Hok0 := Lib.hid hok0
      have Hq := Lib.hid n2
      have Hv := Lib.hid hv
      have HMw := Lib.hid HR2.out.mlt
      clear hb3 hbk n1 n2 n3 HN hok0 hv HR2 HB2
      go_wp2_with fail
      refine (pairs_calls b (Book.empty v) _ _ Hbk3.out Hok0.out).mono ?_
      rintro e w4 ⟨v4, rfl, hR4, hb4⟩
      obtain ⟨A2, c2, rfl, hle2, hC2⟩ := Kd.R_reads hR4
      have hpe : (Book.empty v).n = v := rfl
      rw [hpe] at *
      have HB4 := Lib.hid (HB3.out.trans (hb4.mono HB3.out.size))
      have Pf : Hid (∀ wr, Fr (fun i => (fun i => w2.heap.size ≤ i ∧ i < w3.heap.size) i ∨ i = g) w4 wr → Kd.C k75 wr A2 (prs v).length (prs v)) := Lib.hid (fun wr hf =>
        (Kd.R_reads' (Kd.R_move (Kd.R_bound hR4) (fun k hk => hf.block k hk.2.2.1 (fun h => by have := hk.2.1; have := Hgw.out; have := Hsz.out; omega)))).2.2)
      have Hst : Hid (Pst (fun i => w2.heap.size ≤ i ∧ i < w3.heap.size) w4 w4 b g (Book.empty v) bs q 0 M) := Lib.hid
        ⟨_, Hbk3.out.below hb4, HR3.out.below hb4, Fr.refl _ _, fun i hi => .inl hi, fun i hi h => by have := HMw.out i h; omega⟩
      have Hlt : Hid ((prs v).length ≤ 144) := Lib.hid (by
        have := prsA_len (v : Int).toNat (by have := Hv.out; omega) (v : Int).toNat (by have := Hv.out; omega)
        have := Hv.out
        unfold prs; omega)
      have HS0w : Hid (∀ i, (fun i => w2.heap.size ≤ i ∧ i < w3.heap.size) i → w.heap.size ≤ i) := Lib.hid (fun i hi => Nat.le_trans Hsz2.out hi.1)
      have Hinv0 : Hid (∃ B q x, Pst (fun i => w2.heap.size ≤ i ∧ i < w3.heap.size) w4 w4 b g B bs q x M ∧ B.n = v ∧ B.Ok ∧ Tidy B ∧ Mode B bs 0 q x ∧ ∀ p ∈ (prs v).drop 0, B.D p = []) := Lib.hid
        ⟨_, q, 0, Hst.out, rfl, Hok0.out, ⟨fun p _ => rfl, .inl rfl⟩, .inl ⟨rfl, Hq.out, by
          have h := Hbs.out
          unfold encA
          simpa [Book.empty] using h⟩, fun p _ => rfl⟩
      have hm := Hlt.out
      clear hR4 hb4 hle2 hC2 hpe Hst HR3 Hbk3 Hok0 Hbs HMw HB3
      generalize (fun i => w2.heap.size ≤ i ∧ i < w3.heap.size) = S0 at *
      go_wp2_with fail
      go_loopw [27] (fun i wr => ∃ k : Nat, k ≤ (prs v).length ∧ i = .int .i64 k ∧ Hid (∃ B q x, Pst S0 w4 wr b g B bs q x M ∧ B.n = v ∧ B.Ok ∧ Tidy B ∧ Mode B bs k q x ∧ ∀ p ∈ (prs v).drop k, B.D p = [])) (fun i _ => (prs v).length - (intOf i).toNat)
      case atStart => exact ⟨0, by omega, rfl, Hinv0⟩
      case round =>
        clear Hinv0
        obtain ⟨k, hk, rfl, hinv⟩ := hrel
        obtain ⟨B, q1, x1, hst, hBn, hBok, hBt, hmode, hrest⟩ := hinv.out
        by_cases hlt : k < (prs v).length
        · have hdec : decide ((k : Int) < ((prs v).length : Int)) = true := decide_eq_true (by omega)
          obtain ⟨S1, hbk, hrd, hfr, hsub, hdis⟩ := hst
          obtain ⟨⟨pi, pj⟩, hp⟩ : ∃ p, (prs (v : Int))[k]? = some p := ⟨_, List.getElem?_eq_getElem hlt⟩
          obtain ⟨ad, rfl, hq0, hq1⟩ := at75 (Pf.out wr hfr) k _ hp
          have hal := (Below.refl wr.heap.size wr).alloc (Nat.le_refl _) (.cells #[.int .i64 pi, .int .i64 pj] 75)
          have Hst5 : Hid (Pst S1 (wr.alloc (.cells #[.int .i64 pi, .int .i64 pj] 75)) (wr.alloc (.cells #[.int .i64 pi, .int .i64 pj] 75)) b g B bs q1 x1 M) := Lib.hid
            ⟨S1, hbk.below hal, hrd.below hal, Fr.refl _ _, fun i hi => .inl hi, hdis⟩
          have HF5 := Lib.hid (hfr.then_below hal)
          have Hsub := Lib.hid hsub
          have hgp : ¬ (S1 wr.heap.size ∨ wr.heap.size = g) := fun h => by
            rcases h with h | h
            · have := hbk.slt _ h; omega
            · have := hrd.mlt g hrd.mg; omega
          have Hgp := Lib.hid (fun (wx : World) (hf : Fr (fun i => S1 i ∨ i = g) (wr.alloc (.cells #[.int .i64 pi, .int .i64 pj] 75)) wx) => hf.heap (blk_new wr (.cells #[.int .i64 pi, .int .i64 pj] 75)) hgp)
          have Hp := Lib.hid hp
          have Hgpn := Lib.hid (And.intro hgp (show wr.heap.size < (wr.alloc (.cells #[.int .i64 pi, .int .i64 pj] 75)).heap.size from blk_lt (blk_new wr _)))
          have HB5 : Hid (∀ i, (S1 i ∨ i = g) → w.heap.size ≤ i) := Lib.hid (fun i h => by
            rcases h with h | h
            · rcases hsub i h with h | h
              · exact HS0w.out i h
              · exact Nat.le_trans HB4.out.size h
            · have := HM.out g hrd.mg; omega)
          have HBw5 := Lib.hid ((HB4.out.trans (hfr.below HB4.out.size (fun i hi h => by
            rcases h with h | h
            · have := HS0w.out i h; omega
            · have := HM.out g hrd.mg; omega))))
          have HBw6 := Lib.hid (HBw5.out.alloc HBw5.out.size (.cells #[.int .i64 pi, .int .i64 pj] 75))
          have HBok := Lib.hid hBok
          have HBt := Lib.hid hBt
          have HBn := Lib.hid hBn
          have Hmode := Lib.hid hmode
          have Hrest := Lib.hid hrest
          clear hbk hrd hfr hsub hdis hinv hBt hrest hBok hBn hal hgp hp hmode
          simp only at hq0 hq1
          go_wp2_with fail
          generalize wr.alloc (.cells #[.int .i64 pi, .int .i64 pj] 75) = w5 at *
          generalize wr.heap.size = gp at *
          have hcnt := Hst5.out.cnt 1000000 hl Hby.out (by omega) (fun h => by
            rcases Hmode.out with ⟨_, h, _⟩ | ⟨h', _⟩
            · exact h
            · exact absurd h h')
          refine hcnt.mono ?_
          rintro e w7 ⟨cnt, q2, x2, rfl, hcl, hst2, hcase⟩
          clear hcnt Hst5
          have Hst7 := Lib.hid hst2
          have Hcase := Lib.hid hcase
          clear hst2 hcase
          go_wp2_with fail
          go_loopw [9, 33] (fun lv i wx => ∃ (j : Nat) (last : Int), j ≤ cnt ∧ i = .int .i64 j ∧ lv = .int .i64 last ∧ 0 ≤ last ∧ last ≤ 999999 ∧ Hid (∃ (B' : Book) (cur : List Int) (q x : _), Pst S1 w5 wx b g B' bs q x M ∧ B'.n = v ∧ B'.Ok ∧ Tidy B' ∧ B'.D = upd B.D (pi, pj) cur ∧ cur.length = j ∧ last = cur.getLastD 0 ∧
              ((x = 0 ∧ q ≤ bs.length ∧ bs = encA B k ++ (enc7 cnt ++ (deltas 0 cur ++ bs.drop q))) ∨ (x ≠ 0 ∧ (∀ B0, Valid B0 → encB B0 ≠ bs) ∧ last = 0)))) (fun _ i _ => cnt - (intOf i).toNat)
          case atStart =>
            refine ⟨0, 0, by omega, rfl, rfl, by omega, by omega, Lib.hid ⟨B, [], q2, x2, Hst7.out, HBn.out, HBok.out, HBt.out, ?_, rfl, rfl, ?_⟩⟩
            · have hmem : (pi, pj) ∈ (prs (v : Int)).drop k := by rw [prs_split _ k _ Hp.out]; simp
              have := Hrest.out _ hmem
              rw [← this]
              exact (upd_self B.D (pi, pj)).symm
            · rcases Hcase.out with ⟨k1, k2, k3, k4, _⟩ | ⟨k1, k2, k3⟩
              · rcases Hmode.out with ⟨m1, m2, m3⟩ | ⟨m1, _⟩
                · refine .inl ⟨k2, k3, ?_⟩
                  show bs = encA B k ++ (enc7 cnt ++ ([] ++ bs.drop q2))
                  rw [List.nil_append, ← k4]
                  exact m3
                · exact absurd k1 m1
              · refine .inr ⟨k1, ?_, rfl⟩
                rcases Hmode.out with ⟨m1, m2, m3⟩ | ⟨m1, m2⟩
                · intro B0 h0 he
                  have hpB : (prs B.n)[k]? = some (pi, pj) := by rw [HBn.out]; exact Hp.out
                  obtain ⟨v0, t0, d1, d2⟩ := count_facts HBok.out.valid h0 k (pi, pj) hpB _ (he.trans m3)
                  have := k3 m1 v0 t0 d1
                  omega
                · exact m2
          case round =>
            obtain ⟨j, last, hj, rfl, rfl, hl0, hl1, hin⟩ := hrel
            by_cases hjc : j < cnt
            · have hdec2 : decide ((j : Int) < (cnt : Int)) = true := decide_eq_true (by omega)
              obtain ⟨B', cur, q3, x3, hst3, hB'n, hB'ok, hB't, hB'D, hcl3, hlast, hmode3⟩ := hin.out
              have hcnt2 := hst3.cnt 999999 hl Hby.out (by omega) (fun h => by
                rcases hmode3 with ⟨_, h, _⟩ | ⟨h', _⟩
                · exact h
                · exact absurd h h')
              have Hcnt2 := Lib.hid hcnt2
              have Hin := Lib.hid (And.intro hB'n (And.intro hB'ok (And.intro hB't (And.intro hB'D (And.intro hcl3 (And.intro hlast hmode3))))))
              clear hcnt2 hst3 hB'n hB'ok hB't hB'D hcl3 hlast hmode3 hin
              go_wp2_with fail
              refine Hcnt2.out.mono ?_
              rintro e w8 ⟨dv, q4, x4, rfl, hdv, hst4, hcase4⟩
              have Hst4 := Lib.hid hst4
              have Hcase4 := Lib.hid hcase4
              clear hst4 hcase4 Hcnt2
              have Hbad : Hid ((999999 < last + (dv : Int) ∨ (0 < j ∧ (dv : Int) = 0)) → ∀ B0, Valid B0 → encB B0 ≠ bs) := Lib.hid (fun hc B0 h0 he => by
                obtain ⟨hB'n, hB'ok, hB't, hB'D, hcl3, hlast, hmode3⟩ := Hin.out
                rcases hmode3 with ⟨hx, _, hbs⟩ | ⟨_, hf, _⟩
                · have hcur : Good cur := by
                    have := hB'ok.good (pi, pj)
                    rwa [hB'D, upd_at] at this
                  have hpB : (prs B.n)[k]? = some (pi, pj) := by rw [HBn.out]; exact Hp.out
                  obtain ⟨_, v0, t0, d1, d2, d3, d4⟩ := next_facts HBok.out.valid h0 k (pi, pj) hpB cnt cur _ hcur (by omega) (by omega) (he.trans hbs)
                  rcases Hcase4.out with ⟨_, _, _, _, k5⟩ | ⟨k1, rfl, k3⟩
                  · rw [d1] at k5
                    injection k5 with k5
                    injection k5 with k5 _
                    subst k5
                    rcases hc with hc | ⟨hc1, hc2⟩
                    · omega
                    · exact d4 (fun e => by rw [e] at hcl3; simp at hcl3; omega) (by omega)
                  · have := k3 hx v0 t0 d1
                    omega
                · exact hf B0 h0 he)
              go_upto_region 13 with (fail)
              go_cut [50] (fun vv wc => vv = .bool (decide (999999 < last + (dv : Int) ∨ (0 < j ∧ (dv : Int) = 0))) ∧ Hid (wc = w8))
              case first =>
                by_cases hbig : 999999 < last + (dv : Int)
                · have hd3 : decide (999999 < last + (dv : Int)) = true := decide_eq_true hbig
                  have Hq := Lib.hid (show decide (999999 < last + (dv : Int) ∨ (0 < j ∧ (dv : Int) = 0)) = true from decide_eq_true (.inl hbig))
                  go_wp2_with fail
                  go_meet
                  case rel => exact ⟨by rw [Hq.out], rfl⟩
                · have hd3 : decide (999999 < last + (dv : Int)) = false := decide_eq_false hbig
                  by_cases hj0 : 0 < j
                  · have hd4 : decide ((0 : Int) < (j : Int)) = true := decide_eq_true (by omega)
                    by_cases hdz : (dv : Int) = 0
                    · have hd5 : (last + (dv : Int) == last) = true := beq_iff_eq.2 (by omega)
                      have Hq := Lib.hid (show decide (999999 < last + (dv : Int) ∨ (0 < j ∧ (dv : Int) = 0)) = true from decide_eq_true (.inr ⟨hj0, hdz⟩))
                      clear hdz
                      go_wp2_with fail
                      go_meet
                      case rel => exact ⟨by rw [Hq.out], rfl⟩
                    · have hd5 : (last + (dv : Int) == last) = false := beq_eq_false_iff_ne.2 (by omega)
                      have Hq := Lib.hid (show decide (999999 < last + (dv : Int) ∨ (0 < j ∧ (dv : Int) = 0)) = false from decide_eq_false (by omega))
                      clear hdz
                      go_wp2_with fail
                      go_meet
                      case rel => exact ⟨by rw [Hq.out], rfl⟩
                  · have hd4 : decide ((0 : Int) < (j : Int)) = false := decide_eq_false (by omega)
                    have Hq := Lib.hid (show decide (999999 < last + (dv : Int) ∨ (0 < j ∧ (dv : Int) = 0)) = false from decide_eq_false (by omega))
                    go_wp2_with fail
                    go_meet
                    case rel => exact ⟨by rw [Hq.out], rfl⟩
              case rest =>
                obtain ⟨rfl, hwc⟩ := hcut
                have hwc := hwc.out
                subst hwc
                by_cases hcond : 999999 < last + (dv : Int) ∨ (0 < j ∧ (dv : Int) = 0)
                · rw [decide_eq_true hcond]
                  have Hfail := Lib.hid (Hbad.out hcond)
                  have HBe : Hid (Below w.heap.size w wc) := Lib.hid (HBw6.out.trans (Hst4.out.fr.below HBw6.out.size (fun i hi h => by have := HB5.out i h; omega)))
                  clear hcond
                  go_wp2_with fail
                  refine bodyPost_ret (results_list (rs := [.tmp 2, .tmp 3]) rfl (by simp) (.tmp (.tmp .nil))) rfl (.inr ⟨rfl, HBe.out, Hfail.out⟩)
                · rw [decide_eq_false hcond]
                  go_wp2_with fail
                  have hdv0 : (dv : Int) ≤ 999999 := by omega
                  generalize hday : last + (dv : Int) = day at *
                  obtain ⟨S3, hbk, hrd, hfr, hsub, hdis⟩ := Hst4.out
                  have hbx := (Below.refl wc.heap.size wc).drew.alloc (Nat.le_refl _) (.cells #[.int .i64 day] 3)
                  obtain ⟨mb, vv, st, o1, e0, e1, e2, e3, e4, e5, e6, e7⟩ := (hbk.below hbx).addE pi pj
                  obtain ⟨A3, c3, rfl, _⟩ := own_reads0 e5
                  have hblt : b < wc.heap.size := by obtain ⟨_, _, h1, _⟩ := hbk; exact blk_lt h1
                  have hcb : wc.cell? ⟨b, 1, none⟩ = some (.map (some mb)) := (hbx.cell (p := ⟨b, 1, none⟩) hblt).symm.trans e1
                  have hgb := Hgp.out wc hfr
                  have hp0 : wc.cell? ⟨gp, 0, none⟩ = some (.int .i64 pi) := (blk_cell hgb 0).trans rfl
                  have hp1 : wc.cell? ⟨gp, 1, none⟩ = some (.int .i64 pj) := (blk_cell hgb 1).trans rfl
                  have hgm : gp ≠ mb := fun e => by
                    subst e
                    rcases hsub gp e3 with h | h
                    · exact Hgpn.out.1 (.inl h)
                    · have := Hgpn.out.2; omega
                  have hmlt : mb < wc.heap.size := hbk.slt mb e3
                  have HEnt := Lib.hid (e4 _ rfl)
                  have HOwn := Lib.hid e5
                  have HvS := Lib.hid e6
                  have HBack := Lib.hid e7
                  have Hbx := Lib.hid hbx
                  have HPst := Lib.hid (And.intro hrd (And.intro hfr (And.intro hsub hdis)))
                  have Hslt := Lib.hid hbk.slt
                  clear e1 e2 e4 e5 e6 e7 hbk hrd hfr hsub hdis hbx hgb
                  refine start_ (n := 12) (S := fun W => W.cell? ⟨b, 1, none⟩ = some (.map (some mb)) ∧ W.cell? ⟨gp, 0, none⟩ = some (.int .i64 pi) ∧ W.cell? ⟨gp, 1, none⟩ = some (.int .i64 pj)) (ds := [11]) #[false, false, false, false, false, false, false, false, false, false, false, false] (by kernel_rfl) rfl rfl ⟨hcb, hp0, hp1⟩ (fun hHeld => ?_)
                  clear hcb hp0 hp1
                  have hszd : wc.drew.heap.size = wc.heap.size := rfl
                  generalize wc.drew = w9 at *
                  refine pure_ (i := 0) (N := some 51) (v := ?_) (a' := ?_) #[true, false, false, false, false, false, false, false, false, false, false, false] rfl rfl (by kernel_rfl) (fun _ _ _ h => h) (Or.inl ⟨by rfl, ?_⟩) ?_ ?_
                  rotate_left
                  · intro w'
                    go_simp
                    with_reducible rfl
                  rotate_left
                  · simp only [Act.put, List.setIfInBounds_toArray, List.set_cons_zero, List.set_cons_succ, i64_w, i32_w]
                    rfl
                  refine pure_ (i := 1) (N := some 52) (v := ?_) (a' := ?_) #[true, true, false, false, false, false, false, false, false, false, false, false] rfl rfl (by kernel_rfl) (fun _ _ _ h => h) (Or.inl ⟨by rfl, ?_⟩) ?_ ?_
                  rotate_left
                  · intro w'
                    go_simp
                    with_reducible rfl
                  rotate_left
                  · simp only [Act.put, List.setIfInBounds_toArray, List.set_cons_zero, List.set_cons_succ, i64_w, i32_w]
                    rfl
                  refine pure_ (i := 2) (N := some 53) (v := ?_) (a' := ?_) #[true, true, true, false, false, false, false, false, false, false, false, false] rfl rfl (by kernel_rfl) (fun _ _ _ h => h) (Or.inl ⟨by rfl, ?_⟩) ?_ ?_
                  rotate_left
                  · intro w'
                    go_simp
                    with_reducible rfl
                  rotate_left
                  · simp only [Act.put, List.setIfInBounds_toArray, List.set_cons_zero, List.set_cons_succ, i64_w, i32_w]
                    rfl
                  refine pure_ (i := 5) (N := some 57) (v := ?_) (a' := ?_) #[true, true, true, false, false, true, false, false, false, false, false, false] rfl rfl (by kernel_rfl) (fun _ _ _ h => h) (Or.inl ⟨by rfl, ?_⟩) ?_ ?_
                  rotate_left
                  · intro w'
                    go_simp
                    with_reducible rfl
                  rotate_left
                  · simp only [Act.put, List.setIfInBounds_toArray, List.set_cons_zero, List.set_cons_succ, i64_w, i32_w]
                    rfl
                  refine take_ (i := 3) (N := some 54) (v := ?_) (a' := ?_) #[true, true, true, true, false, true, false, false, false, false, false, false] rfl rfl (by kernel_rfl) (fun _ _ _ h => h) (Or.inl ⟨by rfl, ?_⟩) hHeld ?_ ?_
                  rotate_left
                  · rintro w' ⟨s0, s1, s2⟩
                    go_simp
                    with_reducible rfl
                  rotate_left
                  · simp only [Act.put, List.setIfInBounds_toArray, List.set_cons_zero, List.set_cons_succ, i64_w, i32_w]
                    rfl
                  refine take_ (i := 4) (N := some 55) (v := ?_) (a' := ?_) #[true, true, true, true, true, true, false, false, false, false, false, false] rfl rfl (by kernel_rfl) (fun _ _ _ h => h) (Or.inl ⟨by rfl, ?_⟩) hHeld ?_ ?_
                  rotate_left
                  · rintro w' ⟨s0, s1, s2⟩
                    go_simp
                    with_reducible rfl
                  rotate_left
                  · simp only [Act.put, List.setIfInBounds_toArray, List.set_cons_zero, List.set_cons_succ, i64_w, i32_w]
                    rfl
                  refine one_ (i := 6) (N := some 58) #[true, true, true, true, true, true, true, false, false, false, false, false] rfl rfl (by kernel_rfl) (by decide) (fun K hK => ?_)
                  refine value_ (v := .slice (some ⟨w9.heap.size, 0, none⟩) 1 1) (w1 := w9.alloc (.cells #[.int .i64 day] 3)) (by rfl) rfl ?_ ?_
                  · go_simp
                  refine hK.out _ _ ⟨pw_cell_below (Below.alloc (Below.refl _ _) (Nat.le_refl _) _) hHeld.1, pw_cell_below (Below.alloc (Below.refl _ _) (Nat.le_refl _) _) hHeld.2.1, pw_cell_below (Below.alloc (Below.refl _ _) (Nat.le_refl _) _) hHeld.2.2⟩ (fun hHeld => ?_)
                  clear hK K
                  refine norm_ (a' := ?_) ?_ ?_
                  rotate_left
                  · simp only [Act.put, List.setIfInBounds_toArray, List.set_cons_zero, List.set_cons_succ, i64_w, i32_w]
                    rfl
                  refine one_ (i := 7) (N := some 59) #[true, true, true, true, true, true, true, true, false, false, false, false] rfl rfl (by kernel_rfl) (by decide) (fun K hK => ?_)
                  refine mapEntry_step (by rfl) rfl rfl (by rfl) (by rfl) HEnt.out ?_
                  refine hK.out _ _ ⟨(World.cell?_of_block (put_heap b e0)).trans hHeld.1, (World.cell?_of_block (put_heap gp hgm)).trans hHeld.2.1, (World.cell?_of_block (put_heap gp hgm)).trans hHeld.2.2⟩ (fun hHeld => ?_)
                  clear hK K
                  refine norm_ (a' := ?_) ?_ ?_
                  rotate_left
                  · simp only [Act.put, List.setIfInBounds_toArray, List.set_cons_zero, List.set_cons_succ, i64_w, i32_w]
                    rfl
                  refine pure_ (i := 8) (N := some 56) (v := ?_) (a' := ?_) #[true, true, true, true, true, true, true, true, true, false, false, false] rfl rfl (by kernel_rfl) (fun _ _ _ h => h) (Or.inl ⟨by rfl, ?_⟩) ?_ ?_
                  rotate_left
                  · intro w'
                    go_simp
                    with_reducible rfl
                  rotate_left
                  · simp only [Act.put, List.setIfInBounds_toArray, List.set_cons_zero, List.set_cons_succ, i64_w, i32_w]
                    rfl
                  refine pure_ (i := 10) (N := some 61) (v := ?_) (a' := ?_) #[true, true, true, true, true, true, true, true, true, false, true, false] rfl rfl (by kernel_rfl) (fun _ _ _ h => h) (Or.inl ⟨by rfl, ?_⟩) ?_ ?_
                  rotate_left
                  · intro w'
                    go_simp
                    with_reducible rfl
                  rotate_left
                  · simp only [Act.put, List.setIfInBounds_toArray, List.set_cons_zero, List.set_cons_succ, i64_w, i32_w]
                    rfl
                  have hw9 : w9.heap.size < (w9.alloc (.cells #[.int .i64 day] 3)).heap.size := blk_lt (blk_new w9 _)
                  have hmn : w9.heap.size ≠ mb := by omega
                  have hnews : (put (w9.alloc (.cells #[.int .i64 day] 3)) mb o1).heap[w9.heap.size]? = some (.cells #[.int .i64 day] 3) := (put_heap w9.heap.size hmn).trans (heap_alloc_new w9 _)
                  have hown3 : (put (w9.alloc (.cells #[.int .i64 day] 3)) mb o1).ownsRow 0 3 1 (.slice A3 (B'.D (pi, pj)).length c3) (B'.D (pi, pj)).length (nums .i64 (B'.D (pi, pj))) :=
                    own_grown (S := fun k => k = mb) HOwn.out ((Fr.refl (fun k => k = mb) _).put (fun _ => rfl) o1) (fun g hg e => (HvS.out g hg).2.2 e)
                  have hlenD := Hin.out.2.1.len (pi, pj)
                  obtain ⟨i0, hi, hzz⟩ := Option.map_eq_some_iff.1 info3
                  simp only [Prod.mk.injEq] at hzz
                  obtain ⟨v', w10, hr10, hown10, hg10, _, hat10⟩ := run_append_own_at (P := Try.prog) (w := put (w9.alloc (.cells #[.int .i64 day] 3)) mb o1) 0 39 39 3 i0 (.int .i64 0) 1 8 Try.underlying39 hi hzz.1 hzz.2.1 hzz.2.2 rfl (by omega)
                    (.slice A3 (B'.D (pi, pj)).length c3) (B'.D (pi, pj)).length (nums .i64 (B'.D (pi, pj))) hown3 ⟨w9.heap.size, 0, none⟩ 1 1 [.int .i64 day] rfl (World.news_of_block (cs := #[.int .i64 day]) (t := 3) (fr := (0, 0)) hnews) (by simp [Value.oneCell']) (by simp only [maxLen]; omega) (by omega) (Nat.zero_le _)
                  have hnb : (Value.slice A3 (B'.D (pi, pj)).length c3).ownBlock ≠ some b := fun e => (HvS.out b e).2.1 rfl
                  have hnp : (Value.slice A3 (B'.D (pi, pj)).length c3).ownBlock ≠ some gp := fun e => by
                    rcases HPst.out.2.2.1 gp (HvS.out gp e).1 with h | h
                    · exact Hgpn.out.1 (.inl h)
                    · have := Hgpn.out.2; omega
                  refine one_ (i := 9) (N := some 60) #[true, true, true, true, true, true, true, true, true, true, true, false] rfl rfl (by kernel_rfl) (by decide) (fun K hK => ?_)
                  refine append_step (by rfl) rfl rfl (by rfl) (by rfl) hr10 ?_
                  refine hK.out _ _ ⟨grown_cell hg10 hHeld.1 hnb, grown_cell hg10 hHeld.2.1 hnp, grown_cell hg10 hHeld.2.2 hnp⟩ (fun hHeld => ?_)
                  clear hK K
                  refine norm_ (a' := ?_) ?_ ?_
                  rotate_left
                  · simp only [Act.put, List.setIfInBounds_toArray, List.set_cons_zero, List.set_cons_succ, i64_w, i32_w]
                    rfl
                  have hown5 : w10.ownsRow 0 3 1 v' (B'.D (pi, pj) ++ [day]).length (nums .i64 (B'.D (pi, pj) ++ [day])) := by
                    have : nums .i64 (B'.D (pi, pj) ++ [day]) = nums .i64 (B'.D (pi, pj)) ++ [.int .i64 day] := by simp [nums]
                    rw [this, List.length_append]
                    exact hown10
                  obtain ⟨ob, hrun, hbook, hfr2⟩ := HBack.out w10 v' (B'.D (pi, pj) ++ [day]) hg10 hown5 (by
                    rcases hat10 with e | e
                    · exact .inl e
                    · exact .inr ⟨_, e, by rw [put_size]; exact Nat.le_refl _⟩)
                  refine last_ (i := 11) (N := none) #[true, true, true, true, true, true, true, true, true, true, true, true] rfl rfl (by kernel_rfl) (by decide) (fun K hK => ?_)
                  refine entryStore_step (by rfl) rfl rfl (by rfl) (by rfl) (by rfl) hrun ?_
                  refine hK.out _ _ ?_
                  clear hK K
                  refine done_ (by kernel_rfl) ?_
                  have hc5 := hbook.cell2
                  have hf5 : (put w10 mb ob).frozen? ⟨b, 2, none⟩ = false := by
                    obtain ⟨mb', L', h1', _⟩ := hbook
                    exact blk_frozen h1' 2
                  have Hbook := Lib.hid hbook
                  have Hfr2 := Lib.hid hfr2
                  have hsz10 : (w9.alloc (.cells #[.int .i64 day] 3)).heap.size ≤ w10.heap.size := by have := hg10.size; rwa [put_size] at this
                  have Hsz10 := Lib.hid hsz10
                  have Hw9 := Lib.hid hw9
                  clear hbook hfr2 hown5 hown10 hg10 hr10 hrun hat10 hown3 hHeld hnb hnp hnews hmn hsz10 hw9 HEnt HBack HOwn HvS hzz hi hlenD
                  go_wp2_with fail
                  go_roundw
                  case rel =>
                    refine ⟨j + 1, day, by omega, by simp, rfl, by omega, by omega, Lib.hid ?_⟩
                    obtain ⟨hB'n, hB'ok, hB't, hB'D, hcl3, hlast, hmode3⟩ := Hin.out
                    obtain ⟨hbk5, hfr5⟩ := Hbook.out.newest (max B'.nw day)
                    have hD : B'.D (pi, pj) = cur := by rw [hB'D, upd_at]
                    rw [hD] at hbk5
                    have hsw : wc.heap.size ≤ (w9.alloc (.cells #[.int .i64 day] 3)).heap.size := Hbx.out.size
                    have hfrAll : Fr S3 wc ((put w10 mb ob).setCell ⟨b, 2, none⟩ (.int .i64 (max B'.nw day))) :=
                      (Fr.of_below Hbx.out).trans (T := S3) (Hfr2.out.trans (T := _) hfr5 (fun i hi h => by
                        rcases h with h | h
                        · exact h
                        · omega)) (fun i _ h => h)
                    obtain ⟨p1, p2, p3, p4⟩ := HPst.out
                    have hpm : (pi, pj) ∈ prs B'.n := by rw [hB'n]; exact List.mem_of_getElem? Hp.out
                    have hlt' : cur ≠ [] → cur.getLastD 0 < day := fun hne => by
                      have : 0 < cur.length := List.length_pos_iff.2 hne
                      omega
                    refine ⟨B'.day (pi, pj) cur day, cur ++ [day], q4, x4, ⟨_, hbk5, p1.keep hfrAll (fun i hi h => p4 i h hi), p2.trans hfrAll (fun i hi h => ?_), fun i hi => ?_, fun i hi hm => ?_⟩, hB'n, hB'ok.day hD (by omega) (by omega) hlt', hB't.day hB'ok hpm hD day (by omega), ?_, by simp [hcl3], by simp, ?_⟩
                    · rcases p3 i h with h | h
                      · exact .inl h
                      · omega
                    · rcases hi with h | h
                      · exact p3 i h
                      · have := p2.size
                        exact .inr (by omega)
                    · rcases hi with h | h
                      · exact p4 i h hm
                      · have := p1.mlt i hm
                        omega
                    · show upd B'.D (pi, pj) (cur ++ [day]) = _
                      rw [hB'D, upd_upd]
                    · rcases Hcase4.out with ⟨k1, k2, k3, k4, _⟩ | ⟨k1, k2, k3⟩
                      · rcases hmode3 with ⟨m1, m2, m3⟩ | ⟨m1, _⟩
                        · refine .inl ⟨k2, k3, ?_⟩
                          have e1 : deltas 0 (cur ++ [day]) = deltas 0 cur ++ enc7 dv := by
                            rw [deltas_snoc, ← hlast, show (day - last).toNat = dv from by omega]
                          rw [e1, List.append_assoc, ← k4]
                          exact m3
                        · exact absurd k1 m1
                      · have hj0 : ¬ 0 < j := fun h => hcond (.inr ⟨h, by omega⟩)
                        have hcn : cur = [] := List.length_eq_zero_iff.1 (by omega)
                        have hl0' : last = 0 := by rw [hlast, hcn]; rfl
                        refine .inr ⟨k1, ?_, by omega⟩
                        rcases hmode3 with ⟨m1, m2, m3⟩ | ⟨m1, m2, _⟩
                        · intro B0 h0 he
                          have hpB : (prs B.n)[k]? = some (pi, pj) := by rw [HBn.out]; exact Hp.out
                          obtain ⟨_, v0, t0, d1, d2, _, _⟩ := next_facts HBok.out.valid h0 k (pi, pj) hpB cnt cur _ (by rw [hcn]; exact ⟨by simp, by simp⟩) (by omega) (by omega) (he.trans m3)
                          have := k3 m1 v0 t0 d1
                          omega
                        · exact m2
                  case measure => simp [intOf]; omega
            · have hdec2 : decide ((j : Int) < (cnt : Int)) = false := decide_eq_false (by omega)
              obtain rfl : j = cnt := by omega
              go_wp2_with fail
              go_roundw
              case rel =>
                refine ⟨k + 1, by omega, by simp, Lib.hid ?_⟩
                obtain ⟨B', cur, q3, x3, hst3, hB'n, hB'ok, hB't, hB'D, hcl3, hlast, hmode3⟩ := hin.out
                have hD : B'.D (pi, pj) = cur := by rw [hB'D, upd_at]
                have hnot : (pi, pj) ∉ (prs (v : Int)).drop (k + 1) := (prs_once _ k _ Hp.out).2
                have hpre : (pi, pj) ∉ (prs (v : Int)).take k := (prs_once _ k _ Hp.out).1
                refine ⟨B', q3, x3, Pst.rebase HF5.out Hsub.out hst3, hB'n, hB'ok, hB't, ?_, fun p hp => ?_⟩
                · rcases hmode3 with ⟨m1, m2, m3⟩ | ⟨m1, m2, _⟩
                  · refine .inl ⟨m1, m2, ?_⟩
                    have hpB : (prs B'.n)[k]? = some (pi, pj) := by rw [hB'n]; exact Hp.out
                    rw [encA_succ B' k _ hpB, hD]
                    have e1 : encA B' k = encA B k := by
                      unfold encA
                      rw [hB'n, HBn.out]
                      congr 1
                      refine flatMap_cong _ (fun p hp => ?_)
                      rw [hB'D]
                      unfold upd
                      rw [if_neg (show ¬ p = (pi, pj) from fun e => hpre (e ▸ hp))]
                    rw [e1]
                    unfold encP
                    rw [hcl3, List.append_assoc, List.append_assoc]
                    exact m3
                  · exact .inr ⟨m1, m2⟩
                · rw [hB'D]
                  unfold upd
                  rw [if_neg (show ¬ p = (pi, pj) from fun e => hnot (e ▸ hp))]
                  refine Hrest.out p ?_
                  rw [prs_split _ k _ Hp.out]
                  exact List.mem_cons_of_mem _ hp
              case measure => simp [intOf]; omega
        · have hdec : decide ((k : Int) < ((prs v).length : Int)) = false := decide_eq_false (by omega)
          obtain rfl : k = (prs v).length := by omega
          obtain ⟨S, hbk, hrd, hfr, hsub, hdis⟩ := hst
          have HBe := Lib.hid (HB4.out.trans (hfr.below HB4.out.size (fun i hi h => by
            rcases h with h | h
            · have := HS0w.out i h; omega
            · have := HM.out g hrd.mg; omega)))
          have HBk := Lib.hid hbk
          have HRd := Lib.hid hrd
          have HSw : Hid (∀ i, S i → w.heap.size ≤ i) := Lib.hid (fun i hi => by
            rcases hsub i hi with h | h
            · exact HS0w.out i h
            · exact Nat.le_trans HB4.out.size h)
          have HBok := Lib.hid hBok
          have HBt := Lib.hid hBt
          have HBn := Lib.hid hBn
          clear hbk hrd hfr hsub hdis hinv hBt hrest hBok hBn
          rcases hmode with ⟨rfl, hq, hbs⟩ | ⟨hx, hfail⟩
          · have Hbs := Lib.hid hbs
            clear hbs
            by_cases hend : q1 < bs.length
            · have hE := End_calls g bs q1 0 M _ HRd.out hl hq
              rw [if_pos rfl, if_pos hend] at hE
              have Hfail : Hid (∀ B0, Valid B0 → encB B0 ≠ bs) := Lib.hid (fun B0 h0 he => by
                have h1 := he.trans Hbs.out
                rw [show (prs (v : Int)).length = (prs B.n).length from by rw [HBn.out]] at h1
                have h2 := end_facts HBok.out.valid h0 _ h1
                have h3 := congrArg List.length h2
                rw [List.length_drop] at h3
                simp at h3
                omega)
              go_wp2_with fail
              refine hE.mono ?_
              rintro e w9 ⟨rfl, hb9⟩
              have HB9 := Lib.hid (HBe.out.trans (hb9.mono HBe.out.size))
              clear hb9 hE
              go_wp2_with fail
              refine bodyPost_ret (results_list (rs := [.tmp 2, .tmp 3]) rfl (by simp) (.tmp (.tmp .nil))) rfl (.inr ⟨rfl, HB9.out, Hfail.out⟩)
            · have hE := End_calls g bs q1 0 M _ HRd.out hl hq
              rw [if_pos rfl, if_neg hend] at hE
              have Hsucc : Hid (encB B = bs) := Lib.hid (by
                have h1 := Hbs.out
                rw [List.drop_eq_nil_of_le (by omega), List.append_nil] at h1
                rw [← encA_all, HBn.out]
                exact h1.symm)
              go_wp2_with fail
              refine hE.mono ?_
              rintro e w9 ⟨rfl, hb9⟩
              have HB9 := Lib.hid (HBe.out.trans (hb9.mono HBe.out.size))
              have HBk9 := Lib.hid (HBk.out.below hb9)
              clear hb9 hE
              go_wp2_with fail
              refine bodyPost_ret (results_list (rs := [.tmp 2, .tmp 3]) rfl (by simp) (.tmp (.tmp .nil))) rfl (.inl ⟨b, B, S, rfl, HBk9.out, HBok.out, HBt.out, Hsucc.out, HSw.out, HB9.out⟩)
          · have hE := End_err g bs q1 x1 M _ HRd.out hx
            have hxb : (x1 != 0) = true := bne_iff_ne.2 hx
            have Hfail := Lib.hid hfail
            clear hfail
            go_wp2_with fail
            refine hE.mono ?_
            rintro e w9 ⟨rfl, hb9⟩
            have HB9 := Lib.hid (HBe.out.trans (hb9.mono HBe.out.size))
            clear hb9 hE
            go_wp2_with fail
            refine bodyPost_ret (results_list (rs := [.tmp 2, .tmp 3]) rfl (by simp) (.tmp (.tmp .nil))) rfl (.inr ⟨rfl, HB9.out, Hfail.out⟩)
    · omega
  · have hfail : Hid (∀ B0, Valid B0 → encB B0 ≠ bs) := Lib.hid (fun B0 h0 he => by
      obtain ⟨v0, t, e1, e2, e3⟩ := first_facts h0 bs he
      rcases HN.out with ⟨n1, rfl, _, n2, n3⟩ | ⟨_, _, _, n3⟩
      · rw [e1] at n1
        injection n1 with n1
        injection n1 with n1 _
        omega
      · have := n3 v0 t e1
        omega)
    refine (New_no v _ hv).mono ?_
    rintro e w3 ⟨rfl, rfl⟩
    clear HN
    go_wp2_with fail
    refine bodyPost_ret (results_list (rs := [.tmp 2, .tmp 3]) rfl (by simp) (.tmp (.tmp .nil))) rfl (.inr ⟨rfl, HB2.out, hfail.out⟩)
end Go.Proofs.Ytkbiggmkjbmgoaa.Bk
