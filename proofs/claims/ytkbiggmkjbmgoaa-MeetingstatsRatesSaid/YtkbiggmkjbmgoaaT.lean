/- The laws' walks in the form in which the statements' frames take them. -/
import Derived.Test.YtkbiggmkjbmgoaaS
import Derived.Test.YtkbiggmkjbmgoaaA
namespace Go.Proofs.Ytkbiggmkjbmgoaa.Bk
open Go.RowKit Go.Proofs.YtkbiggmkjbmgoaaW.PrintWords
open Go.Proofs.Ytkbiggmkjbmgoaa.PMeetingstatsRates (S65 k65)

/-- The law, as the statement's frame takes it. -/
theorem Rates_walk (n : Int) (A : Option Addr) (c : Nat) (l : List S65) (a b day days : Int) {w : World} (_ : (Lit.int .i64 n).wf = true) (hl : Kd.C k65 w A l.length l) (_ : ∀ p ∈ l, Q65 p)
    (_ : (Lit.int .i64 a).wf = true) (_ : (Lit.int .i64 b).wf = true) (_ : (Lit.int .i64 day).wf = true) (_ : (Lit.int .i64 days).wf = true) :
    Calls Try.prog 4 #[.int .i64 n, .slice A l.length c, .int .i64 a, .int .i64 b, .int .i64 day, .int .i64 days] w fun e w' => e = .returned (.bool true) ∧ Below w.heap.size w w' :=
  Rates_list n A c l a b day days w hl
end Go.Proofs.Ytkbiggmkjbmgoaa.Bk
