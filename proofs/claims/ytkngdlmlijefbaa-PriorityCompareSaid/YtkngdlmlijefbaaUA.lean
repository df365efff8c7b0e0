/- The laws PriorityCompare and PriorityTotal, with what awake answers. -/
import Derived.Test.YtkngdlmlijefbaaTV
import Derived.Test.YtkngdlmlijefbaaTZ
namespace Go.Proofs.Ytkngdlmlijefbaa.Pq
open Go.RowKit
open Go.Proofs.Ytkngdlmlijefbaa.PPriorityOrder
theorem aw : Awake := awake_calls
theorem Compare_law (a b : S32) {w : World} : Calls Try.prog 5 #[.agg (tcells a), .agg (tcells b)] w fun e w' => e = .returned (.bool true) ∧ Below w.heap.size w w' := compare_walk aw a b w
theorem Total_law (a b c : S32) {w : World} : Calls Try.prog 6 #[.agg (tcells a), .agg (tcells b), .agg (tcells c)] w fun e w' => e = .returned (.bool true) ∧ Below w.heap.size w w' := total_walk aw a b c w
end Go.Proofs.Ytkngdlmlijefbaa.Pq
