/- Single operations of a region that draws its order, met by their run: plain laws over any program. -/
import Derived.Test.YtkngdlmlijefbaaM
import Derived.Test.YtkngdlmlijefbaaWLast
import Derived.Maps.AppendAt
namespace Go.Proofs.Mp
open Go.RowKit Go.Proofs.YtkngdlmlijefbaaW.PrintLast

section
variable {P : Program} {ops : Array Oper} {Q : Exit → Act → World → Prop} {o : Oper} {a : Act} {w w1 : World} {K : Act → World → Prop}

end

/-! The same operations in a region in the text order. -/
section
variable {P : Program} {ops : Array Oper} {rest : List Oper} {Q : Exit → Act → World → Prop} {o : Oper} {a : Act} {w w1 : World}
end
end Go.Proofs.Mp
