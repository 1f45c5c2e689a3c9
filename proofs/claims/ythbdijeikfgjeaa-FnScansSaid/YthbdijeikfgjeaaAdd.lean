/- Words beside the printed ones: the value of a row of one's own fits one cell. No condition of ours. -/
import Derived.Test.YthbdijeikfgjeaaWz
namespace Go.Proofs.Ythbdijeikfgjeaa.Add
open Go.Proofs.YthbdijeikfgjeaaW.PrintWords
section
variable {α : Type} {d : Kd α} {e : Nat} {w : World} {base : Nat} {ok : Nat → Prop} {v : Value} {xs : List α}
end
section
open Go.RowKit
variable {P : Program} {ops : Array Oper} {o : Oper} {a : Act} {Q : Exit → Act → World → Prop} {K : Act → World → Prop}
end
section
open Go.RowKit
variable {P : Program} {ops : Array Oper} {rest : List Oper} {o : Oper} {a : Act} {Q : Exit → Act → World → Prop}
end
end Go.Proofs.Ythbdijeikfgjeaa.Add
