/- What is proved here: nothing of its own: the walk of the library's stable sort is handed on. Conditions: none. -/
import Derived.Test.YthbdijeikfgjeaaSrt5
namespace Go.Proofs.Ythbdijeikfgjeaa.Rd
end Go.Proofs.Ythbdijeikfgjeaa.Rd
