/- What is proved here: nothing; it hands the sort texts on. Conditions: none. -/
import Derived.Test.YthbdijeikfgjeaaSrt5
namespace Go.Proofs.Ythbdijeikfgjeaa.Rd
end Go.Proofs.Ythbdijeikfgjeaa.Rd
