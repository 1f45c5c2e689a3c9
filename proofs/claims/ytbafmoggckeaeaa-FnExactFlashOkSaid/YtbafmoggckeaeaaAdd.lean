/- Words beside the printed ones: the value of a row of one's own fits one cell. No condition of ours. -/
import Derived.Test.YtbafmoggckeaeaaWWords
import Derived.Test.YtbafmoggckeaeaaWApart
import Derived.Test.YtbafmoggckeaeaaWN
namespace Go.Proofs.Ytbafmoggckeaeaa.Add
open Go.Proofs.YtbafmoggckeaeaaW.PrintWords
section
variable {α : Type} {d : Kd α} {e : Nat} {w : World} {base : Nat} {ok : Nat → Prop} {v : Value} {xs : List α}
theorem R_one (h : d.R e w base ok v xs) : v.oneCell' = true := by
  obtain ⟨_, inner, ho, _⟩ := h
  obtain ⟨A, c, rfl⟩ := own_slice ho
  rfl
theorem S_one (h : Kd.S d e w base ok v xs) : v.oneCell' = true := R_one (Kd.S_R h)
theorem N_one (h : Kd.N d e w base ok v xs) : v.oneCell' = true := by
  obtain ⟨_, rows, _, hr, _⟩ := h
  exact R_one hr
end
end Go.Proofs.Ytbafmoggckeaeaa.Add
