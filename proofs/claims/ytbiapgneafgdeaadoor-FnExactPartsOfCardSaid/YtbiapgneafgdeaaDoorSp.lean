/- What is proved here: that the library's MaxLen holds some whole number, of a world's shape and of every world behind it. Conditions: none. -/
import Derived.Test.YtbiapgneafgdeaaDoorShelfP
import Derived.Lib.SplitLaws
import Derived.Below
namespace Go.Proofs.YtbiapgneafgdeaaDoor.Sp
open Go.RowKit
/-- MaxLen holds a whole number. -/
def MaxAt (w : World) : Prop := ∃ m, w.cell? ⟨2, 0, none⟩ = some (.int .i64 m)
theorem MaxAt.below {w w' : World} (h : MaxAt w) (hb : Below w.heap.size w w') : MaxAt w' := by
  obtain ⟨m, hm⟩ := h
  exact ⟨m, (hb.cell (World.block_lt_of_cell? w _ hm)).trans hm⟩
theorem maxAt_of_shaped {w : World} (h : w.ShapedOpen Tryd.prog) : MaxAt w :=
  cell_of_shapedOpen_int h (t := 3) (zero := #[.int .i64 0]) (of_decide_eq_true (by kernel_rfl)) (by kernel_rfl) rfl (by kernel_rfl) (by kernel_rfl) (by kernel_rfl)
end Go.Proofs.YtbiapgneafgdeaaDoor.Sp
