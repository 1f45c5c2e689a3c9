/- What is proved here: sort.SliceStable over a slice of Found, at this program and at any length from 2 on. Conditions: those of the contract. -/
import Derived.Test.YthbdijeikfgjeaaSrt4
namespace Go.Proofs.Ythbdijeikfgjeaa.Srt
open Go.Shelf Go.RowKit Go.Lib Go.Sort Go.Proofs.Ythbdijeikfgjeaa.Stab
variable {α : Type} [Inhabited α]
set_option linter.unusedVariables false

noncomputable def tF : TypeInfo := (Try.prog.info? 36).get (by kernel_rfl)
noncomputable def eF : TypeInfo := (Try.prog.info? 43).get (by kernel_rfl)
theorem swK (n : Nat) (h2 : 2 ≤ n) : Lib.swapperK n eF 25 = 9 := by
  have a : eF.hasPointers = true := by kernel_rfl
  have b : eF.bytes = 72 := by kernel_rfl
  have c : (n == 0) = false := by simp; omega
  have d : (n == 1) = false := by simp; omega
  simp [Lib.swapperK, a, b, c, d]
theorem run_swap9 (args : Array Value) (W : World) : (callFunc 82 args).run Try.prog W = ((Extern.ReflectliteSwapper.swap false args).run Try.prog W).andThen fun v w' => .ok (.value v) w' :=
  run_callFunc_extern Try.func82 (by kernel_rfl) (by kernel_rfl) (by kernel_rfl) (e := Extern.ReflectliteSwapper.swap false) (by kernel_rfl) args W

set_option maxHeartbeats 2000000 in
theorem sliceStable_w (enc : α → List Value) (hk : ∀ x, (enc x).length = 8) (h1 : ∀ x, ∀ v ∈ enc x, v.oneCell' = true) (lt : α → α → Bool) (g : Nat) (lb : Array Value)
    (eg : ∀ args w, (callFunc g args).run Try.prog w = .ok (.enter g args) w) (blk off c : Nat) (d : Array α) (h2 : 2 ≤ d.size) (hsz : d.size < 288230376151711744) (w : World)
    (hless : LessReadsK Try.prog g lb enc 8 lt blk off d.size w) (hH : HoldsK enc 8 w blk off d) (hblk : blk < w.heap.size) :
    Calls Try.prog 27 #[.iface 36 (.slice (some ⟨blk, off, none⟩) d.size c), .func (.func g) #[] lb] w fun e w' => e = .returned (.tuple #[]) ∧ ∃ n os, w' = sortWorldK enc 8 w blk off n (stable lt d d.size) os := by
  have L := Try.laysGt8
  refine Any.sort_SliceStable_of_stable L 36 43 tF eF (by kernel_rfl) (by kernel_rfl) (by kernel_rfl) (by kernel_rfl) 25 (fun _ => by kernel_rfl) (some ⟨blk, off, none⟩) d.size c (by omega) 82 (by rw [swK _ h2]; kernel_rfl) (.func g) #[] lb w _ ?_
  have hB : sliceBound Try.prog 43 eF 25 (some ⟨blk, off, none⟩) d.size c = #[.slice (some ⟨blk, off, none⟩) d.size c, typeHandle Try.prog 43] := by
    unfold sliceBound; rw [swK _ h2, if_neg (by decide)]
  have hW : ∃ os0, stableWorld Try.prog Try.laysGt8_ren 36 (some ⟨blk, off, none⟩) d.size c w = grow w os0 := ⟨_, by unfold stableWorld; rw [alloc_eq_grow, alloc_eq_grow, grow_grow]⟩
  obtain ⟨os0, hW⟩ := hW
  rw [hB, hW]
  have hp := stable_w enc 8 hk lt g lb 82 _ blk off d.size d (grow w os0) eg rfl (hless.grow hblk os0)
    (swapSwapsK_of_literal false 82 run_swap9 43 eF (by kernel_rfl) enc 8 hk (by kernel_rfl) (fun _ => by kernel_rfl) h1 blk off d.size c) (holdsK_grow enc 8 w _ blk off d hblk hH) (by rw [size_grow]; omega) hsz
  refine hp.mono ?_
  rintro e w' ⟨rfl, n, os, rfl⟩
  exact ⟨rfl, n, os0 ++ os, by unfold sortWorldK; rw [ahead_grow, putRowK_grow enc 8 (Sort.ahead w n) _ blk off _ hblk, grow_grow]⟩
/-- .. at no element or one. -/
theorem sliceStable_tiny (lf : Fn) (la lb : Array Value) (p : Option Addr) (n c : Nat) (hn : n ≤ 1) (w : World) :
    Calls Try.prog 27 #[.iface 36 (.slice p n c), .func lf la lb] w fun e w' => e = .returned (.tuple #[]) ∧ ∃ os, w' = grow w os := by
  have L := Try.laysGt8
  have hf : ∃ f, Try.prog.funcs.findIdx? (·.name == "internal/reflectlite" ++ ".Swapper$" ++ toString (Lib.swapperK n eF 25)) = some f := by
    by_cases h0 : n = 0
    · subst h0; exact ⟨74, by kernel_rfl⟩
    · obtain rfl : n = 1 := by omega
      exact ⟨75, by kernel_rfl⟩
  obtain ⟨f, hf⟩ := hf
  exact Any.sort_SliceStable_tiny L 36 43 tF eF (by kernel_rfl) (by kernel_rfl) (by kernel_rfl) (by kernel_rfl) 25 (fun _ => by kernel_rfl) p n c hn f hf lf la lb w
end Go.Proofs.Ythbdijeikfgjeaa.Srt
