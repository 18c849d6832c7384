/- Contract: sane of the law's package (function 15): true. -/
import Derived.Test.YtdkclapinedgiaaGreatDoorS4
import Derived.Test.YtdkclapinedgiaaGreatDoorE3
namespace Go.Proofs.YtdkclapinedgiaaGreatDoor
open Go.RowKit
theorem us34 : (usesOf ⟨34, 3, 0, 0, 0, 0, 0⟩).cs = #[.int .i64 32776, .int .i64 32768, .int .i64 0, .int .i64 0, .bool false, .bool false, .int .i64 0, .int .i64 4, .bool false] := by
  have h : ((usesOf ⟨34, 3, 0, 0, 0, 0, 0⟩).r = 32776 ∧ (usesOf ⟨34, 3, 0, 0, 0, 0, 0⟩).w = 32768 ∧ (usesOf ⟨34, 3, 0, 0, 0, 0, 0⟩).vr = 0 ∧ (usesOf ⟨34, 3, 0, 0, 0, 0, 0⟩).vw = 0) ∧
      ((usesOf ⟨34, 3, 0, 0, 0, 0, 0⟩).fi = false ∧ (usesOf ⟨34, 3, 0, 0, 0, 0, 0⟩).fo = false ∧ (usesOf ⟨34, 3, 0, 0, 0, 0, 0⟩).ld = 0 ∧ (usesOf ⟨34, 3, 0, 0, 0, 0, 0⟩).st = 4 ∧ (usesOf ⟨34, 3, 0, 0, 0, 0, 0⟩).j = false) := by decide +kernel
  obtain ⟨⟨h1, h2, h3, h4⟩, h5, h6, h7, h8, h9⟩ := h
  unfold UsesS.cs usesBlk
  rw [h1, h2, h3, h4, h5, h6, h7, h8, h9]
theorem sane_any (w : World) (he : Env w) : Calls Tryz.prog 15 #[] w fun e w' => e = .returned (.bool true) ∧ Below w.heap.size w w' :=
  sane_of w he fun W => (uses_ok ⟨34, 3, 0, 0, 0, 0, 0⟩ W va7).mono fun e w' h => by rw [us34] at h; exact h
end Go.Proofs.YtdkclapinedgiaaGreatDoor
