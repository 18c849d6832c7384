/- Words over this program: a struct result that lies in a block of the call's own. -/
import Derived.Test.YtdkclapinedgiaaGreatDoorProg
import Derived.Test.YtdkclapinedgiaaGreatDoorWords
import Derived.WalkKit
import Derived.KernelRfl
namespace Go.Proofs.YtdkclapinedgiaaGreatDoor
open Go.RowKit

/-- A name for the world at hand, of which this is known. -/
theorem name_world {P : Program} {c : Code} {Q : Exit → Act → World → Prop} {a : Act} (F : World → Prop) (W : World) (h : F W) (k : ∀ W', F W' → c.wp P Q a W') : c.wp P Q a W := k W h
theorem load24 {w : World} {g : Nat} {c0 c1 c2 c3 c4 c5 c6 : Value} (h : Blk w g 24 #[c0, c1, c2, c3, c4, c5, c6]) :
    (loadVar 24 ⟨g, 0, none⟩).run Tryz.prog w = .ok (.agg #[c0, c1, c2, c3, c4, c5, c6]) w := by
  have d0 := h.cell 0
  have d1 := h.cell 1
  have d2 := h.cell 2
  have d3 := h.cell 3
  have d4 := h.cell 4
  have d5 := h.cell 5
  have d6 := h.cell 6
  simp at d0 d1 d2 d3 d4 d5 d6
  simp [go_sem, d0, d1, d2, d3, d4, d5, d6]
theorem results_24_1 {fn : Func} {a : Tmp} (hr : fn.results = #[.cell a 24]) {tmps : Array Value} {w : World} {g : Nat} {c0 c1 c2 c3 c4 c5 c6 : Value}
    (ha : tmps.getD a undef = .pointer (some ⟨g, 0, none⟩)) (h : Blk w g 24 #[c0, c1, c2, c3, c4, c5, c6]) :
    (results fn tmps).run Tryz.prog w = .ok (.agg #[c0, c1, c2, c3, c4, c5, c6]) w := by
  have d0 := h.cell 0
  have d1 := h.cell 1
  have d2 := h.cell 2
  have d3 := h.cell 3
  have d4 := h.cell 4
  have d5 := h.cell 5
  have d6 := h.cell 6
  simp at d0 d1 d2 d3 d4 d5 d6 ha
  simp [results, hr, ha, d0, d1, d2, d3, d4, d5, d6, go_sem]
theorem results_24_2 {fn : Func} {a b : Tmp} (hr : fn.results = #[.cell a 24, .tmp b]) {tmps : Array Value} {w : World} {g : Nat} {c0 c1 c2 c3 c4 c5 c6 : Value}
    (ha : tmps.getD a undef = .pointer (some ⟨g, 0, none⟩)) (h : Blk w g 24 #[c0, c1, c2, c3, c4, c5, c6]) :
    (results fn tmps).run Tryz.prog w = .ok (.tuple #[.agg #[c0, c1, c2, c3, c4, c5, c6], tmps.getD b undef]) w := by
  have d0 := h.cell 0
  have d1 := h.cell 1
  have d2 := h.cell 2
  have d3 := h.cell 3
  have d4 := h.cell 4
  have d5 := h.cell 5
  have d6 := h.cell 6
  simp at d0 d1 d2 d3 d4 d5 d6 ha
  simp [results, hr, ha, d0, d1, d2, d3, d4, d5, d6, go_sem]
theorem results_24_3 {fn : Func} {a b c : Tmp} (hr : fn.results = #[.cell a 24, .tmp b, .tmp c]) {tmps : Array Value} {w : World} {g : Nat} {c0 c1 c2 c3 c4 c5 c6 : Value}
    (ha : tmps.getD a undef = .pointer (some ⟨g, 0, none⟩)) (h : Blk w g 24 #[c0, c1, c2, c3, c4, c5, c6]) :
    (results fn tmps).run Tryz.prog w = .ok (.tuple #[.agg #[c0, c1, c2, c3, c4, c5, c6], tmps.getD b undef, tmps.getD c undef]) w := by
  have d0 := h.cell 0
  have d1 := h.cell 1
  have d2 := h.cell 2
  have d3 := h.cell 3
  have d4 := h.cell 4
  have d5 := h.cell 5
  have d6 := h.cell 6
  simp at d0 d1 d2 d3 d4 d5 d6 ha
  simp [results, hr, ha, d0, d1, d2, d3, d4, d5, d6, go_sem]
/-- Seven stores into a block of seven cells. -/
theorem Blk.seven {w : World} {g t : Nat} {c0 c1 c2 c3 c4 c5 c6 : Value} (h : Blk w g t #[c0, c1, c2, c3, c4, c5, c6]) (v0 v1 v2 v3 v4 v5 v6 : Value) :
    Blk (((((((w.setCell ⟨g, 0, none⟩ v0).setCell ⟨g, 1, none⟩ v1).setCell ⟨g, 2, none⟩ v2).setCell ⟨g, 3, none⟩ v3).setCell ⟨g, 4, none⟩ v4).setCell ⟨g, 5, none⟩ v5).setCell ⟨g, 6, none⟩ v6) g t #[v0, v1, v2, v3, v4, v5, v6] := by
  have := (((((((h.set_ 0 v0).set_ 1 v1).set_ 2 v2).set_ 3 v3).set_ 4 v4).set_ 5 v5).set_ 6 v6)
  simpa using this
theorem below_seven {B : Nat} {a w : World} (h : Below B a w) {g : Nat} (hg : B ≤ g) (v0 v1 v2 v3 v4 v5 v6 : Value) :
    Below B a (((((((w.setCell ⟨g, 0, none⟩ v0).setCell ⟨g, 1, none⟩ v1).setCell ⟨g, 2, none⟩ v2).setCell ⟨g, 3, none⟩ v3).setCell ⟨g, 4, none⟩ v4).setCell ⟨g, 5, none⟩ v5).setCell ⟨g, 6, none⟩ v6) :=
  ((((((h.setCell (p := ⟨g, 0, none⟩) hg v0).setCell (p := ⟨g, 1, none⟩) hg v1).setCell (p := ⟨g, 2, none⟩) hg v2).setCell (p := ⟨g, 3, none⟩) hg v3).setCell (p := ⟨g, 4, none⟩) hg v4).setCell (p := ⟨g, 5, none⟩) hg v5).setCell (p := ⟨g, 6, none⟩) hg v6
theorem Blk.call {w w1 : World} {g t : Nat} {cs : Array Value} (h : Blk w g t cs) (hb : Below w.heap.size w w1) : Blk w1 g t cs := h.below hb h.lt
end Go.Proofs.YtdkclapinedgiaaGreatDoor
