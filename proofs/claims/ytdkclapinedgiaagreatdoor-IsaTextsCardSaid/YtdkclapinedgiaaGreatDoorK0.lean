/- An instruction as an argument of a row: what it reads as. -/
import Derived.Test.YtdkclapinedgiaaGreatDoorR2
import Derived.Test.YtdkclapinedgiaaGreatDoorG3
import Derived.ChangeSame
import Derived.WideShapes
namespace Go.Proofs.YtdkclapinedgiaaGreatDoor
open Go.ChangeShapes Go.WideShapes Go.ChangeAt Go.RowKit

theorem c24 : Tryz.prog.cellsOf 24 = 7 := by kernel_rfl
theorem c3 : Tryz.prog.cellsOf 3 = 1 := by kernel_rfl
theorem c22 : Tryz.prog.cellsOf 22 = 1 := by kernel_rfl
theorem u3 : Tryz.prog.underlying 3 = some (.int .i64) := by kernel_rfl
theorem u22 : Tryz.prog.underlying 22 = some (.int .u32) := by kernel_rfl
/-- What an instruction reads as. -/
def insnD {H : Type} (x : Insn) : DataW H := .agg [.lit (.int .i64 x.op), .lit (.int .i64 x.a), .lit (.int .i64 x.b), .lit (.int .i64 x.c), .lit (.int .i64 x.d), .lit (.int .i64 x.k), .lit (.int .u32 x.i)]
theorem wf64 {n : Int} (h : -9223372036854775808 ≤ n ∧ n ≤ 9223372036854775807) : (Lit.int .i64 n).wf = true := by
  simp [Lit.wf, IntKind.min, IntKind.max, IntKind.signed, IntKind.bits]; omega
theorem wf32 {n : Int} (h : 0 ≤ n ∧ n < 4294967296) : (Lit.int .u32 n).wf = true := by
  simp [Lit.wf, IntKind.min, IntKind.max, IntKind.signed, IntKind.bits]; omega

section
variable {H : Type} {enc : TypeId × Value → H} {W : World} {base : Nat} {sp : Nat → Bool} {held : Bool}
set_option maxRecDepth 100000 in
theorem open_insn {r : Reach} {b0 : Nat} {v : Value} {d : DataW H} {ps : List MemPlace} (hval : Value.okWide Tryz.prog W r b0 24 v) (h : DataW.Trod enc Tryz.prog W base sp held 24 v d ps) :
    ∃ x : Insn, v = .agg x.cs ∧ d = insnD x ∧ ps = [] ∧ x.In := by
  obtain ⟨cs, rfl, hs⟩ := okWide_struct Tryz.underlying24 hval
  obtain ⟨fuel, hf⟩ := h
  obtain ⟨xs, n, _, hx, hl, hlen, hfs⟩ := DataW.trod_struct Tryz.underlying24 hf
  obtain ⟨l⟩ := cs
  rw [c24] at hs
  match l, hs with
  | [v0, v1, v2, v3, v4, v5, v6], _ =>
    match xs, hlen with
    | [y0, y1, y2, y3, y4, y5, y6], _ =>
      have f0 : DataW.trod enc Tryz.prog W base sp held n 3 [v0] = some y0 := by
        have h : DataW.trod enc Tryz.prog W base sp held n 3 (([v0, v1, v2, v3, v4, v5, v6].drop 0).take (Tryz.prog.cellsOf 3)) = some y0 := hfs 0 _ rfl
        rw [c3] at h; exact h
      have f1 : DataW.trod enc Tryz.prog W base sp held n 3 [v1] = some y1 := by
        have h : DataW.trod enc Tryz.prog W base sp held n 3 (([v0, v1, v2, v3, v4, v5, v6].drop 1).take (Tryz.prog.cellsOf 3)) = some y1 := hfs 1 _ rfl
        rw [c3] at h; exact h
      have f2 : DataW.trod enc Tryz.prog W base sp held n 3 [v2] = some y2 := by
        have h : DataW.trod enc Tryz.prog W base sp held n 3 (([v0, v1, v2, v3, v4, v5, v6].drop 2).take (Tryz.prog.cellsOf 3)) = some y2 := hfs 2 _ rfl
        rw [c3] at h; exact h
      have f3 : DataW.trod enc Tryz.prog W base sp held n 3 [v3] = some y3 := by
        have h : DataW.trod enc Tryz.prog W base sp held n 3 (([v0, v1, v2, v3, v4, v5, v6].drop 3).take (Tryz.prog.cellsOf 3)) = some y3 := hfs 3 _ rfl
        rw [c3] at h; exact h
      have f4 : DataW.trod enc Tryz.prog W base sp held n 3 [v4] = some y4 := by
        have h : DataW.trod enc Tryz.prog W base sp held n 3 (([v0, v1, v2, v3, v4, v5, v6].drop 4).take (Tryz.prog.cellsOf 3)) = some y4 := hfs 4 _ rfl
        rw [c3] at h; exact h
      have f5 : DataW.trod enc Tryz.prog W base sp held n 3 [v5] = some y5 := by
        have h : DataW.trod enc Tryz.prog W base sp held n 3 (([v0, v1, v2, v3, v4, v5, v6].drop 5).take (Tryz.prog.cellsOf 3)) = some y5 := hfs 5 _ rfl
        rw [c3] at h; exact h
      have f6 : DataW.trod enc Tryz.prog W base sp held n 22 [v6] = some y6 := by
        have h : DataW.trod enc Tryz.prog W base sp held n 22 (([v0, v1, v2, v3, v4, v5, v6].drop 6).take (Tryz.prog.cellsOf 22)) = some y6 := hfs 6 _ rfl
        rw [c22] at h; exact h
      obtain ⟨n0, e0, rfl, w0⟩ := DataW.trod_int u3 f0
      obtain ⟨n1, e1, rfl, w1⟩ := DataW.trod_int u3 f1
      obtain ⟨n2, e2, rfl, w2⟩ := DataW.trod_int u3 f2
      obtain ⟨n3, e3, rfl, w3⟩ := DataW.trod_int u3 f3
      obtain ⟨n4, e4, rfl, w4⟩ := DataW.trod_int u3 f4
      obtain ⟨n5, e5, rfl, w5⟩ := DataW.trod_int u3 f5
      obtain ⟨n6, e6, rfl, w6⟩ := DataW.trod_int u22 f6
      simp at e0 e1 e2 e3 e4 e5 e6
      subst e0 e1 e2 e3 e4 e5 e6
      simp only [Prod.mk.injEq] at hx
      have b6 := bounds_u32 w6
      exact ⟨⟨n0, n1, n2, n3, n4, n5, n6⟩, rfl, hx.1, hx.2, ⟨bounds_i64 w0, bounds_i64 w1, bounds_i64 w2, bounds_i64 w3, bounds_i64 w4, bounds_i64 w5, ⟨b6.1, by show n6 < _; omega⟩⟩⟩
set_option maxRecDepth 100000 in
theorem shut_insn {x : Insn} (hx : x.In) : DataW.Trod enc Tryz.prog W base sp held 24 (.agg x.cs) (insnD x) [] := by
  refine ⟨2, ?_⟩
  have := trod_struct_mk (enc := enc) (w := W) (base := base) (spare := sp) (held := held) (n := 1) (cs := (Value.agg x.cs).cells.toList)
    (xs := [(.lit (.int .i64 x.op), []), (.lit (.int .i64 x.a), []), (.lit (.int .i64 x.b), []), (.lit (.int .i64 x.c), []), (.lit (.int .i64 x.d), []), (.lit (.int .i64 x.k), []), (.lit (.int .u32 x.i), [])]) Tryz.underlying24 (by rw [c24]; rfl) (by
      have t : ∀ n : Int, (Lit.int .i64 n).wf = true → DataW.trod enc Tryz.prog W base sp held 1 3 [.int .i64 n] = some (.lit (.int .i64 n), []) := fun n h => trod_int_mk 0 u3 h
      have t6 : DataW.trod enc Tryz.prog W base sp held 1 22 [.int .u32 x.i] = some (.lit (.int .u32 x.i), []) := trod_int_mk 0 u22 (wf32 hx.i)
      simp [Insn.cs, Value.cells, c3, c22, t _ (wf64 hx.op), t _ (wf64 hx.a), t _ (wf64 hx.b), t _ (wf64 hx.c), t _ (wf64 hx.d), t _ (wf64 hx.k), t6])
  simpa [insnD] using this
end
end Go.Proofs.YtdkclapinedgiaaGreatDoor
