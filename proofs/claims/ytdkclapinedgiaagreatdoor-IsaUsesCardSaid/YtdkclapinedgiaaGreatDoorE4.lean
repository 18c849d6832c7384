/- Contract: UsesOf of package isa, for every instruction. -/
import Derived.Test.YtdkclapinedgiaaGreatDoorE3
namespace Go.Proofs.YtdkclapinedgiaaGreatDoor
open Go.RowKit

set_option maxRecDepth 100000 in
set_option maxHeartbeats 4000000 in
theorem uses_no (x : Insn) (w : World) (h0 : -9223372036854775808 ≤ x.k) (h1 : x.k ≤ 9223372036854775807) (hv : x.valid = false) :
    Calls Tryz.prog 20 #[.agg x.cs] w fun e w' => e = .returned (.tuple #[.agg uses0.cs, .int .i64 6]) ∧ Below w.heap.size w w' := by
  have hh := Lib.hid (fun W => valid_any x W h0 h1)
  unfold Insn.cs at hh ⊢
  clear h0 h1
  go_enter Tryz.func20, Tryz.ntmps20
  go_wp2_with fail
  refine (hh.out _).mono ?_
  rintro e w1 ⟨rfl, hb⟩
  have hB := ((Below.refl _ w).alloc (Nat.le_refl _) (.cells x.cs 24)).alloc (by simp) (.cells uses0.cs 33)
  have K : Blk w1 (w.heap.size + 1) 33 uses0.cs := (blk_at (w.alloc (.cells x.cs 24)) (w.heap.size + 1) 33 uses0.cs (by simp)).call hb
  have B : Below w.heap.size w w1 := hB.call hb (by simp; omega)
  obtain ⟨uc0, uc1, uc2, uc3, uc4, uc5, uc6, uc7, uc8, uf0, uf1, uf2, uf3, uf4, uf5, uf6, uf7, uf8⟩ := K.facts9
  have HK := Lib.hid K
  have HB := Lib.hid B
  clear K B hB hb
  go_wp2_with fail
  refine bodyPost_ret (results_33_2 rfl rfl (Blk.nine HK.out _ _ _ _ _ _ _ _ _)) rfl ?_
  exact ⟨rfl, below_nine HB.out (by omega) _ _ _ _ _ _ _ _ _⟩

/-- What UsesOf answers. -/
def usesAns (x : Insn) : UsesS × Int := if x.valid then (usesOf x, 0) else (uses0, 6)
theorem uses_any (x : Insn) (w : World) (h0 : -9223372036854775808 ≤ x.k) (h1 : x.k ≤ 9223372036854775807) :
    Calls Tryz.prog 20 #[.agg x.cs] w fun e w' => e = .returned (.tuple #[.agg (usesAns x).1.cs, .int .i64 (usesAns x).2]) ∧ Below w.heap.size w w' := by
  unfold usesAns
  cases hv : x.valid
  · exact uses_no x w h0 h1 hv
  · exact uses_ok x w hv
end Go.Proofs.YtdkclapinedgiaaGreatDoor
