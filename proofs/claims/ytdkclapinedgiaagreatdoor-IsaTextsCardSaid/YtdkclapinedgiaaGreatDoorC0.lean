/- Contracts: has$1, vectors, operands of package isa. -/
import Derived.Test.YtdkclapinedgiaaGreatDoorProg
import Derived.Test.YtdkclapinedgiaaGreatDoorPure2
import Derived.Test.YtdkclapinedgiaaGreatDoorWords3
import Derived.WalkKit
import Derived.WalkSpells
import Derived.WalkLawsBesides
import Derived.KernelRfl
import Derived.Lib.Hide
import Derived.Deep.QuietTactic
import Derived.BigQuiet
namespace Go.Proofs.YtdkclapinedgiaaGreatDoor
open Go.RowKit

set_option maxHeartbeats 400000 in
theorem has1_any (n most : Int) (w : World) :
    Calls Tryz.prog 130 #[.int .i64 n, .int .i64 most] w fun e w' => e = .returned (.bool (within n most)) ∧ w = w' := by
  go_enter Tryz.func130, Tryz.ntmps130
  go_wp2
  all_goals (go_ret; simp [within, *] <;> omega)

set_option maxHeartbeats 4000000 in
theorem vectors_any (op : Int) (w : World) :
    Calls Tryz.prog 93 #[.int .i64 op] w fun e w' => e = .returned (.tuple #[.string ⟨(vecs op).1.toArray⟩, .bool (vecs op).2]) ∧ w = w' := by
  go_enter Tryz.func93, Tryz.ntmps93
  go_wp2
  all_goals (go_ret2; simp_all [vecs])

set_option maxHeartbeats 4000000 in
theorem operands_any (op : Int) (w : World) :
    Calls Tryz.prog 58 #[.int .i64 op] w fun e w' => e = .returned (.tuple #[.string ⟨(opnd op).1.toArray⟩, .bool (opnd op).2]) ∧ w = w' := by
  go_enter Tryz.func58, Tryz.ntmps58
  go_wp2_with (go_at_call 93; refine (vectors_any _ _).mono ?_; rintro e w' ⟨rfl, rfl⟩)
  all_goals (go_ret2; simp_all [opnd] <;> (repeat' split) <;> first | omega | simp_all)

end Go.Proofs.YtdkclapinedgiaaGreatDoor
