/- Contracts: the deferred function of 'parsed'. -/
import Derived.Test.YtdkclapinedgiaaGreatDoorH6
import Derived.Tactics
import Derived.Tactics2
import Derived.Defers
import Derived.Recover
import Derived.Laws.Pointers
namespace Go.Proofs.YtdkclapinedgiaaGreatDoor
open Go.RowKit

set_option maxRecDepth 100000 in
theorem catch_idle (p : Addr) (w : World) :
    CallsD Tryz.prog 120 #[.pointer (some p)] .returning w fun e u' w' => e = .returned (.tuple #[]) ∧ u' = .returning ∧ w' = w := by
  refine callsD_of_wpS Tryz.func120 rfl fun c₀ cs hu => ?_
  apply wpS_seq
  apply wpS_region
  simp [wpOpsS, go_sem, recoverD, hu, Tryz.ntmps120, Exit.thenS]
  refine wpS_of_wp ?_
  go_wp2
  cases c₀
  simp_all [bodyPostS, results, Tryz.results120]
set_option maxRecDepth 100000 in
set_option maxHeartbeats 1000000 in
theorem catch_wrong (g : Nat) (b : Bool) (older : List PanicEntry) (w : World) (hg : g < w.heap.size) (hc : w.cell? ⟨g, 0, none⟩ = some (.bool b)) (hz : w.frozen? ⟨g, 0, none⟩ = false) :
    CallsD Tryz.prog 120 #[.pointer (some ⟨g, 0, none⟩)] (.panicking ({ v := .iface 135 (.agg #[]), recovered := false } :: older)) w fun e u' w' =>
      e = .returned (.tuple #[]) ∧ u' = .panicking ({ v := .iface 135 (.agg #[]), recovered := true } :: older) ∧ w' = (w.setCell ⟨g, 0, none⟩ (.bool false)).alloc (.cells #[] 135) := by
  have hta : ∀ W, (Instr.typeAssert (.iface 135 (.agg #[])) 20 135 true).run Tryz.prog W = .ok (.tuple #[.agg #[], .bool true]) W := fun _ => by kernel_rfl
  refine callsD_of_wpS Tryz.func120 rfl fun c₀ cs hu => ?_
  apply wpS_seq
  apply wpS_region
  simp [wpOpsS, go_sem, recoverD, hu, Tryz.ntmps120, Exit.thenS]
  refine wpS_of_wp ?_
  show Code.wp _ _ _ ⟨#[.pointer (some ⟨g, 0, none⟩), .iface 135 (.agg #[]), undef, undef, .iface 135 (.agg #[]), undef, undef, undef, undef, undef, undef, undef, undef, undef, undef], []⟩ w
  go_wp2
  cases c₀
  simp_all [bodyPostS, results, Tryz.results120]
end Go.Proofs.YtdkclapinedgiaaGreatDoor
