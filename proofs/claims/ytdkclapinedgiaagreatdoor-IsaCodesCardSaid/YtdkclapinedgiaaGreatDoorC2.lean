/- Contracts: has, valid, Check of package isa. -/
import Derived.Test.YtdkclapinedgiaaGreatDoorC1
namespace Go.Proofs.YtdkclapinedgiaaGreatDoor
open Go.RowKit

def Insn.cs (x : Insn) : Array Value := #[.int .i64 x.op, .int .i64 x.a, .int .i64 x.b, .int .i64 x.c, .int .i64 x.d, .int .i64 x.k, .int .u32 x.i]
def Insn.v (x : Insn) : Value := .agg x.cs

theorem within_wrap (k : Int) (h0 : -9223372036854775808 ≤ k) (h1 : k ≤ 9223372036854775807) : within (wrap64 (k + 128)) 255 = within (k + 128) 255 := by
  unfold within wrap64
  rw [Bool.eq_iff_iff]; simp; omega

set_option maxHeartbeats 4000000 in
theorem has_any (r : Room) (x : Insn) (w : World) (h0 : -9223372036854775808 ≤ x.k) (h1 : x.k ≤ 9223372036854775807) :
    Calls Tryz.prog 72 #[.agg r.cs, .agg x.cs] w fun e w' => e = .returned (.bool (r.has x)) ∧ Below w.heap.size w w' := by
  have hw := Lib.hid (within_wrap x.k h0 h1)
  unfold Insn.cs Room.cs
  clear h0 h1
  go_enter Tryz.func72, Tryz.ntmps72
  go_wp2_with (go_at_call 130; refine (has1_any _ _ _).mono ?_; rintro e w' ⟨rfl, rfl⟩)
  all_goals (go_ret; refine ⟨?_, ((Below.refl _ w).alloc (Nat.le_refl _) _).alloc (by simp) _⟩)
  all_goals (have hw := hw.out; simp_all [Room.has])

end Go.Proofs.YtdkclapinedgiaaGreatDoor
