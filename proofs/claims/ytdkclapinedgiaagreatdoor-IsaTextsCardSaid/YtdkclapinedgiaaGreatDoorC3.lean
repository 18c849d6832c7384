/- Contracts: valid, Check of package isa. -/
import Derived.Test.YtdkclapinedgiaaGreatDoorC2
namespace Go.Proofs.YtdkclapinedgiaaGreatDoor
open Go.RowKit

def ValidPost (w : World) (x : Insn) (e : Ending) (w' : World) : Prop := e = .returned (.bool x.valid) ∧ Below w.heap.size w w'

set_option maxHeartbeats 4000000 in
theorem valid_any (x : Insn) (w : World) (h0 : -9223372036854775808 ≤ x.k) (h1 : x.k ≤ 9223372036854775807) :
    Calls Tryz.prog 56 #[.agg x.cs] w (ValidPost w x) := by
  have hh := Lib.hid (fun r W => has_any r x W h0 h1)
  unfold Insn.cs at hh ⊢
  clear h0 h1
  go_enter Tryz.func56, Tryz.ntmps56
  go_wp2_with (first
    | (go_at_call 71; refine (fields_any _ _).mono ?_; rintro e w1 ⟨rfl, hb⟩; obtain ⟨hc, hf⟩ := bcell hb; have hz : w.heap.size < w1.heap.size := by { have := hb.size; simp at this; omega }; unfold Room.cs)
    | (go_at_call 72; refine (hh.out _ _).mono ?_; rintro e w2 ⟨rfl, hb2⟩))
  · go_ret
    exact ⟨by simp_all [Insn.valid], ((((Below.refl _ w).alloc (Nat.le_refl _) _).call hb (by simp)).alloc (by omega) _).call hb2 (by simp; omega)⟩
  · go_ret
    exact ⟨by simp_all [Insn.valid], (((Below.refl _ w).alloc (Nat.le_refl _) _).call hb (by simp)).alloc (by omega) _⟩

theorem check_any (x : Insn) (w : World) (h0 : -9223372036854775808 ≤ x.k) (h1 : x.k ≤ 9223372036854775807) :
    Calls Tryz.prog 31 #[.agg x.cs] w fun e w' => e = .returned (.int .i64 (if x.valid then 0 else 6)) ∧ Below w.heap.size w w' := by
  have hh := Lib.hid (fun W => valid_any x W h0 h1)
  unfold Insn.cs at hh ⊢
  clear h0 h1
  go_enter Tryz.func31, Tryz.ntmps31
  go_wp2_with (go_at_call 56; refine (hh.out _).mono ?_; rintro e w2 ⟨rfl, hb2⟩)
  all_goals
    go_ret
    exact ⟨by simp_all, ((Below.refl _ w).alloc (Nat.le_refl _) _).call hb2 (by simp)⟩
end Go.Proofs.YtdkclapinedgiaaGreatDoor
