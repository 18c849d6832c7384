/- Contract: rank of the law's package, where it is true. -/
import Derived.Test.YtdkclapinedgiaaGreatDoorD4
import Derived.Test.YtdkclapinedgiaaGreatDoorD5
namespace Go.Proofs.YtdkclapinedgiaaGreatDoor
open Go.RowKit

set_option maxRecDepth 100000 in
set_option maxHeartbeats 4000000 in
theorem rank_true (x : Insn) (n : Int) (w : World) (hv : x.valid = true) (i1 : 0 ≤ x.i) (i2 : x.i < 4294967296) (n0 : 0 ≤ n) (n1 : n < 18446744073709551616) (h1 : rankOf x = n) (h2 : unrankOf n = (x, 0)) :
    Calls Tryz.prog 55 #[.agg x.cs, .int .u64 n] w fun e w' => e = .returned (.bool true) ∧ Below w.heap.size w w' := by
  have hr := Lib.hid (show ∀ W, Calls Tryz.prog 22 #[.agg x.cs] W fun e w' => e = .returned (.tuple #[.int .u64 n, .int .i64 0]) ∧ Below W.heap.size W w' from fun W => by
    have h := rank_yes x W hv i1 i2
    unfold RankPost at h
    rw [hv, h1] at h
    exact h)
  have hu := Lib.hid (show ∀ W, Calls Tryz.prog 24 #[.int .u64 n] W fun e w' => e = .returned (.tuple #[.agg x.cs, .int .i64 0]) ∧ Below W.heap.size W w' from fun W => by
    have h := unrank_any n W n0 n1
    unfold UnrankPost at h
    rw [h2] at h
    exact h)
  clear hv i1 i2 n0 n1 h1 h2
  unfold Insn.cs at hr hu ⊢
  go_enter Tryz.func55, Tryz.ntmps55
  go_wp2_with (first
    | (go_at_call 22; refine (hr.out _).mono ?_; rintro e w1 ⟨rfl, hb1⟩; obtain ⟨hc1, hf1⟩ := bcell hb1; have hz1 : w.heap.size < w1.heap.size := by { have := hb1.size; simp at this; omega })
    | (go_at_call 24; refine (hu.out _).mono ?_; rintro e w2 ⟨rfl, hb2⟩; obtain ⟨hc2, hf2⟩ := bcell hb2; have hz2 : w.heap.size < w2.heap.size := by { have := hb2.size; omega }))
  go_ways
  go_ret
  exact ⟨rfl, ((((Below.refl _ w).alloc (Nat.le_refl _) _).call hb1 (by simp)).call hb2 (by omega)).alloc (by omega) _⟩
end Go.Proofs.YtdkclapinedgiaaGreatDoor
