/- Contract: Rank of package isa. -/
import Derived.Test.YtdkclapinedgiaaGreatDoorD3
namespace Go.Proofs.YtdkclapinedgiaaGreatDoor
open Go.RowKit
attribute [local go_sem] idx103_0 idx103_1 idx103_2 idx103_3 idx103_4 idx103_5

def ownStep (n m a : Int) : Int := IntKind.u64.wrap (IntKind.u64.wrap (n * m) + a)
/-- The number of an instruction among those of its operation. -/
def ownOf (r : Room) (x : Insn) : Int :=
  ownStep (ownStep (ownStep (ownStep (ownStep (IntKind.u64.wrap (atOf r x 0)) (manyOf r 1) (atOf r x 1)) (manyOf r 2) (atOf r x 2)) (manyOf r 3) (atOf r x 3)) (manyOf r 4) (atOf r x 4)) (manyOf r 5) (atOf r x 5)
/-- The number of an instruction. -/
def rankOf (x : Insn) : Int := IntKind.u64.wrap (belowOf x.op.toNat + ownOf (roomOf x.op) x)
def RankPost (w : World) (x : Insn) (e : Ending) (w' : World) : Prop := e = .returned (.tuple #[.int .u64 (if x.valid then rankOf x else 0), .int .i64 (if x.valid then 0 else 6)]) ∧ Below w.heap.size w w'

set_option maxRecDepth 100000 in
set_option maxHeartbeats 4000000 in
theorem rank_no (x : Insn) (w : World) (h0 : -9223372036854775808 ≤ x.k) (h1 : x.k ≤ 9223372036854775807) (hv : x.valid = false) : Calls Tryz.prog 22 #[.agg x.cs] w (RankPost w x) := by
  have hh := Lib.hid (fun r W => has_any r x W h0 h1)
  have HV := Lib.hid hv
  have hV : (opnd x.op).2 = false ∨ (opnd x.op).2 = true ∧ (roomOf x.op).has x = false := by
    unfold Insn.valid at hv; cases h : (opnd x.op).2 <;> simp_all
  unfold Insn.cs at hh ⊢
  clear h0 h1 hv
  rcases hV with ho | ⟨ho, hx⟩
  · go_enter Tryz.func22, Tryz.ntmps22
    go_wp2_with (first
      | (go_at_call 71; refine (fields_any _ _).mono ?_; rintro e w1 ⟨rfl, hb⟩; obtain ⟨hc, hf⟩ := bcell hb; have hz : w.heap.size < w1.heap.size := by { have := hb.size; (try simp at this); omega }; unfold Room.cs))
    go_ret2
    exact ⟨by rw [HV.out]; rfl, (((Below.refl _ w).alloc (Nat.le_refl _) _).call hb (by simp)).alloc (by omega) _⟩
  · go_enter Tryz.func22, Tryz.ntmps22
    go_wp2_with (first
      | (go_at_call 71; refine (fields_any _ _).mono ?_; rintro e w1 ⟨rfl, hb⟩; obtain ⟨hc, hf⟩ := bcell hb; have hz : w.heap.size < w1.heap.size := by { have := hb.size; (try simp at this); omega }; unfold Room.cs)
      | (go_at_call 72; refine (hh.out _ _).mono ?_; rintro e w2 ⟨rfl, hb2⟩))
    go_ret2
    exact ⟨by rw [HV.out]; rfl, ((((Below.refl _ w).alloc (Nat.le_refl _) _).call hb (by simp)).alloc (by omega) _).call hb2 (by simp; omega)⟩

set_option maxRecDepth 100000 in
set_option maxHeartbeats 4000000 in
theorem rank_yes (x : Insn) (w : World) (hv : x.valid = true) (i1 : 0 ≤ x.i) (i2 : x.i < 4294967296) : Calls Tryz.prog 22 #[.agg x.cs] w (RankPost w x) := by
  have ok := Insn.ok hv
  have hh := Lib.hid (fun r W => has_any r x W (by have := ok.k; omega) (by have := ok.k; omega))
  have HV := Lib.hid hv
  have ho := ok.is
  have hx : (roomOf x.op).has x = true := by unfold Insn.valid at hv; simp_all
  have hd := Lib.hid (fun W => digits_any (roomOf x.op) x W (room_in x.op) ⟨ok.a, ok.b, ok.c, ok.d, ok.k, ⟨i1, i2⟩⟩)
  have hbl := Lib.hid (show ∀ W, Calls Tryz.prog 74 #[.int .i64 x.op] W (BelowPost W x.op.toNat) from fun W => by have h := below_any x.op.toNat W (by have := ok.op; omega); rwa [show ((x.op.toNat : Nat) : Int) = x.op from by have := ok.op; omega] at h)
  unfold Insn.cs at hh hd ⊢
  clear hv ok
  go_enter Tryz.func22, Tryz.ntmps22
  go_wp2_with (first
      | (go_at_call 71; refine (fields_any _ _).mono ?_; rintro e w1 ⟨rfl, hb⟩; obtain ⟨hc, hf⟩ := bcell hb; have hz : w.heap.size < w1.heap.size := by { have := hb.size; (try simp at this); omega }; unfold Room.cs)
      | (go_at_call 72; refine (hh.out _ _).mono ?_; rintro e w2 ⟨rfl, hb2⟩; obtain ⟨hc2, hf2⟩ := bcell hb2; have hz2 : w.heap.size < w2.heap.size := by { have := hb2.size; (try simp at this); omega }; have hz3 : w1.heap.size < w2.heap.size := by { have := hb2.size; (try simp at this); omega })
      | (go_at_call 73; refine (hd.out _).mono ?_; rintro e w3 ⟨rfl, hb3⟩; obtain ⟨hc3, hf3⟩ := bcell hb3; have hz4 : w.heap.size < w3.heap.size := by { have := hb3.size; (try simp at this); omega }; have hy1 : w.heap.size < w3.heap.size + 1 := (by omega); have hy2 : w.heap.size < w3.heap.size + 1 + 1 := (by omega); have hy3 : w.heap.size < w3.heap.size + 1 + 1 + 1 := (by omega); have hy4 : w.heap.size < w3.heap.size + 1 + 1 + 1 + 1 := (by omega); have hy5 : w.heap.size < w3.heap.size + 1 + 1 + 1 + 1 + 1 := (by omega); unfold digVals))
  refine wp_loop_rounds 7 ?_
  iterate 7 (rw [rounds_succ]; go_wp2_with (first | (go_at_call 74; refine (hbl.out _).mono ?_; rintro e w4 ⟨rfl, hb4⟩)))
  go_ret2
  have h1 := hb2.size
  have h3 := hb3.size
  simp only [World.size_alloc] at h1
  refine ⟨by rw [HV.out]; simp only [if_true]; unfold rankOf ownOf ownStep; rfl, ?_⟩
  have B1 := ((((Below.refl _ w).alloc (Nat.le_refl _) _).call hb (by simp)).alloc (by omega) (.cells #[.int .i64 (roomOf x.op).a, .int .i64 (roomOf x.op).b, .int .i64 (roomOf x.op).c, .int .i64 (roomOf x.op).d, .bool (roomOf x.op).k, .bool (roomOf x.op).i] 98)).call hb2 (by simp; omega)
  have B3 := B1.call hb3 (by omega)
  exact ((((((B3.alloc (by omega) _).alloc (by simp only [World.size_alloc]; omega) _).alloc (by simp only [World.size_alloc]; omega) _).alloc (by simp only [World.size_alloc]; omega) _).alloc (by simp only [World.size_alloc]; omega) _).alloc (by simp only [World.size_alloc]; omega) _).call hb4 (by simp only [World.size_alloc]; omega)

theorem rank_any (x : Insn) (w : World) (h0 : -9223372036854775808 ≤ x.k) (h1 : x.k ≤ 9223372036854775807) (i1 : 0 ≤ x.i) (i2 : x.i < 4294967296) : Calls Tryz.prog 22 #[.agg x.cs] w (RankPost w x) := by
  cases hv : x.valid
  · exact rank_no x w h0 h1 hv
  · exact rank_yes x w hv i1 i2
end Go.Proofs.YtdkclapinedgiaaGreatDoor
