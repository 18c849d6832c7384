/- Contracts: digits of package isa. -/
import Derived.Test.YtdkclapinedgiaaGreatDoorC3
import Derived.Test.YtdkclapinedgiaaGreatDoorWords3
import Derived.Handy
namespace Go.Proofs.YtdkclapinedgiaaGreatDoor
open Go.RowKit

/-- The digits of an instruction, and how many values each has. -/
def digs (r : Room) (x : Insn) : List Int :=
  [x.a, r.a + 1, x.b, r.b + 1, x.c, r.c + 1, x.d, r.d + 1, if r.k then x.k + 128 else 0, if r.k then 256 else 1, if r.i then x.i else 0, if r.i then 4294967296 else 1]
structure Room.In (r : Room) : Prop where
  a : 0 ≤ r.a ∧ r.a ≤ 15
  b : 0 ≤ r.b ∧ r.b ≤ 15
  c : 0 ≤ r.c ∧ r.c ≤ 15
  d : 0 ≤ r.d ∧ r.d ≤ 15
structure Insn.In16 (x : Insn) : Prop where
  a : 0 ≤ x.a ∧ x.a ≤ 15
  b : 0 ≤ x.b ∧ x.b ≤ 15
  c : 0 ≤ x.c ∧ x.c ≤ 15
  d : 0 ≤ x.d ∧ x.d ≤ 15
  k : -128 ≤ x.k ∧ x.k ≤ 127
  i : 0 ≤ x.i ∧ x.i < 4294967296

/-- Digit j of an instruction; how many values it has. -/
def atOf (r : Room) (x : Insn) (j : Nat) : Int := (digs r x).getD (2 * j) 0
def manyOf (r : Room) (j : Nat) : Int := (digs r ⟨0, 0, 0, 0, 0, 0, 0⟩).getD (2 * j + 1) 0
def digVals (r : Room) (x : Insn) : Array Value :=
  #[.int .u64 (atOf r x 0), .int .u64 (manyOf r 0), .int .u64 (atOf r x 1), .int .u64 (manyOf r 1), .int .u64 (atOf r x 2), .int .u64 (manyOf r 2),
    .int .u64 (atOf r x 3), .int .u64 (manyOf r 3), .int .u64 (atOf r x 4), .int .u64 (manyOf r 4), .int .u64 (atOf r x 5), .int .u64 (manyOf r 5)]
theorem digs_vals (r : Room) (x : Insn) : ((digs r x).map (Value.int .u64)).toArray = digVals r x := rfl
def DigitsPost (w : World) (r : Room) (x : Insn) (e : Ending) (w' : World) : Prop := e = .returned (.agg (digVals r x)) ∧ Below w.heap.size w w'


set_option maxRecDepth 100000 in
set_option maxHeartbeats 4000000 in
theorem digits_ff (ra rb rc rd op a b c d k i : Int) (w : World) (ra1 : 0 ≤ ra) (ra2 : ra ≤ 15) (rb1 : 0 ≤ rb) (rb2 : rb ≤ 15) (rc1 : 0 ≤ rc) (rc2 : rc ≤ 15) (rd1 : 0 ≤ rd) (rd2 : rd ≤ 15)
    (a1 : 0 ≤ a) (a2 : a ≤ 15) (b1 : 0 ≤ b) (b2 : b ≤ 15) (c1 : 0 ≤ c) (c2 : c ≤ 15) (d1 : 0 ≤ d) (d2 : d ≤ 15) (_k1 : -128 ≤ k) (_k2 : k ≤ 127) (_i1 : 0 ≤ i) (_i2 : i < 4294967296) :
    Calls Tryz.prog 73 #[.agg (Room.cs ⟨ra, rb, rc, rd, false, false⟩), .agg (Insn.cs ⟨op, a, b, c, d, k, i⟩)] w (DigitsPost w ⟨ra, rb, rc, rd, false, false⟩ ⟨op, a, b, c, d, k, i⟩) := by
  unfold Room.cs Insn.cs
  dsimp only
  go_enter Tryz.func73, Tryz.ntmps73
  go_wp2
  go_rounds 7
  refine bodyPost_ret (v := .agg ((digs ⟨ra, rb, rc, rd, false, false⟩ ⟨op, a, b, c, d, k, i⟩).map (Value.int .u64)).toArray) (by simp [results, Tryz.results73, go_sem, digs]; done) rfl ⟨by rw [digs_vals], ?_⟩
  exact ((((Below.refl _ w).alloc (Nat.le_refl _) _).alloc (by simp) _).alloc (by simp; omega) _).alloc (by simp; omega) _

set_option maxRecDepth 100000 in
set_option maxHeartbeats 4000000 in
theorem digits_ft (ra rb rc rd op a b c d k i : Int) (w : World) (ra1 : 0 ≤ ra) (ra2 : ra ≤ 15) (rb1 : 0 ≤ rb) (rb2 : rb ≤ 15) (rc1 : 0 ≤ rc) (rc2 : rc ≤ 15) (rd1 : 0 ≤ rd) (rd2 : rd ≤ 15)
    (a1 : 0 ≤ a) (a2 : a ≤ 15) (b1 : 0 ≤ b) (b2 : b ≤ 15) (c1 : 0 ≤ c) (c2 : c ≤ 15) (d1 : 0 ≤ d) (d2 : d ≤ 15) (_k1 : -128 ≤ k) (_k2 : k ≤ 127) (i1 : 0 ≤ i) (i2 : i < 4294967296) :
    Calls Tryz.prog 73 #[.agg (Room.cs ⟨ra, rb, rc, rd, false, true⟩), .agg (Insn.cs ⟨op, a, b, c, d, k, i⟩)] w (DigitsPost w ⟨ra, rb, rc, rd, false, true⟩ ⟨op, a, b, c, d, k, i⟩) := by
  unfold Room.cs Insn.cs
  dsimp only
  go_enter Tryz.func73, Tryz.ntmps73
  go_wp2
  go_rounds 7
  refine bodyPost_ret (v := .agg ((digs ⟨ra, rb, rc, rd, false, true⟩ ⟨op, a, b, c, d, k, i⟩).map (Value.int .u64)).toArray) (by simp [results, Tryz.results73, go_sem, digs]; done) rfl ⟨by rw [digs_vals], ?_⟩
  exact ((((Below.refl _ w).alloc (Nat.le_refl _) _).alloc (by simp) _).alloc (by simp; omega) _).alloc (by simp; omega) _

set_option maxRecDepth 100000 in
set_option maxHeartbeats 4000000 in
theorem digits_tf (ra rb rc rd op a b c d k i : Int) (w : World) (ra1 : 0 ≤ ra) (ra2 : ra ≤ 15) (rb1 : 0 ≤ rb) (rb2 : rb ≤ 15) (rc1 : 0 ≤ rc) (rc2 : rc ≤ 15) (rd1 : 0 ≤ rd) (rd2 : rd ≤ 15)
    (a1 : 0 ≤ a) (a2 : a ≤ 15) (b1 : 0 ≤ b) (b2 : b ≤ 15) (c1 : 0 ≤ c) (c2 : c ≤ 15) (d1 : 0 ≤ d) (d2 : d ≤ 15) (k1 : -128 ≤ k) (k2 : k ≤ 127) (_i1 : 0 ≤ i) (_i2 : i < 4294967296) :
    Calls Tryz.prog 73 #[.agg (Room.cs ⟨ra, rb, rc, rd, true, false⟩), .agg (Insn.cs ⟨op, a, b, c, d, k, i⟩)] w (DigitsPost w ⟨ra, rb, rc, rd, true, false⟩ ⟨op, a, b, c, d, k, i⟩) := by
  unfold Room.cs Insn.cs
  dsimp only
  go_enter Tryz.func73, Tryz.ntmps73
  go_wp2
  go_rounds 7
  refine bodyPost_ret (v := .agg ((digs ⟨ra, rb, rc, rd, true, false⟩ ⟨op, a, b, c, d, k, i⟩).map (Value.int .u64)).toArray) (by simp [results, Tryz.results73, go_sem, digs]; done) rfl ⟨by rw [digs_vals], ?_⟩
  exact ((((Below.refl _ w).alloc (Nat.le_refl _) _).alloc (by simp) _).alloc (by simp; omega) _).alloc (by simp; omega) _

set_option maxRecDepth 100000 in
set_option maxHeartbeats 4000000 in
theorem digits_tt (ra rb rc rd op a b c d k i : Int) (w : World) (ra1 : 0 ≤ ra) (ra2 : ra ≤ 15) (rb1 : 0 ≤ rb) (rb2 : rb ≤ 15) (rc1 : 0 ≤ rc) (rc2 : rc ≤ 15) (rd1 : 0 ≤ rd) (rd2 : rd ≤ 15)
    (a1 : 0 ≤ a) (a2 : a ≤ 15) (b1 : 0 ≤ b) (b2 : b ≤ 15) (c1 : 0 ≤ c) (c2 : c ≤ 15) (d1 : 0 ≤ d) (d2 : d ≤ 15) (k1 : -128 ≤ k) (k2 : k ≤ 127) (i1 : 0 ≤ i) (i2 : i < 4294967296) :
    Calls Tryz.prog 73 #[.agg (Room.cs ⟨ra, rb, rc, rd, true, true⟩), .agg (Insn.cs ⟨op, a, b, c, d, k, i⟩)] w (DigitsPost w ⟨ra, rb, rc, rd, true, true⟩ ⟨op, a, b, c, d, k, i⟩) := by
  unfold Room.cs Insn.cs
  dsimp only
  go_enter Tryz.func73, Tryz.ntmps73
  go_wp2
  go_rounds 7
  refine bodyPost_ret (v := .agg ((digs ⟨ra, rb, rc, rd, true, true⟩ ⟨op, a, b, c, d, k, i⟩).map (Value.int .u64)).toArray) (by simp [results, Tryz.results73, go_sem, digs]; done) rfl ⟨by rw [digs_vals], ?_⟩
  exact ((((Below.refl _ w).alloc (Nat.le_refl _) _).alloc (by simp) _).alloc (by simp; omega) _).alloc (by simp; omega) _

theorem digits_any (r : Room) (x : Insn) (w : World) (hr : r.In) (hx : x.In16) : Calls Tryz.prog 73 #[.agg r.cs, .agg x.cs] w (DigitsPost w r x) := by
  obtain ⟨ra, rb, rc, rd, rk, ri⟩ := r
  obtain ⟨op, a, b, c, d, k, i⟩ := x
  obtain ⟨⟨ra1, ra2⟩, ⟨rb1, rb2⟩, ⟨rc1, rc2⟩, ⟨rd1, rd2⟩⟩ := hr
  obtain ⟨⟨a1, a2⟩, ⟨b1, b2⟩, ⟨c1, c2⟩, ⟨d1, d2⟩, ⟨k1, k2⟩, ⟨i1, i2⟩⟩ := hx
  cases rk <;> cases ri
  · exact digits_ff ra rb rc rd op a b c d k i w ra1 ra2 rb1 rb2 rc1 rc2 rd1 rd2 a1 a2 b1 b2 c1 c2 d1 d2 k1 k2 i1 i2
  · exact digits_ft ra rb rc rd op a b c d k i w ra1 ra2 rb1 rb2 rc1 rc2 rd1 rd2 a1 a2 b1 b2 c1 c2 d1 d2 k1 k2 i1 i2
  · exact digits_tf ra rb rc rd op a b c d k i w ra1 ra2 rb1 rb2 rc1 rc2 rd1 rd2 a1 a2 b1 b2 c1 c2 d1 d2 k1 k2 i1 i2
  · exact digits_tt ra rb rc rd op a b c d k i w ra1 ra2 rb1 rb2 rc1 rc2 rd1 rd2 a1 a2 b1 b2 c1 c2 d1 d2 k1 k2 i1 i2
end Go.Proofs.YtdkclapinedgiaaGreatDoor
