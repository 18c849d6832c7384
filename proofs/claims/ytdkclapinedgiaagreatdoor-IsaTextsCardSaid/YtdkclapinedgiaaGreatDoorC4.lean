/- Contracts: Encode of package isa. -/
import Derived.Test.YtdkclapinedgiaaGreatDoorC3
namespace Go.Proofs.YtdkclapinedgiaaGreatDoor
open Go.RowKit

set_option maxHeartbeats 4000000 in
theorem encode_no (x : Insn) (w : World) (h0 : -9223372036854775808 ≤ x.k) (h1 : x.k ≤ 9223372036854775807) (hv : x.valid = false) :
    Calls Tryz.prog 28 #[.agg x.cs] w fun e w' => e = .returned (.tuple #[.slice none 0 0, .int .i64 6]) ∧ Below w.heap.size w w' := by
  have hh := Lib.hid (fun W => valid_any x W h0 h1)
  unfold Insn.cs at hh ⊢
  clear h0 h1
  go_enter Tryz.func28, Tryz.ntmps28
  go_wp2_with (go_at_call 56; refine (hh.out _).mono ?_; rintro e w2 ⟨rfl, hb2⟩)
  all_goals
    go_ret2
    exact ⟨rfl, ((Below.refl _ w).alloc (Nat.le_refl _) _).call hb2 (by simp)⟩

theorem or16 (a b : Int) (a1 : 0 ≤ a) (a2 : a ≤ 15) (b1 : 0 ≤ b) (b2 : b ≤ 15) : bits BinOp.or .i64 a (b * 16) % 256 = a + 16 * b := by
  obtain ⟨m, rfl⟩ : ∃ m : Nat, a = m := ⟨a.toNat, by omega⟩
  obtain ⟨n, rfl⟩ : ∃ n : Nat, b = n := ⟨b.toNat, by omega⟩
  have h : ∀ m, m < 16 → ∀ n, n < 16 → bits BinOp.or .i64 ((m : Nat) : Int) (((n : Nat) : Int) * 16) % 256 = (m : Int) + 16 * n := by decide +kernel
  exact h m (by omega) n (by omega)

theorem Tryz.info5 : (Tryz.prog.info? 5).map (fun i => (i.zero, i.size, i.bytes)) = some (some (.int .u8 0), 1, 1) := by kernel_rfl

def EncPost (w : World) (x : Insn) (n : Nat) (e : Ending) (w' : World) : Prop :=
  (∃ v, e = .returned (.tuple #[v, .int .i64 0]) ∧ w'.ownsRow w.heap.size 5 1 v n (x.bytes.map (.int .u8))) ∧ Below w.heap.size w w'

set_option maxHeartbeats 4000000 in
theorem encode_short (x : Insn) (w : World) (hv : x.valid = true) (hl : x.op < 64) :
    Calls Tryz.prog 28 #[.agg x.cs] w (EncPost w x 4) := by
  have ok := Insn.ok hv
  have hh := Lib.hid (fun W => valid_any x W (by have := ok.k; omega) (by have := ok.k; omega))
  obtain ⟨_, ⟨o1, o2, o3⟩, ⟨a1, a2⟩, ⟨b1, b2⟩, ⟨c1, c2⟩, ⟨d1, d2⟩, ⟨k1, k2⟩⟩ := ok
  have r1 := Lib.hid (or16 x.a x.b a1 a2 b1 b2)
  have r2 := Lib.hid (or16 x.c x.d c1 c2 d1 d2)
  unfold Insn.cs at hh ⊢
  go_enter Tryz.func28, Tryz.ntmps28
  go_wp2_with (go_at_call 56; refine (hh.out _).mono ?_; rintro e w2 ⟨rfl, hb2⟩; obtain ⟨hc, hf⟩ := bcell hb2; have hz : w.heap.size < w2.heap.size := by { have := hb2.size; simp at this; omega })
  go_ret2
  have hB := ((((Below.refl _ w).alloc (Nat.le_refl _) _).call hb2 (by simp)).alloc (by omega) (.cells #[.int .u8 x.op, .int .u8 (bits BinOp.or IntKind.i64 x.a (x.b * 16) % 256), .int .u8 (bits BinOp.or IntKind.i64 x.c (x.d * 16) % 256), .int .u8 (x.k % 256)] 5))
  refine ⟨⟨_, rfl, ?_⟩, hB⟩
  have h := own_of_blk (n := 4) (size := 1) (base := w.heap.size) (Blk.new w2 5 #[.int .u8 x.op, .int .u8 (bits BinOp.or IntKind.i64 x.a (x.b * 16) % 256), .int .u8 (bits BinOp.or IntKind.i64 x.c (x.d * 16) % 256), .int .u8 (x.k % 256)]) (by omega) rfl (by decide)
  have e : x.bytes = [x.op, x.a + 16 * x.b, x.c + 16 * x.d, x.k % 256] := by simp [Insn.bytes]; omega
  rw [e]
  rw [r1.out, r2.out] at h ⊢
  exact h

set_option maxRecDepth 100000 in
set_option maxHeartbeats 4000000 in
theorem encode_long (x : Insn) (w : World) (hv : x.valid = true) (hl : 64 ≤ x.op) (i1 : 0 ≤ x.i) (i2 : x.i < 4294967296) :
    Calls Tryz.prog 28 #[.agg x.cs] w (EncPost w x 8) := by
  have ok := Insn.ok hv
  have hh := Lib.hid (fun W => valid_any x W (by have := ok.k; omega) (by have := ok.k; omega))
  obtain ⟨_, ⟨o1, o2, o3⟩, ⟨a1, a2⟩, ⟨b1, b2⟩, ⟨c1, c2⟩, ⟨d1, d2⟩, ⟨k1, k2⟩⟩ := ok
  have r1 := Lib.hid (or16 x.a x.b a1 a2 b1 b2)
  have r2 := Lib.hid (or16 x.c x.d c1 c2 d1 d2)
  obtain ⟨i0, hi, hz0, hz1, hz2⟩ := info_parts Tryz.info5
  unfold Insn.cs at hh ⊢
  go_enter Tryz.func28, Tryz.ntmps28
  go_wp2_with (first
    | (go_at_call 56; refine (hh.out _).mono ?_; rintro e w2 ⟨rfl, hb2⟩; obtain ⟨hc, hf⟩ := bcell hb2; have hz : w.heap.size < w2.heap.size := by { have := hb2.size; simp at this; omega })
    | (at_builtin; refine wpList_append_own _ rfl _ _ 44 rfl w.heap.size 5 i0 (.int .u8 0) 1 1 Tryz.underlying44 hi hz0 hz1 hz2 rfl (by decide) (.slice (some ⟨w2.heap.size, 0, none⟩) 4 4) 4 [.int .u8 x.op, .int .u8 (bits BinOp.or IntKind.i64 x.a (x.b * 16) % 256), .int .u8 (bits BinOp.or IntKind.i64 x.c (x.d * 16) % 256), .int .u8 (x.k % 256)] rfl ?hown ⟨w2.heap.size + 1, 0, none⟩ 4 4 [.int .u8 (x.i % 256), .int .u8 (x.i / 256 % 256), .int .u8 (x.i / 65536 % 256), .int .u8 (x.i / 16777216)] rfl rfl ?c1 ?c2 (by decide) (by decide) (by simp; omega) ?_
       case hown => exact World.ownsRow.alloc (own_of_blk (n := 4) (size := 1) (Blk.new w2 5 #[.int .u8 x.op, .int .u8 (bits BinOp.or IntKind.i64 x.a (x.b * 16) % 256), .int .u8 (bits BinOp.or IntKind.i64 x.c (x.d * 16) % 256), .int .u8 (x.k % 256)]) (by omega) rfl (by decide)) _
       case c1 => exact cells_of_blk (blk_at _ _ _ _ (by simp)) _ rfl
       case c2 => simp [Value.oneCell']
       intro v' w3 hown hgrow _))
  go_ret2
  refine ⟨⟨_, rfl, ?_⟩, ?_⟩
  · have e : x.bytes = [x.op, x.a + 16 * x.b, x.c + 16 * x.d, x.k % 256] ++ [x.i % 256, x.i / 256 % 256, x.i / 65536 % 256, x.i / 16777216] := by unfold Insn.bytes; rw [if_pos hl, show x.i / 16777216 % 256 = x.i / 16777216 from by omega]
    rw [e]
    rw [r1.out, r2.out] at hown
    exact hown
  · exact (((((Below.refl _ w).alloc (Nat.le_refl _) _).call hb2 (by simp)).alloc (by omega) _).alloc (by simp; omega) _).grown hgrow (by simp; omega) (by intro k hk; simp [Value.ownBlock] at hk; omega)
end Go.Proofs.YtdkclapinedgiaaGreatDoor
