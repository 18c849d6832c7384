/- Contracts: Decode of package isa: too few bytes of eight. -/
import Derived.Test.YtdkclapinedgiaaGreatDoorC5
namespace Go.Proofs.YtdkclapinedgiaaGreatDoor
open Go.RowKit

set_option maxRecDepth 100000 in
set_option maxHeartbeats 4000000 in
theorem decode_long_few (b off n c : Nat) (x0 x1 x2 x3 : Int) (l : List Int) (w : World) (hn : 4 ≤ n) (hn8 : n < 8) (hl : l.length + 4 = n) (h0 : 64 ≤ x0 ∧ x0 < 256) (h1 : 0 ≤ x1 ∧ x1 < 256) (h2 : 0 ≤ x2 ∧ x2 < 256) (h3 : 0 ≤ x3 ∧ x3 < 256)
    (g0 : w.cell? ⟨b, off, none⟩ = some (.int .u8 x0)) (g1 : w.cell? ⟨b, off + 1, none⟩ = some (.int .u8 x1)) (g2 : w.cell? ⟨b, off + 2, none⟩ = some (.int .u8 x2)) (g3 : w.cell? ⟨b, off + 3, none⟩ = some (.int .u8 x3)) (_hb : b < w.heap.size) :
    Calls Tryz.prog 29 #[.slice (some ⟨b, off, none⟩) n c] w (DecPost w (x0 :: x1 :: x2 :: x3 :: l)) := by
  have e : decode (x0 :: x1 :: x2 :: x3 :: l) = (insn0, 0, 6) := by
    simp only [decode]
    rw [if_neg (by omega)]
    match l, hl with
    | [], _ => rfl
    | [_], _ => rfl
    | [_, _], _ => rfl
    | [_, _, _], _ => rfl
    | _ :: _ :: _ :: _ :: _, h => simp at h; omega
  have E := Lib.hid e
  clear e hl
  have q0 := Lib.hid (wrap_b x0 (by omega))
  have q3 := Lib.hid (wrap_i8 x3 h3)
  have q4 := Lib.hid (wrap_s8' x3 h3)
  have q1 := Lib.hid (and15 x1 h1)
  have q2 := Lib.hid (and15 x2 h2)
  have q5 := Lib.hid (wrap_d16 x1 h1)
  have q6 := Lib.hid (wrap_d16 x2 h2)
  obtain ⟨a0, b0⟩ := h0
  obtain ⟨a1, b1⟩ := h1
  obtain ⟨a2, b2⟩ := h2
  obtain ⟨a3, b3⟩ := h3
  have l4 : (4 : Int) ≤ n := by omega
  have i0 : (0 : Int) < n := by omega
  have j0 : 0 < n := by omega
  have i1 : (1 : Int) < n := by omega
  have i2 : (2 : Int) < n := by omega
  have i3 : (3 : Int) < n := by omega
  have l8 : (n : Int) < 8 := by omega
  go_enter Tryz.func29, Tryz.ntmps29
  go_wp2
  go_region_held3 (fun w' => w'.cell? ⟨b, off, none⟩ = some (.int .u8 x0) ∧ w'.cell? ⟨b, off + 1, none⟩ = some (.int .u8 x1) ∧ w'.cell? ⟨b, off + 2, none⟩ = some (.int .u8 x2) ∧ w'.cell? ⟨b, off + 3, none⟩ = some (.int .u8 x3)) (go_keep) (first | fail)
  simp only [q0.out, q3.out, q4.out, q1.out, q2.out, q5.out, q6.out]
  have hB : Below w.heap.size w (((w.alloc (.cells insn0.cs 24)).alloc (.cells (dec4 x0 x1 x2 x3 0).cs 24)).drew) := (((Below.refl _ w).alloc (Nat.le_refl _) _).alloc (by simp) _).drew
  have hK : Blk (((w.alloc (.cells insn0.cs 24)).alloc (.cells (dec4 x0 x1 x2 x3 0).cs 24)).drew) w.heap.size 24 insn0.cs := ((Blk.new w 24 _).alloc _).drew
  have HB := Lib.hid hB
  have HK := Lib.hid hK
  clear hB hK
  go_wp2
  exact bodyPost_ret (results_24_3 (c0 := .int .i64 0) (c1 := .int .i64 0) (c2 := .int .i64 0) (c3 := .int .i64 0) (c4 := .int .i64 0) (c5 := .int .i64 0) (c6 := .int .u32 0) Tryz.results29 rfl HK.out) rfl ⟨by rw [E.out]; rfl, HB.out⟩
end Go.Proofs.YtdkclapinedgiaaGreatDoor
