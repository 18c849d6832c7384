/- Contracts: Decode of package isa, instructions of eight bytes. -/
import Derived.Test.YtdkclapinedgiaaGreatDoorC5
namespace Go.Proofs.YtdkclapinedgiaaGreatDoor
open Go.RowKit

theorem u32_or_add (a b : Int) (k : Nat) (ha : 0 ≤ a) (hak : a < 2 ^ k) (hb : 0 ≤ b) (h : a + b * 2 ^ k < 4294967296) : bits .or .u32 a (b * 2 ^ k) = a + b * 2 ^ k := by
  obtain ⟨m, rfl⟩ : ∃ m : Nat, a = m := ⟨a.toNat, by omega⟩
  obtain ⟨n, rfl⟩ : ∃ n : Nat, b = n := ⟨b.toNat, by omega⟩
  have e : ((n : Int) * 2 ^ k) = ((2 ^ k * n : Nat) : Int) := by push_cast; rw [Int.mul_comm]
  rw [e] at h ⊢
  have hm : m < 2 ^ k := by exact_mod_cast hak
  rw [u32_or_nat m _ (by omega) (by omega), Nat.or_comm, ← Nat.two_pow_add_eq_or_of_lt hm]
  push_cast; omega
theorem u32_le (y0 y1 y2 y3 : Int) (k0 : 0 ≤ y0 ∧ y0 < 256) (k1 : 0 ≤ y1 ∧ y1 < 256) (k2 : 0 ≤ y2 ∧ y2 < 256) (k3 : 0 ≤ y3 ∧ y3 < 256) :
    (bits BinOp.or IntKind.u32 (bits BinOp.or IntKind.u32 (bits BinOp.or IntKind.u32 (IntKind.u32.wrap y0) (IntKind.u32.wrap (IntKind.u32.wrap y1 * 256))) (IntKind.u32.wrap (IntKind.u32.wrap y2 * 65536))) (IntKind.u32.wrap (IntKind.u32.wrap y3 * 16777216)))
      = y0 + 256 * y1 + 65536 * y2 + 16777216 * y3 := by
  have w : ∀ x : Int, 0 ≤ x → x < 4294967296 → IntKind.u32.wrap x = x := fun x h1 h2 => by simp [IntKind.wrap, IntKind.signed, IntKind.bits]; omega
  rw [w y0 (by omega) (by omega), w y1 (by omega) (by omega), w y2 (by omega) (by omega), w y3 (by omega) (by omega), w (y1 * 256) (by omega) (by omega), w (y2 * 65536) (by omega) (by omega), w (y3 * 16777216) (by omega) (by omega)]
  have e1 := u32_or_add y0 y1 8 (by omega) (by omega) (by omega) (by omega)
  have e2 := u32_or_add (y0 + y1 * 256) y2 16 (by omega) (by omega) (by omega) (by omega)
  have e3 := u32_or_add (y0 + y1 * 256 + y2 * 65536) y3 24 (by omega) (by omega) (by omega) (by omega)
  rw [show (2 : Int) ^ 8 = 256 from by decide] at e1
  rw [show (2 : Int) ^ 16 = 65536 from by decide] at e2
  rw [show (2 : Int) ^ 24 = 16777216 from by decide] at e3
  rw [e1, e2, e3]; omega

set_option maxRecDepth 100000 in
set_option maxHeartbeats 4000000 in
theorem decode_long (b off n c : Nat) (x0 x1 x2 x3 y0 y1 y2 y3 : Int) (l : List Int) (w : World) (hn : 8 ≤ n) (h0 : 64 ≤ x0 ∧ x0 < 256) (h1 : 0 ≤ x1 ∧ x1 < 256) (h2 : 0 ≤ x2 ∧ x2 < 256) (h3 : 0 ≤ x3 ∧ x3 < 256) (k0 : 0 ≤ y0 ∧ y0 < 256) (k1 : 0 ≤ y1 ∧ y1 < 256) (k2 : 0 ≤ y2 ∧ y2 < 256) (k3 : 0 ≤ y3 ∧ y3 < 256)
    (g0 : w.cell? ⟨b, off, none⟩ = some (.int .u8 x0)) (g1 : w.cell? ⟨b, off + 1, none⟩ = some (.int .u8 x1)) (g2 : w.cell? ⟨b, off + 2, none⟩ = some (.int .u8 x2)) (g3 : w.cell? ⟨b, off + 3, none⟩ = some (.int .u8 x3)) 
    (g4 : w.cell? ⟨b, off + 4, none⟩ = some (.int .u8 y0)) (g5 : w.cell? ⟨b, off + 5, none⟩ = some (.int .u8 y1)) (g6 : w.cell? ⟨b, off + 6, none⟩ = some (.int .u8 y2)) (g7 : w.cell? ⟨b, off + 7, none⟩ = some (.int .u8 y3)) (_hb : b < w.heap.size) :
    Calls Tryz.prog 29 #[.slice (some ⟨b, off, none⟩) n c] w (DecPost w (x0 :: x1 :: x2 :: x3 :: y0 :: y1 :: y2 :: y3 :: l)) := by
  have hh := Lib.hid (fun W => valid_any (dec4 x0 x1 x2 x3 (y0 + 256 * y1 + 65536 * y2 + 16777216 * y3)) W (by have := s8_in x3 h3; show _ ≤ s8 x3; omega) (by have := s8_in x3 h3; show s8 x3 ≤ _; omega))
  have E : Hid (decode (x0 :: x1 :: x2 :: x3 :: y0 :: y1 :: y2 :: y3 :: l) = if (dec4 x0 x1 x2 x3 (y0 + 256 * y1 + 65536 * y2 + 16777216 * y3)).valid then (dec4 x0 x1 x2 x3 (y0 + 256 * y1 + 65536 * y2 + 16777216 * y3), 8, 0) else (insn0, 0, 6)) := by unfold Hid; simp only [decode]; rw [if_neg (by omega)]
  have q7 := Lib.hid (u32_le y0 y1 y2 y3 k0 k1 k2 k3)
  have q0 := Lib.hid (wrap_b x0 (by omega))
  have q3 := Lib.hid (wrap_i8 x3 h3)
  have q4 := Lib.hid (wrap_s8' x3 h3)
  have q1 := Lib.hid (and15 x1 h1)
  have q2 := Lib.hid (and15 x2 h2)
  have q5 := Lib.hid (wrap_d16 x1 h1)
  have q6 := Lib.hid (wrap_d16 x2 h2)
  obtain ⟨a0, b0⟩ := h0
  obtain ⟨a1, b1⟩ := h1
  obtain ⟨a2, b2⟩ := h2
  obtain ⟨a3, b3⟩ := h3
  obtain ⟨a4, b4⟩ := k0
  obtain ⟨a5, b5⟩ := k1
  obtain ⟨a6, b6⟩ := k2
  obtain ⟨a7, b7⟩ := k3
  have l4 : (4 : Int) ≤ n := by omega
  have i0 : (0 : Int) < n := by omega
  have j0 : 0 < n := by omega
  have i1 : (1 : Int) < n := by omega
  have i2 : (2 : Int) < n := by omega
  have i3 : (3 : Int) < n := by omega
  have i4 : (4 : Int) < n := by omega
  have i5 : (5 : Int) < n := by omega
  have i6 : (6 : Int) < n := by omega
  have i7 : (7 : Int) < n := by omega
  have l8 : (8 : Int) ≤ n := by omega
  go_enter Tryz.func29, Tryz.ntmps29
  go_wp2
  go_region_held3 (fun w' => w'.cell? ⟨b, off, none⟩ = some (.int .u8 x0) ∧ w'.cell? ⟨b, off + 1, none⟩ = some (.int .u8 x1) ∧ w'.cell? ⟨b, off + 2, none⟩ = some (.int .u8 x2) ∧ w'.cell? ⟨b, off + 3, none⟩ = some (.int .u8 x3)) (go_keep) (first | fail)
  simp only [q0.out, q3.out, q4.out, q1.out, q2.out, q5.out, q6.out]
  go_wp2
  go_region_held3 (fun w' => w'.cell? ⟨b, off + 4, none⟩ = some (.int .u8 y0) ∧ w'.cell? ⟨b, off + 5, none⟩ = some (.int .u8 y1) ∧ w'.cell? ⟨b, off + 6, none⟩ = some (.int .u8 y2) ∧ w'.cell? ⟨b, off + 7, none⟩ = some (.int .u8 y3)) (go_keep) (first | fail)
  simp only [q7.out]
  have hB : Below w.heap.size w (((w.alloc (.cells insn0.cs 24)).alloc (.cells (dec4 x0 x1 x2 x3 (y0 + 256 * y1 + 65536 * y2 + 16777216 * y3)).cs 24)).drew.drew) := (((Below.refl _ w).alloc (Nat.le_refl _) _).alloc (by simp) _).drew.drew
  have hK : Blk (((w.alloc (.cells insn0.cs 24)).alloc (.cells (dec4 x0 x1 x2 x3 (y0 + 256 * y1 + 65536 * y2 + 16777216 * y3)).cs 24)).drew.drew) w.heap.size 24 insn0.cs := ((Blk.new w 24 _).alloc _).drew.drew
  have HB := Lib.hid hB
  have HK := Lib.hid hK
  clear hB hK
  by_cases hv : (dec4 x0 x1 x2 x3 (y0 + 256 * y1 + 65536 * y2 + 16777216 * y3)).valid = true
  · go_wp2_with (go_at_call 56; refine (hh.out _).mono ?_; rintro e w2 ⟨rfl, hb2⟩; obtain ⟨hc, hf⟩ := bcell hb2; have hz : w.heap.size < w2.heap.size := by { have := hb2.size; simp at this; omega }; have hz1 : w.heap.size + 1 < w2.heap.size := by { have := hb2.size; simp at this; omega })
    exact bodyPost_ret (results_24_3 Tryz.results29 rfl ((HK.out.call hb2).seven _ _ _ _ _ _ _)) rfl ⟨by rw [E.out, hv]; rfl, below_seven (HB.out.call hb2 (by simp; omega)) (Nat.le_refl _) _ _ _ _ _ _ _⟩
  · rw [Bool.not_eq_true] at hv
    go_wp2_with (go_at_call 56; refine (hh.out _).mono ?_; rintro e w2 ⟨rfl, hb2⟩; obtain ⟨hc, hf⟩ := bcell hb2; have hz : w.heap.size < w2.heap.size := by { have := hb2.size; simp at this; omega }; have hz1 : w.heap.size + 1 < w2.heap.size := by { have := hb2.size; simp at this; omega })
    exact bodyPost_ret (results_24_3 Tryz.results29 rfl ((HK.out.call hb2).seven _ _ _ _ _ _ _)) rfl ⟨by rw [E.out, hv]; rfl, below_seven (HB.out.call hb2 (by simp; omega)) (Nat.le_refl _) _ _ _ _ _ _ _⟩
end Go.Proofs.YtdkclapinedgiaaGreatDoor
