/- Contracts: Decode of package isa. -/
import Derived.Test.YtdkclapinedgiaaGreatDoorC4
import Derived.Test.YtdkclapinedgiaaGreatDoorWords3
import Derived.Deep.RegionHeld3
import Derived.Laws.Pointers
namespace Go.Proofs.YtdkclapinedgiaaGreatDoor
open Go.RowKit

def DecPost (w : World) (l : List Int) (e : Ending) (w' : World) : Prop :=
  e = .returned (.tuple #[.agg (decode l).1.cs, .int .i64 (decode l).2.1, .int .i64 (decode l).2.2]) ∧ Below w.heap.size w w'

theorem wrap_i8 (x : Int) (h : 0 ≤ x ∧ x < 256) : IntKind.i8.wrap x = s8 x := by
  unfold s8; simp [IntKind.wrap, IntKind.signed, IntKind.bits]; split <;> split <;> omega
theorem wrap_s8 (x : Int) (h : 0 ≤ x ∧ x < 256) : wrap64 (s8 x) = s8 x := by
  unfold s8 wrap64; split <;> omega
theorem s8_in (x : Int) (h : 0 ≤ x ∧ x < 256) : -128 ≤ s8 x ∧ s8 x ≤ 127 := by
  unfold s8; split <;> omega
theorem wrap_m16 (x : Int) : wrap64 (x % 16) = x % 16 := by unfold wrap64; omega
theorem wrap_b (x : Int) (h : 0 ≤ x ∧ x < 256) : IntKind.i64.wrap x = x := IntWalk.i64_in x (by omega)

theorem and15 (x : Int) (h : 0 ≤ x ∧ x < 256) : IntKind.i64.wrap (bits BinOp.and IntKind.u8 x 15) = x % 16 := by
  obtain ⟨m, rfl⟩ : ∃ m : Nat, x = m := ⟨x.toNat, by omega⟩
  have h2 : ∀ m, m < 256 → bits BinOp.and .u8 ((m : Nat) : Int) 15 = (m : Int) % 16 := by decide +kernel
  rw [h2 m (by omega)]
  exact IntWalk.i64_in _ (by omega)
theorem wrap_d16 (x : Int) (h : 0 ≤ x ∧ x < 256) : IntKind.i64.wrap (x / 16) = x / 16 := IntWalk.i64_in _ (by omega)
theorem wrap_s8' (x : Int) (h : 0 ≤ x ∧ x < 256) : IntKind.i64.wrap (s8 x) = s8 x := IntWalk.i64_in _ (by have := s8_in x h; omega)
theorem decode_few (A : Option Addr) (n c : Nat) (l : List Int) (w : World) (hn : n < 4) (hl : l.length = n) :
    Calls Tryz.prog 29 #[.slice A n c] w (DecPost w l) := by
  have e : decode l = (insn0, 0, 6) := by
    match l, hl with
    | [], _ => rfl
    | [_], _ => rfl
    | [_, _], _ => rfl
    | [_, _, _], _ => rfl
    | _ :: _ :: _ :: _ :: _, h => simp at h; omega
  have E := Lib.hid e
  have l4 : (n : Int) < 4 := by omega
  clear e hl
  go_enter Tryz.func29, Tryz.ntmps29
  go_wp2
  refine bodyPost_ret (v := .tuple #[.agg insn0.cs, .int .i64 0, .int .i64 6]) (by simp [results, Tryz.results29, go_sem, Insn.cs, insn0]) rfl ⟨by rw [E.out], ?_⟩
  exact (Below.refl _ w).alloc (Nat.le_refl _) _

set_option maxRecDepth 100000 in
set_option maxHeartbeats 4000000 in
theorem decode_short (b off n c : Nat) (x0 x1 x2 x3 : Int) (l : List Int) (w : World) (hn : 4 ≤ n) (h0 : 0 ≤ x0 ∧ x0 < 64) (h1 : 0 ≤ x1 ∧ x1 < 256) (h2 : 0 ≤ x2 ∧ x2 < 256) (h3 : 0 ≤ x3 ∧ x3 < 256)
    (g0 : w.cell? ⟨b, off, none⟩ = some (.int .u8 x0)) (g1 : w.cell? ⟨b, off + 1, none⟩ = some (.int .u8 x1)) (g2 : w.cell? ⟨b, off + 2, none⟩ = some (.int .u8 x2)) (g3 : w.cell? ⟨b, off + 3, none⟩ = some (.int .u8 x3)) (_hb : b < w.heap.size) :
    Calls Tryz.prog 29 #[.slice (some ⟨b, off, none⟩) n c] w (DecPost w (x0 :: x1 :: x2 :: x3 :: l)) := by
  have hh := Lib.hid (fun W => valid_any (dec4 x0 x1 x2 x3 0) W (by have := s8_in x3 h3; show _ ≤ s8 x3; omega) (by have := s8_in x3 h3; show s8 x3 ≤ _; omega))
  have E : Hid (decode (x0 :: x1 :: x2 :: x3 :: l) = if (dec4 x0 x1 x2 x3 0).valid then (dec4 x0 x1 x2 x3 0, 4, 0) else (insn0, 0, 6)) := by unfold Hid; simp only [decode]; rw [if_pos h0.2]
  have q0 := Lib.hid (wrap_b x0 (by omega))
  have q3 := Lib.hid (wrap_i8 x3 h3)
  have q4 := Lib.hid (wrap_s8' x3 h3)
  have q1 := Lib.hid (and15 x1 h1)
  have q2 := Lib.hid (and15 x2 h2)
  have q5 := Lib.hid (wrap_d16 x1 h1)
  have q6 := Lib.hid (wrap_d16 x2 h2)
  obtain ⟨a0, b0⟩ := h0
  obtain ⟨a1, b1⟩ := h1
  obtain ⟨a2, b2⟩ := h2
  obtain ⟨a3, b3⟩ := h3
  have l4 : (4 : Int) ≤ n := by omega
  have i0 : (0 : Int) < n := by omega
  have j0 : 0 < n := by omega
  have i1 : (1 : Int) < n := by omega
  have i2 : (2 : Int) < n := by omega
  have i3 : (3 : Int) < n := by omega
  go_enter Tryz.func29, Tryz.ntmps29
  go_wp2
  go_region_held3 (fun w' => w'.cell? ⟨b, off, none⟩ = some (.int .u8 x0) ∧ w'.cell? ⟨b, off + 1, none⟩ = some (.int .u8 x1) ∧ w'.cell? ⟨b, off + 2, none⟩ = some (.int .u8 x2) ∧ w'.cell? ⟨b, off + 3, none⟩ = some (.int .u8 x3)) (go_keep) (first | fail)
  simp only [q0.out, q3.out, q4.out, q1.out, q2.out, q5.out, q6.out]
  have hB : Below w.heap.size w (((w.alloc (.cells insn0.cs 24)).alloc (.cells (dec4 x0 x1 x2 x3 0).cs 24)).drew) := (((Below.refl _ w).alloc (Nat.le_refl _) _).alloc (by simp) _).drew
  have hK : Blk (((w.alloc (.cells insn0.cs 24)).alloc (.cells (dec4 x0 x1 x2 x3 0).cs 24)).drew) w.heap.size 24 insn0.cs := ((Blk.new w 24 _).alloc _).drew
  have HB := Lib.hid hB
  have HK := Lib.hid hK
  clear hB hK
  by_cases hv : (dec4 x0 x1 x2 x3 0).valid = true
  · go_wp2_with (go_at_call 56; refine (hh.out _).mono ?_; rintro e w2 ⟨rfl, hb2⟩; obtain ⟨hc, hf⟩ := bcell hb2; have hz : w.heap.size < w2.heap.size := by { have := hb2.size; simp at this; omega }; have hz1 : w.heap.size + 1 < w2.heap.size := by { have := hb2.size; simp at this; omega })
    exact bodyPost_ret (results_24_3 Tryz.results29 rfl ((HK.out.call hb2).seven _ _ _ _ _ _ _)) rfl ⟨by rw [E.out, hv]; rfl, below_seven (HB.out.call hb2 (by simp; omega)) (Nat.le_refl _) _ _ _ _ _ _ _⟩
  · rw [Bool.not_eq_true] at hv
    go_wp2_with (go_at_call 56; refine (hh.out _).mono ?_; rintro e w2 ⟨rfl, hb2⟩; obtain ⟨hc, hf⟩ := bcell hb2; have hz : w.heap.size < w2.heap.size := by { have := hb2.size; simp at this; omega }; have hz1 : w.heap.size + 1 < w2.heap.size := by { have := hb2.size; simp at this; omega })
    exact bodyPost_ret (results_24_3 Tryz.results29 rfl ((HK.out.call hb2).seven _ _ _ _ _ _ _)) rfl ⟨by rw [E.out, hv]; rfl, below_seven (HB.out.call hb2 (by simp; omega)) (Nat.le_refl _) _ _ _ _ _ _ _⟩
end Go.Proofs.YtdkclapinedgiaaGreatDoor
