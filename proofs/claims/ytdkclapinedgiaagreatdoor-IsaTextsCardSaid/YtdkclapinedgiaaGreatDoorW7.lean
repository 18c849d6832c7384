/- Contracts: Encode of the reference. -/
/- Contracts: Decode of the reference. -/
/- Contract: IsaCodes of the law's package (function 8): true, whatever the input. -/
import Derived.Test.YtdkclapinedgiaaGreatDoorW4
import Derived.Test.YtdkclapinedgiaaGreatDoorC4
import Derived.Test.YtdkclapinedgiaaGreatDoorC7
import Derived.Deep.RegionHeld3
import Derived.Deep.RegionLaw
import Derived.Test.YtdkclapinedgiaaGreatDoorS5
import Derived.Laws.StructEq
import Derived.Deep.DeepCutAuto

namespace Go.Proofs.YtdkclapinedgiaaGreatDoor
open Go.RowKit

set_option maxHeartbeats 4000000 in
theorem rencode_no (x : Insn) (w : World) (i0 : 0 ≤ x.i) (i1 : x.i < 4294967296) (hv : x.valid = false) :
    Calls Tryz.prog 30 #[.agg x.cs] w fun e w' => e = .returned (.tuple #[.slice none 0 0, .int .i64 6]) ∧ Below w.heap.size w w' := by
  have hh := Lib.hid (fun W => is_any x i0 i1 W)
  rw [hv] at hh
  unfold Insn.cs at hh ⊢
  clear i0 i1
  go_enter Tryz.func30, Tryz.ntmps30
  go_wp2_with (go_at_call 60; refine (hh.out _).mono ?_; rintro e w2 ⟨rfl, hb2⟩)
  all_goals
    go_ret2
    exact ⟨rfl, ((Below.refl _ w).alloc (Nat.le_refl _) _).call hb2 (by simp)⟩
theorem w16 (a b : Int) (a1 : 0 ≤ a) (a2 : a ≤ 15) (b1 : 0 ≤ b) (b2 : b ≤ 15) : wrap64 (16 * b) = 16 * b ∧ wrap64 (a + 16 * b) = a + 16 * b ∧ (a + 16 * b) % 256 = a + 16 * b := by
  unfold wrap64; omega
set_option maxRecDepth 100000 in
set_option maxHeartbeats 4000000 in
theorem rencode_short (x : Insn) (w : World) (hv : x.valid = true) (hl : x.op < 64) (i0 : 0 ≤ x.i) (i1 : x.i < 4294967296) :
    Calls Tryz.prog 30 #[.agg x.cs] w (EncPost w x 4) := by
  have ok := Insn.ok hv
  have hh := Lib.hid (fun W => is_any x i0 i1 W)
  rw [hv] at hh
  obtain ⟨_, ⟨o1, o2, o3⟩, ⟨a1, a2⟩, ⟨b1, b2⟩, ⟨c1, c2⟩, ⟨d1, d2⟩, ⟨k1, k2⟩⟩ := ok
  obtain ⟨r1, r2, r3⟩ := w16 x.a x.b a1 a2 b1 b2
  obtain ⟨r4, r5, r6⟩ := w16 x.c x.d c1 c2 d1 d2
  unfold Insn.cs at hh ⊢
  go_enter Tryz.func30, Tryz.ntmps30
  go_wp2_with (go_at_call 60; refine (hh.out _).mono ?_; rintro e w2 ⟨rfl, hb2⟩; obtain ⟨hc, hf⟩ := bcell hb2; have hz : w.heap.size < w2.heap.size := by { have := hb2.size; simp at this; omega })
  go_ret2
  have hB := ((((Below.refl _ w).alloc (Nat.le_refl _) _).call hb2 (by simp)).alloc (by omega) (.cells #[.int .u8 x.op, .int .u8 (x.a + 16 * x.b), .int .u8 (x.c + 16 * x.d), .int .u8 (x.k % 256)] 5))
  refine ⟨⟨_, rfl, ?_⟩, hB⟩
  have h := own_of_blk (n := 4) (size := 1) (base := w.heap.size) (Blk.new w2 5 #[.int .u8 x.op, .int .u8 (x.a + 16 * x.b), .int .u8 (x.c + 16 * x.d), .int .u8 (x.k % 256)]) (by omega) rfl (by decide)
  have e : x.bytes = [x.op, x.a + 16 * x.b, x.c + 16 * x.d, x.k % 256] := by simp [Insn.bytes]; omega
  rw [e]
  exact h
set_option maxRecDepth 100000 in
set_option maxHeartbeats 4000000 in
theorem rencode_long (x : Insn) (w : World) (hv : x.valid = true) (hl : 64 ≤ x.op) (i1 : 0 ≤ x.i) (i2 : x.i < 4294967296) :
    Calls Tryz.prog 30 #[.agg x.cs] w (EncPost w x 8) := by
  have ok := Insn.ok hv
  have hh := Lib.hid (fun W => is_any x i1 i2 W)
  rw [hv] at hh
  obtain ⟨_, ⟨o1, o2, o3⟩, ⟨a1, a2⟩, ⟨b1, b2⟩, ⟨c1, c2⟩, ⟨d1, d2⟩, ⟨k1, k2⟩⟩ := ok
  obtain ⟨r1, r2, r3⟩ := w16 x.a x.b a1 a2 b1 b2
  obtain ⟨r4, r5, r6⟩ := w16 x.c x.d c1 c2 d1 d2
  obtain ⟨i0, hi, hz0, hz1, hz2⟩ := info_parts Tryz.info5
  unfold Insn.cs at hh ⊢
  go_enter Tryz.func30, Tryz.ntmps30
  go_wp2_with (first
    | (go_at_call 60; refine (hh.out _).mono ?_; rintro e w2 ⟨rfl, hb2⟩; obtain ⟨hc, hf⟩ := bcell hb2; have hz : w.heap.size < w2.heap.size := by { have := hb2.size; simp at this; omega })
    | (at_builtin; refine wpList_append_own _ rfl _ _ 44 rfl w.heap.size 5 i0 (.int .u8 0) 1 1 Tryz.underlying44 hi hz0 hz1 hz2 rfl (by decide) (.slice (some ⟨w2.heap.size, 0, none⟩) 4 4) 4 [.int .u8 x.op, .int .u8 (x.a + 16 * x.b), .int .u8 (x.c + 16 * x.d), .int .u8 (x.k % 256)] rfl ?hown ⟨w2.heap.size + 1, 0, none⟩ 4 4 [.int .u8 (x.i % 256), .int .u8 (x.i / 256 % 256), .int .u8 (x.i / 65536 % 256), .int .u8 (x.i / 16777216)] rfl rfl ?c1 ?c2 (by decide) (by decide) (by simp; omega) ?_
       case hown => exact World.ownsRow.alloc (own_of_blk (n := 4) (size := 1) (Blk.new w2 5 #[.int .u8 x.op, .int .u8 (x.a + 16 * x.b), .int .u8 (x.c + 16 * x.d), .int .u8 (x.k % 256)]) (by omega) rfl (by decide)) _
       case c1 => exact cells_of_blk (blk_at _ _ _ _ (by simp)) _ rfl
       case c2 => simp [Value.oneCell']
       intro v' w3 hown hgrow _))
  go_ret2
  refine ⟨⟨_, rfl, ?_⟩, ?_⟩
  · have e : x.bytes = [x.op, x.a + 16 * x.b, x.c + 16 * x.d, x.k % 256] ++ [x.i % 256, x.i / 256 % 256, x.i / 65536 % 256, x.i / 16777216] := by unfold Insn.bytes; rw [if_pos hl, show x.i / 16777216 % 256 = x.i / 16777216 from by omega]
    rw [e]
    exact hown
  · exact (((((Below.refl _ w).alloc (Nat.le_refl _) _).call hb2 (by simp)).alloc (by omega) _).alloc (by simp; omega) _).grown hgrow (by simp; omega) (by intro k hk; simp [Value.ownBlock] at hk; omega)
end Go.Proofs.YtdkclapinedgiaaGreatDoor

namespace Go.Proofs.YtdkclapinedgiaaGreatDoor
open Go.RowKit

theorem rdecode_few (A : Option Addr) (n c : Nat) (l : List Int) (w : World) (hn : n < 4) (hl : l.length = n) :
    Calls Tryz.prog 34 #[.slice A n c] w (DecPost w l) := by
  have e : decode l = (insn0, 0, 6) := by
    match l, hl with
    | [], _ => rfl
    | [_], _ => rfl
    | [_, _], _ => rfl
    | [_, _, _], _ => rfl
    | _ :: _ :: _ :: _ :: _, h => simp at h; omega
  have E := Lib.hid e
  have l4 : (n : Int) < 4 := by omega
  clear e hl
  go_enter Tryz.func34, Tryz.ntmps34
  go_wp2
  refine bodyPost_ret (v := .tuple #[.agg insn0.cs, .int .i64 0, .int .i64 6]) (by simp [results, Tryz.results34, go_sem, Insn.cs, insn0]) rfl ⟨by rw [E.out], ?_⟩
  exact (Below.refl _ w).alloc (Nat.le_refl _) _

set_option maxRecDepth 100000 in
set_option maxHeartbeats 4000000 in
theorem rdecode_short (b off n c : Nat) (x0 x1 x2 x3 : Int) (l : List Int) (w : World) (hn : 4 ≤ n) (h0 : 0 ≤ x0 ∧ x0 < 64) (h1 : 0 ≤ x1 ∧ x1 < 256) (h2 : 0 ≤ x2 ∧ x2 < 256) (h3 : 0 ≤ x3 ∧ x3 < 256)
    (g0 : w.cell? ⟨b, off, none⟩ = some (.int .u8 x0)) (g1 : w.cell? ⟨b, off + 1, none⟩ = some (.int .u8 x1)) (g2 : w.cell? ⟨b, off + 2, none⟩ = some (.int .u8 x2)) (g3 : w.cell? ⟨b, off + 3, none⟩ = some (.int .u8 x3)) (_hb : b < w.heap.size) :
    Calls Tryz.prog 34 #[.slice (some ⟨b, off, none⟩) n c] w (DecPost w (x0 :: x1 :: x2 :: x3 :: l)) := by
  have hh := Lib.hid (fun W => is_any (dec4 x0 x1 x2 x3 0) (Int.le_refl _) (show (0 : Int) < 4294967296 by decide) W)
  have E : Hid (decode (x0 :: x1 :: x2 :: x3 :: l) = if (dec4 x0 x1 x2 x3 0).valid then (dec4 x0 x1 x2 x3 0, 4, 0) else (insn0, 0, 6)) := by unfold Hid; simp only [decode]; rw [if_pos h0.2]
  have q0 := Lib.hid (wrap_b x0 (by omega))
  have q3 := Lib.hid (wrap_i8 x3 h3)
  have q4 := Lib.hid (wrap_s8' x3 h3)
  have q1 := Lib.hid (and15 x1 h1)
  have q2 := Lib.hid (and15 x2 h2)
  have q5 := Lib.hid (wrap_d16 x1 h1)
  have q6 := Lib.hid (wrap_d16 x2 h2)
  obtain ⟨a0, b0⟩ := h0
  obtain ⟨a1, b1⟩ := h1
  obtain ⟨a2, b2⟩ := h2
  obtain ⟨a3, b3⟩ := h3
  have l4 : (4 : Int) ≤ n := by omega
  have i0 : (0 : Int) < n := by omega
  have j0 : 0 < n := by omega
  have i1 : (1 : Int) < n := by omega
  have i2 : (2 : Int) < n := by omega
  have i3 : (3 : Int) < n := by omega
  go_enter Tryz.func34, Tryz.ntmps34
  go_wp2
  go_region_held3 (fun w' => w'.cell? ⟨b, off, none⟩ = some (.int .u8 x0) ∧ w'.cell? ⟨b, off + 1, none⟩ = some (.int .u8 x1) ∧ w'.cell? ⟨b, off + 2, none⟩ = some (.int .u8 x2) ∧ w'.cell? ⟨b, off + 3, none⟩ = some (.int .u8 x3)) (go_keep) (first | fail)
  simp only [q0.out, q3.out, q4.out, q1.out, q2.out, q5.out, q6.out]
  have hB : Below w.heap.size w (((w.alloc (.cells insn0.cs 24)).alloc (.cells (dec4 x0 x1 x2 x3 0).cs 24)).drew) := (((Below.refl _ w).alloc (Nat.le_refl _) _).alloc (by simp) _).drew
  have hK : Blk (((w.alloc (.cells insn0.cs 24)).alloc (.cells (dec4 x0 x1 x2 x3 0).cs 24)).drew) w.heap.size 24 insn0.cs := ((Blk.new w 24 _).alloc _).drew
  have HB := Lib.hid hB
  have HK := Lib.hid hK
  clear hB hK
  by_cases hv : (dec4 x0 x1 x2 x3 0).valid = true
  · go_wp2_with (go_at_call 60; refine (hh.out _).mono ?_; rintro e w2 ⟨rfl, hb2⟩; obtain ⟨hc, hf⟩ := bcell hb2; have hz : w.heap.size < w2.heap.size := by { have := hb2.size; simp at this; omega }; have hz1 : w.heap.size + 1 < w2.heap.size := by { have := hb2.size; simp at this; omega })
    exact bodyPost_ret (results_24_3 Tryz.results34 rfl ((HK.out.call hb2).seven _ _ _ _ _ _ _)) rfl ⟨by rw [E.out, hv]; rfl, below_seven (HB.out.call hb2 (by simp; omega)) (Nat.le_refl _) _ _ _ _ _ _ _⟩
  · rw [Bool.not_eq_true] at hv
    go_wp2_with (go_at_call 60; refine (hh.out _).mono ?_; rintro e w2 ⟨rfl, hb2⟩; obtain ⟨hc, hf⟩ := bcell hb2; have hz : w.heap.size < w2.heap.size := by { have := hb2.size; simp at this; omega }; have hz1 : w.heap.size + 1 < w2.heap.size := by { have := hb2.size; simp at this; omega })
    exact bodyPost_ret (results_24_3 Tryz.results34 rfl ((HK.out.call hb2).seven _ _ _ _ _ _ _)) rfl ⟨by rw [E.out, hv]; rfl, below_seven (HB.out.call hb2 (by simp; omega)) (Nat.le_refl _) _ _ _ _ _ _ _⟩

set_option maxRecDepth 100000 in
set_option maxHeartbeats 4000000 in
theorem rdecode_long_few (b off n c : Nat) (x0 x1 x2 x3 : Int) (l : List Int) (w : World) (hn : 4 ≤ n) (hn8 : n < 8) (hl : l.length + 4 = n) (h0 : 64 ≤ x0 ∧ x0 < 256) (h1 : 0 ≤ x1 ∧ x1 < 256) (h2 : 0 ≤ x2 ∧ x2 < 256) (h3 : 0 ≤ x3 ∧ x3 < 256)
    (g0 : w.cell? ⟨b, off, none⟩ = some (.int .u8 x0)) (g1 : w.cell? ⟨b, off + 1, none⟩ = some (.int .u8 x1)) (g2 : w.cell? ⟨b, off + 2, none⟩ = some (.int .u8 x2)) (g3 : w.cell? ⟨b, off + 3, none⟩ = some (.int .u8 x3)) (_hb : b < w.heap.size) :
    Calls Tryz.prog 34 #[.slice (some ⟨b, off, none⟩) n c] w (DecPost w (x0 :: x1 :: x2 :: x3 :: l)) := by
  have e : decode (x0 :: x1 :: x2 :: x3 :: l) = (insn0, 0, 6) := by
    simp only [decode]
    rw [if_neg (by omega)]
    match l, hl with
    | [], _ => rfl
    | [_], _ => rfl
    | [_, _], _ => rfl
    | [_, _, _], _ => rfl
    | _ :: _ :: _ :: _ :: _, h => simp at h; omega
  have E := Lib.hid e
  clear e hl
  have q0 := Lib.hid (wrap_b x0 (by omega))
  have q3 := Lib.hid (wrap_i8 x3 h3)
  have q4 := Lib.hid (wrap_s8' x3 h3)
  have q1 := Lib.hid (and15 x1 h1)
  have q2 := Lib.hid (and15 x2 h2)
  have q5 := Lib.hid (wrap_d16 x1 h1)
  have q6 := Lib.hid (wrap_d16 x2 h2)
  obtain ⟨a0, b0⟩ := h0
  obtain ⟨a1, b1⟩ := h1
  obtain ⟨a2, b2⟩ := h2
  obtain ⟨a3, b3⟩ := h3
  have l4 : (4 : Int) ≤ n := by omega
  have i0 : (0 : Int) < n := by omega
  have j0 : 0 < n := by omega
  have i1 : (1 : Int) < n := by omega
  have i2 : (2 : Int) < n := by omega
  have i3 : (3 : Int) < n := by omega
  have l8 : (n : Int) < 8 := by omega
  go_enter Tryz.func34, Tryz.ntmps34
  go_wp2
  go_region_held3 (fun w' => w'.cell? ⟨b, off, none⟩ = some (.int .u8 x0) ∧ w'.cell? ⟨b, off + 1, none⟩ = some (.int .u8 x1) ∧ w'.cell? ⟨b, off + 2, none⟩ = some (.int .u8 x2) ∧ w'.cell? ⟨b, off + 3, none⟩ = some (.int .u8 x3)) (go_keep) (first | fail)
  simp only [q0.out, q3.out, q4.out, q1.out, q2.out, q5.out, q6.out]
  have hB : Below w.heap.size w (((w.alloc (.cells insn0.cs 24)).alloc (.cells (dec4 x0 x1 x2 x3 0).cs 24)).drew) := (((Below.refl _ w).alloc (Nat.le_refl _) _).alloc (by simp) _).drew
  have hK : Blk (((w.alloc (.cells insn0.cs 24)).alloc (.cells (dec4 x0 x1 x2 x3 0).cs 24)).drew) w.heap.size 24 insn0.cs := ((Blk.new w 24 _).alloc _).drew
  have HB := Lib.hid hB
  have HK := Lib.hid hK
  clear hB hK
  go_wp2
  exact bodyPost_ret (results_24_3 (c0 := .int .i64 0) (c1 := .int .i64 0) (c2 := .int .i64 0) (c3 := .int .i64 0) (c4 := .int .i64 0) (c5 := .int .i64 0) (c6 := .int .u32 0) Tryz.results34 rfl HK.out) rfl ⟨by rw [E.out]; rfl, HB.out⟩

set_option maxRecDepth 100000 in
set_option maxHeartbeats 4000000 in
theorem rdecode_long (b off n c : Nat) (x0 x1 x2 x3 y0 y1 y2 y3 : Int) (l : List Int) (w : World) (hn : 8 ≤ n) (h0 : 64 ≤ x0 ∧ x0 < 256) (h1 : 0 ≤ x1 ∧ x1 < 256) (h2 : 0 ≤ x2 ∧ x2 < 256) (h3 : 0 ≤ x3 ∧ x3 < 256) (k0 : 0 ≤ y0 ∧ y0 < 256) (k1 : 0 ≤ y1 ∧ y1 < 256) (k2 : 0 ≤ y2 ∧ y2 < 256) (k3 : 0 ≤ y3 ∧ y3 < 256)
    (g0 : w.cell? ⟨b, off, none⟩ = some (.int .u8 x0)) (g1 : w.cell? ⟨b, off + 1, none⟩ = some (.int .u8 x1)) (g2 : w.cell? ⟨b, off + 2, none⟩ = some (.int .u8 x2)) (g3 : w.cell? ⟨b, off + 3, none⟩ = some (.int .u8 x3)) 
    (g4 : w.cell? ⟨b, off + 4, none⟩ = some (.int .u8 y0)) (g5 : w.cell? ⟨b, off + 5, none⟩ = some (.int .u8 y1)) (g6 : w.cell? ⟨b, off + 6, none⟩ = some (.int .u8 y2)) (g7 : w.cell? ⟨b, off + 7, none⟩ = some (.int .u8 y3)) (_hb : b < w.heap.size) :
    Calls Tryz.prog 34 #[.slice (some ⟨b, off, none⟩) n c] w (DecPost w (x0 :: x1 :: x2 :: x3 :: y0 :: y1 :: y2 :: y3 :: l)) := by
  have hh := Lib.hid (fun W => is_any (dec4 x0 x1 x2 x3 (y0 + 256 * y1 + 65536 * y2 + 16777216 * y3)) (show 0 ≤ y0 + 256 * y1 + 65536 * y2 + 16777216 * y3 by omega) (show y0 + 256 * y1 + 65536 * y2 + 16777216 * y3 < 4294967296 by omega) W)
  have E : Hid (decode (x0 :: x1 :: x2 :: x3 :: y0 :: y1 :: y2 :: y3 :: l) = if (dec4 x0 x1 x2 x3 (y0 + 256 * y1 + 65536 * y2 + 16777216 * y3)).valid then (dec4 x0 x1 x2 x3 (y0 + 256 * y1 + 65536 * y2 + 16777216 * y3), 8, 0) else (insn0, 0, 6)) := by unfold Hid; simp only [decode]; rw [if_neg (by omega)]
  have q7 := Lib.hid (u32_le y0 y1 y2 y3 k0 k1 k2 k3)
  have q0 := Lib.hid (wrap_b x0 (by omega))
  have q3 := Lib.hid (wrap_i8 x3 h3)
  have q4 := Lib.hid (wrap_s8' x3 h3)
  have q1 := Lib.hid (and15 x1 h1)
  have q2 := Lib.hid (and15 x2 h2)
  have q5 := Lib.hid (wrap_d16 x1 h1)
  have q6 := Lib.hid (wrap_d16 x2 h2)
  obtain ⟨a0, b0⟩ := h0
  obtain ⟨a1, b1⟩ := h1
  obtain ⟨a2, b2⟩ := h2
  obtain ⟨a3, b3⟩ := h3
  obtain ⟨a4, b4⟩ := k0
  obtain ⟨a5, b5⟩ := k1
  obtain ⟨a6, b6⟩ := k2
  obtain ⟨a7, b7⟩ := k3
  have l4 : (4 : Int) ≤ n := by omega
  have i0 : (0 : Int) < n := by omega
  have j0 : 0 < n := by omega
  have i1 : (1 : Int) < n := by omega
  have i2 : (2 : Int) < n := by omega
  have i3 : (3 : Int) < n := by omega
  have i4 : (4 : Int) < n := by omega
  have i5 : (5 : Int) < n := by omega
  have i6 : (6 : Int) < n := by omega
  have i7 : (7 : Int) < n := by omega
  have l8 : (8 : Int) ≤ n := by omega
  go_enter Tryz.func34, Tryz.ntmps34
  go_wp2
  go_region_held3 (fun w' => w'.cell? ⟨b, off, none⟩ = some (.int .u8 x0) ∧ w'.cell? ⟨b, off + 1, none⟩ = some (.int .u8 x1) ∧ w'.cell? ⟨b, off + 2, none⟩ = some (.int .u8 x2) ∧ w'.cell? ⟨b, off + 3, none⟩ = some (.int .u8 x3)) (go_keep) (first | fail)
  simp only [q0.out, q3.out, q4.out, q1.out, q2.out, q5.out, q6.out]
  go_wp2
  go_region_held3 (fun w' => w'.cell? ⟨b, off + 4, none⟩ = some (.int .u8 y0) ∧ w'.cell? ⟨b, off + 5, none⟩ = some (.int .u8 y1) ∧ w'.cell? ⟨b, off + 6, none⟩ = some (.int .u8 y2) ∧ w'.cell? ⟨b, off + 7, none⟩ = some (.int .u8 y3)) (go_keep) (first | fail)
  simp only [q7.out]
  have hB : Below w.heap.size w (((w.alloc (.cells insn0.cs 24)).alloc (.cells (dec4 x0 x1 x2 x3 (y0 + 256 * y1 + 65536 * y2 + 16777216 * y3)).cs 24)).drew.drew) := (((Below.refl _ w).alloc (Nat.le_refl _) _).alloc (by simp) _).drew.drew
  have hK : Blk (((w.alloc (.cells insn0.cs 24)).alloc (.cells (dec4 x0 x1 x2 x3 (y0 + 256 * y1 + 65536 * y2 + 16777216 * y3)).cs 24)).drew.drew) w.heap.size 24 insn0.cs := ((Blk.new w 24 _).alloc _).drew.drew
  have HB := Lib.hid hB
  have HK := Lib.hid hK
  clear hB hK
  by_cases hv : (dec4 x0 x1 x2 x3 (y0 + 256 * y1 + 65536 * y2 + 16777216 * y3)).valid = true
  · go_wp2_with (go_at_call 60; refine (hh.out _).mono ?_; rintro e w2 ⟨rfl, hb2⟩; obtain ⟨hc, hf⟩ := bcell hb2; have hz : w.heap.size < w2.heap.size := by { have := hb2.size; simp at this; omega }; have hz1 : w.heap.size + 1 < w2.heap.size := by { have := hb2.size; simp at this; omega })
    exact bodyPost_ret (results_24_3 Tryz.results34 rfl ((HK.out.call hb2).seven _ _ _ _ _ _ _)) rfl ⟨by rw [E.out, hv]; rfl, below_seven (HB.out.call hb2 (by simp; omega)) (Nat.le_refl _) _ _ _ _ _ _ _⟩
  · rw [Bool.not_eq_true] at hv
    go_wp2_with (go_at_call 60; refine (hh.out _).mono ?_; rintro e w2 ⟨rfl, hb2⟩; obtain ⟨hc, hf⟩ := bcell hb2; have hz : w.heap.size < w2.heap.size := by { have := hb2.size; simp at this; omega }; have hz1 : w.heap.size + 1 < w2.heap.size := by { have := hb2.size; simp at this; omega })
    exact bodyPost_ret (results_24_3 Tryz.results34 rfl ((HK.out.call hb2).seven _ _ _ _ _ _ _)) rfl ⟨by rw [E.out, hv]; rfl, below_seven (HB.out.call hb2 (by simp; omega)) (Nat.le_refl _) _ _ _ _ _ _ _⟩

theorem rdecode_any (A : Option Addr) (n c : Nat) (l : List Int) (w : World) (hr : Reads w w.heap.size 1 A n (u8s l)) (hl : Bytes l) :
    Calls Tryz.prog 34 #[.slice A n c] w (DecPost w l) := by
  have hlen : l.length = n := by have := hr.1; simpa [u8s] using this
  by_cases hn : n < 4
  · exact rdecode_few A n c l w hn hlen
  obtain ⟨b, off, rfl, hb, hc⟩ := hr.plain (by omega) (by decide)
  match l, hlen with
  | x0 :: x1 :: x2 :: x3 :: r, hlen =>
    have g0 := hc 0 (.int .u8 x0) rfl
    have g1 := hc 1 (.int .u8 x1) rfl
    have g2 := hc 2 (.int .u8 x2) rfl
    have g3 := hc 3 (.int .u8 x3) rfl
    have h0 := hl x0 (by simp)
    have h1 := hl x1 (by simp)
    have h2 := hl x2 (by simp)
    have h3 := hl x3 (by simp)
    by_cases hx : x0 < 64
    · exact rdecode_short b off n c x0 x1 x2 x3 r w (by omega) ⟨h0.1, hx⟩ h1 h2 h3 g0 g1 g2 g3 hb
    by_cases hn8 : n < 8
    · exact rdecode_long_few b off n c x0 x1 x2 x3 r w (by omega) hn8 (by simpa using hlen) ⟨by omega, h0.2⟩ h1 h2 h3 g0 g1 g2 g3 hb
    match r, hlen with
    | y0 :: y1 :: y2 :: y3 :: r, hlen =>
      exact rdecode_long b off n c x0 x1 x2 x3 y0 y1 y2 y3 r w (by omega) ⟨by omega, h0.2⟩ h1 h2 h3 (hl y0 (by simp)) (hl y1 (by simp)) (hl y2 (by simp)) (hl y3 (by simp)) g0 g1 g2 g3
        (hc 4 (.int .u8 y0) rfl) (hc 5 (.int .u8 y1) rfl) (hc 6 (.int .u8 y2) rfl) (hc 7 (.int .u8 y3) rfl) hb
    | [], h => simp at h; omega
    | [_], h => simp at h; omega
    | [_, _], h => simp at h; omega
    | [_, _, _], h => simp at h; omega
  | [], h => simp at h; omega
  | [_], h => simp at h; omega
  | [_, _], h => simp at h; omega
  | [_, _, _], h => simp at h; omega
end Go.Proofs.YtdkclapinedgiaaGreatDoor

namespace Go.Proofs.YtdkclapinedgiaaGreatDoor
open Go.RowKit
open Go.Sort (grow)

set_option maxRecDepth 100000 in
theorem alike24 (o a b c d k i : Int) (w : World) : (Go.binOp .eql 24 (.agg #[.int .i64 o, .int .i64 a, .int .i64 b, .int .i64 c, .int .i64 d, .int .i64 k, .int .u32 i]) (.agg #[.int .i64 o, .int .i64 a, .int .i64 b, .int .i64 c, .int .i64 d, .int .i64 k, .int .u32 i])).run Tryz.prog w = .ok (.bool true) w := by
  simp [go_sem]
attribute [local go_sem] alike24
/-- What an encoder says of an instruction. -/
def EncSays (f : Nat) (x : Insn) (er : Int) (bs : List Int) : Prop := ∀ W, Calls Tryz.prog f #[.agg x.cs] W fun e w' =>
  (∃ A n c, e = .returned (.tuple #[.slice A n c, .int .i64 er]) ∧ n ≤ 8 ∧ Reads w' w'.heap.size 1 A n (u8s bs)) ∧ Below W.heap.size W w'
theorem enc_says_no {f : Nat} {x : Insn} (h : ∀ W, Calls Tryz.prog f #[.agg x.cs] W fun e w' => e = .returned (.tuple #[.slice none 0 0, .int .i64 6]) ∧ Below W.heap.size W w') : EncSays f x 6 [] :=
  fun W => (h W).mono fun e w' ⟨h1, h2⟩ => ⟨⟨none, 0, 0, h1, by omega, Reads.none_⟩, h2⟩
theorem enc_says_yes {f k : Nat} {x : Insn} (hk : k < 8) (h : ∀ W, Calls Tryz.prog f #[.agg x.cs] W (EncPost W x (k + 1))) : EncSays f x 0 x.bytes := fun W => by
  refine (h W).mono ?_
  rintro e w' ⟨⟨v, h1, h2⟩, h3⟩
  obtain ⟨g, cap, rfl⟩ := ownsRow_succ h2
  exact ⟨⟨_, k + 1, cap, h1, by omega, Reads.of_own h2⟩, h3⟩
theorem enc_says (x : Insn) (hx : x.In) : ∃ er bs, EncSays 28 x er bs ∧ EncSays 30 x er bs := by
  cases hv : x.valid
  · exact ⟨6, [], enc_says_no fun W => encode_no x W hx.k.1 hx.k.2 hv, enc_says_no fun W => rencode_no x W hx.i.1 hx.i.2 hv⟩
  · by_cases hl : x.op < 64
    · exact ⟨0, x.bytes, enc_says_yes (k := 3) (by decide) fun W => encode_short x W hv hl, enc_says_yes (k := 3) (by decide) fun W => rencode_short x W hv hl hx.i.1 hx.i.2⟩
    · exact ⟨0, x.bytes, enc_says_yes (k := 7) (by decide) fun W => encode_long x W hv (by omega) hx.i.1 hx.i.2, enc_says_yes (k := 7) (by decide) fun W => rencode_long x W hv (by omega) hx.i.1 hx.i.2⟩

set_option maxRecDepth 100000 in
set_option maxHeartbeats 40000000 in
theorem codes_of (x : Insn) (hx : x.In) (B : Option Addr) (m d : Nat) (s : List Int) (w : World) (hs : Reads w w.heap.size 1 B m (u8s s)) (hsb : Bytes s)
    (hsane : ∀ W, Below w.heap.size w W → Calls Tryz.prog 15 #[] W fun e w' => e = .returned (.bool true) ∧ Below W.heap.size W w') :
    Calls Tryz.prog 8 #[.agg x.cs, .slice B m d] w fun e w' => e = .returned (.bool true) ∧ Below w.heap.size w w' := by
  obtain ⟨er, bs, hE1, hE2⟩ := enc_says x hx
  have HS := Lib.hid hsane
  have HB := Lib.hid hs
  have HSB := Lib.hid hsb
  have H1 := Lib.hid hE1
  have H2 := Lib.hid hE2
  obtain ⟨ec, hec⟩ : ∃ ec : Int, (if x.valid then (0 : Int) else 6) = ec := ⟨_, rfl⟩
  have HC := Lib.hid (fun W => (check_any x W hx.k.1 hx.k.2).mono fun e w' (h : e = .returned (.int .i64 (if x.valid then 0 else 6)) ∧ Below W.heap.size W w') => show e = .returned (.int .i64 ec) ∧ Below W.heap.size W w' from hec ▸ h)
  have HR := Lib.hid (fun W => (rcheck_any x hx.i.1 hx.i.2 W).mono fun e w' (h : e = .returned (.int .i64 (if x.valid then 0 else 6)) ∧ Below W.heap.size W w') => show e = .returned (.int .i64 ec) ∧ Below W.heap.size W w' from hec ▸ h)
  clear hsane hs hsb hE1 hE2 hec hx
  unfold EncSays at H1 H2
  unfold Insn.cs at H1 H2 HC HR ⊢
  go_enter Tryz.func8, Tryz.ntmps8
  go_wp2_with fail
  refine (HS.out _ ((Below.refl _ w).alloc (Nat.le_refl _) _)).mono ?_
  rintro e w1 ⟨rfl, hb⟩
  have hbx : Blk w1 w.heap.size 24 x.cs := (Blk.new w 24 x.cs).call hb
  have HW := Lib.hid (((Below.refl _ w).alloc (Nat.le_refl _) (.cells x.cs 24)).call hb (by simp))
  clear hb HS
  obtain ⟨a0, a1, a2, a3, a4, a5, a6, a7, a8, a9, a10, a11, a12, a13⟩ := hbx.facts7
  clear a7 a8 a9 a10 a11 a12 a13
  go_wp2_with fail
  refine (H1.out _).mono ?_
  rintro e w2 ⟨⟨A1, n1, c1, rfl, hn1, hr1⟩, hb⟩
  replace hbx := hbx.call hb
  replace HW := Lib.hid (HW.out.call hb HW.out.size)
  clear a0 a1 a2 a3 a4 a5 a6 hb H1
  obtain ⟨a0, a1, a2, a3, a4, a5, a6, a7, a8, a9, a10, a11, a12, a13⟩ := hbx.facts7
  clear a7 a8 a9 a10 a11 a12 a13
  go_wp2_with fail
  refine (H2.out _).mono ?_
  rintro e w3 ⟨⟨A2, n2, c2, rfl, hn2, hr2⟩, hb⟩
  replace hbx := hbx.call hb
  replace HW := Lib.hid (HW.out.call hb HW.out.size)
  replace hr1 := (hr1.below hb).more hb.size
  clear a0 a1 a2 a3 a4 a5 a6 hb H2
  have HQ := Lib.hid (fun W (hW : Below w3.heap.size w3 W) => (bequal_any A1 A2 n1 n2 c1 c2 bs bs W ((hr1.below hW).more hW.size) ((hr2.below hW).more hW.size) (by omega) (by omega)).mono fun e w' (h : e = .returned (.bool (decide (bs = bs))) ∧ ∃ q, w' = W.drewN q) =>
    show e = .returned (.bool true) ∧ Below W.heap.size W w' from ⟨by rw [h.1, decide_eq_true rfl], by obtain ⟨q, hq⟩ := h.2; rw [hq]; exact ⟨rfl, rfl, rfl, Nat.le_refl _, fun _ _ => rfl⟩⟩)
  obtain ⟨a0, a1, a2, a3, a4, a5, a6, a7, a8, a9, a10, a11, a12, a13⟩ := hbx.facts7
  clear a7 a8 a9 a10 a11 a12 a13 hr1 hr2 hn1 hn2
  go_upto_region 5 with fail
  go_cut [40] (fun s wx => s = .bool false ∧ Below w3.heap.size w3 wx)
  case first => as_aux_lemma =>
    have k0 : ∀ d os, (grow (redrawn w3 d) os).cell? ⟨w.heap.size, 0, none⟩ = some (.int .i64 x.op) := cell_regrown a0
    have k1 : ∀ d os, (grow (redrawn w3 d) os).cell? ⟨w.heap.size, 1, none⟩ = some (.int .i64 x.a) := cell_regrown a1
    have k2 : ∀ d os, (grow (redrawn w3 d) os).cell? ⟨w.heap.size, 2, none⟩ = some (.int .i64 x.b) := cell_regrown a2
    have k3 : ∀ d os, (grow (redrawn w3 d) os).cell? ⟨w.heap.size, 3, none⟩ = some (.int .i64 x.c) := cell_regrown a3
    have k4 : ∀ d os, (grow (redrawn w3 d) os).cell? ⟨w.heap.size, 4, none⟩ = some (.int .i64 x.d) := cell_regrown a4
    have k5 : ∀ d os, (grow (redrawn w3 d) os).cell? ⟨w.heap.size, 5, none⟩ = some (.int .i64 x.k) := cell_regrown a5
    have k6 : ∀ d os, (grow (redrawn w3 d) os).cell? ⟨w.heap.size, 6, none⟩ = some (.int .u32 x.i) := cell_regrown a6
    clear a0 a1 a2 a3 a4 a5 a6
    have cC : ∀ d os, Calls Tryz.prog 31 #[.agg #[.int .i64 x.op, .int .i64 x.a, .int .i64 x.b, .int .i64 x.c, .int .i64 x.d, .int .i64 x.k, .int .u32 x.i]] (grow (redrawn w3 d) os) fun e w'' => e = .returned (.int .i64 ec) ∧ ∃ p : Regrown, w'' = grow (redrawn w3 p.d) p.os := fun d os => Calls.regrown_of (HC.out _)
    have cR : ∀ d os, Calls Tryz.prog 32 #[.agg #[.int .i64 x.op, .int .i64 x.a, .int .i64 x.b, .int .i64 x.c, .int .i64 x.d, .int .i64 x.k, .int .u32 x.i]] (grow (redrawn w3 d) os) fun e w'' => e = .returned (.int .i64 ec) ∧ ∃ p : Regrown, w'' = grow (redrawn w3 p.d) p.os := fun d os => Calls.regrown_of (HR.out _)
    have cQ : ∀ d os, Calls Tryz.prog 33 #[.slice A1 n1 c1, .slice A2 n2 c2] (grow (redrawn w3 d) os) fun e w'' => e = .returned (.bool true) ∧ ∃ p : Regrown, w'' = grow (redrawn w3 p.d) p.os := fun d os => Calls.regrown_of (HQ.out _ (below_regrown w3 d os))
    refine wp_region_quiet_below mixed (by kernel_rfl) ?_
    repeat (quiet_step (first | exact cC _ _ | exact cR _ _ | exact cQ _ _))
    refine wpQuiet_nil ?_
    intro _ hw'
    obtain ⟨⟨dq, osq⟩, hw''⟩ := hw'
    subst hw''
    go_wp2
    go_meet
    exact ⟨rfl, below_regrown w3 dq osq⟩
  case rest =>
    obtain ⟨rfl, hb3⟩ := hcut
    replace HW := Lib.hid (HW.out.call hb3 HW.out.size)
    clear a0 a1 a2 a3 a4 a5 a6 hbx hb3 HQ HC HR
    obtain ⟨p, hp⟩ : ∃ p, decode s = p := ⟨_, rfl⟩
    have HD := Lib.hid (fun W (hW : Below w.heap.size w W) => show Calls Tryz.prog 29 #[.slice B m d] W fun e w' => e = .returned (.tuple #[.agg #[.int .i64 p.1.op, .int .i64 p.1.a, .int .i64 p.1.b, .int .i64 p.1.c, .int .i64 p.1.d, .int .i64 p.1.k, .int .u32 p.1.i], .int .i64 p.2.1, .int .i64 p.2.2]) ∧ Below W.heap.size W w' from by
      have h := decode_any B m d s W ((HB.out.below hW).more hW.size) HSB.out
      unfold DecPost at h
      rw [hp] at h
      exact h)
    have HRD := Lib.hid (fun W (hW : Below w.heap.size w W) => show Calls Tryz.prog 34 #[.slice B m d] W fun e w' => e = .returned (.tuple #[.agg #[.int .i64 p.1.op, .int .i64 p.1.a, .int .i64 p.1.b, .int .i64 p.1.c, .int .i64 p.1.d, .int .i64 p.1.k, .int .u32 p.1.i], .int .i64 p.2.1, .int .i64 p.2.2]) ∧ Below W.heap.size W w' from by
      have h := rdecode_any B m d s W ((HB.out.below hW).more hW.size) HSB.out
      unfold DecPost at h
      rw [hp] at h
      exact h)
    obtain ⟨⟨o, ya, yb, yc, yd, yk, yi⟩, py, pe⟩ := p
    dsimp only at HD HRD
    clear hp
    go_wp2_with fail
    refine (HD.out _ HW.out).mono ?_
    rintro e w4 ⟨rfl, hb⟩
    replace HW := Lib.hid (HW.out.call hb HW.out.size)
    clear hb HD
    have BY : Blk (w4.alloc (.cells #[.int .i64 o, .int .i64 ya, .int .i64 yb, .int .i64 yc, .int .i64 yd, .int .i64 yk, .int .u32 yi] 24)) w4.heap.size 24 #[.int .i64 o, .int .i64 ya, .int .i64 yb, .int .i64 yc, .int .i64 yd, .int .i64 yk, .int .u32 yi] := Blk.new w4 24 _
    replace HW := Lib.hid (HW.out.alloc HW.out.size (.cells #[.int .i64 o, .int .i64 ya, .int .i64 yb, .int .i64 yc, .int .i64 yd, .int .i64 yk, .int .u32 yi] 24))
    have HBY := Lib.hid BY
    clear BY
    go_wp2_with fail
    refine (HRD.out _ HW.out).mono ?_
    rintro e w5 ⟨rfl, hb⟩
    replace HW := Lib.hid (HW.out.call hb HW.out.size)
    have b1 : Blk (w5.alloc (.cells #[.int .i64 o, .int .i64 ya, .int .i64 yb, .int .i64 yc, .int .i64 yd, .int .i64 yk, .int .u32 yi] 24)) w4.heap.size 24 #[.int .i64 o, .int .i64 ya, .int .i64 yb, .int .i64 yc, .int .i64 yd, .int .i64 yk, .int .u32 yi] := (HBY.out.call hb).alloc _
    have b2 : Blk (w5.alloc (.cells #[.int .i64 o, .int .i64 ya, .int .i64 yb, .int .i64 yc, .int .i64 yd, .int .i64 yk, .int .u32 yi] 24)) w5.heap.size 24 #[.int .i64 o, .int .i64 ya, .int .i64 yb, .int .i64 yc, .int .i64 yd, .int .i64 yk, .int .u32 yi] := Blk.new w5 24 _
    obtain ⟨a0, a1, a2, a3, a4, a5, a6, a7, a8, a9, a10, a11, a12, a13⟩ := b1.facts7
    obtain ⟨e0, e1, e2, e3, e4, e5, e6, e7, e8, e9, e10, e11, e12, e13⟩ := b2.facts7
    replace HW := Lib.hid (HW.out.alloc HW.out.size (.cells #[.int .i64 o, .int .i64 ya, .int .i64 yb, .int .i64 yc, .int .i64 yd, .int .i64 yk, .int .u32 yi] 24))
    clear a7 a8 a9 a10 a11 a12 a13 e7 e8 e9 e10 e11 e12 e13 b1 b2 hb HBY HRD
    go_wp2_with fail
    go_ret
    exact ⟨rfl, HW.out⟩
end Go.Proofs.YtdkclapinedgiaaGreatDoor
