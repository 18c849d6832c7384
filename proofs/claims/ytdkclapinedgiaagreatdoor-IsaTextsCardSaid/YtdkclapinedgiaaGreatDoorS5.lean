/- The examples of sane: what the plain functions answer. -/
/- Contract: sane of the law's package (function 15): true. -/
/- Contract: sane of the law's package (function 15): true. -/
import Derived.Test.YtdkclapinedgiaaGreatDoorH11
import Derived.Test.YtdkclapinedgiaaGreatDoorL2
import Derived.Test.YtdkclapinedgiaaGreatDoorF2
import Derived.Test.YtdkclapinedgiaaGreatDoorC4
import Derived.Test.YtdkclapinedgiaaGreatDoorE3

/- Closed facts of sane's examples: bytes, decodings, ranks. -/
/- Contract: sane of the law's package: the pieces' contracts. -/

namespace Go.Proofs.YtdkclapinedgiaaGreatDoor
open Go.RowKit
theorem ex1 : textL ⟨27, 2, 1, 0, 0, -4, 0⟩ = [108, 111, 97, 100, 56, 32, 114, 50, 44, 32, 91, 114, 49, 45, 52, 93] := by decide +kernel
theorem ex1p : parseOf [108, 111, 97, 100, 56, 32, 114, 50, 44, 32, 91, 114, 49, 45, 52, 93] = (⟨27, 2, 1, 0, 0, -4, 0⟩, 0) := by decide +kernel
theorem ex2 : parseOf [108, 111, 97, 100, 56, 32, 114, 50, 44, 32, 91, 114, 49, 43, 48, 93] = (insn0, 4) := by decide +kernel
theorem ex3 : parseOf [110, 111, 112, 32] = (insn0, 4) := by decide +kernel
theorem ex4 : textL ⟨71, 1, 2, 3, 2, 0, 255⟩ = [108, 101, 97, 32, 114, 49, 44, 32, 114, 50, 44, 32, 114, 51, 44, 32, 50, 44, 32, 48, 120, 102, 102] := by decide +kernel
theorem ex4p : parseOf [108, 101, 97, 32, 114, 49, 44, 32, 114, 50, 44, 32, 114, 51, 44, 32, 50, 44, 32, 48, 120, 102, 102] = (⟨71, 1, 2, 3, 2, 0, 255⟩, 0) := by decide +kernel
theorem ex5 : textL ⟨51, 1, 2, 7, 1, 0, 0⟩ = [118, 97, 100, 100, 32, 118, 49, 44, 32, 118, 50, 44, 32, 118, 55, 44, 32, 49, 54] := by decide +kernel
theorem ex5p : parseOf [118, 97, 100, 100, 32, 118, 49, 44, 32, 118, 50, 44, 32, 118, 55, 44, 32, 49, 54] = (⟨51, 1, 2, 7, 1, 0, 0⟩, 0) := by decide +kernel
theorem ex6 : textL ⟨67, 0, 0, 0, 1, 0, 0⟩ = [106, 99, 99, 32, 110, 101, 44, 32, 48, 120, 48] := by decide +kernel
theorem ex6p : parseOf [106, 99, 99, 32, 110, 101, 44, 32, 48, 120, 48] = (⟨67, 0, 0, 0, 1, 0, 0⟩, 0) := by decide +kernel
end Go.Proofs.YtdkclapinedgiaaGreatDoor

namespace Go.Proofs.YtdkclapinedgiaaGreatDoor
open Go.RowKit
theorem by1 : (⟨3, 1, 2, 3, 0, 0, 0⟩ : Insn).bytes = [3, 33, 3, 0] := by decide +kernel
theorem by2 : (⟨64, 7, 0, 0, 0, 0, 305419896⟩ : Insn).bytes = [64, 7, 0, 0, 120, 86, 52, 18] := by decide +kernel
theorem va1 : (⟨3, 1, 2, 3, 0, 0, 0⟩ : Insn).valid = true := by decide +kernel
theorem va2 : (⟨64, 7, 0, 0, 0, 0, 305419896⟩ : Insn).valid = true := by decide +kernel
theorem va3 : (⟨27, 2, 1, 0, 0, -4, 0⟩ : Insn).valid = true := by decide +kernel
theorem va4 : (⟨71, 1, 2, 3, 2, 0, 255⟩ : Insn).valid = true := by decide +kernel
theorem va5 : (⟨51, 1, 2, 7, 1, 0, 0⟩ : Insn).valid = true := by decide +kernel
theorem va6 : (⟨67, 0, 0, 0, 1, 0, 0⟩ : Insn).valid = true := by decide +kernel
theorem va7 : (⟨34, 3, 0, 0, 0, 0, 0⟩ : Insn).valid = true := by decide +kernel
theorem va8 : (⟨1, 0, 0, 0, 0, 0, 0⟩ : Insn).valid = true := by decide +kernel
theorem va9 : (⟨2, 0, 0, 0, 0, 0, 0⟩ : Insn).valid = true := by decide +kernel
theorem va10 : (⟨2, 15, 15, 0, 0, 0, 0⟩ : Insn).valid = true := by decide +kernel
theorem va11 : (⟨3, 0, 0, 1, 0, 0, 0⟩ : Insn).valid = true := by decide +kernel
theorem va12 : (⟨72, 0, 15, 0, 0, 0, 4294967295⟩ : Insn).valid = true := by decide +kernel
theorem de1 : decode [27, 18, 0, 252, 9] = (⟨27, 2, 1, 0, 0, -4, 0⟩, 4, 0) := by decide +kernel
theorem de2 : decode [3, 33, 19, 0] = (insn0, 0, 6) := by decide +kernel
theorem de3 : decode [62, 0, 0, 0] = (insn0, 0, 6) := by decide +kernel
theorem de4 : decode [64, 7, 0, 0, 1] = (insn0, 0, 6) := by decide +kernel
theorem li1 : endAt (insns 9 0 [1, 0, 0, 0, 42, 0, 0, 0, 62]) = 8 := by decide +kernel
theorem ra1 : rankOf ⟨1, 0, 0, 0, 0, 0, 0⟩ = 0 := by decide +kernel
theorem ra2 : rankOf ⟨2, 0, 0, 0, 0, 0, 0⟩ = 1 := by decide +kernel
theorem ra3 : rankOf ⟨2, 15, 15, 0, 0, 0, 0⟩ = 256 := by decide +kernel
theorem ra4 : rankOf ⟨3, 0, 0, 1, 0, 0, 0⟩ = 258 := by decide +kernel
theorem ra5 : rankOf ⟨72, 0, 15, 0, 0, 0, 4294967295⟩ = 73882029336997 := by decide +kernel
theorem un1 : unrankOf 0 = (⟨1, 0, 0, 0, 0, 0, 0⟩, 0) := by decide +kernel
theorem un2 : unrankOf 1 = (⟨2, 0, 0, 0, 0, 0, 0⟩, 0) := by decide +kernel
theorem un3 : unrankOf 256 = (⟨2, 15, 15, 0, 0, 0, 0⟩, 0) := by decide +kernel
theorem un4 : unrankOf 258 = (⟨3, 0, 0, 1, 0, 0, 0⟩, 0) := by decide +kernel
theorem un5 : unrankOf 73882029336997 = (⟨72, 0, 15, 0, 0, 0, 4294967295⟩, 0) := by decide +kernel
theorem co1 : IntKind.u64.wrap (belowOf 73) = 73882029336998 := by decide +kernel
theorem li1b : (endAt (insns 9 0 [1, 0, 0, 0, 42, 0, 0, 0, 62]) : Int) < (9 : Nat) := by rw [li1]; decide
end Go.Proofs.YtdkclapinedgiaaGreatDoor

namespace Go.Proofs.YtdkclapinedgiaaGreatDoor
open Go.RowKit

theorem enc1 (W : World) : Calls Tryz.prog 28 #[.agg #[.int .i64 3, .int .i64 1, .int .i64 2, .int .i64 3, .int .i64 0, .int .i64 0, .int .u32 0]] W fun e w' =>
    (∃ g cap, e = .returned (.tuple #[.slice (some ⟨g, 0, none⟩) 4 cap, .int .i64 0]) ∧ Reads w' w'.heap.size 1 (some ⟨g, 0, none⟩) 4 (u8s [3, 33, 3, 0])) ∧ Below W.heap.size W w' :=
  (encode_short ⟨3, 1, 2, 3, 0, 0, 0⟩ W va1 (by decide)).mono fun e w' ⟨⟨v, h1, h2⟩, h3⟩ => by
    rw [by1] at h2
    obtain ⟨g, cap, rfl⟩ := ownsRow_succ (k := 3) h2
    exact ⟨⟨g, cap, h1, Reads.of_own h2⟩, h3⟩
theorem enc2 (W : World) : Calls Tryz.prog 28 #[.agg #[.int .i64 64, .int .i64 7, .int .i64 0, .int .i64 0, .int .i64 0, .int .i64 0, .int .u32 305419896]] W fun e w' =>
    (∃ g cap, e = .returned (.tuple #[.slice (some ⟨g, 0, none⟩) 8 cap, .int .i64 0]) ∧ Reads w' w'.heap.size 1 (some ⟨g, 0, none⟩) 8 (u8s [64, 7, 0, 0, 120, 86, 52, 18])) ∧ Below W.heap.size W w' :=
  (encode_long ⟨64, 7, 0, 0, 0, 0, 305419896⟩ W va2 (by decide) (by decide) (by decide)).mono fun e w' ⟨⟨v, h1, h2⟩, h3⟩ => by
    rw [by2] at h2
    obtain ⟨g, cap, rfl⟩ := ownsRow_succ (k := 7) h2
    exact ⟨⟨g, cap, h1, Reads.of_own h2⟩, h3⟩
theorem dec_c (g n c : Nat) (l : List Int) (x : Insn) (m er : Int) (W : World) (cs : Array Value) (hb : Blk W g 5 cs) (hc : cs.toList = u8s l) (hn : l.length = n) (hl : ∀ y ∈ l, 0 ≤ y ∧ y < 256) (hd : decode l = (x, m, er)) :
    Calls Tryz.prog 29 #[.slice (some ⟨g, 0, none⟩) n c] W fun e w' => e = .returned (.tuple #[.agg x.cs, .int .i64 m, .int .i64 er]) ∧ Below W.heap.size W w' := by
  have := decode_any (some ⟨g, 0, none⟩) n c l W (reads_of_blk hb hc (by simp [u8s, hn])) hl
  unfold DecPost at this
  rw [hd] at this
  exact this
theorem par_c (s : List UInt8) (hs : s.length ≤ 1000000) (ha : ∀ b ∈ s, b.toNat < 128) (hp : parseOf s = (insn0, 4)) (W : World) (he : Env W) :
    Calls Tryz.prog 18 #[.string ⟨s.toArray⟩] W fun e w' => e = .returned (.tuple #[.agg insn0.cs, .int .i64 4]) ∧ Below W.heap.size W w' := by
  have := parse_any s hs (hix_ascii s hs ha) W he
  unfold ParsePost at this
  rw [hp] at this
  exact this
theorem in1 : (⟨27, 2, 1, 0, 0, -4, 0⟩ : Insn).In := ⟨by decide, by decide, by decide, by decide, by decide, by decide, by decide⟩
theorem in4 : (⟨71, 1, 2, 3, 2, 0, 255⟩ : Insn).In := ⟨by decide, by decide, by decide, by decide, by decide, by decide, by decide⟩
theorem in5 : (⟨51, 1, 2, 7, 1, 0, 0⟩ : Insn).In := ⟨by decide, by decide, by decide, by decide, by decide, by decide, by decide⟩
theorem in6 : (⟨67, 0, 0, 0, 1, 0, 0⟩ : Insn).In := ⟨by decide, by decide, by decide, by decide, by decide, by decide, by decide⟩
theorem count_c (W : World) : Calls Tryz.prog 26 #[] W fun e w' => e = .returned (.int .u64 73882029336998) ∧ Below W.heap.size W w' := by
  have := Count_any W
  unfold BelowPost at this
  rw [show belowOf 73 = 73882029336998 from by decide +kernel] at this
  exact this
end Go.Proofs.YtdkclapinedgiaaGreatDoor

namespace Go.Proofs.YtdkclapinedgiaaGreatDoor
open Go.RowKit

/-- The three texts that do not decode, as the loop's slice of slices holds them. -/
structure Lit3 (w : World) (g : Nat) (W : World) : Prop where
  below : Below w.heap.size w W
  b0 : Blk W g 5 #[.int .u8 3, .int .u8 33, .int .u8 19, .int .u8 0]
  b1 : Blk W (g + 1) 5 #[.int .u8 62, .int .u8 0, .int .u8 0, .int .u8 0]
  b2 : Blk W (g + 1 + 1) 5 #[.int .u8 64, .int .u8 7, .int .u8 0, .int .u8 0, .int .u8 1]
  b3 : Blk W (g + 1 + 1 + 1) 44 #[.slice (some ⟨g, 0, none⟩) 4 4, .slice (some ⟨g + 1, 0, none⟩) 4 4, .slice (some ⟨g + 1 + 1, 0, none⟩) 5 5]
theorem Lit3.step {w W W' : World} {g : Nat} (h : Lit3 w g W) (hb : Below W.heap.size W W') : Lit3 w g W' :=
  ⟨h.below.call hb h.below.size, h.b0.call hb, h.b1.call hb, h.b2.call hb, h.b3.call hb⟩
theorem Lit3.cells {w W : World} {g : Nat} (h : Lit3 w g W) : W.cell? ⟨g + 1 + 1 + 1, 0, none⟩ = some (.slice (some ⟨g, 0, none⟩) 4 4) ∧ W.cell? ⟨g + 1 + 1 + 1, 1, none⟩ = some (.slice (some ⟨g + 1, 0, none⟩) 4 4) ∧ W.cell? ⟨g + 1 + 1 + 1, 2, none⟩ = some (.slice (some ⟨g + 1 + 1, 0, none⟩) 5 5) :=
  ⟨h.b3.cell 0, h.b3.cell 1, h.b3.cell 2⟩
def ss1 : List UInt8 := [108, 111, 97, 100, 56, 32, 114, 50, 44, 32, 91, 114, 49, 43, 48, 93]
def ss2 : List UInt8 := [110, 111, 112, 32]
structure Str2 (w : World) (g : Nat) (W : World) : Prop where
  below : Below w.heap.size w W
  b : Blk W g 9 #[.string ⟨ss1.toArray⟩, .string ⟨ss2.toArray⟩]
theorem Str2.step {w W W' : World} {g : Nat} (h : Str2 w g W) (hb : Below W.heap.size W W') : Str2 w g W' := ⟨h.below.call hb h.below.size, h.b.call hb⟩
theorem Str2.cells {w W : World} {g : Nat} (h : Str2 w g W) : W.cell? ⟨g, 0, none⟩ = some (.string ⟨ss1.toArray⟩) ∧ W.cell? ⟨g, 1, none⟩ = some (.string ⟨ss2.toArray⟩) := ⟨h.b.cell 0, h.b.cell 1⟩

set_option maxRecDepth 100000 in
set_option maxHeartbeats 8000000 in
theorem sane_of (w : World) (he : Env w) (hu : ∀ W, Calls Tryz.prog 20 #[.agg #[.int .i64 34, .int .i64 3, .int .i64 0, .int .i64 0, .int .i64 0, .int .i64 0, .int .u32 0]] W fun e w' => e = .returned (.tuple #[.agg #[.int .i64 32776, .int .i64 32768, .int .i64 0, .int .i64 0, .bool false, .bool false, .int .i64 0, .int .i64 4, .bool false], .int .i64 0]) ∧ Below W.heap.size W w') : Calls Tryz.prog 15 #[] w fun e w' => e = .returned (.bool true) ∧ Below w.heap.size w w' := by
  have HE := Lib.hid (below_env he)
  have HU := Lib.hid hu
  clear he hu
  go_enter Tryz.func15, Tryz.ntmps15
  go_wp2_with fail
  refine (enc1 _).mono ?_
  rintro e w1 ⟨⟨g1, k1, rfl, hr1⟩, hb1⟩
  go_wp2_with fail
  refine (enc2 _).mono ?_
  rintro e w2 ⟨⟨g2, k2, rfl, hr2⟩, hb2⟩
  have R1 := Lib.hid ((hr1.below hb2).more hb2.size)
  have R2 := Lib.hid hr2
  have HB := Lib.hid (hb1.call hb2 hb1.size)
  clear hr1 hr2 hb1 hb2
  go_wp2_with fail
  refine (bequal_any (some ⟨g1, 0, none⟩) (some ⟨w2.heap.size, 0, none⟩) 4 4 k1 4 [3, 33, 3, 0] [3, 33, 3, 0] _ ((R1.out.alloc (Nat.le_refl _) _).more (by simp)) (reads_of_blk (blk_at w2 w2.heap.size 5 _ rfl) rfl rfl) (by omega) (by omega)).mono ?_
  rintro e w3 ⟨rfl, q, hw3⟩
  have hb3 : Below w2.heap.size w2 w3 := by rw [hw3]; exact ((Below.refl _ w2).alloc (Nat.le_refl _) _).trans ⟨rfl, rfl, rfl, Nat.le_refl _, fun _ _ => rfl⟩
  have R3 := Lib.hid ((R2.out.below hb3).more hb3.size)
  have HB3 := Lib.hid (HB.out.call hb3 HB.out.size)
  clear hw3 hb3 R1 R2 HB
  rw [show decide (([3, 33, 3, 0] : List Int) = [3, 33, 3, 0]) = true from by decide]
  go_wp2_with fail
  refine (bequal_any (some ⟨g2, 0, none⟩) (some ⟨w3.heap.size, 0, none⟩) 8 8 k2 8 [64, 7, 0, 0, 120, 86, 52, 18] [64, 7, 0, 0, 120, 86, 52, 18] _ ((R3.out.alloc (Nat.le_refl _) _).more (by simp)) (reads_of_blk (blk_at w3 w3.heap.size 5 _ rfl) rfl rfl) (by omega) (by omega)).mono ?_
  rintro e w4 ⟨rfl, q4, hw4⟩
  have hb4 : Below w3.heap.size w3 w4 := by rw [hw4]; exact ((Below.refl _ w3).alloc (Nat.le_refl _) _).trans ⟨rfl, rfl, rfl, Nat.le_refl _, fun _ _ => rfl⟩
  have HB4 := Lib.hid (HB3.out.call hb4 HB3.out.size)
  clear hw4 hb4 R3 HB3
  rw [show decide (([64, 7, 0, 0, 120, 86, 52, 18] : List Int) = [64, 7, 0, 0, 120, 86, 52, 18]) = true from by decide]
  go_wp2_with fail
  refine (dec_c w4.heap.size 5 5 [27, 18, 0, 252, 9] ⟨27, 2, 1, 0, 0, -4, 0⟩ 4 0 _ _ (blk_at w4 w4.heap.size 5 _ rfl) rfl rfl (by decide) de1).mono ?_
  rintro e w5 ⟨rfl, hb5⟩
  have HB5 := Lib.hid ((HB4.out.alloc HB4.out.size _).call hb5 (by have := HB4.out.size; simp; omega))
  clear hb5 HB4
  simp only [Insn.cs]
  go_wp2_with fail
  refine (text_true ⟨27, 2, 1, 0, 0, -4, 0⟩ [108, 111, 97, 100, 56, 32, 114, 50, 44, 32, 91, 114, 49, 45, 52, 93] va3 in1 ex1 ex1p (by decide) (by decide) _ (HE.out _ (HB5.out.alloc HB5.out.size _))).mono ?_
  rintro e w6 ⟨rfl, hb6⟩
  have HB6 := Lib.hid ((HB5.out.alloc HB5.out.size _).call hb6 (by have := HB5.out.size; simp; omega))
  clear hb6 HB5
  go_wp2_with fail
  refine name_world (Lit3 w w6.heap.size) _ ?lit ?_
  case lit =>
    have B := ((((HB6.out.alloc HB6.out.size (.cells #[.int .u8 3, .int .u8 33, .int .u8 19, .int .u8 0] 5)).alloc (by have := HB6.out.size; simp; omega) (.cells #[.int .u8 62, .int .u8 0, .int .u8 0, .int .u8 0] 5)).alloc (by have := HB6.out.size; simp; omega) (.cells #[.int .u8 64, .int .u8 7, .int .u8 0, .int .u8 0, .int .u8 1] 5)).alloc (by have := HB6.out.size; simp; omega)
      (.cells #[.slice (some ⟨w6.heap.size, 0, none⟩) 4 4, .slice (some ⟨w6.heap.size + 1, 0, none⟩) 4 4, .slice (some ⟨w6.heap.size + 1 + 1, 0, none⟩) 5 5] 44))
    exact ⟨B, (((Blk.new w6 5 _).alloc _).alloc _).alloc _, ((blk_at _ (w6.heap.size + 1) 5 _ (by simp)).alloc _).alloc _, (blk_at _ (w6.heap.size + 1 + 1) 5 _ (by simp)).alloc _, blk_at _ (w6.heap.size + 1 + 1 + 1) 44 _ (by simp)⟩
  clear HB6
  generalize w6.heap.size = g
  intro W hW
  obtain ⟨q0, q1, q2⟩ := hW.cells
  have H := Lib.hid hW
  clear hW
  refine wp_loop_rounds 4 ?_
  rw [rounds_succ]
  go_wp2_with fail
  refine (dec_c g 4 4 [3, 33, 19, 0] insn0 0 6 _ _ H.out.b0 rfl rfl (by decide) de2).mono ?_
  rintro e W' ⟨rfl, hb⟩
  replace H := Lib.hid (H.out.step hb)
  clear q0 q1 q2 hb
  obtain ⟨q0, q1, q2⟩ := H.out.cells
  have z0 : g + 1 + 1 + 1 < W'.heap.size := H.out.b3.lt
  simp only [insn0_cs]
  go_wp2_with fail
  rw [rounds_succ]
  go_wp2_with fail
  refine (dec_c (g + 1) 4 4 [62, 0, 0, 0] insn0 0 6 _ _ (H.out.step ((Below.refl _ _).alloc (Nat.le_refl _) _)).b1 rfl rfl (by decide) de3).mono ?_
  rintro e W' ⟨rfl, hb⟩
  replace H := Lib.hid ((H.out.step ((Below.refl _ _).alloc (Nat.le_refl _) _)).step hb)
  clear q0 q1 q2 hb z0
  obtain ⟨q0, q1, q2⟩ := H.out.cells
  have z1 : g + 1 + 1 + 1 < W'.heap.size := H.out.b3.lt
  simp only [insn0_cs]
  go_wp2_with fail
  rw [rounds_succ]
  go_wp2_with fail
  refine (dec_c (g + 1 + 1) 5 5 [64, 7, 0, 0, 1] insn0 0 6 _ _ (H.out.step ((Below.refl _ _).alloc (Nat.le_refl _) _)).b2 rfl rfl (by decide) de4).mono ?_
  rintro e W' ⟨rfl, hb⟩
  replace H := Lib.hid ((H.out.step ((Below.refl _ _).alloc (Nat.le_refl _) _)).step hb)
  clear q0 q1 q2 hb z1
  obtain ⟨q0, q1, q2⟩ := H.out.cells
  have z2 : g + 1 + 1 + 1 < W'.heap.size := H.out.b3.lt
  simp only [insn0_cs]
  go_wp2_with fail
  rw [rounds_succ]
  go_wp2_with fail
  refine (list_any _ 9 9 [1, 0, 0, 0, 42, 0, 0, 0, 62] _ (reads_of_blk (blk_at (World.alloc _ _) (_ + 1) 5 _ (by simp)) rfl rfl) (by unfold Bytes; decide) (by omega) (by omega)).mono ?_
  rintro e w7 ⟨hb7, hls⟩
  rw [if_pos li1b, li1] at hls
  subst hls
  have HB7 := Lib.hid (((H.out.step ((Below.refl _ _).alloc (Nat.le_refl _) _)).step ((Below.refl _ _).alloc (Nat.le_refl _) _)).step hb7).below
  clear hb7 H q0 q1 q2 z2
  go_wp2_with fail
  refine name_world (Str2 w w7.heap.size) _ ⟨HB7.out.alloc HB7.out.size _, Blk.new w7 9 _⟩ ?_
  clear HB7
  generalize w7.heap.size = g
  intro W hW
  obtain ⟨r0, r1⟩ := hW.cells
  have H := Lib.hid hW
  clear hW
  refine wp_loop_rounds 3 ?_
  rw [rounds_succ]
  go_wp2_with fail
  refine (par_c ss1 (by decide) (by decide) ex2 _ (HE.out _ H.out.below)).mono ?_
  rintro e W' ⟨rfl, hb⟩
  replace H := Lib.hid (H.out.step hb)
  clear r0 r1 hb
  obtain ⟨r0, r1⟩ := H.out.cells
  have y0 : g < W'.heap.size := H.out.b.lt
  simp only [insn0_cs]
  go_wp2_with fail
  rw [rounds_succ]
  go_wp2_with fail
  refine (par_c ss2 (by decide) (by decide) ex3 _ (HE.out _ (H.out.step ((Below.refl _ _).alloc (Nat.le_refl _) _)).below)).mono ?_
  rintro e W' ⟨rfl, hb⟩
  replace H := Lib.hid ((H.out.step ((Below.refl _ _).alloc (Nat.le_refl _) _)).step hb)
  clear r0 r1 hb y0
  obtain ⟨r0, r1⟩ := H.out.cells
  have y1 : g < W'.heap.size := H.out.b.lt
  simp only [insn0_cs]
  go_wp2_with fail
  rw [rounds_succ]
  go_wp2_with fail
  refine (text_true ⟨71, 1, 2, 3, 2, 0, 255⟩ [108, 101, 97, 32, 114, 49, 44, 32, 114, 50, 44, 32, 114, 51, 44, 32, 50, 44, 32, 48, 120, 102, 102] va4 in4 ex4 ex4p (by decide) (by decide) _ (HE.out _ (H.out.step ((Below.refl _ _).alloc (Nat.le_refl _) _)).below)).mono ?_
  rintro e w8 ⟨rfl, hb⟩
  have HB8 := Lib.hid ((H.out.step ((Below.refl _ _).alloc (Nat.le_refl _) _)).below.call hb (H.out.step ((Below.refl _ _).alloc (Nat.le_refl _) _)).below.size)
  clear hb H r0 r1 y1
  go_wp2_with fail
  refine (text_true ⟨51, 1, 2, 7, 1, 0, 0⟩ [118, 97, 100, 100, 32, 118, 49, 44, 32, 118, 50, 44, 32, 118, 55, 44, 32, 49, 54] va5 in5 ex5 ex5p (by decide) (by decide) _ (HE.out _ HB8.out)).mono ?_
  rintro e w9 ⟨rfl, hb⟩
  have HB9 := Lib.hid (HB8.out.call hb HB8.out.size)
  clear hb HB8
  go_wp2_with fail
  refine (text_true ⟨67, 0, 0, 0, 1, 0, 0⟩ [106, 99, 99, 32, 110, 101, 44, 32, 48, 120, 48] va6 in6 ex6 ex6p (by decide) (by decide) _ (HE.out _ HB9.out)).mono ?_
  rintro e w10 ⟨rfl, hb⟩
  have HB10 := Lib.hid (HB9.out.call hb HB9.out.size)
  clear hb HB9
  go_wp2_with fail
  refine (HU.out _).mono ?_
  rintro e w11 ⟨rfl, hb⟩
  have HB11 := Lib.hid (HB10.out.call hb HB10.out.size)
  clear hb HB10
  go_wp2_with fail
  refine (rank_true ⟨1, 0, 0, 0, 0, 0, 0⟩ 0 _ va8 (by decide) (by decide) (by decide) (by decide) ra1 un1).mono ?_
  rintro e w12 ⟨rfl, hb⟩
  have HB12 := Lib.hid ((HB11.out.alloc HB11.out.size _).call hb (HB11.out.alloc HB11.out.size _).size)
  clear hb HB11
  go_wp2_with fail
  refine (rank_true ⟨2, 0, 0, 0, 0, 0, 0⟩ 1 _ va9 (by decide) (by decide) (by decide) (by decide) ra2 un2).mono ?_
  rintro e w13 ⟨rfl, hb⟩
  have HB13 := Lib.hid (HB12.out.call hb HB12.out.size)
  clear hb HB12
  go_wp2_with fail
  refine (rank_true ⟨2, 15, 15, 0, 0, 0, 0⟩ 256 _ va10 (by decide) (by decide) (by decide) (by decide) ra3 un3).mono ?_
  rintro e w14 ⟨rfl, hb⟩
  have HB14 := Lib.hid (HB13.out.call hb HB13.out.size)
  clear hb HB13
  go_wp2_with fail
  refine (rank_true ⟨3, 0, 0, 1, 0, 0, 0⟩ 258 _ va11 (by decide) (by decide) (by decide) (by decide) ra4 un4).mono ?_
  rintro e w15 ⟨rfl, hb⟩
  have HB15 := Lib.hid (HB14.out.call hb HB14.out.size)
  clear hb HB14
  go_wp2_with fail
  refine (count_c _).mono ?_
  rintro e w16 ⟨rfl, hb⟩
  have HB16 := Lib.hid (HB15.out.call hb HB15.out.size)
  clear hb HB15
  go_wp2_with fail
  refine (rank_true ⟨72, 0, 15, 0, 0, 0, 4294967295⟩ 73882029336997 _ va12 (by decide) (by decide) (by decide) (by decide) ra5 un5).mono ?_
  rintro e w17 ⟨rfl, hb⟩
  have HB17 := Lib.hid (HB16.out.call hb HB16.out.size)
  clear hb HB16
  go_wp2_with fail
  go_ret
  exact ⟨rfl, HB17.out⟩

/-- What the walk knows of the world: the two arguments lie in their boxes. -/
structure Two (w : World) (x y : Insn) (W : World) : Prop where
  below : Below w.heap.size w W
  bx : Blk W w.heap.size 24 x.cs
  bY : Blk W (w.heap.size + 1) 24 y.cs
theorem Two.step {w W W' : World} {x y : Insn} (h : Two w x y W) (hb : Below W.heap.size W W') : Two w x y W' := ⟨h.below.call hb h.below.size, h.bx.call hb, h.bY.call hb⟩
def sizeOf_ (op : Int) : Nat := if op < 64 then 4 else 8
theorem enc_len (y : Insn) (hy : y.In) (W : World) : Calls Tryz.prog 28 #[.agg y.cs] W fun e w' =>
    (∃ A n c er, e = .returned (.tuple #[.slice A n c, .int .i64 er]) ∧ ((y.valid = true ∧ er = 0 ∧ n = sizeOf_ y.op ∧ n ≤ c ∧ Reads w' w'.heap.size 1 A n (u8s y.bytes)) ∨ (y.valid = false ∧ er = 6 ∧ n = 0))) ∧ Below W.heap.size W w' := by
  cases hv : y.valid
  · exact (encode_no y W hy.k.1 hy.k.2 hv).mono fun e w' ⟨h1, h2⟩ => ⟨⟨none, 0, 0, 6, h1, .inr ⟨rfl, rfl, rfl⟩⟩, h2⟩
  · by_cases hl : y.op < 64
    · refine (encode_short y W hv hl).mono fun e w' ⟨⟨v, h1, h2⟩, h3⟩ => ?_
      obtain ⟨g, cap, rfl⟩ := ownsRow_succ (k := 3) h2
      refine ⟨⟨_, 4, cap, 0, h1, .inl ⟨rfl, rfl, by unfold sizeOf_; rw [if_pos hl], ?_, Reads.of_own h2⟩⟩, h3⟩
      rcases h2.2 with ⟨h, _⟩ | ⟨g', cap', cur, h, _, _, hc, _⟩
      · cases h
      · cases h; exact hc
    · refine (encode_long y W hv (by omega) hy.i.1 hy.i.2).mono fun e w' ⟨⟨v, h1, h2⟩, h3⟩ => ?_
      obtain ⟨g, cap, rfl⟩ := ownsRow_succ (k := 7) h2
      refine ⟨⟨_, 8, cap, 0, h1, .inl ⟨rfl, rfl, by unfold sizeOf_; rw [if_neg hl], ?_, Reads.of_own h2⟩⟩, h3⟩
      rcases h2.2 with ⟨h, _⟩ | ⟨g', cap', cur, h, _, _, hc, _⟩
      · cases h
      · cases h; exact hc
/-- A text cut short does not decode. -/
theorem cut_decode (x : Insn) (n : Nat) (h : n < sizeOf_ x.op) : decode (x.bytes.take n) = (insn0, 0, 6) := by
  unfold sizeOf_ at h
  by_cases h3 : n < 4
  · have : n = 0 ∨ n = 1 ∨ n = 2 ∨ n = 3 := by omega
    rcases this with rfl | rfl | rfl | rfl <;> simp [decode, Insn.bytes]
  · by_cases ho : x.op < 64
    · rw [if_pos ho] at h; omega
    · rw [if_neg ho] at h
      have ho' : 64 ≤ x.op := by omega
      have : n = 4 ∨ n = 5 ∨ n = 6 ∨ n = 7 := by omega
      rcases this with rfl | rfl | rfl | rfl <;> simp [decode, Insn.bytes, ho, ho']
theorem bytes_head (x : Insn) : x.bytes = x.op :: x.bytes.drop 1 := by simp [Insn.bytes]

theorem bytes_in (x : Insn) (hv : x.valid = true) (k : Nat) : Bytes (x.bytes.take k) := by
  obtain ⟨_, ⟨o1, o2, _⟩, ⟨a1, a2⟩, ⟨b1, b2⟩, ⟨c1, c2⟩, ⟨d1, d2⟩, _⟩ := Insn.ok hv
  intro v h
  have h := List.mem_of_mem_take h
  unfold Insn.bytes at h
  split at h
  · simp at h
    rcases h with rfl | rfl | rfl | rfl | rfl | rfl | rfl | rfl <;> omega
  · simp at h
    rcases h with rfl | rfl | rfl | rfl <;> omega
theorem Reads.take {w : World} {B n k : Nat} {A : Option Addr} {xs : List Value} (h : Reads w B 1 A n xs) (hk : k ≤ n) : Reads w B 1 A k (xs.take k) := by
  refine ⟨by rw [List.length_take, h.1]; omega, fun hk0 => ?_⟩
  obtain ⟨ad, rfl, hb, hc⟩ := h.2 (by omega)
  refine ⟨ad, rfl, hb, fun j u hu => hc j u ?_⟩
  rw [List.getElem?_take] at hu
  split at hu
  · exact hu
  · cases hu
end Go.Proofs.YtdkclapinedgiaaGreatDoor

namespace Go.Proofs.YtdkclapinedgiaaGreatDoor
open Go.RowKit
theorem us34 : (usesOf ⟨34, 3, 0, 0, 0, 0, 0⟩).cs = #[.int .i64 32776, .int .i64 32768, .int .i64 0, .int .i64 0, .bool false, .bool false, .int .i64 0, .int .i64 4, .bool false] := by
  have h : ((usesOf ⟨34, 3, 0, 0, 0, 0, 0⟩).r = 32776 ∧ (usesOf ⟨34, 3, 0, 0, 0, 0, 0⟩).w = 32768 ∧ (usesOf ⟨34, 3, 0, 0, 0, 0, 0⟩).vr = 0 ∧ (usesOf ⟨34, 3, 0, 0, 0, 0, 0⟩).vw = 0) ∧
      ((usesOf ⟨34, 3, 0, 0, 0, 0, 0⟩).fi = false ∧ (usesOf ⟨34, 3, 0, 0, 0, 0, 0⟩).fo = false ∧ (usesOf ⟨34, 3, 0, 0, 0, 0, 0⟩).ld = 0 ∧ (usesOf ⟨34, 3, 0, 0, 0, 0, 0⟩).st = 4 ∧ (usesOf ⟨34, 3, 0, 0, 0, 0, 0⟩).j = false) := by decide +kernel
  obtain ⟨⟨h1, h2, h3, h4⟩, h5, h6, h7, h8, h9⟩ := h
  unfold UsesS.cs usesBlk
  rw [h1, h2, h3, h4, h5, h6, h7, h8, h9]
theorem sane_any (w : World) (he : Env w) : Calls Tryz.prog 15 #[] w fun e w' => e = .returned (.bool true) ∧ Below w.heap.size w w' :=
  sane_of w he fun W => (uses_ok ⟨34, 3, 0, 0, 0, 0, 0⟩ W va7).mono fun e w' h => by rw [us34] at h; exact h
end Go.Proofs.YtdkclapinedgiaaGreatDoor
