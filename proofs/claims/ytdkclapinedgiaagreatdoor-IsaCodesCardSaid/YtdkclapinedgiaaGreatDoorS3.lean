/- The examples of sane: what the plain functions answer. -/
/- Closed facts of sane's examples: bytes, decodings, ranks. -/
/- Contract: sane of the law's package: the pieces' contracts. -/
import Derived.Test.YtdkclapinedgiaaGreatDoorH11
import Derived.Test.YtdkclapinedgiaaGreatDoorL2
import Derived.Test.YtdkclapinedgiaaGreatDoorF2
import Derived.Test.YtdkclapinedgiaaGreatDoorC4
import Derived.Test.YtdkclapinedgiaaGreatDoorF1

namespace Go.Proofs.YtdkclapinedgiaaGreatDoor
open Go.RowKit
theorem ex1 : textL ⟨27, 2, 1, 0, 0, -4, 0⟩ = [108, 111, 97, 100, 56, 32, 114, 50, 44, 32, 91, 114, 49, 45, 52, 93] := by decide +kernel
theorem ex1p : parseOf [108, 111, 97, 100, 56, 32, 114, 50, 44, 32, 91, 114, 49, 45, 52, 93] = (⟨27, 2, 1, 0, 0, -4, 0⟩, 0) := by decide +kernel
theorem ex2 : parseOf [108, 111, 97, 100, 56, 32, 114, 50, 44, 32, 91, 114, 49, 43, 48, 93] = (insn0, 4) := by decide +kernel
theorem ex3 : parseOf [110, 111, 112, 32] = (insn0, 4) := by decide +kernel
theorem ex4 : textL ⟨71, 1, 2, 3, 2, 0, 255⟩ = [108, 101, 97, 32, 114, 49, 44, 32, 114, 50, 44, 32, 114, 51, 44, 32, 50, 44, 32, 48, 120, 102, 102] := by decide +kernel
theorem ex4p : parseOf [108, 101, 97, 32, 114, 49, 44, 32, 114, 50, 44, 32, 114, 51, 44, 32, 50, 44, 32, 48, 120, 102, 102] = (⟨71, 1, 2, 3, 2, 0, 255⟩, 0) := by decide +kernel
theorem ex5 : textL ⟨51, 1, 2, 7, 1, 0, 0⟩ = [118, 97, 100, 100, 32, 118, 49, 44, 32, 118, 50, 44, 32, 118, 55, 44, 32, 49, 54] := by decide +kernel
theorem ex5p : parseOf [118, 97, 100, 100, 32, 118, 49, 44, 32, 118, 50, 44, 32, 118, 55, 44, 32, 49, 54] = (⟨51, 1, 2, 7, 1, 0, 0⟩, 0) := by decide +kernel
theorem ex6 : textL ⟨67, 0, 0, 0, 1, 0, 0⟩ = [106, 99, 99, 32, 110, 101, 44, 32, 48, 120, 48] := by decide +kernel
theorem ex6p : parseOf [106, 99, 99, 32, 110, 101, 44, 32, 48, 120, 48] = (⟨67, 0, 0, 0, 1, 0, 0⟩, 0) := by decide +kernel
end Go.Proofs.YtdkclapinedgiaaGreatDoor

namespace Go.Proofs.YtdkclapinedgiaaGreatDoor
open Go.RowKit
theorem by1 : (⟨3, 1, 2, 3, 0, 0, 0⟩ : Insn).bytes = [3, 33, 3, 0] := by decide +kernel
theorem by2 : (⟨64, 7, 0, 0, 0, 0, 305419896⟩ : Insn).bytes = [64, 7, 0, 0, 120, 86, 52, 18] := by decide +kernel
theorem va1 : (⟨3, 1, 2, 3, 0, 0, 0⟩ : Insn).valid = true := by decide +kernel
theorem va2 : (⟨64, 7, 0, 0, 0, 0, 305419896⟩ : Insn).valid = true := by decide +kernel
theorem va3 : (⟨27, 2, 1, 0, 0, -4, 0⟩ : Insn).valid = true := by decide +kernel
theorem va4 : (⟨71, 1, 2, 3, 2, 0, 255⟩ : Insn).valid = true := by decide +kernel
theorem va5 : (⟨51, 1, 2, 7, 1, 0, 0⟩ : Insn).valid = true := by decide +kernel
theorem va6 : (⟨67, 0, 0, 0, 1, 0, 0⟩ : Insn).valid = true := by decide +kernel
theorem va7 : (⟨34, 3, 0, 0, 0, 0, 0⟩ : Insn).valid = true := by decide +kernel
theorem va8 : (⟨1, 0, 0, 0, 0, 0, 0⟩ : Insn).valid = true := by decide +kernel
theorem va9 : (⟨2, 0, 0, 0, 0, 0, 0⟩ : Insn).valid = true := by decide +kernel
theorem va10 : (⟨2, 15, 15, 0, 0, 0, 0⟩ : Insn).valid = true := by decide +kernel
theorem va11 : (⟨3, 0, 0, 1, 0, 0, 0⟩ : Insn).valid = true := by decide +kernel
theorem va12 : (⟨72, 0, 15, 0, 0, 0, 4294967295⟩ : Insn).valid = true := by decide +kernel
theorem de1 : decode [27, 18, 0, 252, 9] = (⟨27, 2, 1, 0, 0, -4, 0⟩, 4, 0) := by decide +kernel
theorem de2 : decode [3, 33, 19, 0] = (insn0, 0, 6) := by decide +kernel
theorem de3 : decode [62, 0, 0, 0] = (insn0, 0, 6) := by decide +kernel
theorem de4 : decode [64, 7, 0, 0, 1] = (insn0, 0, 6) := by decide +kernel
theorem li1 : endAt (insns 9 0 [1, 0, 0, 0, 42, 0, 0, 0, 62]) = 8 := by decide +kernel
theorem ra1 : rankOf ⟨1, 0, 0, 0, 0, 0, 0⟩ = 0 := by decide +kernel
theorem ra2 : rankOf ⟨2, 0, 0, 0, 0, 0, 0⟩ = 1 := by decide +kernel
theorem ra3 : rankOf ⟨2, 15, 15, 0, 0, 0, 0⟩ = 256 := by decide +kernel
theorem ra4 : rankOf ⟨3, 0, 0, 1, 0, 0, 0⟩ = 258 := by decide +kernel
theorem ra5 : rankOf ⟨72, 0, 15, 0, 0, 0, 4294967295⟩ = 73882029336997 := by decide +kernel
theorem un1 : unrankOf 0 = (⟨1, 0, 0, 0, 0, 0, 0⟩, 0) := by decide +kernel
theorem un2 : unrankOf 1 = (⟨2, 0, 0, 0, 0, 0, 0⟩, 0) := by decide +kernel
theorem un3 : unrankOf 256 = (⟨2, 15, 15, 0, 0, 0, 0⟩, 0) := by decide +kernel
theorem un4 : unrankOf 258 = (⟨3, 0, 0, 1, 0, 0, 0⟩, 0) := by decide +kernel
theorem un5 : unrankOf 73882029336997 = (⟨72, 0, 15, 0, 0, 0, 4294967295⟩, 0) := by decide +kernel
theorem co1 : IntKind.u64.wrap (belowOf 73) = 73882029336998 := by decide +kernel
theorem li1b : (endAt (insns 9 0 [1, 0, 0, 0, 42, 0, 0, 0, 62]) : Int) < (9 : Nat) := by rw [li1]; decide
end Go.Proofs.YtdkclapinedgiaaGreatDoor

namespace Go.Proofs.YtdkclapinedgiaaGreatDoor
open Go.RowKit

theorem enc1 (W : World) : Calls Tryz.prog 28 #[.agg #[.int .i64 3, .int .i64 1, .int .i64 2, .int .i64 3, .int .i64 0, .int .i64 0, .int .u32 0]] W fun e w' =>
    (∃ g cap, e = .returned (.tuple #[.slice (some ⟨g, 0, none⟩) 4 cap, .int .i64 0]) ∧ Reads w' w'.heap.size 1 (some ⟨g, 0, none⟩) 4 (u8s [3, 33, 3, 0])) ∧ Below W.heap.size W w' :=
  (encode_short ⟨3, 1, 2, 3, 0, 0, 0⟩ W va1 (by decide)).mono fun e w' ⟨⟨v, h1, h2⟩, h3⟩ => by
    rw [by1] at h2
    obtain ⟨g, cap, rfl⟩ := ownsRow_succ (k := 3) h2
    exact ⟨⟨g, cap, h1, Reads.of_own h2⟩, h3⟩
theorem enc2 (W : World) : Calls Tryz.prog 28 #[.agg #[.int .i64 64, .int .i64 7, .int .i64 0, .int .i64 0, .int .i64 0, .int .i64 0, .int .u32 305419896]] W fun e w' =>
    (∃ g cap, e = .returned (.tuple #[.slice (some ⟨g, 0, none⟩) 8 cap, .int .i64 0]) ∧ Reads w' w'.heap.size 1 (some ⟨g, 0, none⟩) 8 (u8s [64, 7, 0, 0, 120, 86, 52, 18])) ∧ Below W.heap.size W w' :=
  (encode_long ⟨64, 7, 0, 0, 0, 0, 305419896⟩ W va2 (by decide) (by decide) (by decide)).mono fun e w' ⟨⟨v, h1, h2⟩, h3⟩ => by
    rw [by2] at h2
    obtain ⟨g, cap, rfl⟩ := ownsRow_succ (k := 7) h2
    exact ⟨⟨g, cap, h1, Reads.of_own h2⟩, h3⟩
theorem dec_c (g n c : Nat) (l : List Int) (x : Insn) (m er : Int) (W : World) (cs : Array Value) (hb : Blk W g 5 cs) (hc : cs.toList = u8s l) (hn : l.length = n) (hl : ∀ y ∈ l, 0 ≤ y ∧ y < 256) (hd : decode l = (x, m, er)) :
    Calls Tryz.prog 29 #[.slice (some ⟨g, 0, none⟩) n c] W fun e w' => e = .returned (.tuple #[.agg x.cs, .int .i64 m, .int .i64 er]) ∧ Below W.heap.size W w' := by
  have := decode_any (some ⟨g, 0, none⟩) n c l W (reads_of_blk hb hc (by simp [u8s, hn])) hl
  unfold DecPost at this
  rw [hd] at this
  exact this
theorem par_c (s : List UInt8) (hs : s.length ≤ 1000000) (ha : ∀ b ∈ s, b.toNat < 128) (hp : parseOf s = (insn0, 4)) (W : World) (he : Env W) :
    Calls Tryz.prog 18 #[.string ⟨s.toArray⟩] W fun e w' => e = .returned (.tuple #[.agg insn0.cs, .int .i64 4]) ∧ Below W.heap.size W w' := by
  have := parse_any s hs (hix_ascii s hs ha) W he
  unfold ParsePost at this
  rw [hp] at this
  exact this
theorem in1 : (⟨27, 2, 1, 0, 0, -4, 0⟩ : Insn).In := ⟨by decide, by decide, by decide, by decide, by decide, by decide, by decide⟩
theorem in4 : (⟨71, 1, 2, 3, 2, 0, 255⟩ : Insn).In := ⟨by decide, by decide, by decide, by decide, by decide, by decide, by decide⟩
theorem in5 : (⟨51, 1, 2, 7, 1, 0, 0⟩ : Insn).In := ⟨by decide, by decide, by decide, by decide, by decide, by decide, by decide⟩
theorem in6 : (⟨67, 0, 0, 0, 1, 0, 0⟩ : Insn).In := ⟨by decide, by decide, by decide, by decide, by decide, by decide, by decide⟩
theorem count_c (W : World) : Calls Tryz.prog 26 #[] W fun e w' => e = .returned (.int .u64 73882029336998) ∧ Below W.heap.size W w' := by
  have := Count_any W
  unfold BelowPost at this
  rw [show belowOf 73 = 73882029336998 from by decide +kernel] at this
  exact this
end Go.Proofs.YtdkclapinedgiaaGreatDoor
