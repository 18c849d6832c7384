/- Contract: strconv.FormatUint at base 16. -/
/- Contract: strconv.FormatUint at base 16. -/
import Derived.Test.YtdkclapinedgiaaGreatDoorG0
import Derived.WalkKit
import Derived.WalkSpells
import Derived.WalkLawsBesides
import Derived.Lib.SlBytesConst
import Derived.Laws.IdiomStrings

namespace Go.Proofs.YtdkclapinedgiaaGreatDoor
open Go.RowKit

set_option maxHeartbeats 1000000 in
theorem pow2_16 (w : World) : Calls Tryz.prog 197 #[.int .i64 16] w fun e w' => e = .returned (.bool true) ∧ w = w' := by
  go_enter Tryz.func197, Tryz.ntmps197
  go_wp2
  go_ret
  exact ⟨by first | rfl | decide, rfl⟩
set_option maxHeartbeats 1000000 in
theorem tz64_16 (w : World) (h : w.cell? ⟨11, 15, none⟩ = some (.int .u8 4)) : Calls Tryz.prog 210 #[.int .u64 16] w fun e w' => e = .returned (.int .i64 4) ∧ w = w' := by
  have hidx : IntKind.u64.wrap (bits BinOp.and IntKind.u64 16 (IntKind.u64.wrap (-16)) * 285870213051353865) / 288230376151711744 = 15 := by decide +kernel
  go_enter Tryz.func210, Tryz.ntmps210
  go_wp2
  go_ret
  exact ⟨rfl, rfl⟩
set_option maxHeartbeats 1000000 in
theorem tz_16 (w : World) (h : w.cell? ⟨11, 15, none⟩ = some (.int .u8 4)) : Calls Tryz.prog 198 #[.int .u64 16] w fun e w' => e = .returned (.int .i64 4) ∧ w = w' := by
  have H := Lib.hid (tz64_16 w h)
  clear h
  go_enter Tryz.func198, Tryz.ntmps198
  go_wp2_with (go_at_call 210; refine H.out.mono ?_; rintro e w' ⟨rfl, rfl⟩)
  go_ret
  exact ⟨rfl, rfl⟩
end Go.Proofs.YtdkclapinedgiaaGreatDoor

namespace Go.Proofs.YtdkclapinedgiaaGreatDoor
open Go.RowKit

/-- The digit of a number below 16. -/
def hexDig (d : Nat) : UInt8 := if d < 10 then UInt8.ofNat (48 + d) else UInt8.ofNat (87 + d)
/-- The digits of a number to the base 16, ahead of others. -/
def hexGo : Nat → Nat → List UInt8 → List UInt8
  | 0, _, acc => acc
  | f + 1, n, acc => if n < 16 then hexDig n :: acc else hexGo f (n / 16) (hexDig (n % 16) :: acc)
def hexL (n : Nat) : List UInt8 := hexGo 8 n []

theorem and15u (n : Nat) (h : n < 4294967296) : bits BinOp.and IntKind.u64 (n : Int) 15 = (n : Int) % 16 := by
  have h3 : bits BinOp.and IntKind.u64 (n : Int) 15 = ((n &&& 15 : Nat) : Int) := u64_and_nat n 15 (by omega) (by decide)
  rw [h3, Nat.and_two_pow_sub_one_eq_mod n 4]
  simp
def u8v (b : UInt8) : Value := .int .u8 (b.toNat : Int)
def hexCells (acc : List UInt8) : Array Value := (List.replicate (65 - acc.length) (Value.int .u8 0) ++ acc.map u8v).toArray
theorem zero201 : Tryz.zeroCells201 = hexCells [] := by kernel_rfl
theorem hexCells_set (acc : List UInt8) (j : Nat) (d : UInt8) (h : j + 1 + acc.length = 65) : (hexCells acc).setIfInBounds j (u8v d) = hexCells (d :: acc) := by
  unfold hexCells
  rw [List.setIfInBounds_toArray]
  congr 1
  rw [List.set_append_left _ _ (by simp; omega)]
  rw [show 65 - acc.length = j + 1 by omega, show 65 - (d :: acc).length = j by simp; omega]
  apply List.ext_getElem?
  intro k
  by_cases hk : k < j
  · rw [List.getElem?_append_left (by simp; omega), List.getElem?_append_left (by simp; omega), List.getElem?_set_ne (by omega)]
    rw [List.getElem?_replicate, List.getElem?_replicate, if_pos (by omega), if_pos (by omega)]
  · by_cases hk2 : k = j
    · subst hk2
      rw [List.getElem?_append_left (by simp), List.getElem?_append_right (by simp)]
      simp
    · rw [List.getElem?_append_right (by simp; omega), List.getElem?_append_right (by simp; omega)]
      rw [List.length_set, List.length_replicate, List.length_replicate, show k - j = (k - (j + 1)) + 1 by omega]
      simp
theorem hexCells_low (acc : List UInt8) (j : Nat) (h : j + 1 + acc.length = 65) : (hexCells acc)[j]? = some (.int .u8 0) := by
  unfold hexCells
  rw [List.getElem?_toArray, List.getElem?_append_left (by simp; omega), List.getElem?_replicate, if_pos (by omega)]
theorem hexCells_high (acc : List UInt8) (j i : Nat) (h : j + acc.length = 65) (hi : i < acc.length) : (hexCells acc)[j + i]? = some (u8v acc[i]) := by
  unfold hexCells
  rw [List.getElem?_toArray, List.getElem?_append_right (by simp; omega)]
  simp [show j + i - (65 - acc.length) = i by omega, hi]

theorem d36_size : (⟨#[48, 49, 50, 51, 52, 53, 54, 55, 56, 57, 97, 98, 99, 100, 101, 102, 103, 104, 105, 106, 107, 108, 109, 110, 111, 112, 113, 114, 115, 116, 117, 118, 119, 120, 121, 122]⟩ : ByteArray).size = 36 := by decide
theorem dig36 (k : Nat) (hk : k < 16) (h : k < (⟨#[48, 49, 50, 51, 52, 53, 54, 55, 56, 57, 97, 98, 99, 100, 101, 102, 103, 104, 105, 106, 107, 108, 109, 110, 111, 112, 113, 114, 115, 116, 117, 118, 119, 120, 121, 122]⟩ : ByteArray).size) : (⟨#[48, 49, 50, 51, 52, 53, 54, 55, 56, 57, 97, 98, 99, 100, 101, 102, 103, 104, 105, 106, 107, 108, 109, 110, 111, 112, 113, 114, 115, 116, 117, 118, 119, 120, 121, 122]⟩ : ByteArray)[k]'h = hexDig k := by
  rcases k with _ | _ | _ | _ | _ | _ | _ | _ | _ | _ | _ | _ | _ | _ | _ | _ | k
  all_goals first | rfl | omega

def HexAt (w wr : World) (i u : Value) (N : Nat) : Prop :=
  ∃ (f n k : Nat) (acc : List UInt8), f + 1 + acc.length = 8 ∧ k + acc.length = 65 ∧ n < 16 ^ (f + 1) ∧ hexGo (f + 1) n acc = hexL N ∧ i = .int .i64 (k : Int) ∧ u = .int .u64 (n : Int) ∧
    Blk wr w.heap.size 201 (hexCells acc) ∧ Below w.heap.size w wr

set_option maxRecDepth 100000 in
set_option maxHeartbeats 4000000 in
theorem formatBits_16 (N : Nat) (hN : N < 4294967296) (w : World) (h : w.cell? ⟨11, 15, none⟩ = some (.int .u8 4)) (h12 : 12 ≤ w.heap.size) :
    Calls Tryz.prog 183 #[.slice none 0 0, .int .u64 N, .int .i64 16, .bool false, .bool false] w fun e w' => e = .returned (.tuple #[.slice none 0 0, .string ⟨(hexL N).toArray⟩]) ∧ Below w.heap.size w w' := by
  have HT := Lib.hid (show ∀ o : Obj, Calls Tryz.prog 198 #[.int .u64 16] (w.alloc o) fun e w' => e = .returned (.int .i64 4) ∧ w.alloc o = w' from fun o => tz_16 _ (by rw [World.cell?_alloc_lt _ _ _ (by simp; omega)]; exact h))
  have H12 := Lib.hid h12
  clear h h12
  go_enter Tryz.func183, Tryz.ntmps183
  go_wp2_with (first
    | (go_at_call 197; refine (pow2_16 _).mono ?_; rintro e w' ⟨rfl, rfl⟩)
    | (go_at_call 198; refine (HT.out _).mono ?_; rintro e w' ⟨rfl, rfl⟩))
  refine name_world (fun W => HexAt w W (.int .i64 ((65 : Nat) : Int)) (.int .u64 (N : Int)) N) _ ⟨7, N, 65, [], rfl, rfl, by omega, rfl, rfl, rfl, by rw [zero201]; exact Blk.new _ _ _, (Below.refl _ _).alloc (Nat.le_refl _) _⟩ ?_
  intro W0 hW0
  go_loopw [1, 13] (fun u i wr => HexAt w wr i u N) (fun u _ _ => (intOf u).toNat)
  case atStart => exact hW0
  case round =>
    obtain ⟨f, n, k, acc, hf, hk, hn, hg, rfl, rfl, hb, hB⟩ := hrel
    obtain ⟨j, rfl⟩ : ∃ j, k = j + 1 := ⟨k - 1, by omega⟩
    have hn32 : n < 4294967296 := by
      have : 16 ^ (f + 1) ≤ 16 ^ 8 := Nat.pow_le_pow_right (by decide) (by omega)
      have h8 : (16 : Nat) ^ 8 = 4294967296 := by decide
      omega
    have hc := (hb.cell j).trans (hexCells_low acc j (by omega))
    have hz := hb.frozen j
    have q1 := and15u n hn32
    have HB := Lib.hid hb
    have HBB := Lib.hid hB
    have HG := Lib.hid hg
    have hj65 : (j : Int) < 65 := by omega
    have HF := Lib.hid hf
    have HK := Lib.hid hk
    have HN := Lib.hid hn
    clear hb hB hg hf hk hn
    by_cases hlt : 16 ≤ n
    · go_wp2
      simp only [dig36 (n % 16) (Nat.mod_lt _ (by decide))]
      have hf := HF.out
      have hg := HG.out
      obtain ⟨f', rfl⟩ : ∃ f', f = f' + 1 := by
        rcases f with _ | f
        · have := HN.out; simp at this; omega
        · exact ⟨f, rfl⟩
      refine ⟨⟨f', n / 16, j, hexDig (n % 16) :: acc, by simp; omega, by have := HK.out; simp; omega, ?_, ?_, rfl, by simp, ?_, HBB.out.setCell (Nat.le_refl _) _⟩, by simp [intOf]; omega⟩
      · have := HN.out
        rw [Nat.pow_succ] at this
        omega
      · rw [hexGo, if_neg (by omega)] at hg
        exact hg
      · have h := HB.out.set_ j (u8v (hexDig (n % 16)))
        rw [hexCells_set acc j _ HK.out] at h
        exact h
    · have hW : Blk (wr.setCell ⟨w.heap.size, j, none⟩ (u8v (hexDig n))) w.heap.size 201 (hexCells (hexDig n :: acc)) := by
        have h := HB.out.set_ j (u8v (hexDig n))
        rw [hexCells_set acc j _ HK.out] at h
        exact h
      have hcv : (convert 44 9 (.slice (some ⟨w.heap.size, j, none⟩) (65 - j) (65 - j))).run Tryz.prog (wr.setCell ⟨w.heap.size, j, none⟩ (u8v (hexDig n))) = .ok (.string ⟨(hexDig n :: acc).toArray⟩) (wr.setCell ⟨w.heap.size, j, none⟩ (u8v (hexDig n))) := by
        have h := run_convert_bytes_back (P := Tryz.prog) (wr.setCell ⟨w.heap.size, j, none⟩ (u8v (hexDig n))) 44 9 5 ⟨w.heap.size, j, none⟩ (65 - j) (hexDig n :: acc) Tryz.underlying44 Tryz.underlying5 Tryz.underlying9 (fun i hi => by
          rw [Lib.add_plain, hW.cell]
          exact hexCells_high (hexDig n :: acc) j i (by have := HK.out; simp; omega) hi)
        rw [show (hexDig n :: acc).length = 65 - j by have := HK.out; simp; omega] at h
        exact h
      have hd := fun h => dig36 n (by omega) h
      unfold u8v at hcv
      have hl2 : ¬ (16 : Int) ≤ n := by omega
      have hl3 : (n : Int) < 36 := by omega
      have hal : Tryz.prog.arrayLen 201 = 65 := by simp [Program.arrayLen, Tryz.underlying201]
      have hsl : ∀ W, (Instr.sliceAt 201 (.pointer (some ⟨w.heap.size, 0, none⟩)) (some (.int .i64 (j : Int))) none none).run Tryz.prog W = .ok (.slice (some ⟨w.heap.size, j, none⟩) (65 - j) (65 - j)) W := fun W => by
        rw [run_sliceAt_array_l W 201 ⟨w.heap.size, 0, none⟩ (by simp [Program.arrayLen, Program.elem, Tryz.underlying201]) .i64 (j : Int) (by omega) (by rw [hal]; omega)]
        go_simp
        omega
      clear hW hal
      go_wp2
      go_ret2
      refine ⟨?_, HBB.out.setCell (Nat.le_refl _) _⟩
      have hg := HG.out
      rw [hexGo, if_pos (by omega)] at hg
      rw [← hg]
      rfl

set_option maxHeartbeats 1000000 in
theorem iFormatUint_16 (N : Nat) (hN : N < 4294967296) (w : World) (he : Env w) :
    Calls Tryz.prog 171 #[.int .u64 N, .int .i64 16] w fun e w' => e = .returned (.string ⟨(hexL N).toArray⟩) ∧ Below w.heap.size w w' := by
  have H := Lib.hid (formatBits_16 N hN w he.bruijn he.size)
  clear he
  go_enter Tryz.func171, Tryz.ntmps171
  go_wp2_with (go_at_call 183; refine H.out.mono ?_; rintro e w' ⟨rfl, hb⟩)
  go_ret
  exact ⟨rfl, hb⟩
set_option maxHeartbeats 1000000 in
theorem formatUint_16 (N : Nat) (hN : N < 4294967296) (w : World) (he : Env w) :
    Calls Tryz.prog 139 #[.int .u64 N, .int .i64 16] w fun e w' => e = .returned (.string ⟨(hexL N).toArray⟩) ∧ Below w.heap.size w w' := by
  have H := Lib.hid (iFormatUint_16 N hN w he)
  clear he
  go_enter Tryz.func139, Tryz.ntmps139
  go_wp2_with (go_at_call 171; refine H.out.mono ?_; rintro e w' ⟨rfl, hb⟩)
  go_ret
  exact ⟨rfl, hb⟩
theorem hexGo_length (f n : Nat) (acc : List UInt8) : (hexGo f n acc).length ≤ f + acc.length := by
  induction f generalizing n acc with
  | zero => simp [hexGo]
  | succ f ih =>
    rw [hexGo]
    split
    · simp; omega
    · have := ih (n / 16) (hexDig (n % 16) :: acc); simp at this; omega
theorem hexL_length (n : Nat) : (hexL n).length ≤ 8 := hexGo_length 8 n []
set_option maxHeartbeats 1000000 in
theorem hex_any (i : Int) (h0 : 0 ≤ i) (h1 : i < 4294967296) (w : World) (he : Env w) :
    Calls Tryz.prog 112 #[.int .u32 i] w fun e w' => e = .returned (.string ⟨(48 :: 120 :: hexL i.toNat).toArray⟩) ∧ Below w.heap.size w w' := by
  obtain ⟨n, rfl⟩ : ∃ n : Nat, i = n := ⟨i.toNat, by omega⟩
  have H := Lib.hid (formatUint_16 n (by omega) w he)
  have hl : 2 + (hexL n).length ≤ 9223372036854775807 := by have := hexL_length n; omega
  clear he
  go_enter Tryz.func112, Tryz.ntmps112
  go_wp2_with (go_at_call 139; refine H.out.mono ?_; rintro e w' ⟨rfl, hb⟩)
  go_ret
  exact ⟨by simp [ba_app], hb⟩
end Go.Proofs.YtdkclapinedgiaaGreatDoor
