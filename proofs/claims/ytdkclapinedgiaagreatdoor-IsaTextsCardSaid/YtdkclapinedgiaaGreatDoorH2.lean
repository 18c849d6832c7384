/- Contracts: strconv.ParseUint at base 16 and 32 bits. -/
import Derived.Test.YtdkclapinedgiaaGreatDoorH1
import Derived.Lib.ConvBytes
namespace Go.Proofs.YtdkclapinedgiaaGreatDoor
open Go.RowKit

/-- The value of a digit to the base 16. -/
def hexd (c : Int) : Option Int := if 48 ≤ c ∧ c ≤ 57 then some (c - 48) else if 97 ≤ bits .or .u8 c 32 ∧ bits .or .u8 c 32 ≤ 102 then some (bits .or .u8 c 32 - 87) else none
/-- A number of 32 bits to the base 16, behind what has been read. -/
def hexNum (a : Int) : List UInt8 → Option Int
  | [] => some a
  | c :: l => match hexd (c.toNat : Int) with
    | none => none
    | some d => if 4294967295 < a * 16 + d then none else hexNum (a * 16 + d) l
def Hex16Post (w : World) (o : Option Int) (e : Ending) (w' : World) : Prop :=
  (match o with | some v => e = .returned (.tuple #[.int .u64 v, .nilIface]) | none => ∃ v k : Int, (k = 1 ∨ k = 2) ∧ e = .returned (.tuple #[.int .u64 v, .iface 203 (.int .i64 k)])) ∧ Below w.heap.size w w'

set_option maxRecDepth 100000 in
set_option maxHeartbeats 400000 in
theorem iparse16_empty (w : World) : Calls Tryz.prog 187 #[.string ⟨([] : List UInt8).toArray⟩, .int .i64 16, .int .i64 32] w (Hex16Post w none) := by
  go_enter Tryz.func187, Tryz.ntmps187
  go_wp2
  go_ret2
  exact ⟨⟨0, 2, .inr rfl, rfl⟩, Below.refl _ _⟩

set_option maxHeartbeats 8000000 in
set_option maxRecDepth 100000 in
theorem iparse16_some (bs : List UInt8) (hne : bs ≠ []) (hmax : bs.length ≤ 1000000) (w : World) : Calls Tryz.prog 187 #[.string ⟨bs.toArray⟩, .int .i64 16, .int .i64 32] w (Hex16Post w (hexNum 0 bs)) := by
  have hb0 := Lib.bytesWorld_below w 5 ⟨bs.toArray⟩
  have hcv := Lib.run_convert_string_bytes (P := Tryz.prog) w 9 44 5 ⟨bs.toArray⟩ (u := .string) Tryz.underlying9 Tryz.underlying44 Tryz.underlying5
  have hB : ∀ j (h : j < bs.length), (Lib.bytesWorld w 5 ⟨bs.toArray⟩).cell? ⟨w.heap.size, j, none⟩ = some (.int .u8 (bs[j].toNat : Int)) := fun j hj => by
    have := Lib.bytesWorld_cell w 5 ⟨bs.toArray⟩ j (by rw [ba_size]; exact hj)
    rw [this]; simp [hj]
  have hemp : bs.isEmpty = false := by cases bs with | nil => exact absurd rfl hne | cons => rfl
  have hmv : IntKind.u64.wrap (IntKind.u64.wrap 4294967296 - 1) = 4294967295 := by rw [IntKind.wrap_u64, IntKind.wrap_u64]; decide
  rw [ba_size] at hcv
  generalize Lib.bytesWorld w 5 ⟨bs.toArray⟩ = W1 at *
  have HB := Lib.hid hB
  have HBW := Lib.hid hb0
  clear hB hb0 hne
  go_enter Tryz.func187, Tryz.ntmps187
  go_wp2
  clear hcv hemp hmv
  go_loop [12, 13, 101] (fun vu vn vi => ∃ (k : Nat) (a : Int), vu = .bool false ∧ vn = .int .u64 a ∧ vi = .int .i64 k ∧ k ≤ bs.length ∧ 0 ≤ a ∧ a ≤ 4294967295 ∧ Hid (hexNum 0 bs = hexNum a (bs.drop k)))
    (fun _ _ vi => bs.length - (intOf vi).toNat)
  case atStart => exact ⟨0, 0, rfl, rfl, rfl, by omega, by omega, by omega, rfl⟩
  case round =>
    obtain ⟨k, a, rfl, rfl, rfl, hk, a0, a1, HH⟩ := hrel
    by_cases hkn : k < bs.length
    · have hc := HB.out k hkn
      have hdec := HH.out
      rw [List.drop_eq_getElem_cons hkn] at hdec
      generalize bs[k] = c at hc hdec
      have hc256 : (c.toNat : Int) < 256 := by have := c.toNat_lt; omega
      have hv0 := bits_lo_u8 .or (c.toNat : Int) 32
      have hv1 := bits_hi_u8 .or (c.toNat : Int) 32
      have hu0 := bits_lo_u8 .or 95 32
      have hu1 := bits_hi_u8 .or 95 32
      rw [hexNum] at hdec
      by_cases hdig : 48 ≤ (c.toNat : Int) ∧ (c.toNat : Int) ≤ 57
      · rw [hexd, if_pos hdig] at hdec
        obtain ⟨hd0, hd1⟩ := hdig
        by_cases hov : 4294967295 < a * 16 + ((c.toNat : Int) - 48)
        · simp only [if_pos hov] at hdec
          have HD := Lib.hid hdec
          clear hdec HH
          go_wp2
          go_ret2
          refine ⟨?_, HBW.out⟩
          rw [HD.out]
          exact ⟨_, 1, .inl rfl, rfl⟩
        · simp only [if_neg hov] at hdec
          have HD := Lib.hid hdec
          have iov : a * 16 + ((c.toNat : Int) - 48) ≤ 4294967295 := by omega
          clear hdec HH
          go_wp2
          refine ⟨⟨k + 1, a * 16 + ((c.toNat : Int) - 48), rfl, (by first | rfl | (congr 1; omega)), (by first | rfl | (congr 1; omega)), by omega, by omega, by omega, HD⟩, by simp [intOf]; omega⟩
      · rw [hexd, if_neg hdig] at hdec
        by_cases hlet : 97 ≤ bits .or .u8 (c.toNat : Int) 32 ∧ bits .or .u8 (c.toNat : Int) 32 ≤ 102
        · rw [if_pos hlet] at hdec
          obtain ⟨hd0, hd1⟩ := hlet
          have hc95 : ((c.toNat : Int) == 95) = false := by
            rw [beq_eq_false_iff_ne]
            intro h
            rw [h] at hd1
            exact absurd hd1 (by decide)
          have HL := Lib.hid (fun W => Tryz.internal_strconv_lower (c.toNat : Int) W)
          clear hu0 hu1
          generalize bits .or .u8 (c.toNat : Int) 32 = u at *
          have hc57 : ¬ (48 ≤ (c.toNat : Int) ∧ (c.toNat : Int) ≤ 57) := hdig
          by_cases hov : 4294967295 < a * 16 + (u - 87)
          · simp only [if_pos hov] at hdec
            have HD := Lib.hid hdec
            have iov : 4294967295 < a * 16 + (u - 97 + 10) := by omega
            clear hdec HH hov
            go_wp2_with (go_at_call 205; refine (HL.out _).mono ?_; rintro e w' ⟨rfl, rfl⟩)
            all_goals go_ret2
            all_goals exact ⟨by rw [HD.out]; exact ⟨_, 1, .inl rfl, rfl⟩, HBW.out⟩
          · simp only [if_neg hov] at hdec
            have HD := Lib.hid hdec
            have iov : a * 16 + (u - 97 + 10) ≤ 4294967295 := by omega
            clear hdec HH hov
            go_wp2_with (go_at_call 205; refine (HL.out _).mono ?_; rintro e w' ⟨rfl, rfl⟩)
            all_goals refine ⟨⟨k + 1, a * 16 + (u - 87), rfl, (by first | rfl | (congr 1; omega)), (by first | rfl | (congr 1; omega)), by omega, by omega, by omega, HD⟩, by simp [intOf]; omega⟩
        · rw [if_neg hlet] at hdec
          have HD := Lib.hid hdec
          clear hdec HH
          go_wp2_with (go_at_call 205; refine (Tryz.internal_strconv_lower _ _).mono ?_; rintro e w' ⟨rfl, rfl⟩)
          all_goals go_ret2
          all_goals exact ⟨by rw [HD.out]; exact ⟨_, 2, .inr rfl, rfl⟩, HBW.out⟩
    · have hkk : k = bs.length := by omega
      have HD : Hid (hexNum 0 bs = some a) := by
        unfold Hid
        rw [HH.out, List.drop_eq_nil_of_le (by omega)]; rfl
      clear HH
      subst hkk
      go_wp2
      go_ret2
      exact ⟨by rw [HD.out]; rfl, HBW.out⟩
end Go.Proofs.YtdkclapinedgiaaGreatDoor
