/- Contracts: Decimal, Hex, the tables of texts of the reference. -/
/- Contracts: among, digits, signed, hexed of the reference. -/
/- Contract: put of the reference. -/
/- Contracts: operand of the reference. -/
/- Contract: Text of the reference. -/
/- Contract: Pieces of the reference. -/
import Derived.Test.YtdkclapinedgiaaGreatDoorG3
import Derived.Test.YtdkclapinedgiaaGreatDoorP2
import Derived.Test.YtdkclapinedgiaaGreatDoorW4
import Derived.Test.YtdkclapinedgiaaGreatDoorG4
import Derived.Test.YtdkclapinedgiaaGreatDoorG6
import Derived.Test.YtdkclapinedgiaaGreatDoorJ3
import Derived.Test.YtdkclapinedgiaaGreatDoorG7
import Derived.Test.YtdkclapinedgiaaGreatDoorT2
import Derived.Lib.QuietBelow

namespace Go.Proofs.YtdkclapinedgiaaGreatDoor
open Go.RowKit

theorem itoa_ten : ∀ k : Nat, k < 256 → 10 ≤ k → Lib.itoa (k : Int) = Lib.itoa ((k / 10 : Nat) : Int) ++ Lib.itoa ((k % 10 : Nat) : Int) := by decide +kernel
theorem itoa_neg : ∀ k : Nat, k < 129 → 0 < k → Lib.itoa (-(k : Int)) = 45 :: Lib.itoa (k : Int) := by decide +kernel
theorem hexGo_acc : ∀ (f n : Nat) (acc : List UInt8), hexGo f n acc = hexGo f n [] ++ acc
  | 0, _, acc => rfl
  | f + 1, n, acc => by
    rw [hexGo, hexGo]
    split
    · rfl
    · rw [hexGo_acc f _ (hexDig (n % 16) :: acc), hexGo_acc f _ [hexDig (n % 16)]]; simp
theorem hexGo_more : ∀ (f n : Nat), n < 16 ^ (f + 1) → hexGo (f + 2) n [] = hexGo (f + 1) n []
  | 0, n, h => by
    have h16 : n < 16 := by omega
    rw [show hexGo (0 + 2) n [] = [hexDig n] from by rw [hexGo, if_pos h16], show hexGo (0 + 1) n [] = [hexDig n] from by rw [hexGo, if_pos h16]]
  | f + 1, n, h => by
    have h1 : n / 16 < 16 ^ (f + 1) := by rw [Nat.pow_succ] at h; omega
    by_cases h16 : n < 16
    · rw [show hexGo (f + 1 + 2) n [] = [hexDig n] from by rw [hexGo, if_pos h16], show hexGo (f + 1 + 1) n [] = [hexDig n] from by rw [hexGo, if_pos h16]]
    · rw [show hexGo (f + 1 + 2) n [] = hexGo (f + 2) (n / 16) [hexDig (n % 16)] from by rw [hexGo, if_neg h16], show hexGo (f + 1 + 1) n [] = hexGo (f + 1) (n / 16) [hexDig (n % 16)] from by rw [hexGo, if_neg h16], hexGo_acc (f + 2), hexGo_more f _ h1, ← hexGo_acc]
theorem hexL_ten (n : Nat) (h : n < 4294967296) (h16 : 16 ≤ n) : hexL n = hexL (n / 16) ++ hexL (n % 16) := by
  unfold hexL
  rw [hexGo, if_neg (by omega), hexGo_acc, hexGo_more 6 (n / 16) (by omega), show hexGo 8 (n % 16) [] = [hexDig (n % 16)] from by rw [hexGo, if_pos (by omega)]]
theorem hexL_one : ∀ k : Nat, k < 16 → hexL k = [hexDig k] := by decide +kernel

set_option maxHeartbeats 4000000 in
theorem dec_1 (k : Nat) (hk : k < 10) (w : World) : Calls Tryz.prog 115 #[.int .i64 (k : Int)] w (TextPost w (Lib.itoa k)) := by
  unfold TextPost
  have h : k = 0 ∨ k = 1 ∨ k = 2 ∨ k = 3 ∨ k = 4 ∨ k = 5 ∨ k = 6 ∨ k = 7 ∨ k = 8 ∨ k = 9 := by omega
  rcases h with rfl | rfl | rfl | rfl | rfl | rfl | rfl | rfl | rfl | rfl
  all_goals
    go_enter Tryz.func115, Tryz.ntmps115
    go_wp2_with fail
    go_ret
    exact ⟨by kernel_rfl, Below.refl _ _⟩
set_option maxHeartbeats 4000000 in
theorem dec_n (k : Nat) (hk : k < 256) : ∀ (w : World), Calls Tryz.prog 115 #[.int .i64 (k : Int)] w (TextPost w (Lib.itoa k)) := by
  induction k using Nat.strongRecOn with
  | _ k ih =>
    intro w
    by_cases h10 : k < 10
    · exact dec_1 k h10 w
    · have HA := Lib.hid (ih (k / 10) (by omega) (by omega))
      have HB := Lib.hid (ih (k % 10) (by omega) (by omega))
      rw [itoa_ten k hk (by omega)]
      unfold TextPost at *
      have hs : (Lib.itoa ((k / 10 : Nat) : Int)).length + (Lib.itoa ((k % 10 : Nat) : Int)).length ≤ 9223372036854775807 := by
        have h1 := Lib.itoa_length_le ((k / 10 : Nat) : Int) (by omega) (by omega)
        have h2 := Lib.itoa_length_le ((k % 10 : Nat) : Int) (by omega) (by omega)
        omega
      generalize Lib.itoa ((k / 10 : Nat) : Int) = A at *
      generalize Lib.itoa ((k % 10 : Nat) : Int) = B at *
      clear ih
      go_enter Tryz.func115, Tryz.ntmps115
      go_wp2_with fail
      refine (HA.out _).mono ?_
      rintro e w1 ⟨rfl, hb1⟩
      go_wp2_with fail
      refine (HB.out _).mono ?_
      rintro e w2 ⟨rfl, hb2⟩
      go_wp2_with fail
      go_ret
      exact ⟨by simp [ba_app], hb1.trans (hb2.mono hb1.size)⟩
set_option maxHeartbeats 4000000 in
theorem dec_any (n : Int) (h0 : -128 ≤ n) (h1 : n < 256) (w : World) : Calls Tryz.prog 115 #[.int .i64 n] w (TextPost w (Lib.itoa n)) := by
  by_cases hn : n < 0
  · obtain ⟨k, rfl⟩ : ∃ k : Nat, n = -(k : Int) := ⟨(-n).toNat, by omega⟩
    have HA := Lib.hid (dec_n k (by omega))
    rw [itoa_neg k (by omega) (by omega)]
    unfold TextPost at *
    have hs : (Lib.itoa (k : Int)).length ≤ 100 := by
      have h1 := Lib.itoa_length_le (k : Int) (by omega) (by omega)
      omega
    generalize Lib.itoa (k : Int) = A at *
    have hw : wrap64 (- -(k : Int)) = k := by unfold wrap64; omega
    go_enter Tryz.func115, Tryz.ntmps115
    go_wp2_with fail
    refine (HA.out _).mono ?_
    rintro e w1 ⟨rfl, hb1⟩
    go_wp2_with fail
    go_ret
    exact ⟨by simp [ba_app], hb1⟩
  · obtain ⟨k, rfl⟩ : ∃ k : Nat, n = k := ⟨n.toNat, by omega⟩
    exact dec_n k (by omega) w
theorem rconds_any (w : World) : Calls Tryz.prog 116 #[] w (TabPost w condTab) := by
  go_enter Tryz.func116, Tryz.ntmps116
  go_wp2_with fail
  go_ret
  exact ⟨rfl, rfl⟩
theorem rexts_any (w : World) : Calls Tryz.prog 117 #[] w (TabPost w extTab) := by
  go_enter Tryz.func117, Tryz.ntmps117
  go_wp2_with fail
  go_ret
  exact ⟨rfl, rfl⟩
theorem rlanes_any (w : World) : Calls Tryz.prog 118 #[] w (TabPost w laneTab) := by
  go_enter Tryz.func118, Tryz.ntmps118
  go_wp2_with fail
  go_ret
  exact ⟨rfl, rfl⟩
set_option maxHeartbeats 4000000 in
theorem rhex_1 (k : Nat) (hk : k < 16) (w : World) : Calls Tryz.prog 119 #[.int .u32 (k : Int)] w (TextPost w (hexL k)) := by
  unfold TextPost
  have h : k = 0 ∨ k = 1 ∨ k = 2 ∨ k = 3 ∨ k = 4 ∨ k = 5 ∨ k = 6 ∨ k = 7 ∨ k = 8 ∨ k = 9 ∨ k = 10 ∨ k = 11 ∨ k = 12 ∨ k = 13 ∨ k = 14 ∨ k = 15 := by omega
  rcases h with rfl | rfl | rfl | rfl | rfl | rfl | rfl | rfl | rfl | rfl | rfl | rfl | rfl | rfl | rfl | rfl
  all_goals
    go_enter Tryz.func119, Tryz.ntmps119
    go_wp2_with fail
    go_ret
    exact ⟨by kernel_rfl, Below.refl _ _⟩
set_option maxHeartbeats 4000000 in
theorem rhex_any (k : Nat) (hk : k < 4294967296) : ∀ (w : World), Calls Tryz.prog 119 #[.int .u32 (k : Int)] w (TextPost w (hexL k)) := by
  induction k using Nat.strongRecOn with
  | _ k ih =>
    intro w
    by_cases h10 : k < 16
    · exact rhex_1 k h10 w
    · have HA := Lib.hid (ih (k / 16) (by omega) (by omega))
      have HB := Lib.hid (ih (k % 16) (by omega) (by omega))
      rw [hexL_ten k hk (by omega)]
      unfold TextPost at *
      have hs : (hexL (k / 16)).length + (hexL (k % 16)).length ≤ 9223372036854775807 := by
        have h1 := hexL_length (k / 16)
        have h2 := hexL_length (k % 16)
        omega
      generalize hexL (k / 16) = A at *
      generalize hexL (k % 16) = B at *
      clear ih
      go_enter Tryz.func119, Tryz.ntmps119
      go_wp2_with fail
      refine (HA.out _).mono ?_
      rintro e w1 ⟨rfl, hb1⟩
      go_wp2_with fail
      refine (HB.out _).mono ?_
      rintro e w2 ⟨rfl, hb2⟩
      go_wp2_with fail
      go_ret
      exact ⟨by simp [ba_app], hb1.trans (hb2.mono hb1.size)⟩
end Go.Proofs.YtdkclapinedgiaaGreatDoor

namespace Go.Proofs.YtdkclapinedgiaaGreatDoor
open Go.RowKit

set_option maxHeartbeats 4000000 in
theorem among_any (A : Option Addr) (n c : Nat) (l : List (List UInt8)) (x : List UInt8) (w : World) (hr : Reads w w.heap.size 1 A n (l.map strV)) (hn : n ≤ 1000000) :
    Calls Tryz.prog 124 #[.slice A n c, .string ⟨x.toArray⟩] w fun e w' => e = .returned (.int .i64 (strIdx l x)) ∧ w = w' := by
  have hlen : l.length = n := by have := hr.1; simpa using this
  have HR := Lib.hid hr
  have HL := Lib.hid hlen
  clear hr hlen
  go_enter Tryz.func124, Tryz.ntmps124
  go_wp2
  go_loop [5] (fun i => ∃ k : Nat, k ≤ n ∧ i = .int .i64 k ∧ ∀ j, j < k → l[j]? ≠ some x) (fun i => n - (intOf i).toNat)
  case atStart => exact ⟨0, by omega, rfl, fun j hj => by omega⟩
  case round =>
    obtain ⟨k, hk, rfl, hno⟩ := hrel
    have HN := Lib.hid hno
    clear hno
    by_cases hlt : k < n
    · obtain ⟨ad, u, rfl, hb, hx, hc⟩ := HR.out.at_ hlt
      have hkl : k < l.length := by rw [HL.out]; exact hlt
      rw [List.getElem?_map, List.getElem?_eq_getElem hkl] at hx
      obtain rfl : strV l[k] = u := by simpa using hx
      have HX : Hid (l[k]? = some l[k]) := List.getElem?_eq_getElem hkl
      clear hx
      unfold strV at hc
      generalize l[k] = g at hc HX
      clear hkl
      by_cases hx : g = x
      · have HE := Lib.hid hx
        have hb : (g == x) = true := by simpa using hx
        clear hx
        go_wp2
        go_ret
        have hx := HX.out
        rw [List.getElem?_eq_getElem (show k < l.length from by rw [HL.out]; exact hlt)] at hx
        injection hx with hx
        exact ⟨by rw [strIdx_hit (k := k) (by rw [HL.out]; exact hlt) (by rw [hx, HE.out]; simp) HN.out]; rfl, rfl⟩
      · have HE := Lib.hid hx
        have hb : (g == x) = false := by simpa using hx
        clear hx
        go_wp2
        refine ⟨⟨k + 1, by omega, by go_num, fun j hj => ?_⟩, by simp [intOf]; omega⟩
        by_cases hjk : j < k
        · exact HN.out j hjk
        · obtain rfl : j = k := by omega
          rw [HX.out]
          intro h
          injection h with h
          exact HE.out h
    · have hkn : k = n := by omega
      go_wp2
      go_ret
      exact ⟨by rw [strIdx_none (fun j hj => HN.out j (by rw [hkn, ← HL.out]; exact hj))]; rfl, rfl⟩

def DigPost (w : World) (r : Int × Bool) (e : Ending) (w' : World) : Prop := e = .returned (.tuple #[.int .i64 r.1, .bool r.2]) ∧ w = w'
set_option maxRecDepth 100000 in
theorem rdigits_no (s : List UInt8) (base : Int) (h : s = [] ∨ 10 < s.length) (w : World) : Calls Tryz.prog 125 #[.string ⟨s.toArray⟩, .int .i64 base] w (DigPost w (digR s base)) := by
  unfold digR DigPost
  rw [if_pos h]
  rcases h with rfl | h
  · go_enter Tryz.func125, Tryz.ntmps125
    go_wp2
    go_ret2
    exact ⟨rfl, rfl⟩
  · have he : s.isEmpty = false := by cases s with | nil => simp at h | cons => rfl
    have h' : (10 : Int) < (s.length : Int) := by omega
    clear h
    go_enter Tryz.func125, Tryz.ntmps125
    go_wp2
    go_ret2
    exact ⟨rfl, rfl⟩
theorem pow16_le (k : Nat) (h : k ≤ 10) : (16 : Int) ^ k ≤ 1099511627776 := by
  have h1 := Nat.pow_le_pow_right (show 0 < 16 by decide) h
  have h2 : (16 : Int) ^ k ≤ 16 ^ 10 := by exact_mod_cast h1
  exact Int.le_trans h2 (by decide)
set_option maxRecDepth 100000 in
set_option maxHeartbeats 4000000 in
theorem rdigits_yes (s : List UInt8) (base : Int) (hb : base = 10 ∨ base = 16) (he : s ≠ []) (h10 : s.length ≤ 10) (w : World) : Calls Tryz.prog 125 #[.string ⟨s.toArray⟩, .int .i64 base] w (DigPost w (digR s base)) := by
  unfold digR DigPost
  rw [if_neg (by rintro (h | h); exact he h; omega)]
  have hem : s.isEmpty = false := by cases s with | nil => exact absurd rfl he | cons => rfl
  have h10' : ¬ (10 : Int) < (s.length : Int) := by omega
  obtain ⟨D, hD⟩ : ∃ D, digGo base 0 s = D := ⟨_, rfl⟩
  have HD := Lib.hid hD
  rw [hD]
  clear hD he
  have hb1 : 10 ≤ base := by omega
  have hb2 : base ≤ 16 := by omega
  clear hb
  go_enter Tryz.func125, Tryz.ntmps125
  go_wp2
  clear hem h10'
  go_loop [6, 7] (fun vn vi => ∃ (k : Nat) (a : Int), vn = .int .i64 a ∧ vi = .int .i64 k ∧ k ≤ s.length ∧ 0 ≤ a ∧ a < 16 ^ k ∧ Hid (D = digGo base a (s.drop k))) (fun _ vi => s.length - (intOf vi).toNat)
  case atStart => exact ⟨0, 0, rfl, rfl, by omega, by omega, by decide, HD.out.symm⟩
  case round =>
    obtain ⟨k, a, rfl, rfl, hk, a0, a1, HH⟩ := hrel
    by_cases hkn : k < s.length
    · have kix : ∀ W, (Instr.index 9 (.string ⟨s.toArray⟩) (.int .i64 (k : Int))).run Tryz.prog W = .ok (.int .u8 (s[k].toNat : Int)) W := fun W => run_index_str s k hkn W
      have hdec := HH.out
      rw [List.drop_eq_getElem_cons hkn] at hdec
      generalize s[k] = c at kix hdec
      have hc256 : (c.toNat : Int) < 256 := by have := c.toNat_lt; omega
      have hki : (k : Int) < (s.length : Int) := by omega
      have hp := pow16_le (k + 1) (by omega)
      rw [digGo] at hdec
      have hdg := dgt_in c
      have hA : a * base ≤ a * 16 := Int.mul_le_mul_of_nonneg_left hb2 a0
      have hA0 : 0 ≤ a * base := Int.mul_nonneg a0 (by omega)
      have hps : (16 : Int) ^ (k + 1) = 16 ^ k * 16 := Int.pow_succ 16 k
      have HP : Hid (a * base + 15 < 16 ^ (k + 1)) := by unfold Hid; omega
      have hlim : a * base + 15 < 1099511627776 := by have := HP.out; omega
      clear hps hA hp
      by_cases hdig : 48 ≤ (c.toNat : Int) ∧ (c.toNat : Int) ≤ 57
      · have hdv : dgt c = (c.toNat : Int) - 48 := by unfold dgt; rw [if_neg (by omega), if_pos (by omega)]
        rw [hdv] at hdec
        obtain ⟨hd0, hd1⟩ := hdig
        have hno : ¬ 97 ≤ (c.toNat : Int) := by omega
        clear hdv hdg
        by_cases hge : base ≤ (c.toNat : Int) - 48
        · rw [if_pos hge] at hdec
          have HD2 := Lib.hid hdec
          clear hdec HH
          go_wp2
          go_ret2
          rw [HD2.out]; exact ⟨rfl, rfl⟩
        · rw [if_neg hge] at hdec
          have HD2 := Lib.hid hdec
          clear hdec HH
          go_wp2
          refine ⟨⟨k + 1, a * base + ((c.toNat : Int) - 48), (by first | rfl | (congr 1; omega)), (by first | rfl | (congr 1; omega)), by omega, by omega, by have := HP.out; omega, HD2⟩, by simp [intOf]; omega⟩
      · by_cases hlet : 97 ≤ (c.toNat : Int) ∧ (c.toNat : Int) ≤ 102
        · have hdv : dgt c = (c.toNat : Int) - 97 + 10 := by unfold dgt; rw [if_pos (by omega)]
          rw [hdv] at hdec
          obtain ⟨hd0, hd1⟩ := hlet
          have hno : ¬ (c.toNat : Int) ≤ 57 := by omega
          have hyes : 48 ≤ (c.toNat : Int) := by omega
          clear hdv hdg hdig
          by_cases hge : base ≤ (c.toNat : Int) - 97 + 10
          · rw [if_pos hge] at hdec
            have HD2 := Lib.hid hdec
            clear hdec HH
            go_wp2
            go_ret2
            rw [HD2.out]; exact ⟨rfl, rfl⟩
          · rw [if_neg hge] at hdec
            have HD2 := Lib.hid hdec
            clear hdec HH
            go_wp2
            refine ⟨⟨k + 1, a * base + ((c.toNat : Int) - 97 + 10), (by first | rfl | (congr 1; omega)), (by first | rfl | (congr 1; omega)), by omega, by omega, by have := HP.out; omega, HD2⟩, by simp [intOf]; omega⟩
        · have hdv : dgt c = 99 := by unfold dgt; rw [if_neg (by omega), if_neg (by omega)]
          rw [hdv, if_pos (by omega)] at hdec
          have hge : base ≤ 99 := by omega
          have HD2 := Lib.hid hdec
          clear hdec HH hdv hdg
          go_wp2
          all_goals go_ret2
          all_goals (rw [HD2.out]; exact ⟨rfl, rfl⟩)
    · have hkl : k = s.length := by omega
      have HK := Lib.hid hkl
      clear hkl
      go_wp2
      go_ret2
      have := HH.out
      rw [HK.out, List.drop_length, digGo] at this
      rw [this]
      exact ⟨rfl, rfl⟩

theorem rdigits_any (s : List UInt8) (base : Int) (hb : base = 10 ∨ base = 16) (w : World) : Calls Tryz.prog 125 #[.string ⟨s.toArray⟩, .int .i64 base] w (DigPost w (digR s base)) := by
  by_cases h : s = [] ∨ 10 < s.length
  · exact rdigits_no s base h w
  · exact rdigits_yes s base hb (fun e => h (.inl e)) (by omega) w
theorem digR_lim (s : List UInt8) (base : Int) (hb : base = 10 ∨ base = 16) : 0 ≤ (digR s base).1 ∧ (digR s base).1 < 1099511627776 := digR_max s base (by omega) (by omega)
theorem ba_tail (c : UInt8) (t : List UInt8) : (⟨(c :: t).toArray⟩ : ByteArray).extract 1 (c :: t).length = ⟨t.toArray⟩ := by
  have := ba_drop (c :: t) 1; simpa using this
set_option maxRecDepth 100000 in
set_option maxHeartbeats 4000000 in
theorem rsigned_any (s : List UInt8) (hs : s.length ≤ 1000000) (w : World) : Calls Tryz.prog 126 #[.string ⟨s.toArray⟩] w fun e w' => e = .returned (.int .i64 (signedR s)) ∧ w = w' := by
  unfold signedR
  by_cases h : s.head? = some 45
  · rw [if_pos h]
    obtain ⟨t, rfl⟩ : ∃ t, s = 45 :: t := by cases s with | nil => simp at h | cons c t => simp at h; exact ⟨t, by rw [h]⟩
    have hD := Lib.hid (rdigits_any t 10 (.inl rfl))
    have hl := digR_lim t 10 (.inl rfl)
    unfold DigPost at hD
    show Calls _ _ _ _ fun e w' => e = .returned (.int .i64 (-(digR t 10).1)) ∧ _
    generalize digR t 10 = D at *
    have kix : ∀ W, (Instr.index 9 (.string ⟨((45 : UInt8) :: t).toArray⟩) (.int .i64 0)).run Tryz.prog W = .ok (.int .u8 45) W := fun W => run_index_str (45 :: t) 0 (by simp) W
    have ksl : ∀ W, (Instr.slice 9 (.string ⟨((45 : UInt8) :: t).toArray⟩) (some (.int .i64 1)) none none).run Tryz.prog W = .ok (.string ⟨t.toArray⟩) W := fun W => by
      simp [go_sem, Tryz.underlying9]
      rw [if_pos (by omega)]
      have := ba_tail 45 t
      rw [show (45 :: t).length = t.length + 1 from rfl] at this
      rw [this]
    clear h
    have hem : ((45 : UInt8) :: t).isEmpty = false := rfl
    generalize (45 : UInt8) :: t = s at *
    go_enter Tryz.func126, Tryz.ntmps126
    go_wp2_with fail
    refine (hD.out _).mono ?_
    rintro e w1 ⟨rfl, rfl⟩
    go_wp2_with fail
    go_ret
    exact ⟨rfl, rfl⟩
  · rw [if_neg h]
    have hD := Lib.hid (rdigits_any s 10 (.inl rfl))
    have hl := digR_lim s 10 (.inl rfl)
    unfold DigPost at hD
    generalize digR s 10 = D at *
    cases s with
    | nil =>
      clear h
      go_enter Tryz.func126, Tryz.ntmps126
      go_wp2_with fail
      refine (hD.out _).mono ?_
      rintro e w1 ⟨rfl, rfl⟩
      go_wp2_with fail
      go_ret
      exact ⟨rfl, rfl⟩
    | cons c t =>
      have hc : ((c.toNat : Int) == 45) = false := by
        rw [beq_eq_false_iff_ne]
        intro he
        apply h
        simp
        apply UInt8.toNat_inj.1
        simp; omega
      have kix : ∀ W, (Instr.index 9 (.string ⟨(c :: t).toArray⟩) (.int .i64 0)).run Tryz.prog W = .ok (.int .u8 (c.toNat : Int)) W := fun W => run_index_str (c :: t) 0 (by simp) W
      clear h
      have hem : (c :: t).isEmpty = false := rfl
      generalize (c.toNat : Int) = q at *
      generalize c :: t = s at *
      go_enter Tryz.func126, Tryz.ntmps126
      go_wp2_with fail
      refine (hD.out _).mono ?_
      rintro e w1 ⟨rfl, rfl⟩
      go_wp2_with fail
      go_ret
      exact ⟨rfl, rfl⟩

set_option maxRecDepth 100000 in
set_option maxHeartbeats 4000000 in
theorem rhexed_any (s : List UInt8) (hs : s.length ≤ 1000000) (w : World) : Calls Tryz.prog 127 #[.string ⟨s.toArray⟩] w fun e w' => e = .returned (.int .u32 (hexedR s)) ∧ w = w' := by
  have hin := hexedR_in s
  unfold hexedR at *
  by_cases h3 : s.length < 3
  · rw [if_pos (.inl h3)]
    have h3' : (s.length : Int) < 3 := by omega
    clear h3 hin
    go_enter Tryz.func127, Tryz.ntmps127
    go_wp2
    go_ret
    exact ⟨rfl, rfl⟩
  · by_cases h10 : 10 < s.length
    · rw [if_pos (.inr h10)]
      have h3' : ¬ (s.length : Int) < 3 := by omega
      have h10' : (10 : Int) < s.length := by omega
      clear h3 h10 hin
      go_enter Tryz.func127, Tryz.ntmps127
      go_wp2
      go_ret
      exact ⟨rfl, rfl⟩
    · rw [if_neg (by omega)] at *
      have hD := Lib.hid (rdigits_any (s.drop 2) 16 (.inr rfl))
      unfold DigPost at hD
      obtain ⟨t, ht⟩ : ∃ t, s.drop 2 = t := ⟨_, rfl⟩
      rw [ht] at hD hin ⊢
      generalize digR t 16 = D at *
      obtain ⟨h0, h1⟩ := hin
      have hw : IntKind.u32.wrap D.1 = D.1 := by rw [IntKind.wrap_u32]; omega
      have h3' : ¬ (s.length : Int) < 3 := by omega
      have h10' : ¬ (10 : Int) < s.length := by omega
      have ksl : ∀ W, (Instr.slice 9 (.string ⟨s.toArray⟩) (some (.int .i64 2)) none none).run Tryz.prog W = .ok (.string ⟨t.toArray⟩) W := fun W => by
        simp [go_sem, Tryz.underlying9]
        rw [if_pos (by omega)]
        have := ba_drop s 2
        rw [this, ht]
      clear h3 h10
      go_enter Tryz.func127, Tryz.ntmps127
      go_wp2_with fail
      refine (hD.out _).mono ?_
      rintro e w1 ⟨rfl, rfl⟩
      go_wp2_with fail
      go_ret
      exact ⟨rfl, rfl⟩

/-! ### memory. -/
theorem memTo_le : ∀ s : List UInt8, memTo s ≤ s.length
  | [] => Nat.le_refl _
  | c :: l => by unfold memTo; split; exact Nat.zero_le _; have := memTo_le l; simp; omega
def MemRPost (w : World) (y : Insn) (e : Ending) (w' : World) : Prop := e = .returned (.agg y.cs) ∧ Below w.heap.size w w'
set_option maxRecDepth 100000 in
set_option maxHeartbeats 4000000 in
theorem rmemory_any (x : Insn) (kind : Int) (s : List UInt8) (hs : s.length ≤ 1000000) (w : World) : Calls Tryz.prog 128 #[.agg x.cs, .int .i64 kind, .string ⟨s.toArray⟩] w (MemRPost w (memR kind s x)) := by
  unfold MemRPost
  have HM : Hid (memTo s ≤ s.length) := memTo_le s
  obtain ⟨m, hm⟩ : ∃ m, memTo s = m := ⟨_, rfl⟩
  obtain ⟨Y, hY⟩ : ∃ Y, memR kind s x = Y := ⟨_, rfl⟩
  rw [hY]
  unfold memR at hY
  rw [hm] at hY HM
  unfold Insn.cs
  have HY := Lib.hid hY
  have HMM := Lib.hid hm
  clear hm
  go_enter Tryz.func128, Tryz.ntmps128
  go_wp2_with fail
  go_loopw [7] (fun i wr => ∃ k : Nat, i = .int .i64 k ∧ k ≤ s.length ∧ Hid (m = k + memTo (s.drop k)) ∧ wr = (w.alloc (.cells #[.int .i64 x.op, .int .i64 x.a, .int .i64 x.b, .int .i64 x.c, .int .i64 x.d, .int .i64 x.k, .int .u32 x.i] 24)).alloc (.cells #[.int .i64 0, .int .i64 0, .int .i64 0, .int .i64 0, .int .i64 0, .int .i64 0, .int .u32 0] 24)) (fun i _ => s.length - (intOf i).toNat)
  case atStart => exact ⟨0, rfl, Nat.zero_le _, by unfold Hid; rw [← HMM.out]; simp, rfl⟩
  case round =>
    obtain ⟨k, rfl, hk, HK, rfl⟩ := hrel
    by_cases hkn : k < s.length
    · have kix : ∀ W, (Instr.index 9 (.string ⟨s.toArray⟩) (.int .i64 (k : Int))).run Tryz.prog W = .ok (.int .u8 (s[k].toNat : Int)) W := fun W => run_index_str s k hkn W
      have hdec := HK.out
      rw [List.drop_eq_getElem_cons hkn, memTo] at hdec
      generalize s[k] = c at kix hdec
      have hki : (k : Int) < (s.length : Int) := by omega
      have hc256 : (c.toNat : Int) < 256 := by have := c.toNat_lt; omega
      by_cases hs3 : c = 43 ∨ c = 45 ∨ c = 93
      · rw [if_pos hs3] at hdec
        obtain rfl : k = m := by omega
        clear hdec HK
        have hmN : ¬ k = s.length := by omega
        by_cases h2 : (k : Int) < 2
        · have hy := HY.out
          rw [if_pos (.inl (by omega))] at hy
          subst hy
          clear HY
          have hcc : (c.toNat : Int) = 43 ∨ (c.toNat : Int) = 45 ∨ (c.toNat : Int) = 93 := by rcases hs3 with rfl | rfl | rfl <;> simp
          clear hs3
          generalize (c.toNat : Int) = q at *
          rcases hcc with rfl | rfl | rfl
          all_goals
            go_wp2_with fail
            exact bodyPost_ret (results_24_1 Tryz.results128 rfl (blk_at _ (w.heap.size + 1) 24 _ (by simp))) rfl ⟨rfl, ((Below.refl _ w).alloc (Nat.le_refl _) _).alloc (by simp) _⟩
        · have hy := HY.out
          rw [if_neg (by omega)] at hy
          have ks1 : ∀ W, (Instr.slice 9 (.string ⟨s.toArray⟩) (some (.int .i64 2)) (some (.int .i64 (k : Int))) none).run Tryz.prog W = .ok (.string ⟨((s.take k).drop 2).toArray⟩) W := fun W => by
            rw [run_slice_string W 9 ⟨s.toArray⟩ .i64 .i64 2 (k : Int) Tryz.underlying9 (by omega) (by omega) (by rw [ba_size]; omega)]
            congr 2
            apply ByteArray.ext; simp [List.drop_take]
          have ks2 : ∀ W, (Instr.slice 9 (.string ⟨s.toArray⟩) (some (.int .i64 (k : Int))) (some (.int .i64 ((s.length : Int) - 1))) none).run Tryz.prog W = .ok (.string ⟨((s.take (s.length - 1)).drop k).toArray⟩) W := fun W => by
            rw [run_slice_string W 9 ⟨s.toArray⟩ .i64 .i64 (k : Int) ((s.length : Int) - 1) Tryz.underlying9 (by omega) (by omega) (by rw [ba_size]; omega)]
            congr 2
            apply ByteArray.ext; simp [List.drop_take]
          obtain ⟨A, hA⟩ : ∃ A, (s.take k).drop 2 = A := ⟨_, rfl⟩
          obtain ⟨R, hR⟩ : ∃ R, (s.take (s.length - 1)).drop k = R := ⟨_, rfl⟩
          have hRl : R.length ≤ 1000000 := by rw [← hR]; simp; omega
          rw [hA] at hy ks1
          rw [hR] at hy ks2
          clear hA hR
          have hD := Lib.hid (rdigits_any A 10 (.inl rfl))
          have hl := digR_lim A 10 (.inl rfl)
          unfold DigPost at hD
          generalize digR A 10 = D at *
          have HRL := Lib.hid hRl
          replace HY := Lib.hid hy
          have hcc : (c.toNat : Int) = 43 ∨ (c.toNat : Int) = 45 ∨ (c.toNat : Int) = 93 := by rcases hs3 with rfl | rfl | rfl <;> simp
          clear hs3 hy hRl
          generalize (c.toNat : Int) = q at *
          rcases hcc with rfl | rfl | rfl
          all_goals
            go_wp2_with fail
            refine (hD.out _).mono ?_
            rintro e w1 ⟨rfl, rfl⟩
            cases R with
            | nil =>
              have hy := HY.out
              rw [if_pos rfl] at hy
              subst hy
              clear HY
              go_wp2_with fail
              exact bodyPost_ret (results_24_1 Tryz.results128 rfl (blk_at _ (w.heap.size + 1) 24 _ (by simp))) rfl ⟨rfl, ((Below.refl _ w).alloc (Nat.le_refl _) _).alloc (by simp) _⟩
            | cons d t =>
              have hy := HY.out
              rw [if_neg (by simp)] at hy
              simp only [List.drop_succ_cons, List.drop_zero, List.head?_cons, Option.some.injEq] at hy
              have hem : (d :: t).isEmpty = false := rfl
              have kix0 : ∀ W, (Instr.index 9 (.string ⟨(d :: t).toArray⟩) (.int .i64 0)).run Tryz.prog W = .ok (.int .u8 (d.toNat : Int)) W := fun W => run_index_str (d :: t) 0 (by simp) W
              have ksl : ∀ W, (Instr.slice 9 (.string ⟨(d :: t).toArray⟩) (some (.int .i64 1)) none none).run Tryz.prog W = .ok (.string ⟨t.toArray⟩) W := fun W => by
                simp [go_sem, Tryz.underlying9]
                rw [if_pos (by omega)]
                have := ba_tail d t
                rw [show (d :: t).length = t.length + 1 from rfl] at this
                rw [this]
              have HT : Hid (t.length ≤ 1000000) := by unfold Hid; have := HRL.out; simp at this; omega
              by_cases hk15 : kind = 15
              · rw [if_pos hk15] at hy
                have hkb : (kind == 15) = true := by simpa using hk15
                subst hy
                clear HY hk15
                generalize d :: t = R at *
                have HX := Lib.hid (rhexed_any t HT.out)
                go_wp2_with fail
                refine (HX.out _).mono ?_
                rintro e w1 ⟨rfl, rfl⟩
                go_wp2_with fail
                exact bodyPost_ret (results_24_1 Tryz.results128 rfl (blk_at _ (w.heap.size + 1) 24 _ (by simp))) rfl ⟨rfl, ((Below.refl _ w).alloc (Nat.le_refl _) _).alloc (by simp) _⟩
              · rw [if_neg hk15] at hy
                have hkb : (kind == 15) = false := by simpa using hk15
                by_cases h43 : d = 43
                · rw [if_pos h43] at hy
                  have hdb : ((d.toNat : Int) == 43) = true := by rw [h43]; rfl
                  subst hy
                  clear HY hk15 h43
                  generalize (d.toNat : Int) = dv at *
                  generalize d :: t = R at *
                  have HX := Lib.hid (rsigned_any t HT.out)
                  go_wp2_with fail
                  refine (HX.out _).mono ?_
                  rintro e w1 ⟨rfl, rfl⟩
                  go_wp2_with fail
                  exact bodyPost_ret (results_24_1 Tryz.results128 rfl (blk_at _ (w.heap.size + 1) 24 _ (by simp))) rfl ⟨rfl, ((Below.refl _ w).alloc (Nat.le_refl _) _).alloc (by simp) _⟩
                · rw [if_neg h43] at hy
                  have hdb : ((d.toNat : Int) == 43) = false := by
                    rw [beq_eq_false_iff_ne]; intro h; exact h43 (UInt8.toNat_inj.1 (by simp; omega))
                  subst hy
                  have HX := Lib.hid (rsigned_any (d :: t) HRL.out)
                  clear HY hk15 h43
                  generalize (d.toNat : Int) = dv at *
                  obtain ⟨R, hRR⟩ : ∃ R, d :: t = R := ⟨_, rfl⟩
                  have HRR := Lib.hid hRR
                  rw [hRR] at kix0 ksl hem HX ks2
                  clear hRR
                  go_wp2_with fail
                  refine (HX.out _).mono ?_
                  rintro e w1 ⟨rfl, rfl⟩
                  go_wp2_with fail
                  exact bodyPost_ret (results_24_1 Tryz.results128 rfl (blk_at _ (w.heap.size + 1) 24 _ (by simp))) rfl ⟨by rw [HRR.out], ((Below.refl _ w).alloc (Nat.le_refl _) _).alloc (by simp) _⟩
      · rw [if_neg hs3] at hdec
        have h1 : ((c.toNat : Int) != 43) = true := by
          rw [bne_iff_ne]; intro h; exact hs3 (.inl (UInt8.toNat_inj.1 (by simp; omega)))
        have h2 : ((c.toNat : Int) != 45) = true := by
          rw [bne_iff_ne]; intro h; exact hs3 (.inr (.inl (UInt8.toNat_inj.1 (by simp; omega))))
        have h3 : ((c.toNat : Int) != 93) = true := by
          rw [bne_iff_ne]; intro h; exact hs3 (.inr (.inr (UInt8.toNat_inj.1 (by simp; omega))))
        have HD := Lib.hid hdec
        clear hs3 hdec HK
        generalize (c.toNat : Int) = q at *
        go_wp2_with fail
        go_roundw
        case rel => exact ⟨k + 1, by go_num, by omega, by unfold Hid; have := HD.out; omega, (by first | rfl | trivial)⟩
        case measure => simp [intOf]; omega
    · have hkl : k = s.length := by omega
      have hdec := HK.out
      rw [hkl, List.drop_length, show memTo [] = 0 from rfl] at hdec
      obtain rfl : s.length = m := by omega
      have hy := HY.out
      rw [if_pos (.inr rfl)] at hy
      subst hy
      rw [hkl]
      clear hdec HK hkn hk hkl HY HM
      by_cases h2 : (s.length : Int) < 2
      · go_wp2_with fail
        exact bodyPost_ret (results_24_1 Tryz.results128 rfl (blk_at _ (w.heap.size + 1) 24 _ (by simp))) rfl ⟨rfl, ((Below.refl _ w).alloc (Nat.le_refl _) _).alloc (by simp) _⟩
      · go_wp2_with fail
        exact bodyPost_ret (results_24_1 Tryz.results128 rfl (blk_at _ (w.heap.size + 1) 24 _ (by simp))) rfl ⟨rfl, ((Below.refl _ w).alloc (Nat.le_refl _) _).alloc (by simp) _⟩
end Go.Proofs.YtdkclapinedgiaaGreatDoor

namespace Go.Proofs.YtdkclapinedgiaaGreatDoor
open Go.RowKit

set_option maxRecDepth 100000 in
set_option maxHeartbeats 4000000 in
theorem put_d (x : Insn) (s : List UInt8) (w : World) : Calls Tryz.prog 64 #[.agg x.cs, .int .i64 7, .string ⟨s.toArray⟩] w (MemRPost w (putR 7 s x)) := by
  show Calls _ _ _ _ (MemRPost w { x with d := strIdx condTab s })
  unfold MemRPost Insn.cs
  have hC := Lib.hid (show ∀ W, Calls Tryz.prog 116 #[] W fun e w' => ∃ A, e = .returned (.slice A 16 16) ∧ Reads w' w'.heap.size 1 A 16 (condTab.map strV) ∧ Below W.heap.size W w' from fun W => (rconds_any W).mono fun e w' h => by
    obtain ⟨rfl, rfl⟩ := h
    exact ⟨_, rfl, reads_of_blk (Blk.new W 9 _) (by rfl) (by rfl), (Below.refl _ W).alloc (Nat.le_refl _) _⟩)
  have hA := Lib.hid (fun A W (hr : Reads W W.heap.size 1 A 16 (condTab.map strV)) => among_any A 16 16 condTab s W hr (by decide))
  dsimp only
  generalize strIdx condTab s = v at *
  go_enter Tryz.func64, Tryz.ntmps64
  go_wp2_with fail
  refine (hC.out _).mono ?_
  rintro e w1 ⟨A, rfl, hr, hb⟩
  have HB := Lib.hid ((((Below.refl _ w).alloc (Nat.le_refl _) (.cells #[.int .i64 x.op, .int .i64 x.a, .int .i64 x.b, .int .i64 x.c, .int .i64 x.d, .int .i64 x.k, .int .u32 x.i] 24)).alloc (by simp) (.cells #[.int .i64 0, .int .i64 0, .int .i64 0, .int .i64 0, .int .i64 0, .int .i64 0, .int .u32 0] 24)).call hb (by simp; omega))
  have HX := Lib.hid (((Blk.new w 24 #[.int .i64 x.op, .int .i64 x.a, .int .i64 x.b, .int .i64 x.c, .int .i64 x.d, .int .i64 x.k, .int .u32 x.i]).alloc (.cells #[.int .i64 0, .int .i64 0, .int .i64 0, .int .i64 0, .int .i64 0, .int .i64 0, .int .u32 0] 24)).call hb)
  have HK := Lib.hid ((blk_at (w.alloc (.cells #[.int .i64 x.op, .int .i64 x.a, .int .i64 x.b, .int .i64 x.c, .int .i64 x.d, .int .i64 x.k, .int .u32 x.i] 24)) (w.heap.size + 1) 24 #[.int .i64 0, .int .i64 0, .int .i64 0, .int .i64 0, .int .i64 0, .int .i64 0, .int .u32 0] (by simp)).call hb)
  obtain ⟨a0, a1, a2, a3, a4, a5, a6, a7, a8, a9, a10, a11, a12, a13⟩ := HX.out.facts7
  obtain ⟨c0, c1, c2, c3, c4, c5, c6, c7, c8, c9, c10, c11, c12, c13⟩ := HK.out.facts7
  have hz1 := HX.out.lt
  have hz2 := HK.out.lt
  have hA' := Lib.hid (hA.out _ _ hr)
  clear hb hr hA
  go_wp2_with fail
  refine (hA'.out).mono ?_
  rintro e w2 ⟨rfl, rfl⟩
  go_wp2_with fail
  exact bodyPost_ret (results_24_1 Tryz.results64 rfl ((HK.out.far (p := ⟨w.heap.size, 4, none⟩) (by simp) _).seven _ _ _ _ _ _ _)) rfl ⟨rfl, below_seven (HB.out.setCell (p := ⟨w.heap.size, 4, none⟩) (by simp) _) (by simp) _ _ _ _ _ _ _⟩
set_option maxRecDepth 100000 in
set_option maxHeartbeats 4000000 in
theorem put_e (x : Insn) (s : List UInt8) (w : World) : Calls Tryz.prog 64 #[.agg x.cs, .int .i64 8, .string ⟨s.toArray⟩] w (MemRPost w (putR 8 s x)) := by
  show Calls _ _ _ _ (MemRPost w { x with d := strIdx extTab s })
  unfold MemRPost Insn.cs
  have hC := Lib.hid (show ∀ W, Calls Tryz.prog 117 #[] W fun e w' => ∃ A, e = .returned (.slice A 4 4) ∧ Reads w' w'.heap.size 1 A 4 (extTab.map strV) ∧ Below W.heap.size W w' from fun W => (rexts_any W).mono fun e w' h => by
    obtain ⟨rfl, rfl⟩ := h
    exact ⟨_, rfl, reads_of_blk (Blk.new W 9 _) (by rfl) (by rfl), (Below.refl _ W).alloc (Nat.le_refl _) _⟩)
  have hA := Lib.hid (fun A W (hr : Reads W W.heap.size 1 A 4 (extTab.map strV)) => among_any A 4 4 extTab s W hr (by decide))
  dsimp only
  generalize strIdx extTab s = v at *
  go_enter Tryz.func64, Tryz.ntmps64
  go_wp2_with fail
  refine (hC.out _).mono ?_
  rintro e w1 ⟨A, rfl, hr, hb⟩
  have HB := Lib.hid ((((Below.refl _ w).alloc (Nat.le_refl _) (.cells #[.int .i64 x.op, .int .i64 x.a, .int .i64 x.b, .int .i64 x.c, .int .i64 x.d, .int .i64 x.k, .int .u32 x.i] 24)).alloc (by simp) (.cells #[.int .i64 0, .int .i64 0, .int .i64 0, .int .i64 0, .int .i64 0, .int .i64 0, .int .u32 0] 24)).call hb (by simp; omega))
  have HX := Lib.hid (((Blk.new w 24 #[.int .i64 x.op, .int .i64 x.a, .int .i64 x.b, .int .i64 x.c, .int .i64 x.d, .int .i64 x.k, .int .u32 x.i]).alloc (.cells #[.int .i64 0, .int .i64 0, .int .i64 0, .int .i64 0, .int .i64 0, .int .i64 0, .int .u32 0] 24)).call hb)
  have HK := Lib.hid ((blk_at (w.alloc (.cells #[.int .i64 x.op, .int .i64 x.a, .int .i64 x.b, .int .i64 x.c, .int .i64 x.d, .int .i64 x.k, .int .u32 x.i] 24)) (w.heap.size + 1) 24 #[.int .i64 0, .int .i64 0, .int .i64 0, .int .i64 0, .int .i64 0, .int .i64 0, .int .u32 0] (by simp)).call hb)
  obtain ⟨a0, a1, a2, a3, a4, a5, a6, a7, a8, a9, a10, a11, a12, a13⟩ := HX.out.facts7
  obtain ⟨c0, c1, c2, c3, c4, c5, c6, c7, c8, c9, c10, c11, c12, c13⟩ := HK.out.facts7
  have hz1 := HX.out.lt
  have hz2 := HK.out.lt
  have hA' := Lib.hid (hA.out _ _ hr)
  clear hb hr hA
  go_wp2_with fail
  refine (hA'.out).mono ?_
  rintro e w2 ⟨rfl, rfl⟩
  go_wp2_with fail
  exact bodyPost_ret (results_24_1 Tryz.results64 rfl ((HK.out.far (p := ⟨w.heap.size, 4, none⟩) (by simp) _).seven _ _ _ _ _ _ _)) rfl ⟨rfl, below_seven (HB.out.setCell (p := ⟨w.heap.size, 4, none⟩) (by simp) _) (by simp) _ _ _ _ _ _ _⟩
set_option maxRecDepth 100000 in
set_option maxHeartbeats 4000000 in
theorem put_l (x : Insn) (s : List UInt8) (w : World) : Calls Tryz.prog 64 #[.agg x.cs, .int .i64 9, .string ⟨s.toArray⟩] w (MemRPost w (putR 9 s x)) := by
  show Calls _ _ _ _ (MemRPost w { x with d := strIdx laneTab s })
  unfold MemRPost Insn.cs
  have hC := Lib.hid (show ∀ W, Calls Tryz.prog 118 #[] W fun e w' => ∃ A, e = .returned (.slice A 3 3) ∧ Reads w' w'.heap.size 1 A 3 (laneTab.map strV) ∧ Below W.heap.size W w' from fun W => (rlanes_any W).mono fun e w' h => by
    obtain ⟨rfl, rfl⟩ := h
    exact ⟨_, rfl, reads_of_blk (Blk.new W 9 _) (by rfl) (by rfl), (Below.refl _ W).alloc (Nat.le_refl _) _⟩)
  have hA := Lib.hid (fun A W (hr : Reads W W.heap.size 1 A 3 (laneTab.map strV)) => among_any A 3 3 laneTab s W hr (by decide))
  dsimp only
  generalize strIdx laneTab s = v at *
  go_enter Tryz.func64, Tryz.ntmps64
  go_wp2_with fail
  refine (hC.out _).mono ?_
  rintro e w1 ⟨A, rfl, hr, hb⟩
  have HB := Lib.hid ((((Below.refl _ w).alloc (Nat.le_refl _) (.cells #[.int .i64 x.op, .int .i64 x.a, .int .i64 x.b, .int .i64 x.c, .int .i64 x.d, .int .i64 x.k, .int .u32 x.i] 24)).alloc (by simp) (.cells #[.int .i64 0, .int .i64 0, .int .i64 0, .int .i64 0, .int .i64 0, .int .i64 0, .int .u32 0] 24)).call hb (by simp; omega))
  have HX := Lib.hid (((Blk.new w 24 #[.int .i64 x.op, .int .i64 x.a, .int .i64 x.b, .int .i64 x.c, .int .i64 x.d, .int .i64 x.k, .int .u32 x.i]).alloc (.cells #[.int .i64 0, .int .i64 0, .int .i64 0, .int .i64 0, .int .i64 0, .int .i64 0, .int .u32 0] 24)).call hb)
  have HK := Lib.hid ((blk_at (w.alloc (.cells #[.int .i64 x.op, .int .i64 x.a, .int .i64 x.b, .int .i64 x.c, .int .i64 x.d, .int .i64 x.k, .int .u32 x.i] 24)) (w.heap.size + 1) 24 #[.int .i64 0, .int .i64 0, .int .i64 0, .int .i64 0, .int .i64 0, .int .i64 0, .int .u32 0] (by simp)).call hb)
  obtain ⟨a0, a1, a2, a3, a4, a5, a6, a7, a8, a9, a10, a11, a12, a13⟩ := HX.out.facts7
  obtain ⟨c0, c1, c2, c3, c4, c5, c6, c7, c8, c9, c10, c11, c12, c13⟩ := HK.out.facts7
  have hz1 := HX.out.lt
  have hz2 := HK.out.lt
  have hA' := Lib.hid (hA.out _ _ hr)
  clear hb hr hA
  go_wp2_with fail
  refine (hA'.out).mono ?_
  rintro e w2 ⟨rfl, rfl⟩
  go_wp2_with fail
  exact bodyPost_ret (results_24_1 Tryz.results64 rfl ((HK.out.far (p := ⟨w.heap.size, 4, none⟩) (by simp) _).seven _ _ _ _ _ _ _)) rfl ⟨rfl, below_seven (HB.out.setCell (p := ⟨w.heap.size, 4, none⟩) (by simp) _) (by simp) _ _ _ _ _ _ _⟩
set_option maxRecDepth 100000 in
set_option maxHeartbeats 4000000 in
theorem put_w (x : Insn) (s : List UInt8) (w : World) : Calls Tryz.prog 64 #[.agg x.cs, .int .i64 10, .string ⟨s.toArray⟩] w (MemRPost w (putR 10 s x)) := by
  show Calls _ _ _ _ (MemRPost w { x with d := (digR s 10).1 })
  unfold MemRPost Insn.cs
  have hA := Lib.hid (rdigits_any s 10 (.inl rfl))
  unfold DigPost at hA
  dsimp only
  generalize digR s 10 = v at *
  go_enter Tryz.func64, Tryz.ntmps64
  go_wp2_with fail
  refine (hA.out _).mono ?_
  rintro e w2 ⟨rfl, rfl⟩
  go_wp2_with fail
  exact bodyPost_ret (results_24_1 Tryz.results64 rfl (blk_at _ (w.heap.size + 1) 24 _ (by simp))) rfl ⟨rfl, ((Below.refl _ w).alloc (Nat.le_refl _) _).alloc (by simp) _⟩
set_option maxRecDepth 100000 in
set_option maxHeartbeats 4000000 in
theorem put_s (x : Insn) (s : List UInt8) (w : World) : Calls Tryz.prog 64 #[.agg x.cs, .int .i64 11, .string ⟨s.toArray⟩] w (MemRPost w (putR 11 s x)) := by
  show Calls _ _ _ _ (MemRPost w { x with d := (digR s 10).1 })
  unfold MemRPost Insn.cs
  have hA := Lib.hid (rdigits_any s 10 (.inl rfl))
  unfold DigPost at hA
  dsimp only
  generalize digR s 10 = v at *
  go_enter Tryz.func64, Tryz.ntmps64
  go_wp2_with fail
  refine (hA.out _).mono ?_
  rintro e w2 ⟨rfl, rfl⟩
  go_wp2_with fail
  exact bodyPost_ret (results_24_1 Tryz.results64 rfl (blk_at _ (w.heap.size + 1) 24 _ (by simp))) rfl ⟨rfl, ((Below.refl _ w).alloc (Nat.le_refl _) _).alloc (by simp) _⟩
set_option maxRecDepth 100000 in
set_option maxHeartbeats 4000000 in
theorem put_k (x : Insn) (s : List UInt8) (hs : s.length ≤ 1000000) (w : World) : Calls Tryz.prog 64 #[.agg x.cs, .int .i64 12, .string ⟨s.toArray⟩] w (MemRPost w (putR 12 s x)) := by
  show Calls _ _ _ _ (MemRPost w { x with k := signedR s })
  unfold MemRPost Insn.cs
  have hA := Lib.hid (rsigned_any s hs)
  skip
  dsimp only
  generalize signedR s = v at *
  go_enter Tryz.func64, Tryz.ntmps64
  go_wp2_with fail
  refine (hA.out _).mono ?_
  rintro e w2 ⟨rfl, rfl⟩
  go_wp2_with fail
  exact bodyPost_ret (results_24_1 Tryz.results64 rfl (blk_at _ (w.heap.size + 1) 24 _ (by simp))) rfl ⟨rfl, ((Below.refl _ w).alloc (Nat.le_refl _) _).alloc (by simp) _⟩
set_option maxRecDepth 100000 in
set_option maxHeartbeats 4000000 in
theorem put_i (x : Insn) (s : List UInt8) (hs : s.length ≤ 1000000) (w : World) : Calls Tryz.prog 64 #[.agg x.cs, .int .i64 13, .string ⟨s.toArray⟩] w (MemRPost w (putR 13 s x)) := by
  show Calls _ _ _ _ (MemRPost w { x with i := hexedR s })
  unfold MemRPost Insn.cs
  have hA := Lib.hid (rhexed_any s hs)
  skip
  dsimp only
  generalize hexedR s = v at *
  go_enter Tryz.func64, Tryz.ntmps64
  go_wp2_with fail
  refine (hA.out _).mono ?_
  rintro e w2 ⟨rfl, rfl⟩
  go_wp2_with fail
  exact bodyPost_ret (results_24_1 Tryz.results64 rfl (blk_at _ (w.heap.size + 1) 24 _ (by simp))) rfl ⟨rfl, ((Below.refl _ w).alloc (Nat.le_refl _) _).alloc (by simp) _⟩
set_option maxRecDepth 100000 in
set_option maxHeartbeats 4000000 in
theorem put_m (x : Insn) (s : List UInt8) (hs : s.length ≤ 1000000) (w : World) : Calls Tryz.prog 64 #[.agg x.cs, .int .i64 14, .string ⟨s.toArray⟩] w (MemRPost w (putR 14 s x)) := by
  show Calls _ _ _ _ (MemRPost w (memR 14 s x))
  unfold MemRPost Insn.cs
  have hA := Lib.hid (rmemory_any x 14 s hs)
  unfold MemRPost Insn.cs at hA
  generalize memR 14 s x = y at *
  go_enter Tryz.func64, Tryz.ntmps64
  go_wp2_with fail
  refine (hA.out _).mono ?_
  rintro e w1 ⟨rfl, hb⟩
  have HB := Lib.hid ((((Below.refl _ w).alloc (Nat.le_refl _) (.cells #[.int .i64 x.op, .int .i64 x.a, .int .i64 x.b, .int .i64 x.c, .int .i64 x.d, .int .i64 x.k, .int .u32 x.i] 24)).alloc (by simp) (.cells #[.int .i64 0, .int .i64 0, .int .i64 0, .int .i64 0, .int .i64 0, .int .i64 0, .int .u32 0] 24)).call hb (by simp; omega))
  have HK := Lib.hid ((blk_at (w.alloc (.cells #[.int .i64 x.op, .int .i64 x.a, .int .i64 x.b, .int .i64 x.c, .int .i64 x.d, .int .i64 x.k, .int .u32 x.i] 24)) (w.heap.size + 1) 24 #[.int .i64 0, .int .i64 0, .int .i64 0, .int .i64 0, .int .i64 0, .int .i64 0, .int .u32 0] (by simp)).call hb)
  obtain ⟨c0, c1, c2, c3, c4, c5, c6, c7, c8, c9, c10, c11, c12, c13⟩ := HK.out.facts7
  clear hb
  go_wp2_with fail
  exact bodyPost_ret (results_24_1 Tryz.results64 rfl (HK.out.seven _ _ _ _ _ _ _)) rfl ⟨rfl, below_seven HB.out (by simp) _ _ _ _ _ _ _⟩
set_option maxRecDepth 100000 in
set_option maxHeartbeats 4000000 in
theorem put_n (x : Insn) (s : List UInt8) (hs : s.length ≤ 1000000) (w : World) : Calls Tryz.prog 64 #[.agg x.cs, .int .i64 15, .string ⟨s.toArray⟩] w (MemRPost w (putR 15 s x)) := by
  show Calls _ _ _ _ (MemRPost w (memR 15 s x))
  unfold MemRPost Insn.cs
  have hA := Lib.hid (rmemory_any x 15 s hs)
  unfold MemRPost Insn.cs at hA
  generalize memR 15 s x = y at *
  go_enter Tryz.func64, Tryz.ntmps64
  go_wp2_with fail
  refine (hA.out _).mono ?_
  rintro e w1 ⟨rfl, hb⟩
  have HB := Lib.hid ((((Below.refl _ w).alloc (Nat.le_refl _) (.cells #[.int .i64 x.op, .int .i64 x.a, .int .i64 x.b, .int .i64 x.c, .int .i64 x.d, .int .i64 x.k, .int .u32 x.i] 24)).alloc (by simp) (.cells #[.int .i64 0, .int .i64 0, .int .i64 0, .int .i64 0, .int .i64 0, .int .i64 0, .int .u32 0] 24)).call hb (by simp; omega))
  have HK := Lib.hid ((blk_at (w.alloc (.cells #[.int .i64 x.op, .int .i64 x.a, .int .i64 x.b, .int .i64 x.c, .int .i64 x.d, .int .i64 x.k, .int .u32 x.i] 24)) (w.heap.size + 1) 24 #[.int .i64 0, .int .i64 0, .int .i64 0, .int .i64 0, .int .i64 0, .int .i64 0, .int .u32 0] (by simp)).call hb)
  obtain ⟨c0, c1, c2, c3, c4, c5, c6, c7, c8, c9, c10, c11, c12, c13⟩ := HK.out.facts7
  clear hb
  go_wp2_with fail
  exact bodyPost_ret (results_24_1 Tryz.results64 rfl (HK.out.seven _ _ _ _ _ _ _)) rfl ⟨rfl, below_seven HB.out (by simp) _ _ _ _ _ _ _⟩
set_option maxRecDepth 100000 in
set_option maxHeartbeats 4000000 in
theorem put_ra (x : Insn) (s : List UInt8) (hs : s.length ≤ 1000000) (w : World) : Calls Tryz.prog 64 #[.agg x.cs, .int .i64 1, .string ⟨s.toArray⟩] w (MemRPost w (putR 1 s x)) := by
  cases s with
  | nil =>
    show Calls _ _ _ _ (MemRPost w x)
    unfold MemRPost Insn.cs
    clear hs
    go_enter Tryz.func64, Tryz.ntmps64
    go_wp2_with fail
    exact bodyPost_ret (results_24_1 Tryz.results64 rfl (blk_at _ (w.heap.size + 1) 24 _ (by simp))) rfl ⟨rfl, ((Below.refl _ w).alloc (Nat.le_refl _) _).alloc (by simp) _⟩
  | cons d t =>
    show Calls _ _ _ _ (MemRPost w { x with a := (digR t 10).1 })
    have hem : (d :: t).isEmpty = false := rfl
    have ksl : ∀ W, (Instr.slice 9 (.string ⟨(d :: t).toArray⟩) (some (.int .i64 1)) none none).run Tryz.prog W = .ok (.string ⟨t.toArray⟩) W := fun W => by
      simp [go_sem, Tryz.underlying9]
      rw [if_pos (by omega)]
      have := ba_tail d t
      rw [show (d :: t).length = t.length + 1 from rfl] at this
      rw [this]
    have hA := Lib.hid (rdigits_any t 10 (.inl rfl))
    unfold DigPost at hA
    unfold MemRPost Insn.cs
    dsimp only
    generalize digR t 10 = v at *
    clear hs
    generalize d :: t = s at *
    go_enter Tryz.func64, Tryz.ntmps64
    go_wp2_with fail
    refine (hA.out _).mono ?_
    rintro e w2 ⟨rfl, rfl⟩
    go_wp2_with fail
    exact bodyPost_ret (results_24_1 Tryz.results64 rfl (blk_at _ (w.heap.size + 1) 24 _ (by simp))) rfl ⟨rfl, ((Below.refl _ w).alloc (Nat.le_refl _) _).alloc (by simp) _⟩
set_option maxRecDepth 100000 in
set_option maxHeartbeats 4000000 in
theorem put_rb (x : Insn) (s : List UInt8) (hs : s.length ≤ 1000000) (w : World) : Calls Tryz.prog 64 #[.agg x.cs, .int .i64 2, .string ⟨s.toArray⟩] w (MemRPost w (putR 2 s x)) := by
  cases s with
  | nil =>
    show Calls _ _ _ _ (MemRPost w x)
    unfold MemRPost Insn.cs
    clear hs
    go_enter Tryz.func64, Tryz.ntmps64
    go_wp2_with fail
    exact bodyPost_ret (results_24_1 Tryz.results64 rfl (blk_at _ (w.heap.size + 1) 24 _ (by simp))) rfl ⟨rfl, ((Below.refl _ w).alloc (Nat.le_refl _) _).alloc (by simp) _⟩
  | cons d t =>
    show Calls _ _ _ _ (MemRPost w { x with b := (digR t 10).1 })
    have hem : (d :: t).isEmpty = false := rfl
    have ksl : ∀ W, (Instr.slice 9 (.string ⟨(d :: t).toArray⟩) (some (.int .i64 1)) none none).run Tryz.prog W = .ok (.string ⟨t.toArray⟩) W := fun W => by
      simp [go_sem, Tryz.underlying9]
      rw [if_pos (by omega)]
      have := ba_tail d t
      rw [show (d :: t).length = t.length + 1 from rfl] at this
      rw [this]
    have hA := Lib.hid (rdigits_any t 10 (.inl rfl))
    unfold DigPost at hA
    unfold MemRPost Insn.cs
    dsimp only
    generalize digR t 10 = v at *
    clear hs
    generalize d :: t = s at *
    go_enter Tryz.func64, Tryz.ntmps64
    go_wp2_with fail
    refine (hA.out _).mono ?_
    rintro e w2 ⟨rfl, rfl⟩
    go_wp2_with fail
    exact bodyPost_ret (results_24_1 Tryz.results64 rfl (blk_at _ (w.heap.size + 1) 24 _ (by simp))) rfl ⟨rfl, ((Below.refl _ w).alloc (Nat.le_refl _) _).alloc (by simp) _⟩
set_option maxRecDepth 100000 in
set_option maxHeartbeats 4000000 in
theorem put_rc (x : Insn) (s : List UInt8) (hs : s.length ≤ 1000000) (w : World) : Calls Tryz.prog 64 #[.agg x.cs, .int .i64 3, .string ⟨s.toArray⟩] w (MemRPost w (putR 3 s x)) := by
  cases s with
  | nil =>
    show Calls _ _ _ _ (MemRPost w x)
    unfold MemRPost Insn.cs
    clear hs
    go_enter Tryz.func64, Tryz.ntmps64
    go_wp2_with fail
    exact bodyPost_ret (results_24_1 Tryz.results64 rfl (blk_at _ (w.heap.size + 1) 24 _ (by simp))) rfl ⟨rfl, ((Below.refl _ w).alloc (Nat.le_refl _) _).alloc (by simp) _⟩
  | cons d t =>
    show Calls _ _ _ _ (MemRPost w { x with c := (digR t 10).1 })
    have hem : (d :: t).isEmpty = false := rfl
    have ksl : ∀ W, (Instr.slice 9 (.string ⟨(d :: t).toArray⟩) (some (.int .i64 1)) none none).run Tryz.prog W = .ok (.string ⟨t.toArray⟩) W := fun W => by
      simp [go_sem, Tryz.underlying9]
      rw [if_pos (by omega)]
      have := ba_tail d t
      rw [show (d :: t).length = t.length + 1 from rfl] at this
      rw [this]
    have hA := Lib.hid (rdigits_any t 10 (.inl rfl))
    unfold DigPost at hA
    unfold MemRPost Insn.cs
    dsimp only
    generalize digR t 10 = v at *
    clear hs
    generalize d :: t = s at *
    go_enter Tryz.func64, Tryz.ntmps64
    go_wp2_with fail
    refine (hA.out _).mono ?_
    rintro e w2 ⟨rfl, rfl⟩
    go_wp2_with fail
    exact bodyPost_ret (results_24_1 Tryz.results64 rfl (blk_at _ (w.heap.size + 1) 24 _ (by simp))) rfl ⟨rfl, ((Below.refl _ w).alloc (Nat.le_refl _) _).alloc (by simp) _⟩
set_option maxRecDepth 100000 in
set_option maxHeartbeats 4000000 in
theorem put_va (x : Insn) (s : List UInt8) (hs : s.length ≤ 1000000) (w : World) : Calls Tryz.prog 64 #[.agg x.cs, .int .i64 4, .string ⟨s.toArray⟩] w (MemRPost w (putR 4 s x)) := by
  cases s with
  | nil =>
    show Calls _ _ _ _ (MemRPost w x)
    unfold MemRPost Insn.cs
    clear hs
    go_enter Tryz.func64, Tryz.ntmps64
    go_wp2_with fail
    exact bodyPost_ret (results_24_1 Tryz.results64 rfl (blk_at _ (w.heap.size + 1) 24 _ (by simp))) rfl ⟨rfl, ((Below.refl _ w).alloc (Nat.le_refl _) _).alloc (by simp) _⟩
  | cons d t =>
    show Calls _ _ _ _ (MemRPost w { x with a := (digR t 10).1 })
    have hem : (d :: t).isEmpty = false := rfl
    have ksl : ∀ W, (Instr.slice 9 (.string ⟨(d :: t).toArray⟩) (some (.int .i64 1)) none none).run Tryz.prog W = .ok (.string ⟨t.toArray⟩) W := fun W => by
      simp [go_sem, Tryz.underlying9]
      rw [if_pos (by omega)]
      have := ba_tail d t
      rw [show (d :: t).length = t.length + 1 from rfl] at this
      rw [this]
    have hA := Lib.hid (rdigits_any t 10 (.inl rfl))
    unfold DigPost at hA
    unfold MemRPost Insn.cs
    dsimp only
    generalize digR t 10 = v at *
    clear hs
    generalize d :: t = s at *
    go_enter Tryz.func64, Tryz.ntmps64
    go_wp2_with fail
    refine (hA.out _).mono ?_
    rintro e w2 ⟨rfl, rfl⟩
    go_wp2_with fail
    exact bodyPost_ret (results_24_1 Tryz.results64 rfl (blk_at _ (w.heap.size + 1) 24 _ (by simp))) rfl ⟨rfl, ((Below.refl _ w).alloc (Nat.le_refl _) _).alloc (by simp) _⟩
set_option maxRecDepth 100000 in
set_option maxHeartbeats 4000000 in
theorem put_vb (x : Insn) (s : List UInt8) (hs : s.length ≤ 1000000) (w : World) : Calls Tryz.prog 64 #[.agg x.cs, .int .i64 5, .string ⟨s.toArray⟩] w (MemRPost w (putR 5 s x)) := by
  cases s with
  | nil =>
    show Calls _ _ _ _ (MemRPost w x)
    unfold MemRPost Insn.cs
    clear hs
    go_enter Tryz.func64, Tryz.ntmps64
    go_wp2_with fail
    exact bodyPost_ret (results_24_1 Tryz.results64 rfl (blk_at _ (w.heap.size + 1) 24 _ (by simp))) rfl ⟨rfl, ((Below.refl _ w).alloc (Nat.le_refl _) _).alloc (by simp) _⟩
  | cons d t =>
    show Calls _ _ _ _ (MemRPost w { x with b := (digR t 10).1 })
    have hem : (d :: t).isEmpty = false := rfl
    have ksl : ∀ W, (Instr.slice 9 (.string ⟨(d :: t).toArray⟩) (some (.int .i64 1)) none none).run Tryz.prog W = .ok (.string ⟨t.toArray⟩) W := fun W => by
      simp [go_sem, Tryz.underlying9]
      rw [if_pos (by omega)]
      have := ba_tail d t
      rw [show (d :: t).length = t.length + 1 from rfl] at this
      rw [this]
    have hA := Lib.hid (rdigits_any t 10 (.inl rfl))
    unfold DigPost at hA
    unfold MemRPost Insn.cs
    dsimp only
    generalize digR t 10 = v at *
    clear hs
    generalize d :: t = s at *
    go_enter Tryz.func64, Tryz.ntmps64
    go_wp2_with fail
    refine (hA.out _).mono ?_
    rintro e w2 ⟨rfl, rfl⟩
    go_wp2_with fail
    exact bodyPost_ret (results_24_1 Tryz.results64 rfl (blk_at _ (w.heap.size + 1) 24 _ (by simp))) rfl ⟨rfl, ((Below.refl _ w).alloc (Nat.le_refl _) _).alloc (by simp) _⟩
set_option maxRecDepth 100000 in
set_option maxHeartbeats 4000000 in
theorem put_vc (x : Insn) (s : List UInt8) (hs : s.length ≤ 1000000) (w : World) : Calls Tryz.prog 64 #[.agg x.cs, .int .i64 6, .string ⟨s.toArray⟩] w (MemRPost w (putR 6 s x)) := by
  cases s with
  | nil =>
    show Calls _ _ _ _ (MemRPost w x)
    unfold MemRPost Insn.cs
    clear hs
    go_enter Tryz.func64, Tryz.ntmps64
    go_wp2_with fail
    exact bodyPost_ret (results_24_1 Tryz.results64 rfl (blk_at _ (w.heap.size + 1) 24 _ (by simp))) rfl ⟨rfl, ((Below.refl _ w).alloc (Nat.le_refl _) _).alloc (by simp) _⟩
  | cons d t =>
    show Calls _ _ _ _ (MemRPost w { x with c := (digR t 10).1 })
    have hem : (d :: t).isEmpty = false := rfl
    have ksl : ∀ W, (Instr.slice 9 (.string ⟨(d :: t).toArray⟩) (some (.int .i64 1)) none none).run Tryz.prog W = .ok (.string ⟨t.toArray⟩) W := fun W => by
      simp [go_sem, Tryz.underlying9]
      rw [if_pos (by omega)]
      have := ba_tail d t
      rw [show (d :: t).length = t.length + 1 from rfl] at this
      rw [this]
    have hA := Lib.hid (rdigits_any t 10 (.inl rfl))
    unfold DigPost at hA
    unfold MemRPost Insn.cs
    dsimp only
    generalize digR t 10 = v at *
    clear hs
    generalize d :: t = s at *
    go_enter Tryz.func64, Tryz.ntmps64
    go_wp2_with fail
    refine (hA.out _).mono ?_
    rintro e w2 ⟨rfl, rfl⟩
    go_wp2_with fail
    exact bodyPost_ret (results_24_1 Tryz.results64 rfl (blk_at _ (w.heap.size + 1) 24 _ (by simp))) rfl ⟨rfl, ((Below.refl _ w).alloc (Nat.le_refl _) _).alloc (by simp) _⟩
theorem rput_any (x : Insn) (k : Int) (hk : 1 ≤ k ∧ k ≤ 15) (s : List UInt8) (hs : s.length ≤ 1000000) (w : World) : Calls Tryz.prog 64 #[.agg x.cs, .int .i64 k, .string ⟨s.toArray⟩] w (MemRPost w (putR k s x)) := by
  have h : k = 1 ∨ k = 2 ∨ k = 3 ∨ k = 4 ∨ k = 5 ∨ k = 6 ∨ k = 7 ∨ k = 8 ∨ k = 9 ∨ k = 10 ∨ k = 11 ∨ k = 12 ∨ k = 13 ∨ k = 14 ∨ k = 15 := by omega
  rcases h with rfl | rfl | rfl | rfl | rfl | rfl | rfl | rfl | rfl | rfl | rfl | rfl | rfl | rfl | rfl
  · exact put_ra x s hs w
  · exact put_rb x s hs w
  · exact put_rc x s hs w
  · exact put_va x s hs w
  · exact put_vb x s hs w
  · exact put_vc x s hs w
  · exact put_d x s w
  · exact put_e x s w
  · exact put_l x s w
  · exact put_w x s w
  · exact put_s x s w
  · exact put_k x s hs w
  · exact put_i x s hs w
  · exact put_m x s hs w
  · exact put_n x s hs w
end Go.Proofs.YtdkclapinedgiaaGreatDoor

namespace Go.Proofs.YtdkclapinedgiaaGreatDoor
open Go.RowKit
open Go.Sort (grow)

set_option maxRecDepth 100000 in
set_option maxHeartbeats 4000000 in
theorem opd_ra (x : Insn) (ok : x.Ok) (w : World) : Calls Tryz.prog 61 #[.agg x.cs, .int .i64 1] w (TextPost w (opText 97 x)) := by
  obtain ⟨_, _, ha, hb, hcc, hdd, hk⟩ := ok
  have hl := Lib.itoa_length_le x.a (by omega) (by omega)
  have HA := Lib.hid (dec_any x.a (by omega) (by omega))
  unfold TextPost Insn.cs at *
  show Calls _ _ _ _ fun e w' => e = .returned (.string ⟨(114 :: Lib.itoa x.a).toArray⟩) ∧ _
  generalize Lib.itoa x.a = A at *
  clear hb hcc hdd hk ha
  go_enter Tryz.func61, Tryz.ntmps61
  go_wp2_with fail
  refine (HA.out _).mono ?_
  rintro e w1 ⟨rfl, hb1⟩
  go_wp2_with fail
  go_ret
  exact ⟨by simp [ba_app], ((Below.refl _ w).alloc (Nat.le_refl _) _).call hb1 (by simp)⟩
set_option maxRecDepth 100000 in
set_option maxHeartbeats 4000000 in
theorem opd_rb (x : Insn) (ok : x.Ok) (w : World) : Calls Tryz.prog 61 #[.agg x.cs, .int .i64 2] w (TextPost w (opText 98 x)) := by
  obtain ⟨_, _, ha, hb, hcc, hdd, hk⟩ := ok
  have hl := Lib.itoa_length_le x.b (by omega) (by omega)
  have HA := Lib.hid (dec_any x.b (by omega) (by omega))
  unfold TextPost Insn.cs at *
  show Calls _ _ _ _ fun e w' => e = .returned (.string ⟨(114 :: Lib.itoa x.b).toArray⟩) ∧ _
  generalize Lib.itoa x.b = A at *
  clear hb hcc hdd hk ha
  go_enter Tryz.func61, Tryz.ntmps61
  go_wp2_with fail
  refine (HA.out _).mono ?_
  rintro e w1 ⟨rfl, hb1⟩
  go_wp2_with fail
  go_ret
  exact ⟨by simp [ba_app], ((Below.refl _ w).alloc (Nat.le_refl _) _).call hb1 (by simp)⟩
set_option maxRecDepth 100000 in
set_option maxHeartbeats 4000000 in
theorem opd_rc (x : Insn) (ok : x.Ok) (w : World) : Calls Tryz.prog 61 #[.agg x.cs, .int .i64 3] w (TextPost w (opText 99 x)) := by
  obtain ⟨_, _, ha, hb, hcc, hdd, hk⟩ := ok
  have hl := Lib.itoa_length_le x.c (by omega) (by omega)
  have HA := Lib.hid (dec_any x.c (by omega) (by omega))
  unfold TextPost Insn.cs at *
  show Calls _ _ _ _ fun e w' => e = .returned (.string ⟨(114 :: Lib.itoa x.c).toArray⟩) ∧ _
  generalize Lib.itoa x.c = A at *
  clear hb hcc hdd hk ha
  go_enter Tryz.func61, Tryz.ntmps61
  go_wp2_with fail
  refine (HA.out _).mono ?_
  rintro e w1 ⟨rfl, hb1⟩
  go_wp2_with fail
  go_ret
  exact ⟨by simp [ba_app], ((Below.refl _ w).alloc (Nat.le_refl _) _).call hb1 (by simp)⟩
set_option maxRecDepth 100000 in
set_option maxHeartbeats 4000000 in
theorem opd_va (x : Insn) (ok : x.Ok) (w : World) : Calls Tryz.prog 61 #[.agg x.cs, .int .i64 4] w (TextPost w (opText 65 x)) := by
  obtain ⟨_, _, ha, hb, hcc, hdd, hk⟩ := ok
  have hl := Lib.itoa_length_le x.a (by omega) (by omega)
  have HA := Lib.hid (dec_any x.a (by omega) (by omega))
  unfold TextPost Insn.cs at *
  show Calls _ _ _ _ fun e w' => e = .returned (.string ⟨(118 :: Lib.itoa x.a).toArray⟩) ∧ _
  generalize Lib.itoa x.a = A at *
  clear hb hcc hdd hk ha
  go_enter Tryz.func61, Tryz.ntmps61
  go_wp2_with fail
  refine (HA.out _).mono ?_
  rintro e w1 ⟨rfl, hb1⟩
  go_wp2_with fail
  go_ret
  exact ⟨by simp [ba_app], ((Below.refl _ w).alloc (Nat.le_refl _) _).call hb1 (by simp)⟩
set_option maxRecDepth 100000 in
set_option maxHeartbeats 4000000 in
theorem opd_vb (x : Insn) (ok : x.Ok) (w : World) : Calls Tryz.prog 61 #[.agg x.cs, .int .i64 5] w (TextPost w (opText 66 x)) := by
  obtain ⟨_, _, ha, hb, hcc, hdd, hk⟩ := ok
  have hl := Lib.itoa_length_le x.b (by omega) (by omega)
  have HA := Lib.hid (dec_any x.b (by omega) (by omega))
  unfold TextPost Insn.cs at *
  show Calls _ _ _ _ fun e w' => e = .returned (.string ⟨(118 :: Lib.itoa x.b).toArray⟩) ∧ _
  generalize Lib.itoa x.b = A at *
  clear hb hcc hdd hk ha
  go_enter Tryz.func61, Tryz.ntmps61
  go_wp2_with fail
  refine (HA.out _).mono ?_
  rintro e w1 ⟨rfl, hb1⟩
  go_wp2_with fail
  go_ret
  exact ⟨by simp [ba_app], ((Below.refl _ w).alloc (Nat.le_refl _) _).call hb1 (by simp)⟩
set_option maxRecDepth 100000 in
set_option maxHeartbeats 4000000 in
theorem opd_vc (x : Insn) (ok : x.Ok) (w : World) : Calls Tryz.prog 61 #[.agg x.cs, .int .i64 6] w (TextPost w (opText 67 x)) := by
  obtain ⟨_, _, ha, hb, hcc, hdd, hk⟩ := ok
  have hl := Lib.itoa_length_le x.c (by omega) (by omega)
  have HA := Lib.hid (dec_any x.c (by omega) (by omega))
  unfold TextPost Insn.cs at *
  show Calls _ _ _ _ fun e w' => e = .returned (.string ⟨(118 :: Lib.itoa x.c).toArray⟩) ∧ _
  generalize Lib.itoa x.c = A at *
  clear hb hcc hdd hk ha
  go_enter Tryz.func61, Tryz.ntmps61
  go_wp2_with fail
  refine (HA.out _).mono ?_
  rintro e w1 ⟨rfl, hb1⟩
  go_wp2_with fail
  go_ret
  exact ⟨by simp [ba_app], ((Below.refl _ w).alloc (Nat.le_refl _) _).call hb1 (by simp)⟩
set_option maxRecDepth 100000 in
set_option maxHeartbeats 4000000 in
theorem opd_w (x : Insn) (ok : x.Ok) (w : World) : Calls Tryz.prog 61 #[.agg x.cs, .int .i64 10] w (TextPost w (opText 119 x)) := by
  obtain ⟨_, _, ha, hb, hcc, hdd, hk⟩ := ok
  have hl := Lib.itoa_length_le x.d (by omega) (by omega)
  have HA := Lib.hid (dec_any x.d (by omega) (by omega))
  unfold TextPost Insn.cs at *
  show Calls _ _ _ _ fun e w' => e = .returned (.string ⟨(Lib.itoa x.d).toArray⟩) ∧ _
  generalize Lib.itoa x.d = A at *
  clear hb hcc hdd hk ha
  go_enter Tryz.func61, Tryz.ntmps61
  go_wp2_with fail
  refine (HA.out _).mono ?_
  rintro e w1 ⟨rfl, hb1⟩
  go_wp2_with fail
  go_ret
  exact ⟨by rfl, ((Below.refl _ w).alloc (Nat.le_refl _) _).call hb1 (by simp)⟩
set_option maxRecDepth 100000 in
set_option maxHeartbeats 4000000 in
theorem opd_s (x : Insn) (ok : x.Ok) (w : World) : Calls Tryz.prog 61 #[.agg x.cs, .int .i64 11] w (TextPost w (opText 115 x)) := by
  obtain ⟨_, _, ha, hb, hcc, hdd, hk⟩ := ok
  have hl := Lib.itoa_length_le x.d (by omega) (by omega)
  have HA := Lib.hid (dec_any x.d (by omega) (by omega))
  unfold TextPost Insn.cs at *
  show Calls _ _ _ _ fun e w' => e = .returned (.string ⟨(Lib.itoa x.d).toArray⟩) ∧ _
  generalize Lib.itoa x.d = A at *
  clear hb hcc hdd hk ha
  go_enter Tryz.func61, Tryz.ntmps61
  go_wp2_with fail
  refine (HA.out _).mono ?_
  rintro e w1 ⟨rfl, hb1⟩
  go_wp2_with fail
  go_ret
  exact ⟨by rfl, ((Below.refl _ w).alloc (Nat.le_refl _) _).call hb1 (by simp)⟩
set_option maxRecDepth 100000 in
set_option maxHeartbeats 4000000 in
theorem opd_k (x : Insn) (ok : x.Ok) (w : World) : Calls Tryz.prog 61 #[.agg x.cs, .int .i64 12] w (TextPost w (opText 107 x)) := by
  obtain ⟨_, _, ha, hb, hcc, hdd, hk⟩ := ok
  have hl := Lib.itoa_length_le x.k (by omega) (by omega)
  have HA := Lib.hid (dec_any x.k (by omega) (by omega))
  unfold TextPost Insn.cs at *
  show Calls _ _ _ _ fun e w' => e = .returned (.string ⟨(Lib.itoa x.k).toArray⟩) ∧ _
  generalize Lib.itoa x.k = A at *
  clear hb hcc hdd hk ha
  go_enter Tryz.func61, Tryz.ntmps61
  go_wp2_with fail
  refine (HA.out _).mono ?_
  rintro e w1 ⟨rfl, hb1⟩
  go_wp2_with fail
  go_ret
  exact ⟨by rfl, ((Below.refl _ w).alloc (Nat.le_refl _) _).call hb1 (by simp)⟩
set_option maxRecDepth 100000 in
set_option maxHeartbeats 4000000 in
theorem opd_d (x : Insn) (h0 : 0 ≤ x.d) (h1 : x.d < 16) (w : World) : Calls Tryz.prog 61 #[.agg x.cs, .int .i64 7] w (TextPost w (opText 100 x)) := by
  have HT : opText 100 x = condTab.getD x.d.toNat [] := rfl
  unfold Insn.cs
  rw [HT]
  clear HT
  generalize x.d = d at *
  obtain ⟨n, rfl⟩ : ∃ n : Nat, d = n := ⟨d.toNat, by omega⟩
  have hC := Lib.hid (show ∀ W, Calls Tryz.prog 116 #[] W (AtPost W 16 n (condTab.getD n [])) from fun W => (rconds_any W).mono fun _ _ h => h.at_ n (by have : condTab.length = 16 := rfl; omega))
  rw [show ((n : Int).toNat) = n from rfl]
  generalize condTab.getD n [] = R at *
  have hn : n < 16 := by omega
  go_enter Tryz.func61, Tryz.ntmps61
  go_wp2
  go_region_with (go_at_call 116; refine (hC.out _).mono ?_; rintro e w1 ⟨g, rfl, hc, hg, hb⟩; obtain ⟨bc, bf⟩ := bcell hb; simp at hg)
  all_goals
    go_wp2
    go_ret
    refine ⟨rfl, by (repeat (first | exact Below.refl _ _ | assumption | refine Below.drew ?_ | refine Below.alloc ?_ (by first | exact Nat.le_refl _ | (simp; done) | (simp; omega)) _ | refine Below.call ?_ (by assumption) (by first | exact Nat.le_refl _ | (simp; done) | (simp; omega) | omega)))⟩
set_option maxRecDepth 100000 in
set_option maxHeartbeats 4000000 in
theorem opd_e (x : Insn) (h0 : 0 ≤ x.d) (h1 : x.d < 4) (w : World) : Calls Tryz.prog 61 #[.agg x.cs, .int .i64 8] w (TextPost w (opText 101 x)) := by
  have HT : opText 101 x = extTab.getD x.d.toNat [] := rfl
  unfold Insn.cs
  rw [HT]
  clear HT
  generalize x.d = d at *
  obtain ⟨n, rfl⟩ : ∃ n : Nat, d = n := ⟨d.toNat, by omega⟩
  have hC := Lib.hid (show ∀ W, Calls Tryz.prog 117 #[] W (AtPost W 4 n (extTab.getD n [])) from fun W => (rexts_any W).mono fun _ _ h => h.at_ n (by have : extTab.length = 4 := rfl; omega))
  rw [show ((n : Int).toNat) = n from rfl]
  generalize extTab.getD n [] = R at *
  have hn : n < 4 := by omega
  go_enter Tryz.func61, Tryz.ntmps61
  go_wp2
  go_region_with (go_at_call 117; refine (hC.out _).mono ?_; rintro e w1 ⟨g, rfl, hc, hg, hb⟩; obtain ⟨bc, bf⟩ := bcell hb; simp at hg)
  all_goals
    go_wp2
    go_ret
    refine ⟨rfl, by (repeat (first | exact Below.refl _ _ | assumption | refine Below.drew ?_ | refine Below.alloc ?_ (by first | exact Nat.le_refl _ | (simp; done) | (simp; omega)) _ | refine Below.call ?_ (by assumption) (by first | exact Nat.le_refl _ | (simp; done) | (simp; omega) | omega)))⟩
set_option maxRecDepth 100000 in
set_option maxHeartbeats 4000000 in
theorem opd_l (x : Insn) (h0 : 0 ≤ x.d) (h1 : x.d < 3) (w : World) : Calls Tryz.prog 61 #[.agg x.cs, .int .i64 9] w (TextPost w (opText 108 x)) := by
  have HT : opText 108 x = laneTab.getD x.d.toNat [] := rfl
  unfold Insn.cs
  rw [HT]
  clear HT
  generalize x.d = d at *
  obtain ⟨n, rfl⟩ : ∃ n : Nat, d = n := ⟨d.toNat, by omega⟩
  have hC := Lib.hid (show ∀ W, Calls Tryz.prog 118 #[] W (AtPost W 3 n (laneTab.getD n [])) from fun W => (rlanes_any W).mono fun _ _ h => h.at_ n (by have : laneTab.length = 3 := rfl; omega))
  rw [show ((n : Int).toNat) = n from rfl]
  generalize laneTab.getD n [] = R at *
  have hn : n < 3 := by omega
  go_enter Tryz.func61, Tryz.ntmps61
  go_wp2
  go_region_with (go_at_call 118; refine (hC.out _).mono ?_; rintro e w1 ⟨g, rfl, hc, hg, hb⟩; obtain ⟨bc, bf⟩ := bcell hb; simp at hg)
  all_goals
    go_wp2
    go_ret
    refine ⟨rfl, by (repeat (first | exact Below.refl _ _ | assumption | refine Below.drew ?_ | refine Below.alloc ?_ (by first | exact Nat.le_refl _ | (simp; done) | (simp; omega)) _ | refine Below.call ?_ (by assumption) (by first | exact Nat.le_refl _ | (simp; done) | (simp; omega) | omega)))⟩
set_option maxRecDepth 100000 in
set_option maxHeartbeats 4000000 in
theorem opd_i (x : Insn) (i0 : 0 ≤ x.i) (i1 : x.i < 4294967296) (w : World) : Calls Tryz.prog 61 #[.agg x.cs, .int .i64 13] w (TextPost w (opText 105 x)) := by
  have hl := hexL_length x.i.toNat
  have HA := Lib.hid (rhex_any x.i.toNat (by omega))
  rw [show ((x.i.toNat : Nat) : Int) = x.i from by omega] at HA
  unfold TextPost Insn.cs at *
  show Calls _ _ _ _ fun e w' => e = .returned (.string ⟨(48 :: 120 :: hexL x.i.toNat).toArray⟩) ∧ _
  generalize hexL x.i.toNat = A at *
  clear i0 i1
  go_enter Tryz.func61, Tryz.ntmps61
  go_wp2_with fail
  refine (HA.out _).mono ?_
  rintro e w1 ⟨rfl, hb1⟩
  go_wp2_with fail
  go_ret
  exact ⟨by simp [ba_app], ((Below.refl _ w).alloc (Nat.le_refl _) _).call hb1 (by simp)⟩
set_option maxRecDepth 100000 in
set_option maxHeartbeats 4000000 in
theorem opd_n (x : Insn) (ok : x.Ok) (i0 : 0 ≤ x.i) (i1 : x.i < 4294967296) (w : World) : Calls Tryz.prog 61 #[.agg x.cs, .int .i64 15] w (TextPost w (opText 110 x)) := by
  obtain ⟨_, _, ha, hbb, hcc, hdd, hk⟩ := ok
  have hl1 := Lib.itoa_length_le x.b (by omega) (by omega)
  have hl2 := hexL_length x.i.toNat
  have HT : opText 110 x = [91, 114] ++ Lib.itoa x.b ++ [43, 48, 120] ++ hexL x.i.toNat ++ [93] := rfl
  have hr := dec_any x.b (by omega) (by omega)
  have hh := rhex_any x.i.toNat (by omega)
  rw [show ((x.i.toNat : Nat) : Int) = x.i from by omega] at hh
  rw [HT]
  unfold Insn.cs TextPost at *
  clear HT ha hbb hcc hdd hk i0 i1
  have g1 : (⟨(Lib.itoa x.b).toArray⟩ : ByteArray).size ≤ 22 := by rw [ba_size]; omega
  have g2 : (⟨(hexL x.i.toNat).toArray⟩ : ByteArray).size ≤ 10 := by rw [ba_size]; omega
  have GT : Hid (∀ r h : ByteArray, r = ⟨(Lib.itoa x.b).toArray⟩ → h = ⟨(hexL x.i.toNat).toArray⟩ → (⟨#[91, 114]⟩ ++ r ++ ⟨#[43, 48, 120]⟩ ++ h ++ ⟨#[93]⟩ : ByteArray) = ⟨([91, 114] ++ Lib.itoa x.b ++ [43, 48, 120] ++ hexL x.i.toNat ++ [93]).toArray⟩) := by
    intro r h h1 h2
    subst h1 h2
    apply ByteArray.ext
    simp
  generalize e1 : (⟨(Lib.itoa x.b).toArray⟩ : ByteArray) = r at *
  generalize e2 : (⟨(hexL x.i.toNat).toArray⟩ : ByteArray) = h at *
  have GT := Lib.hid (GT.out r h rfl rfl)
  clear e1 e2 hl1 hl2
  generalize ([91, 114] ++ Lib.itoa x.b ++ [43, 48, 120] ++ hexL x.i.toNat ++ [93]) = out at *
  replace hr := Lib.hid hr
  replace hh := Lib.hid hh
  generalize x.i = i at *
  go_enter Tryz.func61, Tryz.ntmps61
  go_wp2
  refine name_world (fun W => (W.cell? ⟨w.heap.size, 2, none⟩ = some (.int .i64 x.b) ∧ W.cell? ⟨w.heap.size, 6, none⟩ = some (.int .u32 i)) ∧ Below w.heap.size w W) _ ⟨⟨?_, ?_⟩, ?_⟩ ?_
  · rw [(Blk.new w 24 _).cell]; rfl
  · rw [(Blk.new w 24 _).cell]; rfl
  · exact (Below.refl _ w).alloc (Nat.le_refl _) _
  rintro W ⟨⟨c2, c6⟩, hB⟩
  have k0 := cell_regrown c2
  have k1 := cell_regrown c6
  have HB := Lib.hid hB
  have cR : ∀ d os, Calls Tryz.prog 115 #[.int .i64 x.b] (grow (redrawn W d) os) fun e w'' => e = .returned (.string r) ∧ ∃ p : Regrown, w'' = grow (redrawn W p.d) p.os := fun d os => Calls.regrown_of (hr.out _)
  have cH : ∀ d os, Calls Tryz.prog 119 #[.int .u32 i] (grow (redrawn W d) os) fun e w'' => e = .returned (.string h) ∧ ∃ p : Regrown, w'' = grow (redrawn W p.d) p.os := fun d os => Calls.regrown_of (hh.out _)
  have n1 : ¬ 9223372036854775807 < 2 + r.size := by omega
  have n2 : ¬ 9223372036854775807 < 2 + r.size + 3 := by omega
  have n3 : ¬ 9223372036854775807 < 2 + r.size + 3 + h.size := by omega
  have n4 : ¬ 9223372036854775807 < 2 + r.size + 3 + h.size + 1 := by omega
  clear c2 c6 hB
  refine wp_region_quiet_below mixed (by kernel_rfl) ?_
  repeat (quiet_step (first | exact cR _ _ | exact cH _ _))
  refine wpQuiet_nil ?_
  intro _ hw'
  obtain ⟨⟨dq, osq⟩, hw''⟩ := hw'
  subst hw''
  clear cR cH k0 k1
  go_wp2
  go_ret
  exact ⟨by rw [← GT.out]; rfl, HB.out.trans ((below_regrown W dq osq).mono HB.out.size)⟩
theorem ba_m1 (b k : List UInt8) : (⟨#[91, 114]⟩ ++ ⟨b.toArray⟩ ++ (⟨#[43]⟩ ++ ⟨k.toArray⟩) ++ ⟨#[93]⟩ : ByteArray) = ⟨(91 :: (114 :: b) ++ [43] ++ k ++ [93]).toArray⟩ := by
  apply ByteArray.ext; simp
theorem ba_m2 (b k : List UInt8) : (⟨#[91, 114]⟩ ++ ⟨b.toArray⟩ ++ ⟨k.toArray⟩ ++ ⟨#[93]⟩ : ByteArray) = ⟨(91 :: (114 :: b) ++ k ++ [93]).toArray⟩ := by
  apply ByteArray.ext; simp
theorem ba_m3 (b : List UInt8) : (⟨#[91, 114]⟩ ++ ⟨b.toArray⟩ ++ ⟨#[93]⟩ : ByteArray) = ⟨(91 :: (114 :: b) ++ [93]).toArray⟩ := by
  apply ByteArray.ext; simp
set_option maxRecDepth 100000 in
set_option maxHeartbeats 4000000 in
theorem opd_m (x : Insn) (ok : x.Ok) (w : World) : Calls Tryz.prog 61 #[.agg x.cs, .int .i64 14] w (TextPost w (opText 109 x)) := by
  obtain ⟨_, _, ha, hbb, hcc, hdd, hk⟩ := ok
  have hl1 := Lib.itoa_length_le x.b (by omega) (by omega)
  have hl2 := Lib.itoa_length_le x.k (by omega) (by omega)
  have HB := Lib.hid (dec_any x.b (by omega) (by omega))
  have HK := Lib.hid (dec_any x.k (by omega) (by omega))
  rw [opText_m]
  unfold Insn.cs TextPost at *
  clear ha hbb hcc hdd hk
  rcases Int.lt_trichotomy x.k 0 with h | h | h
  · rw [if_neg (by omega), if_neg (by omega)]
    have h' : ¬ 0 < x.k := by omega
    generalize Lib.itoa x.b = B at *
    generalize Lib.itoa x.k = K at *
    generalize x.k = k at *
    go_enter Tryz.func61, Tryz.ntmps61
    go_wp2_with fail
    refine (HB.out _).mono ?_
    rintro e w1 ⟨rfl, hb1⟩
    have HB1 := Lib.hid (((Below.refl _ w).alloc (Nat.le_refl _) _).call hb1 (by simp))
    have c5 : w1.cell? ⟨w.heap.size, 5, none⟩ = some (.int .i64 k) := by
      rw [hb1.cell (p := ⟨w.heap.size, 5, none⟩) (by simp), (Blk.new w 24 _).cell]; rfl
    clear hb1
    go_wp2_with fail
    refine (HK.out _).mono ?_
    rintro e w2 ⟨rfl, hb2⟩
    go_wp2_with fail
    go_ret
    exact ⟨by rw [ba_m2]; simp, HB1.out.call hb2 HB1.out.size⟩
  · rw [if_neg (by omega), if_pos (by omega)]
    have h' : ¬ 0 < x.k := by omega
    have h'' : ¬ x.k < 0 := by omega
    generalize Lib.itoa x.b = B at *
    clear HK hl2 h
    generalize x.k = k at *
    go_enter Tryz.func61, Tryz.ntmps61
    go_wp2_with fail
    refine (HB.out _).mono ?_
    rintro e w1 ⟨rfl, hb1⟩
    have HB1 := Lib.hid (((Below.refl _ w).alloc (Nat.le_refl _) _).call hb1 (by simp))
    have c5 : w1.cell? ⟨w.heap.size, 5, none⟩ = some (.int .i64 k) := by
      rw [hb1.cell (p := ⟨w.heap.size, 5, none⟩) (by simp), (Blk.new w 24 _).cell]; rfl
    clear hb1
    go_wp2_with fail
    go_ret
    exact ⟨by rw [ba_m3]; simp, HB1.out⟩
  · rw [if_pos (by omega), if_neg (by omega)]
    have h' : ¬ x.k < 0 := by omega
    generalize Lib.itoa x.b = B at *
    generalize Lib.itoa x.k = K at *
    generalize x.k = k at *
    go_enter Tryz.func61, Tryz.ntmps61
    go_wp2_with fail
    refine (HB.out _).mono ?_
    rintro e w1 ⟨rfl, hb1⟩
    have HB1 := Lib.hid (((Below.refl _ w).alloc (Nat.le_refl _) _).call hb1 (by simp))
    have c5 : w1.cell? ⟨w.heap.size, 5, none⟩ = some (.int .i64 k) := by
      rw [hb1.cell (p := ⟨w.heap.size, 5, none⟩) (by simp), (Blk.new w 24 _).cell]; rfl
    have hlt := HB1.out.size
    have hz : w.heap.size < w1.heap.size := by have := hb1.size; simp at this; omega
    clear hb1
    go_wp2_with fail
    refine (HK.out _).mono ?_
    rintro e w2 ⟨rfl, hb2⟩
    have c5' : w2.cell? ⟨w.heap.size, 5, none⟩ = some (.int .i64 k) := by
      rw [hb2.cell (p := ⟨w.heap.size, 5, none⟩) hz]; exact c5
    have HB2 := Lib.hid (HB1.out.call hb2 HB1.out.size)
    clear hb2 c5
    go_wp2_with fail
    go_ret
    exact ⟨by rw [ba_m1]; simp, HB2.out⟩
theorem opd_any (x : Insn) (ok : x.Ok) (c : UInt8) (hf : Fits c x) (i0 : 0 ≤ x.i) (i1 : x.i < 4294967296) (w : World) : Calls Tryz.prog 61 #[.agg x.cs, .int .i64 (kindOf c)] w (TextPost w (opText c x)) := by
  obtain ⟨hc, hd, he, hl⟩ := hf
  simp only [letters, List.mem_cons, List.mem_nil_iff, or_false] at hc
  rcases hc with rfl | rfl | rfl | rfl | rfl | rfl | rfl | rfl | rfl | rfl | rfl | rfl | rfl | rfl | rfl
  · exact opd_ra x ok w
  · exact opd_rb x ok w
  · exact opd_rc x ok w
  · exact opd_va x ok w
  · exact opd_vb x ok w
  · exact opd_vc x ok w
  · exact opd_d x (hd rfl).1 (hd rfl).2 w
  · exact opd_e x (he rfl).1 (he rfl).2 w
  · exact opd_l x (hl rfl).1 (hl rfl).2 w
  · exact opd_w x ok w
  · exact opd_s x ok w
  · exact opd_k x ok w
  · exact opd_i x i0 i1 w
  · exact opd_n x ok i0 i1 w
  · exact opd_m x ok w
end Go.Proofs.YtdkclapinedgiaaGreatDoor

namespace Go.Proofs.YtdkclapinedgiaaGreatDoor
open Go.RowKit
open Go.Sort (grow)

/-- What the reference's Fields hands back, read as a list. -/
def KPost (w : World) (op : Int) (e : Ending) (w' : World) : Prop :=
  ∃ A n, e = .returned (.tuple #[.slice A n n, .bool (opnd op).2]) ∧ (kindsOf op).length = n ∧ Reads w' w'.heap.size 1 A n (i64s (kindsOf op)) ∧ Below w.heap.size w w'
theorem rkinds_any (op : Int) (w : World) : Calls Tryz.prog 43 #[.int .i64 op] w (KPost w op) := by
  refine (rfields_any op w).mono ?_
  rintro e w' ⟨cs, b, h, hcs, rfl⟩
  have hl : cs.size = (kindsOf op).length := by have := congrArg List.length hcs; simpa using this
  rcases h with ⟨rfl, rfl, rfl⟩ | ⟨rfl, rfl⟩
  · have h0 : kindsOf op = [] := by simpa using hcs.symm
    exact ⟨none, 0, rfl, by rw [h0]; rfl, by rw [h0]; exact Reads.none_, Below.refl _ _⟩
  · exact ⟨_, cs.size, rfl, hl.symm, reads_of_blk (Blk.new w 3 cs) hcs (by simp [i64s, hl]), (Below.refl _ w).alloc (Nat.le_refl _) _⟩

set_option maxHeartbeats 4000000 in
theorem rtext_no (x : Insn) (i0 : 0 ≤ x.i) (i1 : x.i < 4294967296) (hv : x.valid = false) (w : World) : Calls Tryz.prog 17 #[.agg x.cs] w (TextOf w x) := by
  have hh := Lib.hid (fun W => is_any x i0 i1 W)
  have HV := Lib.hid hv
  rw [hv] at hh
  rw [show TextOf w x = fun e w' => e = .returned (.tuple #[.string ⟨([] : List UInt8).toArray⟩, .int .i64 6]) ∧ Below w.heap.size w w' from by funext e w'; unfold TextOf; rw [hv]; rfl]
  unfold Insn.cs at hh ⊢
  clear i0 i1 hv
  go_enter Tryz.func17, Tryz.ntmps17
  go_wp2_with fail
  refine (hh.out _).mono ?_
  rintro e w2 ⟨rfl, hb2⟩
  go_wp2_with fail
  go_ret2
  exact ⟨rfl, ((Below.refl _ w).alloc (Nat.le_refl _) _).call hb2 (by simp)⟩

/-- Where the loop of the reference's Text stands. -/
structure RtAt (w : World) (x : Insn) (A : Option Addr) (n : Nat) (ks : List Int) (wr : World) : Prop where
  bx : Blk wr w.heap.size 24 x.cs
  rk : Reads wr wr.heap.size 1 A n (i64s ks)
  below : Below w.heap.size w wr
theorem RtAt.step {w wr w2 : World} {x : Insn} {A : Option Addr} {n : Nat} {ks : List Int} (h : RtAt w x A n ks wr) (hb : Below wr.heap.size wr w2) : RtAt w x A n ks w2 :=
  ⟨h.bx.call hb, (h.rk.below hb).more hb.size, h.below.call hb h.below.size⟩
set_option maxRecDepth 100000 in
set_option maxHeartbeats 4000000 in
theorem rtext_yes (x : Insn) (i0 : 0 ≤ x.i) (i1 : x.i < 4294967296) (hi : x.In) (hv : x.valid = true) (w : World) : Calls Tryz.prog 17 #[.agg x.cs] w (TextOf w x) := by
  have hh := Lib.hid (fun W => is_any x i0 i1 W)
  have hn := Lib.hid (fun W => rname_any x.op W)
  have hk := Lib.hid (fun W => rkinds_any x.op W)
  have HV := Lib.hid hv
  have ok := Insn.ok hv
  have HO := Lib.hid (fun c hf => opd_any x ok c hf i0 i1)
  have HF := Lib.hid (Insn.fits hv)
  have HL := Lib.hid (textTo_length x hi)
  have HOL := Lib.hid (fun c => opText_length c x hi)
  have hop : (opnd x.op).2 = true := by unfold Insn.valid at hv; simp at hv; exact hv.1
  have HT : Hid (textL x = textTo x (opnd x.op).1 (opnd x.op).1.length) := rfl
  rw [hv] at hh
  unfold NamePost strV at hn
  unfold KPost at hk
  rw [hop, if_pos rfl] at hn
  rw [hop] at hk
  have h5 := opnd_len x.op
  have HK : Hid (kindsOf x.op = (opnd x.op).1.map kindOf) := rfl
  generalize (opnd x.op).1 = l at *
  rw [show TextOf w x = fun e w' => e = .returned (.tuple #[.string ⟨(textL x).toArray⟩, .int .i64 0]) ∧ Below w.heap.size w w' from by funext e w'; unfold TextOf; rw [HV.out]; rfl]
  obtain ⟨L, hL⟩ : ∃ L, textL x = L := ⟨_, rfl⟩
  rw [hL]
  have HLL := Lib.hid hL
  have hT0 : textTo x l 0 = nameOf x.op := rfl
  rw [← hT0] at hn
  unfold Insn.cs at hh HO ⊢
  clear i0 i1 hv hi ok hop hL hT0
  go_enter Tryz.func17, Tryz.ntmps17
  go_wp2_with fail
  refine (hh.out _).mono ?_
  rintro e w2 ⟨rfl, hb2⟩
  have B2 := Lib.hid (((Below.refl _ w).alloc (Nat.le_refl _) (.cells #[.int .i64 x.op, .int .i64 x.a, .int .i64 x.b, .int .i64 x.c, .int .i64 x.d, .int .i64 x.k, .int .u32 x.i] 24)).call hb2 (by simp))
  have K2 := Lib.hid ((Blk.new w 24 #[.int .i64 x.op, .int .i64 x.a, .int .i64 x.b, .int .i64 x.c, .int .i64 x.d, .int .i64 x.k, .int .u32 x.i]).call hb2)
  obtain ⟨a0, a1, a2, a3, a4, a5, a6, a7, a8, a9, a10, a11, a12, a13⟩ := K2.out.facts7
  clear a1 a2 a3 a4 a5 a6 a7 a8 a9 a10 a11 a12 a13 hb2
  go_wp2_with fail
  refine (hn.out _).mono ?_
  rintro e w3 ⟨rfl, hb3⟩
  have B3 := Lib.hid (B2.out.call hb3 B2.out.size)
  have K3 := Lib.hid (K2.out.call hb3)
  obtain ⟨b0, b1, b2, b3, b4, b5, b6, b7, b8, b9, b10, b11, b12, b13⟩ := K3.out.facts7
  clear b1 b2 b3 b4 b5 b6 b7 b8 b9 b10 b11 b12 b13 hb3 a0 B2 K2
  go_wp2_with fail
  refine (hk.out _).mono ?_
  rintro e w4 ⟨A, n, rfl, hln, hr, hb4⟩
  have hnl : l.length = n := by rw [HK.out] at hln; simpa using hln
  have R4 := Lib.hid (show RtAt w x A n (kindsOf x.op) w4 from ⟨K3.out.call hb4, hr, B3.out.call hb4 B3.out.size⟩)
  have HNL := Lib.hid hnl
  clear hb4 hr hln b0 B3 K3 hn hk hh
  go_wp2_with fail
  go_loopw [4, 8] (fun s i wr => ∃ k : Nat, k ≤ n ∧ i = .int .i64 k ∧ s = .string ⟨(textTo x l k).toArray⟩ ∧ RtAt w x A n (kindsOf x.op) wr) (fun _ i _ => n - (intOf i).toNat)
  case atStart => exact ⟨0, by omega, rfl, rfl, R4.out⟩
  case round =>
    obtain ⟨k, hkn, rfl, rfl, hat⟩ := hrel
    have HR := Lib.hid hat
    by_cases hlt : k < n
    · have hll : k < l.length := by rw [HNL.out]; exact hlt
      obtain ⟨b, off, rfl, hb, hcs⟩ := hat.rk.plain (by omega) (by decide)
      have hc := hcs k (.int .i64 (kindOf l[k])) (by
        rw [HK.out]
        unfold i64s
        rw [List.getElem?_map, List.getElem?_map, List.getElem?_eq_getElem hll]
        rfl)
      obtain ⟨a0, a1, a2, a3, a4, a5, a6, a7, a8, a9, a10, a11, a12, a13⟩ := hat.bx.facts7
      have hO := Lib.hid (HO.out l[k] (HF.out _ (List.getElem_mem hll)))
      unfold TextPost at hO
      have hlen := HL.out l k
      have hol := HOL.out l[k]
      clear hcs hat a7 a8 a9 a10 a11 a12 a13
      have hki : (k : Int) < (n : Int) := by omega
      match k, hkn, hlt with
      | 0, hkn, hlt =>
        have HT1 : Hid (textTo x l (0 + 1) = textTo x l 0 ++ ([32] : List UInt8) ++ opText l[0] x) := by
          unfold Hid; rw [show textTo x l (0 + 1) = (if 0 = 0 then nameOf x.op ++ [32] else textTo x l 0 ++ [44, 32]) ++ opText (l.getD 0 0) x from rfl, if_pos rfl, show textTo x l 0 = nameOf x.op from rfl]; simp [hll]
        generalize textTo x l 0 = O at *
        generalize opText l[0] x = P at *
        generalize kindOf l[0] = kd at *
        have n1 : ¬ 9223372036854775807 < O.length + 1 := by omega
        have n2 : ¬ 9223372036854775807 < O.length + 1 + P.length := by omega
        have x0 := cell_regrown a0
        have x1 := cell_regrown a1
        have x2 := cell_regrown a2
        have x3 := cell_regrown a3
        have x4 := cell_regrown a4
        have x5 := cell_regrown a5
        have x6 := cell_regrown a6
        have xk := cell_regrown hc
        (try simp only [Nat.add_zero] at xk)
        have cF : ∀ d os, Calls Tryz.prog 61 #[.agg #[.int .i64 x.op, .int .i64 x.a, .int .i64 x.b, .int .i64 x.c, .int .i64 x.d, .int .i64 x.k, .int .u32 x.i], .int .i64 kd] (grow (redrawn wr d) os) fun e w'' => e = .returned (.string ⟨P.toArray⟩) ∧ ∃ p : Regrown, w'' = grow (redrawn wr p.d) p.os := fun d os => Calls.regrown_of (hO.out _)
        clear a0 a1 a2 a3 a4 a5 a6 hc
        go_wp2
        refine wp_region_quiet_below mixed (by kernel_rfl) ?_
        repeat (quiet_step (first | exact cF _ _))
        refine wpQuiet_nil ?_
        intro _ hw'
        obtain ⟨⟨dq, osq⟩, hw''⟩ := hw'
        subst hw''
        have hb5 := below_regrown wr dq osq
        clear cF x0 x1 x2 x3 x4 x5 x6 xk
        ·
          go_wp2
          go_roundw
          case rel => exact ⟨0 + 1, by omega, by go_num, by rw [HT1.out, ← ba_app, ← ba_app], HR.out.step hb5⟩
          case measure => simp [intOf]; omega
      | k' + 1, hkn, hlt =>
        have HT1 : Hid (textTo x l (k' + 1 + 1) = textTo x l (k' + 1) ++ ([44, 32] : List UInt8) ++ opText l[k' + 1] x) := by
          unfold Hid; rw [textTo, if_neg (by omega)]; simp [hll]
        generalize textTo x l (k' + 1) = O at *
        generalize opText l[k' + 1] x = P at *
        generalize kindOf l[k' + 1] = kd at *
        obtain ⟨k, hk1⟩ : ∃ k, k' + 1 = k := ⟨_, rfl⟩
        have hk0 : 0 < k := by omega
        rw [hk1] at HT1 hkn hlt hc hki hlen ⊢
        clear hll hk1
        have n1 : ¬ 9223372036854775807 < O.length + 2 := by omega
        have n2 : ¬ 9223372036854775807 < O.length + 2 + P.length := by omega
        have hz : ((k : Int) == 0) = false := by simp; omega
        have x0 := cell_regrown a0
        have x1 := cell_regrown a1
        have x2 := cell_regrown a2
        have x3 := cell_regrown a3
        have x4 := cell_regrown a4
        have x5 := cell_regrown a5
        have x6 := cell_regrown a6
        have xk := cell_regrown hc
        (try simp only [Nat.add_zero] at xk)
        have cF : ∀ d os, Calls Tryz.prog 61 #[.agg #[.int .i64 x.op, .int .i64 x.a, .int .i64 x.b, .int .i64 x.c, .int .i64 x.d, .int .i64 x.k, .int .u32 x.i], .int .i64 kd] (grow (redrawn wr d) os) fun e w'' => e = .returned (.string ⟨P.toArray⟩) ∧ ∃ p : Regrown, w'' = grow (redrawn wr p.d) p.os := fun d os => Calls.regrown_of (hO.out _)
        clear a0 a1 a2 a3 a4 a5 a6 hc
        go_wp2
        refine wp_region_quiet_below mixed (by kernel_rfl) ?_
        repeat (quiet_step (first | exact cF _ _))
        refine wpQuiet_nil ?_
        intro _ hw'
        obtain ⟨⟨dq, osq⟩, hw''⟩ := hw'
        subst hw''
        have hb5 := below_regrown wr dq osq
        clear cF x0 x1 x2 x3 x4 x5 x6 xk
        ·
          go_wp2
          go_roundw
          case rel => exact ⟨k + 1, by omega, by go_num, by rw [HT1.out, ← ba_app, ← ba_app], HR.out.step hb5⟩
          case measure => simp [intOf]; omega
    · have hkl : k = l.length := by have := HNL.out; omega
      have HLT : Hid (textTo x l k = L) := by unfold Hid; rw [← HLL.out, HT.out, hkl]
      clear hat hkl
      generalize textTo x l k = O at *
      go_wp2_with fail
      go_ret2
      exact ⟨by rw [HLT.out]; rfl, HR.out.below⟩
theorem rtext_any (x : Insn) (hi : x.In) (w : World) : Calls Tryz.prog 17 #[.agg x.cs] w (TextOf w x) := by
  cases hv : x.valid
  · exact rtext_no x hi.i.1 hi.i.2 hv w
  · exact rtext_yes x hi.i.1 hi.i.2 hi hv w
end Go.Proofs.YtdkclapinedgiaaGreatDoor

namespace Go.Proofs.YtdkclapinedgiaaGreatDoor
open Go.RowKit

theorem pcs_blank (cur t : List UInt8) : pcs [] cur (32 :: t) = pcs [cur] [] t := by
  cases t with
  | nil => simp [pcs]
  | cons d u => rw [pcs, if_pos ⟨rfl, rfl⟩]; simp
theorem pcs_two (out : List (List UInt8)) (cur t : List UInt8) (h : out ≠ []) : pcs out cur (44 :: 32 :: t) = pcs (out ++ [cur]) [] t := by
  rw [pcs, if_neg (fun e => h e.2), if_pos ⟨rfl, rfl, h⟩]
theorem pcs_skip (out : List (List UInt8)) (cur t : List UInt8) (c : UInt8) (h1 : ¬ (c = 32 ∧ out = [])) (h2 : ¬ (c = 44 ∧ t.head? = some 32 ∧ out ≠ [])) : pcs out cur (c :: t) = pcs out (cur ++ [c]) t := by
  cases t with
  | nil => rw [show pcs out cur [c] = if c = 32 ∧ out = [] then out ++ [cur] ++ [[]] else out ++ [cur ++ [c]] from by rw [pcs], if_neg h1]; simp [pcs]
  | cons d u => rw [pcs, if_neg h1, if_neg (by rintro ⟨a, b, c⟩; exact h2 ⟨a, by simp [b], c⟩)]

def PiecesPost (w : World) (L : List (List UInt8)) (e : Ending) (w' : World) : Prop :=
  ∃ A c, e = .returned (.slice A L.length c) ∧ L.length ≤ c ∧ Reads w' w'.heap.size 1 A L.length (L.map strV) ∧ Below w.heap.size w w'
theorem info9 : (Tryz.prog.info? 9).map (fun i => (i.zero, i.size, i.bytes)) = some (some (.string ⟨#[]⟩), 1, 16) := by kernel_rfl
theorem cur_snoc (s : List UInt8) (f k : Nat) (hf : f ≤ k) (hk : k < s.length) : (s.take (k + 1)).drop f = (s.take k).drop f ++ [s[k]] := by
  rw [List.take_add_one, List.getElem?_eq_getElem hk, List.drop_append_of_le_length (by simp; omega)]
  rfl
/-- Where the loop of Pieces stands. -/
structure PcAt (w : World) (s : List UInt8) (L out : List (List UInt8)) (A : Option Addr) (c f k : Nat) (wr : World) : Prop where
  fk : f ≤ k
  kl : k ≤ s.length
  few : out.length ≤ k
  zero : out = [] → f = 0
  own : wr.ownsRow w.heap.size 9 1 (.slice A out.length c) out.length (out.map strV)
  below : Below w.heap.size w wr
  rest : L = pcs out ((s.take k).drop f) (s.drop k)
theorem own_lt {wr : World} {B : Nat} {t : TypeId} {A : Option Addr} {n c : Nat} {xs : List Value} (h : wr.ownsRow B t 1 (.slice A n c) n xs) : n ≤ c := by
  rcases h.2 with ⟨h, h0⟩ | ⟨g', cap', cur, h, _, _, hc, _⟩
  · cases h; omega
  · cases h; exact hc
theorem own_no {wr : World} {B : Nat} {t : TypeId} {A : Option Addr} {n c : Nat} {xs : List Value} (h : wr.ownsRow B t 1 (.slice A n c) n xs) : ∀ j, (Value.slice A n c).ownBlock = some j → B ≤ j := by
  intro j hj
  rcases h.2 with ⟨h, _⟩ | ⟨g', cap', cur, h, hb', _⟩
  · cases h; simp [Value.ownBlock] at hj
  · cases h; simp [Value.ownBlock] at hj; omega

set_option maxRecDepth 100000 in
set_option maxHeartbeats 40000000 in
theorem pieces_any (s : List UInt8) (hs : s.length ≤ 1000000) (w : World) : Calls Tryz.prog 63 #[.string ⟨s.toArray⟩] w (PiecesPost w (pcs [] [] s)) := by
  obtain ⟨i, hi, hz, hsz, hby⟩ := info_parts info9
  obtain ⟨L, hL⟩ : ∃ L, pcs [] [] s = L := ⟨_, rfl⟩
  have HL := Lib.hid hL
  rw [hL]
  clear hL
  go_enter Tryz.func63, Tryz.ntmps63
  go_wp2_with fail
  go_loopw [3, 4, 5] (fun o vf vi wr => ∃ (A : Option Addr) (c f k : Nat) (out : List (List UInt8)), o = .slice A out.length c ∧ vf = .int .i64 f ∧ vi = .int .i64 k ∧ PcAt w s L out A c f k wr) (fun _ _ vi _ => s.length - (intOf vi).toNat)
  case atStart => exact ⟨none, 0, 0, 0, [], rfl, rfl, rfl, ⟨Nat.le_refl _, Nat.zero_le _, Nat.le_refl _, fun _ => rfl, World.ownsRow_nil w _ 9 1, Below.refl _ _, by rw [HL.out.symm]; rfl⟩⟩
  case round =>
    obtain ⟨A, c, f, k, out, rfl, rfl, rfl, hat⟩ := hrel
    have HA := Lib.hid hat
    have hfk := hat.fk
    have hkl := hat.kl
    have hfew := hat.few
    clear hat
    by_cases hlt : k < s.length
    · have kix : ∀ W, (Instr.index 9 (.string ⟨s.toArray⟩) (.int .i64 (k : Int))).run Tryz.prog W = .ok (.int .u8 (s[k].toNat : Int)) W := fun W => run_index_str s k hlt W
      have hrest := HA.out.rest
      rw [List.drop_eq_getElem_cons hlt] at hrest
      have HR := Lib.hid hrest
      have HS := Lib.hid (cur_snoc s f k hfk hlt)
      have hki : (k : Int) < (s.length : Int) := by omega
      have h256 : (s[k].toNat : Int) < 256 := by have := s[k].toNat_lt; omega
      clear hrest
      -- the rounds that only go on
      have GO : Hid (¬ (s[k] = 32 ∧ out = []) → ¬ (s[k] = 44 ∧ (s.drop (k + 1)).head? = some 32 ∧ out ≠ []) → PcAt w s L out A c f (k + 1) wr) := by
        intro h1 h2
        exact ⟨by omega, by omega, by omega, HA.out.zero, HA.out.own, HA.out.below, by rw [HR.out, pcs_skip _ _ _ _ h1 h2, HS.out]⟩
      by_cases h32 : s[k] = 32
      · have hb32 : ((s[k].toNat : Int) == 32) = true := by rw [h32]; rfl
        have hb44 : ((s[k].toNat : Int) == 44) = false := by rw [h32]; rfl
        cases out with
        | nil =>
          obtain rfl := HA.out.zero rfl
          have ksl : ∀ W, (Instr.slice 9 (.string ⟨s.toArray⟩) none (some (.int .i64 (k : Int))) none).run Tryz.prog W = .ok (.string ⟨(s.take k).toArray⟩) W := fun W => by
            simp [go_sem, Tryz.underlying9]
            rw [if_pos (by omega), ba_take]
          have HOWN := Lib.hid HA.out.own
          have HB := Lib.hid HA.out.below
          have HNX : Hid (L = pcs [s.take k] [] (s.drop (k + 1))) := by unfold Hid; rw [HR.out, h32, pcs_blank]; simp
          have hw : wrap64 ((k : Int) + 1) = k + 1 := by unfold wrap64; omega
          simp only [List.length_nil, List.map_nil] at HOWN ⊢
          clear h32 GO HS HR
          generalize (s[k].toNat : Int) = q at *
          go_wp2_with (at_builtin; refine wpList_append_own _ rfl _ _ 80 rfl w.heap.size 9 i (.string ⟨#[]⟩) 1 16 Tryz.underlying80 hi hz hsz hby rfl (by decide) (.slice A 0 c) 0 [] rfl (World.ownsRow.alloc HOWN.out _) ⟨wr.heap.size, 0, none⟩ 1 1 [.string ⟨(s.take k).toArray⟩] rfl rfl (cells_of_blk (Blk.new wr 9 #[.string ⟨(s.take k).toArray⟩]) _ rfl) (by simp [Value.oneCell']) (by unfold maxLen; omega) (by omega) (by have := HB.out.size; simp; omega) ?_; intro v w2 hown2 hgrow2 _; obtain ⟨g2, cap2, rfl⟩ := ownsRow_succ (k := 0) hown2)
          go_roundw
          case rel =>
            refine ⟨_, _, k + 1, k + 1, [s.take k], rfl, by go_num, by go_num, ⟨Nat.le_refl _, by omega, by simp, by simp, ?_, ?_, ?_⟩⟩
            · simpa [strV] using hown2
            · refine (HB.out.alloc HB.out.size _).grown hgrow2 (by have := HB.out.size; simp; omega) (fun j hj => own_no HOWN.out j hj)
            · rw [HNX.out]; simp
          case measure => simp [intOf]; omega
        | cons o os =>
          have hol : ((((o :: os).length : Nat) : Int) == 0) = false := by simp; omega
          have HG := Lib.hid (GO.out (by simp) (by rw [h32]; simp))
          generalize (s[k].toNat : Int) = q at *
          clear h32
          generalize o :: os = out at *
          go_wp2_with fail
          go_roundw
          case rel => exact ⟨A, c, f, k + 1, out, rfl, rfl, by go_num, HG.out⟩
          case measure => simp [intOf]; omega
      · have hb32 : ((s[k].toNat : Int) == 32) = false := by
          rw [beq_eq_false_iff_ne]; intro h; exact h32 (UInt8.toNat_inj.1 (by simp; omega))
        by_cases h44 : s[k] = 44
        · have hb44 : ((s[k].toNat : Int) == 44) = true := by rw [h44]; rfl
          by_cases hn : k + 1 < s.length
          · have hni : (k : Int) + 1 < (s.length : Int) := by omega
            have hw : wrap64 ((k : Int) + 1) = k + 1 := by unfold wrap64; omega
            have kix2 : ∀ W, (Instr.index 9 (.string ⟨s.toArray⟩) (.int .i64 ((k : Int) + 1))).run Tryz.prog W = .ok (.int .u8 (s[k + 1].toNat : Int)) W := fun W => by
              have := run_index_str s (k + 1) hn W
              rwa [show ((k + 1 : Nat) : Int) = (k : Int) + 1 from by omega] at this
            have HD : Hid (s.drop (k + 1) = s[k + 1] :: s.drop (k + 2)) := List.drop_eq_getElem_cons hn
            have h256' : (s[k + 1].toNat : Int) < 256 := by have := s[k + 1].toNat_lt; omega
            by_cases hd : s[k + 1] = 32
            · have hbd : ((s[k + 1].toNat : Int) == 32) = true := by rw [hd]; rfl
              cases out with
              | nil =>
                have HG := Lib.hid (GO.out (by simp [h32]) (by simp))
                clear HD hd h44 h32 GO HS HR
                generalize (s[k].toNat : Int) = q at *
                generalize (s[k + 1].toNat : Int) = q2 at *
                simp only [List.length_nil] at *
                go_wp2_with fail
                go_roundw
                case rel => exact ⟨A, c, f, k + 1, [], rfl, rfl, by go_num, HG.out⟩
                case measure => simp [intOf]; omega
              | cons o os =>
                have hol : (0 : Int) < (((o :: os).length : Nat) : Int) := by simp only [List.length_cons]; omega
                have ksl : ∀ W, (Instr.slice 9 (.string ⟨s.toArray⟩) (some (.int .i64 (f : Int))) (some (.int .i64 (k : Int))) none).run Tryz.prog W = .ok (.string ⟨((s.take k).drop f).toArray⟩) W := fun W => by
                  rw [run_slice_string W 9 ⟨s.toArray⟩ .i64 .i64 (f : Int) (k : Int) Tryz.underlying9 (by omega) (by omega) (by rw [ba_size]; omega)]
                  congr 2
                  apply ByteArray.ext; simp [List.drop_take]
                have HNX : Hid (L = pcs (o :: os ++ [(s.take k).drop f]) [] (s.drop (k + 2))) := by
                  unfold Hid; rw [HR.out, HD.out, h44, hd, pcs_two _ _ _ (by simp)]
                have HOWN := Lib.hid HA.out.own
                have HB := Lib.hid HA.out.below
                have hw2 : wrap64 ((k : Int) + 2) = k + 2 := by unfold wrap64; omega
                have hw3 : wrap64 ((k : Int) + 1 + 1) = k + 1 + 1 := by unfold wrap64; omega
                clear HD hd h44 h32 GO HS HR
                generalize (s[k].toNat : Int) = q at *
                generalize (s[k + 1].toNat : Int) = q2 at *
                generalize o :: os = out at *
                generalize (s.take k).drop f = P at *
                go_wp2_with (at_builtin; refine wpList_append_own _ rfl _ _ 80 rfl w.heap.size 9 i (.string ⟨#[]⟩) 1 16 Tryz.underlying80 hi hz hsz hby rfl (by decide) (.slice A out.length c) out.length (out.map strV) rfl (World.ownsRow.alloc HOWN.out _) ⟨wr.heap.size, 0, none⟩ 1 1 [.string ⟨P.toArray⟩] rfl rfl (cells_of_blk (Blk.new wr 9 #[.string ⟨P.toArray⟩]) _ rfl) (by simp [Value.oneCell']) (by unfold maxLen; omega) (by omega) (by have := HB.out.size; simp; omega) ?_; intro v w2 hown2 hgrow2 _; obtain ⟨g2, cap2, rfl⟩ := ownsRow_succ (k := out.length) hown2)
                go_roundw
                case rel =>
                  refine ⟨some ⟨g2, 0, none⟩, cap2, k + 2, k + 2, out ++ [P], by simp, by go_num, by go_num, ⟨Nat.le_refl _, by omega, by simp; omega, by simp, ?_, ?_, ?_⟩⟩
                  · simpa [strV] using hown2
                  · refine (HB.out.alloc HB.out.size _).grown hgrow2 (by have := HB.out.size; simp; omega) (fun j hj => own_no HOWN.out j hj)
                  · rw [HNX.out]; simp
                case measure => simp [intOf]; omega
            · have hbd : ((s[k + 1].toNat : Int) == 32) = false := by
                rw [beq_eq_false_iff_ne]; intro h; exact hd (UInt8.toNat_inj.1 (by simp; omega))
              have HG := Lib.hid (GO.out (fun e => h32 e.1) (by rw [HD.out]; rintro ⟨_, e, _⟩; exact hd (Option.some.inj e)))
              clear HD hd h44 h32 GO HS HR
              generalize (s[k].toNat : Int) = q at *
              generalize (s[k + 1].toNat : Int) = q2 at *
              go_wp2_with fail
              go_roundw
              case rel => exact ⟨A, c, f, k + 1, out, rfl, rfl, by go_num, HG.out⟩
              case measure => simp [intOf]; omega

          · have hni : ¬ (k : Int) + 1 < (s.length : Int) := by omega
            have hw : wrap64 ((k : Int) + 1) = k + 1 := by unfold wrap64; omega
            have HG := Lib.hid (GO.out (fun e => h32 e.1) (by rw [List.drop_eq_nil_of_le (by omega)]; simp))
            clear h44 h32 GO HS HR
            generalize (s[k].toNat : Int) = q at *
            go_wp2_with fail
            go_roundw
            case rel => exact ⟨A, c, f, k + 1, out, rfl, rfl, by go_num, HG.out⟩
            case measure => simp [intOf]; omega

        · have hb44 : ((s[k].toNat : Int) == 44) = false := by
            rw [beq_eq_false_iff_ne]; intro h; exact h44 (UInt8.toNat_inj.1 (by simp; omega))
          have HG := Lib.hid (GO.out (fun e => h32 e.1) (fun e => h44 e.1))
          clear h44 h32 GO HS HR
          generalize (s[k].toNat : Int) = q at *
          go_wp2_with fail
          go_roundw
          case rel => exact ⟨A, c, f, k + 1, out, rfl, rfl, by go_num, HG.out⟩
          case measure => simp [intOf]; omega

    · obtain rfl : k = s.length := by omega
      have ksl : ∀ W, (Instr.slice 9 (.string ⟨s.toArray⟩) (some (.int .i64 (f : Int))) none none).run Tryz.prog W = .ok (.string ⟨(s.drop f).toArray⟩) W := fun W => by
        simp [go_sem, Tryz.underlying9]
        rw [if_pos (by omega), ba_drop]
      have HNX : Hid (L = out ++ [s.drop f]) := by
        unfold Hid
        have := HA.out.rest
        rw [List.drop_length, List.take_length, pcs] at this
        exact this
      have HOWN := Lib.hid HA.out.own
      have HB := Lib.hid HA.out.below
      clear hlt
      generalize s.drop f = P at *
      go_wp2_with (at_builtin; refine wpList_append_own _ rfl _ _ 80 rfl w.heap.size 9 i (.string ⟨#[]⟩) 1 16 Tryz.underlying80 hi hz hsz hby rfl (by decide) (.slice A out.length c) out.length (out.map strV) rfl (World.ownsRow.alloc HOWN.out _) ⟨wr.heap.size, 0, none⟩ 1 1 [.string ⟨P.toArray⟩] rfl rfl (cells_of_blk (Blk.new wr 9 #[.string ⟨P.toArray⟩]) _ rfl) (by simp [Value.oneCell']) (by unfold maxLen; omega) (by omega) (by have := HB.out.size; simp; omega) ?_; intro v w2 hown2 hgrow2 _; obtain ⟨g2, cap2, rfl⟩ := ownsRow_succ (k := out.length) hown2)
      go_ret
      have HBW : Below w.heap.size w w2 := by refine (HB.out.alloc HB.out.size _).grown hgrow2 (by have := HB.out.size; simp; omega) (fun j hj => own_no HOWN.out j hj)
      rw [HNX.out]
      have e1 : (out ++ [P]).length = out.length + 1 := by simp
      have e2 : (out ++ [P]).map strV = out.map strV ++ [.string ⟨P.toArray⟩] := by simp [strV]
      rw [PiecesPost, e1, e2]
      exact ⟨_, _, rfl, own_lt hown2, Reads.of_own hown2, HBW⟩
end Go.Proofs.YtdkclapinedgiaaGreatDoor
