/- Contracts: has, bit, Loads, Stores of the reference; what its UsesOf answers, and that it is what package isa answers. -/
import Derived.Test.YtdkclapinedgiaaGreatDoorE4
import Derived.Test.YtdkclapinedgiaaGreatDoorW4
namespace Go.Proofs.YtdkclapinedgiaaGreatDoor
open Go.RowKit

set_option maxHeartbeats 4000000 in
theorem rhas_any (A : Option Addr) (n c : Nat) (l : List Int) (x : Int) (w : World) (hr : Reads w w.heap.size 1 A n (i64s l)) (hn : n ≤ 1000000) :
    Calls Tryz.prog 67 #[.slice A n c, .int .i64 x] w fun e w' => e = .returned (.bool (hasOp l x)) ∧ w = w' := by
  have hlen : l.length = n := by have := hr.1; simpa [i64s] using this
  have HR := Lib.hid hr
  have HL := Lib.hid hlen
  clear hr hlen
  go_enter Tryz.func67, Tryz.ntmps67
  go_wp2
  go_loop [5] (fun i => ∃ k : Nat, k ≤ n ∧ i = .int .i64 k ∧ ∀ j, j < k → l[j]? ≠ some x) (fun i => n - (intOf i).toNat)
  case atStart => exact ⟨0, by omega, rfl, fun j hj => by omega⟩
  case round =>
    obtain ⟨k, hk, rfl, hno⟩ := hrel
    have HN := Lib.hid hno
    clear hno
    by_cases hlt : k < n
    · obtain ⟨ad, u, rfl, hb, hx, hc⟩ := HR.out.at_ hlt
      have hkl : k < l.length := by rw [HL.out]; exact hlt
      unfold i64s at hx
      rw [List.getElem?_map, List.getElem?_eq_getElem hkl] at hx
      obtain rfl : Value.int .i64 l[k] = u := by simpa using hx
      clear hx
      by_cases hx : l[k] = x
      · have HX := Lib.hid hx
        have hb : (l[k] == x) = true := by simpa using hx
        clear hx
        go_wp2
        go_ret
        exact ⟨by rw [show hasOp l x = true from by unfold hasOp; rw [List.contains_eq_mem, decide_eq_true_eq, ← HX.out]; exact List.getElem_mem hkl]; rfl, rfl⟩
      · have HX := Lib.hid hx
        have hb : (l[k] == x) = false := by simpa using hx
        clear hx
        go_wp2
        refine ⟨⟨k + 1, by omega, by go_num, fun j hj => ?_⟩, by simp [intOf]; omega⟩
        by_cases hjk : j < k
        · exact HN.out j hjk
        · obtain rfl : j = k := by omega
          rw [List.getElem?_eq_getElem hkl]
          intro h
          injection h with h
          exact HX.out h
    · have hkn : k = n := by omega
      go_wp2
      go_ret
      refine ⟨?_, rfl⟩
      rw [show hasOp l x = false from ?_]
      · rfl
      · unfold hasOp
        rw [List.contains_eq_mem, decide_eq_false_iff_not]
        intro hm
        obtain ⟨j, hj, e⟩ := List.getElem_of_mem hm
        exact HN.out j (by rw [hkn, ← HL.out]; exact hj) (by rw [List.getElem?_eq_getElem hj, e])
theorem bit_any (n : Int) (h0 : 0 ≤ n) (h1 : n ≤ 15) (w : World) : Calls Tryz.prog 68 #[.int .i64 n] w fun e w' => e = .returned (.int .i64 (shl1 n)) ∧ w = w' := by
  go_enter Tryz.func68, Tryz.ntmps68
  go_wp2
  go_ret
  refine ⟨?_, rfl⟩
  unfold shl1
  try simp only [wrapQ]
  rfl

theorem bit_still (n : Int) (h0 : 0 ≤ n) (h1 : n ≤ 15) (w : World) : Calls Tryz.prog 68 #[.int .i64 n] w fun e w' => e = .returned (.int .i64 (shl1 n)) ∧ w' = w :=
  (bit_any n h0 h1 w).mono fun _ _ h => ⟨h.1, h.2.symm⟩
theorem loads_any (op : Int) (w : World) : Calls Tryz.prog 69 #[.int .i64 op] w fun e w' => e = .returned (.int .i64 (accOf op).1) ∧ w = w' := by
  go_enter Tryz.func69, Tryz.ntmps69
  go_wp2
  all_goals go_ret
  all_goals refine ⟨?_, rfl⟩
  all_goals (simp_all [accOf]; try ((repeat' split) <;> rfl))
theorem stores_any (op : Int) (w : World) : Calls Tryz.prog 70 #[.int .i64 op] w fun e w' => e = .returned (.int .i64 (accOf op).2) ∧ w = w' := by
  go_enter Tryz.func70, Tryz.ntmps70
  go_wp2
  all_goals go_ret
  all_goals refine ⟨?_, rfl⟩
  all_goals (simp_all [accOf]; try ((repeat' split) <;> rfl))

/-! ### What the reference's UsesOf answers. -/
def stkL : List Int := [34, 35, 68, 41, 42]
def uB (x : Insn) (b : Bool) (u : UsesS) : UsesS := if b then { u with r := orI u.r (shl1 x.b) } else u
def uC (x : Insn) (b : Bool) (u : UsesS) : UsesS := if b then { u with r := orI u.r (shl1 x.c) } else u
def uA (x : Insn) (b : Bool) (u : UsesS) : UsesS := if b then { u with r := orI u.r (shl1 x.a) } else u
def uW (x : Insn) (b : Bool) (u : UsesS) : UsesS := if b then { u with w := orI u.w (shl1 x.a) } else u
def uS (b : Bool) (u : UsesS) : UsesS := if b then { u with r := orI u.r (shl1 15), w := orI u.w (shl1 15) } else u
def uY (b : Bool) (u : UsesS) : UsesS := if b then { u with r := orI u.r 15, w := orI u.w 1 } else u
def uQ (b : Bool) (u : UsesS) : UsesS := if b then { u with r := orI u.r 3, w := orI u.w 1 } else u
def uVB (x : Insn) (b : Bool) (u : UsesS) : UsesS := if b then { u with vr := orI u.vr (shl1 x.b) } else u
def uVC (x : Insn) (b : Bool) (u : UsesS) : UsesS := if b then { u with vr := orI u.vr (shl1 x.c) } else u
def uVA (x : Insn) (b : Bool) (u : UsesS) : UsesS := if b then { u with vr := orI u.vr (shl1 x.a) } else u
def uVW (x : Insn) (b : Bool) (u : UsesS) : UsesS := if b then { u with vw := orI u.vw (shl1 x.a) } else u
def usesBits (x : Insn) : UsesS :=
  let l := kindsOf x.op
  uVW x (hasOp l 4 && (x.op != 49)) <| uVA x ((x.op == 49) || (x.op == 58)) <| uVC x (hasOp l 6) <| uVB x (hasOp l 5) <| uQ (x.op == 44) <| uY (x.op == 43) <| uS (hasOp stkL x.op) <|
    uW x (hasOp l 1 && !hasOp stoL x.op) <| uA x (hasOp stoL x.op || hasOp swpL x.op) <| uC x (hasOp l 3) <| uB x (hasOp l 2 || hasOp l 14 || hasOp l 15) uses0
def uFin (x : Insn) (u : UsesS) : UsesS :=
  { u with fi := hasOp fiL x.op, fo := (decide (3 ≤ x.op) && decide (x.op ≤ 10)) || hasOp foL x.op, ld := (accOf x.op).1, st := (accOf x.op).2, j := hasOp jmpL x.op }
def usesR (x : Insn) : UsesS := uFin x (usesBits x)

theorem or_swap : ∀ b, b < 16 → ∀ c, c < 16 → orI (orI 0 (shl1 (b : Nat))) (shl1 (c : Nat)) = orI (orI 0 (shl1 (c : Nat))) (shl1 (b : Nat)) := by decide +kernel
theorem uses_same_ (x : Insn) (hv : x.valid = true) : usesR x = usesOf x := by
  have ok := Insn.ok hv
  obtain ⟨_, hop, ha, hb, hc, _, _⟩ := ok
  have hsw : orI (orI 0 (shl1 x.b)) (shl1 x.c) = orI (orI 0 (shl1 x.c)) (shl1 x.b) := by
    have := or_swap x.b.toNat (by omega) x.c.toNat (by omega)
    rwa [show ((x.b.toNat : Nat) : Int) = x.b from by omega, show ((x.c.toNat : Nat) : Int) = x.c from by omega] at this
  obtain ⟨op, a, b, c, d, k, i⟩ := x
  dsimp only at hop hsw
  clear hv ha hb hc
  have key : ∀ n : Nat, n < 73 → (1 ≤ n ∧ n ≤ 61 ∨ 64 ≤ n) → usesR ⟨n, a, b, c, d, k, i⟩ = usesOf ⟨n, a, b, c, d, k, i⟩ := by
    intro n hn hr
    have hcase : n = 37 ∨ n ≠ 37 := by omega
    rcases hcase with rfl | hne
    · show UsesS.mk (orI (orI (orI 0 (shl1 b)) (shl1 c)) (shl1 a)) (orI 0 (shl1 a)) 0 0 false true 4 4 false = UsesS.mk (orI (orI (orI 0 (shl1 c)) (shl1 b)) (shl1 a)) (orI 0 (shl1 a)) 0 0 false true 4 4 false
      rw [hsw]
    · have : n ∈ (List.range 73).filter (fun n => n != 37 && (decide (1 ≤ n) && decide (n ≤ 61) || decide (64 ≤ n))) := by
        simp; omega
      have all : ∀ n ∈ (List.range 73).filter (fun n => n != 37 && (decide (1 ≤ n) && decide (n ≤ 61) || decide (64 ≤ n))), usesR ⟨n, a, b, c, d, k, i⟩ = usesOf ⟨n, a, b, c, d, k, i⟩ := by
        rw [show (List.range 73).filter (fun n => n != 37 && (decide (1 ≤ n) && decide (n ≤ 61) || decide (64 ≤ n))) = [1, 2, 3, 4, 5, 6, 7, 8, 9, 10, 11, 12, 13, 14, 15, 16, 17, 18, 19, 20, 21, 22, 23, 24, 25, 26, 27, 28, 29, 30, 31, 32, 33, 34, 35, 36, 38, 39, 40, 41, 42, 43, 44, 45, 46, 47, 48, 49, 50, 51, 52, 53, 54, 55, 56, 57, 58, 59, 60, 61, 64, 65, 66, 67, 68, 69, 70, 71, 72] from by decide +kernel]
        repeat (first | (refine List.forall_mem_cons.2 ⟨by kernel_rfl, ?_⟩) | (intro n hn; cases hn; done))
      exact all n this
  have := key op.toNat (by omega) (by omega)
  rwa [show ((op.toNat : Nat) : Int) = op from by omega] at this
end Go.Proofs.YtdkclapinedgiaaGreatDoor
