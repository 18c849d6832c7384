/- Contracts: Div64 of math/bits where the high half is zero; Unrank of package isa. -/
import Derived.Test.YtdkclapinedgiaaGreatDoorD3
namespace Go.Proofs.YtdkclapinedgiaaGreatDoor
open Go.RowKit

set_option maxHeartbeats 4000000 in
theorem div64_any (n y : Int) (w : World) (n0 : 0 ≤ n) (n1 : n < 18446744073709551616) (y0 : 1 ≤ y) :
    Calls Tryz.prog 80 #[.int .u64 0, .int .u64 n, .int .u64 y] w fun e w' => e = .returned (.tuple #[.int .u64 (n / y), .int .u64 (n % y)]) ∧ ∃ q, w' = w.drewN q := by
  have N1 := Lib.hid n1
  clear n1
  have hy : (y == 0) = false := by simp; omega
  have hy2 : decide (y ≤ 0) = false := by simp; omega
  have hy3 : ¬ y = 0 := by omega
  have hy4 : 0 < y := by omega
  go_enter Tryz.func80, Tryz.ntmps80
  go_wp2
  go_quiet (fail)
  go_wp2
  go_ret2
  have e : IntKind.u64.wrap (n.tdiv y) = n / y := by
    rw [Int.tdiv_eq_ediv_of_nonneg n0]
    have h1 : 0 ≤ n / y := Int.ediv_nonneg n0 (by omega)
    have h2 : n / y ≤ n := Int.ediv_le_self _ n0
    have n1 := N1.out
    simp [IntKind.wrap, IntKind.signed, IntKind.bits]
    omega
  exact ⟨by show Ending.returned (.tuple #[.int .u64 (IntKind.u64.wrap (n.tdiv y)), .int .u64 (n % y)]) = _; rw [e], _, rfl⟩

/-- The operation of a number, and the number among those of the operation. -/
def unr : Nat → Nat → Int → Nat × Int
  | 0, k, n => (k, n)
  | f + 1, k, n => if k ≤ 72 ∧ cntOf k ≤ n then unr f (k + 1) (n - cntOf k) else (k, n)
/-- The instruction of an operation with a number. -/
def insnAt (op : Int) (r : Room) (n : Int) : Insn :=
  let n5 := n / manyOf r 5
  let n4 := n5 / manyOf r 4
  let n3 := n4 / manyOf r 3
  let n2 := n3 / manyOf r 2
  let n1 := n2 / manyOf r 1
  ⟨op, n1 % manyOf r 0, n2 % manyOf r 1, n3 % manyOf r 2, n4 % manyOf r 3, if r.k then n5 % manyOf r 4 - 128 else 0, n % manyOf r 5⟩
/-- The instruction ahead of which there are n; the error. -/
def unrankOf (n : Int) : Insn × Int := let p := unr 73 0 n; if 72 < p.1 then (insn0, 1) else (insnAt p.1 (roomOf p.1) p.2, 0)
def UnrankPost (w : World) (n : Int) (e : Ending) (w' : World) : Prop := e = .returned (.tuple #[.agg (unrankOf n).1.cs, .int .i64 (unrankOf n).2]) ∧ Below w.heap.size w w'

def In64 (n : Int) : Prop := 0 ≤ n ∧ n < 18446744073709551616
theorem divIn {n y : Int} (h : In64 n) (hy : 1 ≤ y) : In64 (n / y) :=
  ⟨Int.ediv_nonneg h.1 (by omega), by have := Int.ediv_le_self y h.1; have := h.2; omega⟩
theorem div64_in (n y : Int) (w : World) (h : In64 n) (y0 : 1 ≤ y) :
    Calls Tryz.prog 80 #[.int .u64 0, .int .u64 n, .int .u64 y] w fun e w' => e = .returned (.tuple #[.int .u64 (n / y), .int .u64 (n % y)]) ∧ ∃ q, w' = w.drewN q :=
  div64_any n y w h.1 h.2 y0
theorem many_pos {r : Room} (h : r.In) (j : Nat) (hj : j < 6) : 1 ≤ manyOf r j := by
  obtain ⟨⟨a1, a2⟩, ⟨b1, b2⟩, ⟨c1, c2⟩, ⟨d1, d2⟩⟩ := h
  match j, hj with
  | 0, _ => show 1 ≤ r.a + 1; omega
  | 1, _ => show 1 ≤ r.b + 1; omega
  | 2, _ => show 1 ≤ r.c + 1; omega
  | 3, _ => show 1 ≤ r.d + 1; omega
  | 4, _ => show 1 ≤ if r.k then (256 : Int) else 1; split <;> omega
  | 5, _ => show 1 ≤ if r.i then (4294967296 : Int) else 1; split <;> omega
theorem many_le {r : Room} (h : r.In) (j : Nat) (hj : j < 6) : manyOf r j ≤ 4294967296 := by
  obtain ⟨⟨a1, a2⟩, ⟨b1, b2⟩, ⟨c1, c2⟩, ⟨d1, d2⟩⟩ := h
  match j, hj with
  | 0, _ => show r.a + 1 ≤ _; omega
  | 1, _ => show r.b + 1 ≤ _; omega
  | 2, _ => show r.c + 1 ≤ _; omega
  | 3, _ => show r.d + 1 ≤ _; omega
  | 4, _ => show (if r.k then (256 : Int) else 1) ≤ _; split <;> omega
  | 5, _ => show (if r.i then (4294967296 : Int) else 1) ≤ _; split <;> omega
theorem wrapmod {r : Room} (h : r.In) (j : Nat) (hj : j < 6) (x : Int) : IntKind.i64.wrap (x % manyOf r j) = x % manyOf r j := by
  have h1 := many_pos h j hj
  have h2 := many_le h j hj
  have h3 := Int.emod_nonneg x (show manyOf r j ≠ 0 by omega)
  have h4 := Int.emod_lt_of_pos x (show 0 < manyOf r j by omega)
  exact IntWalk.i64_in _ (by omega)
theorem wrapmod32 {r : Room} (h : r.In) (j : Nat) (hj : j < 6) (x : Int) : IntKind.u32.wrap (x % manyOf r j) = x % manyOf r j := by
  have h1 := many_pos h j hj
  have h2 := many_le h j hj
  have h3 := Int.emod_nonneg x (show manyOf r j ≠ 0 by omega)
  have h4 := Int.emod_lt_of_pos x (show 0 < manyOf r j by omega)
  rw [IntKind.wrap_u32]
  omega
theorem cnt_nonneg (op : Int) : 0 ≤ cntOf op := by
  unfold cntOf; split
  · unfold cntRoom; simp only [IntKind.wrap, IntKind.signed, IntKind.bits]; simp; omega
  · omega
theorem unr_step (k f : Nat) (n : Int) (h : k ≤ 72) (hf : f + k = 73) (hn : cntOf k ≤ n) : unr f k n = unr (f - 1) (k + 1) (n - cntOf k) := by
  obtain ⟨f, rfl⟩ : ∃ g, f = g + 1 := ⟨f - 1, by omega⟩
  simp [unr, h, hn]
theorem unr_stop (k f : Nat) (n : Int) (hf : f + k = 73) (h : ¬ (k ≤ 72 ∧ cntOf k ≤ n)) : unr f k n = (k, n) := by
  cases f with
  | zero => rfl
  | succ f => simp only [unr]; rw [if_neg h]

theorem wrapu64 (x : Int) (h0 : 0 ≤ x) (h1 : x < 18446744073709551616) : IntKind.u64.wrap x = x := by
  simp [IntKind.wrap, IntKind.signed, IntKind.bits]; omega
theorem Blk.chain {w : World} {g t b : Nat} {cs : Array Value} (h : Blk w g t cs) (hb : g ≠ b) (q5 q4 q3 q2 q1 q0 : Nat) (v5 v4 v3 v2 v1 v0 : Value) : Blk ((((((((((((w.drewN q5).setCell ⟨b, 10, none⟩ v5).drewN q4).setCell ⟨b, 8, none⟩ v4).drewN q3).setCell ⟨b, 6, none⟩ v3).drewN q2).setCell ⟨b, 4, none⟩ v2).drewN q1).setCell ⟨b, 2, none⟩ v1).drewN q0).setCell ⟨b, 0, none⟩ v0) g t cs :=
  ((((((((((((h.drewN q5).far (p := ⟨b, 10, none⟩) hb v5).drewN q4).far (p := ⟨b, 8, none⟩) hb v4).drewN q3).far (p := ⟨b, 6, none⟩) hb v3).drewN q2).far (p := ⟨b, 4, none⟩) hb v2).drewN q1).far (p := ⟨b, 2, none⟩) hb v1).drewN q0).far (p := ⟨b, 0, none⟩) hb v0)
theorem below_drewN {B : Nat} {a w : World} (h : Below B a w) (n : Nat) : Below B a (w.drewN n) := ⟨h.os, h.tape, h.output, h.size, h.block⟩
theorem below_chain {B b : Nat} {a w : World} (h : Below B a w) (hb : B ≤ b) (q5 q4 q3 q2 q1 q0 : Nat) (v5 v4 v3 v2 v1 v0 : Value) : Below B a ((((((((((((w.drewN q5).setCell ⟨b, 10, none⟩ v5).drewN q4).setCell ⟨b, 8, none⟩ v4).drewN q3).setCell ⟨b, 6, none⟩ v3).drewN q2).setCell ⟨b, 4, none⟩ v2).drewN q1).setCell ⟨b, 2, none⟩ v1).drewN q0).setCell ⟨b, 0, none⟩ v0) :=
  (below_drewN ((below_drewN ((below_drewN ((below_drewN ((below_drewN ((below_drewN h q5).setCell (p := ⟨b, 10, none⟩) hb v5) q4).setCell (p := ⟨b, 8, none⟩) hb v4) q3).setCell (p := ⟨b, 6, none⟩) hb v3) q2).setCell (p := ⟨b, 4, none⟩) hb v2) q1).setCell (p := ⟨b, 2, none⟩) hb v1) q0).setCell (p := ⟨b, 0, none⟩) hb v0
theorem Blk.chain_own {w : World} {b t : Nat} {c0 c1 c2 c3 c4 c5 c6 c7 c8 c9 ca cb : Value} (h : Blk w b t #[c0, c1, c2, c3, c4, c5, c6, c7, c8, c9, ca, cb]) (q5 q4 q3 q2 q1 q0 : Nat) (v5 v4 v3 v2 v1 v0 : Value) : Blk ((((((((((((w.drewN q5).setCell ⟨b, 10, none⟩ v5).drewN q4).setCell ⟨b, 8, none⟩ v4).drewN q3).setCell ⟨b, 6, none⟩ v3).drewN q2).setCell ⟨b, 4, none⟩ v2).drewN q1).setCell ⟨b, 2, none⟩ v1).drewN q0).setCell ⟨b, 0, none⟩ v0) b t #[v0, c1, v1, c3, v2, c5, v3, c7, v4, c9, v5, cb] := by
  have := ((((((((((((h.drewN q5).set_ 10 v5).drewN q4).set_ 8 v4).drewN q3).set_ 6 v3).drewN q2).set_ 4 v2).drewN q1).set_ 2 v1).drewN q0).set_ 0 v0)
  simpa using this
/-- The six digits behind the second loop of 'Unrank'. -/
def uDig (r : Room) (m : Int) (j : Nat) : Int :=
  match j with
  | 0 => m / manyOf r 5 / manyOf r 4 / manyOf r 3 / manyOf r 2 / manyOf r 1 % manyOf r 0
  | 1 => m / manyOf r 5 / manyOf r 4 / manyOf r 3 / manyOf r 2 % manyOf r 1
  | 2 => m / manyOf r 5 / manyOf r 4 / manyOf r 3 % manyOf r 2
  | 3 => m / manyOf r 5 / manyOf r 4 % manyOf r 3
  | 4 => m / manyOf r 5 % manyOf r 4
  | _ => m % manyOf r 5
def uVals (r : Room) (m : Int) : Array Value :=
  #[.int .u64 (uDig r m 0), .int .u64 (manyOf r 0), .int .u64 (uDig r m 1), .int .u64 (manyOf r 1), .int .u64 (uDig r m 2), .int .u64 (manyOf r 2),
    .int .u64 (uDig r m 3), .int .u64 (manyOf r 3), .int .u64 (uDig r m 4), .int .u64 (manyOf r 4), .int .u64 (uDig r m 5), .int .u64 (manyOf r 5)]
theorem mod_in (x y : Int) (M : Int) (h1 : 1 ≤ y) (h2 : y ≤ M) : 0 ≤ x % y ∧ x % y < M := by
  have h3 := Int.emod_nonneg x (show y ≠ 0 by omega)
  have h4 := Int.emod_lt_of_pos x (show 0 < y by omega)
  omega
theorem many_16 {r : Room} (h : r.In) : manyOf r 0 ≤ 16 ∧ manyOf r 1 ≤ 16 ∧ manyOf r 2 ≤ 16 ∧ manyOf r 3 ≤ 16 ∧ manyOf r 4 ≤ 256 := by
  obtain ⟨⟨a1, a2⟩, ⟨b1, b2⟩, ⟨c1, c2⟩, ⟨d1, d2⟩⟩ := h
  refine ⟨?_, ?_, ?_, ?_, ?_⟩
  · show r.a + 1 ≤ _; omega
  · show r.b + 1 ≤ _; omega
  · show r.c + 1 ≤ _; omega
  · show r.d + 1 ≤ _; omega
  · show (if r.k then (256 : Int) else 1) ≤ _; split <;> omega
theorem uDig_in {r : Room} (h : r.In) (m : Int) : (0 ≤ uDig r m 0 ∧ uDig r m 0 < 16) ∧ (0 ≤ uDig r m 1 ∧ uDig r m 1 < 16) ∧ (0 ≤ uDig r m 2 ∧ uDig r m 2 < 16) ∧ (0 ≤ uDig r m 3 ∧ uDig r m 3 < 16) ∧
    (0 ≤ uDig r m 4 ∧ uDig r m 4 < 256) ∧ (0 ≤ uDig r m 5 ∧ uDig r m 5 < 4294967296) := by
  obtain ⟨h0, h1, h2, h3, h4⟩ := many_16 h
  exact ⟨mod_in _ _ _ (many_pos h 0 (by decide)) h0, mod_in _ _ _ (many_pos h 1 (by decide)) h1, mod_in _ _ _ (many_pos h 2 (by decide)) h2, mod_in _ _ _ (many_pos h 3 (by decide)) h3,
    mod_in _ _ _ (many_pos h 4 (by decide)) h4, mod_in _ _ _ (many_pos h 5 (by decide)) (many_le h 5 (by decide))⟩
theorem name_then {K : Act → World → Prop} {Q : Exit → Act → World → Prop} {a : Act} (F : World → Prop) (W : World) (h : F W) (k : ∀ W', F W' → Exit.then K Q .normal a W') : Exit.then K Q .normal a W := k W h
def UnrFacts2 (w w2 w3 : World) (k : Nat) (m : Int) (W : World) : Prop :=
  W.cell? ⟨w3.heap.size, 8, none⟩ = some (.int .u64 (uDig (roomOf k) m 4)) ∧ W.cell? ⟨w2.heap.size, 4, none⟩ = some (.bool (roomOf k).k) ∧
    Blk W (w2.heap.size + 1) 24 (Insn.cs ⟨k, uDig (roomOf k) m 0, uDig (roomOf k) m 1, uDig (roomOf k) m 2, uDig (roomOf k) m 3, 0, uDig (roomOf k) m 5⟩) ∧
    Blk W w.heap.size 24 insn0.cs ∧ Below w.heap.size w W
def UnrFacts (w w2 w3 : World) (k : Nat) (m : Int) (W : World) : Prop :=
  Blk W w3.heap.size 103 (uVals (roomOf k) m) ∧ Blk W w2.heap.size 98 (roomOf k).cs ∧ Blk W (w2.heap.size + 1) 24 (Insn.cs ⟨k, 0, 0, 0, 0, 0, 0⟩) ∧
    Blk W w.heap.size 24 insn0.cs ∧ Below w.heap.size w W
/-- Where the first loop of 'Unrank' stands. -/
def UnrAt (w wr : World) (n0 : Int) (k : Nat) (n : Int) : Prop :=
  k ≤ 73 ∧ 0 ≤ n ∧ n ≤ n0 ∧ unr (73 - k) k n = unr 73 0 n0 ∧ Blk wr w.heap.size 24 insn0.cs ∧ Below w.heap.size w wr

set_option maxRecDepth 100000 in
set_option maxHeartbeats 4000000 in
theorem unrank_any (n : Int) (w : World) (n0 : 0 ≤ n) (n1 : n < 18446744073709551616) : Calls Tryz.prog 24 #[.int .u64 n] w (UnrankPost w n) := by
  have N1 := Lib.hid n1
  clear n1
  go_enter Tryz.func24, Tryz.ntmps24
  go_wp2
  go_loopw [0, 4] (fun a b wr => ∃ (k : Nat) (m : Int), a = .int .u64 m ∧ b = .int .i64 k ∧ UnrAt w wr n k m) (fun _ b _ => 73 - (intOf b).toNat)
  case atStart => exact ⟨0, n, rfl, rfl, by omega, n0, Int.le_refl _, rfl, Blk.new w 24 _, (Below.refl _ w).alloc (Nat.le_refl _) _⟩
  case round =>
    obtain ⟨k, m, rfl, rfl, hrel⟩ := hrel
    have HR := Lib.hid hrel
    have hm0 := hrel.2.1
    have hk := hrel.1
    clear hrel
    by_cases h72 : k ≤ 72
    · by_cases hcm : cntOf k ≤ m
      · have HB : Hid (Below wr.heap.size wr wr) := Below.refl _ _
        go_wp2_with (first | (go_at_call 79; refine (count_any _ _).mono ?_; rintro e w1 ⟨rfl, hb⟩; replace HB := growCall HB hb; clear hb))
        have hb := HB.out
        have hc0 := cnt_nonneg k
        obtain ⟨h1, h2, h3, h4, h5, h6⟩ := HR.out
        refine ⟨⟨k + 1, m - cntOf k, by rw [wrapu64 _ (by omega) (by have := N1.out; omega)], by go_num, by omega, by omega, by omega, ?_, h5.call hb, h6.call hb h6.size⟩, by simp [intOf]; omega⟩
        rw [← h4, unr_step k (73 - k) m h72 (by omega) hcm, show 73 - (k + 1) = 73 - k - 1 from by omega]
      · have HU : Hid (unrankOf n = (insnAt k (roomOf k) m, 0)) := by
          obtain ⟨h1, h2, h3, h4, h5, h6⟩ := HR.out
          rw [unr_stop k (73 - k) m (by omega) (by omega)] at h4
          unfold Hid unrankOf
          rw [← h4]
          simp only
          rw [if_neg (by omega)]
        have ho : (opnd k).2 = true := by
          cases h : (opnd k).2
          · exfalso; apply hcm; unfold cntOf; rw [h]; simpa using hm0
          · rfl
        have HO := Lib.hid ho
        have hd := Lib.hid (fun W => digits_any (roomOf k) ⟨k, 0, 0, 0, 0, 0, 0⟩ W (room_in k) ⟨by dsimp only; decide, by dsimp only; decide, by dsimp only; decide, by dsimp only; decide, by dsimp only; decide, by dsimp only; decide⟩)
        have hcm' : m < cntOf k := by omega
        clear hcm
        go_wp2_with (first
          | (go_at_call 79; refine (count_any _ _).mono ?_; rintro e w1 ⟨rfl, hb⟩)
          | (go_at_call 71; refine (fields_any _ _).mono ?_; rintro e w2 ⟨rfl, hb2⟩; unfold Room.cs)
          | (go_at_call 73; refine (hd.out _).mono ?_; rintro e w3 ⟨rfl, hb3⟩; obtain ⟨hc3, hf3⟩ := bcell hb3; have hz1 : w2.heap.size < w3.heap.size := by { have := hb3.size; simp at this; omega }; have hz2 : w2.heap.size + 1 < w3.heap.size := by { have := hb3.size; simp at this; omega }; unfold digVals))
        have m5 := many_pos (room_in k) 5 (by decide)
        have m4 := many_pos (room_in k) 4 (by decide)
        have m3 := many_pos (room_in k) 3 (by decide)
        have m2 := many_pos (room_in k) 2 (by decide)
        have m1 := many_pos (room_in k) 1 (by decide)
        have m0 := many_pos (room_in k) 0 (by decide)
        have n5 : In64 m := ⟨hm0, by have := N1.out; have := HR.out.2.2.1; omega⟩
        have n4 := divIn n5 m5
        have n3 := divIn n4 m4
        have n2 := divIn n3 m3
        have n1 := divIn n2 m2
        have n0' := divIn n1 m1
        refine wp_loop_rounds 7 ?_
        rw [rounds_succ]; go_wp2_with (first | (go_at_call 80; refine (div64_in _ _ _ (by assumption) (by assumption)).mono ?_; rintro e w' ⟨rfl, q5, rfl⟩))
        rw [rounds_succ]; go_wp2_with (first | (go_at_call 80; refine (div64_in _ _ _ (by assumption) (by assumption)).mono ?_; rintro e w' ⟨rfl, q4, rfl⟩))
        rw [rounds_succ]; go_wp2_with (first | (go_at_call 80; refine (div64_in _ _ _ (by assumption) (by assumption)).mono ?_; rintro e w' ⟨rfl, q3, rfl⟩))
        rw [rounds_succ]; go_wp2_with (first | (go_at_call 80; refine (div64_in _ _ _ (by assumption) (by assumption)).mono ?_; rintro e w' ⟨rfl, q2, rfl⟩))
        rw [rounds_succ]; go_wp2_with (first | (go_at_call 80; refine (div64_in _ _ _ (by assumption) (by assumption)).mono ?_; rintro e w' ⟨rfl, q1, rfl⟩))
        rw [rounds_succ]; go_wp2_with (first | (go_at_call 80; refine (div64_in _ _ _ (by assumption) (by assumption)).mono ?_; rintro e w' ⟨rfl, q0, rfl⟩))
        rw [rounds_succ]; go_wp2
        refine name_world (UnrFacts w w2 w3 k m) _ ?facts ?_
        case facts =>
          obtain ⟨h1, h2, h3, h4, h5, h6⟩ := HR.out
          have K2 : Blk w2 w.heap.size 24 insn0.cs := (h5.call hb).call hb2
          have B2 : Below w.heap.size w w2 := (h6.call hb h6.size).call hb2 (Nat.le_trans h6.size hb.size)
          have K98 := Blk.call (((Blk.new w2 98 (roomOf k).cs).alloc (.cells (Insn.cs ⟨k, 0, 0, 0, 0, 0, 0⟩) 24))) hb3
          have K24 := Blk.call (blk_at (w2.alloc (.cells (roomOf k).cs 98)) (w2.heap.size + 1) 24 (Insn.cs ⟨k, 0, 0, 0, 0, 0, 0⟩) (by simp)) hb3
          have KI := Blk.call ((K2.alloc (.cells (roomOf k).cs 98)).alloc (.cells (Insn.cs ⟨k, 0, 0, 0, 0, 0, 0⟩) 24)) hb3
          have B3 := ((B2.alloc B2.size (.cells (roomOf k).cs 98)).alloc (by have := B2.size; simp; omega) (.cells (Insn.cs ⟨k, 0, 0, 0, 0, 0, 0⟩) 24)).call hb3 (by have := B2.size; simp; omega)
          have hs2 := B2.size
          have ne1 : w2.heap.size ≠ w3.heap.size := by omega
          have ne2 : w2.heap.size + 1 ≠ w3.heap.size := by omega
          have ne3 : w.heap.size ≠ w3.heap.size := by omega
          exact ⟨(Blk.new w3 103 (digVals (roomOf k) ⟨k, 0, 0, 0, 0, 0, 0⟩)).chain_own _ _ _ _ _ _ _ _ _ _ _ _, (K98.alloc _).chain ne1 _ _ _ _ _ _ _ _ _ _ _ _, (K24.alloc _).chain ne2 _ _ _ _ _ _ _ _ _ _ _ _, (KI.alloc _).chain ne3 _ _ _ _ _ _ _ _ _ _ _ _, below_chain (B3.alloc B3.size _) (by omega) _ _ _ _ _ _ _ _ _ _ _ _⟩
        rintro W ⟨F1, F2, F3, F4, F5⟩
        obtain ⟨uc0, uc1, uc2, uc3, uc4, uc5, uc6, uc7, uc8, uc9, uc10, uc11, uf0, uf1, uf2, uf3, uf4, uf5, uf6, uf7, uf8, uf9, uf10, uf11⟩ := F1.facts12
        obtain ⟨rc0, rc1, rc2, rc3, rc4, rc5, rf0, rf1, rf2, rf3, rf4, rf5⟩ := F2.facts6
        obtain ⟨xc0, xc1, xc2, xc3, xc4, xc5, xc6, xf0, xf1, xf2, xf3, xf4, xf5, xf6⟩ := F3.facts7
        obtain ⟨ic0, ic1, ic2, ic3, ic4, ic5, ic6, if0, if1, if2, if3, if4, if5, if6⟩ := F4.facts7
        have H1 := Lib.hid F1
        have H2 := Lib.hid F2
        have H3 := Lib.hid F3
        have H4 := Lib.hid F4
        have H5 := Lib.hid F5
        clear F1 F2 F3 F4 F5
        have ne2 : ¬ w3.heap.size = w2.heap.size + 1 := by omega
        have ne2' : ¬ w2.heap.size + 1 = w3.heap.size := by omega
        have HB2 : Hid (Below w.heap.size w w2) := (HR.out.2.2.2.2.2.call hb HR.out.2.2.2.2.2.size).call hb2 (Nat.le_trans HR.out.2.2.2.2.2.size hb.size)
        clear hb hb2 hb3 hc3 hf3 hz1 hz2
        obtain ⟨⟨p0, p0'⟩, ⟨p1, p1'⟩, ⟨p2, p2'⟩, ⟨p3, p3'⟩, ⟨p4, p4'⟩, ⟨p5, p5'⟩⟩ := uDig_in (room_in k) m
        have ne3 : ¬ w.heap.size = w2.heap.size + 1 := by have := HR.out.2.2.2.2.2.size; have := HB2.out.size; omega
        have ne3' : ¬ w2.heap.size + 1 = w.heap.size := fun h => ne3 h.symm
        clear m5 m4 m3 m2 m1 m0 n5 n4 n3 n2 n1 n0'
        go_region_held3 (fun w' => w'.cell? ⟨w3.heap.size, 0, none⟩ = some (.int .u64 (uDig (roomOf k) m 0)) ∧ w'.cell? ⟨w3.heap.size, 2, none⟩ = some (.int .u64 (uDig (roomOf k) m 1)) ∧
            w'.cell? ⟨w3.heap.size, 4, none⟩ = some (.int .u64 (uDig (roomOf k) m 2)) ∧ w'.cell? ⟨w3.heap.size, 6, none⟩ = some (.int .u64 (uDig (roomOf k) m 3)) ∧
            w'.cell? ⟨w3.heap.size, 10, none⟩ = some (.int .u64 (uDig (roomOf k) m 5))) (go_keep) (first | fail)
        simp only [IntWalk.i64_in (uDig (roomOf k) m 0) (by omega), IntWalk.i64_in (uDig (roomOf k) m 1) (by omega), IntWalk.i64_in (uDig (roomOf k) m 2) (by omega), IntWalk.i64_in (uDig (roomOf k) m 3) (by omega),
          show IntKind.u32.wrap (uDig (roomOf k) m 5) = uDig (roomOf k) m 5 from by rw [IntKind.wrap_u32]; omega]
        refine name_then (UnrFacts2 w w2 w3 k m) _ ?facts2 ?_
        case facts2 =>
          have hs := HB2.out.size
          have G := ((((H3.out.set_ 1 (.int .i64 (uDig (roomOf k) m 0))).set_ 2 (.int .i64 (uDig (roomOf k) m 1))).set_ 3 (.int .i64 (uDig (roomOf k) m 2))).set_ 4 (.int .i64 (uDig (roomOf k) m 3))).set_ 6 (.int .u32 (uDig (roomOf k) m 5))
          refine ⟨(((((H1.out.far (p := ⟨w2.heap.size + 1, 1, none⟩) ne2 _).far (p := ⟨w2.heap.size + 1, 2, none⟩) ne2 _).far (p := ⟨w2.heap.size + 1, 3, none⟩) ne2 _).far (p := ⟨w2.heap.size + 1, 4, none⟩) ne2 _).far (p := ⟨w2.heap.size + 1, 6, none⟩) ne2 _).drew.cell 8, (((((H2.out.far (p := ⟨w2.heap.size + 1, 1, none⟩) (by simp) _).far (p := ⟨w2.heap.size + 1, 2, none⟩) (by simp) _).far (p := ⟨w2.heap.size + 1, 3, none⟩) (by simp) _).far (p := ⟨w2.heap.size + 1, 4, none⟩) (by simp) _).far (p := ⟨w2.heap.size + 1, 6, none⟩) (by simp) _).drew.cell 4, Blk.drew (by simpa [Insn.cs] using G), ?_, ?_⟩
          · exact ((((H4.out.far (p := ⟨w2.heap.size + 1, 1, none⟩) ne3 _).far (p := ⟨w2.heap.size + 1, 2, none⟩) ne3 _).far (p := ⟨w2.heap.size + 1, 3, none⟩) ne3 _).far (p := ⟨w2.heap.size + 1, 4, none⟩) ne3 _).far (p := ⟨w2.heap.size + 1, 6, none⟩) ne3 _
          · exact (((((H5.out.setCell (p := ⟨w2.heap.size + 1, 1, none⟩) (by simp; omega) _).setCell (p := ⟨w2.heap.size + 1, 2, none⟩) (by simp; omega) _).setCell (p := ⟨w2.heap.size + 1, 3, none⟩) (by simp; omega) _).setCell (p := ⟨w2.heap.size + 1, 4, none⟩) (by simp; omega) _).setCell (p := ⟨w2.heap.size + 1, 6, none⟩) (by simp; omega) _).drew
        rintro W' ⟨E1, E2, E3, E4, E5⟩
        obtain ⟨xc0', xc1', xc2', xc3', xc4', xc5', xc6', xf0', xf1', xf2', xf3', xf4', xf5', xf6'⟩ := E3.facts7
        obtain ⟨ic0', ic1', ic2', ic3', ic4', ic5', ic6', if0', if1', if2', if3', if4', if5', if6'⟩ := E4.facts7
        have G3 := Lib.hid E3
        have G4 := Lib.hid E4
        have G5 := Lib.hid E5
        dsimp only [insn0] at xc0' xc1' xc2' xc3' xc4' xc5' xc6' ic0' ic1' ic2' ic3' ic4' ic5' ic6'
        clear E3 E4 E5
        clear H1 H2 H3 H4 H5
        clear uc0 uc1 uc2 uc3 uc4 uc5 uc6 uc7 uc8 uc9 uc10 uc11 uf0 uf1 uf2 uf3 uf4 uf5 uf6 uf7 uf8 uf9 uf10 uf11
        clear rc0 rc1 rc2 rc3 rc4 rc5 rf0 rf1 rf2 rf3 rf4 rf5 xc0 xc1 xc2 xc3 xc4 xc5 xc6 xf0 xf1 xf2 xf3 xf4 xf5 xf6 ic0 ic1 ic2 ic3 ic4 ic5 ic6 if0 if1 if2 if3 if4 if5 if6
        clear p0 p0' p1 p1' p2 p2' p3 p3' p5 p5'
        by_cases hK : (roomOf k).k = true
        · have HI : Hid (insnAt k (roomOf k) m = ⟨k, uDig (roomOf k) m 0, uDig (roomOf k) m 1, uDig (roomOf k) m 2, uDig (roomOf k) m 3, uDig (roomOf k) m 4 - 128, uDig (roomOf k) m 5⟩) := by
            unfold Hid; simp only [insnAt, hK, if_true]; rfl
          go_wp2
          have hs := HB2.out.size
          exact bodyPost_ret (results_24_2 Tryz.results24 rfl ((G4.out.far (p := ⟨w2.heap.size + 1, 5, none⟩) ne3 _).seven _ _ _ _ _ _ _)) rfl ⟨by rw [HU.out, HI.out]; rfl, below_seven (G5.out.setCell (p := ⟨w2.heap.size + 1, 5, none⟩) (by simp; omega) _) (Nat.le_refl _) _ _ _ _ _ _ _⟩
        · rw [Bool.not_eq_true] at hK
          have HI : Hid (insnAt k (roomOf k) m = ⟨k, uDig (roomOf k) m 0, uDig (roomOf k) m 1, uDig (roomOf k) m 2, uDig (roomOf k) m 3, 0, uDig (roomOf k) m 5⟩) := by
            unfold Hid; simp only [insnAt, hK]; rfl
          go_wp2
          exact bodyPost_ret (results_24_2 Tryz.results24 rfl (G4.out.seven _ _ _ _ _ _ _)) rfl ⟨by rw [HU.out, HI.out]; rfl, below_seven G5.out (Nat.le_refl _) _ _ _ _ _ _ _⟩
    · have hk73 : k = 73 := by omega
      have h72' : (72 : Int) < k := by omega
      have h72b : decide ((k : Int) ≤ 72) = false := by simp; omega
      have h72c : decide ((72 : Int) < k) = true := by simp; omega
      have HU : Hid (unrankOf n = (insn0, 1)) := by
        obtain ⟨h1, h2, h3, h4, h5, h6⟩ := HR.out
        unfold Hid unrankOf
        rw [← h4, hk73]
        rfl
      clear hk73 h72
      obtain ⟨ic0, ic1, ic2, ic3, ic4, ic5, ic6, if0, if1, if2, if3, if4, if5, if6⟩ := HR.out.2.2.2.2.1.facts7
      go_wp2
      obtain ⟨h1, h2, h3, h4, h5, h6⟩ := HR.out
      exact bodyPost_ret (results_24_2 Tryz.results24 rfl (h5.seven _ _ _ _ _ _ _)) rfl ⟨by rw [HU.out]; rfl, below_seven h6 (Nat.le_refl _) _ _ _ _ _ _ _⟩
end Go.Proofs.YtdkclapinedgiaaGreatDoor
