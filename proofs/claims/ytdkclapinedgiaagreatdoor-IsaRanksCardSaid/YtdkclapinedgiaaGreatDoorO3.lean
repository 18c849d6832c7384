/- Contracts: cmp.Compare and slices.Compare at int. -/
/- Plain laws of ranks: the numbers of an operation's instructions. No program in sight. -/
/- Plain laws of ranks: all instructions, their numbers and their order. No program in sight. -/
/- Contract: IsaOrder of the law's package (function 14): true, whatever the input. -/
import Derived.Test.YtdkclapinedgiaaGreatDoorE1
import Derived.Test.YtdkclapinedgiaaGreatDoorC5
import Derived.Deep.DeepCutAuto
import Derived.Test.YtdkclapinedgiaaGreatDoorD4
import Derived.Test.YtdkclapinedgiaaGreatDoorD5
import Derived.Laws.StructEq

/- Contract: before of the law's package: the order of instructions. -/

namespace Go.Proofs.YtdkclapinedgiaaGreatDoor
open Go.RowKit

def cmpI (x y : Int) : Int := if x < y then -1 else if y < x then 1 else 0
/-- The order of two lists. -/
def cmpL : List Int → List Int → Int
  | [], [] => 0
  | [], _ :: _ => -1
  | _ :: _, [] => 1
  | x :: l, y :: r => if cmpI x y = 0 then cmpL l r else cmpI x y
theorem nan_int (x : Int) (w : World) : Calls Tryz.prog 167 #[.int .i64 x] w fun e w' => e = .returned (.bool false) ∧ w = w' := by
  go_enter Tryz.func167, Tryz.ntmps167
  go_wp2
  go_ret
  exact ⟨rfl, rfl⟩
theorem cmp_any (x y : Int) (w : World) : Calls Tryz.prog 136 #[.int .i64 x, .int .i64 y] w fun e w' => e = .returned (.int .i64 (cmpI x y)) ∧ w = w' := by
  have hc : Hid (cmpI x y = if x < y then -1 else if y < x then 1 else 0) := rfl
  go_enter Tryz.func136, Tryz.ntmps136
  go_wp2_with (go_at_call 167; refine (nan_int _ _).mono ?_; rintro e w' ⟨rfl, rfl⟩)
  all_goals go_ret
  all_goals refine ⟨?_, rfl⟩
  all_goals rw [hc.out]
  all_goals simp_all
  all_goals omega
theorem cmpL_drop {l r : List Int} {k : Nat} (h1 : k < l.length) (h2 : k < r.length) : cmpL (l.drop k) (r.drop k) = if cmpI l[k] r[k] = 0 then cmpL (l.drop (k + 1)) (r.drop (k + 1)) else cmpI l[k] r[k] := by
  rw [List.drop_eq_getElem_cons h1, List.drop_eq_getElem_cons h2]; rfl
theorem at_i64 {w : World} {B n : Nat} {A : Option Addr} {l : List Int} (hr : Reads w B 1 A n (i64s l)) {k : Nat} (hk : k < l.length) : ∃ ad, A = some ad ∧ w.cell? (ad.add k) = some (.int .i64 l[k]) := by
  have hl : l.length = n := by have := hr.1; simpa [i64s] using this
  obtain ⟨ad, u, rfl, hb, hx, hc⟩ := hr.at_ (k := k) (by omega)
  unfold i64s at hx
  rw [List.getElem?_map, List.getElem?_eq_getElem hk] at hx
  obtain rfl : Value.int .i64 l[k] = u := by simpa using hx
  exact ⟨ad, rfl, hc⟩

set_option maxHeartbeats 4000000 in
theorem compare_any (A B : Option Addr) (n m c d : Nat) (l r : List Int) (w : World) (hl : Reads w w.heap.size 1 A n (i64s l)) (hr : Reads w w.heap.size 1 B m (i64s r)) (hn : n ≤ 1000000) :
    Calls Tryz.prog 92 #[.slice A n c, .slice B m d] w fun e w' => e = .returned (.int .i64 (cmpL l r)) ∧ w = w' := by
  have hln : l.length = n := by have := hl.1; simpa [i64s] using this
  have hrm : r.length = m := by have := hr.1; simpa [i64s] using this
  have HL := Lib.hid hl
  have HR := Lib.hid hr
  have HN := Lib.hid hln
  have HM := Lib.hid hrm
  clear hl hr hln hrm
  go_enter Tryz.func92, Tryz.ntmps92
  go_wp2
  go_loop [11] (fun i => ∃ k : Nat, k ≤ n ∧ k ≤ m ∧ i = .int .i64 k ∧ cmpL (l.drop k) (r.drop k) = cmpL l r) (fun i => n - (intOf i).toNat)
  case atStart => exact ⟨0, by omega, by omega, rfl, rfl⟩
  case round =>
    obtain ⟨k, hk, hkm, rfl, hrest⟩ := hrel
    have HE := Lib.hid hrest
    clear hrest
    by_cases hlt : k < n
    · have hkl : k < l.length := by rw [HN.out]; exact hlt
      obtain ⟨ad, rfl, c1⟩ := at_i64 HL.out hkl
      by_cases hmt : k < m
      · have hkr : k < r.length := by rw [HM.out]; exact hmt
        obtain ⟨bd, rfl, c2⟩ := at_i64 HR.out hkr
        have HD := Lib.hid (cmpL_drop hkl hkr)
        generalize l[k] = a at *
        generalize r[k] = b at *
        have HC := Lib.hid (fun W => cmp_any a b W)
        generalize cmpI a b = q at *
        by_cases hq : q = 0
        · subst hq
          go_wp2_with (go_at_call 136; refine (HC.out _).mono ?_; rintro e w' ⟨rfl, rfl⟩)
          refine ⟨⟨k + 1, by omega, by omega, by go_num, ?_⟩, by simp [intOf]; omega⟩
          have := HD.out
          rw [if_pos trivial] at this
          rw [← this, HE.out]
        · have hqb : (q == 0) = false := beq_eq_false_iff_ne.2 hq
          have HQ := Lib.hid hq
          clear hq
          go_wp2_with (go_at_call 136; refine (HC.out _).mono ?_; rintro e w' ⟨rfl, rfl⟩)
          go_ret
          have := HD.out
          rw [if_neg HQ.out] at this
          exact ⟨by rw [← HE.out, this]; rfl, rfl⟩
      · go_wp2_with fail
        go_ret
        refine ⟨?_, rfl⟩
        rw [← HE.out, List.drop_eq_getElem_cons hkl, List.drop_of_length_le (l := r) (by rw [HM.out]; omega)]
        rfl
    · have hkn : k = n := by omega
      have e1 : l.drop k = [] := List.drop_of_length_le (by rw [HN.out]; omega)
      have E1 := Lib.hid e1
      clear e1
      by_cases hmt : n < m
      · have hkr : k < r.length := by rw [HM.out]; omega
        have HK := Lib.hid hkn
        clear hkn
        go_wp2_with fail
        go_ret
        refine ⟨?_, rfl⟩
        rw [← HE.out, E1.out, List.drop_eq_getElem_cons hkr]
        rfl
      · have HK := Lib.hid hkn
        clear hkn
        go_wp2_with fail
        go_ret
        refine ⟨?_, rfl⟩
        rw [← HE.out, E1.out, List.drop_of_length_le (l := r) (by rw [HM.out]; omega)]
        rfl
end Go.Proofs.YtdkclapinedgiaaGreatDoor

namespace Go.Proofs.YtdkclapinedgiaaGreatDoor
open Go.RowKit

/-- An instruction's numbers, in order. -/
def Insn.nums (x : Insn) : List Int := [x.op, x.a, x.b, x.c, x.d, x.k, x.i]

set_option maxRecDepth 100000 in
set_option maxHeartbeats 4000000 in
theorem before_any (x y : Insn) (hx : 0 ≤ x.i ∧ x.i < 4294967296) (hy : 0 ≤ y.i ∧ y.i < 4294967296) (w : World) :
    Calls Tryz.prog 53 #[.agg x.cs, .agg y.cs] w fun e w' => e = .returned (.bool (decide (cmpL x.nums y.nums < 0))) ∧ Below w.heap.size w w' := by
  have hwx : IntKind.i64.wrap x.i = x.i := by rw [IntKind.wrap_i64]; omega
  have hwy : IntKind.i64.wrap y.i = y.i := by rw [IntKind.wrap_i64]; omega
  unfold Insn.cs
  go_enter Tryz.func53, Tryz.ntmps53
  go_upto_region 1 with fail
  refine name_world (fun W => Blk W w.heap.size 24 x.cs ∧ Blk W (w.heap.size + 1) 24 y.cs ∧ Below w.heap.size w W) _ ⟨(Blk.new w 24 _).alloc _, blk_at _ (w.heap.size + 1) 24 _ (by simp), ((Below.refl _ w).alloc (Nat.le_refl _) _).alloc (by simp) _⟩ ?_
  intro W hW
  obtain ⟨a0, a1, a2, a3, a4, a5, a6, a7, a8, a9, a10, a11, a12, a13⟩ := hW.1.facts7
  obtain ⟨b0, b1, b2, b3, b4, b5, b6, b7, b8, b9, b10, b11, b12, b13⟩ := hW.2.1.facts7
  have z0 : w.heap.size < W.heap.size := hW.1.lt
  have z1 : w.heap.size + 1 < W.heap.size := hW.2.1.lt
  have HW := Lib.hid hW.2.2
  clear a7 a8 a9 a10 a11 a12 a13 b7 b8 b9 b10 b11 b12 b13 hW
  go_region_held3 (fun w' => w'.cell? ⟨w.heap.size, 0, none⟩ = some (.int .i64 x.op) ∧ w'.cell? ⟨w.heap.size, 1, none⟩ = some (.int .i64 x.a) ∧ w'.cell? ⟨w.heap.size, 2, none⟩ = some (.int .i64 x.b) ∧ w'.cell? ⟨w.heap.size, 3, none⟩ = some (.int .i64 x.c) ∧ w'.cell? ⟨w.heap.size, 4, none⟩ = some (.int .i64 x.d) ∧ w'.cell? ⟨w.heap.size, 5, none⟩ = some (.int .i64 x.k) ∧ w'.cell? ⟨w.heap.size, 6, none⟩ = some (.int .u32 x.i) ∧ w'.cell? ⟨w.heap.size + 1, 0, none⟩ = some (.int .i64 y.op) ∧ w'.cell? ⟨w.heap.size + 1, 1, none⟩ = some (.int .i64 y.a) ∧ w'.cell? ⟨w.heap.size + 1, 2, none⟩ = some (.int .i64 y.b) ∧ w'.cell? ⟨w.heap.size + 1, 3, none⟩ = some (.int .i64 y.c) ∧ w'.cell? ⟨w.heap.size + 1, 4, none⟩ = some (.int .i64 y.d) ∧ w'.cell? ⟨w.heap.size + 1, 5, none⟩ = some (.int .i64 y.k) ∧ w'.cell? ⟨w.heap.size + 1, 6, none⟩ = some (.int .u32 y.i)) (go_keep) (first | fail)
  · have K0 : Blk (((W.alloc (.cells #[.int .i64 x.op, .int .i64 x.a, .int .i64 x.b, .int .i64 x.c, .int .i64 x.d, .int .i64 x.k, .int .i64 x.i] 3)).alloc (.cells #[.int .i64 y.op, .int .i64 y.a, .int .i64 y.b, .int .i64 y.c, .int .i64 y.d, .int .i64 y.k, .int .i64 y.i] 3)).drew) W.heap.size 3 _ := ((Blk.new W 3 _).alloc _).drew
    have K1 : Blk (((W.alloc (.cells #[.int .i64 x.op, .int .i64 x.a, .int .i64 x.b, .int .i64 x.c, .int .i64 x.d, .int .i64 x.k, .int .i64 x.i] 3)).alloc (.cells #[.int .i64 y.op, .int .i64 y.a, .int .i64 y.b, .int .i64 y.c, .int .i64 y.d, .int .i64 y.k, .int .i64 y.i] 3)).drew) (W.heap.size + 1) 3 _ := (blk_at _ (W.heap.size + 1) 3 _ (by simp)).drew
    have HB := Lib.hid (((HW.out.alloc HW.out.size (.cells #[.int .i64 x.op, .int .i64 x.a, .int .i64 x.b, .int .i64 x.c, .int .i64 x.d, .int .i64 x.k, .int .i64 x.i] 3)).alloc (by have := HW.out.size; simp; omega) (.cells #[.int .i64 y.op, .int .i64 y.a, .int .i64 y.b, .int .i64 y.c, .int .i64 y.d, .int .i64 y.k, .int .i64 y.i] 3)).drew)
    have HC := Lib.hid (compare_any _ _ 7 7 7 7 x.nums y.nums _ (reads_of_blk K0 rfl rfl) (reads_of_blk K1 rfl rfl) (by omega))
    clear K0 K1 HW hwx hwy a0 a1 a2 a3 a4 a5 a6 b0 b1 b2 b3 b4 b5 b6
    go_wp2_with fail
    refine HC.out.mono ?_
    rintro e w' ⟨rfl, rfl⟩
    go_wp2_with fail
    go_ret
    exact ⟨rfl, HB.out⟩
  · have K0 : Blk (((W.alloc (.cells #[.int .i64 y.op, .int .i64 y.a, .int .i64 y.b, .int .i64 y.c, .int .i64 y.d, .int .i64 y.k, .int .i64 y.i] 3)).alloc (.cells #[.int .i64 x.op, .int .i64 x.a, .int .i64 x.b, .int .i64 x.c, .int .i64 x.d, .int .i64 x.k, .int .i64 x.i] 3)).drew) W.heap.size 3 _ := ((Blk.new W 3 _).alloc _).drew
    have K1 : Blk (((W.alloc (.cells #[.int .i64 y.op, .int .i64 y.a, .int .i64 y.b, .int .i64 y.c, .int .i64 y.d, .int .i64 y.k, .int .i64 y.i] 3)).alloc (.cells #[.int .i64 x.op, .int .i64 x.a, .int .i64 x.b, .int .i64 x.c, .int .i64 x.d, .int .i64 x.k, .int .i64 x.i] 3)).drew) (W.heap.size + 1) 3 _ := (blk_at _ (W.heap.size + 1) 3 _ (by simp)).drew
    have HB := Lib.hid (((HW.out.alloc HW.out.size (.cells #[.int .i64 y.op, .int .i64 y.a, .int .i64 y.b, .int .i64 y.c, .int .i64 y.d, .int .i64 y.k, .int .i64 y.i] 3)).alloc (by have := HW.out.size; simp; omega) (.cells #[.int .i64 x.op, .int .i64 x.a, .int .i64 x.b, .int .i64 x.c, .int .i64 x.d, .int .i64 x.k, .int .i64 x.i] 3)).drew)
    have HC := Lib.hid (compare_any _ _ 7 7 7 7 x.nums y.nums _ (reads_of_blk K1 rfl rfl) (reads_of_blk K0 rfl rfl) (by omega))
    clear K0 K1 HW hwx hwy a0 a1 a2 a3 a4 a5 a6 b0 b1 b2 b3 b4 b5 b6
    go_wp2_with fail
    refine HC.out.mono ?_
    rintro e w' ⟨rfl, rfl⟩
    go_wp2_with fail
    go_ret
    exact ⟨rfl, HB.out⟩
end Go.Proofs.YtdkclapinedgiaaGreatDoor

namespace Go.Proofs.YtdkclapinedgiaaGreatDoor
open Go.RowKit

theorem mix_lt {n M m d : Int} (n0 : 0 ≤ n) (n1 : n < M) (d0 : 0 ≤ d) (d1 : d < m) : 0 ≤ n * m ∧ 0 ≤ n * m + d ∧ n * m + d < M * m := by
  have h := Int.mul_le_mul_of_nonneg_right (show n + 1 ≤ M by omega) (show 0 ≤ m by omega)
  have h0 := Int.mul_nonneg n0 (show 0 ≤ m by omega)
  rw [Int.add_mul] at h
  omega
theorem mix_div {n m d : Int} (d0 : 0 ≤ d) (d1 : d < m) : (n * m + d) / m = n ∧ (n * m + d) % m = d := by
  constructor
  · rw [Int.add_comm, Int.add_mul_ediv_right _ _ (by omega), Int.ediv_eq_zero_of_lt d0 d1, Int.zero_add]
  · rw [Int.add_comm, Int.add_mul_emod_self_right, Int.emod_eq_of_lt d0 d1]
theorem mix_cmp {n m d n' d' : Int} (d0 : 0 ≤ d) (d1 : d < m) (e0 : 0 ≤ d') (e1 : d' < m) : n * m + d < n' * m + d' ↔ n < n' ∨ n = n' ∧ d < d' := by
  rcases Int.lt_trichotomy n n' with h | h | h
  · have h2 := Int.mul_le_mul_of_nonneg_right (show n + 1 ≤ n' by omega) (show 0 ≤ m by omega)
    rw [Int.add_mul] at h2; omega
  · subst h; omega
  · have h2 := Int.mul_le_mul_of_nonneg_right (show n' + 1 ≤ n by omega) (show 0 ≤ m by omega)
    rw [Int.add_mul] at h2; omega
theorem mix_eq {n m d n' d' : Int} (d0 : 0 ≤ d) (d1 : d < m) (e0 : 0 ≤ d') (e1 : d' < m) : n * m + d = n' * m + d' ↔ n = n' ∧ d = d' := by
  have h1 := mix_div (n := n) d0 d1
  have h2 := mix_div (n := n') e0 e1
  constructor
  · intro h; rw [h] at h1; exact ⟨h1.1.symm.trans h2.1, h1.2.symm.trans h2.2⟩
  · rintro ⟨rfl, rfl⟩; rfl
theorem div_back (n m : Int) : n / m * m + n % m = n := by
  have h := Int.emod_def n m
  rw [Int.mul_comm] at h; omega

/-- How many there are of the first digits. -/
def cum (r : Room) : Nat → Int
  | 0 => manyOf r 0
  | j + 1 => cum r j * manyOf r (j + 1)
/-- The number that the first digits make. -/
def raw (r : Room) (x : Insn) : Nat → Int
  | 0 => atOf r x 0
  | j + 1 => raw r x j * manyOf r (j + 1) + atOf r x (j + 1)
/-- Each digit is within its radix. -/
def DigsIn (r : Room) (x : Insn) : Prop := ∀ j, j < 6 → 0 ≤ atOf r x j ∧ atOf r x j < manyOf r j

theorem mul_bound {a b A B : Int} (a0 : 1 ≤ a) (a1 : a ≤ A) (b0 : 1 ≤ b) (b1 : b ≤ B) : 1 ≤ a * b ∧ a * b ≤ A * B := by
  have h1 := Int.mul_le_mul a1 b1 (by omega) (by omega)
  have h2 := Int.mul_le_mul a0 b0 (by omega) (by omega)
  exact ⟨by omega, h1⟩
theorem cum_bound {r : Room} (h : r.In) : (1 ≤ cum r 0 ∧ cum r 0 ≤ 16) ∧ (1 ≤ cum r 1 ∧ cum r 1 ≤ 256) ∧ (1 ≤ cum r 2 ∧ cum r 2 ≤ 4096) ∧ (1 ≤ cum r 3 ∧ cum r 3 ≤ 65536) ∧ (1 ≤ cum r 4 ∧ cum r 4 ≤ 16777216) ∧ (1 ≤ cum r 5 ∧ cum r 5 ≤ 72057594037927936) := by
  have hm := many_16 h
  have h0 : 1 ≤ cum r 0 ∧ cum r 0 ≤ 16 := ⟨many_pos h 0 (by decide), hm.1⟩
  have h1 : 1 ≤ cum r 1 ∧ cum r 1 ≤ 16 * 16 := mul_bound h0.1 h0.2 (many_pos h 1 (by decide)) hm.2.1
  have h2 : 1 ≤ cum r 2 ∧ cum r 2 ≤ 16 * 16 * 16 := mul_bound h1.1 h1.2 (many_pos h 2 (by decide)) hm.2.2.1
  have h3 : 1 ≤ cum r 3 ∧ cum r 3 ≤ 16 * 16 * 16 * 16 := mul_bound h2.1 h2.2 (many_pos h 3 (by decide)) hm.2.2.2.1
  have h4 : 1 ≤ cum r 4 ∧ cum r 4 ≤ 16 * 16 * 16 * 16 * 256 := mul_bound h3.1 h3.2 (many_pos h 4 (by decide)) hm.2.2.2.2
  have h5 : 1 ≤ cum r 5 ∧ cum r 5 ≤ 16 * 16 * 16 * 16 * 256 * 4294967296 := mul_bound h4.1 h4.2 (many_pos h 5 (by decide)) (many_le h 5 (by decide))
  exact ⟨h0, by omega, by omega, by omega, by omega, by omega⟩
theorem cum_le {r : Room} (h : r.In) (j : Nat) (hj : j < 6) : cum r j ≤ 72057594037927936 := by
  have hb := cum_bound h
  match j, hj with
  | 0, _ => omega
  | 1, _ => omega
  | 2, _ => omega
  | 3, _ => omega
  | 4, _ => omega
  | 5, _ => omega
theorem cum_pos {r : Room} (h : r.In) (j : Nat) (hj : j < 6) : 1 ≤ cum r j := by
  have hb := cum_bound h
  match j, hj with
  | 0, _ => omega
  | 1, _ => omega
  | 2, _ => omega
  | 3, _ => omega
  | 4, _ => omega
  | 5, _ => omega
theorem raw_lt {r : Room} {x : Insn} (hd : DigsIn r x) : ∀ j, j < 6 → 0 ≤ raw r x j ∧ raw r x j < cum r j
  | 0, h => hd 0 h
  | j + 1, h => (mix_lt (raw_lt hd j (by omega)).1 (raw_lt hd j (by omega)).2 (hd (j + 1) h).1 (hd (j + 1) h).2).2
theorem own_step {r : Room} {x : Insn} (h : r.In) (hd : DigsIn r x) (j : Nat) (hj : j < 5) : ownStep (raw r x j) (manyOf r (j + 1)) (atOf r x (j + 1)) = raw r x (j + 1) := by
  have h1 := raw_lt hd j (by omega)
  have h2 := hd (j + 1) (by omega)
  have h3 := mix_lt h1.1 h1.2 h2.1 h2.2
  have h4 := cum_le h (j + 1) (by omega)
  have h5 : cum r (j + 1) = cum r j * manyOf r (j + 1) := rfl
  unfold ownStep
  rw [wrapu64 (raw r x j * manyOf r (j + 1)) h3.1 (by omega), wrapu64 _ h3.2.1 (by omega)]
  rfl
theorem own_raw {r : Room} {x : Insn} (h : r.In) (hd : DigsIn r x) : ownOf r x = raw r x 5 := by
  have h0 := hd 0 (by decide)
  have h1 := cum_le h 0 (by decide)
  have e0 : IntKind.u64.wrap (atOf r x 0) = raw r x 0 := wrapu64 _ h0.1 (by have e : cum r 0 = manyOf r 0 := rfl; omega)
  unfold ownOf
  rw [e0, own_step h hd 0 (by decide), own_step h hd 1 (by decide), own_step h hd 2 (by decide), own_step h hd 3 (by decide), own_step h hd 4 (by decide)]
theorem cnt_step {r : Room} (h : r.In) (j : Nat) (hj : j < 5) : IntKind.u64.wrap (cum r j * manyOf r (j + 1)) = cum r (j + 1) := by
  have h1 := cum_pos h (j + 1) (by omega)
  have h2 := cum_le h (j + 1) (by omega)
  exact wrapu64 (cum r (j + 1)) (by omega) (by omega)
theorem cnt_raw {r : Room} (h : r.In) : cntRoom r = cum r 5 := by
  have e0 : IntKind.u64.wrap (manyOf r 0) = cum r 0 := by
    have h1 := cum_pos h 0 (by omega)
    have h2 := cum_le h 0 (by omega)
    exact wrapu64 (cum r 0) (by omega) (by omega)
  unfold cntRoom
  have h1 := cnt_step h 0 (by decide)
  have h2 := cnt_step h 1 (by decide)
  have h3 := cnt_step h 2 (by decide)
  have h4 := cnt_step h 3 (by decide)
  have h5 := cnt_step h 4 (by decide)
  simp only [Nat.zero_add, Nat.reduceAdd] at h1 h2 h3 h4 h5
  first
    | rw [e0, h1, h2, h3, h4, h5]
    | (have e1 : IntKind.u64.wrap (manyOf r 0 * manyOf r 1) = cum r 1 := h1
       rw [h1])

/-- The digits of what a room holds. -/
theorem has_digs {r : Room} {x : Insn} (hh : r.has x = true) (i0 : 0 ≤ x.i) (i1 : x.i < 4294967296) : DigsIn r x := by
  unfold Room.has within at hh
  simp only [Bool.and_eq_true, Bool.or_eq_true, decide_eq_true_eq, beq_iff_eq] at hh
  obtain ⟨⟨⟨⟨⟨ha, hb⟩, hc⟩, hd⟩, hk⟩, hi⟩ := hh
  intro j hj
  match j, hj with
  | 0, _ => show 0 ≤ x.a ∧ x.a < r.a + 1; omega
  | 1, _ => show 0 ≤ x.b ∧ x.b < r.b + 1; omega
  | 2, _ => show 0 ≤ x.c ∧ x.c < r.c + 1; omega
  | 3, _ => show 0 ≤ x.d ∧ x.d < r.d + 1; omega
  | 4, _ =>
    show 0 ≤ (if r.k then x.k + 128 else 0) ∧ (if r.k then x.k + 128 else 0) < (if r.k then 256 else 1)
    rcases h : r.k with _ | _
    · simp
    · simp; omega
  | 5, _ =>
    show 0 ≤ (if r.i then x.i else 0) ∧ (if r.i then x.i else 0) < (if r.i then 4294967296 else 1)
    rcases h : r.i with _ | _
    · simp
    · simp; omega
theorem raw_div {r : Room} {x : Insn} (hd : DigsIn r x) (j : Nat) (hj : j < 5) : raw r x (j + 1) / manyOf r (j + 1) = raw r x j ∧ raw r x (j + 1) % manyOf r (j + 1) = atOf r x (j + 1) :=
  mix_div (hd (j + 1) (by omega)).1 (hd (j + 1) (by omega)).2

theorem at_own {r : Room} {x : Insn} (h : r.In) (hh : r.has x = true) (i0 : 0 ≤ x.i) (i1 : x.i < 4294967296) : insnAt x.op r (ownOf r x) = x := by
  have hd := has_digs hh i0 i1
  have d5 := raw_div hd 4 (by decide)
  have d4 := raw_div hd 3 (by decide)
  have d3 := raw_div hd 2 (by decide)
  have d2 := raw_div hd 1 (by decide)
  have d1 := raw_div hd 0 (by decide)
  have d0 : raw r x 0 % manyOf r 0 = atOf r x 0 := Int.emod_eq_of_lt (hd 0 (by decide)).1 (hd 0 (by decide)).2
  simp only [Nat.zero_add, Nat.reduceAdd] at d1 d2 d3 d4 d5
  rw [own_raw h hd]
  unfold insnAt
  simp only [d5.1, d5.2, d4.1, d4.2, d3.1, d3.2, d2.1, d2.2, d1.1, d1.2, d0]
  unfold Room.has within at hh
  simp only [Bool.and_eq_true, Bool.or_eq_true, decide_eq_true_eq, beq_iff_eq] at hh
  obtain ⟨⟨⟨⟨⟨ha, hb⟩, hc⟩, hd⟩, hk⟩, hi⟩ := hh
  have ek : (if r.k then atOf r x 4 - 128 else 0) = x.k := by
    show (if r.k then (if r.k then x.k + 128 else 0) - 128 else 0) = x.k
    rcases h : r.k with _ | _
    · simp [h] at hk ⊢; omega
    · simp
  have ei : atOf r x 5 = x.i := by
    show (if r.i then x.i else 0) = x.i
    rcases h : r.i with _ | _
    · simp [h] at hi ⊢; omega
    · simp
  rw [ek, ei]
  rfl
theorem own_lt {r : Room} {x : Insn} (h : r.In) (hh : r.has x = true) (i0 : 0 ≤ x.i) (i1 : x.i < 4294967296) : 0 ≤ ownOf r x ∧ ownOf r x < cntRoom r := by
  have hd := has_digs hh i0 i1
  rw [own_raw h hd, cnt_raw h]
  exact raw_lt hd 5 (by decide)

theorem at_back {r : Room} (h : r.In) (op n : Int) (n0 : 0 ≤ n) (n1 : n < cntRoom r) :
    r.has (insnAt op r n) = true ∧ (0 ≤ (insnAt op r n).i ∧ (insnAt op r n).i < 4294967296) ∧ ownOf r (insnAt op r n) = n := by
  rw [cnt_raw h] at n1
  have m (j : Nat) (hj : j < 6) := many_pos h j hj
  have dl (a b c : Int) (hc : 1 ≤ c) (hl : a < b * c) : a / c < b := Int.ediv_lt_of_lt_mul (by omega) hl
  have dn (a c : Int) (hc : 1 ≤ c) (ha : 0 ≤ a) : 0 ≤ a / c := Int.ediv_nonneg ha (by omega)
  have a5 : 0 ≤ n / manyOf r 5 ∧ n / manyOf r 5 < cum r 4 := ⟨dn _ _ (m 5 (by decide)) n0, dl _ _ _ (m 5 (by decide)) n1⟩
  have a4 : 0 ≤ n / manyOf r 5 / manyOf r 4 ∧ n / manyOf r 5 / manyOf r 4 < cum r 3 := ⟨dn _ _ (m 4 (by decide)) a5.1, dl _ _ _ (m 4 (by decide)) a5.2⟩
  have a3 : 0 ≤ n / manyOf r 5 / manyOf r 4 / manyOf r 3 ∧ n / manyOf r 5 / manyOf r 4 / manyOf r 3 < cum r 2 := ⟨dn _ _ (m 3 (by decide)) a4.1, dl _ _ _ (m 3 (by decide)) a4.2⟩
  have a2 : 0 ≤ n / manyOf r 5 / manyOf r 4 / manyOf r 3 / manyOf r 2 ∧ n / manyOf r 5 / manyOf r 4 / manyOf r 3 / manyOf r 2 < cum r 1 := ⟨dn _ _ (m 2 (by decide)) a3.1, dl _ _ _ (m 2 (by decide)) a3.2⟩
  have a1 : 0 ≤ n / manyOf r 5 / manyOf r 4 / manyOf r 3 / manyOf r 2 / manyOf r 1 ∧ n / manyOf r 5 / manyOf r 4 / manyOf r 3 / manyOf r 2 / manyOf r 1 < manyOf r 0 := ⟨dn _ _ (m 1 (by decide)) a2.1, dl _ _ _ (m 1 (by decide)) a2.2⟩
  have i5 := mod_in n (manyOf r 5) 4294967296 (m 5 (by decide)) (many_le h 5 (by decide))
  have mm (y : Int) (j : Nat) (hj : j < 6) : 0 ≤ y % manyOf r j ∧ y % manyOf r j < manyOf r j := mod_in y (manyOf r j) (manyOf r j) (m j hj) (Int.le_refl _)
  have hk4 : (if r.k then (256 : Int) else 1) = manyOf r 4 := rfl
  have hi5 : (if r.i then (4294967296 : Int) else 1) = manyOf r 5 := rfl
  have ra : r.a + 1 = manyOf r 0 := rfl
  have rb : r.b + 1 = manyOf r 1 := rfl
  have rc : r.c + 1 = manyOf r 2 := rfl
  have rd : r.d + 1 = manyOf r 3 := rfl
  have h4 := mm (n / manyOf r 5) 4 (by decide)
  have h5 := mm n 5 (by decide)
  have hh : r.has (insnAt op r n) = true := by
    have h0 := mm (n / manyOf r 5 / manyOf r 4 / manyOf r 3 / manyOf r 2 / manyOf r 1) 0 (by decide)
    have h1 := mm (n / manyOf r 5 / manyOf r 4 / manyOf r 3 / manyOf r 2) 1 (by decide)
    have h2 := mm (n / manyOf r 5 / manyOf r 4 / manyOf r 3) 2 (by decide)
    have h3 := mm (n / manyOf r 5 / manyOf r 4) 3 (by decide)
    unfold Room.has within insnAt
    simp only [Bool.and_eq_true, Bool.or_eq_true, decide_eq_true_eq, beq_iff_eq]
    refine ⟨⟨⟨⟨⟨by omega, by omega⟩, by omega⟩, by omega⟩, ?_⟩, ?_⟩
    · rcases hk : r.k with _ | _
      · left; simp
      · right
        rw [hk] at hk4
        simp at hk4 ⊢
        omega
    · rcases hi : r.i with _ | _
      · left
        rw [hi] at hi5
        simp at hi5
        omega
      · right; rfl
  refine ⟨hh, i5, ?_⟩
  have hd := has_digs hh i5.1 i5.2
  rw [own_raw h hd]
  have e0 : raw r (insnAt op r n) 0 = n / manyOf r 5 / manyOf r 4 / manyOf r 3 / manyOf r 2 / manyOf r 1 := Int.emod_eq_of_lt a1.1 a1.2
  have e1 : raw r (insnAt op r n) 1 = n / manyOf r 5 / manyOf r 4 / manyOf r 3 / manyOf r 2 := by
    show raw r (insnAt op r n) 0 * manyOf r 1 + (n / manyOf r 5 / manyOf r 4 / manyOf r 3 / manyOf r 2) % manyOf r 1 = _
    rw [e0]; exact div_back _ _
  have e2 : raw r (insnAt op r n) 2 = n / manyOf r 5 / manyOf r 4 / manyOf r 3 := by
    show raw r (insnAt op r n) 1 * manyOf r 2 + (n / manyOf r 5 / manyOf r 4 / manyOf r 3) % manyOf r 2 = _
    rw [e1]; exact div_back _ _
  have e3 : raw r (insnAt op r n) 3 = n / manyOf r 5 / manyOf r 4 := by
    show raw r (insnAt op r n) 2 * manyOf r 3 + (n / manyOf r 5 / manyOf r 4) % manyOf r 3 = _
    rw [e2]; exact div_back _ _
  have e4 : raw r (insnAt op r n) 4 = n / manyOf r 5 := by
    have ek : atOf r (insnAt op r n) 4 = (n / manyOf r 5) % manyOf r 4 := by
      show (if r.k then (if r.k then (n / manyOf r 5) % manyOf r 4 - 128 else 0) + 128 else 0) = _
      rcases hk : r.k with _ | _
      · rw [hk] at hk4
        simp at hk4 ⊢
        omega
      · simp
    show raw r (insnAt op r n) 3 * manyOf r 4 + atOf r (insnAt op r n) 4 = _
    rw [e3, ek]; exact div_back _ _
  have ei : atOf r (insnAt op r n) 5 = n % manyOf r 5 := by
    show (if r.i then n % manyOf r 5 else 0) = _
    rcases hi : r.i with _ | _
    · rw [hi] at hi5
      simp at hi5 ⊢
      omega
    · simp
  show raw r (insnAt op r n) 4 * manyOf r 5 + atOf r (insnAt op r n) 5 = _
  rw [e4, ei]; exact div_back _ _

end Go.Proofs.YtdkclapinedgiaaGreatDoor

namespace Go.Proofs.YtdkclapinedgiaaGreatDoor
open Go.RowKit

set_option maxRecDepth 100000 in
theorem below_succ : ∀ k, k < 73 → belowOf (k + 1) = belowOf k + cntOf k := by decide +kernel
set_option maxRecDepth 100000 in
theorem below_all : belowOf 73 = 73882029336998 := by decide +kernel
theorem below_0 : belowOf 0 = 0 := rfl
theorem below_mono (j : Nat) : ∀ k, j ≤ k → k ≤ 73 → belowOf j ≤ belowOf k
  | 0, h, _ => by rw [show j = 0 by omega]; exact Int.le_refl _
  | k + 1, h, hk => by
    by_cases e : j = k + 1
    · rw [e]; exact Int.le_refl _
    · have h1 := below_mono j k (by omega) (by omega)
      have h2 := below_succ k (by omega)
      have h3 := cnt_nonneg k
      omega
theorem cnt_is {op m : Int} (h0 : 0 ≤ m) (h1 : m < cntOf op) : (opnd op).2 = true ∧ cntOf op = cntRoom (roomOf op) := by
  unfold cntOf at h1 ⊢
  split at h1
  · rename_i h; exact ⟨h, if_pos h⟩
  · omega

theorem unr_succ (f k : Nat) (n : Int) : unr (f + 1) k n = if k ≤ 72 ∧ cntOf k ≤ n then unr f (k + 1) (n - cntOf k) else (k, n) := rfl
theorem unr_hit : ∀ (f k op : Nat) (m : Int), f + k = 73 → k ≤ op → op ≤ 72 → 0 ≤ m → m < cntOf op → unr f k (belowOf op - belowOf k + m) = (op, m)
  | 0, k, op, m, hf, hk, ho, _, _ => by omega
  | f + 1, k, op, m, hf, hk, ho, m0, m1 => by
    have hs := below_succ k (by omega)
    rw [unr_succ]
    by_cases e : k = op
    · subst e
      rw [if_neg (by omega), show belowOf k - belowOf k + m = m by omega]
    · have h1 := below_mono (k + 1) op (by omega) (by omega)
      rw [if_pos ⟨by omega, by omega⟩, show belowOf op - belowOf k + m - cntOf k = belowOf op - belowOf (k + 1) + m by omega]
      exact unr_hit f (k + 1) op m (by omega) (by omega) ho m0 m1
theorem below_end {k : Nat} (h : 0 + k = 73) : belowOf k = 73882029336998 := by rw [show k = 73 by omega]; exact below_all
theorem unr_found : ∀ (f k : Nat) (n : Int), f + k = 73 → 0 ≤ n → n < 73882029336998 - belowOf k →
    (unr f k n).1 ≤ 72 ∧ 0 ≤ (unr f k n).2 ∧ (unr f k n).2 < cntOf (unr f k n).1 ∧ belowOf (unr f k n).1 + (unr f k n).2 = belowOf k + n
  | 0, k, n, hf, h0, h1 => by have h2 := below_end hf; omega
  | f + 1, k, n, hf, h0, h1 => by
    have hs := below_succ k (by omega)
    rw [unr_succ]
    by_cases h : k ≤ 72 ∧ cntOf k ≤ n
    · rw [if_pos h]
      have h2 := unr_found f (k + 1) (n - cntOf k) (by omega) (by omega) (by omega)
      exact ⟨h2.1, h2.2.1, h2.2.2.1, by omega⟩
    · rw [if_neg h]
      exact ⟨by show k ≤ 72; omega, h0, by show n < cntOf k; omega, rfl⟩
theorem unr_none : ∀ (f k : Nat) (n : Int), f + k = 73 → 73882029336998 - belowOf k ≤ n → 72 < (unr f k n).1
  | 0, k, n, hf, h1 => by show 72 < k; omega
  | f + 1, k, n, hf, h1 => by
    have hs := below_succ k (by omega)
    have hm := below_mono (k + 1) 73 (by omega) (Nat.le_refl _)
    rw [below_all] at hm
    rw [unr_succ, if_pos ⟨by omega, by omega⟩]
    exact unr_none f (k + 1) (n - cntOf k) (by omega) (by omega)

/-- What is known of a valid instruction's number. -/
structure RankIs (x : Insn) (op : Nat) : Prop where
  is : (op : Int) = x.op
  le : 1 ≤ op ∧ op ≤ 72
  own : 0 ≤ ownOf (roomOf x.op) x ∧ ownOf (roomOf x.op) x < cntOf op
  rank : rankOf x = belowOf op + ownOf (roomOf x.op) x
theorem rank_is {x : Insn} (hv : x.valid = true) (i0 : 0 ≤ x.i) (i1 : x.i < 4294967296) : RankIs x x.op.toNat := by
  have ok := Insn.ok hv
  have hop := ok.op
  have e : ((x.op.toNat : Nat) : Int) = x.op := by omega
  have hh : (roomOf x.op).has x = true := by unfold Insn.valid at hv; simp at hv; exact hv.2
  have ho := own_lt (room_in x.op) hh i0 i1
  have ec : cntOf (x.op.toNat : Nat) = cntRoom (roomOf x.op) := by rw [e]; unfold cntOf; rw [if_pos ok.is]
  have h1 := below_succ x.op.toNat (by omega)
  have h2 := below_mono (x.op.toNat + 1) 73 (by omega) (by omega)
  have h3 := below_mono 0 x.op.toNat (by omega) (by omega)
  have h4 := below_all
  have h5 := below_0
  refine ⟨e, by omega, ⟨ho.1, by omega⟩, ?_⟩
  unfold rankOf
  exact wrapu64 _ (by omega) (by omega)

theorem unrank_rank {x : Insn} (hv : x.valid = true) (i0 : 0 ≤ x.i) (i1 : x.i < 4294967296) : unrankOf (rankOf x) = (x, 0) ∧ 0 ≤ rankOf x ∧ rankOf x < 73882029336998 := by
  have hr := rank_is hv i0 i1
  obtain ⟨e, hop, ho, er⟩ := hr
  have hh : (roomOf x.op).has x = true := by unfold Insn.valid at hv; simp at hv; exact hv.2
  have h1 := below_succ x.op.toNat (by omega)
  have h2 := below_mono (x.op.toNat + 1) 73 (by omega) (by omega)
  have h3 := below_mono 0 x.op.toNat (by omega) (by omega)
  have h4 := below_all
  have h5 := below_0
  refine ⟨?_, by omega, by omega⟩
  have hu := unr_hit 73 0 x.op.toNat _ rfl (by omega) (by omega) ho.1 ho.2
  rw [show belowOf x.op.toNat - belowOf 0 + ownOf (roomOf x.op) x = rankOf x by omega] at hu
  unfold unrankOf
  rw [hu]
  show (if 72 < x.op.toNat then (insn0, 1) else (insnAt (x.op.toNat : Nat) (roomOf (x.op.toNat : Nat)) (ownOf (roomOf x.op) x), 0)) = (x, 0)
  rw [if_neg (by omega), e, at_own (room_in x.op) hh i0 i1]

theorem rank_unrank {n : Int} (n0 : 0 ≤ n) (n1 : n < 73882029336998) :
    (unrankOf n).2 = 0 ∧ (unrankOf n).1.valid = true ∧ (0 ≤ (unrankOf n).1.i ∧ (unrankOf n).1.i < 4294967296) ∧ rankOf (unrankOf n).1 = n := by
  have h4 := below_all
  have h5 := below_0
  have hf := unr_found 73 0 n rfl n0 (by omega)
  generalize hp : unr 73 0 n = p at hf
  obtain ⟨k, m⟩ := p
  obtain ⟨h1, h2, h3, h6⟩ := hf
  dsimp only at h1 h2 h3 h6
  have hc := cnt_is h2 h3
  have hb := at_back (room_in k) k m h2 (by rw [← hc.2]; exact h3)
  have eu : unrankOf n = (insnAt k (roomOf k) m, 0) := by
    unfold unrankOf; rw [hp]; exact if_neg (by dsimp only; omega)
  rw [eu]
  have hv : (insnAt k (roomOf k) m).valid = true := by
    unfold Insn.valid
    show ((opnd k).2 && (roomOf k).has (insnAt k (roomOf k) m)) = true
    rw [hc.1, hb.1]; rfl
  refine ⟨rfl, hv, hb.2.1, ?_⟩
  have hr := (rank_is hv hb.2.1.1 hb.2.1.2).rank
  rw [show (insnAt k (roomOf k) m).op.toNat = k from Int.toNat_natCast k] at hr
  show rankOf (insnAt k (roomOf k) m) = n
  rw [hr]
  show belowOf k + ownOf (roomOf k) (insnAt k (roomOf k) m) = n
  rw [hb.2.2]; omega
theorem unrank_none {n : Int} (n1 : 73882029336998 ≤ n) : unrankOf n = (insn0, 1) := by
  have h4 := below_all
  have h5 := below_0
  unfold unrankOf
  exact if_pos (unr_none 73 0 n rfl (by omega))

theorem cmpI_eq {x y : Int} : cmpI x y = 0 ↔ x = y := by unfold cmpI; split <;> (try split) <;> omega
theorem cmpI_lt {x y : Int} : cmpI x y < 0 ↔ x < y := by unfold cmpI; split <;> (try split) <;> omega
theorem cmpL_lt (x y : Int) (l r : List Int) : cmpL (x :: l) (y :: r) < 0 ↔ x < y ∨ x = y ∧ cmpL l r < 0 := by
  show (if cmpI x y = 0 then cmpL l r else cmpI x y) < 0 ↔ _
  by_cases h : x = y
  · rw [if_pos (cmpI_eq.2 h)]; omega
  · rw [if_neg (fun e => h (cmpI_eq.1 e)), cmpI_lt]; omega
theorem cmpL_0 : ¬ cmpL [] [] < 0 := by decide

theorem raw_cmp {r : Room} {x y : Insn} (hx : DigsIn r x) (hy : DigsIn r y) (j : Nat) (hj : j < 5) :
    (raw r x (j + 1) < raw r y (j + 1) ↔ raw r x j < raw r y j ∨ raw r x j = raw r y j ∧ atOf r x (j + 1) < atOf r y (j + 1)) ∧
    (raw r x (j + 1) = raw r y (j + 1) ↔ raw r x j = raw r y j ∧ atOf r x (j + 1) = atOf r y (j + 1)) :=
  ⟨mix_cmp (hx (j + 1) (by omega)).1 (hx (j + 1) (by omega)).2 (hy (j + 1) (by omega)).1 (hy (j + 1) (by omega)).2,
    mix_eq (hx (j + 1) (by omega)).1 (hx (j + 1) (by omega)).2 (hy (j + 1) (by omega)).1 (hy (j + 1) (by omega)).2⟩
/-- The digits of a held instruction are its fields, but for a shift that is alike. -/
theorem at_fields {r : Room} {x y : Insn} (hx : r.has x = true) (hy : r.has y = true) :
    (atOf r x 4 < atOf r y 4 ↔ x.k < y.k) ∧ (atOf r x 4 = atOf r y 4 ↔ x.k = y.k) ∧ (atOf r x 5 < atOf r y 5 ↔ x.i < y.i) ∧ (atOf r x 5 = atOf r y 5 ↔ x.i = y.i) := by
  unfold Room.has within at hx hy
  simp only [Bool.and_eq_true, Bool.or_eq_true, decide_eq_true_eq, beq_iff_eq] at hx hy
  obtain ⟨⟨_, hk⟩, hi⟩ := hx
  obtain ⟨⟨_, gk⟩, gi⟩ := hy
  have e4 (z : Insn) : atOf r z 4 = if r.k then z.k + 128 else 0 := rfl
  have e5 (z : Insn) : atOf r z 5 = if r.i then z.i else 0 := rfl
  rw [e4, e4, e5, e5]
  have A : ((if r.k then x.k + 128 else 0) < (if r.k then y.k + 128 else 0) ↔ x.k < y.k) ∧ ((if r.k then x.k + 128 else 0) = (if r.k then y.k + 128 else 0) ↔ x.k = y.k) := by
    rcases h : r.k with _ | _ <;> simp [h] at hk gk ⊢ <;> omega
  have B : ((if r.i then x.i else 0) < (if r.i then y.i else 0) ↔ x.i < y.i) ∧ ((if r.i then x.i else 0) = (if r.i then y.i else 0) ↔ x.i = y.i) := by
    rcases h : r.i with _ | _ <;> simp [h] at hi gi ⊢ <;> omega
  exact ⟨A.1, A.2, B.1, B.2⟩
theorem own_less {r : Room} {x y : Insn} (h : r.In) (hx : r.has x = true) (hy : r.has y = true) (i0 : 0 ≤ x.i) (i1 : x.i < 4294967296) (j0 : 0 ≤ y.i) (j1 : y.i < 4294967296) :
    ownOf r x < ownOf r y ↔ cmpL [x.a, x.b, x.c, x.d, x.k, x.i] [y.a, y.b, y.c, y.d, y.k, y.i] < 0 := by
  have dx := has_digs hx i0 i1
  have dy := has_digs hy j0 j1
  obtain ⟨f1, f2, f3, f4⟩ := at_fields hx hy
  rw [own_raw h dx, own_raw h dy]
  have r5 := raw_cmp dx dy 4 (by decide)
  have r4 := raw_cmp dx dy 3 (by decide)
  have r3 := raw_cmp dx dy 2 (by decide)
  have r2 := raw_cmp dx dy 1 (by decide)
  have r1 := raw_cmp dx dy 0 (by decide)
  simp only [Nat.zero_add, Nat.reduceAdd] at r1 r2 r3 r4 r5
  have c0 : (raw r x 0 < raw r y 0 ↔ x.a < y.a) ∧ (raw r x 0 = raw r y 0 ↔ x.a = y.a) := ⟨Iff.rfl, Iff.rfl⟩
  have c1 : (atOf r x 1 < atOf r y 1 ↔ x.b < y.b) ∧ (atOf r x 1 = atOf r y 1 ↔ x.b = y.b) := ⟨Iff.rfl, Iff.rfl⟩
  have c2 : (atOf r x 2 < atOf r y 2 ↔ x.c < y.c) ∧ (atOf r x 2 = atOf r y 2 ↔ x.c = y.c) := ⟨Iff.rfl, Iff.rfl⟩
  have c3 : (atOf r x 3 < atOf r y 3 ↔ x.d < y.d) ∧ (atOf r x 3 = atOf r y 3 ↔ x.d = y.d) := ⟨Iff.rfl, Iff.rfl⟩
  simp only [cmpL_lt, cmpL_0, and_false, or_false]
  rw [r5.1, r4.1, r4.2, r3.1, r3.2, r2.1, r2.2, r1.1, r1.2, c0.1, c0.2, c1.1, c1.2, c2.1, c2.2, c3.1, c3.2, f1, f2, f3]
  clear r1 r2 r3 r4 r5 c0 c1 c2 c3 f1 f2 f3 f4 dx dy hx hy h
  omega

theorem rank_less {x y : Insn} (hx : x.valid = true) (hy : y.valid = true) (i0 : 0 ≤ x.i) (i1 : x.i < 4294967296) (j0 : 0 ≤ y.i) (j1 : y.i < 4294967296) :
    rankOf x < rankOf y ↔ cmpL x.nums y.nums < 0 := by
  obtain ⟨ex, px, ox, rx⟩ := rank_is hx i0 i1
  obtain ⟨ey, py, oy, ry⟩ := rank_is hy j0 j1
  have sx := below_succ x.op.toNat (by omega)
  have sy := below_succ y.op.toNat (by omega)
  show _ ↔ cmpL (x.op :: [x.a, x.b, x.c, x.d, x.k, x.i]) (y.op :: [y.a, y.b, y.c, y.d, y.k, y.i]) < 0
  rw [cmpL_lt]
  rcases Int.lt_trichotomy x.op y.op with h | h | h
  · have hm := below_mono (x.op.toNat + 1) y.op.toNat (by omega) (by omega)
    constructor
    · intro _; exact Or.inl h
    · intro _; omega
  · have hhx : (roomOf x.op).has x = true := by unfold Insn.valid at hx; simp at hx; exact hx.2
    have hhy : (roomOf x.op).has y = true := by unfold Insn.valid at hy; simp at hy; rw [h]; exact hy.2
    have hl := own_less (room_in x.op) hhx hhy i0 i1 j0 j1
    rw [← hl, rx, ry, h]
    have : ¬ y.op < y.op := by omega
    constructor
    · intro hh; exact Or.inr ⟨rfl, by omega⟩
    · rintro (hh | ⟨_, hh⟩) <;> omega
  · have hm := below_mono (y.op.toNat + 1) x.op.toNat (by omega) (by omega)
    constructor
    · intro _; omega
    · rintro (hh | ⟨hh, _⟩) <;> omega
theorem rank_same {x y : Insn} (hx : x.valid = true) (hy : y.valid = true) (i0 : 0 ≤ x.i) (i1 : x.i < 4294967296) (j0 : 0 ≤ y.i) (j1 : y.i < 4294967296) :
    rankOf x = rankOf y ↔ x = y := by
  constructor
  · intro h
    have h1 := (unrank_rank hx i0 i1).1
    rw [h, (unrank_rank hy j0 j1).1] at h1
    exact (congrArg Prod.fst h1).symm
  · rintro rfl; rfl

end Go.Proofs.YtdkclapinedgiaaGreatDoor

namespace Go.Proofs.YtdkclapinedgiaaGreatDoor
open Go.RowKit

set_option maxRecDepth 100000 in
theorem eq24 (x y : Insn) (w : World) : (Go.binOp .eql 24 (.agg #[.int .i64 x.op, .int .i64 x.a, .int .i64 x.b, .int .i64 x.c, .int .i64 x.d, .int .i64 x.k, .int .u32 x.i]) (.agg #[.int .i64 y.op, .int .i64 y.a, .int .i64 y.b, .int .i64 y.c, .int .i64 y.d, .int .i64 y.k, .int .u32 y.i])).run Tryz.prog w = .ok (.bool (decide (x = y))) w := by
  by_cases h : x = y
  · subst h; simp [go_sem]
  · rw [decide_eq_false h]
    have h7 : ¬ (x.op = y.op ∧ x.a = y.a ∧ x.b = y.b ∧ x.c = y.c ∧ x.d = y.d ∧ x.k = y.k ∧ x.i = y.i) := by
      rintro ⟨e1, e2, e3, e4, e5, e6, e7⟩
      cases x; cases y
      simp only at e1 e2 e3 e4 e5 e6 e7
      subst e1 e2 e3 e4 e5 e6 e7
      exact h rfl
    simp [go_sem]
    exact fun e1 e2 e3 e4 e5 e6 e7 => h7 ⟨e1, e2, e3, e4, e5, e6, e7⟩
set_option maxRecDepth 100000 in
theorem neq24 (x y : Insn) (w : World) : (Go.binOp .neq 24 (.agg #[.int .i64 x.op, .int .i64 x.a, .int .i64 x.b, .int .i64 x.c, .int .i64 x.d, .int .i64 x.k, .int .u32 x.i]) (.agg #[.int .i64 y.op, .int .i64 y.a, .int .i64 y.b, .int .i64 y.c, .int .i64 y.d, .int .i64 y.k, .int .u32 y.i])).run Tryz.prog w = .ok (.bool (!decide (x = y))) w := by
  by_cases h : x = y
  · subst h; simp [go_sem]
  · rw [decide_eq_false h]
    have h7 : ¬ (x.op = y.op ∧ x.a = y.a ∧ x.b = y.b ∧ x.c = y.c ∧ x.d = y.d ∧ x.k = y.k ∧ x.i = y.i) := by
      rintro ⟨e1, e2, e3, e4, e5, e6, e7⟩
      cases x; cases y
      simp only at e1 e2 e3 e4 e5 e6 e7
      subst e1 e2 e3 e4 e5 e6 e7
      exact h rfl
    simp [go_sem]
    exact fun e1 e2 e3 e4 e5 e6 e7 => h7 ⟨e1, e2, e3, e4, e5, e6, e7⟩
attribute [local go_sem] neq24

/-- What the walk knows of the world: the two arguments lie in their boxes. -/
structure Duo (w : World) (x y : Insn) (W : World) : Prop where
  below : Below w.heap.size w W
  bx : Blk W w.heap.size 24 x.cs
  bY : Blk W (w.heap.size + 1) 24 y.cs
theorem Duo.step {w W W' : World} {x y : Insn} (h : Duo w x y W) (hb : Below W.heap.size W W') : Duo w x y W' := ⟨h.below.call hb h.below.size, h.bx.call hb, h.bY.call hb⟩

theorem rank_c (x : Insn) (k0 : -9223372036854775808 ≤ x.k) (k1 : x.k ≤ 9223372036854775807) (i0 : 0 ≤ x.i) (i1 : x.i < 4294967296) :
    ∃ a er : Int, (∀ W, Calls Tryz.prog 22 #[.agg x.cs] W fun e w' => e = .returned (.tuple #[.int .u64 a, .int .i64 er]) ∧ Below W.heap.size W w') ∧
      (x.valid = true ∧ er = 0 ∧ a = rankOf x ∨ x.valid = false ∧ er = 6) := by
  cases hv : x.valid
  · refine ⟨0, 6, fun W => ?_, .inr ⟨rfl, rfl⟩⟩
    have h := rank_any x W k0 k1 i0 i1
    unfold RankPost at h
    rw [hv] at h
    exact h
  · refine ⟨rankOf x, 0, fun W => ?_, .inl ⟨rfl, rfl, rfl⟩⟩
    have h := rank_any x W k0 k1 i0 i1
    unfold RankPost at h
    rw [hv] at h
    exact h
theorem unrank_c (n : Int) (n0 : 0 ≤ n) (n1 : n < 18446744073709551616) :
    ∃ (z : Insn) (er : Int), (∀ W, Calls Tryz.prog 24 #[.int .u64 n] W fun e w' => e = .returned (.tuple #[.agg z.cs, .int .i64 er]) ∧ Below W.heap.size W w') ∧
      (n < 73882029336998 ∧ er = 0 ∧ z.valid = true ∧ (0 ≤ z.i ∧ z.i < 4294967296) ∧ rankOf z = n ∨ 73882029336998 ≤ n ∧ er = 1) := by
  by_cases h : n < 73882029336998
  · obtain ⟨h1, h2, h3, h4⟩ := rank_unrank n0 h
    refine ⟨(unrankOf n).1, 0, fun W => ?_, .inl ⟨h, rfl, h2, h3, h4⟩⟩
    have hu := unrank_any n W n0 n1
    unfold UnrankPost at hu
    rw [h1] at hu
    exact hu
  · have h1 := unrank_none (show 73882029336998 ≤ n by omega)
    refine ⟨insn0, 1, fun W => ?_, .inr ⟨by omega, rfl⟩⟩
    have hu := unrank_any n W n0 n1
    unfold UnrankPost at hu
    rw [h1] at hu
    exact hu
theorem all_c (W : World) : Calls Tryz.prog 26 #[] W fun e w' => e = .returned (.int .u64 73882029336998) ∧ Below W.heap.size W w' :=
  (Count_any W).mono fun _ _ ⟨h1, h2⟩ => ⟨by rw [h1, below_all], h2⟩

/-- A function of no effect that answers so. -/
def Says (f : Nat) (args : Array Value) (v : Value) : Prop := ∀ W, Calls Tryz.prog f args W fun e w' => e = .returned v ∧ Below W.heap.size W w'

set_option maxRecDepth 100000 in
set_option maxHeartbeats 40000000 in
theorem order_walk (x y z : Insn) (n a ea b eb ez : Int) (w : World)
    (hsane : ∀ W, Below w.heap.size w W → Calls Tryz.prog 15 #[] W fun e w' => e = .returned (.bool true) ∧ Below W.heap.size W w')
    (hX : Says 22 #[.agg x.cs] (.tuple #[.int .u64 a, .int .i64 ea])) (hY : Says 22 #[.agg y.cs] (.tuple #[.int .u64 b, .int .i64 eb]))
    (hN : Says 24 #[.int .u64 n] (.tuple #[.agg z.cs, .int .i64 ez])) (hC : Says 26 #[] (.int .u64 73882029336998))
    (hea : ea = 0 ∧ Says 24 #[.int .u64 a] (.tuple #[.agg x.cs, .int .i64 0]) ∧ a < 73882029336998 ∧
      (eb = 0 → Says 53 #[.agg x.cs, .agg y.cs] (.bool (decide (a < b))) ∧ decide (x = y) = (a == b)) ∨ ea = 6)
    (heb : eb = 0 ∨ eb = 6)
    (hez : n < 73882029336998 ∧ ez = 0 ∧ Says 22 #[.agg z.cs] (.tuple #[.int .u64 n, .int .i64 0]) ∧ Says 31 #[.agg z.cs] (.int .i64 0) ∨ 73882029336998 ≤ n ∧ ez = 1) :
    Calls Tryz.prog 14 #[.agg x.cs, .agg y.cs, .int .u64 n] w fun e w' => e = .returned (.bool true) ∧ Below w.heap.size w w' := by
  have HS := Lib.hid hsane
  have HX := Lib.hid hX
  have HY := Lib.hid hY
  have HN := Lib.hid hN
  have HC := Lib.hid hC
  have HEA := Lib.hid hea
  have HEB := Lib.hid heb
  have HEZ := Lib.hid hez
  clear hsane hX hY hN hC hea heb hez
  unfold Says at HX HY HN HC HEA HEZ
  unfold Insn.cs at HX HY HN HEA HEZ ⊢
  go_enter Tryz.func14, Tryz.ntmps14
  go_wp2_with fail
  refine (HS.out _ (((Below.refl _ w).alloc (Nat.le_refl _) _).alloc (by simp) _)).mono ?_
  rintro e w1 ⟨rfl, hb⟩
  have H : Duo w x y w1 := Duo.step ⟨((Below.refl _ w).alloc (Nat.le_refl _) _).alloc (by simp) _, (Blk.new w 24 x.cs).alloc _, blk_at _ (w.heap.size + 1) 24 y.cs (by simp)⟩ hb
  clear hb HS
  obtain ⟨a0, a1, a2, a3, a4, a5, a6, a7, a8, a9, a10, a11, a12, a13⟩ := H.bx.facts7
  obtain ⟨b0, b1, b2, b3, b4, b5, b6, b7, b8, b9, b10, b11, b12, b13⟩ := H.bY.facts7
  replace H := Lib.hid H
  clear a7 a8 a9 a10 a11 a12 a13 b7 b8 b9 b10 b11 b12 b13
  go_wp2_with fail
  refine (HX.out _).mono ?_
  rintro e w2 ⟨rfl, hb⟩
  replace H := Lib.hid (H.out.step hb)
  clear a0 a1 a2 a3 a4 a5 a6 b0 b1 b2 b3 b4 b5 b6 hb HX
  obtain ⟨a0, a1, a2, a3, a4, a5, a6, a7, a8, a9, a10, a11, a12, a13⟩ := H.out.bx.facts7
  obtain ⟨b0, b1, b2, b3, b4, b5, b6, b7, b8, b9, b10, b11, b12, b13⟩ := H.out.bY.facts7
  clear a7 a8 a9 a10 a11 a12 a13 b7 b8 b9 b10 b11 b12 b13
  go_wp2_with fail
  refine (HY.out _).mono ?_
  rintro e w3 ⟨rfl, hb⟩
  replace H := Lib.hid (H.out.step hb)
  clear a0 a1 a2 a3 a4 a5 a6 b0 b1 b2 b3 b4 b5 b6 hb HY
  rcases HEA.out with ⟨rfl, hU, hlt, hrest⟩ | rfl
  · have HU := Lib.hid hU
    have HLT := Lib.hid hlt
    have HR := Lib.hid hrest
    clear hU hlt hrest HEA
    go_wp2_with fail
    refine (HU.out _).mono ?_
    rintro e w4 ⟨rfl, hb⟩
    replace H := Lib.hid (H.out.step hb)
    clear hb HU
    have BX : Blk (w4.alloc (.cells x.cs 24)) w4.heap.size 24 x.cs := Blk.new w4 24 _
    replace H := Lib.hid (H.out.step ((Below.refl _ w4).alloc (Nat.le_refl _) (.cells x.cs 24)))
    unfold Insn.cs at H BX
    have hlt := HLT.out
    obtain ⟨a0, a1, a2, a3, a4, a5, a6, a7, a8, a9, a10, a11, a12, a13⟩ := H.out.bx.facts7
    obtain ⟨c0, c1, c2, c3, c4, c5, c6, c7, c8, c9, c10, c11, c12, c13⟩ := BX.facts7
    clear a7 a8 a9 a10 a11 a12 a13 c7 c8 c9 c10 c11 c12 c13 BX HLT
    go_wp2_with fail
    refine (HC.out _).mono ?_
    rintro e w5 ⟨rfl, hb⟩
    replace H := Lib.hid (H.out.step hb)
    clear a0 a1 a2 a3 a4 a5 a6 c0 c1 c2 c3 c4 c5 c6 hb
    rcases HEB.out with rfl | rfl
    · obtain ⟨hB, hxy⟩ := HR.out rfl
      have HBB := Lib.hid hB
      obtain ⟨a0, a1, a2, a3, a4, a5, a6, a7, a8, a9, a10, a11, a12, a13⟩ := H.out.bx.facts7
      obtain ⟨b0, b1, b2, b3, b4, b5, b6, b7, b8, b9, b10, b11, b12, b13⟩ := H.out.bY.facts7
      clear a7 a8 a9 a10 a11 a12 a13 b7 b8 b9 b10 b11 b12 b13 hB HR HEB
      go_wp2_with fail
      refine (HBB.out _).mono ?_
      rintro e w6 ⟨rfl, hb⟩
      replace H := Lib.hid (H.out.step hb)
      clear a0 a1 a2 a3 a4 a5 a6 b0 b1 b2 b3 b4 b5 b6 hb HBB
      obtain ⟨a0, a1, a2, a3, a4, a5, a6, a7, a8, a9, a10, a11, a12, a13⟩ := H.out.bx.facts7
      obtain ⟨b0, b1, b2, b3, b4, b5, b6, b7, b8, b9, b10, b11, b12, b13⟩ := H.out.bY.facts7
      clear a7 a8 a9 a10 a11 a12 a13 b7 b8 b9 b10 b11 b12 b13
      have HB := Lib.hid H.out.below
      clear H
      obtain ⟨q, hq⟩ : ∃ q, (a == b) = q := ⟨_, rfl⟩
      have hE : ∀ W, (Go.binOp .eql 24 (.agg #[.int .i64 x.op, .int .i64 x.a, .int .i64 x.b, .int .i64 x.c, .int .i64 x.d, .int .i64 x.k, .int .u32 x.i]) (.agg #[.int .i64 y.op, .int .i64 y.a, .int .i64 y.b, .int .i64 y.c, .int .i64 y.d, .int .i64 y.k, .int .u32 y.i])).run Tryz.prog W = .ok (.bool q) W := fun W => by rw [eq24, hxy, hq]
      clear hxy
      go_wp2_with fail
      clear a0 a1 a2 a3 a4 a5 a6 b0 b1 b2 b3 b4 b5 b6 hlt hq hE
      refine (HN.out _).mono ?_
      rintro e w7 ⟨rfl, hb⟩
      replace HB := Lib.hid (HB.out.call hb HB.out.size)
      clear hb HN
      go_wp2_with fail
      refine (HC.out _).mono ?_
      rintro e w8 ⟨rfl, hb⟩
      have BZ : Blk w8 w7.heap.size 24 z.cs := (Blk.new w7 24 z.cs).call hb
      replace HB := Lib.hid ((HB.out.alloc HB.out.size (.cells z.cs 24)).call hb (by have := HB.out.size; simp; omega))
      unfold Insn.cs at HB
      clear hb HC
      rcases HEZ.out with ⟨hlt, rfl, hr, hk⟩ | ⟨hge, rfl⟩
      · have HR2 := Lib.hid hr
        have HK2 := Lib.hid hk
        clear hr hk HEZ
        obtain ⟨a0, a1, a2, a3, a4, a5, a6, a7, a8, a9, a10, a11, a12, a13⟩ := BZ.facts7
        replace BZ := Lib.hid BZ
        clear a7 a8 a9 a10 a11 a12 a13
        go_wp2_with fail
        refine (HR2.out _).mono ?_
        rintro e w9 ⟨rfl, hb⟩
        clear a0 a1 a2 a3 a4 a5 a6
        obtain ⟨a0, a1, a2, a3, a4, a5, a6, a7, a8, a9, a10, a11, a12, a13⟩ := (BZ.out.call hb).facts7
        replace HB := Lib.hid (HB.out.call hb HB.out.size)
        clear a7 a8 a9 a10 a11 a12 a13 hb BZ HR2
        go_wp2_with fail
        refine (HK2.out _).mono ?_
        rintro e wa ⟨rfl, hb⟩
        clear a0 a1 a2 a3 a4 a5 a6
        go_wp2_with fail
        go_ret
        exact ⟨rfl, HB.out.call hb HB.out.size⟩
      · clear BZ HEZ
        go_wp2_with fail
        go_ret
        exact ⟨rfl, HB.out⟩
    · have HB := Lib.hid H.out.below
      clear H HR HEB
      go_wp2_with fail
      clear hlt
      refine (HN.out _).mono ?_
      rintro e w7 ⟨rfl, hb⟩
      replace HB := Lib.hid (HB.out.call hb HB.out.size)
      clear hb HN
      go_wp2_with fail
      refine (HC.out _).mono ?_
      rintro e w8 ⟨rfl, hb⟩
      have BZ : Blk w8 w7.heap.size 24 z.cs := (Blk.new w7 24 z.cs).call hb
      replace HB := Lib.hid ((HB.out.alloc HB.out.size (.cells z.cs 24)).call hb (by have := HB.out.size; simp; omega))
      unfold Insn.cs at HB
      clear hb HC
      rcases HEZ.out with ⟨hlt, rfl, hr, hk⟩ | ⟨hge, rfl⟩
      · have HR2 := Lib.hid hr
        have HK2 := Lib.hid hk
        clear hr hk HEZ
        obtain ⟨a0, a1, a2, a3, a4, a5, a6, a7, a8, a9, a10, a11, a12, a13⟩ := BZ.facts7
        replace BZ := Lib.hid BZ
        clear a7 a8 a9 a10 a11 a12 a13
        go_wp2_with fail
        refine (HR2.out _).mono ?_
        rintro e w9 ⟨rfl, hb⟩
        clear a0 a1 a2 a3 a4 a5 a6
        obtain ⟨a0, a1, a2, a3, a4, a5, a6, a7, a8, a9, a10, a11, a12, a13⟩ := (BZ.out.call hb).facts7
        replace HB := Lib.hid (HB.out.call hb HB.out.size)
        clear a7 a8 a9 a10 a11 a12 a13 hb BZ HR2
        go_wp2_with fail
        refine (HK2.out _).mono ?_
        rintro e wa ⟨rfl, hb⟩
        clear a0 a1 a2 a3 a4 a5 a6
        go_wp2_with fail
        go_ret
        exact ⟨rfl, HB.out.call hb HB.out.size⟩
      · clear BZ HEZ
        go_wp2_with fail
        go_ret
        exact ⟨rfl, HB.out⟩
  · have HB := Lib.hid H.out.below
    clear H HEA HEB
    go_wp2_with fail
    refine (HN.out _).mono ?_
    rintro e w7 ⟨rfl, hb⟩
    replace HB := Lib.hid (HB.out.call hb HB.out.size)
    clear hb HN
    go_wp2_with fail
    refine (HC.out _).mono ?_
    rintro e w8 ⟨rfl, hb⟩
    have BZ : Blk w8 w7.heap.size 24 z.cs := (Blk.new w7 24 z.cs).call hb
    replace HB := Lib.hid ((HB.out.alloc HB.out.size (.cells z.cs 24)).call hb (by have := HB.out.size; simp; omega))
    unfold Insn.cs at HB
    clear hb HC
    rcases HEZ.out with ⟨hlt, rfl, hr, hk⟩ | ⟨hge, rfl⟩
    · have HR2 := Lib.hid hr
      have HK2 := Lib.hid hk
      clear hr hk HEZ
      obtain ⟨a0, a1, a2, a3, a4, a5, a6, a7, a8, a9, a10, a11, a12, a13⟩ := BZ.facts7
      replace BZ := Lib.hid BZ
      clear a7 a8 a9 a10 a11 a12 a13
      go_wp2_with fail
      refine (HR2.out _).mono ?_
      rintro e w9 ⟨rfl, hb⟩
      clear a0 a1 a2 a3 a4 a5 a6
      obtain ⟨a0, a1, a2, a3, a4, a5, a6, a7, a8, a9, a10, a11, a12, a13⟩ := (BZ.out.call hb).facts7
      replace HB := Lib.hid (HB.out.call hb HB.out.size)
      clear a7 a8 a9 a10 a11 a12 a13 hb BZ HR2
      go_wp2_with fail
      refine (HK2.out _).mono ?_
      rintro e wa ⟨rfl, hb⟩
      clear a0 a1 a2 a3 a4 a5 a6
      go_wp2_with fail
      go_ret
      exact ⟨rfl, HB.out.call hb HB.out.size⟩
    · clear BZ HEZ
      go_wp2_with fail
      go_ret
      exact ⟨rfl, HB.out⟩

theorem order_of (x y : Insn) (n : Int) (xk0 : -9223372036854775808 ≤ x.k) (xk1 : x.k ≤ 9223372036854775807) (xi0 : 0 ≤ x.i) (xi1 : x.i < 4294967296)
    (yk0 : -9223372036854775808 ≤ y.k) (yk1 : y.k ≤ 9223372036854775807) (yi0 : 0 ≤ y.i) (yi1 : y.i < 4294967296) (n0 : 0 ≤ n) (n1 : n < 18446744073709551616) (w : World)
    (hsane : ∀ W, Below w.heap.size w W → Calls Tryz.prog 15 #[] W fun e w' => e = .returned (.bool true) ∧ Below W.heap.size W w') :
    Calls Tryz.prog 14 #[.agg x.cs, .agg y.cs, .int .u64 n] w fun e w' => e = .returned (.bool true) ∧ Below w.heap.size w w' := by
  obtain ⟨a, ea, hX, hvx⟩ := rank_c x xk0 xk1 xi0 xi1
  obtain ⟨b, eb, hY, hvy⟩ := rank_c y yk0 yk1 yi0 yi1
  obtain ⟨z, ez, hN, hvz⟩ := unrank_c n n0 n1
  refine order_walk x y z n a ea b eb ez w hsane hX hY hN all_c ?_ ?_ ?_
  · rcases hvx with ⟨hv, rfl, rfl⟩ | ⟨_, rfl⟩
    · left
      obtain ⟨h1, h2, h3⟩ := unrank_rank hv xi0 xi1
      refine ⟨rfl, fun W => ?_, h3, fun he => ?_⟩
      · have hu := unrank_any (rankOf x) W h2 (by omega)
        unfold UnrankPost at hu
        rw [h1] at hu
        exact hu
      · rcases hvy with ⟨hv', _, rfl⟩ | ⟨_, rfl⟩
        · refine ⟨fun W => (before_any x y ⟨xi0, xi1⟩ ⟨yi0, yi1⟩ W).mono fun e w' ⟨h1, h2⟩ => ⟨?_, h2⟩, ?_⟩
          · rw [h1]
            congr 2
            rw [Bool.eq_iff_iff]
            simp only [decide_eq_true_eq]
            exact (rank_less hv hv' xi0 xi1 yi0 yi1).symm
          · rw [Bool.eq_iff_iff]
            simp only [decide_eq_true_eq, beq_iff_eq]
            exact (rank_same hv hv' xi0 xi1 yi0 yi1).symm
        · cases he
    · right; rfl
  · rcases hvy with ⟨_, rfl, _⟩ | ⟨_, rfl⟩
    · left; rfl
    · right; rfl
  · rcases hvz with ⟨hlt, rfl, hv, hi, hr⟩ | ⟨hge, rfl⟩
    · left
      have ok := (Insn.ok hv).k
      refine ⟨hlt, rfl, fun W => ?_, fun W => ?_⟩
      · have h := rank_yes z W hv hi.1 hi.2
        unfold RankPost at h
        rw [hv, hr] at h
        exact h
      · have h := check_any z W (by omega) (by omega)
        rw [hv] at h
        exact h
    · right; exact ⟨hge, rfl⟩
end Go.Proofs.YtdkclapinedgiaaGreatDoor
