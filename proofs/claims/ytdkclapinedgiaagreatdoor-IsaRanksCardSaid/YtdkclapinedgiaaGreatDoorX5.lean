/- Contracts: Many of the reference. -/
/- Contracts: Rank of the reference. -/
/- Contract: Rank of the reference, where the instruction is one. -/
/- Contract: Unrank of the reference. -/
/- IsaRanks of the law's package: the walk. -/
import Derived.Test.YtdkclapinedgiaaGreatDoorW4
import Derived.Test.YtdkclapinedgiaaGreatDoorO3

namespace Go.Proofs.YtdkclapinedgiaaGreatDoor
open Go.RowKit

/-- The reference's sizes are the radices. -/
theorem sz_many (op : Int) : (szOf op).a = manyOf (roomOf op) 0 ∧ (szOf op).b = manyOf (roomOf op) 1 ∧ (szOf op).c = manyOf (roomOf op) 2 ∧ (szOf op).d = manyOf (roomOf op) 3 ∧ (szOf op).k = manyOf (roomOf op) 4 ∧ (szOf op).i = manyOf (roomOf op) 5 := by
  obtain ⟨ha, hb, hc, hd, hk, hl, hi, _⟩ := sz_is op
  exact ⟨ha, hb, hc, hd, hk, hi⟩
set_option maxRecDepth 100000 in
set_option maxHeartbeats 40000000 in
theorem many_any (op : Int) (w : World) : Calls Tryz.prog 76 #[.int .i64 op] w fun e w' => e = .returned (.int .u64 (cntRoom (roomOf op))) ∧ Below w.heap.size w w' := by
  have hS := Lib.hid (fun W => sizes_any op W)
  obtain ⟨e0, e1, e2, e3, e4, e5⟩ := sz_many op
  have hin := room_in op
  have hb := cum_bound hin
  obtain ⟨hm0, hm1, hm2, hm3, hm4⟩ := many_16 hin
  have hm5 := many_le hin 5 (by decide)
  have hp (j : Nat) (hj : j < 6) := many_pos hin j hj
  have p0 := hp 0 (by decide)
  have p1 := hp 1 (by decide)
  have p2 := hp 2 (by decide)
  have p3 := hp 3 (by decide)
  have p4 := hp 4 (by decide)
  have p5 := hp 5 (by decide)
  rw [← e0] at hm0 p0
  rw [← e1] at hm1 p1
  rw [← e2] at hm2 p2
  rw [← e3] at hm3 p3
  rw [← e4] at hm4 p4
  rw [← e5] at hm5 p5
  have HV := Lib.hid (cnt_raw hin)
  obtain ⟨z, hz⟩ : ∃ z, szOf op = z := ⟨_, rfl⟩
  unfold SizesPost at hS
  rw [hz] at hS e0 e1 e2 e3 e4 e5 hm0 hm1 hm2 hm3 hm4 hm5 p0 p1 p2 p3 p4 p5
  obtain ⟨c1, hc1⟩ : ∃ c, cum (roomOf op) 1 = c := ⟨_, rfl⟩
  obtain ⟨c2, hc2⟩ : ∃ c, cum (roomOf op) 2 = c := ⟨_, rfl⟩
  obtain ⟨c3, hc3⟩ : ∃ c, cum (roomOf op) 3 = c := ⟨_, rfl⟩
  obtain ⟨c4, hc4⟩ : ∃ c, cum (roomOf op) 4 = c := ⟨_, rfl⟩
  obtain ⟨c5, hc5⟩ : ∃ c, cum (roomOf op) 5 = c := ⟨_, rfl⟩
  have k1 : z.a * z.b = c1 := by rw [← hc1, e0, e1]; rfl
  have k2 : c1 * z.c = c2 := by rw [← hc1, ← hc2, e2]; rfl
  have k3 : c2 * z.d = c3 := by rw [← hc2, ← hc3, e3]; rfl
  have k4 : c3 * z.k = c4 := by rw [← hc3, ← hc4, e4]; rfl
  have k5 : c4 * z.i = c5 := by rw [← hc4, ← hc5, e5]; rfl
  rw [hc1, hc2, hc3, hc4, hc5] at hb
  rw [hc5] at HV
  have wa : IntKind.u64.wrap z.a = z.a := wrapu64 _ (by omega) (by omega)
  have wb : IntKind.u64.wrap z.b = z.b := wrapu64 _ (by omega) (by omega)
  have wc : IntKind.u64.wrap z.c = z.c := wrapu64 _ (by omega) (by omega)
  have wd : IntKind.u64.wrap z.d = z.d := wrapu64 _ (by omega) (by omega)
  have wk : IntKind.u64.wrap z.k = z.k := wrapu64 _ (by omega) (by omega)
  have wi : IntKind.u64.wrap z.i = z.i := wrapu64 _ (by omega) (by omega)
  have x1 : IntKind.u64.wrap (z.a * z.b) = c1 := by rw [k1]; exact wrapu64 _ (by omega) (by omega)
  have x2 : IntKind.u64.wrap (c1 * z.c) = c2 := by rw [k2]; exact wrapu64 _ (by omega) (by omega)
  have x3 : IntKind.u64.wrap (c2 * z.d) = c3 := by rw [k3]; exact wrapu64 _ (by omega) (by omega)
  have x4 : IntKind.u64.wrap (c3 * z.k) = c4 := by rw [k4]; exact wrapu64 _ (by omega) (by omega)
  have x5 : IntKind.u64.wrap (c4 * z.i) = c5 := by rw [k5]; exact wrapu64 _ (by omega) (by omega)
  clear e0 e1 e2 e3 e4 e5 hin hb hm0 hm1 hm2 hm3 hm4 hm5 hp p0 p1 p2 p3 p4 p5 hc1 hc2 hc3 hc4 hc5 k1 k2 k3 k4 k5 hz
  unfold Sz.cs at hS
  go_enter Tryz.func76, Tryz.ntmps76
  go_wp2_with fail
  refine (hS.out _).mono ?_
  rintro e w1 ⟨rfl, hb⟩
  have hb3 : Blk (w1.alloc (.cells z.cs 109)) w1.heap.size 109 z.cs := Blk.new w1 109 _
  have HB := Lib.hid (hb.alloc hb.size (.cells z.cs 109))
  unfold Sz.cs at hb3 HB
  obtain ⟨uc0, uc1, uc2, uc3, uc4, uc5, uc6, uc7, uc8, uc9, uc10, uc11, _⟩ := hb3.facts12
  clear hb hb3 hS
  go_wp2_with fail
  refine wp_loop_rounds 7 ?_
  rw [rounds_succ]
  go_wp2_with fail
  rw [rounds_succ]
  go_wp2_with fail
  rw [rounds_succ]
  go_wp2_with fail
  rw [rounds_succ]
  go_wp2_with fail
  rw [rounds_succ]
  go_wp2_with fail
  rw [rounds_succ]
  go_wp2_with fail
  rw [rounds_succ]
  go_wp2_with fail
  go_ret
  exact ⟨by rw [HV.out]; first | rfl | simp, HB.out⟩
theorem rcount_any (w : World) : Calls Tryz.prog 27 #[] w fun e w' => e = .returned (.int .u64 73882029336998) ∧ w = w' := by
  go_enter Tryz.func27, Tryz.ntmps27
  go_wp2
  go_ret
  exact ⟨rfl, rfl⟩
end Go.Proofs.YtdkclapinedgiaaGreatDoor

namespace Go.Proofs.YtdkclapinedgiaaGreatDoor
open Go.RowKit

theorem rrank_no (x : Insn) (w : World) (i0 : 0 ≤ x.i) (i1 : x.i < 4294967296) (hv : x.valid = false) :
    Calls Tryz.prog 23 #[.agg x.cs] w fun e w' => e = .returned (.tuple #[.int .u64 0, .int .i64 6]) ∧ Below w.heap.size w w' := by
  have hh := Lib.hid (fun W => is_any x i0 i1 W)
  rw [hv] at hh
  unfold Insn.cs at hh ⊢
  clear i0 i1
  go_enter Tryz.func23, Tryz.ntmps23
  go_wp2_with (go_at_call 60; refine (hh.out _).mono ?_; rintro e w2 ⟨rfl, hb2⟩)
  all_goals
    go_ret2
    exact ⟨rfl, ((Below.refl _ w).alloc (Nat.le_refl _) _).call hb2 (by simp)⟩
/-- The numbers that the walk makes, step by step. -/
structure Steps (z : Sz) (x : Insn) (q1 r1 q2 r2 q3 r3 q4 r4 q5 r5 d4 : Int) : Prop where
  za : IntKind.u64.wrap z.a = z.a
  zb : IntKind.u64.wrap z.b = z.b
  zc : IntKind.u64.wrap z.c = z.c
  zd : IntKind.u64.wrap z.d = z.d
  zk : IntKind.u64.wrap z.k = z.k
  zi : IntKind.u64.wrap z.i = z.i
  xa : IntKind.u64.wrap x.a = x.a
  xb : IntKind.u64.wrap x.b = x.b
  xc : IntKind.u64.wrap x.c = x.c
  xd : IntKind.u64.wrap x.d = x.d
  xi : IntKind.u64.wrap x.i = x.i
  ya : IntKind.i64.wrap x.a = x.a
  yb : IntKind.i64.wrap x.b = x.b
  yc : IntKind.i64.wrap x.c = x.c
  yd : IntKind.i64.wrap x.d = x.d
  yi : IntKind.i64.wrap x.i = x.i
  dk : IntKind.i64.wrap (x.k - z.l) = d4
  dw : IntKind.u64.wrap d4 = d4
  s1 : IntKind.u64.wrap (x.a * z.b) = q1
  t1 : IntKind.u64.wrap (q1 + x.b) = r1
  s2 : IntKind.u64.wrap (r1 * z.c) = q2
  t2 : IntKind.u64.wrap (q2 + x.c) = r2
  s3 : IntKind.u64.wrap (r2 * z.d) = q3
  t3 : IntKind.u64.wrap (q3 + x.d) = r3
  s4 : IntKind.u64.wrap (r3 * z.k) = q4
  t4 : IntKind.u64.wrap (q4 + d4) = r4
  s5 : IntKind.u64.wrap (r4 * z.i) = q5
  t5 : IntKind.u64.wrap (q5 + x.i) = r5
theorem steps_of (x : Insn) (hv : x.valid = true) (i0 : 0 ≤ x.i) (i1 : x.i < 4294967296) :
    ∃ q1 r1 q2 r2 q3 r3 q4 r4 q5 d4, Steps (szOf x.op) x q1 r1 q2 r2 q3 r3 q4 r4 q5 (ownOf (roomOf x.op) x) d4 := by
  have hin := room_in x.op
  have hh : (roomOf x.op).has x = true := by unfold Insn.valid at hv; simp at hv; exact hv.2
  have hd := has_digs hh i0 i1
  obtain ⟨e0, e1, e2, e3, e4, e5⟩ := sz_many x.op
  obtain ⟨_, _, _, _, hk, hl, hi, _⟩ := sz_is x.op
  have ek : (szOf x.op).k = if (roomOf x.op).k then 256 else 1 := hk
  have el : (szOf x.op).l = if (roomOf x.op).k then -128 else 0 := hl
  have ei : (szOf x.op).i = if (roomOf x.op).i then 4294967296 else 1 := hi
  have ok := Insn.ok hv
  have hxk : x.k - (szOf x.op).l = atOf (roomOf x.op) x 4 := by
    show _ = if (roomOf x.op).k then x.k + 128 else 0
    have h2 := hh
    unfold Room.has within at h2
    simp only [Bool.and_eq_true, Bool.or_eq_true, decide_eq_true_eq, beq_iff_eq] at h2
    obtain ⟨⟨_, h3⟩, _⟩ := h2
    rw [el]
    rcases h : (roomOf x.op).k with _ | _ <;> simp [h] at h3 ⊢ <;> omega
  have hxi : x.i = atOf (roomOf x.op) x 5 := by
    show _ = if (roomOf x.op).i then x.i else 0
    have h2 := hh
    unfold Room.has within at h2
    simp only [Bool.and_eq_true, Bool.or_eq_true, decide_eq_true_eq, beq_iff_eq] at h2
    obtain ⟨_, h3⟩ := h2
    rcases h : (roomOf x.op).i with _ | _ <;> simp [h] at h3 ⊢ <;> omega
  obtain ⟨hm0, hm1, hm2, hm3, hm4⟩ := many_16 hin
  have hm5 := many_le hin 5 (by decide)
  have hp (j : Nat) (hj : j < 6) := many_pos hin j hj
  have p0 := hp 0 (by decide)
  have p1 := hp 1 (by decide)
  have p2 := hp 2 (by decide)
  have p3 := hp 3 (by decide)
  have p4 := hp 4 (by decide)
  have p5 := hp 5 (by decide)
  have b (j : Nat) (hj : j < 6) : 0 ≤ raw (roomOf x.op) x j ∧ raw (roomOf x.op) x j < 72057594037927937 := by
    have h1 := raw_lt hd j hj
    have h2 := cum_le hin j hj
    omega
  have m (j : Nat) (hj : j < 5) : 0 ≤ raw (roomOf x.op) x j * manyOf (roomOf x.op) (j + 1) ∧ raw (roomOf x.op) x j * manyOf (roomOf x.op) (j + 1) < 72057594037927937 := by
    have h1 := raw_lt hd j (by omega)
    have h2 := hd (j + 1) (by omega)
    have h3 := mix_lt h1.1 h1.2 h2.1 h2.2
    have h4 := cum_le hin (j + 1) (by omega)
    have h5 : cum (roomOf x.op) (j + 1) = cum (roomOf x.op) j * manyOf (roomOf x.op) (j + 1) := rfl
    omega
  have u (v : Int) (h0 : 0 ≤ v) (h1 : v < 72057594037927937) : IntKind.u64.wrap v = v := wrapu64 v h0 (by omega)
  have i (v : Int) (h0 : 0 ≤ v) (h1 : v < 72057594037927937) : IntKind.i64.wrap v = v := by rw [IntKind.wrap_i64]; omega
  have d4 := hd 4 (by decide)
  have oa := ok.a
  have ob := ok.b
  have oc := ok.c
  have od := ok.d
  rw [own_raw hin hd]
  refine ⟨raw (roomOf x.op) x 0 * manyOf (roomOf x.op) 1, raw (roomOf x.op) x 1, raw (roomOf x.op) x 1 * manyOf (roomOf x.op) 2, raw (roomOf x.op) x 2, raw (roomOf x.op) x 2 * manyOf (roomOf x.op) 3, raw (roomOf x.op) x 3, raw (roomOf x.op) x 3 * manyOf (roomOf x.op) 4, raw (roomOf x.op) x 4, raw (roomOf x.op) x 4 * manyOf (roomOf x.op) 5, atOf (roomOf x.op) x 4, ?_⟩
  exact {
    za := u _ (by rw [e0]; omega) (by rw [e0]; omega)
    zb := u _ (by rw [e1]; omega) (by rw [e1]; omega)
    zc := u _ (by rw [e2]; omega) (by rw [e2]; omega)
    zd := u _ (by rw [e3]; omega) (by rw [e3]; omega)
    zk := u _ (by rw [e4]; omega) (by rw [e4]; omega)
    zi := u _ (by rw [e5]; omega) (by rw [e5]; omega)
    xa := u _ (by omega) (by omega)
    xb := u _ (by omega) (by omega)
    xc := u _ (by omega) (by omega)
    xd := u _ (by omega) (by omega)
    xi := u _ (by omega) (by omega)
    ya := i _ (by omega) (by omega)
    yb := i _ (by omega) (by omega)
    yc := i _ (by omega) (by omega)
    yd := i _ (by omega) (by omega)
    yi := i _ (by omega) (by omega)
    dk := by rw [hxk]; exact i _ d4.1 (by omega)
    dw := u _ d4.1 (by omega)
    s1 := by rw [e1]; exact u _ (m 0 (by decide)).1 (m 0 (by decide)).2
    t1 := u _ (b 1 (by decide)).1 (b 1 (by decide)).2
    s2 := by rw [e2]; exact u _ (m 1 (by decide)).1 (m 1 (by decide)).2
    t2 := u _ (b 2 (by decide)).1 (b 2 (by decide)).2
    s3 := by rw [e3]; exact u _ (m 2 (by decide)).1 (m 2 (by decide)).2
    t3 := u _ (b 3 (by decide)).1 (b 3 (by decide)).2
    s4 := by rw [e4]; exact u _ (m 3 (by decide)).1 (m 3 (by decide)).2
    t4 := u _ (b 4 (by decide)).1 (b 4 (by decide)).2
    s5 := by rw [e5]; exact u _ (m 4 (by decide)).1 (m 4 (by decide)).2
    t5 := by rw [hxi]; exact u _ (b 5 (by decide)).1 (b 5 (by decide)).2 }
end Go.Proofs.YtdkclapinedgiaaGreatDoor

namespace Go.Proofs.YtdkclapinedgiaaGreatDoor
open Go.RowKit

theorem below_1 : belowOf 1 = 0 := by decide +kernel
/-- Where the loop over the lesser operations stands. -/
structure RkAt (w : World) (x : Insn) (W : World) : Prop where
  below : Below w.heap.size w W
  bx : Blk W w.heap.size 24 x.cs
theorem RkAt.step {w W W' : World} {x : Insn} (h : RkAt w x W) (hb : Below W.heap.size W W') : RkAt w x W' := ⟨h.below.call hb h.below.size, h.bx.call hb⟩

set_option maxRecDepth 100000 in
set_option maxHeartbeats 40000000 in
theorem rrank_yes (x : Insn) (w : World) (hv : x.valid = true) (i0 : 0 ≤ x.i) (i1 : x.i < 4294967296) :
    Calls Tryz.prog 23 #[.agg x.cs] w fun e w' => e = .returned (.tuple #[.int .u64 (rankOf x), .int .i64 0]) ∧ Below w.heap.size w w' := by
  have hh := Lib.hid (fun W => is_any x i0 i1 W)
  rw [hv] at hh
  have hS := Lib.hid (fun W => sizes_any x.op W)
  have hV := Lib.hid (fun W => values_any x i0 i1 W)
  obtain ⟨q1, r1, q2, r2, q3, r3, q4, r4, q5, d4, hst⟩ := steps_of x hv i0 i1
  have HST := Lib.hid hst
  have ok := Insn.ok hv
  obtain ⟨o1, o2, _⟩ := ok.op
  obtain ⟨N, hN⟩ : ∃ N : Nat, x.op = N := ⟨x.op.toNat, by omega⟩
  have HN := Lib.hid hN
  have HR : Hid (rankOf x = IntKind.u64.wrap (belowOf N + ownOf (roomOf x.op) x)) := by unfold Hid rankOf; rw [hN, Int.toNat_natCast]
  have hN1 : 1 ≤ N ∧ N ≤ 72 := by omega
  obtain ⟨own, hown⟩ : ∃ own, ownOf (roomOf x.op) x = own := ⟨_, rfl⟩
  obtain ⟨z, hz⟩ : ∃ z, szOf x.op = z := ⟨_, rfl⟩
  unfold SizesPost at hS
  rw [hown, hz] at HST
  rw [hown] at HR
  rw [hz] at hS
  clear hst ok o1 o2 hown hz i0 i1 hv
  unfold Insn.cs at hh hV ⊢
  unfold Sz.cs at hS
  unfold Insn.vals at hV
  rw [hN] at hh hS hV ⊢
  go_enter Tryz.func23, Tryz.ntmps23
  go_wp2_with fail
  refine (hh.out _).mono ?_
  rintro e w1 ⟨rfl, hb⟩
  have H0 : RkAt w ⟨N, x.a, x.b, x.c, x.d, x.k, x.i⟩ w1 := RkAt.step ⟨(Below.refl _ w).alloc (Nat.le_refl _) _, Blk.new w 24 _⟩ hb
  clear hb hh
  go_wp2_with fail
  go_loopw [4, 5] (fun n i wr => ∃ k : Nat, 1 ≤ k ∧ k ≤ N ∧ i = .int .i64 k ∧ n = .int .u64 (belowOf k) ∧ RkAt w ⟨N, x.a, x.b, x.c, x.d, x.k, x.i⟩ wr) (fun _ i _ => N - (intOf i).toNat)
  case atStart => exact ⟨1, Nat.le_refl _, hN1.1, rfl, by rw [below_1], H0⟩
  case round =>
    obtain ⟨k, hk1, hkN, rfl, rfl, hat⟩ := hrel
    have HT := Lib.hid hat
    clear H0
    obtain ⟨a0, a1, a2, a3, a4, a5, a6, a7, a8, a9, a10, a11, a12, a13⟩ := hat.bx.facts7
    clear a7 a8 a9 a10 a11 a12 a13 hat
    by_cases hlt : k < N
    · have hbs : Hid (belowOf (k + 1) = IntKind.u64.wrap (belowOf k + cntOf k)) := rfl
      have hbe := below_succ k (by omega)
      rcases ho : (opnd (k : Int)).2 with _ | _
      · have hc0 : cntOf (k : Int) = 0 := by unfold cntOf; rw [ho]; rfl
        have hbk : Hid (belowOf (k + 1) = belowOf k) := by unfold Hid; rw [hbe, hc0]; omega
        have hO := Lib.hid (show ∀ W, Calls Tryz.prog 75 #[.int .i64 (k : Int)] W fun e w' => e = .returned (.bool false) ∧ W = w' from fun W => by have h := isop_any (k : Int) W; rw [ho] at h; exact h)
        clear ho hc0 hbe
        go_wp2_with fail
        refine (hO.out _).mono ?_
        rintro e w2 ⟨rfl, rfl⟩
        go_wp2_with fail
        go_roundw
        case rel => exact ⟨k + 1, by omega, by omega, by go_num, by rw [hbk.out], HT.out⟩
        case measure => simp [intOf]; omega
      · have hc0 : cntOf (k : Int) = cntRoom (roomOf k) := by unfold cntOf; rw [ho]; rfl
        have hO := Lib.hid (show ∀ W, Calls Tryz.prog 75 #[.int .i64 (k : Int)] W fun e w' => e = .returned (.bool true) ∧ W = w' from fun W => by have h := isop_any (k : Int) W; rw [ho] at h; exact h)
        have hM := Lib.hid (show ∀ W, Calls Tryz.prog 76 #[.int .i64 (k : Int)] W fun e w' => e = .returned (.int .u64 (cntOf k)) ∧ Below W.heap.size W w' from fun W => by rw [hc0]; exact many_any (k : Int) W)
        clear ho hc0 hbe
        go_wp2_with fail
        refine (hO.out _).mono ?_
        rintro e w2 ⟨rfl, rfl⟩
        go_wp2_with fail
        refine (hM.out _).mono ?_
        rintro e w2 ⟨rfl, hb⟩
        clear a0 a1 a2 a3 a4 a5 a6
        go_wp2_with fail
        go_roundw
        case rel => exact ⟨k + 1, by omega, by omega, by go_num, by rw [hbs.out], HT.out.step hb⟩
        case measure => simp [intOf]; omega
    · obtain rfl : k = N := by omega
      clear hlt
      go_wp2_with fail
      refine (hS.out _).mono ?_
      rintro e w2 ⟨rfl, hb⟩
      replace HT := Lib.hid (HT.out.step (hb.alloc hb.size (.cells z.cs 109)))
      have b1 : Blk (w2.alloc (.cells z.cs 109)) w2.heap.size 109 z.cs := Blk.new w2 109 _
      clear a0 a1 a2 a3 a4 a5 a6 hb hS
      obtain ⟨a0, a1, a2, a3, a4, a5, a6, a7, a8, a9, a10, a11, a12, a13⟩ := HT.out.bx.facts7
      unfold Sz.cs at a0 a1 a2 a3 a4 a5 a6 HT
      clear a7 a8 a9 a10 a11 a12 a13
      go_wp2_with fail
      refine (hV.out _).mono ?_
      rintro e w3 ⟨rfl, hb⟩
      have b1' : Blk (w3.alloc (.cells x.vals 111)) w2.heap.size 109 z.cs := (b1.call hb).alloc _
      have b2' : Blk (w3.alloc (.cells x.vals 111)) w3.heap.size 111 x.vals := Blk.new w3 111 _
      replace HT := Lib.hid (HT.out.step (hb.alloc hb.size (.cells x.vals 111)))
      obtain ⟨uc0, uc1, uc2, uc3, uc4, uc5, uc6, uc7, uc8, uc9, uc10, uc11, _⟩ := b1'.facts12
      obtain ⟨vc0, vc1, vc2, vc3, vc4, vc5, _⟩ := b2'.facts6
      unfold Insn.vals at uc0 uc1 uc2 uc3 uc4 uc5 uc6 uc7 uc8 uc9 uc10 uc11 vc0 vc1 vc2 vc3 vc4 vc5 HT
      obtain ⟨za, zb, zc, zd, zk, zi, xa, xb, xc, xd, xi, ya, yb, yc, yd, yi, dk, dw, s1, t1, s2, t2, s3, t3, s4, t4, s5, t5⟩ := HST.out
      clear a0 a1 a2 a3 a4 a5 a6 hb b1 b1' b2' hV HST
      go_wp2_with fail
      refine wp_loop_rounds 7 ?_
      rw [rounds_succ]
      go_wp2_with fail
      go_quiet (fail)
      go_wp2_with fail
      rw [rounds_succ]
      go_wp2_with fail
      go_quiet (fail)
      go_wp2_with fail
      rw [rounds_succ]
      go_wp2_with fail
      go_quiet (fail)
      go_wp2_with fail
      rw [rounds_succ]
      go_wp2_with fail
      go_quiet (fail)
      go_wp2_with fail
      rw [rounds_succ]
      go_wp2_with fail
      go_quiet (fail)
      go_wp2_with fail
      rw [rounds_succ]
      go_wp2_with fail
      go_quiet (fail)
      go_wp2_with fail
      rw [rounds_succ]
      go_wp2_with fail
      go_ret2
      exact ⟨by rw [HR.out]; first | rfl | simp, by first | exact below_dn HT.out.below _ | exact below_dn (below_dn HT.out.below _) _⟩
end Go.Proofs.YtdkclapinedgiaaGreatDoor

namespace Go.Proofs.YtdkclapinedgiaaGreatDoor
open Go.RowKit

/-- What one round of the second loop makes of a number: the next number, the field. -/
structure Dig (m z l q d v : Int) : Prop where
  w : IntKind.u64.wrap z = z
  n : (z == 0) = false
  n3 : ¬ z = 0
  n4 : 0 < z
  n2 : decide (z ≤ 0) = false
  m0 : 0 ≤ m
  e : IntKind.i64.wrap (m.tmod z) = d
  q : IntKind.u64.wrap (m.tdiv z) = q
  v : IntKind.i64.wrap (d + l) = v
/-- The six rounds. -/
structure Digs (za zb zc zd zk zl zi : Int) (y : Insn) (m m5 m4 m3 m2 m1 m0 d5 d4 d3 d2 d1 d0 : Int) : Prop where
  s5 : Dig m zi 0 m5 d5 y.i
  s4 : Dig m5 zk zl m4 d4 y.k
  s3 : Dig m4 zd 0 m3 d3 y.d
  s2 : Dig m3 zc 0 m2 d2 y.c
  s1 : Dig m2 zb 0 m1 d1 y.b
  s0 : Dig m1 za 0 m0 d0 y.a
  i : IntKind.u32.wrap y.i = y.i
theorem dig_of (m z l : Int) (m0 : 0 ≤ m) (m1 : m < 18446744073709551616) (z0 : 1 ≤ z) (z1 : z ≤ 4294967296) (l0 : -128 ≤ l) (l1 : l ≤ 0) : Dig m z l (m / z) (m % z) (m % z + l) := by
  have h1 := Int.emod_nonneg m (show z ≠ 0 by omega)
  have h2 := Int.emod_lt_of_pos m (show 0 < z by omega)
  refine ⟨wrapu64 z (by omega) (by omega), by simp; omega, by omega, by omega, by simp; omega, m0, by rw [Int.tmod_eq_emod_of_nonneg m0]; exact IntWalk.i64_in _ (by omega), ?_, IntWalk.i64_in _ (by omega)⟩
  rw [Int.tdiv_eq_ediv_of_nonneg m0]
  have h3 : 0 ≤ m / z := Int.ediv_nonneg m0 (by omega)
  have h4 : m / z ≤ m := Int.ediv_le_self _ m0
  exact wrapu64 _ h3 (by omega)
theorem digs_of (op m : Int) (m0 : 0 ≤ m) (m1 : m < 18446744073709551616) :
    ∃ m5 m4 m3 m2 m1 m0 d5 d4 d3 d2 d1 d0, Digs (szOf op).a (szOf op).b (szOf op).c (szOf op).d (szOf op).k (szOf op).l (szOf op).i (insnAt op (roomOf op) m) m m5 m4 m3 m2 m1 m0 d5 d4 d3 d2 d1 d0 := by
  have hin := room_in op
  obtain ⟨_, _, _, _, _, hl, _, _⟩ := sz_is op
  obtain ⟨e0, e1, e2, e3, e4, e5⟩ := sz_many op
  have D (j : Nat) (hj : j < 6) (x : Int) (h : In64 x) : Dig x (manyOf (roomOf op) j) 0 (x / manyOf (roomOf op) j) (x % manyOf (roomOf op) j) (x % manyOf (roomOf op) j) := by
    have := dig_of x (manyOf (roomOf op) j) 0 h.1 h.2 (many_pos hin j hj) (many_le hin j hj) (by decide) (by decide)
    rwa [Int.add_zero] at this
  have p (j : Nat) (hj : j < 6) := many_pos hin j hj
  have i5 : In64 m := ⟨m0, m1⟩
  have i4 := divIn i5 (p 5 (by decide))
  have i3 := divIn i4 (p 4 (by decide))
  have i2 := divIn i3 (p 3 (by decide))
  have i1 := divIn i2 (p 2 (by decide))
  have i0 := divIn i1 (p 1 (by decide))
  rw [e0, e1, e2, e3, e4, e5]
  refine ⟨_, _, _, _, _, _, _, m / manyOf (roomOf op) 5 % manyOf (roomOf op) 4, _, _, _, _, ⟨D 5 (by decide) _ i5, ?_, D 3 (by decide) _ i3, D 2 (by decide) _ i2, D 1 (by decide) _ i1, D 0 (by decide) _ i0, ?_⟩⟩
  · have hL : (szOf op).l = if (roomOf op).k then -128 else 0 := hl
    have h := dig_of _ (manyOf (roomOf op) 4) (szOf op).l i4.1 i4.2 (many_pos hin 4 (by decide)) (many_le hin 4 (by decide)) (by rw [hL]; split <;> omega) (by rw [hL]; split <;> omega)
    have e : m / manyOf (roomOf op) 5 % manyOf (roomOf op) 4 + (szOf op).l = (insnAt op (roomOf op) m).k := by
      rw [hL]
      show _ = if (roomOf op).k then m / manyOf (roomOf op) 5 % manyOf (roomOf op) 4 - 128 else 0
      cases hk : (roomOf op).k
      · have : manyOf (roomOf op) 4 = 1 := by show (if (roomOf op).k then (256 : Int) else 1) = 1; rw [hk]; rfl
        rw [this]; simp
      · simp; omega
    rw [e] at h
    exact h
  · have h1 := p 5 (by decide)
    have h2 := many_le hin 5 (by decide)
    have h3 := Int.emod_nonneg m (show manyOf (roomOf op) 5 ≠ 0 by omega)
    have h4 := Int.emod_lt_of_pos m (show 0 < manyOf (roomOf op) 5 by omega)
    show IntKind.u32.wrap (m % manyOf (roomOf op) 5) = m % manyOf (roomOf op) 5
    rw [IntKind.wrap_u32]; omega

/-- Where the second loop stands. -/
structure UrAt (w : World) (g : Nat) (zs vs : Array Value) (W : World) : Prop where
  below : Below w.heap.size w W
  bx : Blk W w.heap.size 24 insn0.cs
  bz : Blk W g 109 zs
  bv : Blk W (g + 1) 111 vs
  le : w.heap.size < g
theorem UrAt.set_ {w W : World} {g : Nat} {zs vs : Array Value} (h : UrAt w g zs vs W) (i : Nat) (v : Value) : UrAt w g zs (vs.setIfInBounds i v) (W.setCell ⟨g + 1, i, none⟩ v).drew :=
  have l := h.le
  ⟨(h.below.setCell (by show w.heap.size ≤ g + 1; omega) v).drew, (h.bx.far (p := ⟨g + 1, i, none⟩) (by show w.heap.size ≠ g + 1; omega) v).drew, (h.bz.far (p := ⟨g + 1, i, none⟩) (by show g ≠ g + 1; omega) v).drew, (h.bv.set_ i v).drew, l⟩

set_option maxRecDepth 100000 in
set_option maxHeartbeats 40000000 in
theorem runrank_any (n : Int) (w : World) (n0 : 0 ≤ n) (n1 : n < 18446744073709551616) :
    Calls Tryz.prog 25 #[.int .u64 n] w fun e w' => e = .returned (.tuple #[.agg (unrankOf n).1.cs, .int .i64 (unrankOf n).2]) ∧ Below w.heap.size w w' := by
  by_cases hn : 73882029336998 ≤ n
  · have HU := Lib.hid (unrank_none hn)
    go_enter Tryz.func25, Tryz.ntmps25
    go_wp2_with fail
    exact bodyPost_ret (results_24_2 Tryz.results25 rfl (Blk.new w 24 insn0.cs)) rfl ⟨by rw [HU.out]; rfl, (Below.refl _ w).alloc (Nat.le_refl _) _⟩
  · have hf := unr_found 73 0 n rfl n0 (by rw [below_0]; omega)
    obtain ⟨⟨K, m⟩, hp⟩ : ∃ p, unr 73 0 n = p := ⟨_, rfl⟩
    rw [hp] at hf
    obtain ⟨hK, m0, m1, hm⟩ := hf
    dsimp only at hK m0 m1 hm
    rw [below_0] at hm
    have HU : Hid (unrankOf n = (insnAt K (roomOf K) m, 0)) := by
      unfold Hid unrankOf; rw [hp]; exact if_neg (by dsimp only; omega)
    have hc := cnt_is m0 m1
    have hK1 : 1 ≤ K := by
      rcases K with _ | K
      · exfalso; rw [show cntOf ((0 : Nat) : Int) = 0 from by decide +kernel] at m1; omega
      · omega
    have hbK : 0 ≤ belowOf K := by have := below_mono 0 K (by omega) (by omega); rw [below_0] at this; exact this
    have hS := Lib.hid (fun W => sizes_any K W)
    obtain ⟨m5, m4, m3, m2, mm1, mm0, d5, d4, d3, d2, d1, d0, hD⟩ := digs_of K m m0 (by omega)
    have HD := Lib.hid hD
    obtain ⟨y, hy⟩ : ∃ y, insnAt K (roomOf K) m = y := ⟨_, rfl⟩
    obtain ⟨z, hz⟩ : ∃ z, szOf K = z := ⟨_, rfl⟩
    unfold SizesPost at hS
    rw [hz] at hS HD
    obtain ⟨za, zb, zc, zd, zk, zl, zi⟩ := z
    dsimp only at HD
    rw [hy] at HU HD
    have HY : Hid (y.op = K) := by unfold Hid; rw [← hy]; rfl
    obtain ⟨op, ya, yb, yc, yd, yk, yi⟩ := y
    dsimp only at HY HD
    obtain rfl : op = K := HY.out
    clear HY
    have HM := Lib.hid hm
    have HC := Lib.hid hc
    unfold Sz.cs at hS
    clear hD hy hz hp hm hc
    have HN := Lib.hid n1
    clear n1
    go_enter Tryz.func25, Tryz.ntmps25
    go_wp2_with fail
    go_loopw [0, 4] (fun a i wr => ∃ k : Nat, 1 ≤ k ∧ k ≤ K ∧ i = .int .i64 k ∧ a = .int .u64 (n - belowOf k) ∧ Blk wr w.heap.size 24 insn0.cs ∧ Below w.heap.size w wr) (fun _ i _ => K - (intOf i).toNat)
    case atStart => exact ⟨1, Nat.le_refl _, hK1, rfl, by rw [below_1]; simp, Blk.new w 24 _, (Below.refl _ w).alloc (Nat.le_refl _) _⟩
    case round =>
      obtain ⟨k, hk1, hkK, rfl, rfl, hbk, hbl⟩ := hrel
      have HT := Lib.hid (And.intro hbk hbl)
      clear hbk hbl
      have hk0 : 0 ≤ belowOf k := by have := below_mono 0 k (by omega) (by omega); rw [below_0] at this; exact this
      have hkm : belowOf k ≤ belowOf K := below_mono k K hkK (by omega)
      by_cases hlt : k < K
      · have hbe := below_succ k (by omega)
        have hks : belowOf (k + 1) ≤ belowOf K := below_mono (k + 1) K (by omega) (by omega)
        rcases ho : (opnd (k : Int)).2 with _ | _
        · have hc0 : cntOf (k : Int) = 0 := by unfold cntOf; rw [ho]; rfl
          have hbk : Hid (belowOf (k + 1) = belowOf k) := by unfold Hid; rw [hbe, hc0]; omega
          have hO := Lib.hid (show ∀ W, Calls Tryz.prog 75 #[.int .i64 (k : Int)] W fun e w' => e = .returned (.bool false) ∧ W = w' from fun W => by have h := isop_any (k : Int) W; rw [ho] at h; exact h)
          clear ho hc0 hbe
          go_wp2_with fail
          refine (hO.out _).mono ?_
          rintro e w2 ⟨rfl, rfl⟩
          go_wp2_with fail
          refine (hO.out _).mono ?_
          rintro e w2 ⟨rfl, rfl⟩
          go_wp2_with fail
          go_roundw
          case rel => exact ⟨k + 1, by omega, by omega, by go_num, by rw [hbk.out], HT.out⟩
          case measure => simp [intOf]; omega
        · have hc0 : cntOf (k : Int) = cntRoom (roomOf k) := by unfold cntOf; rw [ho]; rfl
          have hO := Lib.hid (show ∀ W, Calls Tryz.prog 75 #[.int .i64 (k : Int)] W fun e w' => e = .returned (.bool true) ∧ W = w' from fun W => by have h := isop_any (k : Int) W; rw [ho] at h; exact h)
          have hM := Lib.hid (show ∀ W, Calls Tryz.prog 76 #[.int .i64 (k : Int)] W fun e w' => e = .returned (.int .u64 (cntOf k)) ∧ Below W.heap.size W w' from fun W => by rw [hc0]; exact many_any (k : Int) W)
          have hc1 := cnt_nonneg k
          have hge : cntOf k ≤ n - belowOf k := by have := HM.out; omega
          have hsub : Hid (n - belowOf k - cntOf k = n - belowOf (k + 1)) := by unfold Hid; omega
          obtain ⟨c, hcc⟩ : ∃ c, cntOf (k : Int) = c := ⟨_, rfl⟩
          rw [hcc] at hM hc1 hge hsub
          clear ho hc0 hbe hcc
          go_wp2_with fail
          refine (hO.out _).mono ?_
          rintro e w2 ⟨rfl, rfl⟩
          go_wp2_with fail
          refine (hM.out _).mono ?_
          rintro e w2 ⟨rfl, hb⟩
          go_wp2_with fail
          refine (hO.out _).mono ?_
          rintro e w3 ⟨rfl, rfl⟩
          go_wp2_with fail
          refine (hM.out _).mono ?_
          rintro e w3 ⟨rfl, hb'⟩
          go_wp2_with fail
          go_roundw
          case rel => exact ⟨k + 1, by omega, by omega, by go_num, by rw [hsub.out], (HT.out.1.call hb).call hb', (HT.out.2.call hb HT.out.2.size).call hb' (Nat.le_trans HT.out.2.size hb.size)⟩
          case measure => simp [intOf]; omega
      · obtain rfl : k = K := by omega
        clear hlt
        have hO := Lib.hid (show ∀ W, Calls Tryz.prog 75 #[.int .i64 (k : Int)] W fun e w' => e = .returned (.bool true) ∧ W = w' from fun W => by have h := isop_any (k : Int) W; rw [HC.out.1] at h; exact h)
        have hM := Lib.hid (show ∀ W, Calls Tryz.prog 76 #[.int .i64 (k : Int)] W fun e w' => e = .returned (.int .u64 (cntOf k)) ∧ Below W.heap.size W w' from fun W => by rw [HC.out.2]; exact many_any (k : Int) W)
        obtain ⟨c, hcc⟩ : ∃ c, cntOf (k : Int) = c := ⟨_, rfl⟩
        rw [hcc] at hM m1
        have hnm : n - belowOf k = m := by have := HM.out; omega
        rw [hnm]
        clear hcc hnm hk0 hkm hbK
        go_wp2_with fail
        refine (hO.out _).mono ?_
        rintro e w2 ⟨rfl, rfl⟩
        go_wp2_with fail
        refine (hM.out _).mono ?_
        rintro e w2 ⟨rfl, hb⟩
        go_wp2_with fail
        refine (hS.out _).mono ?_
        rintro e w3 ⟨rfl, hb'⟩
        replace HT := Lib.hid (And.intro ((HT.out.1.call hb).call hb') ((HT.out.2.call hb HT.out.2.size).call hb' (Nat.le_trans HT.out.2.size hb.size)))
        obtain ⟨g, hg⟩ : ∃ g, w3.heap.size = g := ⟨_, rfl⟩
        go_wp2_with fail
        refine name_world (UrAt w g #[.int .i64 za, .int .i64 0, .int .i64 zb, .int .i64 0, .int .i64 zc, .int .i64 0, .int .i64 zd, .int .i64 0, .int .i64 zk, .int .i64 zl, .int .i64 zi, .int .i64 0] #[.int .i64 0, .int .i64 0, .int .i64 0, .int .i64 0, .int .i64 0, .int .i64 0]) _ ?f0 ?_
        case f0 =>
          have hs := HT.out.2.size
          subst hg
          exact ⟨(HT.out.2.alloc hs _).alloc (by simp; omega) _, (HT.out.1.alloc _).alloc _, (Blk.new w3 109 _).alloc _, blk_at (w3.alloc (.cells #[.int .i64 za, .int .i64 0, .int .i64 zb, .int .i64 0, .int .i64 zc, .int .i64 0, .int .i64 zd, .int .i64 0, .int .i64 zk, .int .i64 zl, .int .i64 zi, .int .i64 0] 109)) (w3.heap.size + 1) 111 _ (by simp), HT.out.1.lt⟩
        have hgw : w.heap.size < g := by rw [← hg]; exact HT.out.1.lt
        clear hb hb' hO hM hS HT hg
        rintro W0 H0
        replace H0 := Lib.hid H0
        refine wp_loop_rounds 7 ?_
        have hA := HD.out.s5
        obtain ⟨hw, hn, hn3, hn4, hn2, hm0, he, hq, hv⟩ := hA
        dsimp only at hv
        try rw [Int.add_zero] at hv
        obtain ⟨uc0, uc1, uc2, uc3, uc4, uc5, uc6, uc7, uc8, uc9, uc10, uc11, uf0, uf1, uf2, uf3, uf4, uf5, uf6, uf7, uf8, uf9, uf10, uf11⟩ := H0.out.bz.facts12
        obtain ⟨vc0, vc1, vc2, vc3, vc4, vc5, vf0, vf1, vf2, vf3, vf4, vf5⟩ := H0.out.bv.facts6
        rw [rounds_succ]
        go_wp2_with fail
        go_region_held3 (fun w' => w'.cell? ⟨g, 10, none⟩ = some (.int .i64 zi) ∧ w'.cell? ⟨g, 11, none⟩ = some (.int .i64 0)) (go_keep) (first | fail)
        refine name_then (UrAt w g #[.int .i64 za, .int .i64 0, .int .i64 zb, .int .i64 0, .int .i64 zc, .int .i64 0, .int .i64 zd, .int .i64 0, .int .i64 zk, .int .i64 zl, .int .i64 zi, .int .i64 0] #[.int .i64 0, .int .i64 0, .int .i64 0, .int .i64 0, .int .i64 0, .int .i64 yi]) _ (H0.out.set_ 5 _) ?_
        rintro W1 H1
        replace H1 := Lib.hid H1
        clear uc0 uc1 uc2 uc3 uc4 uc5 uc6 uc7 uc8 uc9 uc10 uc11 uf0 uf1 uf2 uf3 uf4 uf5 uf6 uf7 uf8 uf9 uf10 uf11 vc0 vc1 vc2 vc3 vc4 vc5 vf0 vf1 vf2 vf3 vf4 vf5
        obtain ⟨uc0, uc1, uc2, uc3, uc4, uc5, uc6, uc7, uc8, uc9, uc10, uc11, uf0, uf1, uf2, uf3, uf4, uf5, uf6, uf7, uf8, uf9, uf10, uf11⟩ := H1.out.bz.facts12
        go_wp2_with fail
        clear uc0 uc1 uc2 uc3 uc4 uc5 uc6 uc7 uc8 uc9 uc10 uc11 uf0 uf1 uf2 uf3 uf4 uf5 uf6 uf7 uf8 uf9 uf10 uf11 hw hn hn3 hn4 hn2 hm0 he hq hv H0
        have hA := HD.out.s4
        obtain ⟨hw, hn, hn3, hn4, hn2, hm0, he, hq, hv⟩ := hA
        dsimp only at hv
        try rw [Int.add_zero] at hv
        obtain ⟨uc0, uc1, uc2, uc3, uc4, uc5, uc6, uc7, uc8, uc9, uc10, uc11, uf0, uf1, uf2, uf3, uf4, uf5, uf6, uf7, uf8, uf9, uf10, uf11⟩ := H1.out.bz.facts12
        obtain ⟨vc0, vc1, vc2, vc3, vc4, vc5, vf0, vf1, vf2, vf3, vf4, vf5⟩ := H1.out.bv.facts6
        rw [rounds_succ]
        go_wp2_with fail
        go_region_held3 (fun w' => w'.cell? ⟨g, 8, none⟩ = some (.int .i64 zk) ∧ w'.cell? ⟨g, 9, none⟩ = some (.int .i64 zl)) (go_keep) (first | fail)
        refine name_then (UrAt w g #[.int .i64 za, .int .i64 0, .int .i64 zb, .int .i64 0, .int .i64 zc, .int .i64 0, .int .i64 zd, .int .i64 0, .int .i64 zk, .int .i64 zl, .int .i64 zi, .int .i64 0] #[.int .i64 0, .int .i64 0, .int .i64 0, .int .i64 0, .int .i64 yk, .int .i64 yi]) _ (H1.out.set_ 4 _) ?_
        rintro W2 H2
        replace H2 := Lib.hid H2
        clear uc0 uc1 uc2 uc3 uc4 uc5 uc6 uc7 uc8 uc9 uc10 uc11 uf0 uf1 uf2 uf3 uf4 uf5 uf6 uf7 uf8 uf9 uf10 uf11 vc0 vc1 vc2 vc3 vc4 vc5 vf0 vf1 vf2 vf3 vf4 vf5
        obtain ⟨uc0, uc1, uc2, uc3, uc4, uc5, uc6, uc7, uc8, uc9, uc10, uc11, uf0, uf1, uf2, uf3, uf4, uf5, uf6, uf7, uf8, uf9, uf10, uf11⟩ := H2.out.bz.facts12
        go_wp2_with fail
        clear uc0 uc1 uc2 uc3 uc4 uc5 uc6 uc7 uc8 uc9 uc10 uc11 uf0 uf1 uf2 uf3 uf4 uf5 uf6 uf7 uf8 uf9 uf10 uf11 hw hn hn3 hn4 hn2 hm0 he hq hv H1
        have hA := HD.out.s3
        obtain ⟨hw, hn, hn3, hn4, hn2, hm0, he, hq, hv⟩ := hA
        dsimp only at hv
        try rw [Int.add_zero] at hv
        obtain ⟨uc0, uc1, uc2, uc3, uc4, uc5, uc6, uc7, uc8, uc9, uc10, uc11, uf0, uf1, uf2, uf3, uf4, uf5, uf6, uf7, uf8, uf9, uf10, uf11⟩ := H2.out.bz.facts12
        obtain ⟨vc0, vc1, vc2, vc3, vc4, vc5, vf0, vf1, vf2, vf3, vf4, vf5⟩ := H2.out.bv.facts6
        rw [rounds_succ]
        go_wp2_with fail
        go_region_held3 (fun w' => w'.cell? ⟨g, 6, none⟩ = some (.int .i64 zd) ∧ w'.cell? ⟨g, 7, none⟩ = some (.int .i64 0)) (go_keep) (first | fail)
        refine name_then (UrAt w g #[.int .i64 za, .int .i64 0, .int .i64 zb, .int .i64 0, .int .i64 zc, .int .i64 0, .int .i64 zd, .int .i64 0, .int .i64 zk, .int .i64 zl, .int .i64 zi, .int .i64 0] #[.int .i64 0, .int .i64 0, .int .i64 0, .int .i64 yd, .int .i64 yk, .int .i64 yi]) _ (H2.out.set_ 3 _) ?_
        rintro W3 H3
        replace H3 := Lib.hid H3
        clear uc0 uc1 uc2 uc3 uc4 uc5 uc6 uc7 uc8 uc9 uc10 uc11 uf0 uf1 uf2 uf3 uf4 uf5 uf6 uf7 uf8 uf9 uf10 uf11 vc0 vc1 vc2 vc3 vc4 vc5 vf0 vf1 vf2 vf3 vf4 vf5
        obtain ⟨uc0, uc1, uc2, uc3, uc4, uc5, uc6, uc7, uc8, uc9, uc10, uc11, uf0, uf1, uf2, uf3, uf4, uf5, uf6, uf7, uf8, uf9, uf10, uf11⟩ := H3.out.bz.facts12
        go_wp2_with fail
        clear uc0 uc1 uc2 uc3 uc4 uc5 uc6 uc7 uc8 uc9 uc10 uc11 uf0 uf1 uf2 uf3 uf4 uf5 uf6 uf7 uf8 uf9 uf10 uf11 hw hn hn3 hn4 hn2 hm0 he hq hv H2
        have hA := HD.out.s2
        obtain ⟨hw, hn, hn3, hn4, hn2, hm0, he, hq, hv⟩ := hA
        dsimp only at hv
        try rw [Int.add_zero] at hv
        obtain ⟨uc0, uc1, uc2, uc3, uc4, uc5, uc6, uc7, uc8, uc9, uc10, uc11, uf0, uf1, uf2, uf3, uf4, uf5, uf6, uf7, uf8, uf9, uf10, uf11⟩ := H3.out.bz.facts12
        obtain ⟨vc0, vc1, vc2, vc3, vc4, vc5, vf0, vf1, vf2, vf3, vf4, vf5⟩ := H3.out.bv.facts6
        rw [rounds_succ]
        go_wp2_with fail
        go_region_held3 (fun w' => w'.cell? ⟨g, 4, none⟩ = some (.int .i64 zc) ∧ w'.cell? ⟨g, 5, none⟩ = some (.int .i64 0)) (go_keep) (first | fail)
        refine name_then (UrAt w g #[.int .i64 za, .int .i64 0, .int .i64 zb, .int .i64 0, .int .i64 zc, .int .i64 0, .int .i64 zd, .int .i64 0, .int .i64 zk, .int .i64 zl, .int .i64 zi, .int .i64 0] #[.int .i64 0, .int .i64 0, .int .i64 yc, .int .i64 yd, .int .i64 yk, .int .i64 yi]) _ (H3.out.set_ 2 _) ?_
        rintro W4 H4
        replace H4 := Lib.hid H4
        clear uc0 uc1 uc2 uc3 uc4 uc5 uc6 uc7 uc8 uc9 uc10 uc11 uf0 uf1 uf2 uf3 uf4 uf5 uf6 uf7 uf8 uf9 uf10 uf11 vc0 vc1 vc2 vc3 vc4 vc5 vf0 vf1 vf2 vf3 vf4 vf5
        obtain ⟨uc0, uc1, uc2, uc3, uc4, uc5, uc6, uc7, uc8, uc9, uc10, uc11, uf0, uf1, uf2, uf3, uf4, uf5, uf6, uf7, uf8, uf9, uf10, uf11⟩ := H4.out.bz.facts12
        go_wp2_with fail
        clear uc0 uc1 uc2 uc3 uc4 uc5 uc6 uc7 uc8 uc9 uc10 uc11 uf0 uf1 uf2 uf3 uf4 uf5 uf6 uf7 uf8 uf9 uf10 uf11 hw hn hn3 hn4 hn2 hm0 he hq hv H3
        have hA := HD.out.s1
        obtain ⟨hw, hn, hn3, hn4, hn2, hm0, he, hq, hv⟩ := hA
        dsimp only at hv
        try rw [Int.add_zero] at hv
        obtain ⟨uc0, uc1, uc2, uc3, uc4, uc5, uc6, uc7, uc8, uc9, uc10, uc11, uf0, uf1, uf2, uf3, uf4, uf5, uf6, uf7, uf8, uf9, uf10, uf11⟩ := H4.out.bz.facts12
        obtain ⟨vc0, vc1, vc2, vc3, vc4, vc5, vf0, vf1, vf2, vf3, vf4, vf5⟩ := H4.out.bv.facts6
        rw [rounds_succ]
        go_wp2_with fail
        go_region_held3 (fun w' => w'.cell? ⟨g, 2, none⟩ = some (.int .i64 zb) ∧ w'.cell? ⟨g, 3, none⟩ = some (.int .i64 0)) (go_keep) (first | fail)
        refine name_then (UrAt w g #[.int .i64 za, .int .i64 0, .int .i64 zb, .int .i64 0, .int .i64 zc, .int .i64 0, .int .i64 zd, .int .i64 0, .int .i64 zk, .int .i64 zl, .int .i64 zi, .int .i64 0] #[.int .i64 0, .int .i64 yb, .int .i64 yc, .int .i64 yd, .int .i64 yk, .int .i64 yi]) _ (H4.out.set_ 1 _) ?_
        rintro W5 H5
        replace H5 := Lib.hid H5
        clear uc0 uc1 uc2 uc3 uc4 uc5 uc6 uc7 uc8 uc9 uc10 uc11 uf0 uf1 uf2 uf3 uf4 uf5 uf6 uf7 uf8 uf9 uf10 uf11 vc0 vc1 vc2 vc3 vc4 vc5 vf0 vf1 vf2 vf3 vf4 vf5
        obtain ⟨uc0, uc1, uc2, uc3, uc4, uc5, uc6, uc7, uc8, uc9, uc10, uc11, uf0, uf1, uf2, uf3, uf4, uf5, uf6, uf7, uf8, uf9, uf10, uf11⟩ := H5.out.bz.facts12
        go_wp2_with fail
        clear uc0 uc1 uc2 uc3 uc4 uc5 uc6 uc7 uc8 uc9 uc10 uc11 uf0 uf1 uf2 uf3 uf4 uf5 uf6 uf7 uf8 uf9 uf10 uf11 hw hn hn3 hn4 hn2 hm0 he hq hv H4
        have hA := HD.out.s0
        obtain ⟨hw, hn, hn3, hn4, hn2, hm0, he, hq, hv⟩ := hA
        dsimp only at hv
        try rw [Int.add_zero] at hv
        obtain ⟨uc0, uc1, uc2, uc3, uc4, uc5, uc6, uc7, uc8, uc9, uc10, uc11, uf0, uf1, uf2, uf3, uf4, uf5, uf6, uf7, uf8, uf9, uf10, uf11⟩ := H5.out.bz.facts12
        obtain ⟨vc0, vc1, vc2, vc3, vc4, vc5, vf0, vf1, vf2, vf3, vf4, vf5⟩ := H5.out.bv.facts6
        rw [rounds_succ]
        go_wp2_with fail
        go_region_held3 (fun w' => w'.cell? ⟨g, 0, none⟩ = some (.int .i64 za) ∧ w'.cell? ⟨g, 1, none⟩ = some (.int .i64 0)) (go_keep) (first | fail)
        refine name_then (UrAt w g #[.int .i64 za, .int .i64 0, .int .i64 zb, .int .i64 0, .int .i64 zc, .int .i64 0, .int .i64 zd, .int .i64 0, .int .i64 zk, .int .i64 zl, .int .i64 zi, .int .i64 0] #[.int .i64 ya, .int .i64 yb, .int .i64 yc, .int .i64 yd, .int .i64 yk, .int .i64 yi]) _ (H5.out.set_ 0 _) ?_
        rintro W6 H6
        replace H6 := Lib.hid H6
        clear uc0 uc1 uc2 uc3 uc4 uc5 uc6 uc7 uc8 uc9 uc10 uc11 uf0 uf1 uf2 uf3 uf4 uf5 uf6 uf7 uf8 uf9 uf10 uf11 vc0 vc1 vc2 vc3 vc4 vc5 vf0 vf1 vf2 vf3 vf4 vf5
        obtain ⟨uc0, uc1, uc2, uc3, uc4, uc5, uc6, uc7, uc8, uc9, uc10, uc11, uf0, uf1, uf2, uf3, uf4, uf5, uf6, uf7, uf8, uf9, uf10, uf11⟩ := H6.out.bz.facts12
        go_wp2_with fail
        clear uc0 uc1 uc2 uc3 uc4 uc5 uc6 uc7 uc8 uc9 uc10 uc11 uf0 uf1 uf2 uf3 uf4 uf5 uf6 uf7 uf8 uf9 uf10 uf11 hw hn hn3 hn4 hn2 hm0 he hq hv H5
        obtain ⟨vc0, vc1, vc2, vc3, vc4, vc5, vf0, vf1, vf2, vf3, vf4, vf5⟩ := H6.out.bv.facts6
        obtain ⟨a0, a1, a2, a3, a4, a5, a6, a7, a8, a9, a10, a11, a12, a13⟩ := H6.out.bx.facts7
        have hi := HD.out.i
        dsimp only at hi
        rw [rounds_succ]
        go_wp2_with fail
        exact bodyPost_ret (results_24_2 Tryz.results25 rfl (H6.out.bx.seven _ _ _ _ _ _ _)) rfl ⟨by rw [HU.out]; rfl, below_seven H6.out.below (Nat.le_refl _) _ _ _ _ _ _ _⟩
end Go.Proofs.YtdkclapinedgiaaGreatDoor

namespace Go.Proofs.YtdkclapinedgiaaGreatDoor
open Go.RowKit

set_option maxRecDepth 100000 in
theorem one24 (o a b c d k i : Int) (w : World) : (Go.binOp .eql 24 (.agg #[.int .i64 o, .int .i64 a, .int .i64 b, .int .i64 c, .int .i64 d, .int .i64 k, .int .u32 i]) (.agg #[.int .i64 o, .int .i64 a, .int .i64 b, .int .i64 c, .int .i64 d, .int .i64 k, .int .u32 i])).run Tryz.prog w = .ok (.bool true) w := by
  simp [go_sem]
attribute [local go_sem] one24

set_option maxRecDepth 100000 in
set_option maxHeartbeats 40000000 in
theorem ranks_walk (x y : Insn) (n a ea ez : Int) (w : World)
    (hsane : ∀ W, Below w.heap.size w W → Calls Tryz.prog 15 #[] W fun e w' => e = .returned (.bool true) ∧ Below W.heap.size W w')
    (hX : Says 22 #[.agg x.cs] (.tuple #[.int .u64 a, .int .i64 ea])) (hY : Says 23 #[.agg x.cs] (.tuple #[.int .u64 a, .int .i64 ea]))
    (hN : Says 24 #[.int .u64 n] (.tuple #[.agg y.cs, .int .i64 ez])) (hM : Says 25 #[.int .u64 n] (.tuple #[.agg y.cs, .int .i64 ez]))
    (hC : Says 26 #[] (.int .u64 73882029336998)) (hD : Says 27 #[] (.int .u64 73882029336998)) :
    Calls Tryz.prog 5 #[.agg x.cs, .int .u64 n] w fun e w' => e = .returned (.bool true) ∧ Below w.heap.size w w' := by
  have HS := Lib.hid hsane
  have HX := Lib.hid hX
  have HY := Lib.hid hY
  have HN := Lib.hid hN
  have HM := Lib.hid hM
  have HC := Lib.hid hC
  have HD := Lib.hid hD
  clear hsane hX hY hN hM hC hD
  unfold Says at HX HY HN HM HC HD
  unfold Insn.cs at HX HY HN HM ⊢
  go_enter Tryz.func5, Tryz.ntmps5
  go_wp2_with fail
  refine (HS.out _ ((Below.refl _ w).alloc (Nat.le_refl _) _)).mono ?_
  rintro e w1 ⟨rfl, hb⟩
  have H : RkAt w x w1 := RkAt.step ⟨(Below.refl _ w).alloc (Nat.le_refl _) _, Blk.new w 24 x.cs⟩ hb
  clear hb HS
  obtain ⟨a0, a1, a2, a3, a4, a5, a6, a7, a8, a9, a10, a11, a12, a13⟩ := H.bx.facts7
  replace H := Lib.hid H
  clear a7 a8 a9 a10 a11 a12 a13
  go_wp2_with fail
  refine (HX.out _).mono ?_
  rintro e w2 ⟨rfl, hb⟩
  replace H := Lib.hid (H.out.step hb)
  clear a0 a1 a2 a3 a4 a5 a6 hb HX
  obtain ⟨a0, a1, a2, a3, a4, a5, a6, a7, a8, a9, a10, a11, a12, a13⟩ := H.out.bx.facts7
  clear a7 a8 a9 a10 a11 a12 a13
  go_wp2_with fail
  refine (HY.out _).mono ?_
  rintro e w3 ⟨rfl, hb⟩
  replace H := Lib.hid (H.out.step hb)
  clear a0 a1 a2 a3 a4 a5 a6 hb HY
  go_wp2_with fail
  refine (HN.out _).mono ?_
  rintro e w4 ⟨rfl, hb⟩
  replace H := Lib.hid ((H.out.step hb).step ((Below.refl _ w4).alloc (Nat.le_refl _) (.cells y.cs 24)))
  have HB := Lib.hid (Blk.new w4 24 y.cs)
  clear hb HN
  go_wp2_with fail
  refine (HM.out _).mono ?_
  rintro e w5 ⟨rfl, hb⟩
  have b1 : Blk (w5.alloc (.cells y.cs 24)) w4.heap.size 24 y.cs := (HB.out.call hb).alloc _
  have b2 : Blk (w5.alloc (.cells y.cs 24)) w5.heap.size 24 y.cs := Blk.new w5 24 _
  replace H := Lib.hid ((H.out.step hb).step ((Below.refl _ w5).alloc (Nat.le_refl _) (.cells y.cs 24)))
  clear hb HM HB
  unfold Insn.cs at b1 b2 H
  obtain ⟨a0, a1, a2, a3, a4, a5, a6, a7, a8, a9, a10, a11, a12, a13⟩ := b1.facts7
  obtain ⟨e0, e1, e2, e3, e4, e5, e6, e7, e8, e9, e10, e11, e12, e13⟩ := b2.facts7
  clear a7 a8 a9 a10 a11 a12 a13 e7 e8 e9 e10 e11 e12 e13 b1 b2
  go_wp2_with fail
  refine (HC.out _).mono ?_
  rintro e w6 ⟨rfl, hb⟩
  replace H := Lib.hid (H.out.step hb)
  clear a0 a1 a2 a3 a4 a5 a6 e0 e1 e2 e3 e4 e5 e6 hb HC
  go_wp2_with fail
  refine (HD.out _).mono ?_
  rintro e w7 ⟨rfl, hb⟩
  replace H := Lib.hid (H.out.step hb)
  clear hb HD
  go_wp2_with fail
  go_ret
  exact ⟨rfl, H.out.below⟩
theorem ranks_of (x : Insn) (hx : x.In) (n : Int) (n0 : 0 ≤ n) (n1 : n < 18446744073709551616) (w : World)
    (hsane : ∀ W, Below w.heap.size w W → Calls Tryz.prog 15 #[] W fun e w' => e = .returned (.bool true) ∧ Below W.heap.size W w') :
    Calls Tryz.prog 5 #[.agg x.cs, .int .u64 n] w fun e w' => e = .returned (.bool true) ∧ Below w.heap.size w w' := by
  refine ranks_walk x (unrankOf n).1 n (if x.valid then rankOf x else 0) (if x.valid then 0 else 6) (unrankOf n).2 w hsane ?_ ?_ ?_ ?_ all_c ?_
  · exact fun W => rank_any x W hx.k.1 hx.k.2 hx.i.1 hx.i.2
  · intro W
    cases hv : x.valid
    · exact rrank_no x W hx.i.1 hx.i.2 hv
    · exact rrank_yes x W hv hx.i.1 hx.i.2
  · exact fun W => unrank_any n W n0 n1
  · exact fun W => runrank_any n W n0 n1
  · exact fun W => (rcount_any W).mono fun _ _ ⟨h1, h2⟩ => ⟨h1, h2 ▸ Below.refl _ _⟩
end Go.Proofs.YtdkclapinedgiaaGreatDoor
