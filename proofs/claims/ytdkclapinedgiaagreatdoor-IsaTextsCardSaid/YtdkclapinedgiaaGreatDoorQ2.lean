/- IsaRead of the law's package: the walk. -/
import Derived.Test.YtdkclapinedgiaaGreatDoorQ1
namespace Go.Proofs.YtdkclapinedgiaaGreatDoor
open Go.RowKit

/-- Where the law stands: both instructions lie in blocks of its own. -/
structure TwoI (w : World) (x y : Insn) (W : World) : Prop where
  below : Below w.heap.size w W
  bx : Blk W w.heap.size 24 x.cs
  bY : Blk W (w.heap.size + 1) 24 y.cs
theorem TwoI.step {w W W' : World} {x y : Insn} (h : TwoI w x y W) (hb : Below W.heap.size W W') : TwoI w x y W' := ⟨h.below.call hb h.below.size, h.bx.call hb, h.bY.call hb⟩
set_option maxRecDepth 100000 in
theorem eqI (x y : Insn) (w : World) : (Go.binOp .eql 24 (.agg #[.int .i64 x.op, .int .i64 x.a, .int .i64 x.b, .int .i64 x.c, .int .i64 x.d, .int .i64 x.k, .int .u32 x.i]) (.agg #[.int .i64 y.op, .int .i64 y.a, .int .i64 y.b, .int .i64 y.c, .int .i64 y.d, .int .i64 y.k, .int .u32 y.i])).run Tryz.prog w = .ok (.bool (decide (x = y))) w := by
  by_cases h : x = y
  · subst h; simp [go_sem]
  · rw [decide_eq_false h]
    have h7 : ¬ (x.op = y.op ∧ x.a = y.a ∧ x.b = y.b ∧ x.c = y.c ∧ x.d = y.d ∧ x.k = y.k ∧ x.i = y.i) := by
      rintro ⟨h1, h2, h3, h4, h5, h6, h7⟩
      apply h
      cases x; cases y
      simp_all
    simp [go_sem]
    simp only [not_and] at h7
    exact h7
set_option maxRecDepth 100000 in
theorem sameI (x : Insn) (w : World) : (Go.binOp .neq 24 (.agg #[.int .i64 x.op, .int .i64 x.a, .int .i64 x.b, .int .i64 x.c, .int .i64 x.d, .int .i64 x.k, .int .u32 x.i]) (.agg #[.int .i64 x.op, .int .i64 x.a, .int .i64 x.b, .int .i64 x.c, .int .i64 x.d, .int .i64 x.k, .int .u32 x.i])).run Tryz.prog w = .ok (.bool false) w := by
  simp [go_sem]
attribute [local go_sem] sameI

theorem textL_len (x : Insn) (hx : x.In) : (textL x).length ≤ 1000000 := by
  have h1 := textTo_length x hx (opnd x.op).1 (opnd x.op).1.length
  have h2 := opnd_len x.op
  unfold textL
  omega

/-- What a function answers in every world that goes back to w. -/
def Tell (w : World) (f : Nat) (args : Array Value) (v : Value) : Prop := ∀ W, Below w.heap.size w W → Calls Tryz.prog f args W fun e w' => e = .returned v ∧ Below W.heap.size W w'
set_option maxRecDepth 100000 in
set_option maxHeartbeats 40000000 in
theorem read_walk (x y : Insn) (s tx ty : List UInt8) (ex ey : Int) (w : World)
    (hsane : Tell w 15 #[] (.bool true))
    (hX : Tell w 16 #[.agg x.cs] (.tuple #[.string ⟨tx.toArray⟩, .int .i64 ex])) (hY : Tell w 16 #[.agg y.cs] (.tuple #[.string ⟨ty.toArray⟩, .int .i64 ey]))
    (hc : ex = 6 ∨ ex = 0 ∧ Tell w 18 #[.string ⟨tx.toArray⟩] (.tuple #[.agg x.cs, .int .i64 0]) ∧ (ey = 6 ∨ ey = 0 ∧ ∃ q : Bool, (tx == ty) = q ∧ decide (x = y) = q))
    (hs : s.length ≤ 100000 → (∃ z : Insn, Tell w 18 #[.string ⟨s.toArray⟩] (.tuple #[.agg z.cs, .int .i64 0]) ∧ Tell w 16 #[.agg z.cs] (.tuple #[.string ⟨s.toArray⟩, .int .i64 0])) ∨
      Tell w 18 #[.string ⟨s.toArray⟩] (.tuple #[.agg insn0.cs, .int .i64 4])) :
    Calls Tryz.prog 6 #[.agg x.cs, .agg y.cs, .string ⟨s.toArray⟩] w fun e w' => e = .returned (.bool true) ∧ Below w.heap.size w w' := by
  have HS := Lib.hid hsane
  have HTX := Lib.hid hX
  have HTY := Lib.hid hY
  have HC := Lib.hid hc
  have HT := Lib.hid hs
  clear hsane hX hY hc hs
  unfold Tell at HS HTX HTY HC HT
  unfold Insn.cs at HTX HTY HC HT ⊢
  rw [show insn0 = ⟨0, 0, 0, 0, 0, 0, 0⟩ from rfl] at HT
  dsimp only at HT
  go_enter Tryz.func6, Tryz.ntmps6
  go_wp2_with fail
  refine (HS.out _ (((Below.refl _ w).alloc (Nat.le_refl _) _).alloc (by simp) _)).mono ?_
  rintro e w1 ⟨rfl, hb⟩
  have H : TwoI w x y w1 := TwoI.step ⟨((Below.refl _ w).alloc (Nat.le_refl _) _).alloc (by simp) _, (Blk.new w 24 x.cs).alloc _, blk_at _ (w.heap.size + 1) 24 y.cs (by simp)⟩ hb
  clear hb HS
  obtain ⟨a0, a1, a2, a3, a4, a5, a6, a7, a8, a9, a10, a11, a12, a13⟩ := H.bx.facts7
  replace H := Lib.hid H
  clear a7 a8 a9 a10 a11 a12 a13
  go_wp2_with fail
  refine (HTX.out _ H.out.below).mono ?_
  rintro e w2 ⟨rfl, hb⟩
  replace H := Lib.hid (H.out.step hb)
  clear a0 a1 a2 a3 a4 a5 a6 hb HTX
  obtain ⟨a0, a1, a2, a3, a4, a5, a6, a7, a8, a9, a10, a11, a12, a13⟩ := H.out.bY.facts7
  clear a7 a8 a9 a10 a11 a12 a13
  go_wp2_with fail
  refine (HTY.out _ H.out.below).mono ?_
  rintro e w3 ⟨rfl, hb⟩
  replace H := Lib.hid (H.out.step hb)
  clear a0 a1 a2 a3 a4 a5 a6 hb HTY
  rcases HC.out with rfl | ⟨rfl, hP, rfl | ⟨rfl, q, hq, hd⟩⟩
  · clear HC
    by_cases hn : (100000 : Int) < (s.length : Int)
    · go_wp2_with fail
      go_ret
      exact ⟨rfl, H.out.below⟩
    · rcases HT.out (by omega) with ⟨z, hz, hzt⟩ | hz
      · have HPS := Lib.hid hz
        have HTZ := Lib.hid hzt
        clear hz hzt HT
        go_wp2_with fail
        refine (HPS.out _ H.out.below).mono ?_
        rintro e v1 ⟨rfl, hb⟩
        have BZ : Blk (v1.alloc (.cells z.cs 24)) v1.heap.size 24 z.cs := Blk.new v1 24 _
        replace H := Lib.hid ((H.out.step hb).step ((Below.refl _ v1).alloc (Nat.le_refl _) (.cells z.cs 24)))
        unfold Insn.cs at BZ H
        obtain ⟨e0, e1, e2, e3, e4, e5, e6, e7, e8, e9, e10, e11, e12, e13⟩ := BZ.facts7
        clear e7 e8 e9 e10 e11 e12 e13 BZ hb HPS
        go_wp2_with fail
        refine (HTZ.out _ H.out.below).mono ?_
        rintro e v2 ⟨rfl, hb⟩
        replace H := Lib.hid (H.out.step hb)
        clear e0 e1 e2 e3 e4 e5 e6 hb HTZ
        go_wp2_with fail
        go_ret
        exact ⟨rfl, H.out.below⟩
      · have HPS := Lib.hid hz
        clear hz HT
        go_wp2_with fail
        refine (HPS.out _ H.out.below).mono ?_
        rintro e v1 ⟨rfl, hb⟩
        replace H := Lib.hid ((H.out.step hb).step ((Below.refl _ v1).alloc (Nat.le_refl _) (.cells insn0.cs 24)))
        clear hb HPS
        go_wp2_with fail
        go_ret
        exact ⟨rfl, H.out.below⟩
  · have HPX := Lib.hid hP
    clear hP HC
    go_wp2_with fail
    refine (HPX.out _ H.out.below).mono ?_
    rintro e u1 ⟨rfl, hb⟩
    have BX : Blk (u1.alloc (.cells x.cs 24)) u1.heap.size 24 x.cs := Blk.new u1 24 _
    replace H := Lib.hid ((H.out.step hb).step ((Below.refl _ u1).alloc (Nat.le_refl _) (.cells x.cs 24)))
    unfold Insn.cs at H BX
    obtain ⟨a0, a1, a2, a3, a4, a5, a6, a7, a8, a9, a10, a11, a12, a13⟩ := H.out.bx.facts7
    obtain ⟨b0, b1, b2, b3, b4, b5, b6, b7, b8, b9, b10, b11, b12, b13⟩ := H.out.bY.facts7
    obtain ⟨c0, c1, c2, c3, c4, c5, c6, c7, c8, c9, c10, c11, c12, c13⟩ := BX.facts7
    clear a7 a8 a9 a10 a11 a12 a13 b7 b8 b9 b10 b11 b12 b13 c7 c8 c9 c10 c11 c12 c13 hb HPX BX
    by_cases hn : (100000 : Int) < (s.length : Int)
    · go_wp2_with fail
      go_ret
      exact ⟨rfl, H.out.below⟩
    · rcases HT.out (by omega) with ⟨z, hz, hzt⟩ | hz
      · have HPS := Lib.hid hz
        have HTZ := Lib.hid hzt
        clear hz hzt HT
        go_wp2_with fail
        refine (HPS.out _ H.out.below).mono ?_
        rintro e v1 ⟨rfl, hb⟩
        have BZ : Blk (v1.alloc (.cells z.cs 24)) v1.heap.size 24 z.cs := Blk.new v1 24 _
        replace H := Lib.hid ((H.out.step hb).step ((Below.refl _ v1).alloc (Nat.le_refl _) (.cells z.cs 24)))
        unfold Insn.cs at BZ H
        obtain ⟨e0, e1, e2, e3, e4, e5, e6, e7, e8, e9, e10, e11, e12, e13⟩ := BZ.facts7
        clear e7 e8 e9 e10 e11 e12 e13 BZ hb HPS
        go_wp2_with fail
        refine (HTZ.out _ H.out.below).mono ?_
        rintro e v2 ⟨rfl, hb⟩
        replace H := Lib.hid (H.out.step hb)
        clear e0 e1 e2 e3 e4 e5 e6 hb HTZ
        go_wp2_with fail
        go_ret
        exact ⟨rfl, H.out.below⟩
      · have HPS := Lib.hid hz
        clear hz HT
        go_wp2_with fail
        refine (HPS.out _ H.out.below).mono ?_
        rintro e v1 ⟨rfl, hb⟩
        replace H := Lib.hid ((H.out.step hb).step ((Below.refl _ v1).alloc (Nat.le_refl _) (.cells insn0.cs 24)))
        clear hb HPS
        go_wp2_with fail
        go_ret
        exact ⟨rfl, H.out.below⟩
  · cases q
    · have hE : ∀ W, (Go.binOp .eql 24 (.agg #[.int .i64 x.op, .int .i64 x.a, .int .i64 x.b, .int .i64 x.c, .int .i64 x.d, .int .i64 x.k, .int .u32 x.i]) (.agg #[.int .i64 y.op, .int .i64 y.a, .int .i64 y.b, .int .i64 y.c, .int .i64 y.d, .int .i64 y.k, .int .u32 y.i])).run Tryz.prog W = .ok (.bool false) W := fun W => by rw [eqI, hd]
      clear hd
      have HPX := Lib.hid hP
      clear hP HC
      go_wp2_with fail
      refine (HPX.out _ H.out.below).mono ?_
      rintro e u1 ⟨rfl, hb⟩
      have BX : Blk (u1.alloc (.cells x.cs 24)) u1.heap.size 24 x.cs := Blk.new u1 24 _
      replace H := Lib.hid ((H.out.step hb).step ((Below.refl _ u1).alloc (Nat.le_refl _) (.cells x.cs 24)))
      unfold Insn.cs at H BX
      obtain ⟨a0, a1, a2, a3, a4, a5, a6, a7, a8, a9, a10, a11, a12, a13⟩ := H.out.bx.facts7
      obtain ⟨b0, b1, b2, b3, b4, b5, b6, b7, b8, b9, b10, b11, b12, b13⟩ := H.out.bY.facts7
      obtain ⟨c0, c1, c2, c3, c4, c5, c6, c7, c8, c9, c10, c11, c12, c13⟩ := BX.facts7
      clear a7 a8 a9 a10 a11 a12 a13 b7 b8 b9 b10 b11 b12 b13 c7 c8 c9 c10 c11 c12 c13 hb HPX BX
      by_cases hn : (100000 : Int) < (s.length : Int)
      · go_wp2_with fail
        go_ret
        exact ⟨rfl, H.out.below⟩
      · rcases HT.out (by omega) with ⟨z, hz, hzt⟩ | hz
        · have HPS := Lib.hid hz
          have HTZ := Lib.hid hzt
          clear hz hzt HT
          go_wp2_with fail
          refine (HPS.out _ H.out.below).mono ?_
          rintro e v1 ⟨rfl, hb⟩
          have BZ : Blk (v1.alloc (.cells z.cs 24)) v1.heap.size 24 z.cs := Blk.new v1 24 _
          replace H := Lib.hid ((H.out.step hb).step ((Below.refl _ v1).alloc (Nat.le_refl _) (.cells z.cs 24)))
          unfold Insn.cs at BZ H
          obtain ⟨e0, e1, e2, e3, e4, e5, e6, e7, e8, e9, e10, e11, e12, e13⟩ := BZ.facts7
          clear e7 e8 e9 e10 e11 e12 e13 BZ hb HPS
          go_wp2_with fail
          refine (HTZ.out _ H.out.below).mono ?_
          rintro e v2 ⟨rfl, hb⟩
          replace H := Lib.hid (H.out.step hb)
          clear e0 e1 e2 e3 e4 e5 e6 hb HTZ
          go_wp2_with fail
          go_ret
          exact ⟨rfl, H.out.below⟩
        · have HPS := Lib.hid hz
          clear hz HT
          go_wp2_with fail
          refine (HPS.out _ H.out.below).mono ?_
          rintro e v1 ⟨rfl, hb⟩
          replace H := Lib.hid ((H.out.step hb).step ((Below.refl _ v1).alloc (Nat.le_refl _) (.cells insn0.cs 24)))
          clear hb HPS
          go_wp2_with fail
          go_ret
          exact ⟨rfl, H.out.below⟩
    · have hE : ∀ W, (Go.binOp .eql 24 (.agg #[.int .i64 x.op, .int .i64 x.a, .int .i64 x.b, .int .i64 x.c, .int .i64 x.d, .int .i64 x.k, .int .u32 x.i]) (.agg #[.int .i64 y.op, .int .i64 y.a, .int .i64 y.b, .int .i64 y.c, .int .i64 y.d, .int .i64 y.k, .int .u32 y.i])).run Tryz.prog W = .ok (.bool true) W := fun W => by rw [eqI, hd]
      clear hd
      have HPX := Lib.hid hP
      clear hP HC
      go_wp2_with fail
      refine (HPX.out _ H.out.below).mono ?_
      rintro e u1 ⟨rfl, hb⟩
      have BX : Blk (u1.alloc (.cells x.cs 24)) u1.heap.size 24 x.cs := Blk.new u1 24 _
      replace H := Lib.hid ((H.out.step hb).step ((Below.refl _ u1).alloc (Nat.le_refl _) (.cells x.cs 24)))
      unfold Insn.cs at H BX
      obtain ⟨a0, a1, a2, a3, a4, a5, a6, a7, a8, a9, a10, a11, a12, a13⟩ := H.out.bx.facts7
      obtain ⟨b0, b1, b2, b3, b4, b5, b6, b7, b8, b9, b10, b11, b12, b13⟩ := H.out.bY.facts7
      obtain ⟨c0, c1, c2, c3, c4, c5, c6, c7, c8, c9, c10, c11, c12, c13⟩ := BX.facts7
      clear a7 a8 a9 a10 a11 a12 a13 b7 b8 b9 b10 b11 b12 b13 c7 c8 c9 c10 c11 c12 c13 hb HPX BX
      by_cases hn : (100000 : Int) < (s.length : Int)
      · go_wp2_with fail
        go_ret
        exact ⟨rfl, H.out.below⟩
      · rcases HT.out (by omega) with ⟨z, hz, hzt⟩ | hz
        · have HPS := Lib.hid hz
          have HTZ := Lib.hid hzt
          clear hz hzt HT
          go_wp2_with fail
          refine (HPS.out _ H.out.below).mono ?_
          rintro e v1 ⟨rfl, hb⟩
          have BZ : Blk (v1.alloc (.cells z.cs 24)) v1.heap.size 24 z.cs := Blk.new v1 24 _
          replace H := Lib.hid ((H.out.step hb).step ((Below.refl _ v1).alloc (Nat.le_refl _) (.cells z.cs 24)))
          unfold Insn.cs at BZ H
          obtain ⟨e0, e1, e2, e3, e4, e5, e6, e7, e8, e9, e10, e11, e12, e13⟩ := BZ.facts7
          clear e7 e8 e9 e10 e11 e12 e13 BZ hb HPS
          go_wp2_with fail
          refine (HTZ.out _ H.out.below).mono ?_
          rintro e v2 ⟨rfl, hb⟩
          replace H := Lib.hid (H.out.step hb)
          clear e0 e1 e2 e3 e4 e5 e6 hb HTZ
          go_wp2_with fail
          go_ret
          exact ⟨rfl, H.out.below⟩
        · have HPS := Lib.hid hz
          clear hz HT
          go_wp2_with fail
          refine (HPS.out _ H.out.below).mono ?_
          rintro e v1 ⟨rfl, hb⟩
          replace H := Lib.hid ((H.out.step hb).step ((Below.refl _ v1).alloc (Nat.le_refl _) (.cells insn0.cs 24)))
          clear hb HPS
          go_wp2_with fail
          go_ret
          exact ⟨rfl, H.out.below⟩

theorem valid_in {z : Insn} (hzv : z.valid = true) (hzi : IIn z) : z.In := by
  have ok := Insn.ok hzv
  exact ⟨by have := ok.op; omega, by have := ok.a; omega, by have := ok.b; omega, by have := ok.c; omega, by have := ok.d; omega, by have := ok.k; omega, hzi⟩
theorem read_of (x y : Insn) (hx : x.In) (hy : y.In) (s : List UInt8) (w : World) (he : Env w) (hsane : Tell w 15 #[] (.bool true)) :
    Calls Tryz.prog 6 #[.agg x.cs, .agg y.cs, .string ⟨s.toArray⟩] w fun e w' => e = .returned (.bool true) ∧ Below w.heap.size w w' := by
  refine read_walk x y s (if x.valid then textL x else []) (if y.valid then textL y else []) (if x.valid then 0 else 6) (if y.valid then 0 else 6) w hsane
    (fun W hW => text_any x hx W (below_env he W hW)) (fun W hW => text_any y hy W (below_env he W hW)) ?_ ?_
  · cases hvx : x.valid
    · exact .inl rfl
    · refine .inr ⟨rfl, fun W hW => ?_, ?_⟩
      · have h := parse_any (textL x) (textL_len x hx) (hix_all _ (textL_len x hx)) W (below_env he W hW)
        unfold ParsePost at h
        rw [parse_text hvx hx.i.1 hx.i.2] at h
        exact h
      · cases hvy : y.valid
        · exact .inl rfl
        · refine .inr ⟨rfl, decide (x = y), ?_, rfl⟩
          show (textL x == textL y) = decide (x = y)
          by_cases hxy : x = y
          · subst hxy; simp
          · rw [decide_eq_false hxy]
            have := fun h => hxy ((text_inj hvx hvy hx.i hy.i).1 h)
            simpa using this
  · intro hs
    have hsl : s.length ≤ 1000000 := by omega
    rcases parseOf_cases s with ⟨z, hz, hzv, hzi, hzt⟩ | hz
    · refine .inl ⟨z, fun W hW => ?_, fun W hW => ?_⟩
      · have h := parse_any s hsl (hix_all s hsl) W (below_env he W hW)
        unfold ParsePost at h; rw [hz] at h; exact h
      · have h := text_any z (valid_in hzv hzi) W (below_env he W hW)
        unfold TextOf at h; rw [hzv, if_pos rfl, if_pos rfl, hzt] at h; exact h
    · refine .inr fun W hW => ?_
      have h := parse_any s hsl (hix_all s hsl) W (below_env he W hW)
      unfold ParsePost at h; rw [hz] at h; exact h
end Go.Proofs.YtdkclapinedgiaaGreatDoor
