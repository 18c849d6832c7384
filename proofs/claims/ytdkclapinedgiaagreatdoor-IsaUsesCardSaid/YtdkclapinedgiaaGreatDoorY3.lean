/- IsaUses of the law's package: the walk. -/
import Derived.Test.YtdkclapinedgiaaGreatDoorY2
namespace Go.Proofs.YtdkclapinedgiaaGreatDoor
open Go.RowKit

set_option maxRecDepth 100000 in
theorem same33 (r a vr vw ld st : Int) (fi fo j : Bool) (w : World) : (Go.binOp .eql 33 (.agg #[.int .i64 r, .int .i64 a, .int .i64 vr, .int .i64 vw, .bool fi, .bool fo, .int .i64 ld, .int .i64 st, .bool j]) (.agg #[.int .i64 r, .int .i64 a, .int .i64 vr, .int .i64 vw, .bool fi, .bool fo, .int .i64 ld, .int .i64 st, .bool j])).run Tryz.prog w = .ok (.bool true) w := by
  simp [go_sem]
attribute [local go_sem] same33
/-- Where the law stands. -/
structure UsAt (w : World) (x : Insn) (W : World) : Prop where
  below : Below w.heap.size w W
  bx : Blk W w.heap.size 24 x.cs
theorem UsAt.step {w W W' : World} {x : Insn} (h : UsAt w x W) (hb : Below W.heap.size W W') : UsAt w x W' := ⟨h.below.call hb h.below.size, h.bx.call hb⟩

set_option maxRecDepth 100000 in
set_option maxHeartbeats 40000000 in
theorem uses_walk (x : Insn) (u : UsesS) (er : Int) (w : World)
    (hsane : ∀ W, Below w.heap.size w W → Calls Tryz.prog 15 #[] W fun e w' => e = .returned (.bool true) ∧ Below W.heap.size W w')
    (hX : ∀ W, Calls Tryz.prog 20 #[.agg x.cs] W fun e w' => e = .returned (.tuple #[.agg u.cs, .int .i64 er]) ∧ Below W.heap.size W w')
    (hY : ∀ W, Calls Tryz.prog 21 #[.agg x.cs] W fun e w' => e = .returned (.tuple #[.agg u.cs, .int .i64 er]) ∧ Below W.heap.size W w') :
    Calls Tryz.prog 4 #[.agg x.cs] w fun e w' => e = .returned (.bool true) ∧ Below w.heap.size w w' := by
  have HS := Lib.hid hsane
  have HX := Lib.hid hX
  have HY := Lib.hid hY
  clear hsane hX hY
  obtain ⟨r, a, vr, vw, fi, fo, ld, st, j⟩ := u
  unfold UsesS.cs usesBlk at HX HY
  dsimp only at HX HY
  unfold Insn.cs at HX HY ⊢
  go_enter Tryz.func4, Tryz.ntmps4
  go_wp2_with fail
  refine (HS.out _ ((Below.refl _ w).alloc (Nat.le_refl _) _)).mono ?_
  rintro e w1 ⟨rfl, hb⟩
  have H : UsAt w x w1 := UsAt.step ⟨(Below.refl _ w).alloc (Nat.le_refl _) _, Blk.new w 24 x.cs⟩ hb
  clear hb HS
  obtain ⟨a0, a1, a2, a3, a4, a5, a6, a7, a8, a9, a10, a11, a12, a13⟩ := H.bx.facts7
  replace H := Lib.hid H
  clear a7 a8 a9 a10 a11 a12 a13
  go_wp2_with fail
  refine (HX.out _).mono ?_
  rintro e w2 ⟨rfl, hb⟩
  replace H := Lib.hid ((H.out.step hb).step ((Below.refl _ w2).alloc (Nat.le_refl _) (.cells #[.int .i64 r, .int .i64 a, .int .i64 vr, .int .i64 vw, .bool fi, .bool fo, .int .i64 ld, .int .i64 st, .bool j] 33)))
  have HB := Lib.hid (Blk.new w2 33 #[.int .i64 r, .int .i64 a, .int .i64 vr, .int .i64 vw, .bool fi, .bool fo, .int .i64 ld, .int .i64 st, .bool j])
  clear a0 a1 a2 a3 a4 a5 a6 hb HX
  obtain ⟨a0, a1, a2, a3, a4, a5, a6, a7, a8, a9, a10, a11, a12, a13⟩ := H.out.bx.facts7
  clear a7 a8 a9 a10 a11 a12 a13
  go_wp2_with fail
  refine (HY.out _).mono ?_
  rintro e w3 ⟨rfl, hb⟩
  have b1 : Blk (w3.alloc (.cells #[.int .i64 r, .int .i64 a, .int .i64 vr, .int .i64 vw, .bool fi, .bool fo, .int .i64 ld, .int .i64 st, .bool j] 33)) w2.heap.size 33 #[.int .i64 r, .int .i64 a, .int .i64 vr, .int .i64 vw, .bool fi, .bool fo, .int .i64 ld, .int .i64 st, .bool j] := (HB.out.call hb).alloc _
  have b2 : Blk (w3.alloc (.cells #[.int .i64 r, .int .i64 a, .int .i64 vr, .int .i64 vw, .bool fi, .bool fo, .int .i64 ld, .int .i64 st, .bool j] 33)) w3.heap.size 33 #[.int .i64 r, .int .i64 a, .int .i64 vr, .int .i64 vw, .bool fi, .bool fo, .int .i64 ld, .int .i64 st, .bool j] := Blk.new w3 33 _
  replace H := Lib.hid ((H.out.step hb).step ((Below.refl _ w3).alloc (Nat.le_refl _) (.cells #[.int .i64 r, .int .i64 a, .int .i64 vr, .int .i64 vw, .bool fi, .bool fo, .int .i64 ld, .int .i64 st, .bool j] 33)))
  clear a0 a1 a2 a3 a4 a5 a6 hb HY HB
  obtain ⟨uc0, uc1, uc2, uc3, uc4, uc5, uc6, uc7, uc8, uf0, uf1, uf2, uf3, uf4, uf5, uf6, uf7, uf8⟩ := b1.facts9
  obtain ⟨vc0, vc1, vc2, vc3, vc4, vc5, vc6, vc7, vc8, vf0, vf1, vf2, vf3, vf4, vf5, vf6, vf7, vf8⟩ := b2.facts9
  clear uf0 uf1 uf2 uf3 uf4 uf5 uf6 uf7 uf8 vf0 vf1 vf2 vf3 vf4 vf5 vf6 vf7 vf8 b1 b2
  go_wp2_with fail
  go_ret
  exact ⟨rfl, H.out.below⟩
theorem uses_law (x : Insn) (hx : x.In) (w : World)
    (hsane : ∀ W, Below w.heap.size w W → Calls Tryz.prog 15 #[] W fun e w' => e = .returned (.bool true) ∧ Below W.heap.size W w') :
    Calls Tryz.prog 4 #[.agg x.cs] w fun e w' => e = .returned (.bool true) ∧ Below w.heap.size w w' :=
  uses_walk x (usesAns x).1 (usesAns x).2 w hsane (fun W => uses_any x W hx.k.1 hx.k.2) (fun W => ruses_any x hx.i.1 hx.i.2 W)
end Go.Proofs.YtdkclapinedgiaaGreatDoor
