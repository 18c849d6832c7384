/- Contracts: Fields of the reference. -/
/- Contracts: Sizes of the reference. -/
/- Contracts: Is and Check of the reference. -/
/- Contracts: Is and Check of the reference. -/
import Derived.Test.YtdkclapinedgiaaGreatDoorJ3

namespace Go.Proofs.YtdkclapinedgiaaGreatDoor
open Go.RowKit

/-- What the reference's Fields hands back: the operands' numbers in a new block, or none. -/
def RFldsPost (w : World) (op : Int) (e : Ending) (w' : World) : Prop :=
  ∃ (cs : Array Value) (b : Bool), ((cs = #[] ∧ e = .returned (.tuple #[.slice none 0 0, .bool b]) ∧ w' = w) ∨
    (e = .returned (.tuple #[.slice (some ⟨w.heap.size, 0, none⟩) cs.size cs.size, .bool b]) ∧ w' = w.alloc (.cells cs 3))) ∧ cs.toList = (kindsOf op).map (Value.int .i64) ∧ b = (opnd op).2
theorem opnd_mid {op : Int} (h0 : 3 ≤ op) (h1 : op ≤ 17) : opnd op = ([97, 98, 99], true) := by
  have h : ∀ k : Nat, k < 18 → 3 ≤ k → opnd (k : Int) = ([97, 98, 99], true) := by decide +kernel
  obtain ⟨k, rfl⟩ : ∃ k : Nat, op = k := ⟨op.toNat, by omega⟩
  exact h k (by omega) (by omega)

theorem opnd_mem {op : Int} (h0 : 27 ≤ op) (h1 : op ≤ 38) (h2 : op ≠ 34) (h3 : op ≠ 35) (h4 : op ≠ 37) : opnd op = ([97, 109], true) := by
  have h : ∀ k : Nat, k < 39 → (27 ≤ k ∧ ¬ k = 34 ∧ ¬ k = 35 ∧ ¬ k = 37) → opnd (k : Int) = ([97, 109], true) := by decide +kernel
  obtain ⟨k, rfl⟩ : ∃ k : Nat, op = k := ⟨op.toNat, by omega⟩
  exact h k (by omega) ⟨by omega, by omega, by omega, by omega⟩
theorem opnd_nil (op : Int) : (opnd op).2 = false → opnd op = ([], false) := by
  unfold opnd vecs
  repeat' (refine ite_P (P := fun l : List UInt8 × Bool => l.2 = false → l = ([], false)) ?_ ?_)
  all_goals (intro h; first | rfl | cases h)
theorem opnd_no {op : Int} (h : op < 1 ∨ 72 < op ∨ op = 62 ∨ op = 63) : opnd op = ([], false) :=
  opnd_nil op (Bool.eq_false_iff.2 fun h' => by have := opnd_op op h'; omega)

set_option maxRecDepth 100000 in
set_option maxHeartbeats 40000000 in
theorem rfields_any (op : Int) (w : World) : Calls Tryz.prog 43 #[.int .i64 op] w (RFldsPost w op) := by
  go_enter Tryz.func43, Tryz.ntmps43
  go_wp2
  all_goals go_ret2
  all_goals (simp only [beq_iff_eq, beq_eq_false_iff_ne, ne_eq] at *)
  all_goals (try subst_vars)
  all_goals first
    | exact ⟨_, true, .inr ⟨rfl, rfl⟩, by rw [show kindsOf op = [1, 2, 3] from by unfold kindsOf; rw [opnd_mid (by omega) (by omega)]; decide +kernel]; rfl, by rw [opnd_mid (by omega) (by omega)]⟩
    | exact ⟨_, true, .inr ⟨rfl, rfl⟩, by rw [show kindsOf op = [1, 14] from by unfold kindsOf; rw [opnd_mem (by omega) (by omega) (by omega) (by omega) (by omega)]; decide +kernel]; rfl, by rw [opnd_mem (by omega) (by omega) (by omega) (by omega) (by omega)]⟩
    | exact ⟨#[], false, .inl ⟨rfl, rfl, rfl⟩, by rw [show kindsOf op = [] from by unfold kindsOf; rw [opnd_no (by omega)]; rfl]; rfl, by rw [opnd_no (by omega)]⟩
    | exact ⟨#[], true, .inl ⟨rfl, rfl, rfl⟩, by kernel_rfl, by kernel_rfl⟩
    | exact ⟨_, true, .inr ⟨rfl, rfl⟩, by kernel_rfl, by kernel_rfl⟩
end Go.Proofs.YtdkclapinedgiaaGreatDoor

namespace Go.Proofs.YtdkclapinedgiaaGreatDoor
open Go.RowKit

/-- How many values each field may have; the least one of K. -/
structure Sz where
  (a b c d k l i : Int)
def sz0 : Sz := ⟨1, 1, 1, 1, 1, 0, 1⟩
def Sz.step (s : Sz) (k : Int) : Sz :=
  if k = 1 then { s with a := 16 } else if k = 2 then { s with b := 16 } else if k = 3 then { s with c := 16 } else
  if k = 4 then { s with a := 8 } else if k = 5 then { s with b := 8 } else if k = 6 then { s with c := 8 } else
  if k = 7 then { s with d := 16 } else if k = 8 ∨ k = 10 ∨ k = 11 then { s with d := 4 } else if k = 9 then { s with d := 3 } else
  if k = 12 then { s with k := 256, l := -128 } else if k = 13 then { s with i := 4294967296 } else
  if k = 14 then { s with b := 16, k := 256, l := -128 } else if k = 15 then { s with b := 16, i := 4294967296 } else s
def Sz.cs (s : Sz) : Array Value := #[.int .i64 s.a, .int .i64 0, .int .i64 s.b, .int .i64 0, .int .i64 s.c, .int .i64 0, .int .i64 s.d, .int .i64 0, .int .i64 s.k, .int .i64 s.l, .int .i64 s.i, .int .i64 0]
def szOf (op : Int) : Sz := (kindsOf op).foldl Sz.step sz0
def SizesPost (w : World) (op : Int) (e : Ending) (w' : World) : Prop := e = .returned (.agg (szOf op).cs) ∧ Below w.heap.size w w'

theorem idx_lt (l : List UInt8) (c : UInt8) : Lib.indexByte l c < l.length ∨ Lib.indexByte l c = -1 := by
  induction l with
  | nil => exact .inr rfl
  | cons b l ih =>
    unfold Lib.indexByte
    split
    · left; simp
    · split
      · right; rfl
      · rename_i h
        rcases ih with h1 | h1
        · left; simp; omega
        · exact absurd (beq_iff_eq.2 h1) h
theorem kind_in (op : Int) : ∀ k ∈ kindsOf op, 0 ≤ k ∧ k ≤ 15 := by
  intro k hk
  unfold kindsOf at hk
  obtain ⟨c, _, rfl⟩ := List.mem_map.1 hk
  have h1 := Lib.indexByte_ge [97, 98, 99, 65, 66, 67, 100, 101, 108, 119, 115, 107, 105, 109, 110] c
  have h2 := indexByte_le [97, 98, 99, 65, 66, 67, 100, 101, 108, 119, 115, 107, 105, 109, 110] c
  have h3 : Lib.indexByte [97, 98, 99, 65, 66, 67, 100, 101, 108, 119, 115, 107, 105, 109, 110] c ≠ 15 := by
    rcases idx_lt [97, 98, 99, 65, 66, 67, 100, 101, 108, 119, 115, 107, 105, 109, 110] c with h | h
    · simp only [List.length_cons, List.length_nil] at h; omega
    · omega
  simp only [List.length_cons, List.length_nil] at h2
  unfold kindOf
  omega
theorem size109 : (Tryz.prog.info? 109).map (·.size) = some 12 := by kernel_rfl
def zero12 : Array Value := #[.int .i64 0, .int .i64 0, .int .i64 0, .int .i64 0, .int .i64 0, .int .i64 0, .int .i64 0, .int .i64 0, .int .i64 0, .int .i64 0, .int .i64 0, .int .i64 0]
/-- Where the loop over the operands stands. -/
structure SzAt (w : World) (ks : List Int) (s : Sz) (W : World) : Prop where
  below : Below w.heap.size w W
  b2 : Blk W w.heap.size 109 zero12
  b3 : Blk W (w.heap.size + 1) 109 s.cs
  b4 : ks = [] ∨ Blk W (w.heap.size + 1 + 1) 3 (ks.map (Value.int .i64)).toArray
theorem SzAt.set_ {w W : World} {ks : List Int} {s : Sz} (h : SzAt w ks s W) (i : Nat) (v : Value) {s' : Sz} (e : s.cs.setIfInBounds i v = s'.cs) : SzAt w ks s' (W.setCell ⟨w.heap.size + 1, i, none⟩ v) :=
  ⟨h.below.setCell (by simp) _, h.b2.far (p := ⟨w.heap.size + 1, i, none⟩) (by simp) _, e ▸ h.b3.set_ i v, h.b4.imp id fun hb => hb.far (p := ⟨w.heap.size + 1, i, none⟩) (by simp) _⟩

set_option maxRecDepth 100000 in
set_option maxHeartbeats 40000000 in
theorem sizes_any (op : Int) (w : World) : Calls Tryz.prog 77 #[.int .i64 op] w (SizesPost w op) := by
  have HKI := Lib.hid (kind_in op)
  have HP : Hid (szOf op = (kindsOf op).foldl Sz.step sz0) := rfl
  unfold SizesPost
  have hl5 : (kindsOf op).length ≤ 5 := by unfold kindsOf; rw [List.length_map]; exact opnd_len op
  obtain ⟨ks, hks⟩ : ∃ ks, kindsOf op = ks := ⟨_, rfl⟩
  rw [hks] at hl5
  rw [hks] at HKI HP
  have HKS := Lib.hid hks
  clear hks
  go_enter Tryz.func77, Tryz.ntmps77
  go_wp2_with fail
  refine (rfields_any op _).mono ?_
  rintro e w1 ⟨cs, b, hcase, hcs, hb⟩
  rw [HKS.out] at hcs
  have hn : cs.size = ks.length := by have := congrArg List.length hcs; simpa using this
  have hb0 : Below w.heap.size w (((w.alloc (.cells zero12 109)).alloc (.cells sz0.cs 109))) := ((Below.refl _ w).alloc (Nat.le_refl _) _).alloc (by simp) _
  have b20 : Blk ((w.alloc (.cells zero12 109)).alloc (.cells sz0.cs 109)) w.heap.size 109 zero12 := (Blk.new w 109 _).alloc _
  have b30 : Blk ((w.alloc (.cells zero12 109)).alloc (.cells sz0.cs 109)) (w.heap.size + 1) 109 sz0.cs := blk_at _ (w.heap.size + 1) 109 _ (by simp)
  have hall : ∃ A, e = .returned (.tuple #[.slice A ks.length ks.length, .bool b]) ∧ (0 < ks.length → A = some ⟨w.heap.size + 1 + 1, 0, none⟩) ∧ SzAt w ks sz0 w1 := by
    rcases hcase with ⟨rfl, rfl, rfl⟩ | ⟨rfl, rfl⟩
    · have : ks.length = 0 := by rw [← hn]; rfl
      exact ⟨none, by rw [this], fun h => absurd h (by omega), hb0, b20, b30, .inl (List.length_eq_zero_iff.1 this)⟩
    · refine ⟨some ⟨w.heap.size + 1 + 1, 0, none⟩, by rw [hn]; simp, fun _ => rfl, hb0.alloc (by simp; omega) _, b20.alloc _, b30.alloc _, .inr ?_⟩
      rw [← hcs]
      exact blk_at _ (w.heap.size + 1 + 1) 3 _ (by simp)
  obtain ⟨A, rfl, hA, hat⟩ := hall
  have HA := Lib.hid hA
  have HAT := Lib.hid hat
  clear hcase hcs hb hn hb0 b20 b30 hA hat
  go_wp2_with fail
  go_loopw [6] (fun i wr => ∃ j : Nat, j ≤ ks.length ∧ i = .int .i64 j ∧ SzAt w ks ((ks.take j).foldl Sz.step sz0) wr) (fun i _ => ks.length - (intOf i).toNat)
  case atStart => exact ⟨0, Nat.zero_le _, rfl, HAT.out⟩
  case round =>
    obtain ⟨j, hj, rfl, hat⟩ := hrel
    have HT := Lib.hid hat
    clear HAT
    by_cases hlt : j < ks.length
    · obtain rfl := HA.out (by omega)
      have hfold : (ks.take (j + 1)).foldl Sz.step sz0 = Sz.step ((ks.take j).foldl Sz.step sz0) ks[j] := by
        rw [List.take_add_one, List.getElem?_eq_getElem hlt, List.foldl_append]; rfl
      obtain ⟨s, hs⟩ : ∃ s, (ks.take j).foldl Sz.step sz0 = s := ⟨_, rfl⟩
      rw [hs] at hfold HT hat
      have hk := HKI.out ks[j] (List.getElem_mem hlt)
      have c0 : wr.cell? ⟨w.heap.size + 1 + 1, j, none⟩ = some (.int .i64 ks[j]) := by
        rcases hat.b4 with h | h
        · rw [h] at hlt; simp at hlt
        · have := h.cell j
          simpa [hlt] using this
      obtain ⟨uc0, uc1, uc2, uc3, uc4, uc5, uc6, uc7, uc8, uc9, uc10, uc11, uf0, uf1, uf2, uf3, uf4, uf5, uf6, uf7, uf8, uf9, uf10, uf11⟩ := hat.b3.facts12
      have HF := Lib.hid hfold
      obtain ⟨κ, hκ⟩ : ∃ κ, ks[j] = κ := ⟨_, rfl⟩
      rw [hκ] at hk c0 HF
      have hsz : w.heap.size + 1 < wr.heap.size := hat.b3.lt
      clear hfold hs hκ hat
      have hcases : κ = 0 ∨ κ = 1 ∨ κ = 2 ∨ κ = 3 ∨ κ = 4 ∨ κ = 5 ∨ κ = 6 ∨ κ = 7 ∨ κ = 8 ∨ κ = 9 ∨ κ = 10 ∨ κ = 11 ∨ κ = 12 ∨ κ = 13 ∨ κ = 14 ∨ κ = 15 := by omega
      clear hk
      rcases hcases with rfl | rfl | rfl | rfl | rfl | rfl | rfl | rfl | rfl | rfl | rfl | rfl | rfl | rfl | rfl | rfl
      · go_wp2_with fail
        go_roundw
        case rel =>
          refine ⟨j + 1, by omega, by go_num, ?_⟩
          rw [HF.out]
          exact HT.out
        case measure => simp [intOf]; omega
      · go_wp2_with fail
        go_roundw
        case rel =>
          refine ⟨j + 1, by omega, by go_num, ?_⟩
          rw [HF.out]
          exact (SzAt.set_ HT.out 0 (.int .i64 (16)) (s' := Sz.step s 1) rfl)
        case measure => simp [intOf]; omega
      · go_wp2_with fail
        go_roundw
        case rel =>
          refine ⟨j + 1, by omega, by go_num, ?_⟩
          rw [HF.out]
          exact (SzAt.set_ HT.out 2 (.int .i64 (16)) (s' := Sz.step s 2) rfl)
        case measure => simp [intOf]; omega
      · go_wp2_with fail
        go_roundw
        case rel =>
          refine ⟨j + 1, by omega, by go_num, ?_⟩
          rw [HF.out]
          exact (SzAt.set_ HT.out 4 (.int .i64 (16)) (s' := Sz.step s 3) rfl)
        case measure => simp [intOf]; omega
      · go_wp2_with fail
        go_roundw
        case rel =>
          refine ⟨j + 1, by omega, by go_num, ?_⟩
          rw [HF.out]
          exact (SzAt.set_ HT.out 0 (.int .i64 (8)) (s' := Sz.step s 4) rfl)
        case measure => simp [intOf]; omega
      · go_wp2_with fail
        go_roundw
        case rel =>
          refine ⟨j + 1, by omega, by go_num, ?_⟩
          rw [HF.out]
          exact (SzAt.set_ HT.out 2 (.int .i64 (8)) (s' := Sz.step s 5) rfl)
        case measure => simp [intOf]; omega
      · go_wp2_with fail
        go_roundw
        case rel =>
          refine ⟨j + 1, by omega, by go_num, ?_⟩
          rw [HF.out]
          exact (SzAt.set_ HT.out 4 (.int .i64 (8)) (s' := Sz.step s 6) rfl)
        case measure => simp [intOf]; omega
      · go_wp2_with fail
        go_roundw
        case rel =>
          refine ⟨j + 1, by omega, by go_num, ?_⟩
          rw [HF.out]
          exact (SzAt.set_ HT.out 6 (.int .i64 (16)) (s' := Sz.step s 7) rfl)
        case measure => simp [intOf]; omega
      · go_wp2_with fail
        go_roundw
        case rel =>
          refine ⟨j + 1, by omega, by go_num, ?_⟩
          rw [HF.out]
          exact (SzAt.set_ HT.out 6 (.int .i64 (4)) (s' := Sz.step s 8) rfl)
        case measure => simp [intOf]; omega
      · go_wp2_with fail
        go_roundw
        case rel =>
          refine ⟨j + 1, by omega, by go_num, ?_⟩
          rw [HF.out]
          exact (SzAt.set_ HT.out 6 (.int .i64 (3)) (s' := Sz.step s 9) rfl)
        case measure => simp [intOf]; omega
      · go_wp2_with fail
        go_roundw
        case rel =>
          refine ⟨j + 1, by omega, by go_num, ?_⟩
          rw [HF.out]
          exact (SzAt.set_ HT.out 6 (.int .i64 (4)) (s' := Sz.step s 10) rfl)
        case measure => simp [intOf]; omega
      · go_wp2_with fail
        go_roundw
        case rel =>
          refine ⟨j + 1, by omega, by go_num, ?_⟩
          rw [HF.out]
          exact (SzAt.set_ HT.out 6 (.int .i64 (4)) (s' := Sz.step s 11) rfl)
        case measure => simp [intOf]; omega
      · go_wp2_with fail
        go_roundw
        case rel =>
          refine ⟨j + 1, by omega, by go_num, ?_⟩
          rw [HF.out]
          exact (SzAt.set_ (SzAt.set_ HT.out 8 (.int .i64 (256)) (s' := { s with k := 256 }) rfl) 9 (.int .i64 (-128)) (s' := Sz.step s 12) rfl)
        case measure => simp [intOf]; omega
      · go_wp2_with fail
        go_roundw
        case rel =>
          refine ⟨j + 1, by omega, by go_num, ?_⟩
          rw [HF.out]
          exact (SzAt.set_ HT.out 10 (.int .i64 (4294967296)) (s' := Sz.step s 13) rfl)
        case measure => simp [intOf]; omega
      · go_wp2_with fail
        go_roundw
        case rel =>
          refine ⟨j + 1, by omega, by go_num, ?_⟩
          rw [HF.out]
          exact (SzAt.set_ (SzAt.set_ (SzAt.set_ HT.out 2 (.int .i64 (16)) (s' := { s with b := 16 }) rfl) 8 (.int .i64 (256)) (s' := { { s with b := 16 } with k := 256 }) rfl) 9 (.int .i64 (-128)) (s' := Sz.step s 14) rfl)
        case measure => simp [intOf]; omega
      · go_wp2_with fail
        go_roundw
        case rel =>
          refine ⟨j + 1, by omega, by go_num, ?_⟩
          rw [HF.out]
          exact (SzAt.set_ (SzAt.set_ HT.out 2 (.int .i64 (16)) (s' := { s with b := 16 }) rfl) 10 (.int .i64 (4294967296)) (s' := Sz.step s 15) rfl)
        case measure => simp [intOf]; omega
    · obtain rfl : j = ks.length := by omega
      rw [List.take_length] at hat
      clear hlt hj HT
      have HT := Lib.hid hat
      have HPP : Hid (szOf op = (ks).foldl Sz.step sz0) := HP
      obtain ⟨s, hs⟩ : ∃ s, ks.foldl Sz.step sz0 = s := ⟨_, rfl⟩
      rw [hs] at HT hat
      have HE := Lib.hid (show szOf op = s from HPP.out.trans hs)
      obtain ⟨uc0, uc1, uc2, uc3, uc4, uc5, uc6, uc7, uc8, uc9, uc10, uc11, uf0, uf1, uf2, uf3, uf4, uf5, uf6, uf7, uf8, uf9, uf10, uf11⟩ := hat.b3.facts12
      obtain ⟨vc0, vc1, vc2, vc3, vc4, vc5, vc6, vc7, vc8, vc9, vc10, vc11, vf0, vf1, vf2, vf3, vf4, vf5, vf6, vf7, vf8, vf9, vf10, vf11⟩ := hat.b2.facts12
      clear hat hs
      go_wp2_with fail
      have g0 : Blk (wr.setCell ⟨w.heap.size, 0, none⟩ (.int .i64 s.a)) w.heap.size 109 #[.int .i64 s.a, .int .i64 0, .int .i64 0, .int .i64 0, .int .i64 0, .int .i64 0, .int .i64 0, .int .i64 0, .int .i64 0, .int .i64 0, .int .i64 0, .int .i64 0] := HT.out.b2.set_ 0 (.int .i64 s.a)
      have g1 : Blk ((wr.setCell ⟨w.heap.size, 0, none⟩ (.int .i64 s.a)).setCell ⟨w.heap.size, 1, none⟩ (.int .i64 0)) w.heap.size 109 #[.int .i64 s.a, .int .i64 0, .int .i64 0, .int .i64 0, .int .i64 0, .int .i64 0, .int .i64 0, .int .i64 0, .int .i64 0, .int .i64 0, .int .i64 0, .int .i64 0] := g0.set_ 1 (.int .i64 0)
      have g2 : Blk (((wr.setCell ⟨w.heap.size, 0, none⟩ (.int .i64 s.a)).setCell ⟨w.heap.size, 1, none⟩ (.int .i64 0)).setCell ⟨w.heap.size, 2, none⟩ (.int .i64 s.b)) w.heap.size 109 #[.int .i64 s.a, .int .i64 0, .int .i64 s.b, .int .i64 0, .int .i64 0, .int .i64 0, .int .i64 0, .int .i64 0, .int .i64 0, .int .i64 0, .int .i64 0, .int .i64 0] := g1.set_ 2 (.int .i64 s.b)
      have g3 : Blk ((((wr.setCell ⟨w.heap.size, 0, none⟩ (.int .i64 s.a)).setCell ⟨w.heap.size, 1, none⟩ (.int .i64 0)).setCell ⟨w.heap.size, 2, none⟩ (.int .i64 s.b)).setCell ⟨w.heap.size, 3, none⟩ (.int .i64 0)) w.heap.size 109 #[.int .i64 s.a, .int .i64 0, .int .i64 s.b, .int .i64 0, .int .i64 0, .int .i64 0, .int .i64 0, .int .i64 0, .int .i64 0, .int .i64 0, .int .i64 0, .int .i64 0] := g2.set_ 3 (.int .i64 0)
      have g4 : Blk (((((wr.setCell ⟨w.heap.size, 0, none⟩ (.int .i64 s.a)).setCell ⟨w.heap.size, 1, none⟩ (.int .i64 0)).setCell ⟨w.heap.size, 2, none⟩ (.int .i64 s.b)).setCell ⟨w.heap.size, 3, none⟩ (.int .i64 0)).setCell ⟨w.heap.size, 4, none⟩ (.int .i64 s.c)) w.heap.size 109 #[.int .i64 s.a, .int .i64 0, .int .i64 s.b, .int .i64 0, .int .i64 s.c, .int .i64 0, .int .i64 0, .int .i64 0, .int .i64 0, .int .i64 0, .int .i64 0, .int .i64 0] := g3.set_ 4 (.int .i64 s.c)
      have g5 : Blk ((((((wr.setCell ⟨w.heap.size, 0, none⟩ (.int .i64 s.a)).setCell ⟨w.heap.size, 1, none⟩ (.int .i64 0)).setCell ⟨w.heap.size, 2, none⟩ (.int .i64 s.b)).setCell ⟨w.heap.size, 3, none⟩ (.int .i64 0)).setCell ⟨w.heap.size, 4, none⟩ (.int .i64 s.c)).setCell ⟨w.heap.size, 5, none⟩ (.int .i64 0)) w.heap.size 109 #[.int .i64 s.a, .int .i64 0, .int .i64 s.b, .int .i64 0, .int .i64 s.c, .int .i64 0, .int .i64 0, .int .i64 0, .int .i64 0, .int .i64 0, .int .i64 0, .int .i64 0] := g4.set_ 5 (.int .i64 0)
      have g6 : Blk (((((((wr.setCell ⟨w.heap.size, 0, none⟩ (.int .i64 s.a)).setCell ⟨w.heap.size, 1, none⟩ (.int .i64 0)).setCell ⟨w.heap.size, 2, none⟩ (.int .i64 s.b)).setCell ⟨w.heap.size, 3, none⟩ (.int .i64 0)).setCell ⟨w.heap.size, 4, none⟩ (.int .i64 s.c)).setCell ⟨w.heap.size, 5, none⟩ (.int .i64 0)).setCell ⟨w.heap.size, 6, none⟩ (.int .i64 s.d)) w.heap.size 109 #[.int .i64 s.a, .int .i64 0, .int .i64 s.b, .int .i64 0, .int .i64 s.c, .int .i64 0, .int .i64 s.d, .int .i64 0, .int .i64 0, .int .i64 0, .int .i64 0, .int .i64 0] := g5.set_ 6 (.int .i64 s.d)
      have g7 : Blk ((((((((wr.setCell ⟨w.heap.size, 0, none⟩ (.int .i64 s.a)).setCell ⟨w.heap.size, 1, none⟩ (.int .i64 0)).setCell ⟨w.heap.size, 2, none⟩ (.int .i64 s.b)).setCell ⟨w.heap.size, 3, none⟩ (.int .i64 0)).setCell ⟨w.heap.size, 4, none⟩ (.int .i64 s.c)).setCell ⟨w.heap.size, 5, none⟩ (.int .i64 0)).setCell ⟨w.heap.size, 6, none⟩ (.int .i64 s.d)).setCell ⟨w.heap.size, 7, none⟩ (.int .i64 0)) w.heap.size 109 #[.int .i64 s.a, .int .i64 0, .int .i64 s.b, .int .i64 0, .int .i64 s.c, .int .i64 0, .int .i64 s.d, .int .i64 0, .int .i64 0, .int .i64 0, .int .i64 0, .int .i64 0] := g6.set_ 7 (.int .i64 0)
      have g8 : Blk (((((((((wr.setCell ⟨w.heap.size, 0, none⟩ (.int .i64 s.a)).setCell ⟨w.heap.size, 1, none⟩ (.int .i64 0)).setCell ⟨w.heap.size, 2, none⟩ (.int .i64 s.b)).setCell ⟨w.heap.size, 3, none⟩ (.int .i64 0)).setCell ⟨w.heap.size, 4, none⟩ (.int .i64 s.c)).setCell ⟨w.heap.size, 5, none⟩ (.int .i64 0)).setCell ⟨w.heap.size, 6, none⟩ (.int .i64 s.d)).setCell ⟨w.heap.size, 7, none⟩ (.int .i64 0)).setCell ⟨w.heap.size, 8, none⟩ (.int .i64 s.k)) w.heap.size 109 #[.int .i64 s.a, .int .i64 0, .int .i64 s.b, .int .i64 0, .int .i64 s.c, .int .i64 0, .int .i64 s.d, .int .i64 0, .int .i64 s.k, .int .i64 0, .int .i64 0, .int .i64 0] := g7.set_ 8 (.int .i64 s.k)
      have g9 : Blk ((((((((((wr.setCell ⟨w.heap.size, 0, none⟩ (.int .i64 s.a)).setCell ⟨w.heap.size, 1, none⟩ (.int .i64 0)).setCell ⟨w.heap.size, 2, none⟩ (.int .i64 s.b)).setCell ⟨w.heap.size, 3, none⟩ (.int .i64 0)).setCell ⟨w.heap.size, 4, none⟩ (.int .i64 s.c)).setCell ⟨w.heap.size, 5, none⟩ (.int .i64 0)).setCell ⟨w.heap.size, 6, none⟩ (.int .i64 s.d)).setCell ⟨w.heap.size, 7, none⟩ (.int .i64 0)).setCell ⟨w.heap.size, 8, none⟩ (.int .i64 s.k)).setCell ⟨w.heap.size, 9, none⟩ (.int .i64 s.l)) w.heap.size 109 #[.int .i64 s.a, .int .i64 0, .int .i64 s.b, .int .i64 0, .int .i64 s.c, .int .i64 0, .int .i64 s.d, .int .i64 0, .int .i64 s.k, .int .i64 s.l, .int .i64 0, .int .i64 0] := g8.set_ 9 (.int .i64 s.l)
      have g10 : Blk (((((((((((wr.setCell ⟨w.heap.size, 0, none⟩ (.int .i64 s.a)).setCell ⟨w.heap.size, 1, none⟩ (.int .i64 0)).setCell ⟨w.heap.size, 2, none⟩ (.int .i64 s.b)).setCell ⟨w.heap.size, 3, none⟩ (.int .i64 0)).setCell ⟨w.heap.size, 4, none⟩ (.int .i64 s.c)).setCell ⟨w.heap.size, 5, none⟩ (.int .i64 0)).setCell ⟨w.heap.size, 6, none⟩ (.int .i64 s.d)).setCell ⟨w.heap.size, 7, none⟩ (.int .i64 0)).setCell ⟨w.heap.size, 8, none⟩ (.int .i64 s.k)).setCell ⟨w.heap.size, 9, none⟩ (.int .i64 s.l)).setCell ⟨w.heap.size, 10, none⟩ (.int .i64 s.i)) w.heap.size 109 #[.int .i64 s.a, .int .i64 0, .int .i64 s.b, .int .i64 0, .int .i64 s.c, .int .i64 0, .int .i64 s.d, .int .i64 0, .int .i64 s.k, .int .i64 s.l, .int .i64 s.i, .int .i64 0] := g9.set_ 10 (.int .i64 s.i)
      have g11 : Blk ((((((((((((wr.setCell ⟨w.heap.size, 0, none⟩ (.int .i64 s.a)).setCell ⟨w.heap.size, 1, none⟩ (.int .i64 0)).setCell ⟨w.heap.size, 2, none⟩ (.int .i64 s.b)).setCell ⟨w.heap.size, 3, none⟩ (.int .i64 0)).setCell ⟨w.heap.size, 4, none⟩ (.int .i64 s.c)).setCell ⟨w.heap.size, 5, none⟩ (.int .i64 0)).setCell ⟨w.heap.size, 6, none⟩ (.int .i64 s.d)).setCell ⟨w.heap.size, 7, none⟩ (.int .i64 0)).setCell ⟨w.heap.size, 8, none⟩ (.int .i64 s.k)).setCell ⟨w.heap.size, 9, none⟩ (.int .i64 s.l)).setCell ⟨w.heap.size, 10, none⟩ (.int .i64 s.i)).setCell ⟨w.heap.size, 11, none⟩ (.int .i64 0)) w.heap.size 109 #[.int .i64 s.a, .int .i64 0, .int .i64 s.b, .int .i64 0, .int .i64 s.c, .int .i64 0, .int .i64 s.d, .int .i64 0, .int .i64 s.k, .int .i64 s.l, .int .i64 s.i, .int .i64 0] := g10.set_ 11 (.int .i64 0)
      have hb12 := g11
      exact bodyPost_ret (results_cell_row Tryz.results77 _ _ w.heap.size 109 s.cs (0, 0) _ rfl hb12 Tryz.underlying109 rfl size109) rfl ⟨by rw [HE.out], (((((((((((HT.out.below.setCell (Nat.le_refl _) _).setCell (Nat.le_refl _) _).setCell (Nat.le_refl _) _).setCell (Nat.le_refl _) _).setCell (Nat.le_refl _) _).setCell (Nat.le_refl _) _).setCell (Nat.le_refl _) _).setCell (Nat.le_refl _) _).setCell (Nat.le_refl _) _).setCell (Nat.le_refl _) _).setCell (Nat.le_refl _) _).setCell (Nat.le_refl _) _⟩
end Go.Proofs.YtdkclapinedgiaaGreatDoor

namespace Go.Proofs.YtdkclapinedgiaaGreatDoor
open Go.RowKit

theorem isop_any (op : Int) (w : World) : Calls Tryz.prog 75 #[.int .i64 op] w fun e w' => e = .returned (.bool (opnd op).2) ∧ w = w' := by
  have h : (opnd op).2 = (decide (1 ≤ op) && decide (op ≤ 61) || decide (64 ≤ op) && decide (op ≤ 72)) := by
    by_cases hr : (1 ≤ op ∧ op ≤ 61) ∨ (64 ≤ op ∧ op ≤ 72)
    · have hf : ∀ k : Nat, k < 73 → (1 ≤ k ∧ k ≤ 61 ∨ 64 ≤ k) → (opnd (k : Int)).2 = true := by decide +kernel
      obtain ⟨k, rfl⟩ : ∃ k : Nat, op = k := ⟨op.toNat, by omega⟩
      rw [hf k (by omega) (by omega)]
      symm
      simp only [Bool.or_eq_true, Bool.and_eq_true, decide_eq_true_eq]
      omega
    · rw [opnd_no (by omega)]
      symm
      rw [Bool.eq_false_iff]
      simp only [ne_eq, Bool.or_eq_true, Bool.and_eq_true, decide_eq_true_eq]
      omega
  rw [h]
  clear h
  go_enter Tryz.func75, Tryz.ntmps75
  go_wp2
  all_goals go_ret
  all_goals (refine ⟨?_, rfl⟩; simp_all <;> omega)

theorem size111 : (Tryz.prog.info? 111).map (·.size) = some 6 := by kernel_rfl
def Insn.vals (x : Insn) : Array Value := #[.int .i64 x.a, .int .i64 x.b, .int .i64 x.c, .int .i64 x.d, .int .i64 x.k, .int .i64 x.i]
set_option maxRecDepth 100000 in
set_option maxHeartbeats 4000000 in
theorem values_any (x : Insn) (i0 : 0 ≤ x.i) (i1 : x.i < 4294967296) (w : World) : Calls Tryz.prog 78 #[.agg x.cs] w fun e w' => e = .returned (.agg x.vals) ∧ Below w.heap.size w w' := by
  have hw : IntKind.i64.wrap x.i = x.i := by rw [IntKind.wrap_i64]; omega
  unfold Insn.cs
  go_enter Tryz.func78, Tryz.ntmps78
  go_wp2_with fail
  exact bodyPost_ret (results_cell_row Tryz.results78 _ _ (w.heap.size + 1) 111 x.vals (0, 0) _ rfl (blk_at _ (w.heap.size + 1) 111 _ (by simp)) Tryz.underlying111 rfl size111) rfl ⟨rfl, ((Below.refl _ w).alloc (Nat.le_refl _) _).alloc (by simp) _⟩

/-- The reference's sizes are the room's. -/
def SzIs (l : List UInt8 × Bool) : Prop :=
  let r := l.1.foldl Room.step room0
  let z := (l.1.map kindOf).foldl Sz.step sz0
  z.a = r.a + 1 ∧ z.b = r.b + 1 ∧ z.c = r.c + 1 ∧ z.d = r.d + 1 ∧ z.k = (if r.k then 256 else 1) ∧ z.l = (if r.k then -128 else 0) ∧ z.i = (if r.i then 4294967296 else 1) ∧
  0 ≤ r.a ∧ r.a ≤ 15 ∧ 0 ≤ r.b ∧ r.b ≤ 15 ∧ 0 ≤ r.c ∧ r.c ≤ 15 ∧ 0 ≤ r.d ∧ r.d ≤ 15
set_option maxRecDepth 100000 in
theorem sz_is (op : Int) : SzIs (opnd op) := by
  unfold opnd vecs
  repeat' (refine ite_P (P := SzIs) ?_ ?_)
  all_goals (unfold SzIs; decide +kernel)
/-- Whether each field is one of the values that it may have. -/
def Sz.ok (z : Sz) (x : Insn) : Bool :=
  decide (0 ≤ x.a ∧ x.a < z.a) && decide (0 ≤ x.b ∧ x.b < z.b) && decide (0 ≤ x.c ∧ x.c < z.c) && decide (0 ≤ x.d ∧ x.d < z.d) && decide (z.l ≤ x.k ∧ x.k < z.l + z.k) && decide (0 ≤ x.i ∧ x.i < z.i)
theorem valid_ok (x : Insn) (i0 : 0 ≤ x.i) (i1 : x.i < 4294967296) : x.valid = ((opnd x.op).2 && (szOf x.op).ok x) := by
  obtain ⟨ha, hb, hc, hd, hk, hl, hi, _⟩ := sz_is x.op
  have e : (List.map kindOf (opnd x.op).1).foldl Sz.step sz0 = szOf x.op := rfl
  have er : List.foldl Room.step room0 (opnd x.op).1 = roomOf x.op := rfl
  rw [e, er] at ha hb hc hd hk hl hi
  unfold Insn.valid
  congr 1
  unfold Sz.ok Room.has within
  rw [ha, hb, hc, hd, hk, hl, hi, Bool.eq_iff_iff]
  simp only [Bool.and_eq_true, Bool.or_eq_true, decide_eq_true_eq, beq_iff_eq]
  rcases h1 : (roomOf x.op).k with _ | _ <;> rcases h2 : (roomOf x.op).i with _ | _ <;> simp <;> omega
end Go.Proofs.YtdkclapinedgiaaGreatDoor

namespace Go.Proofs.YtdkclapinedgiaaGreatDoor
open Go.RowKit

theorem below_dn {B : Nat} {a w : World} (h : Below B a w) (n : Nat) : Below B a (w.drewN n) := ⟨h.os, h.tape, h.output, h.size, h.block⟩
/-- What the walk knows: the sizes and the values lie in their boxes. -/
structure IsAt (w : World) (g1 g2 : Nat) (z : Sz) (x : Insn) (W : World) : Prop where
  below : Below w.heap.size w W
  b1 : Blk W g1 109 z.cs
  b2 : Blk W g2 111 x.vals
theorem IsAt.drew {w W : World} {g1 g2 : Nat} {z : Sz} {x : Insn} (h : IsAt w g1 g2 z x W) (q : Nat) : IsAt w g1 g2 z x (W.drewN q) := ⟨below_dn h.below q, h.b1, h.b2⟩

set_option maxRecDepth 100000 in
set_option maxHeartbeats 40000000 in
theorem is_walk (x : Insn) (z : Sz) (b0 : Bool) (w : World)
    (hO : ∀ W, Calls Tryz.prog 75 #[.int .i64 x.op] W fun e w' => e = .returned (.bool b0) ∧ W = w') (hS : ∀ W, Calls Tryz.prog 77 #[.int .i64 x.op] W fun e w' => e = .returned (.agg z.cs) ∧ Below W.heap.size W w')
    (hV : ∀ W, Calls Tryz.prog 78 #[.agg x.cs] W fun e w' => e = .returned (.agg x.vals) ∧ Below W.heap.size W w')
    (za : 1 ≤ z.a ∧ z.a ≤ 16) (zb : 1 ≤ z.b ∧ z.b ≤ 16) (zc : 1 ≤ z.c ∧ z.c ≤ 16) (zd : 1 ≤ z.d ∧ z.d ≤ 16) (zk : 1 ≤ z.k ∧ z.k ≤ 256) (zl : -128 ≤ z.l ∧ z.l ≤ 0) (zi : 1 ≤ z.i ∧ z.i ≤ 4294967296) :
    Calls Tryz.prog 60 #[.agg x.cs] w fun e w' => e = .returned (.bool (b0 && z.ok x)) ∧ Below w.heap.size w w' := by
  have wa : IntKind.i64.wrap z.a = z.a := by rw [IntKind.wrap_i64]; omega
  have wb : IntKind.i64.wrap z.b = z.b := by rw [IntKind.wrap_i64]; omega
  have wc : IntKind.i64.wrap z.c = z.c := by rw [IntKind.wrap_i64]; omega
  have wd : IntKind.i64.wrap z.d = z.d := by rw [IntKind.wrap_i64]; omega
  have wk : IntKind.i64.wrap (z.l + z.k) = z.l + z.k := by rw [IntKind.wrap_i64]; omega
  have wi : IntKind.i64.wrap z.i = z.i := by rw [IntKind.wrap_i64]; omega
  clear za zb zc zd zk zl zi
  have HO := Lib.hid hO
  have HS := Lib.hid hS
  have HV := Lib.hid hV
  clear hO hS hV
  unfold Insn.cs at HV ⊢
  unfold Sz.cs at HS
  unfold Insn.vals at HV
  go_enter Tryz.func60, Tryz.ntmps60
  go_wp2_with fail
  refine (HO.out _).mono ?_
  rintro e w1 ⟨rfl, rfl⟩
  rcases b0 with _ | _
  · go_wp2_with fail
    go_ret
    exact ⟨rfl, (Below.refl _ w).alloc (Nat.le_refl _) _⟩
  go_wp2_with fail
  refine (HS.out _).mono ?_
  rintro e w2 ⟨rfl, hb⟩
  have hbx : Blk w2 w.heap.size 24 x.cs := (Blk.new w 24 x.cs).call hb
  have hbl : Below w.heap.size w w2 := ((Below.refl _ w).alloc (Nat.le_refl _) _).call hb (by simp)
  obtain ⟨a0, a1, a2, a3, a4, a5, a6, a7, a8, a9, a10, a11, a12, a13⟩ := (hbx.alloc (.cells z.cs 109)).facts7
  have HB := Lib.hid hbl
  clear a7 a8 a9 a10 a11 a12 a13 hb hbx hbl HO HS
  unfold Sz.cs at a0 a1 a2 a3 a4 a5 a6
  go_wp2_with fail
  refine (HV.out _).mono ?_
  rintro e w3 ⟨rfl, hb⟩
  have H0 : IsAt w w2.heap.size w3.heap.size z x (w3.alloc (.cells x.vals 111)) :=
    ⟨((HB.out.alloc HB.out.size _).call hb (by have := HB.out.size; simp; omega)).alloc (by have := HB.out.size; have := hb.size; simp at this; omega) _, ((Blk.new w2 109 z.cs).call hb).alloc _, Blk.new w3 111 _⟩
  clear a0 a1 a2 a3 a4 a5 a6 hb HV HB
  obtain ⟨uc0, uc1, uc2, uc3, uc4, uc5, uc6, uc7, uc8, uc9, uc10, uc11, uf0, uf1, uf2, uf3, uf4, uf5, uf6, uf7, uf8, uf9, uf10, uf11⟩ := H0.b1.facts12
  obtain ⟨vc0, vc1, vc2, vc3, vc4, vc5, vf0, vf1, vf2, vf3, vf4, vf5⟩ := H0.b2.facts6
  have HB := Lib.hid H0.below
  clear uf0 uf1 uf2 uf3 uf4 uf5 uf6 uf7 uf8 uf9 uf10 uf11 vf0 vf1 vf2 vf3 vf4 vf5 H0
  unfold Insn.vals at uc0 uc1 uc2 uc3 uc4 uc5 uc6 uc7 uc8 uc9 uc10 uc11 vc0 vc1 vc2 vc3 vc4 vc5
  go_wp2_with fail
  refine wp_loop_rounds 7 ?_
  rw [rounds_succ]
  by_cases p0 : x.a < 0
  · go_wp2_with fail
    go_quiet (fail)
    go_wp2_with fail
    go_ret
    exact ⟨by rw [show z.ok x = false from Bool.eq_false_iff.2 (fun h => by unfold Sz.ok at h; simp only [Bool.and_eq_true, decide_eq_true_eq] at h; omega)]; rfl, by first | exact below_dn HB.out _ | exact below_dn (below_dn HB.out _) _⟩
  by_cases q0 : z.a ≤ x.a
  · go_wp2_with fail
    go_quiet (fail)
    go_wp2_with fail
    go_ret
    exact ⟨by rw [show z.ok x = false from Bool.eq_false_iff.2 (fun h => by unfold Sz.ok at h; simp only [Bool.and_eq_true, decide_eq_true_eq] at h; omega)]; rfl, by first | exact below_dn HB.out _ | exact below_dn (below_dn HB.out _) _⟩
  go_wp2_with fail
  go_quiet (fail)
  go_wp2_with fail
  rw [rounds_succ]
  by_cases p1 : x.b < 0
  · go_wp2_with fail
    go_quiet (fail)
    go_wp2_with fail
    go_ret
    exact ⟨by rw [show z.ok x = false from Bool.eq_false_iff.2 (fun h => by unfold Sz.ok at h; simp only [Bool.and_eq_true, decide_eq_true_eq] at h; omega)]; rfl, by first | exact below_dn HB.out _ | exact below_dn (below_dn HB.out _) _⟩
  by_cases q1 : z.b ≤ x.b
  · go_wp2_with fail
    go_quiet (fail)
    go_wp2_with fail
    go_ret
    exact ⟨by rw [show z.ok x = false from Bool.eq_false_iff.2 (fun h => by unfold Sz.ok at h; simp only [Bool.and_eq_true, decide_eq_true_eq] at h; omega)]; rfl, by first | exact below_dn HB.out _ | exact below_dn (below_dn HB.out _) _⟩
  go_wp2_with fail
  go_quiet (fail)
  go_wp2_with fail
  rw [rounds_succ]
  by_cases p2 : x.c < 0
  · go_wp2_with fail
    go_quiet (fail)
    go_wp2_with fail
    go_ret
    exact ⟨by rw [show z.ok x = false from Bool.eq_false_iff.2 (fun h => by unfold Sz.ok at h; simp only [Bool.and_eq_true, decide_eq_true_eq] at h; omega)]; rfl, by first | exact below_dn HB.out _ | exact below_dn (below_dn HB.out _) _⟩
  by_cases q2 : z.c ≤ x.c
  · go_wp2_with fail
    go_quiet (fail)
    go_wp2_with fail
    go_ret
    exact ⟨by rw [show z.ok x = false from Bool.eq_false_iff.2 (fun h => by unfold Sz.ok at h; simp only [Bool.and_eq_true, decide_eq_true_eq] at h; omega)]; rfl, by first | exact below_dn HB.out _ | exact below_dn (below_dn HB.out _) _⟩
  go_wp2_with fail
  go_quiet (fail)
  go_wp2_with fail
  rw [rounds_succ]
  by_cases p3 : x.d < 0
  · go_wp2_with fail
    go_quiet (fail)
    go_wp2_with fail
    go_ret
    exact ⟨by rw [show z.ok x = false from Bool.eq_false_iff.2 (fun h => by unfold Sz.ok at h; simp only [Bool.and_eq_true, decide_eq_true_eq] at h; omega)]; rfl, by first | exact below_dn HB.out _ | exact below_dn (below_dn HB.out _) _⟩
  by_cases q3 : z.d ≤ x.d
  · go_wp2_with fail
    go_quiet (fail)
    go_wp2_with fail
    go_ret
    exact ⟨by rw [show z.ok x = false from Bool.eq_false_iff.2 (fun h => by unfold Sz.ok at h; simp only [Bool.and_eq_true, decide_eq_true_eq] at h; omega)]; rfl, by first | exact below_dn HB.out _ | exact below_dn (below_dn HB.out _) _⟩
  go_wp2_with fail
  go_quiet (fail)
  go_wp2_with fail
  rw [rounds_succ]
  by_cases p4 : x.k < z.l
  · go_wp2_with fail
    go_quiet (fail)
    go_wp2_with fail
    go_ret
    exact ⟨by rw [show z.ok x = false from Bool.eq_false_iff.2 (fun h => by unfold Sz.ok at h; simp only [Bool.and_eq_true, decide_eq_true_eq] at h; omega)]; rfl, by first | exact below_dn HB.out _ | exact below_dn (below_dn HB.out _) _⟩
  by_cases q4 : z.l + z.k ≤ x.k
  · go_wp2_with fail
    go_quiet (fail)
    go_wp2_with fail
    go_ret
    exact ⟨by rw [show z.ok x = false from Bool.eq_false_iff.2 (fun h => by unfold Sz.ok at h; simp only [Bool.and_eq_true, decide_eq_true_eq] at h; omega)]; rfl, by first | exact below_dn HB.out _ | exact below_dn (below_dn HB.out _) _⟩
  go_wp2_with fail
  go_quiet (fail)
  go_wp2_with fail
  rw [rounds_succ]
  by_cases p5 : x.i < 0
  · go_wp2_with fail
    go_quiet (fail)
    go_wp2_with fail
    go_ret
    exact ⟨by rw [show z.ok x = false from Bool.eq_false_iff.2 (fun h => by unfold Sz.ok at h; simp only [Bool.and_eq_true, decide_eq_true_eq] at h; omega)]; rfl, by first | exact below_dn HB.out _ | exact below_dn (below_dn HB.out _) _⟩
  by_cases q5 : z.i ≤ x.i
  · go_wp2_with fail
    go_quiet (fail)
    go_wp2_with fail
    go_ret
    exact ⟨by rw [show z.ok x = false from Bool.eq_false_iff.2 (fun h => by unfold Sz.ok at h; simp only [Bool.and_eq_true, decide_eq_true_eq] at h; omega)]; rfl, by first | exact below_dn HB.out _ | exact below_dn (below_dn HB.out _) _⟩
  go_wp2_with fail
  go_quiet (fail)
  go_wp2_with fail
  rw [rounds_succ]
  go_wp2_with fail
  go_ret
  exact ⟨by rw [show z.ok x = true from by unfold Sz.ok; simp only [Bool.and_eq_true, decide_eq_true_eq]; omega]; rfl, by first | exact below_dn HB.out _ | exact below_dn (below_dn HB.out _) _⟩

theorem is_any (x : Insn) (i0 : 0 ≤ x.i) (i1 : x.i < 4294967296) (w : World) : Calls Tryz.prog 60 #[.agg x.cs] w fun e w' => e = .returned (.bool x.valid) ∧ Below w.heap.size w w' := by
  obtain ⟨ha, hb, hc, hd, hk, hl, hi, ra, ra', rb, rb', rc, rc', rd, rd'⟩ := sz_is x.op
  have e : (List.map kindOf (opnd x.op).1).foldl Sz.step sz0 = szOf x.op := rfl
  rw [e] at ha hb hc hd hk hl hi
  rw [valid_ok x i0 i1]
  refine is_walk x (szOf x.op) (opnd x.op).2 w (fun W => isop_any x.op W) (fun W => sizes_any x.op W) (fun W => values_any x i0 i1 W) (by omega) (by omega) (by omega) (by omega) ?_ ?_ ?_
  · rw [hk]; split <;> omega
  · rw [hl]; split <;> omega
  · rw [hi]; split <;> omega
theorem rcheck_any (x : Insn) (i0 : 0 ≤ x.i) (i1 : x.i < 4294967296) (w : World) : Calls Tryz.prog 32 #[.agg x.cs] w fun e w' => e = .returned (.int .i64 (if x.valid then 0 else 6)) ∧ Below w.heap.size w w' := by
  have hh := Lib.hid (fun W => is_any x i0 i1 W)
  unfold Insn.cs at hh ⊢
  clear i0 i1
  go_enter Tryz.func32, Tryz.ntmps32
  go_wp2_with (go_at_call 60; refine (hh.out _).mono ?_; rintro e w2 ⟨rfl, hb2⟩)
  all_goals
    go_ret
    exact ⟨by simp_all, ((Below.refl _ w).alloc (Nat.le_refl _) _).call hb2 (by simp)⟩
end Go.Proofs.YtdkclapinedgiaaGreatDoor
