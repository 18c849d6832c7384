/- Contracts: slices.Grow of nil and slices.Concat of two slices of bytes. -/
/- Plain laws: the bytes of an instruction, with anything behind them, are read as this instruction; what was read are the bytes of an instruction. No program in sight. -/
/- Contract: IsaPrefix of the law's package (function 12): true, whatever the input. -/
import Derived.Test.YtdkclapinedgiaaGreatDoorC7
import Derived.Lib.AppendZerosOnto
import Derived.Lib.SliceRun
import Derived.Lib.Walk
import Derived.Test.YtdkclapinedgiaaGreatDoorS5
import Derived.Laws.StructEq

namespace Go.Proofs.YtdkclapinedgiaaGreatDoor
open Go.RowKit

theorem info5 : (Tryz.prog.info? 5).map (fun i => (i.zero, i.size, i.bytes)) = some (some (.int .u8 0), 1, 1) := by kernel_rfl

theorem grow_0 (w : World) : Calls Tryz.prog 90 #[.slice none 0 0, .int .i64 0] w fun e w' => e = .returned (.slice none 0 0) ∧ w' = w := by
  go_enter Tryz.func90, Tryz.ntmps90
  go_wp2
  go_ret
  exact ⟨rfl, rfl⟩
set_option maxRecDepth 100000 in
set_option maxHeartbeats 4000000 in
theorem grow_n (n : Nat) (hn : 0 < n) (hb : n ≤ 140737488355328) (w : World) : Calls Tryz.prog 90 #[.slice none 0 0, .int .i64 n] w fun e w' =>
    ∃ k, e = .returned (.slice (some ⟨w.heap.size, 0, none⟩) 0 k) ∧ n ≤ k ∧ k ≤ maxLen ∧ w'.ownsRow w.heap.size 5 1 (.slice (some ⟨w.heap.size, 0, none⟩) 0 k) 0 [] ∧ w.grownBy w' none := by
  obtain ⟨i, hi, hz, hs, hby⟩ := info_parts info5
  have hold : (Builtin.firstCells i.size 0 (.slice none 0 0)).run Tryz.prog w.drew = .ok (#[] : Array Value) w.drew := run_firstCells_none w.drew i.size 0 0 0
  have hfit : Builtin.nextslicecap (0 + n) 0 * i.bytes ≤ 281474976710656 := growslice_fits (by omega) (by rw [hby]; omega)
  have hrz : ∀ ty, (Builtin.append_ #[44, 3] ty #[.slice none 0 0, .int .i64 (n : Int)]).run Tryz.prog w = _ := fun ty =>
    Lib.run_append_grow_zeros w 44 3 ty 5 i (.int .u8 0) .i64 .i64 Tryz.underlying44 Tryz.underlying3 hi hz none 0 0 [] hold n hn (by omega) (by omega) (by omega) (by rw [hby]; omega) hfit
  have hge := grownCap_ge w (0 + n) 0 5
  have hle := grownCap_le_maxLen w (0 + n) 0 5 (by unfold maxLen; omega)
  obtain ⟨G, hG⟩ : ∃ G, G = grownCap w (0 + n) 0 5 := ⟨_, rfl⟩
  rw [← hG] at hge hle
  simp only [← hG] at hrz
  have hG63 : G ≤ 9223372036854775807 := by unfold maxLen at hle; omega
  have h1 : ¬ ((n : Int) < 0) := by omega
  have h2 : wrap64 ((0 : Int) - 0) = 0 := by kernel_rfl
  have h3 : wrap64 ((n : Int) - 0) = (n : Int) := by unfold wrap64; omega
  have h4 : (n : Int) > 0 := by omega
  clear hold hfit
  go_enter Tryz.func90, Tryz.ntmps90
  go_wp2_with (at_builtin; refine Lib.wpList_append_run _ rfl _ _ _ _ rfl _ _ rfl rfl _ _ (hrz _) ?_)
  go_ret
  rw [Nat.zero_add] at hG hge
  subst hG
  refine ⟨_, rfl, hge, hle, ⟨rfl, .inr ⟨w.heap.size, _, _, rfl, Nat.le_refl _, heap_alloc_new w _, Nat.zero_le _, hle, ?_, rfl⟩⟩, ?_⟩
  · simp only [Array.size_append, size_zeroCells]
    simp
    omega
  · exact ⟨rfl, rfl, rfl, by simp, fun k hk _ => heap_alloc_old w _ hk⟩

theorem append_0 (A : Option Addr) (c : Nat) (ty : TypeId) (W : World) : (Builtin.append_ #[44, 44] ty #[.slice none 0 0, .slice A 0 c]).run Tryz.prog W = .ok (.slice none 0 0) W := by
  obtain ⟨i, hi, hz, hs, hby⟩ := info_parts info5
  cases A with
  | none =>
    have h := run_firstCells_none (P := Tryz.prog) W i.size 0 0 c
    simp [Builtin.append_, run_underlying Tryz.underlying44, sizeOf, typeInfo, hi, Builtin.lenOf, h]
  | some a =>
    have h := run_firstCells_some (P := Tryz.prog) W i.size 0 a 0 c [] (by simp) (by simp)
    simp [Builtin.append_, run_underlying Tryz.underlying44, sizeOf, typeInfo, hi, Builtin.lenOf, h]
theorem grow_z (z : Int) (n : Nat) (hz : z = n) (hn : 0 < n) (hb : n ≤ 140737488355328) (w : World) : Calls Tryz.prog 90 #[.slice none 0 0, .int .i64 z] w fun e w' =>
    ∃ k, e = .returned (.slice (some ⟨w.heap.size, 0, none⟩) 0 k) ∧ n ≤ k ∧ k ≤ maxLen ∧ w'.ownsRow w.heap.size 5 1 (.slice (some ⟨w.heap.size, 0, none⟩) 0 k) 0 [] ∧ w.grownBy w' none := by
  subst hz; exact grow_n n hn hb w

theorem below_grown {w w' : World} {row : Option Nat} {B : Nat} (h : w.grownBy w' row) (hB : B ≤ w.heap.size) (hr : ∀ g, row = some g → B ≤ g) : Below B w w' :=
  ⟨h.os, h.tape, h.output, h.size, fun k hk => h.block k (by omega) (fun e => absurd (hr k e.symm) (by omega))⟩
theorem Reads.cells_any {w : World} {B n : Nat} {A : Option Addr} {xs : List Value} (h : Reads w B 1 A n xs) (ad : Addr) (hA : A = some ad) (j : Nat) (u : Value) (hj : xs[j]? = some u) : w.cell? (ad.add j) = some u := by
  have hn : 0 < n := by
    have h1 := h.1
    have h2 := (List.getElem?_eq_some_iff.1 hj).1
    omega
  obtain ⟨ad', e, _, hc⟩ := h.2 hn
  rw [hA] at e
  cases e
  exact hc j u hj
theorem u8s_one (l : List Int) : ∀ u ∈ u8s l, u.oneCell' = true := by
  intro u hu
  unfold u8s at hu
  obtain ⟨x, _, rfl⟩ := List.mem_map.1 hu
  rfl

/-- slices.Concat of two slices: the bytes of both. -/
def ConcatPost (w : World) (n : Nat) (xs : List Int) (e : Ending) (w' : World) : Prop :=
  (∃ A k, e = .returned (.slice A n k) ∧ n ≤ k ∧ Reads w' w'.heap.size 1 A n (u8s xs)) ∧ Below w.heap.size w w'

set_option maxRecDepth 100000 in
set_option maxHeartbeats 4000000 in
theorem concat_n (g : Nat) (A B : Option Addr) (n m c d : Nat) (l r : List Int) (w : World) (hg : Blk w g 44 #[.slice A n c, .slice B m d])
    (hl : Reads w w.heap.size 1 A n (u8s l)) (hr : Reads w w.heap.size 1 B m (u8s r)) (hA : A = none → n = 0 ∧ c = 0) (hB : B = none → m = 0 ∧ d = 0)
    (h0 : 0 < n + m) (hs : n + m ≤ 140737488355328) : Calls Tryz.prog 51 #[.slice (some ⟨g, 0, none⟩) 2 2] w (ConcatPost w (n + m) (l ++ r)) := by
  have HL := Lib.hid hl
  have HR := Lib.hid hr
  have HA := Lib.hid hA
  have HB := Lib.hid hB
  have HG := Lib.hid hg
  have c0 := hg.cell 0
  have c1 := hg.cell 1
  simp at c0 c1
  have hgs := hg.lt
  have hgr := Lib.hid (fun W => grow_z ((n : Int) + m) (n + m) (by omega) h0 hs W)
  have f0 : wrap64 (n : Int) = n := by unfold wrap64; omega
  have f1 : wrap64 ((n : Int) + m) = (n : Int) + m := by unfold wrap64; omega
  have f2 : ¬ ((n : Int) < 0) := by omega
  have f3 : ¬ ((n : Int) + m < 0) := by omega
  clear hl hr hA hB hg h0 hs
  go_enter Tryz.func51, Tryz.ntmps51
  go_wp2_with fail
  refine wp_loop_rounds 3 ?_
  rw [rounds_succ]
  go_wp2_with fail
  rw [rounds_succ]
  go_wp2_with fail
  rw [rounds_succ]
  go_wp2_with fail
  refine (hgr.out _).mono ?_
  rintro e w1 ⟨k, rfl, hk, hkm, hown, hgrow⟩
  have hb1 : Below w.heap.size w w1 := below_grown hgrow (Nat.le_refl _) (fun _ h => by cases h)
  replace c0 := (hb1.cell (p := ⟨g, 0, none⟩) hgs).trans c0
  have c1' := c1
  replace c1 := (hb1.cell (p := ⟨g, 1, none⟩) hgs).trans c1
  obtain ⟨i, hi, hz, hs, hby⟩ := info_parts info5
  have HO := Lib.hid hown
  have HB1 := Lib.hid hb1
  clear f0 f1 f2 f3 hgr hown hgrow hb1 hz hby
  have HL1 := Lib.hid (HL.out.below HB1.out)
  have hln : (u8s l).length = n * 1 := HL.out.1
  have hrm : (u8s r).length = m * 1 := HR.out.1
  go_wp2_with fail
  refine wp_loop_rounds 3 ?_
  rw [rounds_succ]
  go_wp2_with (at_builtin; refine wpList_append_fits_any _ rfl _ _ 44 rfl w.heap.size 5 i 1 Tryz.underlying44 hi hs w.heap.size 0 k [] rfl HO.out A n c (u8s l) rfl hln HA.out HL1.out.cells_any (u8s_one l) (by omega) ?_; intro w2 hown2 hgrow2)
  have hb2 : Below w.heap.size w w2 := HB1.out.trans (below_grown hgrow2 (by have := HB1.out.size; omega) (fun _ h => by cases h; exact Nat.le_refl _))
  replace c1 := (hb2.cell (p := ⟨g, 1, none⟩) hgs).trans c1'
  rw [Nat.zero_add, List.nil_append] at hown2
  have HO2 := Lib.hid hown2
  have HB2 := Lib.hid hb2
  have HR2 := Lib.hid (HR.out.below hb2)
  clear hown2 hgrow2 hb2 c0 HO HB1 HL1
  rw [rounds_succ]
  go_wp2_with (at_builtin; refine wpList_append_fits_any _ rfl _ _ 44 rfl w.heap.size 5 i 1 Tryz.underlying44 hi hs w.heap.size n k (u8s l) rfl HO2.out B m d (u8s r) rfl hrm HB.out HR2.out.cells_any (u8s_one r) (by omega) ?_; intro w3 hown3 hgrow3)
  have hb3 : Below w.heap.size w w3 := HB2.out.trans (below_grown hgrow3 (by have := HB2.out.size; omega) (fun _ h => by cases h; exact Nat.le_refl _))
  have e3 : u8s l ++ u8s r = u8s (l ++ r) := List.map_append.symm
  rw [e3] at hown3
  have HO3 := Lib.hid hown3
  have HB3 := Lib.hid hb3
  clear hown3 hgrow3 hb3 c1 HO2 HB2 HR2
  rw [rounds_succ]
  go_wp2_with fail
  go_ret
  exact ⟨⟨_, k, rfl, hk, Reads.of_own HO3.out⟩, HB3.out⟩

set_option maxRecDepth 100000 in
set_option maxHeartbeats 4000000 in
theorem concat_0 (g : Nat) (A B : Option Addr) (c d : Nat) (w : World) (hg : Blk w g 44 #[.slice A 0 c, .slice B 0 d]) :
    Calls Tryz.prog 51 #[.slice (some ⟨g, 0, none⟩) 2 2] w (ConcatPost w 0 []) := by
  have c0 := hg.cell 0
  have c1 := hg.cell 1
  simp at c0 c1
  have hgs := hg.lt
  clear hg
  go_enter Tryz.func51, Tryz.ntmps51
  go_wp2_with fail
  refine wp_loop_rounds 3 ?_
  rw [rounds_succ]
  go_wp2_with fail
  rw [rounds_succ]
  go_wp2_with fail
  rw [rounds_succ]
  go_wp2_with fail
  refine (grow_0 _).mono ?_
  rintro e w1 ⟨rfl, rfl⟩
  go_wp2_with fail
  refine wp_loop_rounds 3 ?_
  rw [rounds_succ]
  go_wp2_with (at_builtin; refine Lib.wpList_append_run _ rfl _ _ _ _ rfl _ _ rfl rfl _ _ (append_0 _ _ _ _) ?_)
  rw [rounds_succ]
  go_wp2_with (at_builtin; refine Lib.wpList_append_run _ rfl _ _ _ _ rfl _ _ rfl rfl _ _ (append_0 _ _ _ _) ?_)
  rw [rounds_succ]
  go_wp2_with fail
  go_ret
  exact ⟨⟨none, 0, rfl, Nat.le_refl _, Reads.none_⟩, Below.refl _ _⟩

theorem concat_any (g : Nat) (A B : Option Addr) (n m c d : Nat) (l r : List Int) (w : World) (hg : Blk w g 44 #[.slice A n c, .slice B m d])
    (hl : Reads w w.heap.size 1 A n (u8s l)) (hr : Reads w w.heap.size 1 B m (u8s r)) (hA : A = none → n = 0 ∧ c = 0) (hB : B = none → m = 0 ∧ d = 0)
    (hs : n + m ≤ 140737488355328) : Calls Tryz.prog 51 #[.slice (some ⟨g, 0, none⟩) 2 2] w (ConcatPost w (n + m) (l ++ r)) := by
  by_cases h0 : 0 < n + m
  · exact concat_n g A B n m c d l r w hg hl hr hA hB h0 hs
  · obtain rfl : n = 0 := by omega
    obtain rfl : m = 0 := by omega
    have h1 := hl.1
    have h2 := hr.1
    simp [u8s] at h1 h2
    subst h1 h2
    exact concat_0 g A B c d w hg
end Go.Proofs.YtdkclapinedgiaaGreatDoor

namespace Go.Proofs.YtdkclapinedgiaaGreatDoor

theorem room_i (op : Int) : (opnd op).2 = true → op < 64 → (roomOf op).i = false := by
  unfold roomOf opnd vecs
  repeat' (refine ite_Q (P := fun l : List UInt8 × Bool => l.2 = true → op < 64 → (l.1.foldl Room.step room0).i = false) (fun _ => ?_) (fun _ => ?_))
  all_goals (intro h h2; first | omega | rfl | decide)

theorem dec4_of {x : Insn} (ok : x.Ok) (i : Int) : dec4 x.op (x.a + 16 * x.b) (x.c + 16 * x.d) (x.k % 256) i = ⟨x.op, x.a, x.b, x.c, x.d, x.k, i⟩ := by
  have ha := ok.a
  have hb := ok.b
  have hc := ok.c
  have hd := ok.d
  have hk := ok.k
  have e1 : (x.a + 16 * x.b) % 16 = x.a := by omega
  have e2 : (x.a + 16 * x.b) / 16 = x.b := by omega
  have e3 : (x.c + 16 * x.d) % 16 = x.c := by omega
  have e4 : (x.c + 16 * x.d) / 16 = x.d := by omega
  have e5 : s8 (x.k % 256) = x.k := by unfold s8; split <;> omega
  unfold dec4
  rw [e1, e2, e3, e4, e5]
theorem valid_i {x : Insn} (hv : x.valid = true) (h : x.op < 64) : x.i = 0 := by
  have hr := room_i x.op (Insn.ok hv).is h
  unfold Insn.valid Room.has at hv
  rw [hr] at hv
  simp at hv
  omega
theorem decode_bytes {x : Insn} (hv : x.valid = true) (i0 : 0 ≤ x.i) (i1 : x.i < 4294967296) (rest : List Int) : decode (x.bytes ++ rest) = (x, (x.bytes.length : Int), 0) := by
  have ok := Insn.ok hv
  by_cases h : x.op < 64
  · have e : x.bytes = [x.op, x.a + 16 * x.b, x.c + 16 * x.d, x.k % 256] := by unfold Insn.bytes; rw [if_neg (by omega)]; rfl
    have hi := valid_i hv h
    have ex : dec4 x.op (x.a + 16 * x.b) (x.c + 16 * x.d) (x.k % 256) 0 = x := by rw [dec4_of ok]; rw [← hi]
    rw [e]
    show (if x.op < 64 then _ else _) = _
    rw [if_pos h, ex, if_pos hv]
    rfl
  · have e : x.bytes = [x.op, x.a + 16 * x.b, x.c + 16 * x.d, x.k % 256, x.i % 256, x.i / 256 % 256, x.i / 65536 % 256, x.i / 16777216 % 256] := by unfold Insn.bytes; rw [if_pos (by omega)]; rfl
    have ei : x.i % 256 + 256 * (x.i / 256 % 256) + 65536 * (x.i / 65536 % 256) + 16777216 * (x.i / 16777216 % 256) = x.i := by omega
    have ex : dec4 x.op (x.a + 16 * x.b) (x.c + 16 * x.d) (x.k % 256) (x.i % 256 + 256 * (x.i / 256 % 256) + 65536 * (x.i / 65536 % 256) + 16777216 * (x.i / 16777216 % 256)) = x := by rw [ei, dec4_of ok]
    rw [e]
    show (if x.op < 64 then _ else if (dec4 _ _ _ _ _).valid then _ else _) = _
    rw [if_neg h, ex, if_pos hv]
    rfl

theorem decode_err (l : List Int) : (decode l).2.2 = 0 ∨ decode l = (insn0, 0, 6) := by
  unfold decode
  split
  · split
    · split
      · exact Or.inl rfl
      · exact Or.inr rfl
    · split
      · split
        · exact Or.inl rfl
        · exact Or.inr rfl
      · exact Or.inr rfl
  · exact Or.inr rfl

/-- What is known of bytes that begin with an instruction. -/
structure ReadIs (l : List Int) (n : Nat) : Prop where
  len : (decode l).2.1 = n
  le : n ≤ l.length
  valid : (decode l).1.valid = true
  bytes : (decode l).1.bytes = l.take n
  size : (decode l).1.bytes.length = n
  i : 0 ≤ (decode l).1.i ∧ (decode l).1.i < 4294967296
theorem bytes_decode (l : List Int) (hb : Bytes l) (h : (decode l).2.2 = 0) : ∃ n, ReadIs l n := by
  match l with
  | [] => exact absurd h (show ¬ ((6 : Int) = 0) by decide)
  | [_] => exact absurd h (show ¬ ((6 : Int) = 0) by decide)
  | [_, _] => exact absurd h (show ¬ ((6 : Int) = 0) by decide)
  | [_, _, _] => exact absurd h (show ¬ ((6 : Int) = 0) by decide)
  | x0 :: x1 :: x2 :: x3 :: rest =>
    have b0 := hb x0 (by simp)
    have b1 := hb x1 (by simp)
    have b2 := hb x2 (by simp)
    have b3 := hb x3 (by simp)
    have e1 : x1 % 16 + 16 * (x1 / 16) = x1 := by omega
    have e2 : x2 % 16 + 16 * (x2 / 16) = x2 := by omega
    have e3 : s8 x3 % 256 = x3 := by unfold s8; split <;> omega
    by_cases h0 : x0 < 64
    · by_cases hv : (dec4 x0 x1 x2 x3 0).valid = true
      · have e : decode (x0 :: x1 :: x2 :: x3 :: rest) = (dec4 x0 x1 x2 x3 0, 4, 0) := by
          show (if x0 < 64 then _ else _) = _
          rw [if_pos h0, if_pos hv]
        have eb : (dec4 x0 x1 x2 x3 0).bytes = [x0, x1, x2, x3] := by
          show [x0, x1 % 16 + 16 * (x1 / 16), x2 % 16 + 16 * (x2 / 16), s8 x3 % 256] ++ (if 64 ≤ x0 then _ else []) = _
          rw [if_neg (by omega), e1, e2, e3]; rfl
        refine ⟨4, ?_, ?_, ?_, ?_, ?_, ?_⟩
        · rw [e]; rfl
        · simp
        · rw [e]; exact hv
        · rw [e]; exact eb
        · rw [e, eb]; rfl
        · rw [e]; exact ⟨Int.le_refl _, show (0 : Int) < 4294967296 by decide⟩
      · exact absurd h (by
          have e : decode (x0 :: x1 :: x2 :: x3 :: rest) = (insn0, 0, 6) := by
            show (if x0 < 64 then _ else _) = _
            rw [if_pos h0, if_neg hv]
          rw [e]; exact (show ¬ ((6 : Int) = 0) by decide))
    · match rest with
      | [] => exact absurd h (by rw [show decode [x0, x1, x2, x3] = (insn0, 0, 6) from if_neg h0]; exact (show ¬ ((6 : Int) = 0) by decide))
      | [y0] => exact absurd h (by rw [show decode [x0, x1, x2, x3, y0] = (insn0, 0, 6) from if_neg h0]; exact (show ¬ ((6 : Int) = 0) by decide))
      | [y0, y1] => exact absurd h (by rw [show decode [x0, x1, x2, x3, y0, y1] = (insn0, 0, 6) from if_neg h0]; exact (show ¬ ((6 : Int) = 0) by decide))
      | [y0, y1, y2] => exact absurd h (by rw [show decode [x0, x1, x2, x3, y0, y1, y2] = (insn0, 0, 6) from if_neg h0]; exact (show ¬ ((6 : Int) = 0) by decide))
      | y0 :: y1 :: y2 :: y3 :: more =>
        have c0 := hb y0 (by simp)
        have c1 := hb y1 (by simp)
        have c2 := hb y2 (by simp)
        have c3 := hb y3 (by simp)
        by_cases hv : (dec4 x0 x1 x2 x3 (y0 + 256 * y1 + 65536 * y2 + 16777216 * y3)).valid = true
        · have e : decode (x0 :: x1 :: x2 :: x3 :: y0 :: y1 :: y2 :: y3 :: more) = (dec4 x0 x1 x2 x3 (y0 + 256 * y1 + 65536 * y2 + 16777216 * y3), 8, 0) := by
            show (if x0 < 64 then _ else if (dec4 _ _ _ _ _).valid then _ else _) = _
            rw [if_neg h0, if_pos hv]
          have f0 : (y0 + 256 * y1 + 65536 * y2 + 16777216 * y3) % 256 = y0 := by omega
          have f1 : (y0 + 256 * y1 + 65536 * y2 + 16777216 * y3) / 256 % 256 = y1 := by omega
          have f2 : (y0 + 256 * y1 + 65536 * y2 + 16777216 * y3) / 65536 % 256 = y2 := by omega
          have f3 : (y0 + 256 * y1 + 65536 * y2 + 16777216 * y3) / 16777216 % 256 = y3 := by omega
          have eb : (dec4 x0 x1 x2 x3 (y0 + 256 * y1 + 65536 * y2 + 16777216 * y3)).bytes = [x0, x1, x2, x3, y0, y1, y2, y3] := by
            show [x0, x1 % 16 + 16 * (x1 / 16), x2 % 16 + 16 * (x2 / 16), s8 x3 % 256] ++ (if 64 ≤ x0 then [(y0 + 256 * y1 + 65536 * y2 + 16777216 * y3) % 256, (y0 + 256 * y1 + 65536 * y2 + 16777216 * y3) / 256 % 256, (y0 + 256 * y1 + 65536 * y2 + 16777216 * y3) / 65536 % 256, (y0 + 256 * y1 + 65536 * y2 + 16777216 * y3) / 16777216 % 256] else []) = _
            rw [if_pos (by omega), e1, e2, e3, f0, f1, f2, f3]; rfl
          refine ⟨8, ?_, ?_, ?_, ?_, ?_, ?_⟩
          · rw [e]; rfl
          · simp
          · rw [e]; exact hv
          · rw [e]; exact eb
          · rw [e, eb]; rfl
          · rw [e]; show 0 ≤ y0 + 256 * y1 + 65536 * y2 + 16777216 * y3 ∧ y0 + 256 * y1 + 65536 * y2 + 16777216 * y3 < 4294967296; omega
        · exact absurd h (by
            have e : decode (x0 :: x1 :: x2 :: x3 :: y0 :: y1 :: y2 :: y3 :: more) = (insn0, 0, 6) := by
              show (if x0 < 64 then _ else if (dec4 _ _ _ _ _).valid then _ else _) = _
              rw [if_neg h0, if_neg hv]
            rw [e]; exact (show ¬ ((6 : Int) = 0) by decide))
end Go.Proofs.YtdkclapinedgiaaGreatDoor

namespace Go.Proofs.YtdkclapinedgiaaGreatDoor
open Go.RowKit

set_option maxRecDepth 100000 in
theorem same24 (x : Insn) (w : World) : (Go.binOp .neq 24 (.agg #[.int .i64 x.op, .int .i64 x.a, .int .i64 x.b, .int .i64 x.c, .int .i64 x.d, .int .i64 x.k, .int .u32 x.i]) (.agg #[.int .i64 x.op, .int .i64 x.a, .int .i64 x.b, .int .i64 x.c, .int .i64 x.d, .int .i64 x.k, .int .u32 x.i])).run Tryz.prog w = .ok (.bool false) w := by
  simp [go_sem]
attribute [local go_sem] same24
theorem insn_len (x : Insn) {w : World} {B n : Nat} {A : Option Addr} (h : Reads w B 1 A n (u8s x.bytes)) : x.bytes.length = n := by
  have := h.1
  simpa [u8s] using this

/-- What the walk knows of the world: the instruction lies in its box. -/
structure Uno (w : World) (x : Insn) (W : World) : Prop where
  below : Below w.heap.size w W
  bx : Blk W w.heap.size 24 x.cs
theorem Uno.step {w W W' : World} {x : Insn} (h : Uno w x W) (hb : Below W.heap.size W W') : Uno w x W' := ⟨h.below.call hb h.below.size, h.bx.call hb⟩

/-- What Decode says of bytes: no instruction; or one whose bytes they begin with. -/
theorem dec_cases (B : Option Addr) (m d : Nat) (s : List Int) (hb : Bytes s) (hl : s.length = m) : ∃ o a b c e k i n er : Int,
    (∀ W, Reads W W.heap.size 1 B m (u8s s) → Calls Tryz.prog 29 #[.slice B m d] W fun ed w' =>
      ed = .returned (.tuple #[.agg #[.int .i64 o, .int .i64 a, .int .i64 b, .int .i64 c, .int .i64 e, .int .i64 k, .int .u32 i], .int .i64 n, .int .i64 er]) ∧ Below W.heap.size W w') ∧
    (er = 6 ∧ n = 0 ∧ o = 0 ∧ a = 0 ∧ b = 0 ∧ c = 0 ∧ e = 0 ∧ k = 0 ∧ i = 0 ∨
      er = 0 ∧ ∃ j : Nat, n = j ∧ j ≤ m ∧ 0 < j ∧ j ≤ 8 ∧ (⟨o, a, b, c, e, k, i⟩ : Insn).valid = true ∧ (⟨o, a, b, c, e, k, i⟩ : Insn).In ∧ (⟨o, a, b, c, e, k, i⟩ : Insn).bytes = s.take j ∧ (⟨o, a, b, c, e, k, i⟩ : Insn).bytes.length = j) := by
  refine ⟨(decode s).1.op, (decode s).1.a, (decode s).1.b, (decode s).1.c, (decode s).1.d, (decode s).1.k, (decode s).1.i, (decode s).2.1, (decode s).2.2, fun W h => decode_any B m d s W h hb, ?_⟩
  rcases decode_err s with h | h
  · right
    obtain ⟨j, h1, h2, h3, h4, h5, h6⟩ := bytes_decode s hb h
    have ok := Insn.ok h3
    have hop := ok.op
    have ha := ok.a
    have hb' := ok.b
    have hc := ok.c
    have hd := ok.d
    have hk := ok.k
    have hj : 0 < j ∧ j ≤ 8 := by rw [← h5]; unfold Insn.bytes; split <;> simp
    exact ⟨h, j, h1, by omega, hj.1, hj.2, h3, ⟨by dsimp only; omega, by dsimp only; omega, by dsimp only; omega, by dsimp only; omega, by dsimp only; omega, by dsimp only; omega, h6⟩, h4, h5⟩
  · left
    rw [h]
    exact ⟨rfl, rfl, rfl, rfl, rfl, rfl, rfl, rfl, rfl⟩

set_option maxRecDepth 100000 in
set_option maxHeartbeats 40000000 in
theorem prefix_of (x : Insn) (hx : x.In) (R B : Option Addr) (k kc m d : Nat) (r s : List Int) (w : World) (hr : Reads w w.heap.size 1 R k (u8s r)) (hs : Reads w w.heap.size 1 B m (u8s s))
    (hrb : Bytes r) (hsb : Bytes s) (hRn : R = none → k = 0 ∧ kc = 0) (hk : k ≤ 140737488351232) (hmd : m ≤ d) (hd : d ≤ 9223372036854775807)
    (hsane : ∀ W, Below w.heap.size w W → Calls Tryz.prog 15 #[] W fun e w' => e = .returned (.bool true) ∧ Below W.heap.size W w') :
    Calls Tryz.prog 12 #[.agg x.cs, .slice R k kc, .slice B m d] w fun e w' => e = .returned (.bool true) ∧ Below w.heap.size w w' := by
  have HS := Lib.hid hsane
  have HX := Lib.hid (fun W => enc_len x hx W)
  have HR := Lib.hid hr
  have HB := Lib.hid hs
  have HRB := Lib.hid hrb
  have HSB := Lib.hid hsb
  have HN := Lib.hid hRn
  have HK := Lib.hid hk
  have HI := Lib.hid hx.i
  have HM := Lib.hid (show m ≤ d ∧ d ≤ 9223372036854775807 from ⟨hmd, hd⟩)
  have hsl : s.length = m := by have := hs.1; simpa [u8s] using this
  obtain ⟨o, ya, yb, yc, yd, yk, yi, ny, ey, hdec, hy⟩ := dec_cases B m d s hsb hsl
  have HDB := Lib.hid hdec
  have HY := Lib.hid hy
  clear hsane hr hs hrb hsb hRn hk hx hmd hd hsl hdec hy
  unfold Insn.cs at HX ⊢
  go_enter Tryz.func12, Tryz.ntmps12
  go_wp2_with fail
  refine (HS.out _ ((Below.refl _ w).alloc (Nat.le_refl _) _)).mono ?_
  rintro e w1 ⟨rfl, hb⟩
  have H : Uno w x w1 := Uno.step ⟨(Below.refl _ w).alloc (Nat.le_refl _) _, Blk.new w 24 x.cs⟩ hb
  clear hb HS
  obtain ⟨a0, a1, a2, a3, a4, a5, a6, a7, a8, a9, a10, a11, a12, a13⟩ := H.bx.facts7
  replace H := Lib.hid H
  clear a7 a8 a9 a10 a11 a12 a13
  go_wp2_with fail
  refine (HX.out _).mono ?_
  rintro e w2 ⟨⟨A, n, c, er, rfl, hk⟩, hb⟩
  replace H := Lib.hid (H.out.step hb)
  clear a0 a1 a2 a3 a4 a5 a6 hb HX
  rcases hk with ⟨hvx, rfl, hn, hnc, hrx⟩ | ⟨_, rfl, rfl⟩
  · have hlen := insn_len x hrx
    have hn8 : n ≤ 8 ∧ 0 < n := by rw [hn]; unfold sizeOf_; split <;> omega
    have hdx := decode_bytes hvx HI.out.1 HI.out.2 r
    have hAn : A = none → n = 0 ∧ c = 0 := fun e => by
      obtain ⟨ad, e', _⟩ := hrx.2 hn8.2
      rw [e] at e'; cases e'
    have hbx : Bytes (x.bytes ++ r) := by
      intro v hv
      rcases List.mem_append.1 hv with h | h
      · exact bytes_in x hvx 8 v (by rw [List.take_of_length_le (by omega)]; exact h)
      · exact HRB.out v h
    have g1 : Reads (w2.alloc (.cells #[.slice A n c, .slice R k kc] 44)) (w2.alloc (.cells #[.slice A n c, .slice R k kc] 44)).heap.size 1 A n (u8s x.bytes) := (hrx.alloc (Nat.le_refl _) _).more (by simp)
    have g2 : Reads (w2.alloc (.cells #[.slice A n c, .slice R k kc] 44)) (w2.alloc (.cells #[.slice A n c, .slice R k kc] 44)).heap.size 1 R k (u8s r) := (HR.out.below (H.out.below.alloc H.out.below.size _)).more (by have := H.out.below.size; simp; omega)
    have HC := Lib.hid (concat_any w2.heap.size A R n k c kc x.bytes r _ (Blk.new w2 44 _) g1 g2 hAn HN.out (by have := HK.out; omega))
    have HD := Lib.hid hdx
    have HBX := Lib.hid hbx
    have HL := Lib.hid hlen
    clear hvx hn hnc hrx hlen hn8 hdx hAn hbx g1 g2
    go_wp2_with fail
    refine HC.out.mono ?_
    rintro e w3 ⟨⟨A3, k3, rfl, hk3, hr3⟩, hb⟩
    replace H := Lib.hid ((H.out.step ((Below.refl _ w2).alloc (Nat.le_refl _) (.cells #[.slice A n c, .slice R k kc] 44))).step hb)
    have HR3 := Lib.hid hr3
    clear hr3 hb HC
    go_wp2_with fail
    have hd3 := decode_any A3 (n + k) k3 (x.bytes ++ r) w3 HR3.out HBX.out
    unfold DecPost at hd3
    rw [HD.out, HL.out] at hd3
    unfold Insn.cs at hd3
    dsimp only at hd3
    refine hd3.mono ?_
    rintro e w4 ⟨rfl, hb⟩
    replace H := Lib.hid (H.out.step hb)
    clear hb HR3 HD HBX HL hk3 hd3
    have BX : Blk (w4.alloc (.cells x.cs 24)) w4.heap.size 24 x.cs := Blk.new w4 24 _
    replace H := Lib.hid (H.out.step ((Below.refl _ w4).alloc (Nat.le_refl _) (.cells x.cs 24)))
    unfold Insn.cs at H BX
    obtain ⟨a0, a1, a2, a3, a4, a5, a6, a7, a8, a9, a10, a11, a12, a13⟩ := H.out.bx.facts7
    obtain ⟨c0, c1, c2, c3, c4, c5, c6, c7, c8, c9, c10, c11, c12, c13⟩ := BX.facts7
    have HW := Lib.hid H.out.below
    clear a7 a8 a9 a10 a11 a12 a13 c7 c8 c9 c10 c11 c12 c13 BX H
    go_wp2_with fail
    clear a0 a1 a2 a3 a4 a5 a6 c0 c1 c2 c3 c4 c5 c6
    refine (HDB.out _ ((HB.out.below HW.out).more HW.out.size)).mono ?_
    rintro e w5 ⟨rfl, hb⟩
    have BY : Blk (w5.alloc (.cells #[.int .i64 o, .int .i64 ya, .int .i64 yb, .int .i64 yc, .int .i64 yd, .int .i64 yk, .int .u32 yi] 24)) w5.heap.size 24 #[.int .i64 o, .int .i64 ya, .int .i64 yb, .int .i64 yc, .int .i64 yd, .int .i64 yk, .int .u32 yi] := Blk.new w5 24 _
    replace HW := Lib.hid ((HW.out.call hb HW.out.size).alloc (by have := HW.out.size; have := hb.size; omega) (.cells #[.int .i64 o, .int .i64 ya, .int .i64 yb, .int .i64 yc, .int .i64 yd, .int .i64 yk, .int .u32 yi] 24))
    clear hb HDB
    rcases HY.out with ⟨rfl, rfl, rfl, rfl, rfl, rfl, rfl, rfl, rfl⟩ | ⟨rfl, j, rfl, hjm, hj0, hj8, hvy, hyin, hyb, hyl⟩
    · obtain ⟨a0, a1, a2, a3, a4, a5, a6, a7, a8, a9, a10, a11, a12, a13⟩ := BY.facts7
      clear a7 a8 a9 a10 a11 a12 a13 BY HY
      go_wp2_with fail
      go_ret
      exact ⟨rfl, HW.out⟩
    · obtain ⟨bb, off, rfl, hbb, _⟩ := HB.out.plain (by omega) (by decide)
      have HE := Lib.hid (fun W => enc_len ⟨o, ya, yb, yc, yd, yk, yi⟩ hyin W)
      have HYB := Lib.hid hyb
      have HYL := Lib.hid hyl
      have HVY := Lib.hid hvy
      have HJ8 := Lib.hid hj8
      unfold Insn.cs at HE
      dsimp only at HE
      obtain ⟨a0, a1, a2, a3, a4, a5, a6, a7, a8, a9, a10, a11, a12, a13⟩ := BY.facts7
      clear a7 a8 a9 a10 a11 a12 a13 BY HY hvy hyin hyb hyl hbb hj8
      go_wp2_with fail
      refine (HE.out _).mono ?_
      rintro e w6 ⟨⟨A6, n6, c6, er6, rfl, hk6⟩, hb⟩
      clear a0 a1 a2 a3 a4 a5 a6 HE
      rcases hk6 with ⟨-, rfl, -, -, hr6⟩ | ⟨hno, -, -⟩
      · have hn6 := insn_len _ hr6
        rw [HYL.out] at hn6
        subst hn6
        replace HW := Lib.hid (HW.out.call hb HW.out.size)
        have run : ∀ W, (Instr.slice 44 (.slice (some ⟨bb, off, none⟩) m d) none (some (.int .i64 (j : Int))) none).run Tryz.prog W = .ok (.slice (some ⟨bb, off, none⟩) j d) W := by
          intro W
          have hmd := HM.out
          have h0 : (0 : Int) ≤ (j : Int) := by omega
          have h1 : (j : Int) ≤ (d : Int) := by omega
          simp [go_sem, Tryz.underlying44, h0, h1, sliced, Addr.add]
        have HQ := Lib.hid (bequal_any A6 (some ⟨bb, off, none⟩) j j c6 d _ (s.take j) w6 hr6 (by have := ((HB.out.below HW.out).more HW.out.size).take (k := j) (by omega); simpa [u8s, List.map_take] using this) (by have := HJ8.out; omega) (by have := HJ8.out; omega))
        have hjm' : (j : Int) ≤ m := by omega
        clear hb hr6 hjm
        go_wp2_with fail
        refine HQ.out.mono ?_
        rintro e w7 ⟨rfl, q, rfl⟩
        have ht : decide ((⟨o, ya, yb, yc, yd, yk, yi⟩ : Insn).bytes = s.take j) = true := decide_eq_true HYB.out
        go_wp2_with fail
        go_ret
        exact ⟨by first | rfl | rw [ht], below_drewN HW.out q⟩
      · rw [HVY.out] at hno
        cases hno
  · have HW := Lib.hid H.out.below
    clear H
    go_wp2_with fail
    refine (HDB.out _ ((HB.out.below HW.out).more HW.out.size)).mono ?_
    rintro e w5 ⟨rfl, hb⟩
    have BY : Blk (w5.alloc (.cells #[.int .i64 o, .int .i64 ya, .int .i64 yb, .int .i64 yc, .int .i64 yd, .int .i64 yk, .int .u32 yi] 24)) w5.heap.size 24 #[.int .i64 o, .int .i64 ya, .int .i64 yb, .int .i64 yc, .int .i64 yd, .int .i64 yk, .int .u32 yi] := Blk.new w5 24 _
    replace HW := Lib.hid ((HW.out.call hb HW.out.size).alloc (by have := HW.out.size; have := hb.size; omega) (.cells #[.int .i64 o, .int .i64 ya, .int .i64 yb, .int .i64 yc, .int .i64 yd, .int .i64 yk, .int .u32 yi] 24))
    clear hb HDB
    rcases HY.out with ⟨rfl, rfl, rfl, rfl, rfl, rfl, rfl, rfl, rfl⟩ | ⟨rfl, j, rfl, hjm, hj0, hj8, hvy, hyin, hyb, hyl⟩
    · obtain ⟨a0, a1, a2, a3, a4, a5, a6, a7, a8, a9, a10, a11, a12, a13⟩ := BY.facts7
      clear a7 a8 a9 a10 a11 a12 a13 BY HY
      go_wp2_with fail
      go_ret
      exact ⟨rfl, HW.out⟩
    · obtain ⟨bb, off, rfl, hbb, _⟩ := HB.out.plain (by omega) (by decide)
      have HE := Lib.hid (fun W => enc_len ⟨o, ya, yb, yc, yd, yk, yi⟩ hyin W)
      have HYB := Lib.hid hyb
      have HYL := Lib.hid hyl
      have HVY := Lib.hid hvy
      have HJ8 := Lib.hid hj8
      unfold Insn.cs at HE
      dsimp only at HE
      obtain ⟨a0, a1, a2, a3, a4, a5, a6, a7, a8, a9, a10, a11, a12, a13⟩ := BY.facts7
      clear a7 a8 a9 a10 a11 a12 a13 BY HY hvy hyin hyb hyl hbb hj8
      go_wp2_with fail
      refine (HE.out _).mono ?_
      rintro e w6 ⟨⟨A6, n6, c6, er6, rfl, hk6⟩, hb⟩
      clear a0 a1 a2 a3 a4 a5 a6 HE
      rcases hk6 with ⟨-, rfl, -, -, hr6⟩ | ⟨hno, -, -⟩
      · have hn6 := insn_len _ hr6
        rw [HYL.out] at hn6
        subst hn6
        replace HW := Lib.hid (HW.out.call hb HW.out.size)
        have run : ∀ W, (Instr.slice 44 (.slice (some ⟨bb, off, none⟩) m d) none (some (.int .i64 (j : Int))) none).run Tryz.prog W = .ok (.slice (some ⟨bb, off, none⟩) j d) W := by
          intro W
          have hmd := HM.out
          have h0 : (0 : Int) ≤ (j : Int) := by omega
          have h1 : (j : Int) ≤ (d : Int) := by omega
          simp [go_sem, Tryz.underlying44, h0, h1, sliced, Addr.add]
        have HQ := Lib.hid (bequal_any A6 (some ⟨bb, off, none⟩) j j c6 d _ (s.take j) w6 hr6 (by have := ((HB.out.below HW.out).more HW.out.size).take (k := j) (by omega); simpa [u8s, List.map_take] using this) (by have := HJ8.out; omega) (by have := HJ8.out; omega))
        have hjm' : (j : Int) ≤ m := by omega
        clear hb hr6 hjm
        go_wp2_with fail
        refine HQ.out.mono ?_
        rintro e w7 ⟨rfl, q, rfl⟩
        have ht : decide ((⟨o, ya, yb, yc, yd, yk, yi⟩ : Insn).bytes = s.take j) = true := decide_eq_true HYB.out
        go_wp2_with fail
        go_ret
        exact ⟨by first | rfl | rw [ht], below_drewN HW.out q⟩
      · rw [HVY.out] at hno
        cases hno
end Go.Proofs.YtdkclapinedgiaaGreatDoor
