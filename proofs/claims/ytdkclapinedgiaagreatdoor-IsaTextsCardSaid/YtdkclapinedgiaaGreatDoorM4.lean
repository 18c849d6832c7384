/- Contract: slices.Equal at []Insn. -/
/- Contracts: slices.Grow of nil and slices.Concat of two slices of instructions. -/
/- Plain law: bytes are read as the instructions whose bytes they are, as far as they go; List's contract in these words. -/
/- Contract: IsaLists of the law's package (function 13): true, whatever the input. -/
import Derived.Test.YtdkclapinedgiaaGreatDoorC7
import Derived.Laws.StructEq
import Derived.Test.YtdkclapinedgiaaGreatDoorU2
import Derived.Test.YtdkclapinedgiaaGreatDoorL2
import Derived.Deep.RegionLaw

namespace Go.Proofs.YtdkclapinedgiaaGreatDoor
open Go.RowKit

set_option maxRecDepth 100000 in
theorem ne24 (x y : Insn) (w : World) : (Go.binOp .neq 24 (.agg #[.int .i64 x.op, .int .i64 x.a, .int .i64 x.b, .int .i64 x.c, .int .i64 x.d, .int .i64 x.k, .int .u32 x.i]) (.agg #[.int .i64 y.op, .int .i64 y.a, .int .i64 y.b, .int .i64 y.c, .int .i64 y.d, .int .i64 y.k, .int .u32 y.i])).run Tryz.prog w = .ok (.bool (!decide (x = y))) w := by
  by_cases h : x = y
  · subst h; simp [go_sem]
  · rw [decide_eq_false h]
    have h7 : ¬ (x.op = y.op ∧ x.a = y.a ∧ x.b = y.b ∧ x.c = y.c ∧ x.d = y.d ∧ x.k = y.k ∧ x.i = y.i) := by
      rintro ⟨e1, e2, e3, e4, e5, e6, e7⟩
      cases x; cases y
      simp only at e1 e2 e3 e4 e5 e6 e7
      subst e1 e2 e3 e4 e5 e6 e7
      exact h rfl
    simp [go_sem]
    exact fun e1 e2 e3 e4 e5 e6 e7 => h7 ⟨e1, e2, e3, e4, e5, e6, e7⟩

/-- The cells of instructions, one behind the other. -/
def flat (l : List Insn) : List Value := l.flatMap fun x => x.cs.toList
theorem flat_len (l : List Insn) : (flat l).length = l.length * 7 := by
  induction l with
  | nil => rfl
  | cons x l ih =>
    show (x.cs.toList ++ flat l).length = _
    rw [List.length_append, ih]
    simp [Insn.cs]; omega
theorem flat_at : ∀ (l : List Insn) (k i : Nat) (hk : k < l.length), i < 7 → (flat l)[k * 7 + i]? = (l[k].cs.toList)[i]?
  | [], k, i, hk, _ => by simp at hk
  | x :: l, 0, i, _, hi => by
    show (x.cs.toList ++ flat l)[0 * 7 + i]? = _
    rw [List.getElem?_append_left (by simp [Insn.cs]; omega)]
    simp
  | x :: l, k + 1, i, hk, hi => by
    show (x.cs.toList ++ flat l)[(k + 1) * 7 + i]? = _
    have h7 : x.cs.toList.length = 7 := rfl
    rw [List.getElem?_append_right (by omega), show (k + 1) * 7 + i - x.cs.toList.length = k * 7 + i by omega, flat_at l k i (by simpa using hk) hi]
    rfl
/-- The cells of one instruction of many. -/
theorem reads_at {w : World} {B n : Nat} {A : Option Addr} {l : List Insn} (h : Reads w B 7 A n (flat l)) {k : Nat} (hk : k < n) : ∃ b off, ∃ hk' : k < l.length, A = some ⟨b, off, none⟩ ∧ b < B ∧
    w.cell? ⟨b, off + k * 7, none⟩ = some (.int .i64 l[k].op) ∧ w.cell? ⟨b, off + k * 7 + 1, none⟩ = some (.int .i64 l[k].a) ∧ w.cell? ⟨b, off + k * 7 + 2, none⟩ = some (.int .i64 l[k].b) ∧
    w.cell? ⟨b, off + k * 7 + 3, none⟩ = some (.int .i64 l[k].c) ∧ w.cell? ⟨b, off + k * 7 + 4, none⟩ = some (.int .i64 l[k].d) ∧ w.cell? ⟨b, off + k * 7 + 5, none⟩ = some (.int .i64 l[k].k) ∧
    w.cell? ⟨b, off + k * 7 + 6, none⟩ = some (.int .u32 l[k].i) := by
  obtain ⟨b, off, rfl, hb, hc⟩ := h.plain (by omega) (by decide)
  have hl : l.length = n := by have := h.1; rw [flat_len] at this; omega
  have hk' : k < l.length := by omega
  refine ⟨b, off, hk', rfl, hb, ?_, ?_, ?_, ?_, ?_, ?_, ?_⟩
  · exact hc (k * 7) _ (flat_at l k 0 hk' (by decide))
  · exact hc (k * 7 + 1) _ (flat_at l k 1 hk' (by decide))
  · exact hc (k * 7 + 2) _ (flat_at l k 2 hk' (by decide))
  · exact hc (k * 7 + 3) _ (flat_at l k 3 hk' (by decide))
  · exact hc (k * 7 + 4) _ (flat_at l k 4 hk' (by decide))
  · exact hc (k * 7 + 5) _ (flat_at l k 5 hk' (by decide))
  · exact hc (k * 7 + 6) _ (flat_at l k 6 hk' (by decide))

set_option maxRecDepth 100000 in
set_option maxHeartbeats 4000000 in
theorem iequal_any (A B : Option Addr) (n m c d : Nat) (l r : List Insn) (w : World) (hl : Reads w w.heap.size 7 A n (flat l)) (hr : Reads w w.heap.size 7 B m (flat r)) (hn : n ≤ 1000000000000) (hm : m ≤ 1000000000000) :
    Calls Tryz.prog 37 #[.slice A n c, .slice B m d] w fun e w' => e = .returned (.bool (decide (l = r))) ∧ ∃ q, w' = w.drewN q := by
  have hln : l.length = n := by have := hl.1; rw [flat_len] at this; omega
  have hrm : r.length = m := by have := hr.1; rw [flat_len] at this; omega
  by_cases hnm : n = m
  · subst hnm
    have HL := Lib.hid hl
    have HR := Lib.hid hr
    have H1 := Lib.hid hln
    have H2 := Lib.hid hrm
    clear hl hr hln hrm
    go_enter Tryz.func37, Tryz.ntmps37
    go_wp2
    go_loopw [13] (fun i wr => ∃ k q : Nat, k ≤ n ∧ i = .int .i64 k ∧ wr = w.drewN q ∧ ∀ j, j < k → l[j]? = r[j]?) (fun i _ => n - (intOf i).toNat)
    case atStart => exact ⟨0, 0, by omega, rfl, rfl, fun j hj => by omega⟩
    case round =>
      obtain ⟨k, q, hk, rfl, rfl, hno⟩ := hrel
      have HN := Lib.hid hno
      clear hno
      by_cases hlt : k < n
      · obtain ⟨b, off, hkl, rfl, hb, x0, x1, x2, x3, x4, x5, x6⟩ := reads_at HL.out hlt
        obtain ⟨b2, off2, hkr, rfl, hb2, y0, y1, y2, y3, y4, y5, y6⟩ := reads_at HR.out hlt
        have hi : (k : Int) < n := by omega
        have hi0 : 0 ≤ (k : Int) := by omega
        obtain ⟨x, hx⟩ : ∃ x, l[k] = x := ⟨_, rfl⟩
        obtain ⟨y, hy⟩ : ∃ y, r[k] = y := ⟨_, rfl⟩
        rw [hx] at x0 x1 x2 x3 x4 x5 x6
        rw [hy] at y0 y1 y2 y3 y4 y5 y6
        have HX := Lib.hid hx
        have HY := Lib.hid hy
        clear hx hy
        by_cases he : x = y
        · have HE := Lib.hid he
          have hE : ∀ W, (Go.binOp .neq 24 (.agg #[.int .i64 x.op, .int .i64 x.a, .int .i64 x.b, .int .i64 x.c, .int .i64 x.d, .int .i64 x.k, .int .u32 x.i]) (.agg #[.int .i64 y.op, .int .i64 y.a, .int .i64 y.b, .int .i64 y.c, .int .i64 y.d, .int .i64 y.k, .int .u32 y.i])).run Tryz.prog W = .ok (.bool false) W := fun W => by rw [ne24, decide_eq_true he]; rfl
          clear he
          go_wp2
          go_quiet (fail)
          go_wp2
          refine ⟨⟨k + 1, q + nq, by omega, by go_num, rfl, fun j hj => ?_⟩, by simp [intOf]; omega⟩
          by_cases hjk : j < k
          · exact HN.out j hjk
          · obtain rfl : j = k := by omega
            rw [List.getElem?_eq_getElem hkl, List.getElem?_eq_getElem hkr, HX.out, HY.out, HE.out]
        · have HE := Lib.hid he
          have hE : ∀ W, (Go.binOp .neq 24 (.agg #[.int .i64 x.op, .int .i64 x.a, .int .i64 x.b, .int .i64 x.c, .int .i64 x.d, .int .i64 x.k, .int .u32 x.i]) (.agg #[.int .i64 y.op, .int .i64 y.a, .int .i64 y.b, .int .i64 y.c, .int .i64 y.d, .int .i64 y.k, .int .u32 y.i])).run Tryz.prog W = .ok (.bool true) W := fun W => by rw [ne24, decide_eq_false he]; rfl
          clear he
          go_wp2
          go_quiet (fail)
          go_wp2
          go_ret
          refine ⟨?_, q + nq, World.drewN_drewN _ _ _⟩
          have hne : ¬ l = r := fun h => HE.out (by subst h; exact HX.out.symm.trans HY.out)
          rw [decide_eq_false hne]; rfl
      · have hkn : k = n := by omega
        have HK := Lib.hid hkn
        clear hkn
        go_wp2
        go_ret
        refine ⟨?_, _, rfl⟩
        have heq : l = r := by
          apply List.ext_getElem?
          intro j
          by_cases hj : j < k
          · exact HN.out j hj
          · rw [List.getElem?_eq_none (by rw [H1.out, ← HK.out]; omega), List.getElem?_eq_none (by rw [H2.out, ← HK.out]; omega)]
        rw [decide_eq_true heq]; rfl
  · have hne : ¬ l = r := fun h => hnm (by rw [← hln, ← hrm, h])
    have hnm' : ¬ (n : Int) = m := by omega
    go_enter Tryz.func37, Tryz.ntmps37
    go_wp2
    go_ret
    exact ⟨by rw [decide_eq_false hne]; rfl, 0, rfl⟩
end Go.Proofs.YtdkclapinedgiaaGreatDoor

namespace Go.Proofs.YtdkclapinedgiaaGreatDoor
open Go.RowKit

abbrev zero24 : Value := .agg #[.int .i64 0, .int .i64 0, .int .i64 0, .int .i64 0, .int .i64 0, .int .i64 0, .int .u32 0]
theorem Reads.cells_any7 {w : World} {B n : Nat} {A : Option Addr} {xs : List Value} (h : Reads w B 7 A n xs) (ad : Addr) (hA : A = some ad) (j : Nat) (u : Value) (hj : xs[j]? = some u) : w.cell? (ad.add j) = some u := by
  have hn : 0 < n := by
    have h1 := h.1
    have h2 := (List.getElem?_eq_some_iff.1 hj).1
    omega
  obtain ⟨ad', e, _, hc⟩ := h.2 hn
  rw [hA] at e
  cases e
  exact hc j u hj
theorem flat_one (l : List Insn) : ∀ u ∈ flat l, u.oneCell' = true := by
  intro u hu
  unfold flat at hu
  obtain ⟨x, _, h⟩ := List.mem_flatMap.1 hu
  simp [Insn.cs] at h
  rcases h with rfl | rfl | rfl | rfl | rfl | rfl | rfl <;> rfl
theorem igrow_0 (w : World) : Calls Tryz.prog 91 #[.slice none 0 0, .int .i64 0] w fun e w' => e = .returned (.slice none 0 0) ∧ w' = w := by
  go_enter Tryz.func91, Tryz.ntmps91
  go_wp2
  go_ret
  exact ⟨rfl, rfl⟩
set_option maxRecDepth 100000 in
set_option maxHeartbeats 4000000 in
theorem igrow_n (n : Nat) (hn : 0 < n) (hb : n ≤ 1000000) (w : World) : Calls Tryz.prog 91 #[.slice none 0 0, .int .i64 n] w fun e w' =>
    ∃ k, e = .returned (.slice (some ⟨w.heap.size, 0, none⟩) 0 k) ∧ n ≤ k ∧ k ≤ maxLen ∧ w'.ownsRow w.heap.size 24 7 (.slice (some ⟨w.heap.size, 0, none⟩) 0 k) 0 [] ∧ w.grownBy w' none := by
  obtain ⟨i, hi, hz, hs, hby⟩ := info_parts info24
  have hold : (Builtin.firstCells i.size 0 (.slice none 0 0)).run Tryz.prog w.drew = .ok (#[] : Array Value) w.drew := run_firstCells_none w.drew i.size 0 0 0
  have hfit : Builtin.nextslicecap (0 + n) 0 * i.bytes ≤ 281474976710656 := growslice_fits (by omega) (by rw [hby]; omega)
  have hrz : ∀ ty, (Builtin.append_ #[53, 3] ty #[.slice none 0 0, .int .i64 (n : Int)]).run Tryz.prog w = _ := fun ty =>
    Lib.run_append_grow_zeros w 53 3 ty 24 i zero24 .i64 .i64 Tryz.underlying53 Tryz.underlying3 hi hz none 0 0 [] hold n hn (by omega) (by omega) (by omega) (by rw [hby]; omega) hfit
  have hge := grownCap_ge w (0 + n) 0 24
  have hle := grownCap_le_maxLen w (0 + n) 0 24 (by unfold maxLen; omega)
  obtain ⟨G, hG⟩ : ∃ G, G = grownCap w (0 + n) 0 24 := ⟨_, rfl⟩
  rw [← hG] at hge hle
  simp only [← hG] at hrz
  have hG63 : G ≤ 9223372036854775807 := by unfold maxLen at hle; omega
  have h1 : ¬ ((n : Int) < 0) := by omega
  have h2 : wrap64 ((0 : Int) - 0) = 0 := by kernel_rfl
  have h3 : wrap64 ((n : Int) - 0) = (n : Int) := by unfold wrap64; omega
  have h4 : (n : Int) > 0 := by omega
  clear hold hfit
  go_enter Tryz.func91, Tryz.ntmps91
  go_wp2_with (at_builtin; refine Lib.wpList_append_run _ rfl _ _ _ _ rfl _ _ rfl rfl _ _ (hrz _) ?_)
  go_ret
  rw [Nat.zero_add] at hG hge
  subst hG
  refine ⟨_, rfl, hge, hle, ⟨rfl, .inr ⟨w.heap.size, _, _, rfl, Nat.le_refl _, heap_alloc_new w _, Nat.zero_le _, hle, ?_, rfl⟩⟩, ?_⟩
  · simp only [Array.size_append, size_zeroCells]
    simp
    omega
  · exact ⟨rfl, rfl, rfl, by simp, fun k hk _ => heap_alloc_old w _ hk⟩

theorem iappend_0 (A : Option Addr) (c : Nat) (ty : TypeId) (W : World) : (Builtin.append_ #[53, 53] ty #[.slice none 0 0, .slice A 0 c]).run Tryz.prog W = .ok (.slice none 0 0) W := by
  obtain ⟨i, hi, hz, hs, hby⟩ := info_parts info24
  cases A with
  | none =>
    have h := run_firstCells_none (P := Tryz.prog) W i.size 0 0 c
    simp [Builtin.append_, run_underlying Tryz.underlying53, sizeOf, typeInfo, hi, Builtin.lenOf, h]
  | some a =>
    have h := run_firstCells_some (P := Tryz.prog) W i.size 0 a 0 c [] (by simp) (by simp)
    simp [Builtin.append_, run_underlying Tryz.underlying53, sizeOf, typeInfo, hi, Builtin.lenOf, h]
theorem igrow_z (z : Int) (n : Nat) (hz : z = n) (hn : 0 < n) (hb : n ≤ 1000000) (w : World) : Calls Tryz.prog 91 #[.slice none 0 0, .int .i64 z] w fun e w' =>
    ∃ k, e = .returned (.slice (some ⟨w.heap.size, 0, none⟩) 0 k) ∧ n ≤ k ∧ k ≤ maxLen ∧ w'.ownsRow w.heap.size 24 7 (.slice (some ⟨w.heap.size, 0, none⟩) 0 k) 0 [] ∧ w.grownBy w' none := by
  subst hz; exact igrow_n n hn hb w

/-- slices.Concat of two slices: the bytes of both. -/
def IConcatPost (w : World) (n : Nat) (xs : List Insn) (e : Ending) (w' : World) : Prop :=
  (∃ A k, e = .returned (.slice A n k) ∧ n ≤ k ∧ Reads w' w'.heap.size 7 A n (flat xs)) ∧ Below w.heap.size w w'

set_option maxRecDepth 100000 in
set_option maxHeartbeats 4000000 in
theorem iconcat_n (g : Nat) (A B : Option Addr) (n m c d : Nat) (l r : List Insn) (w : World) (hg : Blk w g 53 #[.slice A n c, .slice B m d])
    (hl : Reads w w.heap.size 7 A n (flat l)) (hr : Reads w w.heap.size 7 B m (flat r)) (hA : A = none → n = 0 ∧ c = 0) (hB : B = none → m = 0 ∧ d = 0)
    (h0 : 0 < n + m) (hs : n + m ≤ 1000000) : Calls Tryz.prog 52 #[.slice (some ⟨g, 0, none⟩) 2 2] w (IConcatPost w (n + m) (l ++ r)) := by
  have HL := Lib.hid hl
  have HR := Lib.hid hr
  have HA := Lib.hid hA
  have HB := Lib.hid hB
  have HG := Lib.hid hg
  have c0 := hg.cell 0
  have c1 := hg.cell 1
  simp at c0 c1
  have hgs := hg.lt
  have hgr := Lib.hid (fun W => igrow_z ((n : Int) + m) (n + m) (by omega) h0 hs W)
  have f0 : wrap64 (n : Int) = n := by unfold wrap64; omega
  have f1 : wrap64 ((n : Int) + m) = (n : Int) + m := by unfold wrap64; omega
  have f2 : ¬ ((n : Int) < 0) := by omega
  have f3 : ¬ ((n : Int) + m < 0) := by omega
  clear hl hr hA hB hg h0 hs
  go_enter Tryz.func52, Tryz.ntmps52
  go_wp2_with fail
  refine wp_loop_rounds 3 ?_
  rw [rounds_succ]
  go_wp2_with fail
  rw [rounds_succ]
  go_wp2_with fail
  rw [rounds_succ]
  go_wp2_with fail
  refine (hgr.out _).mono ?_
  rintro e w1 ⟨k, rfl, hk, hkm, hown, hgrow⟩
  have hb1 : Below w.heap.size w w1 := below_grown hgrow (Nat.le_refl _) (fun _ h => by cases h)
  replace c0 := (hb1.cell (p := ⟨g, 0, none⟩) hgs).trans c0
  have c1' := c1
  replace c1 := (hb1.cell (p := ⟨g, 1, none⟩) hgs).trans c1
  obtain ⟨i, hi, hz, hs, hby⟩ := info_parts info24
  have HO := Lib.hid hown
  have HB1 := Lib.hid hb1
  clear f0 f1 f2 f3 hgr hown hgrow hb1 hz hby
  have HL1 := Lib.hid (HL.out.below HB1.out)
  have hln : (flat l).length = n * 7 := HL.out.1
  have hrm : (flat r).length = m * 7 := HR.out.1
  go_wp2_with fail
  refine wp_loop_rounds 3 ?_
  rw [rounds_succ]
  go_wp2_with (at_builtin; refine wpList_append_fits_any _ rfl _ _ 53 rfl w.heap.size 24 i 7 Tryz.underlying53 hi hs w.heap.size 0 k [] rfl HO.out A n c (flat l) rfl hln HA.out HL1.out.cells_any7 (flat_one l) (by omega) ?_; intro w2 hown2 hgrow2)
  have hb2 : Below w.heap.size w w2 := HB1.out.trans (below_grown hgrow2 (by have := HB1.out.size; omega) (fun _ h => by cases h; exact Nat.le_refl _))
  replace c1 := (hb2.cell (p := ⟨g, 1, none⟩) hgs).trans c1'
  rw [Nat.zero_add, List.nil_append] at hown2
  have HO2 := Lib.hid hown2
  have HB2 := Lib.hid hb2
  have HR2 := Lib.hid (HR.out.below hb2)
  clear hown2 hgrow2 hb2 c0 HO HB1 HL1
  rw [rounds_succ]
  go_wp2_with (at_builtin; refine wpList_append_fits_any _ rfl _ _ 53 rfl w.heap.size 24 i 7 Tryz.underlying53 hi hs w.heap.size n k (flat l) rfl HO2.out B m d (flat r) rfl hrm HB.out HR2.out.cells_any7 (flat_one r) (by omega) ?_; intro w3 hown3 hgrow3)
  have hb3 : Below w.heap.size w w3 := HB2.out.trans (below_grown hgrow3 (by have := HB2.out.size; omega) (fun _ h => by cases h; exact Nat.le_refl _))
  have e3 : flat l ++ flat r = flat (l ++ r) := by simp [flat]
  rw [e3] at hown3
  have HO3 := Lib.hid hown3
  have HB3 := Lib.hid hb3
  clear hown3 hgrow3 hb3 c1 HO2 HB2 HR2
  rw [rounds_succ]
  go_wp2_with fail
  go_ret
  exact ⟨⟨_, k, rfl, hk, Reads.of_own HO3.out⟩, HB3.out⟩

set_option maxRecDepth 100000 in
set_option maxHeartbeats 4000000 in
theorem iconcat_0 (g : Nat) (A B : Option Addr) (c d : Nat) (w : World) (hg : Blk w g 53 #[.slice A 0 c, .slice B 0 d]) :
    Calls Tryz.prog 52 #[.slice (some ⟨g, 0, none⟩) 2 2] w (IConcatPost w 0 []) := by
  have c0 := hg.cell 0
  have c1 := hg.cell 1
  simp at c0 c1
  have hgs := hg.lt
  clear hg
  go_enter Tryz.func52, Tryz.ntmps52
  go_wp2_with fail
  refine wp_loop_rounds 3 ?_
  rw [rounds_succ]
  go_wp2_with fail
  rw [rounds_succ]
  go_wp2_with fail
  rw [rounds_succ]
  go_wp2_with fail
  refine (igrow_0 _).mono ?_
  rintro e w1 ⟨rfl, rfl⟩
  go_wp2_with fail
  refine wp_loop_rounds 3 ?_
  rw [rounds_succ]
  go_wp2_with (at_builtin; refine Lib.wpList_append_run _ rfl _ _ _ _ rfl _ _ rfl rfl _ _ (iappend_0 _ _ _ _) ?_)
  rw [rounds_succ]
  go_wp2_with (at_builtin; refine Lib.wpList_append_run _ rfl _ _ _ _ rfl _ _ rfl rfl _ _ (iappend_0 _ _ _ _) ?_)
  rw [rounds_succ]
  go_wp2_with fail
  go_ret
  exact ⟨⟨none, 0, rfl, Nat.le_refl _, Reads.none_⟩, Below.refl _ _⟩

theorem iconcat_any (g : Nat) (A B : Option Addr) (n m c d : Nat) (l r : List Insn) (w : World) (hg : Blk w g 53 #[.slice A n c, .slice B m d])
    (hl : Reads w w.heap.size 7 A n (flat l)) (hr : Reads w w.heap.size 7 B m (flat r)) (hA : A = none → n = 0 ∧ c = 0) (hB : B = none → m = 0 ∧ d = 0)
    (hs : n + m ≤ 1000000) : Calls Tryz.prog 52 #[.slice (some ⟨g, 0, none⟩) 2 2] w (IConcatPost w (n + m) (l ++ r)) := by
  by_cases h0 : 0 < n + m
  · exact iconcat_n g A B n m c d l r w hg hl hr hA hB h0 hs
  · obtain rfl : n = 0 := by omega
    obtain rfl : m = 0 := by omega
    have h1 := hl.1
    have h2 := hr.1
    rw [flat_len] at h1 h2
    obtain rfl : l = [] := List.length_eq_zero_iff.1 (by omega)
    obtain rfl : r = [] := List.length_eq_zero_iff.1 (by omega)
    exact iconcat_0 g A B c d w hg
end Go.Proofs.YtdkclapinedgiaaGreatDoor

namespace Go.Proofs.YtdkclapinedgiaaGreatDoor
open Go.RowKit

/-- The bytes of instructions, one behind the other. -/
def cat (l : List Insn) : List Int := l.flatMap Insn.bytes
def Fine (x : Insn) : Prop := x.valid = true ∧ 0 ≤ x.i ∧ x.i < 4294967296
theorem cat_cons (x : Insn) (l : List Insn) : cat (x :: l) = x.bytes ++ cat l := rfl
theorem cat_app (l r : List Insn) : cat (l ++ r) = cat l ++ cat r := by simp [cat]
theorem bytes_len (x : Insn) : 4 ≤ x.bytes.length ∧ x.bytes.length ≤ 8 := by unfold Insn.bytes; split <;> simp
/-- What stands behind the instructions: nothing, or what begins with none. -/
def Rest (t : List Int) : Prop := t = [] ∨ (decode t).2.2 ≠ 0

theorem insns_rest (t : List Int) (ht : Rest t) (f : Nat) (p : Int) : insns f p t = [] := by
  cases f with
  | zero => rfl
  | succ f =>
    unfold insns
    rcases ht with rfl | h
    · rfl
    · split
      · rfl
      · first | rfl | rw [if_neg h]
theorem insns_cat (t : List Int) (ht : Rest t) : ∀ (xs : List Insn), (∀ x ∈ xs, Fine x) → ∀ (f : Nat) (p : Int), (cat xs ++ t).length ≤ f →
    (insns f p (cat xs ++ t)).map (·.2) = xs ∧ (xs ≠ [] → (insns f p (cat xs ++ t)).getLast?.map (·.1) = some (p + ((cat xs).length : Int)))
  | [], _, f, p, _ => by
    have h : insns f p (cat [] ++ t) = [] := insns_rest t ht f p
    rw [h]
    exact ⟨rfl, fun h => absurd rfl h⟩
  | x :: xs, hv, f, p, hf => by
    obtain ⟨hx, i0, i1⟩ := hv x (by simp)
    have hl := bytes_len x
    rw [cat_cons, List.append_assoc] at hf ⊢
    obtain ⟨g, rfl⟩ : ∃ g, f = g + 1 := ⟨f - 1, by rw [List.length_append] at hf; omega⟩
    have hd := decode_bytes hx i0 i1 (cat xs ++ t)
    have hne : ¬ x.bytes ++ (cat xs ++ t) = [] := fun e => by
      have := congrArg List.length e
      rw [List.length_append, List.length_nil] at this
      omega
    have e : insns (g + 1) p (x.bytes ++ (cat xs ++ t)) = (p + (x.bytes.length : Int), x) :: insns g (p + (x.bytes.length : Int)) (cat xs ++ t) := by
      have h1 : insns (g + 1) p (x.bytes ++ (cat xs ++ t)) = if x.bytes ++ (cat xs ++ t) = [] then [] else if (decode (x.bytes ++ (cat xs ++ t))).2.2 = 0 then
          (p + (decode (x.bytes ++ (cat xs ++ t))).2.1, (decode (x.bytes ++ (cat xs ++ t))).1) :: insns g (p + (decode (x.bytes ++ (cat xs ++ t))).2.1) ((x.bytes ++ (cat xs ++ t)).drop (decode (x.bytes ++ (cat xs ++ t))).2.1.toNat) else [] := rfl
      rw [h1, if_neg hne, hd]
      dsimp only
      rw [if_pos rfl, Int.toNat_natCast, List.drop_left]
    obtain ⟨ih1, ih2⟩ := insns_cat t ht xs (fun y hy => hv y (by simp [hy])) g (p + (x.bytes.length : Int)) (by rw [List.length_append] at hf; omega)
    rw [e]
    refine ⟨by rw [List.map_cons, ih1], fun _ => ?_⟩
    rcases xs with _ | ⟨y, ys⟩
    · have h0 : insns g (p + (x.bytes.length : Int)) (cat [] ++ t) = [] := List.map_eq_nil_iff.1 ih1
      rw [h0]
      simp [cat]
    · have ih := ih2 (by simp)
      have hne2 : insns g (p + (x.bytes.length : Int)) (cat (y :: ys) ++ t) ≠ [] := fun e0 => by rw [e0] at ih; simp at ih
      rw [List.getLast?_cons_of_ne_nil hne2, ih, List.length_append]
      congr 1
      push_cast
      omega
theorem cat_split : ∀ (n : Nat) (l : List Int), l.length ≤ n → Bytes l → ∃ xs t, l = cat xs ++ t ∧ (∀ x ∈ xs, Fine x) ∧ Rest t
  | 0, l, h, _ => ⟨[], [], by rw [List.length_eq_zero_iff.1 (by omega : l.length = 0)]; rfl, (fun _ h => by cases h), .inl rfl⟩
  | n + 1, l, h, hb => by
    by_cases h0 : (decode l).2.2 = 0
    · obtain ⟨j, r1, r2, r3, r4, r5, r6⟩ := bytes_decode l hb h0
      have hj := bytes_len (decode l).1
      obtain ⟨xs, t, h1, h2, h3⟩ := cat_split n (l.drop j) (by rw [List.length_drop]; omega) (fun v hv => hb v (List.mem_of_mem_drop hv))
      refine ⟨(decode l).1 :: xs, t, ?_, ?_, h3⟩
      · rw [cat_cons, List.append_assoc, ← h1, r4, List.take_append_drop]
      · intro x hx
        rcases List.mem_cons.1 hx with rfl | h
        · exact ⟨r3, r6⟩
        · exact h2 x h
    · exact ⟨[], l, rfl, (fun _ h => by cases h), .inr h0⟩

theorem cellsOf_flat (ps : List (Int × Insn)) : cellsOf ps = flat (ps.map (·.2)) := by
  unfold cellsOf flat
  rw [List.flatMap_map]
/-- What a slice of instructions of one's own reads as. -/
theorem own_slice {w : World} {base : Nat} {v : Value} {n : Nat} {xs : List Insn} (h : w.ownsRow base 24 7 v n (flat xs)) :
    ∃ A k, v = .slice A n k ∧ n ≤ k ∧ Reads w w.heap.size 7 A n (flat xs) ∧ (A = none → n = 0 ∧ k = 0) := by
  have h' := h
  rcases h.2 with ⟨rfl, h0⟩ | ⟨g, cap, cur, rfl, _, _, hc, _⟩
  · subst h0
    exact ⟨none, 0, rfl, Nat.le_refl _, Reads.of_own h', fun _ => ⟨rfl, rfl⟩⟩
  · exact ⟨_, cap, rfl, hc, Reads.of_own h', fun e => by cases e⟩

def ListSays (w : World) (xs : List Insn) (t : List Int) (e : Ending) (w' : World) : Prop :=
  Below w.heap.size w w' ∧ (t = [] ∧ (∃ A k, e = .returned (.tuple #[.slice A xs.length k, .int .i64 0, .int .i64 0]) ∧ xs.length ≤ k ∧ Reads w' w'.heap.size 7 A xs.length (flat xs) ∧ (A = none → xs.length = 0 ∧ k = 0)) ∨
    t ≠ [] ∧ e = .returned (.tuple #[.slice none 0 0, .int .i64 ((cat xs).length : Int), .int .i64 6]))
theorem list_says (A : Option Addr) (n c : Nat) (xs : List Insn) (t : List Int) (w : World) (hr : Reads w w.heap.size 1 A n (u8s (cat xs ++ t))) (hb : Bytes (cat xs ++ t)) (hv : ∀ x ∈ xs, Fine x) (ht : Rest t)
    (hnc : n ≤ c) (hn : n ≤ 1000000) : Calls Tryz.prog 35 #[.slice A n c] w (ListSays w xs t) := by
  have hlen : (cat xs ++ t).length = n := by have := hr.1; simpa [u8s] using this
  obtain ⟨h1, h2⟩ := insns_cat t ht xs hv n 0 (by omega)
  have hend : endAt (insns n 0 (cat xs ++ t)) = ((cat xs).length : Int) := by
    unfold endAt
    by_cases hx : xs = []
    · subst hx
      have h0 : insns n 0 (cat [] ++ t) = [] := insns_rest t ht n 0
      rw [h0]; rfl
    · rw [h2 hx]; simp
  have hpl : (insns n 0 (cat xs ++ t)).length = xs.length := by rw [← List.length_map (f := (·.2)), h1]
  refine (list_any A n c _ w hr hb hnc (by omega)).mono ?_
  rintro e w' ⟨hbl, hp⟩
  refine ⟨hbl, ?_⟩
  rw [hend] at hp
  rw [List.length_append] at hlen
  by_cases h : t = []
  · left
    refine ⟨h, ?_⟩
    have h0 : t.length = 0 := by rw [h]; rfl
    rw [if_neg (by omega)] at hp
    obtain ⟨v, he, ho, _⟩ := hp
    rw [cellsOf_flat, h1, hpl] at ho
    obtain ⟨A', k, rfl, hk, hr', hn'⟩ := own_slice ho
    exact ⟨A', k, he, hk, hr', hn'⟩
  · right
    have h0 : t.length ≠ 0 := fun e0 => h (List.length_eq_zero_iff.1 e0)
    rw [if_pos (by omega)] at hp
    exact ⟨h, hp⟩
end Go.Proofs.YtdkclapinedgiaaGreatDoor

namespace Go.Proofs.YtdkclapinedgiaaGreatDoor
open Go.RowKit

/-- An append to a slice of one's own, as one step of a region that draws. -/
theorem step_append_own {P : Program} {ops : Array Oper} {o : Oper} {a : Act} {w : World} {K : Act → World → Prop} {Q : Exit → Act → World → Prop} {E : Prop}
    (hg : o.guard = none) (s x : Operand) (t : TypeId) (hop : o.op = Op.call { callee := Callee.builtin Builtin.append, args := #[s, x], argTypes := #[t, t] })
    (base : Nat) (e : TypeId) (i : TypeInfo) (z : Value) (size bytes : Nat) (ht : P.underlying t = some (.slice e)) (hi : P.info? e = some i) (hz : i.zero = some z)
    (hsize : i.size = size) (hby : i.bytes = bytes) (hzs : z.cells.size = size) (hsz : 0 < size)
    (v : Value) (n : Nat) (xs : List Value) (hs : a.eval s = v) (hown : w.ownsRow base e size v n xs)
    (ad : Addr) (m c : Nat) (news : List Value) (hx : a.eval x = .slice (some ad) m c) (hl : news.length = m * size) (hnews : ∀ j u, news[j]? = some u → w.cell? (ad.add j) = some u) (h1 : ∀ u ∈ news, u.oneCell' = true)
    (h63 : n + m ≤ maxLen) (hbytes : (n + m) * bytes ≤ 140737488355328) (hbase : base ≤ w.heap.size)
    (h : ∀ v' w', w'.ownsRow base e size v' (n + m) (xs ++ news) → w.grownBy w' v.ownBlock → K (a.put o.dst v') w') :
    if Region.wanted o (yielded ops a.tmps) = true then Oper.wp P o a w K Q else E := by
  have hw : Region.wanted o (yielded ops a.tmps) = true := by simp [Region.wanted, hg]
  rw [if_pos hw]
  exact wp_append_own w s x t hop base e i z size bytes ht hi hz hsize hby hzs hsz v n xs hs hown ad m c news hx hl hnews h1 h63 hbytes hbase fun v' w' h2 h3 _ => h v' w' h2 h3
theorem own_call {w w' : World} {base : Nat} {e : TypeId} {size : Nat} {v : Value} {n : Nat} {xs : List Value} (h : w.ownsRow base e size v n xs) (hb : Below w.heap.size w w') : w'.ownsRow base e size v n xs :=
  h.kept (grown_of_below hb) (Classical.em _)
/-- Two rows of different elements are two. -/
theorem own_apart {w : World} {base : Nat} {e e' : TypeId} {size size' : Nat} {v v' : Value} {n n' : Nat} {xs xs' : List Value} (h : w.ownsRow base e size v n xs) (h' : w.ownsRow base e' size' v' n' xs') (hne : e ≠ e') :
    v.ownBlock = none ∨ v.ownBlock ≠ v'.ownBlock := by
  rcases h.2 with ⟨rfl, _⟩ | ⟨g, cap, cur, rfl, _, hg, _⟩
  · exact .inl rfl
  · right
    rcases h'.2 with ⟨rfl, _⟩ | ⟨g', cap', cur', rfl, _, hg', _⟩
    · simp [Value.ownBlock]
    · intro he
      have : g = g' := by simpa [Value.ownBlock] using he
      subst this
      rw [hg] at hg'
      simp at hg'
      exact hne hg'.2

theorem blk_apart {w : World} {base : Nat} {e t : TypeId} {size : Nat} {v : Value} {n g : Nat} {xs : List Value} {cs : Array Value} (hb : Blk w g t cs) (h : w.ownsRow base e size v n xs) (hne : t ≠ e) : some g ≠ v.ownBlock := by
  rcases h.2 with ⟨rfl, _⟩ | ⟨g', cap, cur, rfl, _, hg, _⟩
  · simp [Value.ownBlock]
  · intro he
    have : g = g' := by simpa [Value.ownBlock] using he
    subst this
    rw [show w.heap[g]? = some (.cells cs t) from hb] at hg
    simp at hg
    exact hne hg.2
theorem own_ge {w : World} {base : Nat} {e : TypeId} {size : Nat} {v : Value} {n : Nat} {xs : List Value} (h : w.ownsRow base e size v n xs) : ∀ g, v.ownBlock = some g → base ≤ g := by
  intro g hg
  rcases h.2 with ⟨rfl, _⟩ | ⟨g', cap, cur, rfl, hb, _⟩
  · simp [Value.ownBlock] at hg
  · simp [Value.ownBlock] at hg; omega
theorem own_bytes {w : World} {base : Nat} {v : Value} {n : Nat} {xs : List Int} (h : w.ownsRow base 5 1 v n (u8s xs)) :
    ∃ A k, v = .slice A n k ∧ n ≤ k ∧ Reads w w.heap.size 1 A n (u8s xs) := by
  have h' := h
  rcases h.2 with ⟨rfl, h0⟩ | ⟨g, cap, cur, rfl, _, _, hc, _⟩
  · subst h0
    exact ⟨none, 0, rfl, Nat.le_refl _, Reads.of_own h'⟩
  · exact ⟨_, cap, rfl, hc, Reads.of_own h'⟩
/-- The instructions among the first ones. -/
def goods (ls : List Insn) (j : Nat) : List Insn := (ls.take j).filter Insn.valid
/-- Where the loop over the instructions stands. -/
structure LsAt (w : World) (ls : List Insn) (va vg : Value) (j : Nat) (W : World) : Prop where
  below : Below w.heap.size w W
  all : W.ownsRow w.heap.size 5 1 va (cat (goods ls j)).length (u8s (cat (goods ls j)))
  good : W.ownsRow w.heap.size 24 7 vg (goods ls j).length (flat (goods ls j))

theorem cat_ge (l : List Insn) : l.length ≤ (cat l).length := by
  induction l with
  | nil => simp [cat]
  | cons x l ih =>
    have := bytes_len x
    rw [cat_cons, List.length_append, List.length_cons]
    omega
theorem cat_len (l : List Insn) : (cat l).length ≤ 8 * l.length := by
  induction l with
  | nil => simp [cat]
  | cons x l ih =>
    have := bytes_len x
    rw [cat_cons, List.length_append, List.length_cons]
    omega
set_option maxRecDepth 100000 in
set_option maxHeartbeats 40000000 in
theorem lists_of (A Aa Ab : Option Addr) (n c na ca nb cb : Nat) (ls : List Insn) (la lb : List Int) (w : World)
    (hl : Reads w w.heap.size 7 A n (flat ls)) (hla : Reads w w.heap.size 1 Aa na (u8s la)) (hlb : Reads w w.heap.size 1 Ab nb (u8s lb)) (hin : ∀ x ∈ ls, x.In)
    (hab : Bytes la) (hbb : Bytes lb) (hac : na ≤ ca) (hbc : nb ≤ cb) (hna : na ≤ 140737488351232) (hnb : nb ≤ 140737488351232)
    (hAa : Aa = none → na = 0 ∧ ca = 0) (hAb : Ab = none → nb = 0 ∧ cb = 0)
    (hsane : ∀ W, Below w.heap.size w W → Calls Tryz.prog 15 #[] W fun e w' => e = .returned (.bool true) ∧ Below W.heap.size W w') :
    Calls Tryz.prog 13 #[.slice A n c, .slice Aa na ca, .slice Ab nb cb] w fun e w' => e = .returned (.bool true) ∧ Below w.heap.size w w' := by
  obtain ⟨i5, hi5, hz5, hs5, hb5⟩ := info_parts info5
  obtain ⟨i24, hi24, hz24, hs24, hb24⟩ := info_parts info24
  have hln : ls.length = n := by have := hl.1; rw [flat_len] at this; omega
  have HS := Lib.hid hsane
  have HL := Lib.hid hl
  have HLA := Lib.hid hla
  have HLB := Lib.hid hlb
  have HIN := Lib.hid hin
  have HAB := Lib.hid hab
  have HBB := Lib.hid hbb
  have HNA := Lib.hid hAa
  have HNB := Lib.hid hAb
  have HLN := Lib.hid hln
  have HC := Lib.hid (show na ≤ ca ∧ nb ≤ cb from ⟨hac, hbc⟩)
  have hw : wrap64 ((na : Int) + nb) = (na : Int) + nb := by unfold wrap64; omega
  clear hsane hl hla hlb hin hab hbb hAa hAb hln hac hbc
  go_enter Tryz.func13, Tryz.ntmps13
  go_wp2_with fail
  refine (HS.out _ (Below.refl _ w)).mono ?_
  rintro e w1 ⟨rfl, hb⟩
  have H1 := Lib.hid hb
  clear hb HS
  by_cases hn1 : (10000 : Int) < n
  · go_wp2_with fail
    go_ret
    exact ⟨rfl, H1.out⟩
  by_cases hn2 : (10000 : Int) < (na : Int) + nb
  · go_wp2_with fail
    go_ret
    exact ⟨rfl, H1.out⟩
  go_wp2_with fail
  clear hw hna hnb
  go_loopw [7, 8, 38] (fun p q i wr => ∃ (va vg : Value) (j : Nat), va = p ∧ vg = q ∧ j ≤ n ∧ i = .int .i64 j ∧ LsAt w ls va vg j wr) (fun _ _ i _ => n - (intOf i).toNat)
  case atStart =>
    exact ⟨_, _, 0, rfl, rfl, Nat.zero_le _, rfl, ⟨H1.out, World.ownsRow_nil _ _ 5 1, World.ownsRow_nil _ _ 24 7⟩⟩
  case round =>
    obtain ⟨va, vg, j, rfl, rfl, hj, rfl, hat⟩ := hrel
    have HA := Lib.hid hat
    clear hat
    by_cases hlt : j < n
    · obtain ⟨b, off, hjl, rfl, _, x0, x1, x2, x3, x4, x5, x6⟩ := reads_at (HL.out.below HA.out.below) hlt
      obtain ⟨x, hx⟩ : ∃ x, ls[j] = x := ⟨_, rfl⟩
      rw [hx] at x0 x1 x2 x3 x4 x5 x6
      have hxin : x.In := by rw [← hx]; exact HIN.out _ (List.getElem_mem hjl)
      have HXI := Lib.hid hxin
      have HX := Lib.hid hx
      have HE := Lib.hid (fun W => enc_len x hxin W)
      unfold Insn.cs at HE
      clear hx hxin
      go_wp2_with fail
      refine (HE.out _).mono ?_
      rintro e w2 ⟨⟨A2, n2, c2, er, rfl, hk⟩, hb⟩
      clear x0 x1 x2 x3 x4 x5 x6 HE
      have hbx : Blk w2 wr.heap.size 24 x.cs := (Blk.new wr 24 x.cs).call hb
      have hsz : wr.heap.size < w2.heap.size := hbx.lt
      have HA2 : Hid (LsAt w ls va vg j w2) := ⟨(HA.out.below.alloc HA.out.below.size _).call hb (by have := HA.out.below.size; simp; omega), own_call (World.ownsRow.alloc HA.out.all _) hb, own_call (World.ownsRow.alloc HA.out.good _) hb⟩
      clear hb HA
      rcases hk with ⟨hvx, rfl, hn2', hnc2, hr2⟩ | ⟨hvx, rfl, rfl⟩
      · have hg : goods ls (j + 1) = goods ls j ++ [x] := by
          unfold goods
          rw [List.take_add_one, List.getElem?_eq_getElem hjl, HX.out]
          simp [hvx]
        have hn8 : n2 ≤ 8 ∧ 0 < n2 := by rw [hn2']; unfold sizeOf_; split <;> omega
        have hgl : (goods ls j).length ≤ 10000 := by
          have h1 : (goods ls j).length ≤ (ls.take j).length := List.length_filter_le _ _
          rw [List.length_take] at h1
          omega
        have hcl : (cat (goods ls j)).length ≤ 80000 := by
          have h1 := cat_len (goods ls j)
          omega
        obtain ⟨b2, off2, rfl, hb2, _⟩ := hr2.plain hn8.2 (by decide)
        have hbl : (u8s x.bytes).length = n2 * 1 := hr2.1
        clear hn2'
        obtain ⟨x0, x1, x2, x3, x4, x5, x6, x7, x8, x9, x10, x11, x12, x13⟩ := hbx.facts7
        clear x7 x8 x9 x10 x11 x12 x13
        have hbs : w.heap.size ≤ w2.heap.size := HA2.out.below.size
        have k63 : (cat (goods ls j)).length + n2 ≤ maxLen := by unfold maxLen; omega
        have kby : ((cat (goods ls j)).length + n2) * 1 ≤ 140737488355328 := by omega
        have l63 : (goods ls j).length + 1 ≤ maxLen := by unfold maxLen; omega
        have lby : ((goods ls j).length + 1) * 56 ≤ 140737488355328 := by omega
        have kone := u8s_one x.bytes
        have lone := flat_one [x]
        have hcat : cat (goods ls (j + 1)) = cat (goods ls j) ++ x.bytes := by rw [hg, cat_app]; simp [cat]
        have hflat : flat (goods ls (j + 1)) = flat (goods ls j) ++ flat [x] := by rw [hg]; simp [flat]
        have hxl : x.bytes.length = n2 := insn_len x hr2
        have hgl2 : (goods ls (j + 1)).length = (goods ls j).length + 1 := by rw [hg]; simp
        have hr2d : Reads w2.drew w2.drew.heap.size 1 (some ⟨b2, off2, none⟩) n2 (u8s x.bytes) := hr2
        have kcel := hr2d.cells_any _ rfl
        have kcelB := (hr2d.alloc (Nat.le_refl _) (.cells #[.int .i64 x.op, .int .i64 x.a, .int .i64 x.b, .int .i64 x.c, .int .i64 x.d, .int .i64 x.k, .int .u32 x.i] 24)).cells_any _ rfl
        have kown : w2.drew.ownsRow w.heap.size 5 1 va (cat (goods ls j)).length (u8s (cat (goods ls j))) := HA2.out.all
        have kownB := World.ownsRow.alloc kown (.cells #[.int .i64 x.op, .int .i64 x.a, .int .i64 x.b, .int .i64 x.c, .int .i64 x.d, .int .i64 x.k, .int .u32 x.i] 24)
        have kbs : w.heap.size ≤ w2.drew.heap.size := hbs
        have kbsB : w.heap.size ≤ (w2.drew.alloc (.cells #[.int .i64 x.op, .int .i64 x.a, .int .i64 x.b, .int .i64 x.c, .int .i64 x.d, .int .i64 x.k, .int .u32 x.i] 24)).heap.size := by simp; omega
        have hbd : Blk w2.drew wr.heap.size 24 x.cs := hbx
        have hbB : Blk (w2.drew.alloc (.cells #[.int .i64 x.op, .int .i64 x.a, .int .i64 x.b, .int .i64 x.c, .int .i64 x.d, .int .i64 x.k, .int .u32 x.i] 24)) w2.heap.size 24 x.cs := Blk.new w2.drew 24 x.cs
        have kgood : w2.drew.ownsRow w.heap.size 24 7 vg (goods ls j).length (flat (goods ls j)) := HA2.out.good
        have kgoodB := World.ownsRow.alloc kgood (.cells #[.int .i64 x.op, .int .i64 x.a, .int .i64 x.b, .int .i64 x.c, .int .i64 x.d, .int .i64 x.k, .int .u32 x.i] 24)
        have kbl : Below w.heap.size w w2.drew := HA2.out.below.drew
        have kblB : Below w.heap.size w (w2.drew.alloc (.cells #[.int .i64 x.op, .int .i64 x.a, .int .i64 x.b, .int .i64 x.c, .int .i64 x.d, .int .i64 x.k, .int .u32 x.i] 24)) := kbl.alloc kbs (.cells #[.int .i64 x.op, .int .i64 x.a, .int .i64 x.b, .int .i64 x.c, .int .i64 x.d, .int .i64 x.k, .int .u32 x.i] 24)
        go_wp2_with fail
        go_region_law (first
          | (refine step_append_own rfl (.tmp 49) (.tmp 50) 44 rfl w.heap.size 5 i5 (.int .u8 0) 1 1 Tryz.underlying44 hi5 hz5 hs5 hb5 rfl (by decide) va (cat (goods ls j)).length (u8s (cat (goods ls j))) rfl kown ⟨b2, off2, none⟩ n2 c2 (u8s x.bytes) rfl hbl kcel kone k63 kby kbs ?_
             intro v1 w3 ho1 hg1
             have hbx3 := hbd.grown hg1 (blk_apart hbd kown (by decide))
             obtain ⟨y0, y1, y2, y3, y4, y5, y6, y7, y8, y9, y10, y11, y12, y13⟩ := hbx3.facts7
             have hgood3 := kgood.kept hg1 (own_apart kgood kown (by decide))
             have hbl3 := kbl.trans (below_grown hg1 kbs (own_ge kown)))
          | (refine step_append_own rfl (.tmp 49) (.tmp 50) 44 rfl w.heap.size 5 i5 (.int .u8 0) 1 1 Tryz.underlying44 hi5 hz5 hs5 hb5 rfl (by decide) va (cat (goods ls j)).length (u8s (cat (goods ls j))) rfl kownB ⟨b2, off2, none⟩ n2 c2 (u8s x.bytes) rfl hbl kcelB kone k63 kby kbsB ?_
             intro v1 w3 ho1 hg1
             have hbx3 := hbB.grown hg1 (blk_apart hbB kownB (by decide))
             have hgood3 := kgoodB.kept hg1 (own_apart kgoodB kownB (by decide))
             have hbl3 := kblB.trans (below_grown hg1 kbsB (own_ge kownB)))
          | (refine step_append_own rfl (.tmp 52) (.tmp 54) 53 rfl w.heap.size 24 i24 zero24 7 56 Tryz.underlying53 hi24 hz24 hs24 hb24 rfl (by decide) vg (goods ls j).length (flat (goods ls j)) rfl (World.ownsRow.alloc hgood3 _) ⟨w3.heap.size, 0, none⟩ 1 1 (flat [x]) rfl rfl (cells_of_blk (Blk.new w3 24 x.cs) _ rfl) lone l63 lby (Nat.le_trans hbl3.size (by simp)) ?_
             intro v2 w4 ho2 hg2
             have hall4 := (World.ownsRow.alloc ho1 (.cells #[.int .i64 x.op, .int .i64 x.a, .int .i64 x.b, .int .i64 x.c, .int .i64 x.d, .int .i64 x.k, .int .u32 x.i] 24)).kept hg2 (own_apart (World.ownsRow.alloc ho1 (.cells #[.int .i64 x.op, .int .i64 x.a, .int .i64 x.b, .int .i64 x.c, .int .i64 x.d, .int .i64 x.k, .int .u32 x.i] 24)) (World.ownsRow.alloc hgood3 (.cells #[.int .i64 x.op, .int .i64 x.a, .int .i64 x.b, .int .i64 x.c, .int .i64 x.d, .int .i64 x.k, .int .u32 x.i] 24)) (by decide))
             have hbl4 := (hbl3.alloc hbl3.size (.cells #[.int .i64 x.op, .int .i64 x.a, .int .i64 x.b, .int .i64 x.c, .int .i64 x.d, .int .i64 x.k, .int .u32 x.i] 24)).trans (below_grown hg2 (Nat.le_trans hbl3.size (by simp)) (own_ge hgood3)))
          | (refine step_append_own rfl (.tmp 52) (.tmp 54) 53 rfl w.heap.size 24 i24 zero24 7 56 Tryz.underlying53 hi24 hz24 hs24 hb24 rfl (by decide) vg (goods ls j).length (flat (goods ls j)) rfl hgood3 ⟨w2.heap.size, 0, none⟩ 1 1 (flat [x]) rfl rfl (cells_of_blk hbx3 _ rfl) lone l63 lby hbl3.size ?_
             intro v2 w4 ho2 hg2
             have hall4 := ho1.kept hg2 (own_apart ho1 hgood3 (by decide))
             have hbl4 := hbl3.trans (below_grown hg2 hbl3.size (own_ge hgood3))))
        all_goals
          go_wp2_with fail
          go_roundw
          case rel =>
            refine ⟨v1, v2, j + 1, rfl, rfl, by omega, by go_num, hbl4, ?_, ?_⟩
            · rw [hcat, List.length_append, hxl, show u8s (cat (goods ls j) ++ x.bytes) = u8s (cat (goods ls j)) ++ u8s x.bytes from List.map_append]
              exact hall4
            · rw [hflat, hgl2]
              exact ho2
          case measure => simp [intOf]; omega
      · have hg : goods ls (j + 1) = goods ls j := by
          unfold goods
          rw [List.take_add_one, List.getElem?_eq_getElem hjl, HX.out]
          simp [hvx]
        go_wp2_with fail
        go_roundw
        case rel =>
          refine ⟨va, vg, j + 1, rfl, rfl, by omega, by go_num, ?_, ?_, ?_⟩
          · exact HA2.out.below
          · rw [hg]; exact HA2.out.all
          · rw [hg]; exact HA2.out.good
        case measure => simp [intOf]; omega
    · obtain rfl : j = n := by omega
      clear hlt hj
      have hG : goods ls j = ls.filter Insn.valid := by unfold goods; rw [List.take_of_length_le (by rw [HLN.out]; exact Nat.le_refl _)]
      obtain ⟨G, hGe⟩ : ∃ G, goods ls j = G := ⟨_, rfl⟩
      have hGl : G.length ≤ 10000 := by
        rw [← hGe, hG]
        have h1 : (ls.filter Insn.valid).length ≤ ls.length := List.length_filter_le _ _
        rw [HLN.out] at h1
        omega
      have hGf : ∀ x ∈ G, Fine x := by
        intro x hx
        rw [← hGe, hG] at hx
        obtain ⟨h1, h2⟩ := List.mem_filter.1 hx
        exact ⟨h2, (HIN.out x h1).i⟩
      have hGc : (cat G).length ≤ 80000 := by have := cat_len G; omega
      have hGb : Bytes (cat G ++ []) := by
        intro v hv
        rw [List.append_nil] at hv
        obtain ⟨x, h1, h2⟩ := List.mem_flatMap.1 hv
        exact bytes_in x (hGf x h1).1 8 v (by rw [List.take_of_length_le (bytes_len x).2]; exact h2)
      obtain ⟨hbel, hall, hgood⟩ := HA.out
      rw [hGe] at hall hgood
      obtain ⟨A7, k7, rfl, hk7, hr7⟩ := own_bytes hall
      obtain ⟨A8, k8, rfl, hk8, hr8, _⟩ := own_slice hgood
      have hsay := list_says A7 (cat G).length k7 G [] wr (by rw [List.append_nil]; exact hr7) hGb hGf (.inl rfl) hk7 (by omega)
      have H := Lib.hid hbel
      have H8 := Lib.hid hr8
      have HGL := Lib.hid hGl
      have HSAY := Lib.hid hsay
      clear hG hGe hGl hGf hGc hGb hbel hall hgood hk7 hr7 hk8 hr8 hsay HA
      obtain ⟨xa, ta, hla, hxa, hta⟩ := cat_split la.length la (Nat.le_refl _) HAB.out
      obtain ⟨yb, tb, hlb, hyb, htb⟩ := cat_split lb.length lb (Nat.le_refl _) HBB.out
      have HXA := Lib.hid (show la = cat xa ++ ta ∧ (∀ x ∈ xa, Fine x) ∧ Rest ta from ⟨hla, hxa, hta⟩)
      have HYB := Lib.hid (show lb = cat yb ++ tb ∧ (∀ x ∈ yb, Fine x) ∧ Rest tb from ⟨hlb, hyb, htb⟩)
      clear hla hxa hta hlb hyb htb
      have hna' : na ≤ 10000 := by omega
      have hnb' : nb ≤ 10000 := by omega
      have HNN := Lib.hid (show na ≤ 10000 ∧ nb ≤ 10000 ∧ na + nb ≤ 10000 from ⟨hna', hnb', by omega⟩)
      clear hna' hnb'
      go_wp2_with fail
      refine HSAY.out.mono ?_
      rintro e w2 ⟨hb, ⟨_, Am, km, rfl, _, hrm, _⟩ | ⟨h0, _⟩⟩
      rotate_left
      · exact absurd rfl h0
      have heq := iequal_any Am A8 G.length G.length km k8 G G w2 hrm ((H8.out.below hb).more hb.size) (by have := HGL.out; omega) (by have := HGL.out; omega)
      replace H := Lib.hid (H.out.call hb H.out.size)
      have HEQ := Lib.hid (heq.mono fun e w' (h : e = .returned (.bool (decide (G = G))) ∧ ∃ q, w' = w2.drewN q) => show e = .returned (.bool true) ∧ ∃ q, w' = w2.drewN q from ⟨by rw [h.1, decide_eq_true rfl], h.2⟩)
      clear heq hrm hb HSAY H8
      go_wp2_with fail
      refine HEQ.out.mono ?_
      rintro e w3 ⟨rfl, q, rfl⟩
      replace H := Lib.hid (below_drewN H.out q)
      clear HEQ
      have hsa : Calls Tryz.prog 35 #[.slice Aa na ca] (w2.drewN q) (ListSays (w2.drewN q) xa ta) :=
        list_says Aa na ca xa ta _ (by rw [← HXA.out.1]; exact (HLA.out.below H.out).more H.out.size) (by rw [← HXA.out.1]; exact HAB.out) HXA.out.2.1 HXA.out.2.2 HC.out.1 (by have := HNN.out; omega)
      have HSA := Lib.hid hsa
      clear hsa
      go_wp2_with fail
      refine HSA.out.mono ?_
      rintro e w4 ⟨hb, ⟨rfl, Ax, kx, rfl, hkx, hrx, hnx⟩ | ⟨_, rfl⟩⟩
      rotate_left
      · go_wp2_with fail
        go_ret
        exact ⟨rfl, H.out.call hb H.out.size⟩
      replace H := Lib.hid (H.out.call hb H.out.size)
      have HRX := Lib.hid hrx
      have HKX := Lib.hid hkx
      have HNX := Lib.hid hnx
      clear hb hrx hkx hnx HSA
      have hsb : Calls Tryz.prog 35 #[.slice Ab nb cb] w4 (ListSays w4 yb tb) :=
        list_says Ab nb cb yb tb _ (by rw [← HYB.out.1]; exact (HLB.out.below H.out).more H.out.size) (by rw [← HYB.out.1]; exact HBB.out) HYB.out.2.1 HYB.out.2.2 HC.out.2 (by have := HNN.out; omega)
      have HSB := Lib.hid hsb
      clear hsb
      go_wp2_with fail
      refine HSB.out.mono ?_
      rintro e w5 ⟨hb, hcase⟩
      replace H := Lib.hid (H.out.call hb H.out.size)
      replace HRX := Lib.hid ((HRX.out.below hb).more hb.size)
      clear hb HSB
      have hcc : ∀ W, Below w.heap.size w W → Calls Tryz.prog 51 #[.slice (some ⟨W.heap.size, 0, none⟩) 2 2] (W.alloc (.cells #[.slice Aa na ca, .slice Ab nb cb] 44)) (ConcatPost (W.alloc (.cells #[.slice Aa na ca, .slice Ab nb cb] 44)) (na + nb) (la ++ lb)) := fun W hW =>
        concat_any W.heap.size Aa Ab na nb ca cb la lb _ (Blk.new W 44 _) ((HLA.out.below (hW.alloc hW.size _)).more (by have := hW.size; simp; omega)) ((HLB.out.below (hW.alloc hW.size _)).more (by have := hW.size; simp; omega)) HNA.out HNB.out (by have := HNN.out; omega)
      have HCC := Lib.hid (hcc w5 H.out)
      clear hcc
      have hxy : la ++ lb = cat (xa ++ yb) ++ tb := by
        rw [HXA.out.1, HYB.out.1, cat_app, List.append_nil, List.append_assoc]
      have hnl : (cat xa).length = na := by
        have h1 := HLA.out.1
        rw [HXA.out.1, List.append_nil] at h1
        simpa [u8s] using h1
      have hxyf : ∀ x ∈ xa ++ yb, Fine x := by
        intro x hx
        rcases List.mem_append.1 hx with h | h
        · exact HXA.out.2.1 x h
        · exact HYB.out.2.1 x h
      have HXY := Lib.hid hxy
      have HNL := Lib.hid hnl
      have HXYF := Lib.hid hxyf
      have HXL := Lib.hid (show xa.length ≤ 10000 ∧ yb.length ≤ 10000 from by
        have h1 := HNN.out
        have h2 := cat_ge xa
        have h3 := cat_ge yb
        have h4 := HLB.out.1
        rw [HYB.out.1] at h4
        simp [u8s] at h4
        omega)
      clear hxy hnl hxyf
      rcases hcase with ⟨rfl, Ay, ky, rfl, hky, hry, hny⟩ | ⟨htn, rfl⟩
      · have HRY := Lib.hid hry
        have HNY := Lib.hid hny
        clear hry hny hky
        go_wp2_with fail
        refine HCC.out.mono ?_
        rintro e w6 ⟨⟨A9, k9, rfl, hk9, hr9⟩, hb⟩
        have hs9 : Calls Tryz.prog 35 #[.slice A9 (na + nb) k9] w6 (ListSays w6 (xa ++ yb) []) :=
          list_says A9 (na + nb) k9 (xa ++ yb) [] w6 (by rw [← HXY.out]; exact hr9) (by rw [← HXY.out]; intro v hv; rcases List.mem_append.1 hv with h | h; exact HAB.out v h; exact HBB.out v h) HXYF.out (.inl rfl) hk9 (by have := HNN.out; omega)
        have HS9 := Lib.hid hs9
        have hbA : Below w5.heap.size w5 w6 := ((Below.refl _ w5).alloc (Nat.le_refl _) _).call hb (by simp)
        replace H := Lib.hid (H.out.call hbA H.out.size)
        replace HRX := Lib.hid ((HRX.out.below hbA).more hbA.size)
        replace HRY := Lib.hid ((HRY.out.below hbA).more hbA.size)
        clear hs9 hb hbA hr9 hk9 HCC
        go_wp2_with fail
        refine HS9.out.mono ?_
        rintro e w7 ⟨hb, ⟨_, Az, kz, rfl, _, hrz, _⟩ | ⟨h0, _⟩⟩
        rotate_left
        · exact absurd rfl h0
        replace H := Lib.hid (H.out.call hb H.out.size)
        replace HRX := Lib.hid ((HRX.out.below hb).more hb.size)
        replace HRY := Lib.hid ((HRY.out.below hb).more hb.size)
        have hic := iconcat_any w7.heap.size Ax Ay xa.length yb.length kx ky xa yb (w7.alloc (.cells #[.slice Ax xa.length kx, .slice Ay yb.length ky] 53)) (Blk.new w7 53 _) ((HRX.out.alloc (Nat.le_refl _) _).more (by simp)) ((HRY.out.alloc (Nat.le_refl _) _).more (by simp)) HNX.out HNY.out (by have := HXL.out; omega)
        have HIC := Lib.hid hic
        rw [List.length_append] at hrz
        have HRZ := Lib.hid hrz
        clear hb hic hrz HS9
        go_wp2_with fail
        refine HIC.out.mono ?_
        rintro e w8 ⟨⟨AA, kk, rfl, hkk, hrr⟩, hb⟩
        have hbA : Below w7.heap.size w7 w8 := ((Below.refl _ w7).alloc (Nat.le_refl _) _).call hb (by simp)
        have heq := iequal_any Az AA (xa.length + yb.length) (xa.length + yb.length) kz kk (xa ++ yb) (xa ++ yb) w8 ((HRZ.out.below hbA).more hbA.size) hrr (by have := HXL.out; omega) (by have := HXL.out; omega)
        replace H := Lib.hid (H.out.call hbA H.out.size)
        have HEQ := Lib.hid (heq.mono fun e w' (h : e = .returned (.bool (decide (xa ++ yb = xa ++ yb))) ∧ ∃ q, w' = w8.drewN q) => show e = .returned (.bool true) ∧ ∃ q, w' = w8.drewN q from ⟨by rw [h.1, decide_eq_true rfl], h.2⟩)
        clear hb hbA heq hrr hkk HIC HRZ
        go_wp2_with fail
        refine HEQ.out.mono ?_
        rintro e w9 ⟨rfl, q2, rfl⟩
        go_wp2_with fail
        go_ret
        exact ⟨rfl, below_drewN H.out q2⟩
      · go_wp2_with fail
        refine HCC.out.mono ?_
        rintro e w6 ⟨⟨A9, k9, rfl, hk9, hr9⟩, hb⟩
        have hs9 : Calls Tryz.prog 35 #[.slice A9 (na + nb) k9] w6 (ListSays w6 (xa ++ yb) tb) :=
          list_says A9 (na + nb) k9 (xa ++ yb) tb w6 (by rw [← HXY.out]; exact hr9) (by rw [← HXY.out]; intro v hv; rcases List.mem_append.1 hv with h | h; exact HAB.out v h; exact HBB.out v h) HXYF.out HYB.out.2.2 hk9 (by have := HNN.out; omega)
        have HS9 := Lib.hid hs9
        have hbA : Below w5.heap.size w5 w6 := ((Below.refl _ w5).alloc (Nat.le_refl _) _).call hb (by simp)
        replace H := Lib.hid (H.out.call hbA H.out.size)
        clear hs9 hb hbA hr9 hk9 HCC
        go_wp2_with fail
        refine HS9.out.mono ?_
        rintro e w7 ⟨hb, ⟨h0, _⟩ | ⟨_, rfl⟩⟩
        · exact absurd h0 htn
        have hjb : (((cat (xa ++ yb)).length : Int) == wrap64 (((cat yb).length : Int) + (na : Int))) = true := by
          have h1 := HNL.out
          have h2 := HNN.out
          have h3 := HLB.out.1
          rw [HYB.out.1] at h3
          simp [u8s] at h3
          rw [beq_iff_eq, cat_app, List.length_append]
          unfold wrap64
          omega
        go_wp2_with fail
        go_ret
        exact ⟨by simp [], H.out.call hb H.out.size⟩
end Go.Proofs.YtdkclapinedgiaaGreatDoor
