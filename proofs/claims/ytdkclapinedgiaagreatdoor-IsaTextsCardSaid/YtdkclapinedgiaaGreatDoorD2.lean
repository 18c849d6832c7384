/- Contracts: names, Name, Op of package isa. -/
import Derived.Test.YtdkclapinedgiaaGreatDoorC0
import Derived.Test.YtdkclapinedgiaaGreatDoorWords3
import Derived.Test.YtdkclapinedgiaaGreatDoorPure2
import Derived.Deep.WholeRow
namespace Go.Proofs.YtdkclapinedgiaaGreatDoor
open Go.RowKit

def strV (l : List UInt8) : Value := .string ⟨l.toArray⟩
def nameVals : Array Value := (nameTab.map strV).toArray

theorem built81 {ops : Array Oper} {rest : List Oper} {o : Oper} {a : Act} {w : World} {Q : Exit → Act → World → Prop} (hg : o.guard = none) (parts : Array (Nat × Operand)) (ho : o.op = .build 81 parts)
    (hf : Tryz.prog.built 81 (parts.map fun (i, x) => (i, a.eval x)).toList = some nameVals)
    (h : wpList Tryz.prog ops Q rest (a.put o.dst (.agg nameVals)) w) : wpList Tryz.prog ops Q (o :: rest) a w :=
  wpList_build hg 81 parts ho (by rw [hf]; rfl) (by rw [hf]; exact h)
theorem size81 : (Tryz.prog.info? 81).map (·.size) = some nameVals.size := by kernel_rfl
theorem ones81 : nameVals.all (·.oneCell') = true := by kernel_rfl
theorem zero81 : Tryz.zeroCells81.size = nameVals.size := by kernel_rfl
theorem Blk.setRow {w : World} {g t : Nat} {cs : Array Value} (h : Blk w g t cs) (cs' : Array Value) : Blk (w.setRow g cs') g t cs' := by
  unfold Blk at h ⊢
  simp [World.setRow, Array.getElem?_modify, h]

set_option maxRecDepth 100000 in
set_option maxHeartbeats 4000000 in
theorem names_any (w : World) : Calls Tryz.prog 57 #[] w fun e w' => e = .returned (.agg nameVals) ∧ Below w.heap.size w w' := by
  go_enter Tryz.func57, Tryz.ntmps57
  go_wp2_with (first
    | (with_reducible refine built81 rfl _ rfl (by kernel_rfl) ?_)
    | (with_reducible refine wpList_store_row rfl 81 (.tmp 0) (.tmp 1) rfl w.heap.size nameVals rfl rfl 81 Tryz.zeroCells81 (heap_alloc_new _ _) size81 zero81 ones81 ?_))
  rw [World.setRow_alloc_new]
  exact bodyPost_ret (results_cell_row Tryz.results57 _ _ w.heap.size 81 nameVals (0, 0) _ rfl (heap_alloc_new _ _) Tryz.underlying81 rfl size81) rfl ⟨rfl, (Below.refl _ w).alloc (Nat.le_refl _) _⟩

theorem nameVals_at (k : Nat) (h : k < 73) : nameVals[k]? = some (strV (nameTab.getD k [])) := by
  have hl : nameTab.length = 73 := by decide
  simp [nameVals, hl, h]

theorem run_index81 (op : Int) (h0 : 0 ≤ op) (h1 : op < 73) (w : World) : (Instr.index 81 (.agg nameVals) (.int .i64 op)).run Tryz.prog w = .ok (strV (nameOf op)) w := by
  obtain ⟨k, rfl⟩ : ∃ k : Nat, op = k := ⟨op.toNat, by omega⟩
  have hk := nameVals_at k (by omega)
  have h2 : (k : Int) < 73 := h1
  simp [Instr.index, go_sem, hk]
  rw [if_pos (by omega)]
  simp [nameOf]

def NamePost (w : World) (op : Int) (e : Ending) (w' : World) : Prop := e = .returned (.tuple #[strV (if (opnd op).2 then nameOf op else []), .bool (opnd op).2]) ∧ Below w.heap.size w w'
set_option maxHeartbeats 4000000 in
theorem name_any (op : Int) (w : World) : Calls Tryz.prog 38 #[.int .i64 op] w (NamePost w op) := by
  have ho := opnd_op op
  rcases hv : (opnd op).2 with _ | _
  · have HV := Lib.hid hv
    go_enter Tryz.func38, Tryz.ntmps38
    go_wp2_with (go_at_call 58; refine (operands_any _ _).mono ?_; rintro e w' ⟨rfl, rfl⟩)
    go_ret2
    exact ⟨by rw [HV.out]; rfl, Below.refl _ _⟩
  · have ho := ho hv
    have hi := fun W => run_index81 op (by omega) (by omega) W
    have HV := Lib.hid hv
    clear ho
    go_enter Tryz.func38, Tryz.ntmps38
    go_wp2_with (first
      | (go_at_call 58; refine (operands_any _ _).mono ?_; rintro e w' ⟨rfl, rfl⟩)
      | (go_at_call 57; refine (names_any _).mono ?_; rintro e w' ⟨rfl, hb⟩))
    go_ret2
    exact ⟨by rw [HV.out]; rfl, hb⟩

/-- Where a text stands first in a list, -1 if it is not there. -/
def strIdx (l : List (List UInt8)) (x : List UInt8) : Int := match l.findIdx? (· == x) with | some k => k | none => -1
theorem strIdx_hit {l : List (List UInt8)} {x : List UInt8} {k : Nat} (hk : k < l.length) (h : (x == l[k]) = true) (hno : ∀ j, j < k → l[j]? ≠ some x) : strIdx l x = k := by
  have : l.findIdx? (· == x) = some k := by
    rw [List.findIdx?_eq_some_iff_getElem]
    refine ⟨hk, ?_, fun j hj => ?_⟩
    · simp at h ⊢; exact h.symm
    · have := hno j hj
      rw [List.getElem?_eq_getElem (by omega)] at this
      simp at this ⊢; exact this
  unfold strIdx; rw [this]
theorem strIdx_none {l : List (List UInt8)} {x : List UInt8} (hno : ∀ j, j < l.length → l[j]? ≠ some x) : strIdx l x = -1 := by
  have : l.findIdx? (· == x) = none := by
    rw [List.findIdx?_eq_none_iff]
    intro y hy
    obtain ⟨j, hj, rfl⟩ := List.getElem_of_mem hy
    have := hno j hj
    rw [List.getElem?_eq_getElem hj] at this
    simp at this ⊢; exact this
  unfold strIdx; rw [this]
set_option maxHeartbeats 4000000 in
theorem sindex_any (A : Option Addr) (n c : Nat) (l : List (List UInt8)) (x : List UInt8) (w : World) (hr : Reads w w.heap.size 1 A n (l.map strV)) (hn : n ≤ 1000000) :
    Calls Tryz.prog 83 #[.slice A n c, strV x] w fun e w' => e = .returned (.int .i64 (strIdx l x)) ∧ w = w' := by
  have hlen : l.length = n := by have := hr.1; simpa using this
  have HR := Lib.hid hr
  have HL := Lib.hid hlen
  clear hr hlen
  unfold strV
  go_enter Tryz.func83, Tryz.ntmps83
  go_wp2
  go_loop [8] (fun i => ∃ k : Nat, k ≤ n ∧ i = .int .i64 k ∧ ∀ j, j < k → l[j]? ≠ some x) (fun i => n - (intOf i).toNat)
  case atStart => exact ⟨0, by omega, rfl, fun j hj => by omega⟩
  case round =>
    obtain ⟨k, hk, rfl, hno⟩ := hrel
    have HN := Lib.hid hno
    clear hno
    by_cases hlt : k < n
    · obtain ⟨ad, u, rfl, hb, hx, hc⟩ := HR.out.at_ hlt
      have hkl : k < l.length := by rw [HL.out]; exact hlt
      rw [List.getElem?_map, List.getElem?_eq_getElem hkl] at hx
      obtain rfl : strV l[k] = u := by simpa using hx
      unfold strV at hc
      clear hx
      go_wp2
      · go_ret
        rename_i hx _
        exact ⟨by rw [strIdx_hit hkl hx HN.out]; rfl, rfl⟩
      · rename_i hx
        refine ⟨⟨k + 1, by omega, by go_num, fun j hj => ?_⟩, by simp [intOf]; omega⟩
        by_cases hjk : j < k
        · exact HN.out j hjk
        · obtain rfl : j = k := by omega
          rw [List.getElem?_eq_getElem hkl]
          simp at hx ⊢
          exact fun h => hx h.symm
    · have hkn : k = n := by omega
      go_wp2
      go_ret
      exact ⟨by rw [strIdx_none (fun j hj => HN.out j (by rw [hkn, ← HL.out]; exact hj))]; rfl, rfl⟩


/-- The operation with a mnemonic. -/
def opOf (x : List UInt8) : Int × Bool := if 0 < strIdx nameTab x ∧ x ≠ [] then (strIdx nameTab x, true) else (0, false)
def OpPost (w : World) (x : List UInt8) (e : Ending) (w' : World) : Prop := e = .returned (.tuple #[.int .i64 (opOf x).1, .bool (opOf x).2]) ∧ Below w.heap.size w w'
set_option maxRecDepth 100000 in
set_option maxHeartbeats 4000000 in
theorem op_any (x : List UInt8) (w : World) : Calls Tryz.prog 40 #[strV x] w (OpPost w x) := by
  unfold strV
  go_enter Tryz.func40, Tryz.ntmps40
  go_wp2_with (first
    | (go_at_call 57; refine (names_any _).mono ?_; rintro e w1 ⟨rfl, hb⟩)
    | (with_reducible refine wpList_store_row rfl 81 (.tmp 4) (.tmp 6) rfl _ nameVals rfl rfl 81 Tryz.zeroCells81 (heap_alloc_new _ _) size81 zero81 ones81 ?_))
  rw [World.setRow_alloc_new]
  have hB : Hid (Below w.heap.size w (w1.alloc (.cells nameVals 81))) := hb.alloc (hb.size) _
  refine (sindex_any _ 73 73 nameTab x _ (reads_of_blk (blk_at _ _ 81 nameVals rfl) (by simp [nameVals]) (by decide)) (by decide)).mono ?_
  rintro e w' ⟨rfl, rfl⟩
  have HO : Hid (opOf x = if 0 < strIdx nameTab x ∧ x ≠ [] then (strIdx nameTab x, true) else (0, false)) := rfl
  clear hb
  generalize strIdx nameTab x = z at *
  go_wp2
  all_goals
    go_ret2
    exact ⟨by first | (rw [HO.out, if_neg (by omega)]; rfl) | (rw [HO.out]; simp_all; done), hB.out⟩
end Go.Proofs.YtdkclapinedgiaaGreatDoor
