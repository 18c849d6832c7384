/- Contracts: range_ and field of the law's package; Fields of package isa. -/
/- Contract: IsaFields of the law's package (function 10): true, whatever the input. -/
import Derived.Test.YtdkclapinedgiaaGreatDoorG7
import Derived.RangeFuncBox

namespace Go.Proofs.YtdkclapinedgiaaGreatDoor
open Go.RowKit

/-- The entries of a map from numbers to numbers, in the order in which they came. -/
def tabI : Nat → List (Int × Int) → List MapEntry
  | _, [] => []
  | n, (k, f) :: l => { key := .int .i64 k, val := .int .i64 f, born := n } :: tabI (n + 1) l
def mapI (l : List (Int × Int)) : Array MapEntry := (tabI 0 l).toArray
theorem tabI_snoc (n : Nat) (l : List (Int × Int)) (k f : Int) : tabI n (l ++ [(k, f)]) = tabI n l ++ [{ key := .int .i64 k, val := .int .i64 f, born := n + l.length }] := by
  induction l generalizing n with
  | nil => simp [tabI]
  | cons p l ih =>
    obtain ⟨k', f'⟩ := p
    simp [tabI, ih]; omega
theorem mapI_snoc (l : List (Int × Int)) (k f : Int) : mapI (l ++ [(k, f)]) = (mapI l).push { key := .int .i64 k, val := .int .i64 f, born := l.length } := by
  unfold mapI
  rw [tabI_snoc]
  simp
theorem findI_new (k : Int) (l : List (Int × Int)) (h : ∀ p ∈ l, p.1 ≠ k) (n i : Nat) : Instr.findNow (.int .i64) (.int .i64 k) (tabI n l) i = some none := by
  induction l generalizing n i with
  | nil => rfl
  | cons p l ih =>
    obtain ⟨k', f'⟩ := p
    have hk : k' ≠ k := h (k', f') (by simp)
    have : (k == k') = false := by simp; exact fun e => hk e.symm
    simp only [tabI, Instr.findNow, Instr.sameNow, if_true, this]
    exact ih (fun p hp => h p (by simp [hp])) _ _
theorem findI_hit (k : Int) (l : List (Int × Int)) (f : Int) (h : l.find? (fun p => p.1 == k) = some (k, f)) (n i : Nat) : ∃ j, Instr.findNow (.int .i64) (.int .i64 k) (tabI n l) i = some (some (j, .int .i64 f)) := by
  induction l generalizing n i with
  | nil => simp at h
  | cons p l ih =>
    obtain ⟨k', f'⟩ := p
    by_cases hk : k' = k
    · subst hk
      simp at h
      subst h
      exact ⟨i, by simp [tabI, Instr.findNow, Instr.sameNow]⟩
    · have hb : (k == k') = false := by simp; exact fun e => hk e.symm
      rw [List.find?_cons_of_neg (by simpa using hk)] at h
      obtain ⟨j, hj⟩ := ih h (n + 1) (i + 1)
      exact ⟨j, by simp only [tabI, Instr.findNow, Instr.sameNow, if_true, hb]; exact hj⟩
theorem run_insert_tabI (w : World) (l : List (Int × Int)) (k f : Int) (hnew : ∀ p ∈ l, p.1 ≠ k) :
    (Instr.mapUpdate 124 (.map (some w.heap.size)) (.int .i64 k) (.int .i64 f)).run Tryz.prog (w.alloc (.map (mapI l) l.length)) = .ok () (w.alloc (.map (mapI (l ++ [(k, f)])) (l.length + 1))) := by
  have hb : (w.alloc (.map (mapI l) l.length)).heap[w.heap.size]? = some (.map (mapI l) l.length) := heap_alloc_new w _
  have hf : Instr.findNow (.int .i64) (.int .i64 k) (mapI l).toList 0 = some none := by simp [mapI, findI_new k l hnew]
  have hs : ({ (w.alloc (.map (mapI l) l.length)) with heap := (w.alloc (.map (mapI l) l.length)).heap.setIfInBounds w.heap.size (.map (mapI (l ++ [(k, f)])) (l.length + 1)) } : World) = w.alloc (.map (mapI (l ++ [(k, f)])) (l.length + 1)) := by
    simp only [World.alloc]
    rw [push_set]
  rw [mapI_snoc] at hs ⊢
  simp [Instr.mapUpdate, run_underlying Tryz.underlying124, MapKept.run_getObj_map hb, MapKept.run_checkKey Tryz.underlying3 (show MapKept.IsKey (.int .i64) (.int .i64 k) from rfl), MapKept.run_findKey Tryz.underlying3 hf, MapKept.run_setObj_map _ hb, Result.andThen]
  exact hs
theorem wpList_insert_tabI {ops : Array Oper} {rest : List Oper} {o : Oper} {a : Act} {Q : Exit → Act → World → Prop} {w : World} (hg : o.guard = none) (m k x : Operand) (ho : o.op = .insert 124 m k x)
    (l : List (Int × Int)) (r : Nat) (kk f : Int) (hr : r = w.heap.size) (hm : a.eval m = .map (some r)) (hk : a.eval k = .int .i64 kk) (hx : a.eval x = .int .i64 f) (hnew : ∀ p ∈ l, p.1 ≠ kk)
    (h : wpList Tryz.prog ops Q rest (a.put o.dst undef) (w.alloc (.map (mapI (l ++ [(kk, f)])) (l.length + 1)))) : wpList Tryz.prog ops Q (o :: rest) a (w.alloc (.map (mapI l) l.length)) := by
  subst hr
  refine wpList_plain hg fun K' hK' => ?_
  unfold Oper.wp
  simp [execOp, ho, hm, hx, hk, run_insert_tabI w l kk f hnew, Result.andThen]
  exact hK' _ _ h

/-- What a table of numbers says at a key. -/
def getI (l : List (Int × Int)) (k : Int) : Int × Bool := match l.find? (fun p => p.1 == k) with | some p => (p.2, true) | none => (0, false)
theorem run_lookup_tabI (w : World) (r n : Nat) (l : List (Int × Int)) (hr : w.heap[r]? = some (.map (mapI l) n)) (k : Int) :
    (Instr.lookup 124 (.map (some r)) (.int .i64 k) true).run Tryz.prog w = .ok (.tuple #[.int .i64 (getI l k).1, .bool (getI l k).2]) w := by
  have hz : (zeroValue 3).run Tryz.prog w = .ok (.int .i64 0) w := by simp [go_sem]
  rcases h : l.find? (fun p => p.1 == k) with _ | p
  · have hg : getI l k = (0, false) := by unfold getI; rw [h]
    rw [hg]
    have hf : Instr.findNow (.int .i64) (.int .i64 k) (mapI l).toList 0 = some none := by
      simp only [mapI]
      refine findI_new k l (fun p hp e => ?_) 0 0
      have := List.find?_eq_none.1 h p hp
      simp [e] at this
    simp [Instr.lookup, run_underlying Tryz.underlying124, MapKept.run_getObj_map hr, MapKept.run_checkKey Tryz.underlying3 (show MapKept.IsKey (.int .i64) (.int .i64 k) from rfl), MapKept.run_findKey Tryz.underlying3 hf, Result.andThen, hz]
  · have hg : getI l k = (p.2, true) := by unfold getI; rw [h]
    rw [hg]
    have hpk : p.1 = k := by simpa using List.find?_some h
    obtain ⟨j, hj⟩ := findI_hit k l p.2 (by rw [h, ← hpk]) 0 0
    have hf : Instr.findNow (.int .i64) (.int .i64 k) (mapI l).toList 0 = some (some (j, .int .i64 p.2)) := by simp [mapI, hj]
    simp [Instr.lookup, run_underlying Tryz.underlying124, MapKept.run_getObj_map hr, MapKept.run_checkKey Tryz.underlying3 (show MapKept.IsKey (.int .i64) (.int .i64 k) from rfl), MapKept.run_findKey Tryz.underlying3 hf, Result.andThen]
theorem wpList_lookup_tabI {ops : Array Oper} {rest : List Oper} {o : Oper} {a : Act} {Q : Exit → Act → World → Prop} {w : World} (hg : o.guard = none) (m k : Operand) (ho : o.op = .lookup 124 m k true)
    (l : List (Int × Int)) (r n : Nat) (kk : Int) (hm : a.eval m = .map (some r)) (hk : a.eval k = .int .i64 kk) (hr : w.heap[r]? = some (.map (mapI l) n))
    (h : wpList Tryz.prog ops Q rest (a.put o.dst (.tuple #[.int .i64 (getI l kk).1, .bool (getI l kk).2])) w) : wpList Tryz.prog ops Q (o :: rest) a w := by
  refine wpList_plain hg fun K' hK' => ?_
  unfold Oper.wp
  simp [execOp, ho, hm, hk, run_lookup_tabI w r n l hr kk, Result.andThen]
  exact hK' _ _ h

theorem third_new (w : World) (a b c : Obj) : (((w.alloc a).alloc b).alloc c).heap[w.heap.size + 1 + 1]? = some c := by
  have h := heap_alloc_new ((w.alloc a).alloc b) c
  simpa using h
def moreTab : List (Int × Int) := [(7, 15), (8, 3), (9, 2), (10, 3), (11, 3)]
/-- The least and the greatest value of a field that an operand has; whether it has it. -/
def rangeOf (k which : Int) : Int × Int × Bool :=
  if which = 0 then (if 1 = k then (0, 15, true) else (0, 7, 4 == k)) else
  if which = 1 then (if 2 = k ∨ k = 14 ∨ k = 15 then (0, 15, true) else (0, 7, 5 == k)) else
  if which = 2 then (if 3 = k then (0, 15, true) else (0, 7, 6 == k)) else
  if which = 3 then (0, (getI moreTab k).1, (getI moreTab k).2) else
  if which = 4 then (-128, 127, k == 12 || k == 14) else (0, 4294967295, k == 13 || k == 15)
def RangePost (w : World) (kind which : Int) (e : Ending) (w' : World) : Prop :=
  e = .returned (.tuple #[.int .i64 (rangeOf kind which).1, .int .i64 (rangeOf kind which).2.1, .bool (rangeOf kind which).2.2]) ∧ Below w.heap.size w w'

set_option maxRecDepth 100000 in
set_option maxHeartbeats 4000000 in
theorem range_0 (k : Int) (w : World) : Calls Tryz.prog 46 #[.int .i64 k, .int .i64 0] w (RangePost w k 0) := by
  have hmm : ∀ w, (Instr.makeMap 124 none).run Tryz.prog w = .ok (.map (some w.heap.size)) (w.alloc (.map (mapI []) 0)) := fun w => run_makeMap 124 w
  have HP : Hid (rangeOf k 0 = if 1 = k then (0, 15, true) else (0, 7, 4 == k)) := by unfold Hid rangeOf; simp
  go_enter Tryz.func46, Tryz.ntmps46
  go_wp2_with (first
    | (refine wpList_insert_tabI rfl _ _ _ rfl _ _ _ _ (by simp) rfl rfl rfl (by decide) ?_)
    | (refine wpList_lookup_tabI rfl _ _ rfl moreTab _ 5 _ rfl rfl (third_new w _ _ _) ?_))
  all_goals first
    | (go_region; all_goals go_wp2)
    | skip
  all_goals go_ret3
  all_goals first
    | refine ⟨?_, (((Below.refl _ w).alloc (Nat.le_refl _) _).alloc (by simp) _).alloc (by simp; omega) _⟩
    | refine ⟨?_, ((((Below.refl _ w).alloc (Nat.le_refl _) _).alloc (by simp) _).alloc (by simp; omega) _).drew⟩
  all_goals rw [HP.out]
  all_goals first | rfl | (simp_all; done) | (simp_all; omega)
set_option maxRecDepth 100000 in
set_option maxHeartbeats 4000000 in
theorem range_1 (k : Int) (w : World) : Calls Tryz.prog 46 #[.int .i64 k, .int .i64 1] w (RangePost w k 1) := by
  have hmm : ∀ w, (Instr.makeMap 124 none).run Tryz.prog w = .ok (.map (some w.heap.size)) (w.alloc (.map (mapI []) 0)) := fun w => run_makeMap 124 w
  have HP : Hid (rangeOf k 1 = if 2 = k ∨ k = 14 ∨ k = 15 then (0, 15, true) else (0, 7, 5 == k)) := by unfold Hid rangeOf; simp
  go_enter Tryz.func46, Tryz.ntmps46
  go_wp2_with (first
    | (refine wpList_insert_tabI rfl _ _ _ rfl _ _ _ _ (by simp) rfl rfl rfl (by decide) ?_)
    | (refine wpList_lookup_tabI rfl _ _ rfl moreTab _ 5 _ rfl rfl (third_new w _ _ _) ?_))
  all_goals first
    | (go_region; all_goals go_wp2)
    | skip
  all_goals go_ret3
  all_goals first
    | refine ⟨?_, (((Below.refl _ w).alloc (Nat.le_refl _) _).alloc (by simp) _).alloc (by simp; omega) _⟩
    | refine ⟨?_, ((((Below.refl _ w).alloc (Nat.le_refl _) _).alloc (by simp) _).alloc (by simp; omega) _).drew⟩
  all_goals rw [HP.out]
  all_goals first | rfl | (simp_all; done) | (simp_all; omega)
set_option maxRecDepth 100000 in
set_option maxHeartbeats 4000000 in
theorem range_2 (k : Int) (w : World) : Calls Tryz.prog 46 #[.int .i64 k, .int .i64 2] w (RangePost w k 2) := by
  have hmm : ∀ w, (Instr.makeMap 124 none).run Tryz.prog w = .ok (.map (some w.heap.size)) (w.alloc (.map (mapI []) 0)) := fun w => run_makeMap 124 w
  have HP : Hid (rangeOf k 2 = if 3 = k then (0, 15, true) else (0, 7, 6 == k)) := by unfold Hid rangeOf; simp
  go_enter Tryz.func46, Tryz.ntmps46
  go_wp2_with (first
    | (refine wpList_insert_tabI rfl _ _ _ rfl _ _ _ _ (by simp) rfl rfl rfl (by decide) ?_)
    | (refine wpList_lookup_tabI rfl _ _ rfl moreTab _ 5 _ rfl rfl (third_new w _ _ _) ?_))
  all_goals first
    | (go_region; all_goals go_wp2)
    | skip
  all_goals go_ret3
  all_goals first
    | refine ⟨?_, (((Below.refl _ w).alloc (Nat.le_refl _) _).alloc (by simp) _).alloc (by simp; omega) _⟩
    | refine ⟨?_, ((((Below.refl _ w).alloc (Nat.le_refl _) _).alloc (by simp) _).alloc (by simp; omega) _).drew⟩
  all_goals rw [HP.out]
  all_goals first | rfl | (simp_all; done) | (simp_all; omega)
set_option maxRecDepth 100000 in
set_option maxHeartbeats 4000000 in
theorem range_3 (k : Int) (w : World) : Calls Tryz.prog 46 #[.int .i64 k, .int .i64 3] w (RangePost w k 3) := by
  have hmm : ∀ w, (Instr.makeMap 124 none).run Tryz.prog w = .ok (.map (some w.heap.size)) (w.alloc (.map (mapI []) 0)) := fun w => run_makeMap 124 w
  have HP : Hid (rangeOf k 3 = (0, (getI moreTab k).1, (getI moreTab k).2)) := by unfold Hid rangeOf; simp
  go_enter Tryz.func46, Tryz.ntmps46
  go_wp2_with (first
    | (refine wpList_insert_tabI rfl _ _ _ rfl _ _ _ _ (by simp) rfl rfl rfl (by decide) ?_)
    | (refine wpList_lookup_tabI rfl _ _ rfl moreTab _ 5 _ rfl rfl (third_new w _ _ _) ?_))
  all_goals first
    | (go_region; all_goals go_wp2)
    | skip
  all_goals go_ret3
  all_goals first
    | refine ⟨?_, (((Below.refl _ w).alloc (Nat.le_refl _) _).alloc (by simp) _).alloc (by simp; omega) _⟩
    | refine ⟨?_, ((((Below.refl _ w).alloc (Nat.le_refl _) _).alloc (by simp) _).alloc (by simp; omega) _).drew⟩
  all_goals rw [HP.out]
  all_goals first | rfl | (simp_all; done) | (simp_all; omega)
set_option maxRecDepth 100000 in
set_option maxHeartbeats 4000000 in
theorem range_4 (k : Int) (w : World) : Calls Tryz.prog 46 #[.int .i64 k, .int .i64 4] w (RangePost w k 4) := by
  have hmm : ∀ w, (Instr.makeMap 124 none).run Tryz.prog w = .ok (.map (some w.heap.size)) (w.alloc (.map (mapI []) 0)) := fun w => run_makeMap 124 w
  have HP : Hid (rangeOf k 4 = (-128, 127, k == 12 || k == 14)) := by unfold Hid rangeOf; simp
  go_enter Tryz.func46, Tryz.ntmps46
  go_wp2_with (first
    | (refine wpList_insert_tabI rfl _ _ _ rfl _ _ _ _ (by simp) rfl rfl rfl (by decide) ?_)
    | (refine wpList_lookup_tabI rfl _ _ rfl moreTab _ 5 _ rfl rfl (third_new w _ _ _) ?_))
  all_goals first
    | (go_region; all_goals go_wp2)
    | skip
  all_goals go_ret3
  all_goals first
    | refine ⟨?_, (((Below.refl _ w).alloc (Nat.le_refl _) _).alloc (by simp) _).alloc (by simp; omega) _⟩
    | refine ⟨?_, ((((Below.refl _ w).alloc (Nat.le_refl _) _).alloc (by simp) _).alloc (by simp; omega) _).drew⟩
  all_goals rw [HP.out]
  all_goals first | rfl | (simp_all; done) | (simp_all; omega)
set_option maxRecDepth 100000 in
set_option maxHeartbeats 4000000 in
theorem range_5 (k : Int) (w : World) : Calls Tryz.prog 46 #[.int .i64 k, .int .i64 5] w (RangePost w k 5) := by
  have hmm : ∀ w, (Instr.makeMap 124 none).run Tryz.prog w = .ok (.map (some w.heap.size)) (w.alloc (.map (mapI []) 0)) := fun w => run_makeMap 124 w
  have HP : Hid (rangeOf k 5 = (0, 4294967295, k == 13 || k == 15)) := by unfold Hid rangeOf; simp
  go_enter Tryz.func46, Tryz.ntmps46
  go_wp2_with (first
    | (refine wpList_insert_tabI rfl _ _ _ rfl _ _ _ _ (by simp) rfl rfl rfl (by decide) ?_)
    | (refine wpList_lookup_tabI rfl _ _ rfl moreTab _ 5 _ rfl rfl (third_new w _ _ _) ?_))
  all_goals first
    | (go_region; all_goals go_wp2)
    | skip
  all_goals go_ret3
  all_goals first
    | refine ⟨?_, (((Below.refl _ w).alloc (Nat.le_refl _) _).alloc (by simp) _).alloc (by simp; omega) _⟩
    | refine ⟨?_, ((((Below.refl _ w).alloc (Nat.le_refl _) _).alloc (by simp) _).alloc (by simp; omega) _).drew⟩
  all_goals rw [HP.out]
  all_goals first | rfl | (simp_all; done) | (simp_all; omega)
theorem range_any (k which : Int) (h0 : 0 ≤ which) (h5 : which ≤ 5) (w : World) : Calls Tryz.prog 46 #[.int .i64 k, .int .i64 which] w (RangePost w k which) := by
  have : which = 0 ∨ which = 1 ∨ which = 2 ∨ which = 3 ∨ which = 4 ∨ which = 5 := by omega
  rcases this with rfl | rfl | rfl | rfl | rfl | rfl
  · exact range_0 k w
  · exact range_1 k w
  · exact range_2 k w
  · exact range_3 k w
  · exact range_4 k w
  · exact range_5 k w

/-- An instruction with a field set tv a value. -/
def setF (x : Insn) (which tv : Int) : Insn :=
  if which = 0 then { x with a := tv } else if which = 1 then { x with b := tv } else if which = 2 then { x with c := tv } else
  if which = 3 then { x with d := tv } else if which = 4 then { x with k := tv } else { x with i := IntKind.u32.wrap tv }
def FieldPost (w : World) (x : Insn) (which tv : Int) (e : Ending) (w' : World) : Prop := e = .returned (.agg (setF x which tv).cs) ∧ Below w.heap.size w w'
set_option maxRecDepth 100000 in
set_option maxHeartbeats 4000000 in
theorem field_0 (x : Insn) (tv : Int) (w : World) : Calls Tryz.prog 45 #[.agg x.cs, .int .i64 0, .int .i64 tv] w (FieldPost w x 0 tv) := by
  unfold Insn.cs
  go_enter Tryz.func45, Tryz.ntmps45
  go_wp2_with fail
  exact bodyPost_ret (results_24_1 Tryz.results45 rfl (blk_at _ (w.heap.size + 1) 24 _ (by simp))) rfl ⟨rfl, ((Below.refl _ w).alloc (Nat.le_refl _) _).alloc (by simp) _⟩
set_option maxRecDepth 100000 in
set_option maxHeartbeats 4000000 in
theorem field_1 (x : Insn) (tv : Int) (w : World) : Calls Tryz.prog 45 #[.agg x.cs, .int .i64 1, .int .i64 tv] w (FieldPost w x 1 tv) := by
  unfold Insn.cs
  go_enter Tryz.func45, Tryz.ntmps45
  go_wp2_with fail
  exact bodyPost_ret (results_24_1 Tryz.results45 rfl (blk_at _ (w.heap.size + 1) 24 _ (by simp))) rfl ⟨rfl, ((Below.refl _ w).alloc (Nat.le_refl _) _).alloc (by simp) _⟩
set_option maxRecDepth 100000 in
set_option maxHeartbeats 4000000 in
theorem field_2 (x : Insn) (tv : Int) (w : World) : Calls Tryz.prog 45 #[.agg x.cs, .int .i64 2, .int .i64 tv] w (FieldPost w x 2 tv) := by
  unfold Insn.cs
  go_enter Tryz.func45, Tryz.ntmps45
  go_wp2_with fail
  exact bodyPost_ret (results_24_1 Tryz.results45 rfl (blk_at _ (w.heap.size + 1) 24 _ (by simp))) rfl ⟨rfl, ((Below.refl _ w).alloc (Nat.le_refl _) _).alloc (by simp) _⟩
set_option maxRecDepth 100000 in
set_option maxHeartbeats 4000000 in
theorem field_3 (x : Insn) (tv : Int) (w : World) : Calls Tryz.prog 45 #[.agg x.cs, .int .i64 3, .int .i64 tv] w (FieldPost w x 3 tv) := by
  unfold Insn.cs
  go_enter Tryz.func45, Tryz.ntmps45
  go_wp2_with fail
  exact bodyPost_ret (results_24_1 Tryz.results45 rfl (blk_at _ (w.heap.size + 1) 24 _ (by simp))) rfl ⟨rfl, ((Below.refl _ w).alloc (Nat.le_refl _) _).alloc (by simp) _⟩
set_option maxRecDepth 100000 in
set_option maxHeartbeats 4000000 in
theorem field_4 (x : Insn) (tv : Int) (w : World) : Calls Tryz.prog 45 #[.agg x.cs, .int .i64 4, .int .i64 tv] w (FieldPost w x 4 tv) := by
  unfold Insn.cs
  go_enter Tryz.func45, Tryz.ntmps45
  go_wp2_with fail
  exact bodyPost_ret (results_24_1 Tryz.results45 rfl (blk_at _ (w.heap.size + 1) 24 _ (by simp))) rfl ⟨rfl, ((Below.refl _ w).alloc (Nat.le_refl _) _).alloc (by simp) _⟩
set_option maxRecDepth 100000 in
set_option maxHeartbeats 4000000 in
theorem field_5 (x : Insn) (tv : Int) (w : World) : Calls Tryz.prog 45 #[.agg x.cs, .int .i64 5, .int .i64 tv] w (FieldPost w x 5 tv) := by
  unfold Insn.cs
  go_enter Tryz.func45, Tryz.ntmps45
  go_wp2_with fail
  exact bodyPost_ret (results_24_1 Tryz.results45 rfl (blk_at _ (w.heap.size + 1) 24 _ (by simp))) rfl ⟨rfl, ((Below.refl _ w).alloc (Nat.le_refl _) _).alloc (by simp) _⟩
theorem field_any (x : Insn) (which tv : Int) (h0 : 0 ≤ which) (h5 : which ≤ 5) (w : World) : Calls Tryz.prog 45 #[.agg x.cs, .int .i64 which, .int .i64 tv] w (FieldPost w x which tv) := by
  have : which = 0 ∨ which = 1 ∨ which = 2 ∨ which = 3 ∨ which = 4 ∨ which = 5 := by omega
  rcases this with rfl | rfl | rfl | rfl | rfl | rfl
  · exact field_0 x tv w
  · exact field_1 x tv w
  · exact field_2 x tv w
  · exact field_3 x tv w
  · exact field_4 x tv w
  · exact field_5 x tv w

theorem indexByte_le (l : List UInt8) (c : UInt8) : Lib.indexByte l c ≤ l.length := by
  induction l with
  | nil => exact (show (-1 : Int) ≤ 0 by decide)
  | cons b l ih =>
    unfold Lib.indexByte
    split
    · simp; omega
    · split
      · simp; omega
      · simp; omega
/-- The number of an operand's letter. -/
def kindOf (c : UInt8) : Int := Lib.indexByte [97, 98, 99, 65, 66, 67, 100, 101, 108, 119, 115, 107, 105, 109, 110] c + 1
def kindsOf (op : Int) : List Int := (opnd op).1.map kindOf
theorem info3 : (Tryz.prog.info? 3).map (fun i => (i.zero, i.size, i.bytes)) = some (some (.int .i64 0), 1, 8) := by kernel_rfl
def FldsPost (w : World) (op : Int) (e : Ending) (w' : World) : Prop :=
  (∃ A k, e = .returned (.tuple #[.slice A (kindsOf op).length k, .bool (opnd op).2]) ∧ (kindsOf op).length ≤ k ∧ Reads w' w'.heap.size 1 A (kindsOf op).length ((kindsOf op).map (.int .i64))) ∧ Below w.heap.size w w'
set_option maxRecDepth 100000 in
set_option maxHeartbeats 4000000 in
theorem Fields_any (op : Int) (w : World) : Calls Tryz.prog 42 #[.int .i64 op] w (FldsPost w op) := by
  obtain ⟨i, hi, hz, hs, hby⟩ := info_parts info3
  have hl5 := opnd_len op
  unfold FldsPost kindsOf
  generalize hl0 : (opnd op).1 = l at *
  have HL := Lib.hid hl0
  clear hl0
  go_enter Tryz.func42, Tryz.ntmps42
  go_wp2_with (go_at_call 58; refine (operands_any _ _).mono ?_; rintro e w' ⟨rfl, rfl⟩; rw [HL.out])
  go_loopw [6, 15] (fun o i wr => ∃ k : Nat, k ≤ l.length ∧ i = .int .i64 k ∧ (∃ A c, o = .slice A k c ∧ wr.ownsRow w.heap.size 3 1 (.slice A k c) k ((l.take k).map fun c => .int .i64 (kindOf c))) ∧ Below w.heap.size w wr) (fun _ i _ => l.length - (intOf i).toNat)
  case atStart => exact ⟨0, Nat.zero_le _, rfl, ⟨none, 0, rfl, World.ownsRow_nil w _ 3 1⟩, Below.refl _ _⟩
  case round =>
    obtain ⟨k, hk, rfl, ⟨A, c, rfl, hown⟩, hb⟩ := hrel
    have HO := Lib.hid hown
    have HB := Lib.hid hb
    clear hown hb
    by_cases hlt : k < l.length
    · have hx := run_index_str l k hlt
      obtain ⟨q, hq⟩ : ∃ q, Lib.indexByte [97, 98, 99, 65, 66, 67, 100, 101, 108, 119, 115, 107, 105, 109, 110] l[k] = q := ⟨_, rfl⟩
      have hq0 := Lib.indexByte_ge [97, 98, 99, 65, 66, 67, 100, 101, 108, 119, 115, 107, 105, 109, 110] l[k]
      have hq1 := indexByte_le [97, 98, 99, 65, 66, 67, 100, 101, 108, 119, 115, 107, 105, 109, 110] l[k]
      rw [hq] at hq0 hq1
      simp only [List.length_cons, List.length_nil] at hq1
      have hI := Lib.hid (show ∀ W, Calls Tryz.prog 84 #[.string ⟨#[97, 98, 99, 65, 66, 67, 100, 101, 108, 119, 115, 107, 105, 109, 110]⟩, .int .u8 (l[k].toNat : Int)] W fun e w' => e = .returned (.int .i64 q) ∧ W = w' from fun W => by
        have h := Tryz.strings_IndexByte ⟨#[97, 98, 99, 65, 66, 67, 100, 101, 108, 119, 115, 107, 105, 109, 110]⟩ (l[k].toNat : Int) W
        rw [show ((l[k].toNat : Int).toNat.toUInt8) = l[k] by simp] at h
        rw [← hq]
        exact h.mono fun e w' ⟨h1, h2⟩ => ⟨h1, h2.symm⟩)
      have hw : wrap64 (q + 1) = q + 1 := by unfold wrap64; omega
      have hn : k < l.length := hlt
      have HK := Lib.hid (show kindOf l[k] = q + 1 by unfold kindOf; rw [hq])
      clear hq hq0 hq1
      go_wp2_with (first
        | (go_at_call 84; refine (hI.out _).mono ?_; rintro e w' ⟨rfl, rfl⟩)
        | (at_builtin; refine wpList_append_own _ rfl _ _ 61 rfl w.heap.size 3 i (.int .i64 0) 1 8 Tryz.underlying61 hi hz hs hby rfl (by decide) (.slice A k c) k ((l.take k).map fun c => .int .i64 (kindOf c)) rfl (World.ownsRow.alloc HO.out _) ⟨wr.heap.size, 0, none⟩ 1 1 [.int .i64 (q + 1)] rfl rfl (cells_of_blk (Blk.new wr 3 #[.int .i64 (q + 1)]) _ rfl) (by simp [Value.oneCell']) (by unfold maxLen; omega) (by omega) (by have := HB.out.size; simp; omega) ?_; intro v w2 hown2 hgrow2 _; obtain ⟨g2, cap2, rfl⟩ := ownsRow_succ (k := k) hown2))
      go_roundw
      case rel =>
        refine ⟨k + 1, by omega, by go_num, ⟨_, _, rfl, ?_⟩, ?_⟩
        · have e : (l.take (k + 1)).map (fun c => Value.int .i64 (kindOf c)) = (l.take k).map (fun c => Value.int .i64 (kindOf c)) ++ [.int .i64 (q + 1)] := by
            rw [List.take_add_one, List.getElem?_eq_getElem hlt, List.map_append, ← HK.out]
            rfl
          rw [e]; exact hown2
        · refine (HB.out.alloc HB.out.size _).grown hgrow2 (by have := HB.out.size; simp; omega) (fun j hj => ?_)
          rcases HO.out.2 with ⟨h, _⟩ | ⟨g', cap', cur, h, hb', _⟩
          · cases h; simp [Value.ownBlock] at hj
          · cases h; simp [Value.ownBlock] at hj; omega
      case measure => simp [intOf]; omega
    · obtain rfl : k = l.length := by omega
      clear hlt
      go_wp2_with fail
      go_ret2
      have hc : l.length ≤ c := by
        rcases HO.out.2 with h | ⟨g', cap', cur, h, _, _, hc, _⟩
        · cases h; omega
        · cases h; exact hc
      have ho := HO.out
      rw [List.take_length] at ho
      refine ⟨⟨A, c, ?_, ?_, ?_⟩, HB.out⟩
      · simp
      · simpa using hc
      · rw [List.length_map, List.map_map]; exact Reads.of_own ho
end Go.Proofs.YtdkclapinedgiaaGreatDoor

namespace Go.Proofs.YtdkclapinedgiaaGreatDoor
open Go.RowKit

/-- The first range among operands. -/
def scanF (which : Int) : List Int → Option (Int × Int)
  | [] => none
  | k :: r => if (rangeOf k which).2.2 then some ((rangeOf k which).1, (rangeOf k which).2.1) else scanF which r
/-- What the ranges of a row of operands have to do with its room. -/
def ScanIs (l : List UInt8 × Bool) : Prop :=
  let r := l.1.foldl Room.step room0
  let m := l.1.map kindOf
  scanF 0 m = (if r.a = 0 then none else some (0, r.a)) ∧ scanF 1 m = (if r.b = 0 then none else some (0, r.b)) ∧ scanF 2 m = (if r.c = 0 then none else some (0, r.c)) ∧
  scanF 3 m = (if r.d = 0 then none else some (0, r.d)) ∧ scanF 4 m = (if r.k then some (-128, 127) else none) ∧ scanF 5 m = (if r.i then some (0, 4294967295) else none)
set_option maxRecDepth 100000 in
theorem scan_is (op : Int) : ScanIs (opnd op) := by
  unfold opnd vecs
  repeat' (refine ite_P (P := ScanIs) ?_ ?_)
  all_goals (unfold ScanIs; decide +kernel)

/-- What a field's range is told to be. -/
def Told (o : Option (Int × Int)) (tv : Int) : Bool := match o with | some p => decide (p.1 ≤ tv ∧ tv ≤ p.2) | none => decide (tv = 0)
theorem set_valid (x : Insn) (which tv : Int) (hv : x.valid = true) (h0 : 0 ≤ which) (h5 : which ≤ 5) (hi : which = 5 → 0 ≤ tv ∧ tv ≤ 4294967295) :
    (setF x which tv).valid = Told (scanF which (kindsOf x.op)) tv := by
  obtain ⟨s0, s1, s2, s3, s4, s5⟩ := scan_is x.op
  have hr : List.foldl Room.step room0 (opnd x.op).1 = roomOf x.op := rfl
  have hm : (opnd x.op).1.map kindOf = kindsOf x.op := rfl
  rw [hr, hm] at s0 s1 s2 s3 s4 s5
  have hin := room_small x.op
  unfold RoomSmall at hin
  rw [hr] at hin
  have hv' := hv
  unfold Insn.valid Room.has within at hv'
  simp only [Bool.and_eq_true, Bool.or_eq_true, decide_eq_true_eq, beq_iff_eq] at hv'
  obtain ⟨ho, ⟨⟨⟨⟨⟨ha, ha'⟩, hb, hb'⟩, hc, hc'⟩, hd, hd'⟩, hk⟩, hii⟩ := hv'
  have : which = 0 ∨ which = 1 ∨ which = 2 ∨ which = 3 ∨ which = 4 ∨ which = 5 := by omega
  have told (c : Prop) [Decidable c] (lo hi : Int) : Told (if c then none else some (lo, hi)) tv = decide (if c then tv = 0 else lo ≤ tv ∧ tv ≤ hi) := by
    split <;> simp_all [Told]
  have told' (c : Bool) (lo hi : Int) : Told (if c then some (lo, hi) else none) tv = decide (if c then lo ≤ tv ∧ tv ≤ hi else tv = 0) := by
    cases c <;> simp [Told]
  rw [Bool.eq_iff_iff]
  rcases this with rfl | rfl | rfl | rfl | rfl | rfl
  · rw [s0, told]
    unfold Insn.valid Room.has within setF
    simp only [if_true, Bool.and_eq_true, Bool.or_eq_true, decide_eq_true_eq, beq_iff_eq]
    split <;> simp_all <;> omega
  · rw [s1, told]
    unfold Insn.valid Room.has within setF
    simp only [if_true, show ¬ (1 : Int) = 0 by decide, if_false, Bool.and_eq_true, Bool.or_eq_true, decide_eq_true_eq, beq_iff_eq]
    split <;> simp_all <;> omega
  · rw [s2, told]
    unfold Insn.valid Room.has within setF
    simp only [if_true, show ¬ (2 : Int) = 0 by decide, show ¬ (2 : Int) = 1 by decide, if_false, Bool.and_eq_true, Bool.or_eq_true, decide_eq_true_eq, beq_iff_eq]
    split <;> simp_all <;> omega
  · rw [s3, told]
    unfold Insn.valid Room.has within setF
    simp only [if_true, show ¬ (3 : Int) = 0 by decide, show ¬ (3 : Int) = 1 by decide, show ¬ (3 : Int) = 2 by decide, if_false, Bool.and_eq_true, Bool.or_eq_true, decide_eq_true_eq, beq_iff_eq]
    split <;> simp_all <;> omega
  · rw [s4, told']
    unfold Insn.valid Room.has within setF
    simp only [if_true, show ¬ (4 : Int) = 0 by decide, show ¬ (4 : Int) = 1 by decide, show ¬ (4 : Int) = 2 by decide, show ¬ (4 : Int) = 3 by decide, if_false, Bool.and_eq_true, Bool.or_eq_true, decide_eq_true_eq, beq_iff_eq]
    split <;> simp_all <;> omega
  · have hw : IntKind.u32.wrap tv = tv := by have := hi rfl; rw [IntKind.wrap_u32]; omega
    have hi := hi rfl
    rw [s5, told']
    unfold Insn.valid Room.has within setF
    simp only [hw, show ¬ (5 : Int) = 0 by decide, show ¬ (5 : Int) = 1 by decide, show ¬ (5 : Int) = 2 by decide, show ¬ (5 : Int) = 3 by decide, show ¬ (5 : Int) = 4 by decide, if_false, Bool.and_eq_true, Bool.or_eq_true, decide_eq_true_eq, beq_iff_eq]
    split <;> simp_all <;> omega

/-- What the walk knows of the world: the instruction lies in its box. -/
structure Una (w : World) (x : Insn) (W : World) : Prop where
  below : Below w.heap.size w W
  bx : Blk W w.heap.size 24 x.cs
theorem Una.step {w W W' : World} {x : Insn} (h : Una w x W) (hb : Below W.heap.size W W') : Una w x W' := ⟨h.below.call hb h.below.size, h.bx.call hb⟩
/-- Where the loop over the operands stands. -/
structure FldAt (w : World) (g n : Nat) (A : Option Addr) (y : Insn) (ks : List Int) (W : World) : Prop where
  below : Below w.heap.size w W
  by_ : Blk W g 24 y.cs
  reads : Reads W W.heap.size 1 A n (ks.map (.int .i64))
theorem FldAt.step {w W W' : World} {g n : Nat} {A : Option Addr} {y : Insn} {ks : List Int} (h : FldAt w g n A y ks W) (hb : Below W.heap.size W W') : FldAt w g n A y ks W' :=
  ⟨h.below.call hb h.below.size, h.by_.call hb, (h.reads.below hb).more hb.size⟩
theorem scan_drop (which : Int) (ks : List Int) (j : Nat) (hj : j < ks.length) : scanF which (ks.drop j) = if (rangeOf ks[j] which).2.2 then some ((rangeOf ks[j] which).1, (rangeOf ks[j] which).2.1) else scanF which (ks.drop (j + 1)) := by
  rw [List.drop_eq_getElem_cons hj]; rfl

set_option maxRecDepth 100000 in
set_option maxHeartbeats 40000000 in
theorem fields_walk (x y : Insn) (which tv : Int) (n : Nat) (b0 : Bool) (er : Int) (ks : List Int) (w : World)
    (hsane : ∀ W, Below w.heap.size w W → Calls Tryz.prog 15 #[] W fun e w' => e = .returned (.bool true) ∧ Below W.heap.size W w')
    (hF : ∀ W, Calls Tryz.prog 42 #[.int .i64 x.op] W fun e w' => (∃ A k, e = .returned (.tuple #[.slice A n k, .bool b0]) ∧ n ≤ k ∧ Reads w' w'.heap.size 1 A n (ks.map (.int .i64))) ∧ Below W.heap.size W w')
    (hC : ∀ W, Calls Tryz.prog 31 #[.agg x.cs] W fun e w' => e = .returned (.int .i64 er) ∧ Below W.heap.size W w')
    (hG : 0 ≤ which → which ≤ 5 → ∀ W, Calls Tryz.prog 45 #[.agg x.cs, .int .i64 which, .int .i64 tv] W fun e w' => e = .returned (.agg y.cs) ∧ Below W.heap.size W w')
    (hY : ∀ W, Calls Tryz.prog 31 #[.agg y.cs] W fun e w' => e = .returned (.int .i64 (if y.valid then 0 else 6)) ∧ Below W.heap.size W w')
    (hks : ks.length = n) (hn5 : n ≤ 5)
    (hb0 : b0 = false ∨ b0 = true ∧ er = 6 ∨ b0 = true ∧ er = 0 ∧ (0 ≤ which → which ≤ 5 → (which = 5 → 0 ≤ tv ∧ tv ≤ 4294967295) → y.valid = Told (scanF which ks) tv)) :
    Calls Tryz.prog 10 #[.agg x.cs, .int .i64 which, .int .i64 tv] w fun e w' => e = .returned (.bool true) ∧ Below w.heap.size w w' := by
  have HS := Lib.hid hsane
  have HF := Lib.hid hF
  have HC := Lib.hid hC
  have HG := Lib.hid hG
  have HY := Lib.hid hY
  have HK := Lib.hid hks
  have HN := Lib.hid hn5
  have HB0 := Lib.hid hb0
  clear hsane hF hC hG hY hks hn5 hb0
  unfold Insn.cs at HC HG HY ⊢
  go_enter Tryz.func10, Tryz.ntmps10
  go_wp2_with fail
  refine (HS.out _ ((Below.refl _ w).alloc (Nat.le_refl _) _)).mono ?_
  rintro e w1 ⟨rfl, hb⟩
  have H : Una w x w1 := Una.step ⟨(Below.refl _ w).alloc (Nat.le_refl _) _, Blk.new w 24 x.cs⟩ hb
  clear hb HS
  obtain ⟨a0, a1, a2, a3, a4, a5, a6, a7, a8, a9, a10, a11, a12, a13⟩ := H.bx.facts7
  replace H := Lib.hid H
  clear a7 a8 a9 a10 a11 a12 a13
  go_wp2_with fail
  refine (HF.out _).mono ?_
  rintro e w2 ⟨⟨A, c, rfl, hnc, hr⟩, hb⟩
  replace H := Lib.hid (H.out.step hb)
  have HR := Lib.hid hr
  clear a0 a1 a2 a3 a4 a5 a6 hb HF hr hnc
  obtain ⟨a0, a1, a2, a3, a4, a5, a6, a7, a8, a9, a10, a11, a12, a13⟩ := H.out.bx.facts7
  clear a7 a8 a9 a10 a11 a12 a13
  rcases HB0.out with rfl | ⟨rfl, rfl⟩ | ⟨rfl, rfl, hy⟩
  · clear HB0
    go_wp2_with fail
    go_ret
    exact ⟨rfl, H.out.below⟩
  · clear HB0
    go_wp2_with fail
    refine (HC.out _).mono ?_
    rintro e w3 ⟨rfl, hb⟩
    go_wp2_with fail
    go_ret
    exact ⟨rfl, (H.out.step hb).below⟩
  · clear HB0
    have HV := Lib.hid hy
    clear hy
    go_wp2_with fail
    refine (HC.out _).mono ?_
    rintro e w3 ⟨rfl, hb⟩
    replace H := Lib.hid (H.out.step hb)
    replace HR := Lib.hid ((HR.out.below hb).more hb.size)
    clear a0 a1 a2 a3 a4 a5 a6 hb HC
    obtain ⟨a0, a1, a2, a3, a4, a5, a6, a7, a8, a9, a10, a11, a12, a13⟩ := H.out.bx.facts7
    clear a7 a8 a9 a10 a11 a12 a13
    by_cases h0 : which < 0
    · go_wp2_with fail
      go_ret
      exact ⟨rfl, H.out.below⟩
    by_cases h5 : 5 < which
    · go_wp2_with fail
      go_ret
      exact ⟨rfl, H.out.below⟩
    by_cases hi : which = 5 ∧ (tv < 0 ∨ 4294967295 < tv)
    · obtain ⟨rfl, hi | hi⟩ := hi
      · go_wp2_with fail
        go_ret
        exact ⟨rfl, H.out.below⟩
      · go_wp2_with fail
        all_goals
          go_ret
          exact ⟨rfl, H.out.below⟩
    have HG1 := Lib.hid (HG.out (by omega) (by omega))
    have HV1 := Lib.hid (HV.out (by omega) (by omega) (fun e => by omega))
    have HRG := Lib.hid (fun k W => range_any k which (by omega) (by omega) W)
    clear HG HV
    by_cases h5' : which = 5
    · have t0 : ¬ tv < 0 := fun h => hi ⟨h5', .inl h⟩
      have t1 : ¬ 4294967295 < tv := fun h => hi ⟨h5', .inr h⟩
      have hb5 : (which == 5) = true := beq_iff_eq.2 h5'
      clear hi h5'
      go_wp2_with fail
      refine (HG1.out _).mono ?_
      rintro e w4 ⟨rfl, hb⟩
      have HW : Hid (FldAt w w4.heap.size n A y ks (w4.alloc (.cells y.cs 24))) := ⟨(H.out.step hb).below.alloc (H.out.step hb).below.size _, Blk.new w4 24 y.cs, (((HR.out.below hb).more hb.size).alloc (Nat.le_refl _) _).more (by simp)⟩
      clear a0 a1 a2 a3 a4 a5 a6 hb H HR HG1
      unfold Insn.cs at HW
      go_wp2_with fail
      go_loopw [56] (fun i wr => ∃ j : Nat, j ≤ n ∧ i = .int .i64 j ∧ FldAt w w4.heap.size n A y ks wr ∧ scanF which ks = scanF which (ks.drop j)) (fun i _ => n - (intOf i).toNat)
      case atStart => exact ⟨0, Nat.zero_le _, rfl, HW.out, rfl⟩
      case round =>
        obtain ⟨j, hj, rfl, hf, hs⟩ := hrel
        have HA := Lib.hid hf
        have HSC := Lib.hid hs
        clear HW hs
        have hnn := HN.out
        by_cases hlt : j < n
        · obtain ⟨ab, ao, rfl, _, hc⟩ := hf.reads.plain (by omega) (by decide)
          have hjk : j < ks.length := by rw [HK.out]; exact hlt
          have c0 := hc j (.int .i64 ks[j]) (by simp [hjk])
          clear hc hf
          have hd := scan_drop which ks j hjk
          by_cases hq : (rangeOf ks[j] which).2.2 = true
          · rw [if_pos hq] at hd
            have hyv := HV1.out
            rw [HSC.out, hd] at hyv
            have hr46 := HRG.out ks[j]
            unfold RangePost at hr46
            rw [hq] at hr46
            obtain ⟨lo, hlo⟩ : ∃ lo, (rangeOf ks[j] which).1 = lo := ⟨_, rfl⟩
            obtain ⟨hi', hhi⟩ : ∃ hi', (rangeOf ks[j] which).2.1 = hi' := ⟨_, rfl⟩
            rw [hlo, hhi] at hr46 hyv
            obtain ⟨κ, hκ⟩ : ∃ κ, ks[j] = κ := ⟨_, rfl⟩
            rw [hκ] at hr46 c0
            have H46 := Lib.hid hr46
            have hcase : ∃ ey : Int, (∀ W, Calls Tryz.prog 31 #[.agg #[.int .i64 y.op, .int .i64 y.a, .int .i64 y.b, .int .i64 y.c, .int .i64 y.d, .int .i64 y.k, .int .u32 y.i]] W fun e w' => e = .returned (.int .i64 ey) ∧ Below W.heap.size W w') ∧ (lo ≤ tv ∧ tv ≤ hi' ∧ ey = 0 ∨ ¬ lo ≤ tv ∧ ey = 6 ∨ lo ≤ tv ∧ ¬ tv ≤ hi' ∧ ey = 6) := by
              unfold Told at hyv
              dsimp only at hyv
              refine ⟨_, HY.out, ?_⟩
              rw [hyv]
              by_cases p1 : lo ≤ tv
              · by_cases p2 : tv ≤ hi'
                · left; simp [p1, p2]
                · right; right; simp [p1, p2]
              · right; left; simp [p1]
            obtain ⟨ey, hE, hcase⟩ := hcase
            have HE := Lib.hid hE
            clear hE hyv hlo hhi hr46 hq hd HSC HV1 HY HRG hκ hjk
            go_wp2_with fail
            refine (H46.out _).mono ?_
            rintro e w5 ⟨rfl, hb⟩
            have HA2 := Lib.hid (HA.out.step hb)
            obtain ⟨a0, a1, a2, a3, a4, a5, a6, a7, a8, a9, a10, a11, a12, a13⟩ := HA2.out.by_.facts7
            clear a7 a8 a9 a10 a11 a12 a13 hb HA c0 H46
            go_wp2_with fail
            refine (HE.out _).mono ?_
            rintro e w6 ⟨rfl, hb⟩
            clear a0 a1 a2 a3 a4 a5 a6 HE
            rcases hcase with ⟨p1, p2, rfl⟩ | ⟨p1, rfl⟩ | ⟨p1, p2, rfl⟩
            · go_wp2_with fail
              go_ret
              exact ⟨rfl, (HA2.out.step hb).below⟩
            · go_wp2_with fail
              go_ret
              exact ⟨rfl, (HA2.out.step hb).below⟩
            · have p2b : decide (tv ≤ hi') = false := decide_eq_false (by omega)
              clear p2
              go_wp2_with fail
              go_ret
              exact ⟨rfl, (HA2.out.step hb).below⟩
          · rw [if_neg hq] at hd
            rw [Bool.not_eq_true] at hq
            have hr46 := HRG.out ks[j]
            unfold RangePost at hr46
            rw [hq] at hr46
            obtain ⟨lo, hlo⟩ : ∃ lo, (rangeOf ks[j] which).1 = lo := ⟨_, rfl⟩
            obtain ⟨hi', hhi⟩ : ∃ hi', (rangeOf ks[j] which).2.1 = hi' := ⟨_, rfl⟩
            rw [hlo, hhi] at hr46
            have HD := Lib.hid hd
            obtain ⟨κ, hκ⟩ : ∃ κ, ks[j] = κ := ⟨_, rfl⟩
            rw [hκ] at hr46 c0
            have H46 := Lib.hid hr46
            clear hlo hhi hr46 hq hd hκ hjk
            go_wp2_with fail
            refine (H46.out _).mono ?_
            rintro e w5 ⟨rfl, hb⟩
            have HA2 := Lib.hid (HA.out.step hb)
            clear hb HA c0 H46
            go_wp2_with fail
            go_roundw
            case rel => exact ⟨j + 1, by omega, by go_num, HA2.out, HSC.out.trans HD.out⟩
            case measure => simp [intOf]; omega
        · obtain rfl : j = n := by omega
          clear hf hlt hj
          have hyv := HV1.out
          rw [HSC.out, List.drop_of_length_le (by rw [HK.out]; exact Nat.le_refl _)] at hyv
          have hcase : ∃ ey : Int, (∀ W, Calls Tryz.prog 31 #[.agg #[.int .i64 y.op, .int .i64 y.a, .int .i64 y.b, .int .i64 y.c, .int .i64 y.d, .int .i64 y.k, .int .u32 y.i]] W fun e w' => e = .returned (.int .i64 ey) ∧ Below W.heap.size W w') ∧ (tv = 0 ∧ ey = 0 ∨ ¬ tv = 0 ∧ ey = 6) := by
            simp only [scanF, Told] at hyv
            refine ⟨_, HY.out, ?_⟩
            rw [hyv]
            by_cases p1 : tv = 0
            · left; simp [p1]
            · right; simp [p1]
          obtain ⟨ey, hE, hcase⟩ := hcase
          have HE := Lib.hid hE
          obtain ⟨a0, a1, a2, a3, a4, a5, a6, a7, a8, a9, a10, a11, a12, a13⟩ := HA.out.by_.facts7
          clear a7 a8 a9 a10 a11 a12 a13 hE hyv HSC HV1 HY HRG
          go_wp2_with fail
          refine (HE.out _).mono ?_
          rintro e w6 ⟨rfl, hb⟩
          clear a0 a1 a2 a3 a4 a5 a6 HE
          rcases hcase with ⟨rfl, rfl⟩ | ⟨p1, rfl⟩
          · go_wp2_with fail
            go_ret
            exact ⟨rfl, (HA.out.step hb).below⟩
          · have p1b : (tv == 0) = false := beq_eq_false_iff_ne.2 p1
            clear p1
            go_wp2_with fail
            go_ret
            exact ⟨rfl, (HA.out.step hb).below⟩
    · have hb5 : (which == 5) = false := beq_eq_false_iff_ne.2 h5'
      clear hi h5'
      go_wp2_with fail
      refine (HG1.out _).mono ?_
      rintro e w4 ⟨rfl, hb⟩
      have HW : Hid (FldAt w w4.heap.size n A y ks (w4.alloc (.cells y.cs 24))) := ⟨(H.out.step hb).below.alloc (H.out.step hb).below.size _, Blk.new w4 24 y.cs, (((HR.out.below hb).more hb.size).alloc (Nat.le_refl _) _).more (by simp)⟩
      clear a0 a1 a2 a3 a4 a5 a6 hb H HR HG1
      unfold Insn.cs at HW
      go_wp2_with fail
      go_loopw [56] (fun i wr => ∃ j : Nat, j ≤ n ∧ i = .int .i64 j ∧ FldAt w w4.heap.size n A y ks wr ∧ scanF which ks = scanF which (ks.drop j)) (fun i _ => n - (intOf i).toNat)
      case atStart => exact ⟨0, Nat.zero_le _, rfl, HW.out, rfl⟩
      case round =>
        obtain ⟨j, hj, rfl, hf, hs⟩ := hrel
        have HA := Lib.hid hf
        have HSC := Lib.hid hs
        clear HW hs
        have hnn := HN.out
        by_cases hlt : j < n
        · obtain ⟨ab, ao, rfl, _, hc⟩ := hf.reads.plain (by omega) (by decide)
          have hjk : j < ks.length := by rw [HK.out]; exact hlt
          have c0 := hc j (.int .i64 ks[j]) (by simp [hjk])
          clear hc hf
          have hd := scan_drop which ks j hjk
          by_cases hq : (rangeOf ks[j] which).2.2 = true
          · rw [if_pos hq] at hd
            have hyv := HV1.out
            rw [HSC.out, hd] at hyv
            have hr46 := HRG.out ks[j]
            unfold RangePost at hr46
            rw [hq] at hr46
            obtain ⟨lo, hlo⟩ : ∃ lo, (rangeOf ks[j] which).1 = lo := ⟨_, rfl⟩
            obtain ⟨hi', hhi⟩ : ∃ hi', (rangeOf ks[j] which).2.1 = hi' := ⟨_, rfl⟩
            rw [hlo, hhi] at hr46 hyv
            obtain ⟨κ, hκ⟩ : ∃ κ, ks[j] = κ := ⟨_, rfl⟩
            rw [hκ] at hr46 c0
            have H46 := Lib.hid hr46
            have hcase : ∃ ey : Int, (∀ W, Calls Tryz.prog 31 #[.agg #[.int .i64 y.op, .int .i64 y.a, .int .i64 y.b, .int .i64 y.c, .int .i64 y.d, .int .i64 y.k, .int .u32 y.i]] W fun e w' => e = .returned (.int .i64 ey) ∧ Below W.heap.size W w') ∧ (lo ≤ tv ∧ tv ≤ hi' ∧ ey = 0 ∨ ¬ lo ≤ tv ∧ ey = 6 ∨ lo ≤ tv ∧ ¬ tv ≤ hi' ∧ ey = 6) := by
              unfold Told at hyv
              dsimp only at hyv
              refine ⟨_, HY.out, ?_⟩
              rw [hyv]
              by_cases p1 : lo ≤ tv
              · by_cases p2 : tv ≤ hi'
                · left; simp [p1, p2]
                · right; right; simp [p1, p2]
              · right; left; simp [p1]
            obtain ⟨ey, hE, hcase⟩ := hcase
            have HE := Lib.hid hE
            clear hE hyv hlo hhi hr46 hq hd HSC HV1 HY HRG hκ hjk
            go_wp2_with fail
            refine (H46.out _).mono ?_
            rintro e w5 ⟨rfl, hb⟩
            have HA2 := Lib.hid (HA.out.step hb)
            obtain ⟨a0, a1, a2, a3, a4, a5, a6, a7, a8, a9, a10, a11, a12, a13⟩ := HA2.out.by_.facts7
            clear a7 a8 a9 a10 a11 a12 a13 hb HA c0 H46
            go_wp2_with fail
            refine (HE.out _).mono ?_
            rintro e w6 ⟨rfl, hb⟩
            clear a0 a1 a2 a3 a4 a5 a6 HE
            rcases hcase with ⟨p1, p2, rfl⟩ | ⟨p1, rfl⟩ | ⟨p1, p2, rfl⟩
            · go_wp2_with fail
              go_ret
              exact ⟨rfl, (HA2.out.step hb).below⟩
            · go_wp2_with fail
              go_ret
              exact ⟨rfl, (HA2.out.step hb).below⟩
            · have p2b : decide (tv ≤ hi') = false := decide_eq_false (by omega)
              clear p2
              go_wp2_with fail
              go_ret
              exact ⟨rfl, (HA2.out.step hb).below⟩
          · rw [if_neg hq] at hd
            rw [Bool.not_eq_true] at hq
            have hr46 := HRG.out ks[j]
            unfold RangePost at hr46
            rw [hq] at hr46
            obtain ⟨lo, hlo⟩ : ∃ lo, (rangeOf ks[j] which).1 = lo := ⟨_, rfl⟩
            obtain ⟨hi', hhi⟩ : ∃ hi', (rangeOf ks[j] which).2.1 = hi' := ⟨_, rfl⟩
            rw [hlo, hhi] at hr46
            have HD := Lib.hid hd
            obtain ⟨κ, hκ⟩ : ∃ κ, ks[j] = κ := ⟨_, rfl⟩
            rw [hκ] at hr46 c0
            have H46 := Lib.hid hr46
            clear hlo hhi hr46 hq hd hκ hjk
            go_wp2_with fail
            refine (H46.out _).mono ?_
            rintro e w5 ⟨rfl, hb⟩
            have HA2 := Lib.hid (HA.out.step hb)
            clear hb HA c0 H46
            go_wp2_with fail
            go_roundw
            case rel => exact ⟨j + 1, by omega, by go_num, HA2.out, HSC.out.trans HD.out⟩
            case measure => simp [intOf]; omega
        · obtain rfl : j = n := by omega
          clear hf hlt hj
          have hyv := HV1.out
          rw [HSC.out, List.drop_of_length_le (by rw [HK.out]; exact Nat.le_refl _)] at hyv
          have hcase : ∃ ey : Int, (∀ W, Calls Tryz.prog 31 #[.agg #[.int .i64 y.op, .int .i64 y.a, .int .i64 y.b, .int .i64 y.c, .int .i64 y.d, .int .i64 y.k, .int .u32 y.i]] W fun e w' => e = .returned (.int .i64 ey) ∧ Below W.heap.size W w') ∧ (tv = 0 ∧ ey = 0 ∨ ¬ tv = 0 ∧ ey = 6) := by
            simp only [scanF, Told] at hyv
            refine ⟨_, HY.out, ?_⟩
            rw [hyv]
            by_cases p1 : tv = 0
            · left; simp [p1]
            · right; simp [p1]
          obtain ⟨ey, hE, hcase⟩ := hcase
          have HE := Lib.hid hE
          obtain ⟨a0, a1, a2, a3, a4, a5, a6, a7, a8, a9, a10, a11, a12, a13⟩ := HA.out.by_.facts7
          clear a7 a8 a9 a10 a11 a12 a13 hE hyv HSC HV1 HY HRG
          go_wp2_with fail
          refine (HE.out _).mono ?_
          rintro e w6 ⟨rfl, hb⟩
          clear a0 a1 a2 a3 a4 a5 a6 HE
          rcases hcase with ⟨rfl, rfl⟩ | ⟨p1, rfl⟩
          · go_wp2_with fail
            go_ret
            exact ⟨rfl, (HA.out.step hb).below⟩
          · have p1b : (tv == 0) = false := beq_eq_false_iff_ne.2 p1
            clear p1
            go_wp2_with fail
            go_ret
            exact ⟨rfl, (HA.out.step hb).below⟩

theorem fields_of (x : Insn) (which tv : Int) (xk0 : -9223372036854775808 ≤ x.k) (xk1 : x.k ≤ 9223372036854775807) (t0 : -9223372036854775808 ≤ tv) (t1 : tv ≤ 9223372036854775807) (w : World)
    (hsane : ∀ W, Below w.heap.size w W → Calls Tryz.prog 15 #[] W fun e w' => e = .returned (.bool true) ∧ Below W.heap.size W w') :
    Calls Tryz.prog 10 #[.agg x.cs, .int .i64 which, .int .i64 tv] w fun e w' => e = .returned (.bool true) ∧ Below w.heap.size w w' := by
  have hyk : -9223372036854775808 ≤ (setF x which tv).k ∧ (setF x which tv).k ≤ 9223372036854775807 := by
    unfold setF
    repeat' split
    all_goals exact ⟨by first | exact xk0 | exact t0, by first | exact xk1 | exact t1⟩
  refine fields_walk x (setF x which tv) which tv _ (opnd x.op).2 (if x.valid then 0 else 6) (kindsOf x.op) w hsane (fun W => Fields_any x.op W) (fun W => check_any x W xk0 xk1)
    (fun h0 h5 W => field_any x which tv h0 h5 W) (fun W => check_any _ W hyk.1 hyk.2) rfl (by unfold kindsOf; rw [List.length_map]; exact opnd_len x.op) ?_
  by_cases ho : (opnd x.op).2 = true
  · right
    by_cases hv : x.valid = true
    · right
      refine ⟨ho, by rw [hv]; rfl, fun h0 h5 hi => set_valid x which tv hv h0 h5 hi⟩
    · left
      refine ⟨ho, if_neg hv⟩
  · left
    exact Bool.not_eq_true _ ▸ ho
end Go.Proofs.YtdkclapinedgiaaGreatDoor
