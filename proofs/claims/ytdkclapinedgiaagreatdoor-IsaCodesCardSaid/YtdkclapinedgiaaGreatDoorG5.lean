/- Maps from letters to functions: laws; the tables of writers and of readers. -/
import Derived.Test.YtdkclapinedgiaaGreatDoorG0
import Derived.WalkKit
import Derived.WalkSpells
import Derived.WalkLawsBesides
import Derived.MapKept
namespace Go.Proofs.YtdkclapinedgiaaGreatDoor
open Go.RowKit

/-- The entries of a map from letters to functions without captures, in the order in which they came. -/
def tabFrom : Nat → List (Int × Nat) → List MapEntry
  | _, [] => []
  | n, (k, f) :: l => { key := .int .u8 k, val := .func (.func f) #[] #[], born := n } :: tabFrom (n + 1) l
def mapTab (l : List (Int × Nat)) : Array MapEntry := (tabFrom 0 l).toArray
theorem tabFrom_snoc (n : Nat) (l : List (Int × Nat)) (k : Int) (f : Nat) : tabFrom n (l ++ [(k, f)]) = tabFrom n l ++ [{ key := .int .u8 k, val := .func (.func f) #[] #[], born := n + l.length }] := by
  induction l generalizing n with
  | nil => simp [tabFrom]
  | cons p l ih =>
    obtain ⟨k', f'⟩ := p
    simp [tabFrom, ih]; omega
theorem mapTab_snoc (l : List (Int × Nat)) (k : Int) (f : Nat) : mapTab (l ++ [(k, f)]) = (mapTab l).push { key := .int .u8 k, val := .func (.func f) #[] #[], born := l.length } := by
  unfold mapTab
  rw [tabFrom_snoc]
  simp
theorem findNow_new (k : Int) (l : List (Int × Nat)) (h : ∀ p ∈ l, p.1 ≠ k) (n i : Nat) : Instr.findNow (.int .u8) (.int .u8 k) (tabFrom n l) i = some none := by
  induction l generalizing n i with
  | nil => rfl
  | cons p l ih =>
    obtain ⟨k', f'⟩ := p
    have hk : k' ≠ k := h (k', f') (by simp)
    have : (k == k') = false := by simp; exact fun e => hk e.symm
    simp only [tabFrom, Instr.findNow, Instr.sameNow, if_true, this]
    exact ih (fun p hp => h p (by simp [hp])) _ _
theorem findNow_hit (k : Int) (l : List (Int × Nat)) (f : Nat) (h : l.find? (fun p => p.1 == k) = some (k, f)) (n i : Nat) : ∃ j, Instr.findNow (.int .u8) (.int .u8 k) (tabFrom n l) i = some (some (j, .func (.func f) #[] #[])) := by
  induction l generalizing n i with
  | nil => simp at h
  | cons p l ih =>
    obtain ⟨k', f'⟩ := p
    by_cases hk : k' = k
    · subst hk
      simp at h
      subst h
      exact ⟨i, by simp [tabFrom, Instr.findNow, Instr.sameNow]⟩
    · have hb : (k == k') = false := by simp; exact fun e => hk e.symm
      rw [List.find?_cons_of_neg (by simpa using hk)] at h
      obtain ⟨j, hj⟩ := ih h (n + 1) (i + 1)
      exact ⟨j, by simp only [tabFrom, Instr.findNow, Instr.sameNow, if_true, hb]; exact hj⟩

theorem push_set (h : Array Obj) (a b : Obj) : (h.push a).setIfInBounds h.size b = h.push b := by
  apply Array.ext_getElem?
  intro i
  rw [Array.getElem?_setIfInBounds, Array.getElem?_push, Array.getElem?_push]
  by_cases hi : i = h.size
  · subst hi; simp
  · rw [if_neg (fun e => hi e.symm), if_neg hi, if_neg hi]
theorem run_insert_tab {T e : TypeId} (hT : Tryz.prog.underlying T = some (.map 5 e)) (w : World) (l : List (Int × Nat)) (k : Int) (f : Nat) (hnew : ∀ p ∈ l, p.1 ≠ k) :
    (Instr.mapUpdate T (.map (some w.heap.size)) (.int .u8 k) (.func (.func f) #[] #[])).run Tryz.prog (w.alloc (.map (mapTab l) l.length)) = .ok () (w.alloc (.map (mapTab (l ++ [(k, f)])) (l.length + 1))) := by
  have hb : (w.alloc (.map (mapTab l) l.length)).heap[w.heap.size]? = some (.map (mapTab l) l.length) := heap_alloc_new w _
  have hf : Instr.findNow (.int .u8) (.int .u8 k) (mapTab l).toList 0 = some none := by simp [mapTab, findNow_new k l hnew]
  have hs : ({ (w.alloc (.map (mapTab l) l.length)) with heap := (w.alloc (.map (mapTab l) l.length)).heap.setIfInBounds w.heap.size (.map (mapTab (l ++ [(k, f)])) (l.length + 1)) } : World) = w.alloc (.map (mapTab (l ++ [(k, f)])) (l.length + 1)) := by
    simp only [World.alloc]
    rw [push_set]
  rw [mapTab_snoc] at hs ⊢
  simp [Instr.mapUpdate, run_underlying hT, MapKept.run_getObj_map hb, MapKept.run_checkKey Tryz.underlying5 (show MapKept.IsKey (.int .u8) (.int .u8 k) from rfl), MapKept.run_findKey Tryz.underlying5 hf, MapKept.run_setObj_map _ hb, Result.andThen]
  exact hs

theorem run_lookup_tab {T e : TypeId} (hT : Tryz.prog.underlying T = some (.map 5 e)) (w : World) (r n : Nat) (l : List (Int × Nat)) (hr : w.heap[r]? = some (.map (mapTab l) n)) (k : Int) (f : Nat) (h : l.find? (fun p => p.1 == k) = some (k, f)) :
    (Instr.lookup T (.map (some r)) (.int .u8 k) false).run Tryz.prog w = .ok (.func (.func f) #[] #[]) w := by
  obtain ⟨j, hj⟩ := findNow_hit k l f h 0 0
  have hf : Instr.findNow (.int .u8) (.int .u8 k) (mapTab l).toList 0 = some (some (j, .func (.func f) #[] #[])) := by simp [mapTab, hj]
  simp [Instr.lookup, run_underlying hT, MapKept.run_getObj_map hr, MapKept.run_checkKey Tryz.underlying5 (show MapKept.IsKey (.int .u8) (.int .u8 k) from rfl), MapKept.run_findKey Tryz.underlying5 hf, Result.andThen]

theorem wpList_insert_tab {ops : Array Oper} {rest : List Oper} {o : Oper} {a : Act} {Q : Exit → Act → World → Prop} {w : World} (hg : o.guard = none) {T e : TypeId} (hT : Tryz.prog.underlying T = some (.map 5 e)) (m k x : Operand) (ho : o.op = .insert T m k x)
    (l : List (Int × Nat)) (kk : Int) (f : Nat) (hm : a.eval m = .map (some w.heap.size)) (hk : a.eval k = .int .u8 kk) (hx : a.eval x = .func (.func f) #[] #[]) (hnew : ∀ p ∈ l, p.1 ≠ kk)
    (h : wpList Tryz.prog ops Q rest (a.put o.dst undef) (w.alloc (.map (mapTab (l ++ [(kk, f)])) (l.length + 1)))) : wpList Tryz.prog ops Q (o :: rest) a (w.alloc (.map (mapTab l) l.length)) := by
  refine wpList_plain hg fun K' hK' => ?_
  unfold Oper.wp
  simp [execOp, ho, hm, hx, hk, run_insert_tab hT w l kk f hnew, Result.andThen]
  exact hK' _ _ h

def writersTab : List (Int × Nat) := [(97, 94), (98, 96), (99, 97), (65, 98), (66, 99), (67, 100), (100, 101), (101, 103), (108, 105), (119, 107), (115, 109), (107, 110), (105, 111), (110, 113), (109, 114)]
def readersTab : List (Int × Nat) := [(97, 142), (98, 144), (99, 145), (65, 146), (66, 147), (67, 148), (100, 149), (101, 150), (108, 151), (119, 152), (115, 153), (107, 154), (105, 155), (110, 157), (109, 160)]

def MapPost (w : World) (l : List (Int × Nat)) (e : Ending) (w' : World) : Prop := ∃ r, e = .returned (.map (some r)) ∧ w'.heap[r]? = some (.map (mapTab l) l.length) ∧ w.heap.size ≤ r ∧ Below w.heap.size w w'
set_option maxRecDepth 100000 in
set_option maxHeartbeats 4000000 in
theorem writers_any (w : World) : Calls Tryz.prog 59 #[] w (MapPost w writersTab) := by
  have hmm : ∀ w, (Instr.makeMap 83 none).run Tryz.prog w = .ok (.map (some w.heap.size)) (w.alloc (.map (mapTab []) 0)) := fun w => run_makeMap 83 w
  go_enter Tryz.func59, Tryz.ntmps59
  go_wp2_with (refine wpList_insert_tab rfl Tryz.underlying83 _ _ _ rfl _ _ _ rfl rfl rfl (by decide) ?_)
  go_ret
  exact ⟨_, rfl, heap_alloc_new w _, Nat.le_refl _, (Below.refl _ w).alloc (Nat.le_refl _) _⟩
set_option maxRecDepth 100000 in
set_option maxHeartbeats 4000000 in
theorem readers_any (w : World) : Calls Tryz.prog 123 #[] w (MapPost w readersTab) := by
  have hmm : ∀ w, (Instr.makeMap 140 none).run Tryz.prog w = .ok (.map (some w.heap.size)) (w.alloc (.map (mapTab []) 0)) := fun w => run_makeMap 140 w
  go_enter Tryz.func123, Tryz.ntmps123
  go_wp2_with (refine wpList_insert_tab rfl Tryz.underlying140 _ _ _ rfl _ _ _ rfl rfl rfl (by decide) ?_)
  go_ret
  exact ⟨_, rfl, heap_alloc_new w _, Nat.le_refl _, (Below.refl _ w).alloc (Nat.le_refl _) _⟩
end Go.Proofs.YtdkclapinedgiaaGreatDoor
