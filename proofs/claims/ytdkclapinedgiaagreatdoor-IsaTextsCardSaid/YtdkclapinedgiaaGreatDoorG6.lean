/- Maps from letters to functions: laws; the tables of writers and of readers. -/
/- Text: which writer a letter has; the plain text of an instruction. -/
import Derived.Test.YtdkclapinedgiaaGreatDoorG0
import Derived.WalkKit
import Derived.WalkSpells
import Derived.WalkLawsBesides
import Derived.MapKept
import Derived.Test.YtdkclapinedgiaaGreatDoorG4
import Derived.Test.YtdkclapinedgiaaGreatDoorC3
import Derived.Test.YtdkclapinedgiaaGreatDoorD2

namespace Go.Proofs.YtdkclapinedgiaaGreatDoor
open Go.RowKit

/-- The entries of a map from letters to functions without captures, in the order in which they came. -/
def tabFrom : Nat → List (Int × Nat) → List MapEntry
  | _, [] => []
  | n, (k, f) :: l => { key := .int .u8 k, val := .func (.func f) #[] #[], born := n } :: tabFrom (n + 1) l
def mapTab (l : List (Int × Nat)) : Array MapEntry := (tabFrom 0 l).toArray
theorem tabFrom_snoc (n : Nat) (l : List (Int × Nat)) (k : Int) (f : Nat) : tabFrom n (l ++ [(k, f)]) = tabFrom n l ++ [{ key := .int .u8 k, val := .func (.func f) #[] #[], born := n + l.length }] := by
  induction l generalizing n with
  | nil => simp [tabFrom]
  | cons p l ih =>
    obtain ⟨k', f'⟩ := p
    simp [tabFrom, ih]; omega
theorem mapTab_snoc (l : List (Int × Nat)) (k : Int) (f : Nat) : mapTab (l ++ [(k, f)]) = (mapTab l).push { key := .int .u8 k, val := .func (.func f) #[] #[], born := l.length } := by
  unfold mapTab
  rw [tabFrom_snoc]
  simp
theorem findNow_new (k : Int) (l : List (Int × Nat)) (h : ∀ p ∈ l, p.1 ≠ k) (n i : Nat) : Instr.findNow (.int .u8) (.int .u8 k) (tabFrom n l) i = some none := by
  induction l generalizing n i with
  | nil => rfl
  | cons p l ih =>
    obtain ⟨k', f'⟩ := p
    have hk : k' ≠ k := h (k', f') (by simp)
    have : (k == k') = false := by simp; exact fun e => hk e.symm
    simp only [tabFrom, Instr.findNow, Instr.sameNow, if_true, this]
    exact ih (fun p hp => h p (by simp [hp])) _ _
theorem findNow_hit (k : Int) (l : List (Int × Nat)) (f : Nat) (h : l.find? (fun p => p.1 == k) = some (k, f)) (n i : Nat) : ∃ j, Instr.findNow (.int .u8) (.int .u8 k) (tabFrom n l) i = some (some (j, .func (.func f) #[] #[])) := by
  induction l generalizing n i with
  | nil => simp at h
  | cons p l ih =>
    obtain ⟨k', f'⟩ := p
    by_cases hk : k' = k
    · subst hk
      simp at h
      subst h
      exact ⟨i, by simp [tabFrom, Instr.findNow, Instr.sameNow]⟩
    · have hb : (k == k') = false := by simp; exact fun e => hk e.symm
      rw [List.find?_cons_of_neg (by simpa using hk)] at h
      obtain ⟨j, hj⟩ := ih h (n + 1) (i + 1)
      exact ⟨j, by simp only [tabFrom, Instr.findNow, Instr.sameNow, if_true, hb]; exact hj⟩

theorem push_set (h : Array Obj) (a b : Obj) : (h.push a).setIfInBounds h.size b = h.push b := by
  apply Array.ext_getElem?
  intro i
  rw [Array.getElem?_setIfInBounds, Array.getElem?_push, Array.getElem?_push]
  by_cases hi : i = h.size
  · subst hi; simp
  · rw [if_neg (fun e => hi e.symm), if_neg hi, if_neg hi]
theorem run_insert_tab {T e : TypeId} (hT : Tryz.prog.underlying T = some (.map 5 e)) (w : World) (l : List (Int × Nat)) (k : Int) (f : Nat) (hnew : ∀ p ∈ l, p.1 ≠ k) :
    (Instr.mapUpdate T (.map (some w.heap.size)) (.int .u8 k) (.func (.func f) #[] #[])).run Tryz.prog (w.alloc (.map (mapTab l) l.length)) = .ok () (w.alloc (.map (mapTab (l ++ [(k, f)])) (l.length + 1))) := by
  have hb : (w.alloc (.map (mapTab l) l.length)).heap[w.heap.size]? = some (.map (mapTab l) l.length) := heap_alloc_new w _
  have hf : Instr.findNow (.int .u8) (.int .u8 k) (mapTab l).toList 0 = some none := by simp [mapTab, findNow_new k l hnew]
  have hs : ({ (w.alloc (.map (mapTab l) l.length)) with heap := (w.alloc (.map (mapTab l) l.length)).heap.setIfInBounds w.heap.size (.map (mapTab (l ++ [(k, f)])) (l.length + 1)) } : World) = w.alloc (.map (mapTab (l ++ [(k, f)])) (l.length + 1)) := by
    simp only [World.alloc]
    rw [push_set]
  rw [mapTab_snoc] at hs ⊢
  simp [Instr.mapUpdate, run_underlying hT, MapKept.run_getObj_map hb, MapKept.run_checkKey Tryz.underlying5 (show MapKept.IsKey (.int .u8) (.int .u8 k) from rfl), MapKept.run_findKey Tryz.underlying5 hf, MapKept.run_setObj_map _ hb, Result.andThen]
  exact hs

theorem run_lookup_tab {T e : TypeId} (hT : Tryz.prog.underlying T = some (.map 5 e)) (w : World) (r n : Nat) (l : List (Int × Nat)) (hr : w.heap[r]? = some (.map (mapTab l) n)) (k : Int) (f : Nat) (h : l.find? (fun p => p.1 == k) = some (k, f)) :
    (Instr.lookup T (.map (some r)) (.int .u8 k) false).run Tryz.prog w = .ok (.func (.func f) #[] #[]) w := by
  obtain ⟨j, hj⟩ := findNow_hit k l f h 0 0
  have hf : Instr.findNow (.int .u8) (.int .u8 k) (mapTab l).toList 0 = some (some (j, .func (.func f) #[] #[])) := by simp [mapTab, hj]
  simp [Instr.lookup, run_underlying hT, MapKept.run_getObj_map hr, MapKept.run_checkKey Tryz.underlying5 (show MapKept.IsKey (.int .u8) (.int .u8 k) from rfl), MapKept.run_findKey Tryz.underlying5 hf, Result.andThen]

theorem wpList_insert_tab {ops : Array Oper} {rest : List Oper} {o : Oper} {a : Act} {Q : Exit → Act → World → Prop} {w : World} (hg : o.guard = none) {T e : TypeId} (hT : Tryz.prog.underlying T = some (.map 5 e)) (m k x : Operand) (ho : o.op = .insert T m k x)
    (l : List (Int × Nat)) (kk : Int) (f : Nat) (hm : a.eval m = .map (some w.heap.size)) (hk : a.eval k = .int .u8 kk) (hx : a.eval x = .func (.func f) #[] #[]) (hnew : ∀ p ∈ l, p.1 ≠ kk)
    (h : wpList Tryz.prog ops Q rest (a.put o.dst undef) (w.alloc (.map (mapTab (l ++ [(kk, f)])) (l.length + 1)))) : wpList Tryz.prog ops Q (o :: rest) a (w.alloc (.map (mapTab l) l.length)) := by
  refine wpList_plain hg fun K' hK' => ?_
  unfold Oper.wp
  simp [execOp, ho, hm, hx, hk, run_insert_tab hT w l kk f hnew, Result.andThen]
  exact hK' _ _ h

def writersTab : List (Int × Nat) := [(97, 94), (98, 96), (99, 97), (65, 98), (66, 99), (67, 100), (100, 101), (101, 103), (108, 105), (119, 107), (115, 109), (107, 110), (105, 111), (110, 113), (109, 114)]
def readersTab : List (Int × Nat) := [(97, 142), (98, 144), (99, 145), (65, 146), (66, 147), (67, 148), (100, 149), (101, 150), (108, 151), (119, 152), (115, 153), (107, 154), (105, 155), (110, 157), (109, 160)]

def MapPost (w : World) (l : List (Int × Nat)) (e : Ending) (w' : World) : Prop := ∃ r, e = .returned (.map (some r)) ∧ w'.heap[r]? = some (.map (mapTab l) l.length) ∧ w.heap.size ≤ r ∧ Below w.heap.size w w'
set_option maxRecDepth 100000 in
set_option maxHeartbeats 4000000 in
theorem writers_any (w : World) : Calls Tryz.prog 59 #[] w (MapPost w writersTab) := by
  have hmm : ∀ w, (Instr.makeMap 83 none).run Tryz.prog w = .ok (.map (some w.heap.size)) (w.alloc (.map (mapTab []) 0)) := fun w => run_makeMap 83 w
  go_enter Tryz.func59, Tryz.ntmps59
  go_wp2_with (refine wpList_insert_tab rfl Tryz.underlying83 _ _ _ rfl _ _ _ rfl rfl rfl (by decide) ?_)
  go_ret
  exact ⟨_, rfl, heap_alloc_new w _, Nat.le_refl _, (Below.refl _ w).alloc (Nat.le_refl _) _⟩
set_option maxRecDepth 100000 in
set_option maxHeartbeats 4000000 in
theorem readers_any (w : World) : Calls Tryz.prog 123 #[] w (MapPost w readersTab) := by
  have hmm : ∀ w, (Instr.makeMap 140 none).run Tryz.prog w = .ok (.map (some w.heap.size)) (w.alloc (.map (mapTab []) 0)) := fun w => run_makeMap 140 w
  go_enter Tryz.func123, Tryz.ntmps123
  go_wp2_with (refine wpList_insert_tab rfl Tryz.underlying140 _ _ _ rfl _ _ _ rfl rfl rfl (by decide) ?_)
  go_ret
  exact ⟨_, rfl, heap_alloc_new w _, Nat.le_refl _, (Below.refl _ w).alloc (Nat.le_refl _) _⟩
end Go.Proofs.YtdkclapinedgiaaGreatDoor

namespace Go.Proofs.YtdkclapinedgiaaGreatDoor
open Go.RowKit

def letters : List UInt8 := [97, 98, 99, 65, 66, 67, 100, 101, 108, 119, 115, 107, 105, 110, 109]
/-- The field of a letter lies where the writer can read it. -/
def Fits (c : UInt8) (x : Insn) : Prop := c ∈ letters ∧ (c = 100 → 0 ≤ x.d ∧ x.d < 16) ∧ (c = 101 → 0 ≤ x.d ∧ x.d < 4) ∧ (c = 108 → 0 ≤ x.d ∧ x.d < 3)
def FitsD (l : List UInt8 × Bool) : Prop := ∀ c ∈ l.1, c ∈ letters ∧ (c = 100 → (l.1.foldl Room.step room0).d ≤ 15) ∧ (c = 101 → (l.1.foldl Room.step room0).d ≤ 3) ∧ (c = 108 → (l.1.foldl Room.step room0).d ≤ 2)
theorem opnd_fits (op : Int) : FitsD (opnd op) := by
  unfold opnd vecs
  repeat' (refine ite_P (P := FitsD) ?_ ?_)
  all_goals (unfold FitsD; decide)
theorem Insn.fits {x : Insn} (h : x.valid = true) : ∀ c ∈ (opnd x.op).1, Fits c x := by
  intro c hc
  have hf := opnd_fits x.op c hc
  have e : List.foldl Room.step room0 (opnd x.op).1 = roomOf x.op := rfl
  rw [e] at hf
  unfold Insn.valid Room.has within at h
  simp only [Bool.and_eq_true, Bool.or_eq_true, decide_eq_true_eq, beq_iff_eq] at h
  obtain ⟨_, ⟨⟨_, hd⟩, _⟩, _⟩ := h
  exact ⟨hf.1, fun h => by have := hf.2.1 h; omega, fun h => by have := hf.2.2.1 h; omega, fun h => by have := hf.2.2.2 h; omega⟩

def Writes (x : Insn) (c : UInt8) (f : FuncId) : Prop :=
  writersTab.find? (fun p => p.1 == (c.toNat : Int)) = some ((c.toNat : Int), f) ∧ (∀ args w, (callFunc f args).run Tryz.prog w = .ok (.enter f args) w) ∧ ∀ W, Env W → Calls Tryz.prog f #[.agg x.cs] W (TextPost W (opText c x))
theorem writer_of (x : Insn) (hi : x.In) (c : UInt8) (hc : Fits c x) : ∃ f, Writes x c f := by
  obtain ⟨h1, h2, h3, h4⟩ := hc
  simp only [letters, List.mem_cons, List.mem_nil_iff, or_false] at h1
  rcases h1 with rfl | rfl | rfl | rfl | rfl | rfl | rfl | rfl | rfl | rfl | rfl | rfl | rfl | rfl | rfl
  · exact ⟨94, by decide, enters_of Tryz.func94 (by kernel_rfl) rfl, wr94 x hi⟩
  · exact ⟨96, by decide, enters_of Tryz.func96 (by kernel_rfl) rfl, wr96 x hi⟩
  · exact ⟨97, by decide, enters_of Tryz.func97 (by kernel_rfl) rfl, wr97 x hi⟩
  · exact ⟨98, by decide, enters_of Tryz.func98 (by kernel_rfl) rfl, wr98 x hi⟩
  · exact ⟨99, by decide, enters_of Tryz.func99 (by kernel_rfl) rfl, wr99 x hi⟩
  · exact ⟨100, by decide, enters_of Tryz.func100 (by kernel_rfl) rfl, wr100 x hi⟩
  · exact ⟨101, by decide, enters_of Tryz.func101 (by kernel_rfl) rfl, fun W hW => wr101 x (h2 rfl).1 (h2 rfl).2 W hW⟩
  · exact ⟨103, by decide, enters_of Tryz.func103 (by kernel_rfl) rfl, fun W hW => wr103 x (h3 rfl).1 (h3 rfl).2 W hW⟩
  · exact ⟨105, by decide, enters_of Tryz.func105 (by kernel_rfl) rfl, fun W hW => wr105 x (h4 rfl).1 (h4 rfl).2 W hW⟩
  · exact ⟨107, by decide, enters_of Tryz.func107 (by kernel_rfl) rfl, wr107 x hi⟩
  · exact ⟨109, by decide, enters_of Tryz.func109 (by kernel_rfl) rfl, wr109 x hi⟩
  · exact ⟨110, by decide, enters_of Tryz.func110 (by kernel_rfl) rfl, wr110 x hi⟩
  · exact ⟨111, by decide, enters_of Tryz.func111 (by kernel_rfl) rfl, wr111 x hi⟩
  · exact ⟨113, by decide, enters_of Tryz.func113 (by kernel_rfl) rfl, wr113 x hi⟩
  · exact ⟨114, by decide, enters_of Tryz.func114 (by kernel_rfl) rfl, wr114 x hi⟩

/-- The text of the first k operands. -/
def textTo (x : Insn) (l : List UInt8) : Nat → List UInt8
  | 0 => nameOf x.op
  | k + 1 => (if k = 0 then nameOf x.op ++ [32] else textTo x l k ++ [44, 32]) ++ opText (l.getD k 0) x
def textL (x : Insn) : List UInt8 := textTo x (opnd x.op).1 (opnd x.op).1.length

theorem tab_len (t : List (List UInt8)) (h : ∀ l ∈ t, l.length ≤ 3) (n : Nat) : (t.getD n []).length ≤ 3 := by
  rw [List.getD_eq_getElem?_getD]
  cases e : t[n]? with
  | none => simp
  | some l => exact h l (List.mem_of_getElem? e)
theorem opText_length (c : UInt8) (x : Insn) (hi : x.In) : (opText c x).length ≤ 60 := by
  have h1 := Lib.itoa_length_le x.a hi.a.1 hi.a.2
  have h2 := Lib.itoa_length_le x.b hi.b.1 hi.b.2
  have h3 := Lib.itoa_length_le x.c hi.c.1 hi.c.2
  have h4 := Lib.itoa_length_le x.d hi.d.1 hi.d.2
  have h5 := Lib.itoa_length_le x.k hi.k.1 hi.k.2
  have h6 := hexL_length x.i.toNat
  have h7 := tab_len condTab (by decide) x.d.toNat
  have h8 := tab_len extTab (by decide) x.d.toNat
  have h9 := tab_len laneTab (by decide) x.d.toNat
  unfold opText
  generalize Lib.itoa x.a = ia at *
  generalize Lib.itoa x.b = ib at *
  generalize Lib.itoa x.c = ic at *
  generalize Lib.itoa x.d = id at *
  generalize Lib.itoa x.k = ik at *
  repeat' (refine ite_P (P := fun l : List UInt8 => l.length ≤ 60) ?_ ?_)
  all_goals show List.length _ ≤ 60
  all_goals first
    | omega
    | (simp only [List.length_append, List.length_cons, List.length_nil]; omega)
    | (simp only [List.length_append]; split <;> split <;> simp <;> omega)
theorem name_len (op : Int) : (nameOf op).length ≤ 7 := by
  unfold nameOf
  rw [List.getD_eq_getElem?_getD]
  cases e : nameTab[op.toNat]? with
  | none => simp
  | some l => exact (show ∀ l ∈ nameTab, l.length ≤ 7 by decide) l (List.mem_of_getElem? e)
theorem textTo_length (x : Insn) (hi : x.In) (l : List UInt8) (k : Nat) : (textTo x l k).length ≤ 100 * (k + 1) := by
  induction k with
  | zero => have := name_len x.op; simp [textTo]; omega
  | succ k ih =>
    have := name_len x.op
    have := opText_length (l.getD k 0) x hi
    rw [textTo]
    split <;> simp only [List.length_append, List.length_cons, List.length_nil] <;> omega
end Go.Proofs.YtdkclapinedgiaaGreatDoor
