/- Text: which writer a letter has; the plain text of an instruction. -/
import Derived.Test.YtdkclapinedgiaaGreatDoorG4
import Derived.Test.YtdkclapinedgiaaGreatDoorG5
import Derived.Test.YtdkclapinedgiaaGreatDoorC3
import Derived.Test.YtdkclapinedgiaaGreatDoorD2
namespace Go.Proofs.YtdkclapinedgiaaGreatDoor
open Go.RowKit

def letters : List UInt8 := [97, 98, 99, 65, 66, 67, 100, 101, 108, 119, 115, 107, 105, 110, 109]
/-- The field of a letter lies where the writer can read it. -/
def Fits (c : UInt8) (x : Insn) : Prop := c ∈ letters ∧ (c = 100 → 0 ≤ x.d ∧ x.d < 16) ∧ (c = 101 → 0 ≤ x.d ∧ x.d < 4) ∧ (c = 108 → 0 ≤ x.d ∧ x.d < 3)
def FitsD (l : List UInt8 × Bool) : Prop := ∀ c ∈ l.1, c ∈ letters ∧ (c = 100 → (l.1.foldl Room.step room0).d ≤ 15) ∧ (c = 101 → (l.1.foldl Room.step room0).d ≤ 3) ∧ (c = 108 → (l.1.foldl Room.step room0).d ≤ 2)
theorem opnd_fits (op : Int) : FitsD (opnd op) := by
  unfold opnd vecs
  repeat' (refine ite_P (P := FitsD) ?_ ?_)
  all_goals (unfold FitsD; decide)
theorem Insn.fits {x : Insn} (h : x.valid = true) : ∀ c ∈ (opnd x.op).1, Fits c x := by
  intro c hc
  have hf := opnd_fits x.op c hc
  have e : List.foldl Room.step room0 (opnd x.op).1 = roomOf x.op := rfl
  rw [e] at hf
  unfold Insn.valid Room.has within at h
  simp only [Bool.and_eq_true, Bool.or_eq_true, decide_eq_true_eq, beq_iff_eq] at h
  obtain ⟨_, ⟨⟨_, hd⟩, _⟩, _⟩ := h
  exact ⟨hf.1, fun h => by have := hf.2.1 h; omega, fun h => by have := hf.2.2.1 h; omega, fun h => by have := hf.2.2.2 h; omega⟩

def Writes (x : Insn) (c : UInt8) (f : FuncId) : Prop :=
  writersTab.find? (fun p => p.1 == (c.toNat : Int)) = some ((c.toNat : Int), f) ∧ (∀ args w, (callFunc f args).run Tryz.prog w = .ok (.enter f args) w) ∧ ∀ W, Env W → Calls Tryz.prog f #[.agg x.cs] W (TextPost W (opText c x))
theorem writer_of (x : Insn) (hi : x.In) (c : UInt8) (hc : Fits c x) : ∃ f, Writes x c f := by
  obtain ⟨h1, h2, h3, h4⟩ := hc
  simp only [letters, List.mem_cons, List.mem_nil_iff, or_false] at h1
  rcases h1 with rfl | rfl | rfl | rfl | rfl | rfl | rfl | rfl | rfl | rfl | rfl | rfl | rfl | rfl | rfl
  · exact ⟨94, by decide, enters_of Tryz.func94 (by kernel_rfl) rfl, wr94 x hi⟩
  · exact ⟨96, by decide, enters_of Tryz.func96 (by kernel_rfl) rfl, wr96 x hi⟩
  · exact ⟨97, by decide, enters_of Tryz.func97 (by kernel_rfl) rfl, wr97 x hi⟩
  · exact ⟨98, by decide, enters_of Tryz.func98 (by kernel_rfl) rfl, wr98 x hi⟩
  · exact ⟨99, by decide, enters_of Tryz.func99 (by kernel_rfl) rfl, wr99 x hi⟩
  · exact ⟨100, by decide, enters_of Tryz.func100 (by kernel_rfl) rfl, wr100 x hi⟩
  · exact ⟨101, by decide, enters_of Tryz.func101 (by kernel_rfl) rfl, fun W hW => wr101 x (h2 rfl).1 (h2 rfl).2 W hW⟩
  · exact ⟨103, by decide, enters_of Tryz.func103 (by kernel_rfl) rfl, fun W hW => wr103 x (h3 rfl).1 (h3 rfl).2 W hW⟩
  · exact ⟨105, by decide, enters_of Tryz.func105 (by kernel_rfl) rfl, fun W hW => wr105 x (h4 rfl).1 (h4 rfl).2 W hW⟩
  · exact ⟨107, by decide, enters_of Tryz.func107 (by kernel_rfl) rfl, wr107 x hi⟩
  · exact ⟨109, by decide, enters_of Tryz.func109 (by kernel_rfl) rfl, wr109 x hi⟩
  · exact ⟨110, by decide, enters_of Tryz.func110 (by kernel_rfl) rfl, wr110 x hi⟩
  · exact ⟨111, by decide, enters_of Tryz.func111 (by kernel_rfl) rfl, wr111 x hi⟩
  · exact ⟨113, by decide, enters_of Tryz.func113 (by kernel_rfl) rfl, wr113 x hi⟩
  · exact ⟨114, by decide, enters_of Tryz.func114 (by kernel_rfl) rfl, wr114 x hi⟩

/-- The text of the first k operands. -/
def textTo (x : Insn) (l : List UInt8) : Nat → List UInt8
  | 0 => nameOf x.op
  | k + 1 => (if k = 0 then nameOf x.op ++ [32] else textTo x l k ++ [44, 32]) ++ opText (l.getD k 0) x
def textL (x : Insn) : List UInt8 := textTo x (opnd x.op).1 (opnd x.op).1.length

theorem tab_len (t : List (List UInt8)) (h : ∀ l ∈ t, l.length ≤ 3) (n : Nat) : (t.getD n []).length ≤ 3 := by
  rw [List.getD_eq_getElem?_getD]
  cases e : t[n]? with
  | none => simp
  | some l => exact h l (List.mem_of_getElem? e)
theorem opText_length (c : UInt8) (x : Insn) (hi : x.In) : (opText c x).length ≤ 60 := by
  have h1 := Lib.itoa_length_le x.a hi.a.1 hi.a.2
  have h2 := Lib.itoa_length_le x.b hi.b.1 hi.b.2
  have h3 := Lib.itoa_length_le x.c hi.c.1 hi.c.2
  have h4 := Lib.itoa_length_le x.d hi.d.1 hi.d.2
  have h5 := Lib.itoa_length_le x.k hi.k.1 hi.k.2
  have h6 := hexL_length x.i.toNat
  have h7 := tab_len condTab (by decide) x.d.toNat
  have h8 := tab_len extTab (by decide) x.d.toNat
  have h9 := tab_len laneTab (by decide) x.d.toNat
  unfold opText
  generalize Lib.itoa x.a = ia at *
  generalize Lib.itoa x.b = ib at *
  generalize Lib.itoa x.c = ic at *
  generalize Lib.itoa x.d = id at *
  generalize Lib.itoa x.k = ik at *
  repeat' (refine ite_P (P := fun l : List UInt8 => l.length ≤ 60) ?_ ?_)
  all_goals show List.length _ ≤ 60
  all_goals first
    | omega
    | (simp only [List.length_append, List.length_cons, List.length_nil]; omega)
    | (simp only [List.length_append]; split <;> split <;> simp <;> omega)
theorem name_len (op : Int) : (nameOf op).length ≤ 7 := by
  unfold nameOf
  rw [List.getD_eq_getElem?_getD]
  cases e : nameTab[op.toNat]? with
  | none => simp
  | some l => exact (show ∀ l ∈ nameTab, l.length ≤ 7 by decide) l (List.mem_of_getElem? e)
theorem textTo_length (x : Insn) (hi : x.In) (l : List UInt8) (k : Nat) : (textTo x l k).length ≤ 100 * (k + 1) := by
  induction k with
  | zero => have := name_len x.op; simp [textTo]; omega
  | succ k ih =>
    have := name_len x.op
    have := opText_length (l.getD k 0) x hi
    rw [textTo]
    split <;> simp only [List.length_append, List.length_cons, List.length_nil] <;> omega
end Go.Proofs.YtdkclapinedgiaaGreatDoor
