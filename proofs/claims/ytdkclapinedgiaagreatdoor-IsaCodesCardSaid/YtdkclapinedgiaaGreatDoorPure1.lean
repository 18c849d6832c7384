/- Plain laws of the instruction set: the bounds of a valid instruction's fields; its bytes. -/
import Derived.Test.YtdkclapinedgiaaGreatDoorPure0
namespace Go.Proofs.YtdkclapinedgiaaGreatDoor

theorem ite_P {α : Type} {P : α → Prop} {c : Prop} [Decidable c] {x y : α} (hx : P x) (hy : P y) : P (if c then x else y) := by split <;> assumption

def RoomSmall (l : List UInt8 × Bool) : Prop :=
  let r := l.1.foldl Room.step room0
  r.a ≤ 15 ∧ r.b ≤ 15 ∧ r.c ≤ 15 ∧ r.d ≤ 15
theorem room_small (op : Int) : RoomSmall (opnd op) := by
  unfold opnd vecs
  repeat' (refine ite_P (P := RoomSmall) ?_ ?_)
  all_goals (unfold RoomSmall; decide)

theorem ite_Q {α : Type} {P : α → Prop} {c : Prop} [Decidable c] {x y : α} (hx : c → P x) (hy : ¬ c → P y) : P (if c then x else y) := by split <;> rename_i h; exact hx h; exact hy h
theorem opnd_op (op : Int) : (opnd op).2 = true → 1 ≤ op ∧ op ≤ 72 ∧ (op ≤ 61 ∨ 64 ≤ op) := by
  unfold opnd vecs
  repeat' (refine ite_Q (P := fun l : List UInt8 × Bool => l.2 = true → 1 ≤ op ∧ op ≤ 72 ∧ (op ≤ 61 ∨ 64 ≤ op)) (fun _ => ?_) (fun _ => ?_))
  all_goals (intro h; first | omega | simp at h)

structure Insn.Ok (x : Insn) : Prop where
  is : (opnd x.op).2 = true
  op : 1 ≤ x.op ∧ x.op ≤ 72 ∧ (x.op ≤ 61 ∨ 64 ≤ x.op)
  a : 0 ≤ x.a ∧ x.a ≤ 15
  b : 0 ≤ x.b ∧ x.b ≤ 15
  c : 0 ≤ x.c ∧ x.c ≤ 15
  d : 0 ≤ x.d ∧ x.d ≤ 15
  k : -128 ≤ x.k ∧ x.k ≤ 127

theorem Insn.ok {x : Insn} (h : x.valid = true) : x.Ok := by
  unfold Insn.valid Room.has within at h
  simp only [Bool.and_eq_true, Bool.or_eq_true, decide_eq_true_eq, beq_iff_eq] at h
  have hs := room_small x.op
  unfold RoomSmall at hs
  have e : List.foldl Room.step room0 (opnd x.op).1 = roomOf x.op := rfl
  rw [e] at hs
  obtain ⟨h1, ⟨⟨⟨⟨ha, hb⟩, hc⟩, hd⟩, hk⟩, _⟩ := h
  exact ⟨h1, opnd_op _ h1, by omega, by omega, by omega, by omega, by omega⟩

/-- The bytes of an instruction. -/
def Insn.bytes (x : Insn) : List Int :=
  [x.op, x.a + 16 * x.b, x.c + 16 * x.d, x.k % 256] ++ if 64 ≤ x.op then [x.i % 256, x.i / 256 % 256, x.i / 65536 % 256, x.i / 16777216 % 256] else []

/-- The signed number of a byte. -/
def s8 (x : Int) : Int := if x < 128 then x else x - 256
def insn0 : Insn := ⟨0, 0, 0, 0, 0, 0, 0⟩
/-- The fields that four bytes have. -/
def dec4 (x0 x1 x2 x3 i : Int) : Insn := ⟨x0, x1 % 16, x1 / 16, x2 % 16, x2 / 16, s8 x3, i⟩
/-- What bytes begin with: an instruction, how many bytes it has, the error. -/
def decode (l : List Int) : Insn × Int × Int :=
  match l with
  | x0 :: x1 :: x2 :: x3 :: rest =>
    if x0 < 64 then (if (dec4 x0 x1 x2 x3 0).valid then (dec4 x0 x1 x2 x3 0, 4, 0) else (insn0, 0, 6)) else
    match rest with
    | y0 :: y1 :: y2 :: y3 :: _ => if (dec4 x0 x1 x2 x3 (y0 + 256 * y1 + 65536 * y2 + 16777216 * y3)).valid then (dec4 x0 x1 x2 x3 (y0 + 256 * y1 + 65536 * y2 + 16777216 * y3), 8, 0) else (insn0, 0, 6)
    | _ => (insn0, 0, 6)
  | _ => (insn0, 0, 6)

end Go.Proofs.YtdkclapinedgiaaGreatDoor
