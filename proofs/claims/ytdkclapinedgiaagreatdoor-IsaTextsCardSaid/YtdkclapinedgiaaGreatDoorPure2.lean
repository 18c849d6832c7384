/- The plain side of the instruction set: instructions, operands of operations, rooms of fields. No program in sight. -/
/- Plain laws of the instruction set: the bounds of a valid instruction's fields; its bytes. -/
/- The mnemonics, by operations. -/


namespace Go.Proofs.YtdkclapinedgiaaGreatDoor
structure Insn where
  (op a b c d k i : Int)
  deriving DecidableEq

/-- The letters of the operands of a vector operation. -/
def vecs (op : Int) : List UInt8 × Bool :=
  if op = 48 ∨ op = 49 then ([65, 109], true) else
  if op = 50 then ([65, 66], true) else
  if op = 51 ∨ op = 52 ∨ op = 53 then ([65, 66, 67, 108], true) else
  if op = 54 ∨ op = 55 ∨ op = 56 ∨ op = 57 then ([65, 66, 67], true) else
  if op = 58 then ([65, 98, 119], true) else
  if op = 59 then ([97, 66, 119], true) else
  if op = 60 then ([65, 98], true) else
  if op = 61 then ([97, 66], true) else ([], false)

/-- The letters of the operands of an operation. -/
def opnd (op : Int) : List UInt8 × Bool :=
  if op = 1 ∨ op = 39 ∨ op = 42 ∨ op = 43 ∨ op = 44 ∨ op = 45 then ([], true) else
  if op = 2 ∨ op = 19 ∨ op = 20 then ([97, 98], true) else
  if op = 18 then ([97, 98, 107], true) else
  if op = 21 then ([97, 98, 101], true) else
  if op = 22 ∨ op = 23 then ([98, 99], true) else
  if op = 24 then ([98, 107], true) else
  if op = 25 then ([97, 98, 99, 100], true) else
  if op = 26 then ([97, 100], true) else
  if op = 34 ∨ op = 35 ∨ op = 46 then ([97], true) else
  if op = 37 then ([97, 99, 109], true) else
  if op = 40 ∨ op = 41 ∨ op = 47 then ([98], true) else
  if op = 64 then ([97, 105], true) else
  if op = 65 then ([97, 98, 105], true) else
  if op = 66 ∨ op = 68 then ([105], true) else
  if op = 67 then ([100, 105], true) else
  if op = 69 ∨ op = 70 then ([97, 110], true) else
  if op = 71 then ([97, 98, 99, 115, 105], true) else
  if op = 72 then ([98, 105], true) else
  if 3 ≤ op ∧ op ≤ 17 then ([97, 98, 99], true) else
  if 27 ≤ op ∧ op ≤ 33 ∨ op = 36 ∨ op = 38 then ([97, 109], true) else vecs op

/-- The greatest values of fields, and whether K and I are used. -/
structure Room where
  (a b c d : Int) (k i : Bool)
  deriving DecidableEq
/-- What a letter adds to a room. -/
def Room.step (r : Room) (x : UInt8) : Room :=
  if (x.toNat : Int) = 97 then { r with a := 15 } else if (x.toNat : Int) = 65 then { r with a := 7 } else
  if (x.toNat : Int) = 98 then { r with b := 15 } else if (x.toNat : Int) = 66 then { r with b := 7 } else
  if (x.toNat : Int) = 99 then { r with c := 15 } else if (x.toNat : Int) = 67 then { r with c := 7 } else
  if (x.toNat : Int) = 100 then { r with d := 15 } else if (x.toNat : Int) = 101 ∨ (x.toNat : Int) = 119 ∨ (x.toNat : Int) = 115 then { r with d := 3 } else
  if (x.toNat : Int) = 108 then { r with d := 2 } else if (x.toNat : Int) = 107 then { r with k := true } else
  if (x.toNat : Int) = 105 then { r with i := true } else if (x.toNat : Int) = 109 then { r with b := 15, k := true } else
  if (x.toNat : Int) = 110 then { r with b := 15, i := true } else r
def room0 : Room := ⟨0, 0, 0, 0, false, false⟩
/-- The room of an operation. -/
def roomOf (op : Int) : Room := (opnd op).1.foldl Room.step room0
def within (n most : Int) : Bool := decide (0 ≤ n) && decide (n ≤ most)
/-- Whether an instruction's fields are within a room. -/
def Room.has (r : Room) (x : Insn) : Bool :=
  within x.a r.a && within x.b r.b && within x.c r.c && within x.d r.d && (x.k == 0 || r.k && within (x.k + 128) 255) && (x.i == 0 || r.i)
/-- Whether something is an instruction. -/
def Insn.valid (x : Insn) : Bool := (opnd x.op).2 && (roomOf x.op).has x

end Go.Proofs.YtdkclapinedgiaaGreatDoor

namespace Go.Proofs.YtdkclapinedgiaaGreatDoor

theorem ite_P {α : Type} {P : α → Prop} {c : Prop} [Decidable c] {x y : α} (hx : P x) (hy : P y) : P (if c then x else y) := by split <;> assumption

def RoomSmall (l : List UInt8 × Bool) : Prop :=
  let r := l.1.foldl Room.step room0
  r.a ≤ 15 ∧ r.b ≤ 15 ∧ r.c ≤ 15 ∧ r.d ≤ 15
theorem room_small (op : Int) : RoomSmall (opnd op) := by
  unfold opnd vecs
  repeat' (refine ite_P (P := RoomSmall) ?_ ?_)
  all_goals (unfold RoomSmall; decide)

theorem ite_Q {α : Type} {P : α → Prop} {c : Prop} [Decidable c] {x y : α} (hx : c → P x) (hy : ¬ c → P y) : P (if c then x else y) := by split <;> rename_i h; exact hx h; exact hy h
theorem opnd_op (op : Int) : (opnd op).2 = true → 1 ≤ op ∧ op ≤ 72 ∧ (op ≤ 61 ∨ 64 ≤ op) := by
  unfold opnd vecs
  repeat' (refine ite_Q (P := fun l : List UInt8 × Bool => l.2 = true → 1 ≤ op ∧ op ≤ 72 ∧ (op ≤ 61 ∨ 64 ≤ op)) (fun _ => ?_) (fun _ => ?_))
  all_goals (intro h; first | omega | simp at h)

structure Insn.Ok (x : Insn) : Prop where
  is : (opnd x.op).2 = true
  op : 1 ≤ x.op ∧ x.op ≤ 72 ∧ (x.op ≤ 61 ∨ 64 ≤ x.op)
  a : 0 ≤ x.a ∧ x.a ≤ 15
  b : 0 ≤ x.b ∧ x.b ≤ 15
  c : 0 ≤ x.c ∧ x.c ≤ 15
  d : 0 ≤ x.d ∧ x.d ≤ 15
  k : -128 ≤ x.k ∧ x.k ≤ 127

theorem Insn.ok {x : Insn} (h : x.valid = true) : x.Ok := by
  unfold Insn.valid Room.has within at h
  simp only [Bool.and_eq_true, Bool.or_eq_true, decide_eq_true_eq, beq_iff_eq] at h
  have hs := room_small x.op
  unfold RoomSmall at hs
  have e : List.foldl Room.step room0 (opnd x.op).1 = roomOf x.op := rfl
  rw [e] at hs
  obtain ⟨h1, ⟨⟨⟨⟨ha, hb⟩, hc⟩, hd⟩, hk⟩, _⟩ := h
  exact ⟨h1, opnd_op _ h1, by omega, by omega, by omega, by omega, by omega⟩

/-- The bytes of an instruction. -/
def Insn.bytes (x : Insn) : List Int :=
  [x.op, x.a + 16 * x.b, x.c + 16 * x.d, x.k % 256] ++ if 64 ≤ x.op then [x.i % 256, x.i / 256 % 256, x.i / 65536 % 256, x.i / 16777216 % 256] else []

/-- The signed number of a byte. -/
def s8 (x : Int) : Int := if x < 128 then x else x - 256
def insn0 : Insn := ⟨0, 0, 0, 0, 0, 0, 0⟩
/-- The fields that four bytes have. -/
def dec4 (x0 x1 x2 x3 i : Int) : Insn := ⟨x0, x1 % 16, x1 / 16, x2 % 16, x2 / 16, s8 x3, i⟩
/-- What bytes begin with: an instruction, how many bytes it has, the error. -/
def decode (l : List Int) : Insn × Int × Int :=
  match l with
  | x0 :: x1 :: x2 :: x3 :: rest =>
    if x0 < 64 then (if (dec4 x0 x1 x2 x3 0).valid then (dec4 x0 x1 x2 x3 0, 4, 0) else (insn0, 0, 6)) else
    match rest with
    | y0 :: y1 :: y2 :: y3 :: _ => if (dec4 x0 x1 x2 x3 (y0 + 256 * y1 + 65536 * y2 + 16777216 * y3)).valid then (dec4 x0 x1 x2 x3 (y0 + 256 * y1 + 65536 * y2 + 16777216 * y3), 8, 0) else (insn0, 0, 6)
    | _ => (insn0, 0, 6)
  | _ => (insn0, 0, 6)

end Go.Proofs.YtdkclapinedgiaaGreatDoor

namespace Go.Proofs.YtdkclapinedgiaaGreatDoor
/-- The mnemonics, by operations: empty where there is none. -/
def nameTab : List (List UInt8) :=
  [[],
   [110, 111, 112],
   [109, 111, 118],
   [97, 100, 100],
   [115, 117, 98],
   [97, 110, 100],
   [111, 114],
   [120, 111, 114],
   [115, 104, 108],
   [115, 104, 114],
   [115, 97, 114],
   [109, 117, 108],
   [109, 117, 108, 104],
   [100, 105, 118],
   [114, 101, 109],
   [100, 105, 118, 115],
   [97, 100, 99],
   [115, 98, 98],
   [97, 100, 100, 107],
   [110, 101, 103],
   [110, 111, 116],
   [101, 120, 116],
   [99, 109, 112],
   [116, 101, 115, 116],
   [99, 109, 112, 107],
   [115, 101, 108],
   [115, 101, 116, 99],
   [108, 111, 97, 100, 56],
   [108, 111, 97, 100, 49, 54],
   [108, 111, 97, 100, 51, 50],
   [108, 111, 97, 100, 56, 115],
   [115, 116, 111, 114, 101, 56],
   [115, 116, 111, 114, 101, 49, 54],
   [115, 116, 111, 114, 101, 51, 50],
   [112, 117, 115, 104],
   [112, 111, 112],
   [115, 119, 97, 112],
   [99, 97, 115],
   [102, 97, 100, 100],
   [102, 101, 110, 99, 101],
   [106, 109, 112, 114],
   [99, 97, 108, 108, 114],
   [114, 101, 116],
   [115, 121, 115],
   [114, 101, 113],
   [98, 114, 107],
   [103, 101, 116, 102],
   [115, 101, 116, 102],
   [118, 108, 111, 97, 100],
   [118, 115, 116, 111, 114, 101],
   [118, 109, 111, 118],
   [118, 97, 100, 100],
   [118, 115, 117, 98],
   [118, 101, 113],
   [118, 97, 110, 100],
   [118, 111, 114],
   [118, 120, 111, 114],
   [118, 115, 104, 117, 102],
   [118, 105, 110],
   [118, 111, 117, 116],
   [118, 115, 112, 108, 97, 116],
   [118, 109, 97, 115, 107],
   [],
   [],
   [115, 101, 116],
   [97, 100, 100, 105],
   [106, 109, 112],
   [106, 99, 99],
   [99, 97, 108, 108],
   [108, 111, 97, 100, 105],
   [115, 116, 111, 114, 101, 105],
   [108, 101, 97],
   [99, 109, 112, 105]]
/-- The mnemonic of an operation. -/
def nameOf (op : Int) : List UInt8 := nameTab.getD op.toNat []
end Go.Proofs.YtdkclapinedgiaaGreatDoor
