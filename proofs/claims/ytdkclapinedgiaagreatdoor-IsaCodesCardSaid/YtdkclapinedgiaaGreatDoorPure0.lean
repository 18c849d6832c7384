/- The plain side of the instruction set: instructions, operands of operations, rooms of fields. No program in sight. -/
namespace Go.Proofs.YtdkclapinedgiaaGreatDoor
structure Insn where
  (op a b c d k i : Int)
  deriving DecidableEq

/-- The letters of the operands of a vector operation. -/
def vecs (op : Int) : List UInt8 × Bool :=
  if op = 48 ∨ op = 49 then ([65, 109], true) else
  if op = 50 then ([65, 66], true) else
  if op = 51 ∨ op = 52 ∨ op = 53 then ([65, 66, 67, 108], true) else
  if op = 54 ∨ op = 55 ∨ op = 56 ∨ op = 57 then ([65, 66, 67], true) else
  if op = 58 then ([65, 98, 119], true) else
  if op = 59 then ([97, 66, 119], true) else
  if op = 60 then ([65, 98], true) else
  if op = 61 then ([97, 66], true) else ([], false)

/-- The letters of the operands of an operation. -/
def opnd (op : Int) : List UInt8 × Bool :=
  if op = 1 ∨ op = 39 ∨ op = 42 ∨ op = 43 ∨ op = 44 ∨ op = 45 then ([], true) else
  if op = 2 ∨ op = 19 ∨ op = 20 then ([97, 98], true) else
  if op = 18 then ([97, 98, 107], true) else
  if op = 21 then ([97, 98, 101], true) else
  if op = 22 ∨ op = 23 then ([98, 99], true) else
  if op = 24 then ([98, 107], true) else
  if op = 25 then ([97, 98, 99, 100], true) else
  if op = 26 then ([97, 100], true) else
  if op = 34 ∨ op = 35 ∨ op = 46 then ([97], true) else
  if op = 37 then ([97, 99, 109], true) else
  if op = 40 ∨ op = 41 ∨ op = 47 then ([98], true) else
  if op = 64 then ([97, 105], true) else
  if op = 65 then ([97, 98, 105], true) else
  if op = 66 ∨ op = 68 then ([105], true) else
  if op = 67 then ([100, 105], true) else
  if op = 69 ∨ op = 70 then ([97, 110], true) else
  if op = 71 then ([97, 98, 99, 115, 105], true) else
  if op = 72 then ([98, 105], true) else
  if 3 ≤ op ∧ op ≤ 17 then ([97, 98, 99], true) else
  if 27 ≤ op ∧ op ≤ 33 ∨ op = 36 ∨ op = 38 then ([97, 109], true) else vecs op

/-- The greatest values of fields, and whether K and I are used. -/
structure Room where
  (a b c d : Int) (k i : Bool)
  deriving DecidableEq
/-- What a letter adds to a room. -/
def Room.step (r : Room) (x : UInt8) : Room :=
  if (x.toNat : Int) = 97 then { r with a := 15 } else if (x.toNat : Int) = 65 then { r with a := 7 } else
  if (x.toNat : Int) = 98 then { r with b := 15 } else if (x.toNat : Int) = 66 then { r with b := 7 } else
  if (x.toNat : Int) = 99 then { r with c := 15 } else if (x.toNat : Int) = 67 then { r with c := 7 } else
  if (x.toNat : Int) = 100 then { r with d := 15 } else if (x.toNat : Int) = 101 ∨ (x.toNat : Int) = 119 ∨ (x.toNat : Int) = 115 then { r with d := 3 } else
  if (x.toNat : Int) = 108 then { r with d := 2 } else if (x.toNat : Int) = 107 then { r with k := true } else
  if (x.toNat : Int) = 105 then { r with i := true } else if (x.toNat : Int) = 109 then { r with b := 15, k := true } else
  if (x.toNat : Int) = 110 then { r with b := 15, i := true } else r
def room0 : Room := ⟨0, 0, 0, 0, false, false⟩
/-- The room of an operation. -/
def roomOf (op : Int) : Room := (opnd op).1.foldl Room.step room0
def within (n most : Int) : Bool := decide (0 ≤ n) && decide (n ≤ most)
/-- Whether an instruction's fields are within a room. -/
def Room.has (r : Room) (x : Insn) : Bool :=
  within x.a r.a && within x.b r.b && within x.c r.c && within x.d r.d && (x.k == 0 || r.k && within (x.k + 128) 255) && (x.i == 0 || r.i)
/-- Whether something is an instruction. -/
def Insn.valid (x : Insn) : Bool := (opnd x.op).2 && (roomOf x.op).has x

end Go.Proofs.YtdkclapinedgiaaGreatDoor
