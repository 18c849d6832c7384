/- The plain side of 'parsed'; what reads a letter's operand. -/
import Derived.Test.YtdkclapinedgiaaGreatDoorH7
import Derived.Test.YtdkclapinedgiaaGreatDoorG6
namespace Go.Proofs.YtdkclapinedgiaaGreatDoor
open Go.RowKit

/-- Where a sign stands in the text within brackets. -/
def signAt (g : List UInt8) : Int := Lib.indexAny (inner g) [43, 45]
/-- An instruction with a field that a text of an operand has; none: the reader panics. -/
def readOp (c : UInt8) (g : List UInt8) (x : Insn) : Option Insn :=
  if c = 97 then (numOf g [114]).map fun v => { x with a := v } else if c = 98 then (numOf g [114]).map fun v => { x with b := v } else if c = 99 then (numOf g [114]).map fun v => { x with c := v } else
  if c = 65 then (numOf g [118]).map fun v => { x with a := v } else if c = 66 then (numOf g [118]).map fun v => { x with b := v } else if c = 67 then (numOf g [118]).map fun v => { x with c := v } else
  if c = 100 then some { x with d := strIdx condTab g } else if c = 101 then some { x with d := strIdx extTab g } else if c = 108 then some { x with d := strIdx laneTab g } else
  if c = 119 ∨ c = 115 then (numOf g []).map fun v => { x with d := v } else if c = 107 then (numOf g []).map fun v => { x with k := v } else if c = 105 then (unhexOf g).map fun v => { x with i := v } else
  if c = 110 then nOp g (signAt g) x else mOp g (signAt g) x
/-- An instruction with the fields that texts of operands have. -/
def readAll : List UInt8 → List (List UInt8) → Insn → Option Insn
  | c :: l, g :: gs, x => (readOp c g x).bind (readAll l gs)
  | _, _, x => some x

def Reader (c : UInt8) (g : List UInt8) (f : FuncId) : Prop :=
  readersTab.find? (fun p => p.1 == (c.toNat : Int)) = some ((c.toNat : Int), f) ∧ (∀ args w, (callFunc f args).run Tryz.prog w = .ok (.enter f args) w) ∧
    ∀ (x : Insn) (_ : x.In) (b : Nat) (_ : 12 ≤ b) (w : World) (_ : Env w) (_ : Blk w b 24 x.cs), Calls Tryz.prog f #[.string ⟨g.toArray⟩, .pointer (some ⟨b, 0, none⟩)] w (RdPost b w (readOp c g x))
theorem reader_of (c : UInt8) (hc : c ∈ letters) (g : List UInt8) (hg : g.length ≤ 1000000) (hi : IdxOk (inner g) (signAt g)) : ∃ f, Reader c g f := by
  simp only [letters, List.mem_cons, List.mem_nil_iff, or_false] at hc
  rcases hc with rfl | rfl | rfl | rfl | rfl | rfl | rfl | rfl | rfl | rfl | rfl | rfl | rfl | rfl | rfl
  · exact ⟨142, by decide, enters_of Tryz.func142 (by kernel_rfl) rfl, fun x hx b _ w he hb => rd142 g hg x hx b w he hb⟩
  · exact ⟨144, by decide, enters_of Tryz.func144 (by kernel_rfl) rfl, fun x hx b _ w he hb => rd144 g hg x hx b w he hb⟩
  · exact ⟨145, by decide, enters_of Tryz.func145 (by kernel_rfl) rfl, fun x hx b _ w he hb => rd145 g hg x hx b w he hb⟩
  · exact ⟨146, by decide, enters_of Tryz.func146 (by kernel_rfl) rfl, fun x hx b _ w he hb => rd146 g hg x hx b w he hb⟩
  · exact ⟨147, by decide, enters_of Tryz.func147 (by kernel_rfl) rfl, fun x hx b _ w he hb => rd147 g hg x hx b w he hb⟩
  · exact ⟨148, by decide, enters_of Tryz.func148 (by kernel_rfl) rfl, fun x hx b _ w he hb => rd148 g hg x hx b w he hb⟩
  · exact ⟨149, by decide, enters_of Tryz.func149 (by kernel_rfl) rfl, fun x hx b _ w he hb => rd149 g x hx b w he hb⟩
  · exact ⟨150, by decide, enters_of Tryz.func150 (by kernel_rfl) rfl, fun x hx b _ w he hb => rd150 g x hx b w he hb⟩
  · exact ⟨151, by decide, enters_of Tryz.func151 (by kernel_rfl) rfl, fun x hx b _ w he hb => rd151 g x hx b w he hb⟩
  · exact ⟨152, by decide, enters_of Tryz.func152 (by kernel_rfl) rfl, fun x hx b _ w he hb => rd152 g hg x hx b w he hb⟩
  · exact ⟨153, by decide, enters_of Tryz.func153 (by kernel_rfl) rfl, fun x hx b _ w he hb => rd153 g hg x hx b w he hb⟩
  · exact ⟨154, by decide, enters_of Tryz.func154 (by kernel_rfl) rfl, fun x hx b _ w he hb => rd154 g hg x hx b w he hb⟩
  · exact ⟨155, by decide, enters_of Tryz.func155 (by kernel_rfl) rfl, fun x hx b _ w he hb => rd155 g hg x hx b w he hb⟩
  · exact ⟨157, by decide, enters_of Tryz.func157 (by kernel_rfl) rfl, fun x hx b _ w he hb => rd157 g hg _ hi x hx b w he hb⟩
  · exact ⟨160, by decide, enters_of Tryz.func160 (by kernel_rfl) rfl, fun x hx b h12 w he hb => rd160 g hg _ hi x hx b h12 w he hb⟩

theorem cut_any (s : List UInt8) (hs : s.length ≤ 1000000) (w : World) (he : Env w) :
    Calls Tryz.prog 121 #[.string ⟨s.toArray⟩, .string ⟨#[32]⟩] w fun e w' => e = .returned (.tuple #[.string ⟨(Lib.cut s [32]).1.toArray⟩, .string ⟨(Lib.cut s [32]).2.1.toArray⟩, .bool (Lib.cut s [32]).2.2]) ∧ Below w.heap.size w w' := by
  obtain ⟨m, hm⟩ := he.maxLen
  have h := Tryz.strings_Cut ⟨s.toArray⟩ ⟨[32].toArray⟩ m w (by rw [ba_size]; omega) hm
  rw [show (⟨s.toArray⟩ : ByteArray).data.toList = s by simp, show (⟨([32] : List UInt8).toArray⟩ : ByteArray).data.toList = [32] by simp] at h
  refine h.mono ?_
  rintro e w' ⟨rfl, n, rfl⟩
  exact ⟨rfl, rfl, rfl, rfl, Nat.le_refl _, fun _ _ => rfl⟩

/-- The texts of the operands. -/
def pieces (r : List UInt8) : List (List UInt8) := (Lib.splitB ⟨#[44, 32]⟩ 0 (Lib.countB ⟨r.toArray⟩ ⟨#[44, 32]⟩) ⟨r.toArray⟩).map (·.data.toList)
def SplitPost (w : World) (l : List (List UInt8)) (e : Ending) (w' : World) : Prop :=
  ∃ g, e = .returned (.slice (some ⟨g, 0, none⟩) l.length l.length) ∧ Blk w' g 9 (l.map strV).toArray ∧ w.heap.size ≤ g ∧ Below w.heap.size w w'
theorem split_any (r : List UInt8) (hs : r.length ≤ 1000000) (w : World) (he : Env w) : Calls Tryz.prog 122 #[.string ⟨r.toArray⟩, .string ⟨#[44, 32]⟩] w (SplitPost w (pieces r)) := by
  obtain ⟨m, hm⟩ := he.maxLen
  refine (Tryz.strings_Split ⟨r.toArray⟩ ⟨#[44, 32]⟩ m w (by rw [ba_size]; omega) hm (by decide)).mono ?_
  rintro e w' ⟨rfl, rfl⟩
  have hl : (pieces r).length = Lib.countB ⟨r.toArray⟩ ⟨#[44, 32]⟩ + 1 := by
    unfold pieces
    rw [List.length_map, Lib.splitB_all _ (by decide) _ _ _ rfl]
  refine ⟨w.heap.size, by rw [hl], ?_, Nat.le_refl _, (Below.refl _ w).alloc (Nat.le_refl _) _⟩
  have e : ((Lib.splitB ⟨#[44, 32]⟩ 0 (Lib.countB ⟨r.toArray⟩ ⟨#[44, 32]⟩) ⟨r.toArray⟩).map Value.string) = (pieces r).map strV := by
    unfold pieces strV
    rw [List.map_map]
    apply List.map_congr_left
    intro b _
    simp
  rw [e]
  exact Blk.new w 9 _
end Go.Proofs.YtdkclapinedgiaaGreatDoor
