/- Contracts: the texts of the field D; registers; numbers. -/
import Derived.Test.YtdkclapinedgiaaGreatDoorG0
import Derived.WalkKit
import Derived.Lib.ItoaLen
import Derived.WalkSpells
import Derived.WalkLawsBesides
namespace Go.Proofs.YtdkclapinedgiaaGreatDoor
open Go.RowKit

def condTab : List (List UInt8) := [[101], [110, 101], [98], [97, 101], [115], [110, 115], [111], [110, 111], [98, 101], [97], [108], [103, 101], [108, 101], [103], [97, 108], [110, 118]]
def extTab : List (List UInt8) := [[122, 56], [115, 56], [122, 49, 54], [115, 49, 54]]
def laneTab : List (List UInt8) := [[56], [49, 54], [51, 50]]
theorem condFields : Lib.fields [101, 32, 110, 101, 32, 98, 32, 97, 101, 32, 115, 32, 110, 115, 32, 111, 32, 110, 111, 32, 98, 101, 32, 97, 32, 108, 32, 103, 101, 32, 108, 101, 32, 103, 32, 97, 108, 32, 110, 118] = condTab := by decide +kernel
theorem extFields : Lib.fields [122, 56, 32, 115, 56, 32, 122, 49, 54, 32, 115, 49, 54] = extTab := by decide +kernel
theorem laneFields : Lib.fields [56, 32, 49, 54, 32, 51, 50] = laneTab := by decide +kernel

def TabPost (w : World) (r : List (List UInt8)) (e : Ending) (w' : World) : Prop :=
  e = .returned (.slice (some ⟨w.heap.size, 0, none⟩) r.length r.length) ∧ w' = w.alloc (.cells (r.map fun l => Value.string ⟨l.toArray⟩).toArray 9)

set_option maxHeartbeats 1000000 in
theorem conditions_any (w : World) (he : Env w) : Calls Tryz.prog 102 #[] w (TabPost w condTab) := by
  have HE := Lib.hid he
  clear he
  go_enter Tryz.func102, Tryz.ntmps102
  go_wp2_with (go_at_call 137; refine (fields_ascii _ _ condFields (by decide) (by decide) _ HE.out).mono ?_; rintro e w' ⟨rfl, rfl⟩)
  go_ret
  exact ⟨rfl, rfl⟩
set_option maxHeartbeats 1000000 in
theorem extensions_any (w : World) (he : Env w) : Calls Tryz.prog 104 #[] w (TabPost w extTab) := by
  have HE := Lib.hid he
  clear he
  go_enter Tryz.func104, Tryz.ntmps104
  go_wp2_with (go_at_call 137; refine (fields_ascii _ _ extFields (by decide) (by decide) _ HE.out).mono ?_; rintro e w' ⟨rfl, rfl⟩)
  go_ret
  exact ⟨rfl, rfl⟩
set_option maxHeartbeats 1000000 in
theorem lanes_any (w : World) (he : Env w) : Calls Tryz.prog 106 #[] w (TabPost w laneTab) := by
  have HE := Lib.hid he
  clear he
  go_enter Tryz.func106, Tryz.ntmps106
  go_wp2_with (go_at_call 137; refine (fields_ascii _ _ laneFields (by decide) (by decide) _ HE.out).mono ?_; rintro e w' ⟨rfl, rfl⟩)
  go_ret
  exact ⟨rfl, rfl⟩

set_option maxHeartbeats 1000000 in
theorem regText_any (p : List UInt8) (hp : p.length ≤ 1000) (n : Int) (h0 : -9223372036854775808 ≤ n) (h1 : n ≤ 9223372036854775807) (w : World) (he : Env w) :
    Calls Tryz.prog 95 #[.string ⟨p.toArray⟩, .int .i64 n] w fun e w' => e = .returned (.string ⟨(p ++ Lib.itoa n).toArray⟩) ∧ Below w.heap.size w w' := by
  have HE := Lib.hid he
  have hi := Lib.hid (itoa_any n h0 h1 w he)
  have hle : p.length + (Lib.itoa n).length ≤ 9223372036854775807 := by have := Lib.itoa_length_le n h0 h1; omega
  clear he h0 h1
  go_enter Tryz.func95, Tryz.ntmps95
  go_wp2_with (go_at_call 108; refine hi.out.mono ?_; rintro e w' ⟨rfl, hb⟩)
  go_ret
  exact ⟨by simp [ba_app], hb⟩
end Go.Proofs.YtdkclapinedgiaaGreatDoor
