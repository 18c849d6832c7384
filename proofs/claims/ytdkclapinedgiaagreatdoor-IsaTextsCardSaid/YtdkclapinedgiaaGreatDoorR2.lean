/- What the rows' lists give (the library's variables), and a world that meets them. -/
/- A world that meets the rows' list: the settled one, the nine listed variables laid. -/
import Derived.Test.YtdkclapinedgiaaGreatDoorRows
import Derived.Test.YtdkclapinedgiaaGreatDoorG0
import Derived.Lib.LaidTab
import Derived.Lib.LaidU8
import Derived.Lib.LaidIn
import Derived.Stop.LaidErr
import Derived.Shelf.Vars
import Derived.Deep.DeepHandedRow
import Derived.Deep.DeepWitnessRowRef
import Derived.ProofKit
import Derived.OpenShut

namespace Go.Proofs.YtdkclapinedgiaaGreatDoor
open Go.RowKit Go.Lib

theorem c5 : Tryz.prog.cellsOf 5 = 1 := by kernel_rfl
theorem c37 : Tryz.prog.cellsOf 37 = 1 := by kernel_rfl
theorem c159 : Tryz.prog.cellsOf 159 = 256 := by kernel_rfl
theorem c200 : Tryz.prog.cellsOf 200 = 20 := by kernel_rfl
theorem c223 : Tryz.prog.cellsOf 223 = 64 := by kernel_rfl
theorem u5 : Tryz.prog.underlying 5 = some (.int .u8) := by kernel_rfl
theorem u37 : Tryz.prog.underlying 37 = some (.int .u64) := by kernel_rfl
theorem u159 : Tryz.prog.underlying 159 = some (.array 256 5) := by kernel_rfl
theorem u200 : Tryz.prog.underlying 200 = some (.array 20 37) := by kernel_rfl
theorem u223 : Tryz.prog.underlying 223 = some (.array 64 5) := by kernel_rfl
theorem g3 : Tryz.prog.globalNamed "strings.asciiSpace" = some 3 := by kernel_rfl
theorem g5 : Tryz.prog.globalNamed "internal/strconv.uint64pow10" = some 5 := by kernel_rfl
theorem g8 : Tryz.prog.globalNamed "strconv.ErrSyntax" = some 8 := by kernel_rfl
theorem g9 : Tryz.prog.globalNamed "strconv.ErrRange" = some 9 := by kernel_rfl
theorem g11 : Tryz.prog.globalNamed "math/bits.deBruijn64tab" = some 11 := by kernel_rfl
theorem gt3 : (Tryz.prog.globals[3]?).map (·.type) = some 159 := by kernel_rfl
theorem gt5 : (Tryz.prog.globals[5]?).map (·.type) = some 200 := by kernel_rfl
theorem gt8 : (Tryz.prog.globals[8]?).map (·.type) = some 149 := by kernel_rfl
theorem gt9 : (Tryz.prog.globals[9]?).map (·.type) = some 149 := by kernel_rfl
theorem gt11 : (Tryz.prog.globals[11]?).map (·.type) = some 223 := by kernel_rfl

theorem tab_of_reads {W : World} {name : String} {k : IntKind} {zs : List Int} {g : Nat} {t e : TypeId} {n : Nat}
    (hg : Tryz.prog.globalNamed name = some g) (hty : (Tryz.prog.globals[g]?).map (·.type) = some t) (ht : Tryz.prog.underlying t = some (.array n e)) (he : Tryz.prog.underlying e = some (.int k)) (hce : Tryz.prog.cellsOf e = 1) (hct : Tryz.prog.cellsOf t = n)
    (h : VarReads Tryz.prog W name (tabData k zs)) : TabIs Tryz.prog W name k zs := by
  obtain ⟨g', t', cs, fuel, p, hg', ht', hvar, hd⟩ := h
  obtain rfl := Option.some.inj (hg.symm.trans hg')
  obtain rfl := Option.some.inj (hty.symm.trans ht')
  unfold TabIs
  rw [hvar, ← cells_of_tab ht he hce hct hd]

/-- The list that each of the twelve rows bears. -/
def laidAll : List (String × DataW Unit) := Rows.isaSizesRow.laid
theorem met_of (W : World) (h : laidMetH Tryz.prog laidAll W) : laidMet Tryz.prog laidAll W := h

theorem iface_of_reads {W : World} {name nm : String} {text : List UInt8} {g : Nat} (hg : Tryz.prog.globalNamed name = some g) (hty : (Tryz.prog.globals[g]?).map (·.type) = some 149)
    (h : VarReads Tryz.prog W name (.iface nm (.ptr (.agg [.lit (.string text)])))) : ∃ te pe, W.cell? ⟨g, 0, none⟩ = some (.iface te pe) := by
  obtain ⟨g', t', cs, fuel, p, hg', ht', hvar, hd⟩ := h
  obtain rfl := Option.some.inj (hg.symm.trans hg')
  obtain rfl := Option.some.inj (hty.symm.trans ht')
  obtain ⟨l⟩ := cs
  cases fuel with
  | zero => simp [DataW.trod] at hd
  | succ fuel =>
    have u149 : ∃ ms, Tryz.prog.underlying 149 = some (.interface ms) := ⟨_, Tryz.underlying149⟩
    obtain ⟨ms, u⟩ := u149
    simp only [DataW.trod, u] at hd
    rcases l with _ | ⟨v, _ | ⟨v2, l⟩⟩
    · simp at hd
    · cases v
      case iface te pe => exact ⟨te, pe, by simpa using World.var?_cell hg hvar 0⟩
      all_goals simp at hd
    · simp at hd

set_option maxRecDepth 1000000 in
theorem env_of_laid {W : World} (h : laidMet Tryz.prog laidAll W) (hS : W.ShapedOpen Tryz.prog) : Env W := by
  have r3 : TabIs Tryz.prog W "strings.asciiSpace" .u8 asciiSpaceTab := tab_of_reads g3 gt3 u159 u5 c5 c159 (laidMet.reads h (.tail _ (.tail _ (.tail _ (.tail _ (.tail _ (.tail _ (.tail _ (.head _)))))))))
  have r5 : TabIs Tryz.prog W "internal/strconv.uint64pow10" .u64 pow10Tab := tab_of_reads g5 gt5 u200 u37 c37 c200 (laidMet.reads h (.tail _ (.tail _ (.head _))))
  have r11 : TabIs Tryz.prog W "math/bits.deBruijn64tab" .u8 _ := tab_of_reads (zs := [0, 1, 56, 2, 57, 49, 28, 3, 61, 58, 42, 50, 38, 29, 17, 4, 62, 47, 59, 36, 45, 43, 51, 22, 53, 39, 33, 30, 24, 18, 12, 5, 63, 55, 48, 27, 60, 41, 37, 16, 46, 35, 44, 21, 52, 32, 23, 11, 54, 26, 40, 15, 34, 20, 31, 10, 25, 14, 19, 9, 13, 8, 7, 6]) g11 gt11 u223 u5 c5 c223 (laidMet.reads h (.tail _ (.head _)))
  have e11 : W.cell? ⟨11, 15, none⟩ = some (.int .u8 4) := r11.cell g11 15 (by decide)
  exact
    { size := by
        rcases Nat.lt_or_ge 11 W.heap.size with h' | h'
        · omega
        · simp [World.cell?, Array.getElem?_eq_none h'] at e11
      maxLen := cell_of_shapedOpen_int (g := 2) (t := 3) (zero := #[.int .i64 0]) (k := .i64) hS (of_decide_eq_true (by kernel_rfl)) (by kernel_rfl) rfl (by kernel_rfl) (by kernel_rfl) (by kernel_rfl)
      space := r3
      pow := r5
      bruijn := e11
      synt := iface_of_reads g8 gt8 (laidMet.reads h (.tail _ (.tail _ (.tail _ (.tail _ (.tail _ (.head _)))))))
      rng := iface_of_reads g9 gt9 (laidMet.reads h (.tail _ (.tail _ (.tail _ (.tail _ (.head _)))))) }
end Go.Proofs.YtdkclapinedgiaaGreatDoor

namespace Go.Proofs.YtdkclapinedgiaaGreatDoor
open Go.RowKit Go.Lib

def dB32 : List Int := [0, 1, 28, 2, 29, 14, 24, 3, 30, 22, 20, 15, 25, 17, 4, 8, 31, 27, 13, 23, 21, 19, 16, 7, 26, 12, 18, 6, 11, 5, 10, 9]
def dB64 : List Int := [0, 1, 56, 2, 57, 49, 28, 3, 61, 58, 42, 50, 38, 29, 17, 4, 62, 47, 59, 36, 45, 43, 51, 22, 53, 39, 33, 30, 24, 18, 12, 5, 63, 55, 48, 27, 60, 41, 37, 16, 46, 35, 44, 21, 52, 32, 23, 11, 54, 26, 40, 15, 34, 20, 31, 10, 25, 14, 19, 9, 13, 8, 7, 6]
def errText (l : List UInt8) : Value := .string ⟨l.toArray⟩
noncomputable def laidWorld (os : Os) : World :=
  let N := (World.settled Tryz.prog os).heap.size
  let w0 := World.holding Tryz.prog os ⟨#[.cells (Lib.whiteT.map fun (z : Nat) => Value.int .u16 (z : Int)).toArray 194, .cells #[.slice (some ⟨N, 0, none⟩) 7 7, .slice none 0 0, .int .i64 2] 191,
    .cells #[errText [118, 97, 108, 117, 101, 32, 111, 117, 116, 32, 111, 102, 32, 114, 97, 110, 103, 101]] 227, .cells #[errText [105, 110, 118, 97, 108, 105, 100, 32, 115, 121, 110, 116, 97, 120]] 227], #[], []⟩
  let put (h : Array Obj) (g : Nat) (cs : Array Value) : Array Obj := h.modify g fun
    | .cells _ t frozen => .cells cs t frozen
    | o => o
  let h1 := put w0.heap 3 (Lib.asciiSpaceTab.map fun z => Value.int .u8 z).toArray
  let h2 := put h1 6 (Lib.firstTab.map fun z => Value.int .u8 z).toArray
  let h3 := put h2 7 ((List.range 16).flatMap fun i => [Value.int .u8 (Lib.accLo i), Value.int .u8 (Lib.accHi i)]).toArray
  let h4 := put h3 4 #[.pointer (some ⟨N + 1, 0, none⟩)]
  let h5 := put h4 5 (Lib.pow10Tab.map fun z => Value.int .u64 z).toArray
  let h6 := put h5 10 (dB32.map fun z => Value.int .u8 z).toArray
  let h7 := put h6 11 (dB64.map fun z => Value.int .u8 z).toArray
  let h8 := put h7 8 #[.iface 225 (.pointer (some ⟨N + 3, 0, none⟩))]
  let h9 := put h8 9 #[.iface 225 (.pointer (some ⟨N + 2, 0, none⟩))]
  { w0 with heap := h9 }
noncomputable abbrev N0 : Nat := (World.settled Tryz.prog default).heap.size

set_option maxRecDepth 1000000 in
theorem piece1 (os : Os) (args : Array Value) : LaidIn Tryz.prog ((laidWorld os).forCall (fun _ _ => 0) ⟨#[], args, []⟩).memory (laidAll.take 4) [10, 11, 5, 7] :=
  LaidIn.of_run [10, 11, 5, 7] 8 (by kernel_rfl) (by kernel_rfl) (by kernel_rfl) (by kernel_rfl)
set_option maxRecDepth 1000000 in
theorem piece2 (os : Os) (args : Array Value) : LaidIn Tryz.prog ((laidWorld os).forCall (fun _ _ => 0) ⟨#[], args, []⟩).memory ((laidAll.drop 4).take 3) [9, N0 + 2, 8, N0 + 3, 4, N0 + 1, N0] :=
  LaidIn.of_run [9, N0 + 2, 8, N0 + 3, 4, N0 + 1, N0] 10 (by kernel_rfl) (by kernel_rfl) (by kernel_rfl) (by kernel_rfl)
set_option maxRecDepth 1000000 in
theorem piece3 (os : Os) (args : Array Value) : LaidIn Tryz.prog ((laidWorld os).forCall (fun _ _ => 0) ⟨#[], args, []⟩).memory ((laidAll.drop 7).take 1) [3] :=
  LaidIn.of_run [3] 8 (by kernel_rfl) (by kernel_rfl) (by kernel_rfl) (by kernel_rfl)
set_option maxRecDepth 1000000 in
theorem piece4 (os : Os) (args : Array Value) : LaidIn Tryz.prog ((laidWorld os).forCall (fun _ _ => 0) ⟨#[], args, []⟩).memory (laidAll.drop 8) [6] :=
  LaidIn.of_run [6] 8 (by kernel_rfl) (by kernel_rfl) (by kernel_rfl) (by kernel_rfl)
theorem laid_met (os : Os) (args : Array Value) : laidMet Tryz.prog laidAll ((laidWorld os).forCall (fun _ _ => 0) ⟨#[], args, []⟩).memory :=
  ((((piece1 os args).append (piece2 os args) (by kernel_rfl)).append (piece3 os args) (by kernel_rfl)).append (piece4 os args) (by kernel_rfl)).met
end Go.Proofs.YtdkclapinedgiaaGreatDoor
