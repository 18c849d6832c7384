/- Contracts: count, below, Count of package isa. -/
import Derived.Test.YtdkclapinedgiaaGreatDoorD1
import Derived.Deep.RegionHeld3
import Derived.Deep.RegionLaw
import Derived.Laws.Pointers
namespace Go.Proofs.YtdkclapinedgiaaGreatDoor
open Go.RowKit

theorem room_in (op : Int) : (roomOf op).In := by
  have h : ∀ l : List UInt8 × Bool, (let r := l.1.foldl Room.step room0; 0 ≤ r.a ∧ r.a ≤ 15 ∧ 0 ≤ r.b ∧ r.b ≤ 15 ∧ 0 ≤ r.c ∧ r.c ≤ 15 ∧ 0 ≤ r.d ∧ r.d ≤ 15) → l.1.foldl Room.step room0 = roomOf op → (roomOf op).In :=
    fun l h e => by rw [e] at h; exact ⟨⟨h.1, h.2.1⟩, ⟨h.2.2.1, h.2.2.2.1⟩, ⟨h.2.2.2.2.1, h.2.2.2.2.2.1⟩, ⟨h.2.2.2.2.2.2.1, h.2.2.2.2.2.2.2⟩⟩
  refine h (opnd op) ?_ rfl
  unfold opnd vecs
  repeat' (refine ite_P (P := fun l : List UInt8 × Bool => (let r := l.1.foldl Room.step room0; 0 ≤ r.a ∧ r.a ≤ 15 ∧ 0 ≤ r.b ∧ r.b ≤ 15 ∧ 0 ≤ r.c ∧ r.c ≤ 15 ∧ 0 ≤ r.d ∧ r.d ≤ 15)) ?_ ?_)
  all_goals decide

theorem idx103_0 (x0 x1 x2 x3 x4 x5 x6 x7 x8 x9 x10 x11 : Value) (w : World) : (Instr.index 103 (.agg #[x0, x1, x2, x3, x4, x5, x6, x7, x8, x9, x10, x11]) (.int .i64 0)).run Tryz.prog w = .ok (.agg #[x0, x1]) w := by kernel_rfl
theorem idx103_1 (x0 x1 x2 x3 x4 x5 x6 x7 x8 x9 x10 x11 : Value) (w : World) : (Instr.index 103 (.agg #[x0, x1, x2, x3, x4, x5, x6, x7, x8, x9, x10, x11]) (.int .i64 1)).run Tryz.prog w = .ok (.agg #[x2, x3]) w := by kernel_rfl
theorem idx103_2 (x0 x1 x2 x3 x4 x5 x6 x7 x8 x9 x10 x11 : Value) (w : World) : (Instr.index 103 (.agg #[x0, x1, x2, x3, x4, x5, x6, x7, x8, x9, x10, x11]) (.int .i64 2)).run Tryz.prog w = .ok (.agg #[x4, x5]) w := by kernel_rfl
theorem idx103_3 (x0 x1 x2 x3 x4 x5 x6 x7 x8 x9 x10 x11 : Value) (w : World) : (Instr.index 103 (.agg #[x0, x1, x2, x3, x4, x5, x6, x7, x8, x9, x10, x11]) (.int .i64 3)).run Tryz.prog w = .ok (.agg #[x6, x7]) w := by kernel_rfl
theorem idx103_4 (x0 x1 x2 x3 x4 x5 x6 x7 x8 x9 x10 x11 : Value) (w : World) : (Instr.index 103 (.agg #[x0, x1, x2, x3, x4, x5, x6, x7, x8, x9, x10, x11]) (.int .i64 4)).run Tryz.prog w = .ok (.agg #[x8, x9]) w := by kernel_rfl
theorem idx103_5 (x0 x1 x2 x3 x4 x5 x6 x7 x8 x9 x10 x11 : Value) (w : World) : (Instr.index 103 (.agg #[x0, x1, x2, x3, x4, x5, x6, x7, x8, x9, x10, x11]) (.int .i64 5)).run Tryz.prog w = .ok (.agg #[x10, x11]) w := by kernel_rfl
attribute [local go_sem] idx103_0 idx103_1 idx103_2 idx103_3 idx103_4 idx103_5

/-- How many instructions a room holds. -/
def cntRoom (r : Room) : Int := IntKind.u64.wrap (IntKind.u64.wrap (IntKind.u64.wrap (IntKind.u64.wrap (IntKind.u64.wrap (IntKind.u64.wrap (manyOf r 0) * manyOf r 1) * manyOf r 2) * manyOf r 3) * manyOf r 4) * manyOf r 5)
/-- How many instructions an operation has. -/
def cntOf (op : Int) : Int := if (opnd op).2 then cntRoom (roomOf op) else 0
def CountPost (w : World) (op : Int) (e : Ending) (w' : World) : Prop := e = .returned (.int .u64 (cntOf op)) ∧ Below w.heap.size w w'

set_option maxRecDepth 100000 in
set_option maxHeartbeats 4000000 in
theorem count_any (op : Int) (w : World) : Calls Tryz.prog 79 #[.int .i64 op] w (CountPost w op) := by
  have hd := Lib.hid (fun W => digits_any (roomOf op) insn0 W (room_in op) ⟨by decide, by decide, by decide, by decide, by decide, by decide⟩)
  rcases hv : (opnd op).2 with _ | _
  · have HV := Lib.hid hv
    go_enter Tryz.func79, Tryz.ntmps79
    go_wp2_with (first
      | (go_at_call 71; refine (fields_any _ _).mono ?_; rintro e w1 ⟨rfl, hb⟩; unfold Room.cs))
    go_ret
    exact ⟨by unfold cntOf; rw [HV.out]; rfl, hb.alloc hb.size _⟩
  · have HV := Lib.hid hv
    go_enter Tryz.func79, Tryz.ntmps79
    go_wp2_with (first
      | (go_at_call 71; refine (fields_any _ _).mono ?_; rintro e w1 ⟨rfl, hb⟩; unfold Room.cs)
      | (go_at_call 73; refine (hd.out _).mono ?_; rintro e w2 ⟨rfl, hb2⟩; unfold digVals))
    go_rounds 7
    go_ret
    have h0 := hb.size
    have h1 := hb2.size
    simp only [World.size_alloc] at h1
    refine ⟨by unfold cntOf; rw [HV.out]; rfl, ?_⟩
    exact (((((((hb.alloc hb.size _).call hb2 (by simp only [World.size_alloc]; omega)).alloc (by omega) _).alloc (by simp only [World.size_alloc]; omega) _).alloc (by simp only [World.size_alloc]; omega) _).alloc (by simp only [World.size_alloc]; omega) _).alloc (by simp only [World.size_alloc]; omega) _).alloc (by simp only [World.size_alloc]; omega) _

def Below1Post (w : World) (g : Nat) (v : Int) (e : Ending) (w' : World) : Prop := e = .returned (.tuple #[]) ∧ ∃ w1, Below w.heap.size w w1 ∧ w' = w1.setCell ⟨g, 0, none⟩ (.int .u64 v)
set_option maxHeartbeats 4000000 in
theorem below1_any (k : Int) (g : Nat) (n : Int) (w : World) (hc : w.cell? ⟨g, 0, none⟩ = some (.int .u64 n)) (hf : w.frozen? ⟨g, 0, none⟩ = false) (hg : g < w.heap.size) :
    Calls Tryz.prog 131 #[.int .i64 k, .pointer (some ⟨g, 0, none⟩)] w (Below1Post w g (IntKind.u64.wrap (n + cntOf k))) := by
  go_enter Tryz.func131, Tryz.ntmps131
  go_region_law (first | (go_simp; go_at_call 79; refine (count_any _ _).mono ?_; rintro e w1 ⟨rfl, hb⟩; have hc1 := (hb.cell (p := ⟨g, 0, none⟩) hg).trans hc; have hf1 := (hb.frozen (p := ⟨g, 0, none⟩) hg).trans hf))
  all_goals
    go_end0
    exact ⟨rfl, w1, (Below.refl w.heap.size w).drew.trans hb, rfl⟩

/-- How many instructions have a lesser operation. -/
def belowOf : Nat → Int
  | 0 => 0
  | k + 1 => IntKind.u64.wrap (belowOf k + cntOf k)
def BelowPost (w : World) (k : Nat) (e : Ending) (w' : World) : Prop := e = .returned (.int .u64 (belowOf k)) ∧ Below w.heap.size w w'
/-- Where the loop of 'below' stands. -/
def BelowAt (w wr : World) (k : Nat) : Prop := Blk wr w.heap.size 37 #[.int .u64 (belowOf k)] ∧ Below w.heap.size w wr
set_option maxHeartbeats 4000000 in
theorem below_any (n : Nat) (w : World) (hn : n ≤ 1000) : Calls Tryz.prog 74 #[.int .i64 n] w (BelowPost w n) := by
  go_enter Tryz.func74, Tryz.ntmps74
  go_wp2
  go_loopw [8] (fun i wr => ∃ k : Nat, k ≤ n ∧ i = .int .i64 k ∧ BelowAt w wr k) (fun i _ => n - (intOf i).toNat)
  case atStart => exact ⟨0, by omega, rfl, Blk.new w 37 _, (Below.refl _ w).alloc (Nat.le_refl _) _⟩
  case round =>
    obtain ⟨k, hk, rfl, hrel⟩ := hrel
    have HR := Lib.hid hrel
    have hc := hrel.1.cell 0
    have hf := hrel.1.frozen 0
    have hg := hrel.1.lt
    simp at hc
    clear hrel
    by_cases hlt : k < n
    · go_wp2_with (go_at_call 131; refine (below1_any k w.heap.size _ _ hc hf hg).mono ?_; rintro e w' ⟨rfl, w1, hb, rfl⟩)
      go_roundw
      case rel =>
        refine ⟨k + 1, by omega, by go_num, ?_, ?_⟩
        · exact (HR.out.1.call hb).set_ 0 _
        · exact (HR.out.2.call hb HR.out.2.size).setCell (Nat.le_refl _) _
      case measure => simp [intOf]; omega
    · have hkn : k = n := by omega
      go_wp2
      go_ret
      exact ⟨by rw [← hkn]; rfl, HR.out.2⟩

theorem Count_any (w : World) : Calls Tryz.prog 26 #[] w (BelowPost w 73) := by
  go_enter Tryz.func26, Tryz.ntmps26
  go_wp2_with (go_at_call 74; refine (below_any 73 _ (by decide)).mono ?_; rintro e w' ⟨rfl, hb⟩)
  go_ret
  exact ⟨rfl, hb⟩
end Go.Proofs.YtdkclapinedgiaaGreatDoor
