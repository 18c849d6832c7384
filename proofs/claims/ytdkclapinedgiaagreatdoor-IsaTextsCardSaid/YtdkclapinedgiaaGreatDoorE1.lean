/- Contracts: accesses, oneOf of package isa; Index and Contains of slices at int. -/
import Derived.Test.YtdkclapinedgiaaGreatDoorWords3
import Derived.Lib.Hide
import Derived.WalkSpells
import Derived.WalkLawsBesides
namespace Go.Proofs.YtdkclapinedgiaaGreatDoor
open Go.RowKit

def i64s (l : List Int) : List Value := l.map (.int .i64)
/-- Where a number stands first in a list, -1 if it is not there. -/
def intIdx (l : List Int) (x : Int) : Int := match l.findIdx? (· == x) with | some k => k | none => -1
theorem intIdx_hit {l : List Int} {x : Int} {k : Nat} (hk : k < l.length) (h : x = l[k]) (hno : ∀ j, j < k → l[j]? ≠ some x) : intIdx l x = k := by
  have : l.findIdx? (· == x) = some k := by
    rw [List.findIdx?_eq_some_iff_getElem]
    refine ⟨hk, ?_, fun j hj => ?_⟩
    · simp [h]
    · have := hno j hj
      rw [List.getElem?_eq_getElem (by omega)] at this
      simp at this ⊢; exact this
  unfold intIdx; rw [this]
theorem intIdx_none {l : List Int} {x : Int} (hno : ∀ j, j < l.length → l[j]? ≠ some x) : intIdx l x = -1 := by
  have : l.findIdx? (· == x) = none := by
    rw [List.findIdx?_eq_none_iff]
    intro y hy
    obtain ⟨j, hj, rfl⟩ := List.getElem_of_mem hy
    have := hno j hj
    rw [List.getElem?_eq_getElem hj] at this
    simp at this ⊢; exact this
  unfold intIdx; rw [this]
theorem intIdx_has (l : List Int) (x : Int) : decide (0 ≤ intIdx l x) = l.contains x := by
  unfold intIdx
  cases h : l.findIdx? (· == x) with
  | none =>
    rw [List.findIdx?_eq_none_iff] at h
    have : l.contains x = false := by
      simp only [List.contains_eq_mem, decide_eq_false_iff_not]
      intro hx; have := h x hx; simp at this
    rw [this]; decide
  | some k =>
    rw [List.findIdx?_eq_some_iff_getElem] at h
    obtain ⟨hk, h1, _⟩ := h
    have : l.contains x = true := by
      simp only [List.contains_eq_mem, decide_eq_true_eq]
      have e : l[k] = x := by simpa using h1
      rw [← e]; exact List.getElem_mem hk
    rw [this]; simp

set_option maxHeartbeats 4000000 in
theorem iindex_any (A : Option Addr) (n c : Nat) (l : List Int) (x : Int) (w : World) (hr : Reads w w.heap.size 1 A n (i64s l)) (hn : n ≤ 1000000) :
    Calls Tryz.prog 161 #[.slice A n c, .int .i64 x] w fun e w' => e = .returned (.int .i64 (intIdx l x)) ∧ w = w' := by
  have hlen : l.length = n := by have := hr.1; simpa [i64s] using this
  have HR := Lib.hid hr
  have HL := Lib.hid hlen
  clear hr hlen
  go_enter Tryz.func161, Tryz.ntmps161
  go_wp2
  go_loop [8] (fun i => ∃ k : Nat, k ≤ n ∧ i = .int .i64 k ∧ ∀ j, j < k → l[j]? ≠ some x) (fun i => n - (intOf i).toNat)
  case atStart => exact ⟨0, by omega, rfl, fun j hj => by omega⟩
  case round =>
    obtain ⟨k, hk, rfl, hno⟩ := hrel
    have HN := Lib.hid hno
    clear hno
    by_cases hlt : k < n
    · obtain ⟨ad, u, rfl, hb, hx, hc⟩ := HR.out.at_ hlt
      have hkl : k < l.length := by rw [HL.out]; exact hlt
      unfold i64s at hx
      rw [List.getElem?_map, List.getElem?_eq_getElem hkl] at hx
      obtain rfl : Value.int .i64 l[k] = u := by simpa using hx
      clear hx
      by_cases hx : x = l[k]
      · have HX := Lib.hid hx
        have hb : (x == l[k]) = true := by simpa using hx
        clear hx
        go_wp2
        go_ret
        exact ⟨by rw [intIdx_hit hkl HX.out HN.out]; rfl, rfl⟩
      · have HX := Lib.hid hx
        have hb : (x == l[k]) = false := by simpa using hx
        clear hx
        go_wp2
        refine ⟨⟨k + 1, by omega, by go_num, fun j hj => ?_⟩, by simp [intOf]; omega⟩
        by_cases hjk : j < k
        · exact HN.out j hjk
        · obtain rfl : j = k := by omega
          rw [List.getElem?_eq_getElem hkl]
          intro h
          injection h with h
          exact HX.out h.symm
    · have hkn : k = n := by omega
      go_wp2
      go_ret
      exact ⟨by rw [intIdx_none (fun j hj => HN.out j (by rw [hkn, ← HL.out]; exact hj))]; rfl, rfl⟩

theorem icontains_any (A : Option Addr) (n c : Nat) (l : List Int) (x : Int) (w : World) (hr : Reads w w.heap.size 1 A n (i64s l)) (hn : n ≤ 1000000) :
    Calls Tryz.prog 129 #[.slice A n c, .int .i64 x] w fun e w' => e = .returned (.bool (l.contains x)) ∧ w = w' := by
  rw [← intIdx_has]
  go_enter Tryz.func129, Tryz.ntmps129
  go_wp2_with (go_at_call 161; refine (iindex_any _ _ _ l _ _ hr hn).mono ?_; rintro e w' ⟨rfl, rfl⟩)
  go_ret
  exact ⟨rfl, rfl⟩
/-- Whether an operation is one of some. -/
def hasOp (l : List Int) (x : Int) : Bool := l.contains x
theorem oneof_any (A : Option Addr) (n c : Nat) (l : List Int) (x : Int) (w : World) (hr : Reads w w.heap.size 1 A n (i64s l)) (hn : n ≤ 1000000) :
    Calls Tryz.prog 66 #[.int .i64 x, .slice A n c] w fun e w' => e = .returned (.bool (hasOp l x)) ∧ w = w' := by
  unfold hasOp
  generalize hz : l.contains x = z
  have H := icontains_any A n c l x w hr hn
  rw [hz] at H
  have H := Lib.hid H
  clear hz hr
  go_enter Tryz.func66, Tryz.ntmps66
  go_wp2_with (go_at_call 129; refine H.out.mono ?_; rintro e w' ⟨rfl, rfl⟩)
  go_ret
  exact ⟨rfl, rfl⟩

/-- How many bytes an operation loads and stores. -/
def accOf (op : Int) : Int × Int :=
  if op = 27 ∨ op = 30 then (1, 0) else if op = 28 then (2, 0) else if op = 29 ∨ op = 69 ∨ op = 35 ∨ op = 42 then (4, 0) else if op = 48 then (16, 0) else
  if op = 31 then (0, 1) else if op = 32 then (0, 2) else if op = 33 ∨ op = 70 ∨ op = 34 ∨ op = 68 ∨ op = 41 then (0, 4) else if op = 49 then (0, 16) else
  if op = 36 ∨ op = 37 ∨ op = 38 then (4, 4) else (0, 0)
def AccPost (w : World) (op : Int) (e : Ending) (w' : World) : Prop := e = .returned (.agg #[.int .i64 (accOf op).1, .int .i64 (accOf op).2]) ∧ Below w.heap.size w w'
set_option maxHeartbeats 4000000 in
theorem accesses_any (op : Int) (w : World) : Calls Tryz.prog 65 #[.int .i64 op] w (AccPost w op) := by
  go_enter Tryz.func65, Tryz.ntmps65
  go_wp2
  all_goals
    refine bodyPost_ret (v := .agg #[.int .i64 (accOf op).1, .int .i64 (accOf op).2]) (by simp_all [results, Tryz.results65, go_sem, accOf]; done) rfl ⟨rfl, ?_⟩
    exact (Below.refl _ w).alloc (Nat.le_refl _) _
end Go.Proofs.YtdkclapinedgiaaGreatDoor
