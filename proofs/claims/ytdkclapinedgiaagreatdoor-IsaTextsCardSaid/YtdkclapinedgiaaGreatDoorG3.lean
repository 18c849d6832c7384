/- Contracts: what writes the operands. -/
import Derived.Test.YtdkclapinedgiaaGreatDoorG1
import Derived.Test.YtdkclapinedgiaaGreatDoorG2
import Derived.Test.YtdkclapinedgiaaGreatDoorC2
import Derived.Deep.RegionHeld3
import Derived.Deep.RegionWith
namespace Go.Proofs.YtdkclapinedgiaaGreatDoor
open Go.RowKit

/-- The text of an operand. -/
def opText (c : UInt8) (x : Insn) : List UInt8 :=
  if c = 97 then 114 :: Lib.itoa x.a else if c = 98 then 114 :: Lib.itoa x.b else if c = 99 then 114 :: Lib.itoa x.c else
  if c = 65 then 118 :: Lib.itoa x.a else if c = 66 then 118 :: Lib.itoa x.b else if c = 67 then 118 :: Lib.itoa x.c else
  if c = 100 then condTab.getD x.d.toNat [] else if c = 101 then extTab.getD x.d.toNat [] else if c = 108 then laneTab.getD x.d.toNat [] else
  if c = 119 ∨ c = 115 then Lib.itoa x.d else if c = 107 then Lib.itoa x.k else if c = 105 then 48 :: 120 :: hexL x.i.toNat else
  if c = 110 then [91, 114] ++ Lib.itoa x.b ++ [43, 48, 120] ++ hexL x.i.toNat ++ [93] else
  [91, 114] ++ Lib.itoa x.b ++ (if 0 < x.k then [43] else []) ++ (if x.k = 0 then [] else Lib.itoa x.k) ++ [93]

/-- The fields are numbers of their kinds. -/
structure Insn.In (x : Insn) : Prop where
  op : -9223372036854775808 ≤ x.op ∧ x.op ≤ 9223372036854775807
  a : -9223372036854775808 ≤ x.a ∧ x.a ≤ 9223372036854775807
  b : -9223372036854775808 ≤ x.b ∧ x.b ≤ 9223372036854775807
  c : -9223372036854775808 ≤ x.c ∧ x.c ≤ 9223372036854775807
  d : -9223372036854775808 ≤ x.d ∧ x.d ≤ 9223372036854775807
  k : -9223372036854775808 ≤ x.k ∧ x.k ≤ 9223372036854775807
  i : 0 ≤ x.i ∧ x.i < 4294967296

def TextPost (w : World) (l : List UInt8) (e : Ending) (w' : World) : Prop := e = .returned (.string ⟨l.toArray⟩) ∧ Below w.heap.size w w'
theorem below_env {w : World} (he : Env w) : ∀ W, Below w.heap.size w W → Env W := fun _ hb => he.below hb

set_option maxHeartbeats 1000000 in
theorem wr94 (x : Insn) (hi : x.In) (w : World) (he : Env w) : Calls Tryz.prog 94 #[.agg x.cs] w (TextPost w (opText 97 x)) := by
  have HE := Lib.hid (below_env he)
  have hr := Lib.hid (fun W h => regText_any [114] (by decide) x.a hi.a.1 hi.a.2 W h)
  unfold Insn.cs
  clear he hi
  go_enter Tryz.func94, Tryz.ntmps94
  go_wp2_with (go_at_call 95; refine (hr.out _ (HE.out _ (by (repeat (first | exact Below.refl _ _ | assumption | refine Below.drew ?_ | refine Below.alloc ?_ (by first | exact Nat.le_refl _ | (simp; done) | (simp; omega)) _ | refine Below.call ?_ (by assumption) (by first | exact Nat.le_refl _ | (simp; done) | (simp; omega) | omega)))))).mono ?_; rintro e w' ⟨rfl, hb⟩)
  go_ret
  exact ⟨rfl, ((Below.refl _ w).alloc (Nat.le_refl _) _).call hb (by simp)⟩
def AtPost (w : World) (m d : Nat) (R : List UInt8) (e : Ending) (w' : World) : Prop :=
  ∃ g, e = .returned (.slice (some ⟨g, 0, none⟩) m m) ∧ w'.cell? ⟨g, d, none⟩ = some (.string ⟨R.toArray⟩) ∧ w.heap.size ≤ g ∧ Below w.heap.size w w'
theorem TabPost.at_ {w : World} {r : List (List UInt8)} {e : Ending} {w' : World} (h : TabPost w r e w') (d : Nat) (hd : d < r.length) : AtPost w r.length d (r.getD d []) e w' := by
  obtain ⟨rfl, rfl⟩ := h
  refine ⟨_, rfl, ?_, Nat.le_refl _, (Below.refl _ w).alloc (Nat.le_refl _) _⟩
  rw [(Blk.new w 9 _).cell]
  simp [hd]

set_option maxHeartbeats 1000000 in
theorem wr101 (x : Insn) (h0 : 0 ≤ x.d) (h1 : x.d < 16) (w : World) (he : Env w) : Calls Tryz.prog 101 #[.agg x.cs] w (TextPost w (opText 100 x)) := by
  have HE := Lib.hid (below_env he)
  have HT : opText 100 x = condTab.getD x.d.toNat [] := rfl
  unfold Insn.cs
  rw [HT]
  clear he HT
  generalize x.d = d at *
  obtain ⟨n, rfl⟩ : ∃ n : Nat, d = n := ⟨d.toNat, by omega⟩
  have hC := Lib.hid (show ∀ W, Env W → Calls Tryz.prog 102 #[] W (AtPost W 16 n (condTab.getD n [])) from fun W hW => (conditions_any W hW).mono fun _ _ h => h.at_ n (by have : condTab.length = 16 := rfl; omega))
  rw [show ((n : Int).toNat) = n from rfl]
  generalize condTab.getD n [] = R at *
  have hn : n < 16 := by omega
  go_enter Tryz.func101, Tryz.ntmps101
  go_wp2
  go_region_with (go_at_call 102; refine (hC.out _ (HE.out _ (by (repeat (first | exact Below.refl _ _ | assumption | refine Below.drew ?_ | refine Below.alloc ?_ (by first | exact Nat.le_refl _ | (simp; done) | (simp; omega)) _ | refine Below.call ?_ (by assumption) (by first | exact Nat.le_refl _ | (simp; done) | (simp; omega) | omega)))))).mono ?_; rintro e w1 ⟨g, rfl, hc, hg, hb⟩; obtain ⟨hc1, hf1⟩ := bcell hb)
  all_goals
    go_wp2
    go_ret
    refine ⟨rfl, by (repeat (first | exact Below.refl _ _ | assumption | refine Below.drew ?_ | refine Below.alloc ?_ (by first | exact Nat.le_refl _ | (simp; done) | (simp; omega)) _ | refine Below.call ?_ (by assumption) (by first | exact Nat.le_refl _ | (simp; done) | (simp; omega) | omega)))⟩

set_option maxHeartbeats 1000000 in
theorem wr103 (x : Insn) (h0 : 0 ≤ x.d) (h1 : x.d < 4) (w : World) (he : Env w) : Calls Tryz.prog 103 #[.agg x.cs] w (TextPost w (opText 101 x)) := by
  have HE := Lib.hid (below_env he)
  have HT : opText 101 x = extTab.getD x.d.toNat [] := rfl
  unfold Insn.cs
  rw [HT]
  clear he HT
  generalize x.d = d at *
  obtain ⟨n, rfl⟩ : ∃ n : Nat, d = n := ⟨d.toNat, by omega⟩
  have hC := Lib.hid (show ∀ W, Env W → Calls Tryz.prog 104 #[] W (AtPost W 4 n (extTab.getD n [])) from fun W hW => (extensions_any W hW).mono fun _ _ h => h.at_ n (by have : extTab.length = 4 := rfl; omega))
  rw [show ((n : Int).toNat) = n from rfl]
  generalize extTab.getD n [] = R at *
  have hn : n < 4 := by omega
  go_enter Tryz.func103, Tryz.ntmps103
  go_wp2
  go_region_with (go_at_call 104; refine (hC.out _ (HE.out _ (by (repeat (first | exact Below.refl _ _ | assumption | refine Below.drew ?_ | refine Below.alloc ?_ (by first | exact Nat.le_refl _ | (simp; done) | (simp; omega)) _ | refine Below.call ?_ (by assumption) (by first | exact Nat.le_refl _ | (simp; done) | (simp; omega) | omega)))))).mono ?_; rintro e w1 ⟨g, rfl, hc, hg, hb⟩; obtain ⟨hc1, hf1⟩ := bcell hb)
  all_goals
    go_wp2
    go_ret
    refine ⟨rfl, by (repeat (first | exact Below.refl _ _ | assumption | refine Below.drew ?_ | refine Below.alloc ?_ (by first | exact Nat.le_refl _ | (simp; done) | (simp; omega)) _ | refine Below.call ?_ (by assumption) (by first | exact Nat.le_refl _ | (simp; done) | (simp; omega) | omega)))⟩

set_option maxHeartbeats 1000000 in
theorem wr105 (x : Insn) (h0 : 0 ≤ x.d) (h1 : x.d < 3) (w : World) (he : Env w) : Calls Tryz.prog 105 #[.agg x.cs] w (TextPost w (opText 108 x)) := by
  have HE := Lib.hid (below_env he)
  have HT : opText 108 x = laneTab.getD x.d.toNat [] := rfl
  unfold Insn.cs
  rw [HT]
  clear he HT
  generalize x.d = d at *
  obtain ⟨n, rfl⟩ : ∃ n : Nat, d = n := ⟨d.toNat, by omega⟩
  have hC := Lib.hid (show ∀ W, Env W → Calls Tryz.prog 106 #[] W (AtPost W 3 n (laneTab.getD n [])) from fun W hW => (lanes_any W hW).mono fun _ _ h => h.at_ n (by have : laneTab.length = 3 := rfl; omega))
  rw [show ((n : Int).toNat) = n from rfl]
  generalize laneTab.getD n [] = R at *
  have hn : n < 3 := by omega
  go_enter Tryz.func105, Tryz.ntmps105
  go_wp2
  go_region_with (go_at_call 106; refine (hC.out _ (HE.out _ (by (repeat (first | exact Below.refl _ _ | assumption | refine Below.drew ?_ | refine Below.alloc ?_ (by first | exact Nat.le_refl _ | (simp; done) | (simp; omega)) _ | refine Below.call ?_ (by assumption) (by first | exact Nat.le_refl _ | (simp; done) | (simp; omega) | omega)))))).mono ?_; rintro e w1 ⟨g, rfl, hc, hg, hb⟩; obtain ⟨hc1, hf1⟩ := bcell hb)
  all_goals
    go_wp2
    go_ret
    refine ⟨rfl, by (repeat (first | exact Below.refl _ _ | assumption | refine Below.drew ?_ | refine Below.alloc ?_ (by first | exact Nat.le_refl _ | (simp; done) | (simp; omega)) _ | refine Below.call ?_ (by assumption) (by first | exact Nat.le_refl _ | (simp; done) | (simp; omega) | omega)))⟩

set_option maxHeartbeats 1000000 in
theorem wr96 (x : Insn) (hi : x.In) (w : World) (he : Env w) : Calls Tryz.prog 96 #[.agg x.cs] w (TextPost w (opText 98 x)) := by
  have HE := Lib.hid (below_env he)
  have hr := Lib.hid (fun W h => regText_any [114] (by decide) x.b hi.b.1 hi.b.2 W h)
  unfold Insn.cs
  clear he hi
  go_enter Tryz.func96, Tryz.ntmps96
  go_wp2_with (go_at_call 95; refine (hr.out _ (HE.out _ (by (repeat (first | exact Below.refl _ _ | assumption | refine Below.drew ?_ | refine Below.alloc ?_ (by first | exact Nat.le_refl _ | (simp; done) | (simp; omega)) _ | refine Below.call ?_ (by assumption) (by first | exact Nat.le_refl _ | (simp; done) | (simp; omega) | omega)))))).mono ?_; rintro e w' ⟨rfl, hb⟩)
  go_ret
  exact ⟨rfl, ((Below.refl _ w).alloc (Nat.le_refl _) _).call hb (by simp)⟩

set_option maxHeartbeats 1000000 in
theorem wr97 (x : Insn) (hi : x.In) (w : World) (he : Env w) : Calls Tryz.prog 97 #[.agg x.cs] w (TextPost w (opText 99 x)) := by
  have HE := Lib.hid (below_env he)
  have hr := Lib.hid (fun W h => regText_any [114] (by decide) x.c hi.c.1 hi.c.2 W h)
  unfold Insn.cs
  clear he hi
  go_enter Tryz.func97, Tryz.ntmps97
  go_wp2_with (go_at_call 95; refine (hr.out _ (HE.out _ (by (repeat (first | exact Below.refl _ _ | assumption | refine Below.drew ?_ | refine Below.alloc ?_ (by first | exact Nat.le_refl _ | (simp; done) | (simp; omega)) _ | refine Below.call ?_ (by assumption) (by first | exact Nat.le_refl _ | (simp; done) | (simp; omega) | omega)))))).mono ?_; rintro e w' ⟨rfl, hb⟩)
  go_ret
  exact ⟨rfl, ((Below.refl _ w).alloc (Nat.le_refl _) _).call hb (by simp)⟩

set_option maxHeartbeats 1000000 in
theorem wr98 (x : Insn) (hi : x.In) (w : World) (he : Env w) : Calls Tryz.prog 98 #[.agg x.cs] w (TextPost w (opText 65 x)) := by
  have HE := Lib.hid (below_env he)
  have hr := Lib.hid (fun W h => regText_any [118] (by decide) x.a hi.a.1 hi.a.2 W h)
  unfold Insn.cs
  clear he hi
  go_enter Tryz.func98, Tryz.ntmps98
  go_wp2_with (go_at_call 95; refine (hr.out _ (HE.out _ (by (repeat (first | exact Below.refl _ _ | assumption | refine Below.drew ?_ | refine Below.alloc ?_ (by first | exact Nat.le_refl _ | (simp; done) | (simp; omega)) _ | refine Below.call ?_ (by assumption) (by first | exact Nat.le_refl _ | (simp; done) | (simp; omega) | omega)))))).mono ?_; rintro e w' ⟨rfl, hb⟩)
  go_ret
  exact ⟨rfl, ((Below.refl _ w).alloc (Nat.le_refl _) _).call hb (by simp)⟩

set_option maxHeartbeats 1000000 in
theorem wr99 (x : Insn) (hi : x.In) (w : World) (he : Env w) : Calls Tryz.prog 99 #[.agg x.cs] w (TextPost w (opText 66 x)) := by
  have HE := Lib.hid (below_env he)
  have hr := Lib.hid (fun W h => regText_any [118] (by decide) x.b hi.b.1 hi.b.2 W h)
  unfold Insn.cs
  clear he hi
  go_enter Tryz.func99, Tryz.ntmps99
  go_wp2_with (go_at_call 95; refine (hr.out _ (HE.out _ (by (repeat (first | exact Below.refl _ _ | assumption | refine Below.drew ?_ | refine Below.alloc ?_ (by first | exact Nat.le_refl _ | (simp; done) | (simp; omega)) _ | refine Below.call ?_ (by assumption) (by first | exact Nat.le_refl _ | (simp; done) | (simp; omega) | omega)))))).mono ?_; rintro e w' ⟨rfl, hb⟩)
  go_ret
  exact ⟨rfl, ((Below.refl _ w).alloc (Nat.le_refl _) _).call hb (by simp)⟩

set_option maxHeartbeats 1000000 in
theorem wr100 (x : Insn) (hi : x.In) (w : World) (he : Env w) : Calls Tryz.prog 100 #[.agg x.cs] w (TextPost w (opText 67 x)) := by
  have HE := Lib.hid (below_env he)
  have hr := Lib.hid (fun W h => regText_any [118] (by decide) x.c hi.c.1 hi.c.2 W h)
  unfold Insn.cs
  clear he hi
  go_enter Tryz.func100, Tryz.ntmps100
  go_wp2_with (go_at_call 95; refine (hr.out _ (HE.out _ (by (repeat (first | exact Below.refl _ _ | assumption | refine Below.drew ?_ | refine Below.alloc ?_ (by first | exact Nat.le_refl _ | (simp; done) | (simp; omega)) _ | refine Below.call ?_ (by assumption) (by first | exact Nat.le_refl _ | (simp; done) | (simp; omega) | omega)))))).mono ?_; rintro e w' ⟨rfl, hb⟩)
  go_ret
  exact ⟨rfl, ((Below.refl _ w).alloc (Nat.le_refl _) _).call hb (by simp)⟩

set_option maxHeartbeats 1000000 in
theorem wr107 (x : Insn) (hi : x.In) (w : World) (he : Env w) : Calls Tryz.prog 107 #[.agg x.cs] w (TextPost w (opText 119 x)) := by
  have HE := Lib.hid (below_env he)
  have hr := Lib.hid (fun W h => itoa_any x.d hi.d.1 hi.d.2 W h)
  unfold Insn.cs
  clear he hi
  go_enter Tryz.func107, Tryz.ntmps107
  go_wp2_with (go_at_call 108; refine (hr.out _ (HE.out _ (by (repeat (first | exact Below.refl _ _ | assumption | refine Below.drew ?_ | refine Below.alloc ?_ (by first | exact Nat.le_refl _ | (simp; done) | (simp; omega)) _ | refine Below.call ?_ (by assumption) (by first | exact Nat.le_refl _ | (simp; done) | (simp; omega) | omega)))))).mono ?_; rintro e w' ⟨rfl, hb⟩)
  go_ret
  exact ⟨rfl, ((Below.refl _ w).alloc (Nat.le_refl _) _).call hb (by simp)⟩

set_option maxHeartbeats 1000000 in
theorem wr109 (x : Insn) (hi : x.In) (w : World) (he : Env w) : Calls Tryz.prog 109 #[.agg x.cs] w (TextPost w (opText 115 x)) := by
  have HE := Lib.hid (below_env he)
  have hr := Lib.hid (fun W h => itoa_any x.d hi.d.1 hi.d.2 W h)
  unfold Insn.cs
  clear he hi
  go_enter Tryz.func109, Tryz.ntmps109
  go_wp2_with (go_at_call 108; refine (hr.out _ (HE.out _ (by (repeat (first | exact Below.refl _ _ | assumption | refine Below.drew ?_ | refine Below.alloc ?_ (by first | exact Nat.le_refl _ | (simp; done) | (simp; omega)) _ | refine Below.call ?_ (by assumption) (by first | exact Nat.le_refl _ | (simp; done) | (simp; omega) | omega)))))).mono ?_; rintro e w' ⟨rfl, hb⟩)
  go_ret
  exact ⟨rfl, ((Below.refl _ w).alloc (Nat.le_refl _) _).call hb (by simp)⟩

set_option maxHeartbeats 1000000 in
theorem wr110 (x : Insn) (hi : x.In) (w : World) (he : Env w) : Calls Tryz.prog 110 #[.agg x.cs] w (TextPost w (opText 107 x)) := by
  have HE := Lib.hid (below_env he)
  have hr := Lib.hid (fun W h => itoa_any x.k hi.k.1 hi.k.2 W h)
  unfold Insn.cs
  clear he hi
  go_enter Tryz.func110, Tryz.ntmps110
  go_wp2_with (go_at_call 108; refine (hr.out _ (HE.out _ (by (repeat (first | exact Below.refl _ _ | assumption | refine Below.drew ?_ | refine Below.alloc ?_ (by first | exact Nat.le_refl _ | (simp; done) | (simp; omega)) _ | refine Below.call ?_ (by assumption) (by first | exact Nat.le_refl _ | (simp; done) | (simp; omega) | omega)))))).mono ?_; rintro e w' ⟨rfl, hb⟩)
  go_ret
  exact ⟨rfl, ((Below.refl _ w).alloc (Nat.le_refl _) _).call hb (by simp)⟩

set_option maxHeartbeats 1000000 in
theorem wr111 (x : Insn) (hi : x.In) (w : World) (he : Env w) : Calls Tryz.prog 111 #[.agg x.cs] w (TextPost w (opText 105 x)) := by
  have HE := Lib.hid (below_env he)
  have hr := Lib.hid (fun W h => hex_any x.i hi.i.1 hi.i.2 W h)
  unfold Insn.cs
  clear he hi
  go_enter Tryz.func111, Tryz.ntmps111
  go_wp2_with (go_at_call 112; refine (hr.out _ (HE.out _ (by (repeat (first | exact Below.refl _ _ | assumption | refine Below.drew ?_ | refine Below.alloc ?_ (by first | exact Nat.le_refl _ | (simp; done) | (simp; omega)) _ | refine Below.call ?_ (by assumption) (by first | exact Nat.le_refl _ | (simp; done) | (simp; omega) | omega)))))).mono ?_; rintro e w' ⟨rfl, hb⟩)
  go_ret
  exact ⟨rfl, ((Below.refl _ w).alloc (Nat.le_refl _) _).call hb (by simp)⟩
end Go.Proofs.YtdkclapinedgiaaGreatDoor
