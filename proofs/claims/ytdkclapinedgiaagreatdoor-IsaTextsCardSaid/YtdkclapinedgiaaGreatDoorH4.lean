/- Contract: memory of package isa. -/
import Derived.Test.YtdkclapinedgiaaGreatDoorH3
import Derived.Deep.RegionWith
import Derived.RegionDies
namespace Go.Proofs.YtdkclapinedgiaaGreatDoor
open Go.RowKit
open Go.Sort (grow)

/-- The text within brackets. -/
def inner (s : List UInt8) : List UInt8 := Lib.trimSuffix (Lib.trimPrefix s [91]) [93]
def bracketed (s : List UInt8) : Bool := Lib.hasPrefix s [91] && Lib.hasSuffix (Lib.trimPrefix s [91]) [93]
/-- Where the register's text ends, where the library found i. -/
def cutAt (t : List UInt8) (i : Int) : Nat := if i < 0 then t.length else i.toNat
def memAt (s : List UInt8) (i : Int) : Option (Int × List UInt8) :=
  if bracketed s then (numOf ((inner s).take (cutAt (inner s) i)) [114]).map fun n => (n, (inner s).drop (cutAt (inner s) i)) else none
def MemPost (w : World) (o : Option (Int × List UInt8)) (e : Ending) (w' : World) : Prop :=
  (match o with | some p => e = .returned (.tuple #[.int .i64 p.1, .string ⟨p.2.toArray⟩]) | none => e = .panicked wrongs) ∧ Below w.heap.size w w'

theorem ba_take (t : List UInt8) (k : Nat) : (⟨t.toArray⟩ : ByteArray).extract 0 k = ⟨(t.take k).toArray⟩ := by
  apply ByteArray.ext; simp
theorem ba_drop (t : List UInt8) (k : Nat) : (⟨t.toArray⟩ : ByteArray).extract k t.length = ⟨(t.drop k).toArray⟩ := by
  apply ByteArray.ext; simp [List.take_of_length_le]

set_option maxRecDepth 100000 in
set_option maxHeartbeats 4000000 in
theorem memory_at (s : List UInt8) (hs : s.length ≤ 1000000) (i : Int) (hi0 : -1 ≤ i) (hi1 : i ≤ (inner s).length) (w : World) (he : Env w)
    (HX : ∀ W, Env W → Calls Tryz.prog 176 #[.string ⟨(inner s).toArray⟩, .string ⟨#[43, 45]⟩] W fun e w' => e = .returned (.int .i64 i) ∧ Below W.heap.size W w') :
    Calls Tryz.prog 158 #[.string ⟨s.toArray⟩] w (MemPost w (memAt s i)) := by
  have hc1 := Tryz.strings_CutPrefix ⟨s.toArray⟩ ⟨[91].toArray⟩ w
  rw [show (⟨s.toArray⟩ : ByteArray).data.toList = s by simp, show (⟨([91] : List UInt8).toArray⟩ : ByteArray).data.toList = [91] by simp] at hc1
  have ht : (Lib.trimPrefix s [91]).length ≤ 1000000 := by
    unfold Lib.trimPrefix; split
    · rw [List.length_drop]; omega
    · exact hs
  have hc2 := Tryz.strings_CutSuffix ⟨(Lib.trimPrefix s [91]).toArray⟩ ⟨[93].toArray⟩ w (by rw [ba_size]; omega)
  rw [show (⟨(Lib.trimPrefix s [91]).toArray⟩ : ByteArray).data.toList = Lib.trimPrefix s [91] by simp, show (⟨([93] : List UInt8).toArray⟩ : ByteArray).data.toList = [93] by simp] at hc2
  have hin : (inner s).length ≤ 1000000 := by
    unfold inner Lib.trimSuffix; split
    · rw [List.length_take]; omega
    · exact ht
  have HB : Hid (bracketed s = (Lib.hasPrefix s [91] && Lib.hasSuffix (Lib.trimPrefix s [91]) [93])) := rfl
  have HI : Hid (Lib.trimSuffix (Lib.trimPrefix s [91]) [93] = inner s) := rfl
  unfold memAt
  rw [HI.out] at hc2
  have C1 := Lib.hid hc1
  have C2 := Lib.hid hc2
  have HX := Lib.hid HX
  have HE := Lib.hid he
  have HEB := Lib.hid (below_env he)
  clear hc1 hc2 hs ht he HI
  generalize inner s = t at *
  generalize Lib.trimPrefix s [91] = u at *
  generalize Lib.hasPrefix s [91] = p at *
  generalize Lib.hasSuffix u [93] = q at *
  by_cases hpq : (p && q) = true
  · rw [Bool.and_eq_true] at hpq
    obtain ⟨rfl, rfl⟩ := hpq
    rw [if_pos (show bracketed s = true from HB.out)]
    have HT : cutAt t i = cutAt t i := rfl
    obtain ⟨k, hk, hkt, hc⟩ : ∃ k : Nat, cutAt t i = k ∧ k ≤ t.length ∧ ((i < 0 ∧ k = t.length) ∨ (¬ i < 0 ∧ i = k)) := by
      refine ⟨cutAt t i, rfl, ?_, ?_⟩ <;> unfold cutAt <;> split <;> omega
    rw [hk]
    have hs1 : ∀ W, (Instr.sliceAt 9 (.string ⟨t.toArray⟩) none (some (.int .i64 (k : Int))) none).run Tryz.prog W = .ok (.string ⟨(t.take k).toArray⟩) W := fun W => by
      rw [← ba_take]; have h1 : (k : Int) ≤ t.length := (by omega); simp [go_sem, ba_size, h1]
    have hs2 : ∀ W, (Instr.sliceAt 9 (.string ⟨t.toArray⟩) (some (.int .i64 (k : Int))) none none).run Tryz.prog W = .ok (.string ⟨(t.drop k).toArray⟩) W := fun W => by
      rw [← ba_drop]; have h1 : (k : Int) ≤ t.length := (by omega); simp [go_sem, ba_size, h1]
    have HS1 := Lib.hid hs1
    have HN := Lib.hid (fun W hW => number_any (t.take k) [114] (by rw [List.length_take]; omega) W hW)
    have HM : Hid (∀ o : Option Int, numOf (t.take k) [114] = o → o = numOf (t.take k) [114]) := fun _ h => h.symm
    have hk0 : (0 : Int) ≤ k := by omega
    generalize numOf (t.take k) [114] = o at *
    clear hk HT hi0 hi1
    rcases hc with ⟨h0, hkl⟩ | ⟨h0, rfl⟩
    · have HKL := Lib.hid hkl.symm
      clear hkl
      go_enter Tryz.func158, Tryz.ntmps158
      go_wp2_with (first
        | (go_at_call 48; refine C1.out.mono ?_; rintro e w' ⟨rfl, rfl⟩)
        | (go_at_call 175; refine C2.out.mono ?_; rintro e w' ⟨rfl, rfl⟩)
        | (go_at_call 176; refine (HX.out _ HE.out).mono ?_; rintro e w1 ⟨rfl, hb⟩))
      rw [HKL.out]
      clear C1 C2 HX HE HB HKL
      rcases o with _ | n
      · have hz1 := hb.size
        have HBB := Lib.hid hb
        go_region_dies
        all_goals refine (HN.out _ (HEB.out _ (by (repeat (first | exact Below.refl _ _ | assumption | refine Below.drew ?_ | refine Below.alloc ?_ (by first | exact Nat.le_refl _ | (simp; done) | (simp; omega)) _ | refine Below.call ?_ (by assumption) (by first | exact Nat.le_refl _ | (simp; done) | (simp; omega) | omega)))))).mono ?_
        all_goals rintro e w2 ⟨rfl, hb2⟩
        all_goals exact ⟨rfl, rfl, by (repeat (first | exact Below.refl _ _ | assumption | refine Below.drew ?_ | refine Below.alloc ?_ (by first | exact Nat.le_refl _ | (simp; done) | (simp; omega)) _ | refine Below.call ?_ (by assumption) (by first | exact Nat.le_refl _ | (simp; done) | (simp; omega) | omega)))⟩
      · have cN : ∀ d os, Calls Tryz.prog 143 #[.string ⟨(t.take k).toArray⟩, .string ⟨#[114]⟩] (grow (redrawn w1 d) os) fun e w'' => e = .returned (.int .i64 n) ∧ ∃ p : Regrown, w'' = grow (redrawn w1 p.d) p.os := fun d os => Calls.regrown_of (HN.out _ (HEB.out _ (hb.trans ((below_regrown w1 d os).mono hb.size))))
        have HBB := Lib.hid hb
        clear hb
        refine wp_region_quiet_below mixed (by kernel_rfl) ?_
        repeat (quiet_step (exact cN _ _))
        refine wpQuiet_nil ?_
        intro _ hw'
        obtain ⟨⟨dq, osq⟩, hw''⟩ := hw'
        subst hw''
        go_wp2
        go_ret2
        exact ⟨rfl, HBB.out.trans ((below_regrown w1 dq osq).mono HBB.out.size)⟩
    · go_enter Tryz.func158, Tryz.ntmps158
      go_wp2_with (first
        | (go_at_call 48; refine C1.out.mono ?_; rintro e w' ⟨rfl, rfl⟩)
        | (go_at_call 175; refine C2.out.mono ?_; rintro e w' ⟨rfl, rfl⟩)
        | (go_at_call 176; refine (HX.out _ HE.out).mono ?_; rintro e w1 ⟨rfl, hb⟩))
      clear C1 C2 HX HE HB
      rcases o with _ | n
      · have hz1 := hb.size
        have HBB := Lib.hid hb
        go_region_dies
        all_goals refine (HN.out _ (HEB.out _ (by (repeat (first | exact Below.refl _ _ | assumption | refine Below.drew ?_ | refine Below.alloc ?_ (by first | exact Nat.le_refl _ | (simp; done) | (simp; omega)) _ | refine Below.call ?_ (by assumption) (by first | exact Nat.le_refl _ | (simp; done) | (simp; omega) | omega)))))).mono ?_
        all_goals rintro e w2 ⟨rfl, hb2⟩
        all_goals exact ⟨rfl, rfl, by (repeat (first | exact Below.refl _ _ | assumption | refine Below.drew ?_ | refine Below.alloc ?_ (by first | exact Nat.le_refl _ | (simp; done) | (simp; omega)) _ | refine Below.call ?_ (by assumption) (by first | exact Nat.le_refl _ | (simp; done) | (simp; omega) | omega)))⟩
      · have cN : ∀ d os, Calls Tryz.prog 143 #[.string ⟨(t.take k).toArray⟩, .string ⟨#[114]⟩] (grow (redrawn w1 d) os) fun e w'' => e = .returned (.int .i64 n) ∧ ∃ p : Regrown, w'' = grow (redrawn w1 p.d) p.os := fun d os => Calls.regrown_of (HN.out _ (HEB.out _ (hb.trans ((below_regrown w1 d os).mono hb.size))))
        have HBB := Lib.hid hb
        clear hb
        refine wp_region_quiet_below mixed (by kernel_rfl) ?_
        repeat (quiet_step (exact cN _ _))
        refine wpQuiet_nil ?_
        intro _ hw'
        obtain ⟨⟨dq, osq⟩, hw''⟩ := hw'
        subst hw''
        go_wp2
        go_ret2
        exact ⟨rfl, HBB.out.trans ((below_regrown w1 dq osq).mono HBB.out.size)⟩
  · rw [if_neg (show ¬ bracketed s = true from by rw [HB.out]; exact hpq)]
    clear hi0 hi1 hin
    go_enter Tryz.func158, Tryz.ntmps158
    cases p <;> cases q
    · go_wp2_with (first
        | (go_at_call 48; refine C1.out.mono ?_; rintro e w' ⟨rfl, rfl⟩)
        | (go_at_call 175; refine C2.out.mono ?_; rintro e w' ⟨rfl, rfl⟩))
      exact ⟨rfl, rfl, Below.refl _ _⟩
    · go_wp2_with (first
        | (go_at_call 48; refine C1.out.mono ?_; rintro e w' ⟨rfl, rfl⟩)
        | (go_at_call 175; refine C2.out.mono ?_; rintro e w' ⟨rfl, rfl⟩))
      exact ⟨rfl, rfl, Below.refl _ _⟩
    · go_wp2_with (first
        | (go_at_call 48; refine C1.out.mono ?_; rintro e w' ⟨rfl, rfl⟩)
        | (go_at_call 175; refine C2.out.mono ?_; rintro e w' ⟨rfl, rfl⟩))
      exact ⟨rfl, rfl, Below.refl _ _⟩
    · exact absurd rfl hpq
end Go.Proofs.YtdkclapinedgiaaGreatDoor
