/- Contracts: strconv.Atoi; number of package isa, as far as it is read and where it panics. -/
import Derived.Test.YtdkclapinedgiaaGreatDoorG0
import Derived.Test.YtdkclapinedgiaaGreatDoorG4
import Derived.Lib.AtoiErrMem
namespace Go.Proofs.YtdkclapinedgiaaGreatDoor
open Go.RowKit

/-- What Atoi hands back. -/
def AtoiPost (w : World) (s : List UInt8) (e : Ending) (w' : World) : Prop :=
  ((∃ v, Lib.atoiAll s = .ok v ∧ e = .returned (.tuple #[.int .i64 v, .nilIface])) ∨
    ((∀ v, Lib.atoiAll s ≠ .ok v) ∧ ∃ v N, e = .returned (.tuple #[.int .i64 v, .iface 206 (.pointer (some ⟨N, 0, none⟩))]))) ∧ Below w.heap.size w w'
theorem atoi_any (s : List UInt8) (hs : s.length ≤ 1000000) (w : World) (he : Env w) : Calls Tryz.prog 173 #[.string ⟨s.toArray⟩] w (AtoiPost w s) := by
  have hd : (⟨s.toArray⟩ : ByteArray).data.toList = s := by simp
  rcases ha : Lib.atoiAll s with v | _ | _
  · refine (Tryz.strconv_Atoi_ok ⟨s.toArray⟩ (by rw [ba_size]; omega) v (by rw [hd]; exact ha) w).mono ?_
    rintro e w' ⟨rfl, h⟩
    refine ⟨.inl ⟨v, ha, rfl⟩, ?_⟩
    rcases h with rfl | ⟨t, rfl⟩
    · exact Below.refl _ _
    · exact Lib.bytesWorld_below _ _ _
  · obtain ⟨te, pe, hv⟩ := he.synt
    refine (Tryz.strconv_Atoi_none ⟨s.toArray⟩ (by rw [ba_size]; omega) (by rw [hd]; exact ha.trans rfl) _ w hv (.inr ⟨te, pe, rfl⟩)).mono ?_
    rintro e w' ⟨N, rfl, _, _, hb⟩
    exact ⟨.inr ⟨fun v h => by { rw [ha] at h; cases h }, _, N, rfl⟩, hb⟩
  · obtain ⟨te, pe, hv⟩ := he.rng
    refine (Tryz.strconv_Atoi_range ⟨s.toArray⟩ (by rw [ba_size]; omega) (by rw [hd]; exact ha) _ w hv (.inr ⟨te, pe, rfl⟩)).mono ?_
    rintro e w' ⟨N, rfl, _, _, hb⟩
    exact ⟨.inr ⟨fun v h => by { rw [ha] at h; cases h }, _, N, rfl⟩, hb⟩

/-- The number behind a prefix. -/
def numOf (s p : List UInt8) : Option Int := if Lib.hasPrefix s p then (match Lib.atoiAll (Lib.trimPrefix s p) with | .ok v => some v | _ => none) else none
/-- The panic by which a reader leaves. -/
def wrongs : List PanicEntry := [{ v := .iface 135 (.agg #[]), recovered := false }]
def NumPost (w : World) (o : Option Int) (e : Ending) (w' : World) : Prop :=
  (match o with | some v => e = .returned (.int .i64 v) | none => e = .panicked wrongs) ∧ Below w.heap.size w w'

set_option maxHeartbeats 2000000 in
theorem number_any (s p : List UInt8) (hs : s.length ≤ 1000000) (w : World) (he : Env w) : Calls Tryz.prog 143 #[.string ⟨s.toArray⟩, .string ⟨p.toArray⟩] w (NumPost w (numOf s p)) := by
  have ht : (Lib.trimPrefix s p).length ≤ 1000000 := by
    unfold Lib.trimPrefix; split
    · rw [List.length_drop]; omega
    · exact hs
  have hcp := Tryz.strings_CutPrefix ⟨s.toArray⟩ ⟨p.toArray⟩ w
  rw [show (⟨s.toArray⟩ : ByteArray).data.toList = s by simp, show (⟨p.toArray⟩ : ByteArray).data.toList = p by simp] at hcp
  have HC := Lib.hid hcp
  have HA := Lib.hid (atoi_any (Lib.trimPrefix s p) ht w he)
  clear hcp he hs ht
  unfold numOf
  generalize Lib.trimPrefix s p = t at *
  generalize hpre : Lib.hasPrefix s p = b at *
  clear hpre
  cases b
  · rw [if_neg (by decide)]
    go_enter Tryz.func143, Tryz.ntmps143
    go_wp2_with (first
      | (go_at_call 48; refine HC.out.mono ?_; rintro e w' ⟨rfl, rfl⟩)
      | (go_at_call 173; refine HA.out.mono ?_; rintro e w1 ⟨hA, hb⟩; rcases hA with ⟨v, hv, rfl⟩ | ⟨hv, v, N, rfl⟩))
    all_goals exact ⟨rfl, rfl, hb⟩
  · rw [if_pos rfl]
    generalize ho : (match Lib.atoiAll t with | .ok v => some v | _ => none) = o
    have HO := Lib.hid ho
    clear ho
    go_enter Tryz.func143, Tryz.ntmps143
    go_wp2_with (first
      | (go_at_call 48; refine HC.out.mono ?_; rintro e w' ⟨rfl, rfl⟩)
      | (go_at_call 173; refine HA.out.mono ?_; rintro e w1 ⟨hA, hb⟩; rcases hA with ⟨v, hv, rfl⟩ | ⟨hv, v, N, rfl⟩))
    · have ho : some v = o := by rw [← HO.out, hv]
      subst ho
      go_ret
      exact ⟨rfl, hb⟩
    · have ho : none = o := by
        rw [← HO.out]
      subst ho
      exact ⟨rfl, rfl, hb⟩
end Go.Proofs.YtdkclapinedgiaaGreatDoor
