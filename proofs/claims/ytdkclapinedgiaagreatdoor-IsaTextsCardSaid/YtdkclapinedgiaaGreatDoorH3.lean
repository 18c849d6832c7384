/- Contracts: strconv.ParseUint at base 16 and 32 bits; unhex. -/
import Derived.Test.YtdkclapinedgiaaGreatDoorH2
namespace Go.Proofs.YtdkclapinedgiaaGreatDoor
open Go.RowKit

/-- A number of 32 bits to the base 16. -/
def hexOf (t : List UInt8) : Option Int := if t = [] then none else hexNum 0 t
theorem hexd_in {c d : Int} (h : hexd c = some d) : 0 ≤ d := by
  unfold hexd at h
  split at h
  · injection h with h; omega
  · split at h
    · injection h with h; omega
    · cases h
theorem hexNum_in (l : List UInt8) (a v : Int) (h0 : 0 ≤ a) (h1 : a ≤ 4294967295) (h : hexNum a l = some v) : 0 ≤ v ∧ v ≤ 4294967295 := by
  induction l generalizing a with
  | nil => rw [hexNum] at h; injection h with h; omega
  | cons c l ih =>
    rw [hexNum] at h
    cases hd : hexd (c.toNat : Int) with
    | none => rw [hd] at h; cases h
    | some d =>
      rw [hd] at h
      have := hexd_in hd
      simp only at h
      split at h
      · cases h
      · exact ih _ (by omega) (by omega) h
theorem hexOf_in {t : List UInt8} {v : Int} (h : hexOf t = some v) : 0 ≤ v ∧ v ≤ 4294967295 := by
  unfold hexOf at h
  split at h
  · cases h
  · exact hexNum_in _ _ _ (by omega) (by omega) h
theorem iparse16_any (bs : List UInt8) (hmax : bs.length ≤ 1000000) (w : World) : Calls Tryz.prog 187 #[.string ⟨bs.toArray⟩, .int .i64 16, .int .i64 32] w (Hex16Post w (hexOf bs)) := by
  unfold hexOf
  split
  · rename_i h; subst h; exact iparse16_empty w
  · rename_i h; exact iparse16_some bs h hmax w
def HexErrPost (w : World) (o : Option Int) (e : Ending) (w' : World) : Prop :=
  (match o with | some v => e = .returned (.tuple #[.int .u64 v, .nilIface]) | none => ∃ (v : Int) (N : Nat), e = .returned (.tuple #[.int .u64 v, .iface 206 (.pointer (some ⟨N, 0, none⟩))])) ∧ Below w.heap.size w w'

set_option maxRecDepth 100000 in
set_option maxHeartbeats 2000000 in
theorem parse16_any (bs : List UInt8) (hmax : bs.length ≤ 1000000) (w : World) (he : Env w) : Calls Tryz.prog 174 #[.string ⟨bs.toArray⟩, .int .i64 16, .int .i64 32] w (HexErrPost w (hexOf bs)) := by
  have hI := Lib.hid (iparse16_any bs hmax w)
  have HE := Lib.hid (below_env he)
  have hT1 := Lib.hid (show ∀ W, Env W → Calls Tryz.prog 186 #[.string ⟨#[80, 97, 114, 115, 101, 85, 105, 110, 116]⟩, .string ⟨bs.toArray⟩, .int .i64 16, .int .i64 32, .iface 203 (.int .i64 1)] W fun e w' => ∃ N : Nat, e = .returned (.iface 206 (.pointer (some ⟨N, 0, none⟩))) ∧ Below W.heap.size W w' from fun W hW => by
    obtain ⟨te, pe, hv⟩ := hW.rng
    refine (Tryz.strconv_toError_range _ ⟨bs.toArray⟩ 16 32 _ W (by rw [ba_size]; omega) hv (.inr ⟨te, pe, rfl⟩)).mono ?_
    rintro e w' ⟨N, rfl, _, _, hb⟩
    exact ⟨N, rfl, hb⟩)
  have hT2 := Lib.hid (show ∀ W, Env W → Calls Tryz.prog 186 #[.string ⟨#[80, 97, 114, 115, 101, 85, 105, 110, 116]⟩, .string ⟨bs.toArray⟩, .int .i64 16, .int .i64 32, .iface 203 (.int .i64 2)] W fun e w' => ∃ N : Nat, e = .returned (.iface 206 (.pointer (some ⟨N, 0, none⟩))) ∧ Below W.heap.size W w' from fun W hW => by
    obtain ⟨te, pe, hv⟩ := hW.synt
    refine (Tryz.strconv_toError_syntax _ ⟨bs.toArray⟩ 16 32 _ W (by rw [ba_size]; omega) hv (.inr ⟨te, pe, rfl⟩)).mono ?_
    rintro e w' ⟨N, rfl, _, _, hb⟩
    exact ⟨N, rfl, hb⟩)
  clear he hmax
  generalize hexOf bs = o at *
  rcases o with _ | v
  · go_enter Tryz.func174, Tryz.ntmps174
    go_wp2_with fail
    refine hI.out.mono ?_
    rintro e w1 ⟨⟨v, k, rfl | rfl, rfl⟩, hb⟩
    · go_wp2_with fail
      refine (hT1.out _ (HE.out _ hb)).mono ?_
      rintro e w2 ⟨N, rfl, hb2⟩
      go_wp2
      go_ret2
      exact ⟨⟨_, N, rfl⟩, hb.trans (hb2.mono hb.size)⟩
    · go_wp2_with fail
      refine (hT2.out _ (HE.out _ hb)).mono ?_
      rintro e w2 ⟨N, rfl, hb2⟩
      go_wp2
      go_ret2
      exact ⟨⟨_, N, rfl⟩, hb.trans (hb2.mono hb.size)⟩
  · go_enter Tryz.func174, Tryz.ntmps174
    go_wp2_with fail
    refine hI.out.mono ?_
    rintro e w1 ⟨rfl, hb⟩
    go_wp2
    go_ret2
    exact ⟨rfl, hb⟩

def unhexOf (s : List UInt8) : Option Int := if Lib.hasPrefix s [48, 120] then hexOf (Lib.trimPrefix s [48, 120]) else none
theorem unhexOf_in {s : List UInt8} {v : Int} (h : unhexOf s = some v) : 0 ≤ v ∧ v ≤ 4294967295 := by
  unfold unhexOf at h
  split at h
  · exact hexOf_in h
  · cases h
def UnhexPost (w : World) (o : Option Int) (e : Ending) (w' : World) : Prop :=
  (match o with | some v => e = .returned (.int .u32 v) | none => e = .panicked wrongs) ∧ Below w.heap.size w w'
set_option maxHeartbeats 2000000 in
theorem unhex_any (s : List UInt8) (hs : s.length ≤ 1000000) (w : World) (he : Env w) : Calls Tryz.prog 156 #[.string ⟨s.toArray⟩] w (UnhexPost w (unhexOf s)) := by
  have ht : (Lib.trimPrefix s [48, 120]).length ≤ 1000000 := by
    unfold Lib.trimPrefix; split
    · rw [List.length_drop]; omega
    · exact hs
  have hcp := Tryz.strings_CutPrefix ⟨s.toArray⟩ ⟨[48, 120].toArray⟩ w
  rw [show (⟨s.toArray⟩ : ByteArray).data.toList = s by simp, show (⟨([48, 120] : List UInt8).toArray⟩ : ByteArray).data.toList = [48, 120] by simp] at hcp
  have HC := Lib.hid hcp
  have HA := Lib.hid (parse16_any (Lib.trimPrefix s [48, 120]) ht w he)
  have HI := Lib.hid (fun v h => hexOf_in (t := Lib.trimPrefix s [48, 120]) (v := v) h)
  clear hcp he hs ht
  unfold unhexOf
  generalize Lib.trimPrefix s [48, 120] = t at *
  generalize hpre : Lib.hasPrefix s [48, 120] = b at *
  clear hpre
  generalize hexOf t = o at *
  cases b
  · rw [if_neg (by decide)]
    go_enter Tryz.func156, Tryz.ntmps156
    rcases o with _ | v
    · go_wp2_with (first
        | (go_at_call 48; refine HC.out.mono ?_; rintro e w' ⟨rfl, rfl⟩)
        | (go_at_call 174; refine HA.out.mono ?_; rintro e w1 ⟨⟨v, N, rfl⟩, hb⟩))
      exact ⟨rfl, rfl, hb⟩
    · go_wp2_with (first
        | (go_at_call 48; refine HC.out.mono ?_; rintro e w' ⟨rfl, rfl⟩)
        | (go_at_call 174; refine HA.out.mono ?_; rintro e w1 ⟨rfl, hb⟩))
      exact ⟨rfl, rfl, hb⟩
  · rw [if_pos rfl]
    go_enter Tryz.func156, Tryz.ntmps156
    rcases o with _ | v
    · go_wp2_with (first
        | (go_at_call 48; refine HC.out.mono ?_; rintro e w' ⟨rfl, rfl⟩)
        | (go_at_call 174; refine HA.out.mono ?_; rintro e w1 ⟨⟨v, N, rfl⟩, hb⟩))
      exact ⟨rfl, rfl, hb⟩
    · obtain ⟨v0, v1⟩ := HI.out v rfl
      go_wp2_with (first
        | (go_at_call 48; refine HC.out.mono ?_; rintro e w' ⟨rfl, rfl⟩)
        | (go_at_call 174; refine HA.out.mono ?_; rintro e w1 ⟨rfl, hb⟩))
      go_ret
      refine ⟨?_, hb⟩
      first | rfl | (rw [show IntKind.u32.wrap v = v from by rw [IntKind.wrap_u32]; omega])
end Go.Proofs.YtdkclapinedgiaaGreatDoor
