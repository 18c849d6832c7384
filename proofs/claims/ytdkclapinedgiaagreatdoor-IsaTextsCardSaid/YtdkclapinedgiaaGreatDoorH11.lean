/- Where ASCII texts are read; text of the law's package, where it is true. -/
import Derived.Test.YtdkclapinedgiaaGreatDoorH10
namespace Go.Proofs.YtdkclapinedgiaaGreatDoor
open Go.RowKit

theorem indexAny_le (chars : List UInt8) : ∀ l : List UInt8, Lib.indexAny l chars ≤ l.length
  | [] => by simp [Lib.indexAny]
  | b :: l => by
    have := indexAny_le chars l
    unfold Lib.indexAny
    split
    · simp; omega
    · split
      · simp; omega
      · simp; omega
theorem idx_ascii (t : List UInt8) (ht : t.length ≤ 1000000) (ha : ∀ b ∈ t, b.toNat < 128) : IdxOk t (Lib.indexAny t [43, 45]) where
  lo := Lib.indexAny_ge _ _
  hi := indexAny_le _ _
  run := fun W _ => by
    have h := Tryz.strings_IndexAny_laid ⟨t.toArray⟩ ⟨[43, 45].toArray⟩ W (by rw [ba_size]; omega) (by decide) (by intro j b hb; exact ha b (by simpa using List.mem_of_getElem? hb)) (by
      intro j b hb
      exact (show ∀ b ∈ ([43, 45] : List UInt8), b.toNat < 128 by decide) b (by simpa using List.mem_of_getElem? hb))
    rw [show (⟨t.toArray⟩ : ByteArray).data.toList = t by simp, show (⟨([43, 45] : List UInt8).toArray⟩ : ByteArray).data.toList = [43, 45] by simp] at h
    exact h
theorem piece_mem (k : Nat) : ∀ (r g : List UInt8), g ∈ Lib.splitK [44, 32] 0 k r → ∀ b ∈ g, b ∈ r := by
  induction k with
  | zero => intro r g hg; simp [Lib.splitK] at hg; subst hg; exact fun b h => h
  | succ k ih =>
    intro r g hg b hb
    rw [Lib.splitK] at hg
    split at hg
    · simp at hg; subst hg; exact hb
    · rw [List.mem_cons] at hg
      rcases hg with rfl | hg
      · exact List.mem_of_mem_take hb
      · exact List.mem_of_mem_drop (ih _ _ hg b hb)
theorem inner_mem (g : List UInt8) : ∀ b ∈ inner g, b ∈ g := by
  intro b hb
  unfold inner Lib.trimSuffix Lib.trimPrefix at hb
  split at hb <;> split at hb
  all_goals first
    | exact hb
    | exact List.mem_of_mem_drop hb
    | exact List.mem_of_mem_take hb
    | exact List.mem_of_mem_drop (List.mem_of_mem_take hb)
theorem given_mem (s g : List UInt8) (hg : g ∈ given s) : ∀ b ∈ g, b ∈ s := by
  intro b hb
  unfold given at hg
  split at hg
  · rw [pieces_eq] at hg
    have := piece_mem _ _ _ hg b hb
    unfold Lib.cut at this
    split at this
    · exact List.mem_of_mem_drop this
    · simp at this
  · simp at hg
theorem hix_ascii (s : List UInt8) (hs : s.length ≤ 1000000) (ha : ∀ b ∈ s, b.toNat < 128) : ∀ g ∈ given s, IdxOk (inner g) (signAt g) :=
  fun g hg => idx_ascii _ (Nat.le_trans (inner_len g) (given_len s hs g hg)) (fun b hb => ha b (given_mem s g hg b (inner_mem g b hb)))

set_option maxRecDepth 100000 in
set_option maxHeartbeats 4000000 in
theorem text_true (x : Insn) (s : List UInt8) (hv : x.valid = true) (hi : x.In) (ht : textL x = s) (hp : parseOf s = (x, 0)) (hs : s.length ≤ 1000000) (ha : ∀ b ∈ s, b.toNat < 128) (w : World) (he : Env w) :
    Calls Tryz.prog 54 #[.agg x.cs, .string ⟨s.toArray⟩] w fun e w' => e = .returned (.bool true) ∧ Below w.heap.size w w' := by
  have HE := Lib.hid (below_env he)
  have HT := Lib.hid (show ∀ W, Env W → Calls Tryz.prog 16 #[.agg x.cs] W fun e w' => e = .returned (.tuple #[.string ⟨s.toArray⟩, .int .i64 0]) ∧ Below W.heap.size W w' from fun W hW => (text_any x hi W hW).mono fun e w' h => by
    unfold TextOf at h; rw [hv, if_pos rfl, if_pos rfl, ht] at h; exact h)
  have HP := Lib.hid (show ∀ W, Env W → Calls Tryz.prog 18 #[.string ⟨s.toArray⟩] W fun e w' => e = .returned (.tuple #[.agg x.cs, .int .i64 0]) ∧ Below W.heap.size W w' from fun W hW => (parse_any s hs (hix_ascii s hs ha) W hW).mono fun e w' h => by
    rw [hp] at h; exact h)
  clear hv hi ht hp hs ha he
  unfold Insn.cs at HT HP ⊢
  go_enter Tryz.func54, Tryz.ntmps54
  go_wp2_with fail
  refine (HT.out _ (HE.out _ ((Below.refl _ w).alloc (Nat.le_refl _) _))).mono ?_
  rintro e w1 ⟨rfl, hb⟩
  have HB1 := Lib.hid (((Below.refl _ w).alloc (Nat.le_refl _) _).call hb (by simp))
  have HK1 := Lib.hid ((Blk.new w 24 x.cs).call hb)
  clear hb
  go_wp2_with fail
  refine (HP.out _ (HE.out _ HB1.out)).mono ?_
  rintro e w2 ⟨rfl, hb2⟩
  have HB2 := Lib.hid (HB1.out.call hb2 HB1.out.size)
  have hK2 := HK1.out.call hb2
  obtain ⟨c0, c1, c2, c3, c4, c5, c6, f0, f1, f2, f3, f4, f5, f6⟩ := hK2.facts7
  have hz := hK2.lt
  have HZ := Lib.hid HB2.out.size
  clear hb2 HB1 HK1 hK2
  go_wp2
  go_ret
  exact ⟨rfl, HB2.out.alloc HZ.out _⟩
end Go.Proofs.YtdkclapinedgiaaGreatDoor
