/- Where a sign stands in a text, for every text: strings.IndexAny at "+-". -/
import Derived.Test.YtdkclapinedgiaaGreatDoorP2
import Derived.Lib.DecodeN
import Derived.WalkMore
namespace Go.Proofs.YtdkclapinedgiaaGreatDoor
open Go.RowKit

theorem below_dr {w W : World} (h : Below w.heap.size w W) (q : Nat) : Below w.heap.size w (W.drewN q) := h.call (show Below W.heap.size W (W.drewN q) from ⟨rfl, rfl, rfl, Nat.le_refl _, fun _ _ => rfl⟩) h.size
def BoolPost (w : World) (e : Ending) (w' : World) : Prop := (∃ b : Bool, e = .returned (.bool b)) ∧ w = w'
theorem validRune_any (r : Int) (w : World) : Calls Tryz.prog 208 #[.int .i32 r] w (BoolPost w) := by
  go_enter Tryz.func208, Tryz.ntmps208
  go_wp2
  all_goals go_ret
  all_goals exact ⟨⟨_, rfl⟩, rfl⟩

theorem encode_high (r : Nat) (h0 : 128 ≤ r) : ∃ (c0 : UInt8) (l : List UInt8) (c : UInt8), Utf8.encode r = ⟨(c0 :: l ++ [c]).toArray⟩ ∧ l.length ≤ 2 ∧ 128 ≤ c.toNat := by
  have hb : ∀ n : Nat, 128 ≤ (UInt8.ofNat (0x80 + n % 64)).toNat := by
    intro n
    rw [UInt8.toNat_ofNat']
    omega
  unfold Utf8.encode
  dsimp only
  have hc : 128 ≤ (if Utf8.valid (r : Int) then (r : Int).toNat else Utf8.runeError) := by
    split
    · omega
    · decide
  generalize (if Utf8.valid (r : Int) then (r : Int).toNat else Utf8.runeError) = c at hc
  rw [if_neg (by omega)]
  split
  · exact ⟨_, [], _, rfl, by simp, hb _⟩
  · split
    · exact ⟨_, [_], _, rfl, by simp, hb _⟩
    · exact ⟨_, [_, _], _, rfl, by simp, hb _⟩

def pm : List UInt8 := [43, 45]
set_option maxRecDepth 100000 in
set_option maxHeartbeats 4000000 in
theorem indexRune_error (w : World) : Calls Tryz.prog 189 #[.string ⟨#[43, 45]⟩, .int .i32 65533] w fun e w' => e = .returned (.int .i64 (-1)) ∧ Below w.heap.size w w' := by
  have n0 : ∀ ty, (Instr.next (.pointer (some ⟨w.heap.size, 0, none⟩)) true ty).run Tryz.prog (w.iter ⟨#[43, 45]⟩ 0) = .ok (.tuple #[.bool true, .int .i64 0, .int .i32 43]) (w.iter ⟨#[43, 45]⟩ 1) := fun ty => run_next_ascii w ⟨#[43, 45]⟩ 0 ty (by decide) (by decide)
  have n1 : ∀ ty, (Instr.next (.pointer (some ⟨w.heap.size, 0, none⟩)) true ty).run Tryz.prog (w.iter ⟨#[43, 45]⟩ 1) = .ok (.tuple #[.bool true, .int .i64 1, .int .i32 45]) (w.iter ⟨#[43, 45]⟩ 2) := fun ty => run_next_ascii w ⟨#[43, 45]⟩ 1 ty (by decide) (by decide)
  have n2 : ∀ ty, (Instr.next (.pointer (some ⟨w.heap.size, 0, none⟩)) true ty).run Tryz.prog (w.iter ⟨#[43, 45]⟩ 2) = .ok (.tuple #[.bool false]) (w.iter ⟨#[43, 45]⟩ 2) := fun ty => run_next_end w ⟨#[43, 45]⟩ 2 ty (by decide)
  go_enter Tryz.func189, Tryz.ntmps189
  go_wp2_with fail
  refine wp_loop_rounds 3 ?_
  rw [rounds_succ]
  go_wp2_with fail
  rw [rounds_succ]
  go_wp2_with fail
  rw [rounds_succ]
  go_wp2_with fail
  go_ret
  exact ⟨rfl, (Below.refl _ w).alloc (Nat.le_refl _) _⟩
set_option maxRecDepth 1000000 in
set_option maxHeartbeats 4000000 in
theorem indexRune_high (r : Nat) (h0 : 128 ≤ r) (h1 : r ≤ 1114111) (w : World) : Calls Tryz.prog 189 #[.string ⟨#[43, 45]⟩, .int .i32 r] w fun e w' => e = .returned (.int .i64 (-1)) ∧ Below w.heap.size w w' := by
  by_cases he : r = 65533
  · subst he; exact indexRune_error w
  · obtain ⟨c0, l, c, hen, hl, hc⟩ := encode_high r h0
    have hd1 : ((r : Int) < 128) = False := by simp; omega
    have hd1' : ¬ (r : Int) < 128 := by omega
    have hd2 : ((r : Int) == 65533) = false := by simp; omega
    have hd3 : (0 : Int) ≤ r := by omega
    have hv := Lib.hid (fun W => validRune_any (r : Int) W)
    have hv := Lib.hid (fun W => validRune_any (r : Int) W)
    clear h0 h1 he
    go_enter Tryz.func189, Tryz.ntmps189
    go_wp2_with fail
    refine (hv.out _).mono ?_
    rintro e w1 ⟨⟨b, rfl⟩, rfl⟩
    cases b
    · go_wp2_with fail
      go_ret
      exact ⟨rfl, Below.refl _ _⟩
    · obtain ⟨K, hK⟩ : ∃ K : Int, (c.toNat : Int) = K := ⟨_, rfl⟩
      have hK1 : ((45 : Int) != K) = true := by simp; omega
      have hK0 : K.toNat.toUInt8 = c := by rw [← hK]; simp
      rcases l with _ | ⟨a, _ | ⟨b, _ | ⟨d, l⟩⟩⟩
      · have hen : Utf8.encode (r : Int) = ⟨#[c0, c]⟩ := hen
        have hix : ∀ W, (Instr.index 9 (.string ⟨#[c0, c]⟩) (.int .i64 1)).run Tryz.prog W = .ok (.int .u8 K) W := by
          intro W
          have := run_index_str [c0, c] 1 (by simp) W
          simpa [hK] using this
        have hiy : ∀ W, (Instr.index 9 (.string ⟨#[43, 45]⟩) (.int .i64 1)).run Tryz.prog W = .ok (.int .u8 45) W := by
          intro W
          have := run_index_str [43, 45] 1 (by simp) W
          simpa using this
        have hib := Lib.hid (show ∀ W, Calls Tryz.prog 84 #[.string ByteArray.empty, .int .u8 K] W fun e w' => e = .returned (.int .i64 (-1)) ∧ w' = W from fun W => Tryz.strings_IndexByte ByteArray.empty K W)
        go_wp2_with fail
        go_step3
        go_wp2_with fail
        refine wp_loop_rounds 2 ?_
        rw [rounds_succ]
        go_wp2_with fail
        go_step3
        go_wp2_with fail
        go_quiet (fail)
        go_wp2_with fail
        go_quiet (first | (go_at_call 84; refine (hib.out _).mono ?_; rintro e w' ⟨rfl, rfl⟩; exact ⟨rfl, _, rfl⟩))
        go_wp2_with fail
        rw [Exit.noGoto_ret]
        go_wp2
        try rw [Exit.noGoto_ret]
        go_ret
        exact ⟨rfl, below_dr (Below.refl _ _) _⟩
      · have hen : Utf8.encode (r : Int) = ⟨#[c0, a, c]⟩ := hen
        go_wp2_with fail
        go_step3
        go_wp2_with fail
        refine wp_loop_rounds 1 ?_
        rw [rounds_succ]
        go_wp2_with fail
        try rw [Exit.noGoto_ret]
        go_ret
        exact ⟨rfl, Below.refl _ _⟩
      · have hen : Utf8.encode (r : Int) = ⟨#[c0, a, b, c]⟩ := hen
        go_wp2_with fail
        go_step3
        go_wp2_with fail
        refine wp_loop_rounds 1 ?_
        rw [rounds_succ]
        go_wp2_with fail
        try rw [Exit.noGoto_ret]
        go_ret
        exact ⟨rfl, Below.refl _ _⟩
      · simp at hl

/-! ### What a byte beyond ASCII is read as. -/
theorem decode_high (t : List UInt8) (p : Nat) (hp : p < t.length) (hb : 128 ≤ t[p].toNat) :
    ∃ r n, Utf8.decode ⟨t.toArray⟩ p = (r, n) ∧ 128 ≤ r ∧ r ≤ 1114111 ∧ 1 ≤ n ∧ p + n ≤ t.length ∧ ∀ j (hj : j < t.length), p ≤ j → j < p + n → 128 ≤ t[j].toNat := by
  have g : ∀ j (hj : j < t.length), ((⟨t.toArray⟩ : ByteArray).get! j).toNat = t[j].toNat := by
    intro j hj
    simp [ByteArray.get!, hj]
  have hs : (⟨t.toArray⟩ : ByteArray).size = t.length := ba_size t
  rw [Lib.decode_at, hs, g p hp]
  have r0 : t[p].toNat < 256 := t[p].toNat_lt
  have one : ∀ j (hj : j < t.length), p ≤ j → j < p + 1 → 128 ≤ t[j].toNat := by
    intro j hj h1 h2
    obtain rfl : j = p := by omega
    exact hb
  unfold Lib.decodeN
  rw [if_neg (by omega)]
  split
  · rename_i h
    have h1 : p + 1 < t.length := by omega
    rw [g _ h1] at h ⊢
    split
    · refine ⟨_, _, rfl, by omega, by omega, by omega, by omega, ?_⟩
      intro j hj h2 h3
      rcases (show j = p ∨ j = p + 1 by omega) with rfl | rfl
      · exact hb
      · omega
    · exact ⟨_, _, rfl, by decide, by decide, by decide, by omega, one⟩
  · split
    · rename_i h
      have h1 : p + 1 < t.length := by omega
      have h2 : p + 2 < t.length := by omega
      rw [g _ h1, g _ h2] at h ⊢
      split
      · refine ⟨_, _, rfl, by omega, by omega, by omega, by omega, ?_⟩
        intro j hj h4 h5
        rcases (show j = p ∨ j = p + 1 ∨ j = p + 2 by omega) with rfl | rfl | rfl
        · exact hb
        · omega
        · omega
      · exact ⟨_, _, rfl, by decide, by decide, by decide, by omega, one⟩
    · split
      · rename_i h
        have h1 : p + 1 < t.length := by omega
        have h2 : p + 2 < t.length := by omega
        have h3 : p + 3 < t.length := by omega
        rw [g _ h1, g _ h2, g _ h3] at h ⊢
        split
        · refine ⟨_, _, rfl, by omega, by omega, by omega, by omega, ?_⟩
          intro j hj h4 h5
          rcases (show j = p ∨ j = p + 1 ∨ j = p + 2 ∨ j = p + 3 by omega) with rfl | rfl | rfl | rfl
          · exact hb
          · omega
          · omega
          · omega
        · exact ⟨_, _, rfl, by decide, by decide, by decide, by omega, one⟩
      · exact ⟨_, _, rfl, by decide, by decide, by decide, by omega, one⟩

theorem ba_get (t : List UInt8) (i : Nat) (_ : i < t.length) (h : i < (⟨t.toArray⟩ : ByteArray).size) : (⟨t.toArray⟩ : ByteArray)[i] = t[i] := by simp [ByteArray.getElem_eq_getElem_data]
/-- Where the loop over the text stands. -/
structure IxAt (w : World) (t : List UInt8) (i : Nat) (W : World) : Prop where
  le : i ≤ t.length
  it : W.heap[w.heap.size]? = some (.stringIter ⟨t.toArray⟩ i)
  below : Below w.heap.size w W
  no : Lib.NoAny t [43, 45] i
theorem IxAt.pos {w W : World} {t : List UInt8} {i : Nat} (h : IxAt w t i W) : W.iterPos w.heap.size = i := by unfold World.iterPos; rw [h.it]
theorem IxAt.lt {w W : World} {t : List UInt8} {i : Nat} (h : IxAt w t i W) : w.heap.size < W.heap.size := by
  rcases Nat.lt_or_ge w.heap.size W.heap.size with hlt | hge
  · exact hlt
  · have := h.it; rw [Array.getElem?_eq_none hge] at this; cases this

set_option maxRecDepth 1000000 in
set_option maxHeartbeats 4000000 in
theorem indexAny_short (t : List UInt8) (ht : t.length ≤ 8) (w : World) :
    Calls Tryz.prog 176 #[.string ⟨t.toArray⟩, .string ⟨#[43, 45]⟩] w fun e w' => e = .returned (.int .i64 (Lib.indexAny t [43, 45])) ∧ Below w.heap.size w w' := by
  have hsz : (⟨t.toArray⟩ : ByteArray).size = t.length := ba_size t
  have h8 : ¬ (8 : Int) < ((⟨t.toArray⟩ : ByteArray).size : Int) := by rw [hsz]; omega
  have h190 := Lib.hid (fun W => Tryz.strings_shouldUseASCIISet ((⟨t.toArray⟩ : ByteArray).size : Int) W)
  rw [decide_eq_false h8] at h190
  clear h8
  have HSZ := Lib.hid hsz
  clear hsz ht
  go_enter Tryz.func176, Tryz.ntmps176
  go_wp2_with fail
  refine (h190.out _).mono ?_
  rintro e w' ⟨rfl, hw⟩
  have hw := hw.symm
  subst hw
  go_wp2_with fail
  go_loopw [9, 10] (fun _ _ wr => ∃ i, IxAt w t i wr) (fun _ _ wr => t.length - wr.iterPos w.heap.size)
  case atStart => exact ⟨0, ⟨Nat.zero_le _, World.iter_heap w ⟨t.toArray⟩ 0, (Below.refl _ w).alloc (Nat.le_refl _) _, Lib.NoAny.zero _ _⟩⟩
  case round =>
    obtain ⟨i, hat⟩ := hrel
    have HA := Lib.hid hat
    have HP := Lib.hid hat.pos
    clear hat
    by_cases hi : i < t.length
    · have his : i < (⟨t.toArray⟩ : ByteArray).size := by rw [HSZ.out]; exact hi
      obtain ⟨x, hx⟩ : ∃ x, t[i] = x := ⟨_, rfl⟩
      have hxl : t[i]? = some x := by rw [← hx]; exact List.getElem?_eq_getElem hi
      by_cases hlo : x.toNat < 128
      · have hnx : ∀ ty, (Instr.next (.pointer (some ⟨w.heap.size, 0, none⟩)) true ty).run Tryz.prog wr = .ok (.tuple #[.bool true, .int .i64 i, .int .i32 x.toNat]) (wr.iterAt w.heap.size ⟨t.toArray⟩ (i + 1)) := by
          intro ty
          have := Lib.run_next_ascii_at (P := Tryz.prog) wr w.heap.size ⟨t.toArray⟩ i ty HA.out.it his (by rw [ba_get t i hi his, hx]; exact hlo)
          rwa [ba_get t i hi his, hx] at this
        have hat2 : (43 :: [45] : List UInt8).contains x = false → IxAt w t (i + 1) (wr.iterAt w.heap.size ⟨t.toArray⟩ (i + 1)) := fun hc =>
          ⟨by omega, Lib.iterAt_heap _ _ _ _ _ HA.out.it, Lib.below_iterAt HA.out.below (Nat.le_refl _) _ _, HA.out.no.succ hxl hc⟩
        have hR := Lib.hid (fun W => Tryz.strings_IndexRune_ascii ⟨#[43, 45]⟩ (x.toNat : Int) W (by omega) (by omega))
        have hback : ((x.toNat : Int)).toNat.toUInt8 = x := by simp
        rw [hback] at hR
        have hcon := Lib.contains_iff_indexByte [43, 45] x
        have hHit := fun hc => Lib.indexAny_hit HA.out.no hxl (show (43 :: [45] : List UInt8).contains x = true from hc)
        have HH := Lib.hid hHit
        have H2 := Lib.hid hat2
        have HBL := Lib.hid (show Below w.heap.size w (wr.iterAt w.heap.size ⟨t.toArray⟩ (i + 1)) from Lib.below_iterAt HA.out.below (Nat.le_refl _) _ _)
        obtain ⟨q, hq⟩ : ∃ q, Lib.indexByte [43, 45] x = q := ⟨_, rfl⟩
        have hRq := Lib.hid (show ∀ W, Calls Tryz.prog 189 #[.string ⟨#[43, 45]⟩, .int .i32 (x.toNat : Int)] W fun e w' => e = .returned (.int .i64 q) ∧ w' = W from fun W => by have := hR.out W; rw [← hq]; exact this)
        rw [hq] at hcon
        clear hR hback hat2 hHit hq hx hxl
        cases hin : ([43, 45] : List UInt8).contains x
        · rw [hin] at hcon
          have hlt : ¬ ((0 : Int) ≤ q) := of_decide_eq_false hcon.symm
          have H3 := Lib.hid (H2.out hin)
          clear hcon hin
          go_wp2_with fail
          refine (hRq.out _).mono ?_
          rintro e w2 ⟨rfl, rfl⟩
          go_wp2_with fail
          go_roundw
          case rel => exact ⟨i + 1, H3.out⟩
          case measure => rw [H3.out.pos, HP.out]; omega
        · rw [hin] at hcon
          have hge : (0 : Int) ≤ q := of_decide_eq_true hcon.symm
          have H3 := Lib.hid (HH.out hin)
          clear hcon hin
          go_wp2_with fail
          refine (hRq.out _).mono ?_
          rintro e w2 ⟨rfl, rfl⟩
          go_wp2_with fail
          go_ret
          exact ⟨by rw [H3.out]; rfl, HBL.out⟩
      · obtain ⟨r, n, hd, hr0, hr1, hn1, hn2, hall⟩ := decode_high t i hi (by rw [hx]; omega)
        have hnx : ∀ ty, (Instr.next (.pointer (some ⟨w.heap.size, 0, none⟩)) true ty).run Tryz.prog wr = .ok (.tuple #[.bool true, .int .i64 i, .int .i32 r]) (wr.iterAt w.heap.size ⟨t.toArray⟩ (i + n)) := by
          intro ty
          have := Lib.run_next_any_at (P := Tryz.prog) wr w.heap.size ⟨t.toArray⟩ i ty HA.out.it his
          rwa [hd] at this
        have H2 : Hid (IxAt w t (i + n) (wr.iterAt w.heap.size ⟨t.toArray⟩ (i + n))) := by
          refine ⟨hn2, Lib.iterAt_heap _ _ _ _ _ HA.out.it, Lib.below_iterAt HA.out.below (Nat.le_refl _) _ _, ?_⟩
          intro j b hj hb
          by_cases hji : j < i
          · exact HA.out.no j b hji hb
          · have hjl : j < t.length := by omega
            have h1 := hall j hjl (by omega) hj
            rw [List.getElem?_eq_getElem hjl] at hb
            injection hb with hb
            rw [hb] at h1
            have h2 : b ≠ 43 := by rintro rfl; revert h1; decide
            have h3 : b ≠ 45 := by rintro rfl; revert h1; decide
            simp [h2, h3]
        have hR := Lib.hid (fun W => indexRune_high r hr0 hr1 W)
        have HN := Lib.hid hn1
        clear hd hr0 hr1 hn1 hn2 hall hx hxl hlo
        go_wp2_with fail
        refine (hR.out _).mono ?_
        rintro e w2 ⟨rfl, hb⟩
        have H3 : Hid (IxAt w t (i + n) w2) := ⟨H2.out.le, by rw [hb.block _ H2.out.lt]; exact H2.out.it, H2.out.below.call hb H2.out.below.size, H2.out.no⟩
        clear hb
        go_wp2_with fail
        go_roundw
        case rel => exact ⟨i + n, H3.out⟩
        case measure => rw [H3.out.pos, HP.out]; have := HN.out; omega
    · obtain rfl : i = t.length := by have := HA.out.le; omega
      have hnx : ∀ ty, (Instr.next (.pointer (some ⟨w.heap.size, 0, none⟩)) true ty).run Tryz.prog wr = _ := fun ty => Lib.run_next_end_at wr _ _ t.length ty HA.out.it (by rw [HSZ.out]; omega)
      go_wp2_with fail
      go_ret
      exact ⟨by rw [Lib.indexAny_none HA.out.no]; rfl, HA.out.below⟩
theorem info184 : (Tryz.prog.info? 184).map (fun i => (i.zero, i.size)) = some (some (.agg (Array.replicate 256 (.bool false))), 256) := by kernel_rfl
/-- A sign is found where it stands, in every text. -/
theorem idx_all (t : List UInt8) (ht : t.length ≤ 1000000) : IdxOk t (Lib.indexAny t [43, 45]) where
  lo := Lib.indexAny_ge _ _
  hi := indexAny_le _ _
  run := fun W _ => by
    by_cases h8 : t.length ≤ 8
    · exact indexAny_short t h8 W
    · have h := Tryz.strings_IndexAny_long (Go.zero_of_info info184).1 ⟨t.toArray⟩ ⟨[43, 45].toArray⟩ W (by decide) (by rw [ba_size]; omega) (by rw [ba_size]; omega) (by decide) (by
        intro j b hb
        exact (show ∀ b ∈ ([43, 45] : List UInt8), b.toNat < 128 by decide) b (by simpa using List.mem_of_getElem? hb))
      rw [show (⟨t.toArray⟩ : ByteArray).data.toList = t by simp, show (⟨([43, 45] : List UInt8).toArray⟩ : ByteArray).data.toList = [43, 45] by simp] at h
      refine h.mono ?_
      rintro e w' ⟨rfl, rfl⟩
      exact ⟨rfl, ((Below.refl _ W).alloc (Nat.le_refl _) _).alloc (by simp) _⟩
theorem hix_all (s : List UInt8) (hs : s.length ≤ 1000000) : ∀ g ∈ given s, IdxOk (inner g) (signAt g) :=
  fun g hg => idx_all _ (Nat.le_trans (inner_len g) (given_len s hs g hg))
end Go.Proofs.YtdkclapinedgiaaGreatDoor
