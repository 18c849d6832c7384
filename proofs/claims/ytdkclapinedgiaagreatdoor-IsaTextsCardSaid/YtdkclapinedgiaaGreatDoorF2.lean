/- Contract: slices.Equal at []byte. -/
/- Contract: rank of the law's package, where it is true. -/
import Derived.Test.YtdkclapinedgiaaGreatDoorC7
import Derived.Test.YtdkclapinedgiaaGreatDoorD4
import Derived.Test.YtdkclapinedgiaaGreatDoorD5

namespace Go.Proofs.YtdkclapinedgiaaGreatDoor
open Go.RowKit

theorem u8_at {l : List Int} {k : Nat} (hk : k < l.length) {u : Value} (h : (u8s l)[k]? = some u) : u = .int .u8 l[k] := by
  unfold u8s at h
  rw [List.getElem?_map, List.getElem?_eq_getElem hk] at h
  simpa using h.symm

set_option maxHeartbeats 4000000 in
theorem bequal_any (A B : Option Addr) (n m c d : Nat) (l r : List Int) (w : World) (hl : Reads w w.heap.size 1 A n (u8s l)) (hr : Reads w w.heap.size 1 B m (u8s r)) (hn : n ≤ 1000000000000) (hm : m ≤ 1000000000000) :
    Calls Tryz.prog 33 #[.slice A n c, .slice B m d] w fun e w' => e = .returned (.bool (decide (l = r))) ∧ ∃ q, w' = w.drewN q := by
  have hln : l.length = n := by have := hl.1; simpa [u8s] using this
  have hrm : r.length = m := by have := hr.1; simpa [u8s] using this
  by_cases hnm : n = m
  · subst hnm
    have HL := Lib.hid hl
    have HR := Lib.hid hr
    have H1 := Lib.hid hln
    have H2 := Lib.hid hrm
    clear hl hr hln hrm
    go_enter Tryz.func33, Tryz.ntmps33
    go_wp2
    go_loopw [13] (fun i wr => ∃ k q : Nat, k ≤ n ∧ i = .int .i64 k ∧ wr = w.drewN q ∧ ∀ j, j < k → l[j]? = r[j]?) (fun i _ => n - (intOf i).toNat)
    case atStart => exact ⟨0, 0, by omega, rfl, rfl, fun j hj => by omega⟩
    case round =>
      obtain ⟨k, q, hk, rfl, rfl, hno⟩ := hrel
      have HN := Lib.hid hno
      clear hno
      by_cases hlt : k < n
      · obtain ⟨ad, u, rfl, hb, hx, hc⟩ := HL.out.at_ hlt
        obtain ⟨bd, v, rfl, hb2, hx2, hc2⟩ := HR.out.at_ hlt
        have hkl : k < l.length := by rw [H1.out]; exact hlt
        have hkr : k < r.length := by rw [H2.out]; exact hlt
        obtain rfl := u8_at hkl hx
        obtain rfl := u8_at hkr hx2
        clear hx hx2
        have hi : (k : Int) < n := by omega
        have hi0 : 0 ≤ (k : Int) := by omega
        by_cases he : l[k] = r[k]
        · have HE := Lib.hid he
          have hb : (l[k] != r[k]) = false := by simpa using he
          clear he
          go_wp2
          go_quiet (fail)
          go_wp2
          refine ⟨⟨k + 1, q + nq, by omega, by go_num, rfl, fun j hj => ?_⟩, by simp [intOf]; omega⟩
          by_cases hjk : j < k
          · exact HN.out j hjk
          · obtain rfl : j = k := by omega
            rw [List.getElem?_eq_getElem hkl, List.getElem?_eq_getElem hkr, HE.out]
        · have HE := Lib.hid he
          have hb : (l[k] != r[k]) = true := by simpa using he
          clear he
          go_wp2
          go_quiet (fail)
          go_wp2
          go_ret
          refine ⟨?_, q + nq, World.drewN_drewN _ _ _⟩
          have hne : ¬ l = r := fun h => HE.out (by subst h; rfl)
          rw [decide_eq_false hne]; rfl
      · have hkn : k = n := by omega
        have HK := Lib.hid hkn
        clear hkn
        go_wp2
        go_ret
        refine ⟨?_, _, rfl⟩
        have heq : l = r := by
          apply List.ext_getElem?
          intro j
          by_cases hj : j < n
          · exact HN.out j (by rw [HK.out]; exact hj)
          · rw [List.getElem?_eq_none (by rw [H1.out]; omega), List.getElem?_eq_none (by rw [H2.out]; omega)]
        rw [decide_eq_true heq]; rfl
  · have hne : ¬ l = r := fun h => hnm (by rw [← hln, ← hrm, h])
    have hb : ((n : Int) != (m : Int)) = true := by simp; omega
    rw [decide_eq_false hne]
    clear hl hr hln hrm
    go_enter Tryz.func33, Tryz.ntmps33
    go_wp2
    go_ret
    exact ⟨rfl, 0, by simp [World.drewN]⟩
end Go.Proofs.YtdkclapinedgiaaGreatDoor

namespace Go.Proofs.YtdkclapinedgiaaGreatDoor
open Go.RowKit

set_option maxRecDepth 100000 in
set_option maxHeartbeats 4000000 in
theorem rank_true (x : Insn) (n : Int) (w : World) (hv : x.valid = true) (i1 : 0 ≤ x.i) (i2 : x.i < 4294967296) (n0 : 0 ≤ n) (n1 : n < 18446744073709551616) (h1 : rankOf x = n) (h2 : unrankOf n = (x, 0)) :
    Calls Tryz.prog 55 #[.agg x.cs, .int .u64 n] w fun e w' => e = .returned (.bool true) ∧ Below w.heap.size w w' := by
  have hr := Lib.hid (show ∀ W, Calls Tryz.prog 22 #[.agg x.cs] W fun e w' => e = .returned (.tuple #[.int .u64 n, .int .i64 0]) ∧ Below W.heap.size W w' from fun W => by
    have h := rank_yes x W hv i1 i2
    unfold RankPost at h
    rw [hv, h1] at h
    exact h)
  have hu := Lib.hid (show ∀ W, Calls Tryz.prog 24 #[.int .u64 n] W fun e w' => e = .returned (.tuple #[.agg x.cs, .int .i64 0]) ∧ Below W.heap.size W w' from fun W => by
    have h := unrank_any n W n0 n1
    unfold UnrankPost at h
    rw [h2] at h
    exact h)
  clear hv i1 i2 n0 n1 h1 h2
  unfold Insn.cs at hr hu ⊢
  go_enter Tryz.func55, Tryz.ntmps55
  go_wp2_with (first
    | (go_at_call 22; refine (hr.out _).mono ?_; rintro e w1 ⟨rfl, hb1⟩; obtain ⟨hc1, hf1⟩ := bcell hb1; have hz1 : w.heap.size < w1.heap.size := by { have := hb1.size; simp at this; omega })
    | (go_at_call 24; refine (hu.out _).mono ?_; rintro e w2 ⟨rfl, hb2⟩; obtain ⟨hc2, hf2⟩ := bcell hb2; have hz2 : w.heap.size < w2.heap.size := by { have := hb2.size; omega }))
  go_ways
  go_ret
  exact ⟨rfl, ((((Below.refl _ w).alloc (Nat.le_refl _) _).call hb1 (by simp)).call hb2 (by omega)).alloc (by omega) _⟩
end Go.Proofs.YtdkclapinedgiaaGreatDoor
