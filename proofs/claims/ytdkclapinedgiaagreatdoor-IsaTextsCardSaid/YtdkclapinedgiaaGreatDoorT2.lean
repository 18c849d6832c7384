/- Contracts: slices.Equal at []int; names, Name, Op of the reference. -/
/- Contract: List of the reference. -/
import Derived.Test.YtdkclapinedgiaaGreatDoorW7
import Derived.Test.YtdkclapinedgiaaGreatDoorD2
import Derived.Test.YtdkclapinedgiaaGreatDoorE1
import Derived.Test.YtdkclapinedgiaaGreatDoorM4

namespace Go.Proofs.YtdkclapinedgiaaGreatDoor
open Go.RowKit

theorem i64_at {l : List Int} {k : Nat} (hk : k < l.length) {u : Value} (h : (i64s l)[k]? = some u) : u = .int .i64 l[k] := by
  unfold i64s at h
  rw [List.getElem?_map, List.getElem?_eq_getElem hk] at h
  simpa using h.symm
set_option maxHeartbeats 4000000 in
theorem nequal_any (A B : Option Addr) (n m c d : Nat) (l r : List Int) (w : World) (hl : Reads w w.heap.size 1 A n (i64s l)) (hr : Reads w w.heap.size 1 B m (i64s r)) (hn : n ≤ 1000000000000) (hm : m ≤ 1000000000000) :
    Calls Tryz.prog 44 #[.slice A n c, .slice B m d] w fun e w' => e = .returned (.bool (decide (l = r))) ∧ ∃ q, w' = w.drewN q := by
  have hln : l.length = n := by have := hl.1; simpa [i64s] using this
  have hrm : r.length = m := by have := hr.1; simpa [i64s] using this
  by_cases hnm : n = m
  · subst hnm
    have HL := Lib.hid hl
    have HR := Lib.hid hr
    have H1 := Lib.hid hln
    have H2 := Lib.hid hrm
    clear hl hr hln hrm
    go_enter Tryz.func44, Tryz.ntmps44
    go_wp2
    go_loopw [13] (fun i wr => ∃ k q : Nat, k ≤ n ∧ i = .int .i64 k ∧ wr = w.drewN q ∧ ∀ j, j < k → l[j]? = r[j]?) (fun i _ => n - (intOf i).toNat)
    case atStart => exact ⟨0, 0, by omega, rfl, rfl, fun j hj => by omega⟩
    case round =>
      obtain ⟨k, q, hk, rfl, rfl, hno⟩ := hrel
      have HN := Lib.hid hno
      clear hno
      by_cases hlt : k < n
      · obtain ⟨ad, u, rfl, hb, hx, hc⟩ := HL.out.at_ hlt
        obtain ⟨bd, v, rfl, hb2, hx2, hc2⟩ := HR.out.at_ hlt
        have hkl : k < l.length := by rw [H1.out]; exact hlt
        have hkr : k < r.length := by rw [H2.out]; exact hlt
        obtain rfl := i64_at hkl hx
        obtain rfl := i64_at hkr hx2
        clear hx hx2
        have hi : (k : Int) < n := by omega
        have hi0 : 0 ≤ (k : Int) := by omega
        by_cases he : l[k] = r[k]
        · have HE := Lib.hid he
          have hb : (l[k] != r[k]) = false := by simpa using he
          clear he
          go_wp2
          go_quiet (fail)
          go_wp2
          refine ⟨⟨k + 1, q + nq, by omega, by go_num, rfl, fun j hj => ?_⟩, by simp [intOf]; omega⟩
          by_cases hjk : j < k
          · exact HN.out j hjk
          · obtain rfl : j = k := by omega
            rw [List.getElem?_eq_getElem hkl, List.getElem?_eq_getElem hkr, HE.out]
        · have HE := Lib.hid he
          have hb : (l[k] != r[k]) = true := by simpa using he
          clear he
          go_wp2
          go_quiet (fail)
          go_wp2
          go_ret
          refine ⟨?_, q + nq, World.drewN_drewN _ _ _⟩
          have hne : ¬ l = r := fun h => HE.out (by subst h; rfl)
          rw [decide_eq_false hne]; rfl
      · have hkn : k = n := by omega
        have HK := Lib.hid hkn
        clear hkn
        go_wp2
        go_ret
        refine ⟨?_, _, rfl⟩
        have heq : l = r := by
          apply List.ext_getElem?
          intro j
          by_cases hj : j < n
          · exact HN.out j (by rw [HK.out]; exact hj)
          · rw [List.getElem?_eq_none (by rw [H1.out]; omega), List.getElem?_eq_none (by rw [H2.out]; omega)]
        rw [decide_eq_true heq]; rfl
  · have hne : ¬ l = r := fun h => hnm (by rw [← hln, ← hrm, h])
    have hb : ((n : Int) != (m : Int)) = true := by simp; omega
    rw [decide_eq_false hne]
    clear hl hr hln hrm
    go_enter Tryz.func44, Tryz.ntmps44
    go_wp2
    go_ret
    exact ⟨rfl, 0, by simp [World.drewN]⟩

def shortTab : List (List UInt8) := (nameTab.drop 1).take 61
def longTab : List (List UInt8) := nameTab.drop 64
def RNamesPost (w : World) (e : Ending) (w' : World) : Prop :=
  ∃ g, e = .returned (.tuple #[.slice (some ⟨g, 0, none⟩) 61 61, .slice (some ⟨g + 1, 0, none⟩) 9 9]) ∧ Blk w' g 9 (shortTab.map strV).toArray ∧ Blk w' (g + 1) 9 (longTab.map strV).toArray ∧ w.heap.size ≤ g ∧ Below w.heap.size w w'
set_option maxRecDepth 100000 in
set_option maxHeartbeats 40000000 in
theorem rnames_any (w : World) : Calls Tryz.prog 82 #[] w (RNamesPost w) := by
  go_enter Tryz.func82, Tryz.ntmps82
  go_wp2_with fail
  go_ret2
  refine ⟨w.heap.size, rfl, ?_, ?_, Nat.le_refl _, ((Below.refl _ w).alloc (Nat.le_refl _) _).alloc (by simp) _⟩
  · exact (Blk.new w 9 (shortTab.map strV).toArray).alloc _
  · exact blk_at _ (w.heap.size + 1) 9 (longTab.map strV).toArray (by simp)

theorem short_at {k : Nat} (hk : k < 61) : (shortTab.map strV).toArray[k]? = some (strV (nameOf ((k : Int) + 1))) := by
  have h : ∀ k : Nat, k < 61 → shortTab[k]? = some (nameOf ((k : Int) + 1)) := by decide +kernel
  simp [h k hk]
theorem long_at {k : Nat} (hk : k < 9) : (longTab.map strV).toArray[k]? = some (strV (nameOf ((k : Int) + 64))) := by
  have h : ∀ k : Nat, k < 9 → longTab[k]? = some (nameOf ((k : Int) + 64)) := by decide +kernel
  simp [h k hk]
set_option maxRecDepth 100000 in
set_option maxHeartbeats 4000000 in
theorem rname_any (op : Int) (w : World) : Calls Tryz.prog 39 #[.int .i64 op] w (NamePost w op) := by
  unfold NamePost
  cases ho : (opnd op).2
  · have hO := Lib.hid (show ∀ W, Calls Tryz.prog 75 #[.int .i64 op] W fun e w' => e = .returned (.bool false) ∧ W = w' from fun W => by have h := isop_any op W; rw [ho] at h; exact h)
    clear ho
    go_enter Tryz.func39, Tryz.ntmps39
    go_wp2_with fail
    refine (hO.out _).mono ?_
    rintro e w2 ⟨rfl, rfl⟩
    go_wp2_with fail
    go_ret2
    exact ⟨rfl, Below.refl _ _⟩
  · have hO := Lib.hid (show ∀ W, Calls Tryz.prog 75 #[.int .i64 op] W fun e w' => e = .returned (.bool true) ∧ W = w' from fun W => by have h := isop_any op W; rw [ho] at h; exact h)
    have hop := opnd_op op ho
    clear ho
    obtain ⟨nm, hnm⟩ : ∃ nm, nameOf op = nm := ⟨_, rfl⟩
    have HN := Lib.hid hnm
    by_cases hs : op < 64
    · obtain ⟨k, rfl⟩ : ∃ k : Nat, op = (k : Int) + 1 := ⟨(op - 1).toNat, by omega⟩
      have hk : k < 61 := by omega
      have hw : wrap64 ((k : Int) + 1 - 1) = k := by unfold wrap64; omega
      rw [hnm]
      clear hnm
      go_enter Tryz.func39, Tryz.ntmps39
      go_wp2_with fail
      refine (hO.out _).mono ?_
      rintro e w2 ⟨rfl, rfl⟩
      go_wp2_with fail
      refine (rnames_any _).mono ?_
      rintro e w3 ⟨g, rfl, h1, h2, _, hb⟩
      have hB := Lib.hid hb
      have c1 := h1.cell k
      rw [short_at hk, HN.out] at c1
      clear h1 h2 hb
      go_wp2_with fail
      go_ret2
      exact ⟨rfl, hB.out⟩
    · obtain ⟨k, rfl⟩ : ∃ k : Nat, op = (k : Int) + 64 := ⟨(op - 64).toNat, by omega⟩
      have hk : k < 9 := by omega
      have hw : wrap64 ((k : Int) + 64 - 64) = k := by unfold wrap64; omega
      rw [hnm]
      clear hnm
      go_enter Tryz.func39, Tryz.ntmps39
      go_wp2_with fail
      refine (hO.out _).mono ?_
      rintro e w2 ⟨rfl, rfl⟩
      go_wp2_with fail
      refine (rnames_any _).mono ?_
      rintro e w3 ⟨g, rfl, h1, h2, _, hb⟩
      have hB := Lib.hid hb
      have c1 := h2.cell k
      rw [long_at hk, HN.out] at c1
      clear h1 h2 hb
      go_wp2_with fail
      go_ret2
      exact ⟨rfl, hB.out⟩

/-! ### Op. -/
theorem tab_not : ∀ k : Nat, k < 73 → (opnd (k : Int)).2 = false → nameTab.getD k [] = [] := by decide +kernel
theorem tab_ne : ∀ k : Nat, k < 73 → (opnd (k : Int)).2 = true → nameTab.getD k [] ≠ [] := by decide +kernel
theorem tab_at {k : Nat} (h : k < nameTab.length) : nameTab[k] = nameOf (k : Int) := by
  unfold nameOf
  rw [Int.toNat_natCast, List.getD_eq_getElem?_getD, List.getElem?_eq_getElem h]; rfl
theorem op_hit {x : List UInt8} {k : Nat} (hk : 1 ≤ k) (h73 : k < 73) (ho : (opnd (k : Int)).2 = true) (hx : nameOf (k : Int) = x) (hno : ∀ j : Nat, 1 ≤ j → j < k → (opnd (j : Int)).2 = true → nameOf (j : Int) ≠ x) : opOf x = ((k : Int), true) := by
  have hne : x ≠ [] := by
    rw [← hx]
    have := tab_ne k h73 ho
    unfold nameOf; rwa [Int.toNat_natCast]
  have hi : strIdx nameTab x = k := by
    refine strIdx_hit (by show k < 73; exact h73) ?_ ?_
    · rw [tab_at, hx]; simp
    · intro j hj he
      have hjl : j < nameTab.length := by show j < 73; omega
      rw [List.getElem?_eq_getElem hjl, tab_at] at he
      injection he with he
      rcases Nat.eq_zero_or_pos j with rfl | hj0
      · exact hne (by rw [← he]; rfl)
      · cases hoj : (opnd (j : Int)).2
        · have := tab_not j (by omega) hoj
          exact hne (by rw [← he]; unfold nameOf; rwa [Int.toNat_natCast])
        · exact hno j hj0 hj hoj he
  unfold opOf
  rw [hi, if_pos ⟨by omega, hne⟩]
theorem op_none {x : List UInt8} (hno : ∀ j : Nat, 1 ≤ j → j < 73 → (opnd (j : Int)).2 = true → nameOf (j : Int) ≠ x) : opOf x = (0, false) := by
  unfold opOf
  by_cases hne : x = []
  · rw [if_neg (fun h => h.2 hne)]
  · have hi : strIdx nameTab x = -1 := by
      refine strIdx_none ?_
      intro j hj he
      rw [List.getElem?_eq_getElem hj, tab_at] at he
      injection he with he
      have h73 : j < 73 := hj
      rcases Nat.eq_zero_or_pos j with rfl | hj0
      · exact hne (by rw [← he]; rfl)
      · cases hoj : (opnd (j : Int)).2
        · have := tab_not j (by omega) hoj
          exact hne (by rw [← he]; unfold nameOf; rwa [Int.toNat_natCast])
        · exact hno j hj0 h73 hoj he
    rw [if_neg (fun h => by omega)]
set_option maxRecDepth 100000 in
set_option maxHeartbeats 4000000 in
theorem rop_any (x : List UInt8) (w : World) : Calls Tryz.prog 41 #[strV x] w (OpPost w x) := by
  unfold OpPost strV
  obtain ⟨P, hP⟩ : ∃ p, opOf x = p := ⟨_, rfl⟩
  have HP := Lib.hid hP
  rw [hP]
  clear hP
  go_enter Tryz.func41, Tryz.ntmps41
  go_wp2_with fail
  go_loopw [4] (fun i wr => ∃ k : Nat, 1 ≤ k ∧ k ≤ 73 ∧ i = .int .i64 k ∧ Below w.heap.size w wr ∧ ∀ j : Nat, 1 ≤ j → j < k → (opnd (j : Int)).2 = true → nameOf (j : Int) ≠ x) (fun i _ => 73 - (intOf i).toNat)
  case atStart => exact ⟨1, by omega, by omega, rfl, Below.refl _ _, fun j h1 h2 => by omega⟩
  case round =>
    obtain ⟨k, hk1, hk, rfl, hbl, hno⟩ := hrel
    have HB := Lib.hid hbl
    have HN := Lib.hid hno
    clear hbl hno
    by_cases hlt : k < 73
    · have hle : decide ((k : Int) ≤ 72) = true := decide_eq_true (by omega)
      have hle' : (k : Int) ≤ 72 := by omega
      have hC := Lib.hid (fun W => rname_any (k : Int) W)
      unfold NamePost strV at hC
      cases ho : (opnd (k : Int)).2
      · have HO := Lib.hid ho
        rw [ho] at hC
        clear ho
        go_wp2_with fail
        refine (hC.out _).mono ?_
        rintro e w2 ⟨rfl, hb⟩
        go_wp2_with fail
        go_roundw
        case rel =>
          refine ⟨k + 1, by omega, by omega, by go_num, HB.out.call hb HB.out.size, fun j h1 h2 h3 => ?_⟩
          by_cases hjk : j < k
          · exact HN.out j h1 hjk h3
          · obtain rfl : j = k := by omega
            rw [HO.out] at h3; cases h3
        case measure => simp [intOf]; omega
      · have HO := Lib.hid ho
        rw [ho, if_pos rfl] at hC
        clear ho
        by_cases he : nameOf (k : Int) = x
        · have HE := Lib.hid he
          rw [he] at hC
          clear he
          go_wp2_with fail
          refine (hC.out _).mono ?_
          rintro e w2 ⟨rfl, hb⟩
          go_wp2_with fail
          go_ret2
          have := op_hit hk1 hlt HO.out HE.out HN.out
          rw [HP.out] at this
          subst this
          exact ⟨rfl, HB.out.call hb HB.out.size⟩
        · have HE := Lib.hid he
          obtain ⟨nm, hnm⟩ : ∃ nm, nameOf (k : Int) = nm := ⟨_, rfl⟩
          have hq : (nm == x) = false := by rw [← hnm]; simpa using he
          rw [hnm] at hC
          clear he hnm
          go_wp2_with fail
          refine (hC.out _).mono ?_
          rintro e w2 ⟨rfl, hb⟩
          go_wp2_with fail
          go_roundw
          case rel =>
            refine ⟨k + 1, by omega, by omega, by go_num, HB.out.call hb HB.out.size, fun j h1 h2 h3 => ?_⟩
            by_cases hjk : j < k
            · exact HN.out j h1 hjk h3
            · obtain rfl : j = k := by omega
              exact HE.out
          case measure => simp [intOf]; omega
    · obtain rfl : k = 73 := by omega
      go_wp2_with fail
      go_ret2
      have := op_none HN.out
      rw [HP.out] at this
      subst this
      exact ⟨rfl, HB.out⟩
end Go.Proofs.YtdkclapinedgiaaGreatDoor

namespace Go.Proofs.YtdkclapinedgiaaGreatDoor
open Go.RowKit

/-- Where the loop of the reference's List stands. -/
structure RlAt (w : World) (l : List Int) (k f : Nat) (pre : List (Int × Insn)) (v : Value) (W : World) : Prop where
  fuel : l.length - k ≤ f
  rest : pre ++ insns f k (l.drop k) = insns l.length 0 l
  eend : endAt pre = k
  few : 4 * pre.length ≤ k
  own : W.ownsRow w.heap.size 24 7 v pre.length (cellsOf pre)
  nil : v = .slice none 0 0 ↔ pre = []
  below : Below w.heap.size w W

set_option maxRecDepth 100000 in
set_option maxHeartbeats 40000000 in
theorem rlist_any (A : Option Addr) (n c : Nat) (l : List Int) (w : World) (hr : Reads w w.heap.size 1 A n (u8s l)) (hl : Bytes l) (hnc : n ≤ c) (hn63 : (n : Int) ≤ 1000000000000) :
    Calls Tryz.prog 36 #[.slice A n c] w (ListPost w n (insns n 0 l)) := by
  obtain ⟨i24, hi24, hz24, hs24, hb24⟩ := info_parts info24
  have hlen : l.length = n := by have := hr.1; simpa [u8s] using this
  have HR := Lib.hid hr
  have HL := Lib.hid hl
  have HN := Lib.hid hlen
  have HP : Hid (ListPost w n (insns n 0 l) = ListPost w n (insns l.length 0 l)) := by unfold Hid; rw [hlen]
  rw [HP.out]
  clear hr hl hlen HP
  go_enter Tryz.func36, Tryz.ntmps36
  go_wp2_with fail
  go_loopw [5, 6] (fun o i wr => ∃ (v : Value) (k f : Nat) (pre : List (Int × Insn)), v = o ∧ k ≤ n ∧ i = .int .i64 k ∧ RlAt w l k f pre v wr) (fun _ i _ => n - (intOf i).toNat)
  case atStart => exact ⟨_, 0, l.length, [], rfl, Nat.zero_le _, rfl, ⟨by omega, rfl, rfl, by simp, World.ownsRow_nil _ _ 24 7, by simp, Below.refl _ _⟩⟩
  case round =>
    obtain ⟨v, k, f, pre, rfl, hk, rfl, hat⟩ := hrel
    have HA := Lib.hid hat
    clear hat
    by_cases hlt : k < n
    · have run : (Instr.slice 44 (.slice A n c) (some (.int .i64 (k : Int))) none none).run Tryz.prog wr = .ok (.slice (if c = k then A else A.map (·.add (k * 1))) (n - k) (c - k)) wr := by
        have h0 : (0 : Int) ≤ (k : Int) := by omega
        have h1 : (k : Int) ≤ (n : Int) := by omega
        simp [go_sem, Tryz.underlying44, h0, h1, sliced]
      have hcut := (HR.out.below HA.out.below).cut (k := k) (by omega) hnc
      revert run hcut
      generalize (if c = k then A else A.map (·.add (k * 1))) = A'
      intro run hcut
      have hcut' : Reads wr w.heap.size 1 A' (n - k) (u8s (l.drop k)) := by simpa [u8s, List.map_drop] using hcut
      have hbt : Bytes (l.drop k) := fun x hx => HL.out x (List.mem_of_mem_drop hx)
      have hdl := decode_len (l.drop k)
      have hne : l.drop k ≠ [] := by intro h; have := congrArg List.length h; simp at this; have := HN.out; omega
      have hf := HA.out.fuel
      obtain ⟨f, rfl⟩ : ∃ f', f = f' + 1 := ⟨f - 1, by have := HN.out; omega⟩
      have hx := HA.out.rest
      rw [insns, if_neg hne] at hx
      have hdec := rdecode_any A' (n - k) (c - k) (l.drop k) wr (hcut'.more HA.out.below.size) hbt
      unfold DecPost at hdec
      have hld : (l.drop k).length = n - k := by rw [List.length_drop, HN.out]
      rw [hld] at hdl
      obtain ⟨D, hD⟩ : ∃ D, decode (l.drop k) = D := ⟨_, rfl⟩
      rw [hD] at hdec hdl hx
      obtain ⟨x, m, er⟩ := D
      dsimp only at hdec hdl hx
      have HX := Lib.hid hx
      have HD := Lib.hid hdec
      unfold Insn.cs at HD
      clear hcut hcut' hbt hne hf hdec hD hx hld
      rcases hdl with ⟨he, hm4, hmn, hm8⟩ | he
      · subst he
        replace HX := Lib.hid (show pre ++ ((k : Int) + m, x) :: insns f ((k : Int) + m) (List.drop m.toNat (List.drop k l)) = insns l.length 0 l from by have := HX.out; rwa [if_pos rfl] at this)
        obtain ⟨q, rfl⟩ : ∃ q : Nat, m = q := ⟨m.toNat, by omega⟩
        have hw : wrap64 ((k : Int) + q) = ((k + q : Nat) : Int) := by unfold wrap64; omega
        go_wp2_with fail
        refine (HD.out).mono ?_
        rintro e w2 ⟨rfl, hb⟩
        have hz := hb.size
        have own2 : (w2.alloc (.cells x.cs 24)).ownsRow w.heap.size 24 7 v pre.length (cellsOf pre) := World.ownsRow.alloc (own_call HA.out.own hb) _
        have bl2 : Below w.heap.size w (w2.alloc (.cells x.cs 24)) := (HA.out.below.call hb HA.out.below.size).alloc (by have := HA.out.below.size; omega) _
        have bx2 : Blk (w2.alloc (.cells x.cs 24)) w2.heap.size 24 x.cs := Blk.new w2 24 _
        obtain ⟨c0, c1, c2, c3, c4, c5, c6, f0, f1, f2, f3, f4, f5, f6⟩ := bx2.facts7
        have OWN := Lib.hid own2
        have BL := Lib.hid bl2
        have lone := flat_one [x]
        have hpl := HA.out.few
        have l63 : pre.length + 1 ≤ maxLen := by unfold maxLen; omega
        have lby : (pre.length + 1) * 56 ≤ 140737488355328 := by omega
        clear own2 bl2 bx2 hb HD f0 f1 f2 f3 f4 f5 f6
        unfold Insn.cs at OWN BL
        go_wp2_with (first
          | (at_builtin; refine wpList_append_own _ rfl _ _ 53 rfl w.heap.size 24 i24 zero24 7 56 Tryz.underlying53 hi24 hz24 hs24 hb24 rfl (by decide) v pre.length (cellsOf pre) rfl (World.ownsRow.alloc OWN.out _) ⟨w2.heap.size + 1, 0, none⟩ 1 1 (flat [x]) rfl rfl (cells_of_blk (blk_at (w2.alloc (.cells x.cs 24)) (w2.heap.size + 1) 24 x.cs (by simp)) _ rfl) lone l63 lby (by have := BL.out.size; simp at this ⊢; omega) ?_
             intro v2 w4 ho2 hg2 hn2
             have hbl4 := (BL.out.alloc BL.out.size (.cells #[.int .i64 x.op, .int .i64 x.a, .int .i64 x.b, .int .i64 x.c, .int .i64 x.d, .int .i64 x.k, .int .u32 x.i] 24)).trans (below_grown hg2 (by have := BL.out.size; simp at this ⊢; omega) (own_ge OWN.out))
             have HO2 := Lib.hid ho2
             have HN2 := Lib.hid hn2
             have HB4 := Lib.hid hbl4
             clear ho2 hg2 hn2 hbl4))
        go_roundw
        case rel =>
          refine ⟨v2, k + q, f, pre ++ [((k : Int) + q, x)], rfl, by omega, by go_num, ⟨?_, ?_, ?_, ?_, ?_, ?_, HB4.out⟩⟩
          · have := HA.out.fuel; omega
          · rw [← HX.out]
            simp
          · rw [endAt_snoc]; simp
          · have := HA.out.few; simp; omega
          · rw [cellsOf_snoc]; simpa [flat] using HO2.out
          · rw [HN2.out]; simp
        case measure => simp [intOf]; omega
      · subst he
        replace HX := Lib.hid (show pre = insns l.length 0 l from by have := HX.out; rwa [if_neg (by decide), List.append_nil] at this)
        go_wp2_with fail
        refine (HD.out).mono ?_
        rintro e w2 ⟨rfl, hb⟩
        have bl2 : Below w.heap.size w (w2.alloc (.cells x.cs 24)) := (HA.out.below.call hb HA.out.below.size).alloc (by have := HA.out.below.size; have := hb.size; omega) _
        have BL := Lib.hid bl2
        clear bl2 hb HD
        go_wp2_with fail
        go_ret3
        rw [← HX.out]
        refine ⟨BL.out, ?_⟩
        rw [if_pos (by rw [HA.out.eend]; omega), HA.out.eend]
        rfl
    · obtain rfl : k = n := by omega
      have hx := HA.out.rest
      have e0 : l.drop k = [] := by rw [← HN.out]; exact List.drop_length
      rw [e0, show insns f k [] = [] from by cases f <;> simp [insns], List.append_nil] at hx
      have HX := Lib.hid hx
      clear hx e0
      go_wp2_with fail
      go_ret3
      rw [← HX.out]
      refine ⟨HA.out.below, ?_⟩
      rw [if_neg (by rw [HA.out.eend]; omega)]
      exact ⟨v, rfl, HA.out.own, HA.out.nil⟩
end Go.Proofs.YtdkclapinedgiaaGreatDoor
