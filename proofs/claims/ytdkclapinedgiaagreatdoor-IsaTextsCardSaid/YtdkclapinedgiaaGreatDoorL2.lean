/- The closure of 'decoded' of package isa (function 133), for every loop body; 'decoded' (81). -/
/- Contract: List of package isa (function 35), for every slice of bytes. -/
import Derived.RangeFuncNested
import Derived.RangeFuncBound
import Derived.RangeFuncCalls
import Derived.RangeFuncLeaves
import Derived.RangeFuncBox
import Derived.Shelf.Abstract
import Derived.Shelf.RegionOpen
import Derived.WalkKit
import Derived.OwnWalkIn
import Derived.TacticsInMore
import Derived.LoopNIn
import Derived.LoopIn
import Derived.Maps.AppendAt
import Derived.Test.YtdkclapinedgiaaGreatDoorC7

namespace Go.Proofs.YtdkclapinedgiaaGreatDoor
open Go.RowKit Go.Shelf
attribute [local go_sem] Oper.semAt_some

/-- What the bytes l decode to, one behind the other: each with the place behind it. -/
def insns : Nat → Int → List Int → List (Int × Insn)
  | 0, _, _ => []
  | f + 1, p, l => if l = [] then [] else if (decode l).2.2 = 0 then (p + (decode l).2.1, (decode l).1) :: insns f (p + (decode l).2.1) (l.drop (decode l).2.1.toNat) else []

theorem decode_len (l : List Int) : (decode l).2.2 = 0 ∧ 4 ≤ (decode l).2.1 ∧ (decode l).2.1 ≤ l.length ∧ (decode l).2.1 ≤ 8 ∨ (decode l).2.2 = 6 := by
  unfold decode
  split
  · split
    · split
      · left; simp; omega
      · right; rfl
    · split
      · split
        · left; simp; omega
        · right; rfl
      · right; rfl
  · right; rfl

theorem grown_of_below {w w' : World} (h : Below w.heap.size w w') : w.grownBy w' none := ⟨h.os, h.tape, h.output, h.size, fun k hk _ => h.block k hk⟩

theorem decoded_any (A : Option Addr) (n c : Nat) (w : World) :
    Calls Tryz.prog 81 #[.slice A n c] w fun e w' => e = .returned (.func (.func 133) #[] #[.pointer (some ⟨w.heap.size, 0, none⟩)]) ∧ w' = w.alloc (.cells #[.slice A n c] 44) := by
  refine (callsIn_wide (n := 3)).1 ?_
  refine callsIn_of_wp Tryz.func81 rfl trivial ?_ rfl
  simp only [Tryz.ntmps81, List.size_toArray, List.length_cons, List.length_nil, Nat.reduceAdd, Nat.reduceSub, Array.replicate_succ, Array.replicate_zero, List.push_toArray, List.append_toArray, List.nil_append, List.cons_append]
  gi_wp2
  go_ret
  exact ⟨rfl, rfl⟩

abbrev encI : Int × Insn → Array Value := fun x => #[.int .i64 x.1, .agg x.2.cs]

theorem insns_len : ∀ (f : Nat) (p : Int) (l : List Int), 4 * (insns f p l).length ≤ l.length
  | 0, _, _ => by simp [insns]
  | f + 1, p, l => by
    unfold insns
    split
    · simp
    · split
      · have := insns_len f (p + (decode l).2.1) (l.drop (decode l).2.1.toNat)
        rcases decode_len l with ⟨_, h1, h2, _⟩ | h
        · simp at this ⊢; omega
        · omega
      · simp

set_option maxRecDepth 100000 in
set_option maxHeartbeats 4000000 in
theorem decoded1_in (d : Nat) (hd : 1 ≤ d) (i Bs n₀ n c : Nat) (A : Option Addr) (l : List Int) (hl : Bytes l) (hnc : n ≤ c) (hn63 : (n : Int) ≤ 4611686018427387904) (J Jx : List (Int × Insn) → World → Prop)
    (W : World) (hn₀ : n₀ ≤ W.heap.size) (hBs : W.cell? ⟨Bs, 0, none⟩ = some (.slice A n c)) (hBs0 : Bs < W.heap.size) (hr : Reads W n₀ 1 A n (u8s l))
    (hJ : AbidesFrom W.heap.size J)
    (hY : ∀ pre x W1, J pre W1 → pre.length < n → YieldAt Fence.wide (d - 1) Tryz.prog i (encI x) W1 fun e W' =>
      (e = .returned (.bool true) ∧ J (pre ++ [x]) W' ∧ Below n₀ W1 W' ∧ W'.cell? ⟨Bs, 0, none⟩ = W1.cell? ⟨Bs, 0, none⟩) ∨ (e = .returned (.bool false) ∧ Jx (pre ++ [x]) W'))
    (h0 : J [] W) :
    CallsIn Fence.wide d Tryz.prog 133 #[.func (.yield i) #[] #[], .pointer (some ⟨Bs, 0, none⟩)] W fun e W' => (∃ v, e = .returned v) ∧
      (J (insns n 0 l) W' ∨ (∃ pre, (∃ r, pre ++ r = insns n 0 l) ∧ Jx pre W')) := by
  refine callsIn_of_wp Tryz.func133 rfl trivial ?_ rfl
  simp only [Tryz.ntmps133, List.size_toArray, List.length_cons, List.length_nil, Nat.reduceAdd, Nat.reduceSub, Array.replicate_succ, Array.replicate_zero, List.push_toArray, List.append_toArray, List.nil_append, List.cons_append]
  have hlen : l.length = n := by have := hr.1; simpa [u8s] using this
  gi_wp2
  gi_loopw [3] (fun v wr => ∃ (k f : Nat) (pre : List (Int × Insn)), k ≤ n ∧ n - k ≤ f ∧ v = .int .i64 k ∧ pre ++ insns f k (l.drop k) = insns n 0 l ∧ J pre wr ∧ Reads wr n₀ 1 A n (u8s l) ∧ n₀ ≤ wr.heap.size ∧ W.heap.size ≤ wr.heap.size ∧ wr.cell? ⟨Bs, 0, none⟩ = some (.slice A n c) ∧ 4 * pre.length ≤ k)
    (fun v _ => n - (intOf v).toNat)
  case atStart => exact ⟨0, n, [], Nat.zero_le _, by omega, rfl, by simp, h0, hr, hn₀, Nat.le_refl _, hBs, by simp⟩
  case round =>
    obtain ⟨k, f, pre, hk, hf, rfl, hx, hJs, hrx, hsz, hsW, hcx, hpre⟩ := hrel
    by_cases hlt : k < n
    · have run : (Instr.slice 44 (.slice A n c) (some (.int .i64 (k : Int))) none none).run Tryz.prog wr = .ok (.slice (if c = k then A else A.map (·.add (k * 1))) (n - k) (c - k)) wr := by
        have h0 : (0 : Int) ≤ (k : Int) := by omega
        have h1 : (k : Int) ≤ (n : Int) := by omega
        simp [go_sem, Tryz.underlying44, h0, h1, sliced]
      have hcut := hrx.cut (k := k) (by omega) hnc
      revert run hcut
      generalize (if c = k then A else A.map (·.add (k * 1))) = A'
      intro run hcut
      have hcut' : Reads wr n₀ 1 A' (n - k) (u8s (l.drop k)) := by simpa [u8s, List.map_drop] using hcut
      have hbt : Bytes (l.drop k) := fun x hx => hl x (List.mem_of_mem_drop hx)
      have hdl := decode_len (l.drop k)
      have hne : l.drop k ≠ [] := by intro h; have := congrArg List.length h; simp at this; omega
      obtain ⟨f, rfl⟩ : ∃ f', f = f' + 1 := ⟨f - 1, by omega⟩
      rw [insns, if_neg hne] at hx
      have hdec := decode_any A' (n - k) (c - k) (l.drop k) wr (hcut'.more hsz) hbt
      unfold DecPost at hdec
      generalize decode (l.drop k) = D at hdec hdl hx
      obtain ⟨x, m, er⟩ := D
      dsimp only at hdec hdl hx
      rcases hdl with ⟨he, hm4, hmn, hm8⟩ | he
      · subst he
        rw [if_pos rfl] at hx
        rw [List.length_drop, hlen] at hmn
        simp only [Insn.cs] at hdec
        have hnext : ∀ w1, Below wr.heap.size wr w1 → YieldAt Fence.wide (d - 1) Tryz.prog i (encI ((k : Int) + m, x)) (w1.alloc (Obj.cells #[Value.int IntKind.i64 x.op, Value.int IntKind.i64 x.a, Value.int IntKind.i64 x.b, Value.int IntKind.i64 x.c, Value.int IntKind.i64 x.d, Value.int IntKind.i64 x.k, Value.int IntKind.u32 x.i] 24)) fun e W' =>
            (e = .returned (.bool true) ∧ J (pre ++ [((k : Int) + m, x)]) W' ∧ Below wr.heap.size wr w1 ∧ Below n₀ w1 W' ∧ W'.cell? ⟨Bs, 0, none⟩ = w1.cell? ⟨Bs, 0, none⟩) ∨ (e = .returned (.bool false) ∧ Jx (pre ++ [((k : Int) + m, x)]) W') := by
          intro w1 hb1
          have hbb : Below wr.heap.size wr (w1.alloc (Obj.cells #[Value.int IntKind.i64 x.op, Value.int IntKind.i64 x.a, Value.int IntKind.i64 x.b, Value.int IntKind.i64 x.c, Value.int IntKind.i64 x.d, Value.int IntKind.i64 x.k, Value.int IntKind.u32 x.i] 24)) := hb1.alloc hb1.size _
          have hs1 := hb1.size
          refine YieldAt.mono (hY pre ((k : Int) + m, x) _ (hJ _ wr _ none hJs (grown_of_below hbb) (fun r e => by cases e)) (by omega)) ?_
          rintro e W' (⟨rfl, hJ3, hk3, hc3⟩ | ⟨rfl, hJx3⟩)
          · exact .inl ⟨rfl, hJ3, hb1, ((Below.refl n₀ w1).alloc (by omega) _).trans hk3, hc3.trans (((Below.refl w1.heap.size w1).alloc (Nat.le_refl _) _).cell (p := ⟨Bs, 0, none⟩) (by show Bs < _; omega))⟩
          · exact .inr ⟨rfl, hJx3⟩
        clear hY
        gi_wp2_with (refine ⟨trivial, ?_⟩; gi_at_call 29; refine (callsIn_wide.2 hdec).mono ?_; rintro e w1 ⟨rfl, hb1⟩; obtain ⟨fn, tmps, assign, body, hy, hR⟩ := hnext w1 hb1; clear hnext; dsimp only [encI, Insn.cs] at hy)
        refine hR.mono ?_
        rintro e W3 (⟨rfl, hJ3, hb1, hk3, hc3⟩ | ⟨rfl, hJx3⟩)
        · gi_wp2
          go_roundw
          case rel => 
            refine ⟨k + m.toNat, f, pre ++ [((k : Int) + m, x)], by omega, by omega, by simp; omega, ?_, hJ3, (hrx.below (hb1.mono hsz)).below hk3, ?_, ?_, ?_, by simp; omega⟩
            · rw [← hx]; simp; congr 1; omega
            · have := hb1.size; have := hk3.size; omega
            · have := hb1.size; have := hk3.size; omega
            · rw [hc3, hb1.cell (p := ⟨Bs, 0, none⟩) (by show Bs < _; omega)]; exact hcx
          case measure => simp [intOf]; omega
        · gi_wp2
          refine bodyPost_ret (results_none rfl _ _ _) rfl ?_
          exact ⟨⟨_, rfl⟩, .inr ⟨_, ⟨insns f ((k : Int) + m) ((l.drop k).drop m.toNat), by rw [← hx]; simp⟩, hJx3⟩⟩
      · subst he
        rw [if_neg (by decide)] at hx
        clear hY
        simp only [Insn.cs] at hdec
        gi_wp2_with (refine ⟨trivial, ?_⟩; gi_at_call 29; refine (callsIn_wide.2 hdec).mono ?_; rintro e w1 ⟨rfl, hb1⟩)
        refine ⟨fun _ h => (by cases h), ?_⟩
        gi_wp2
        refine bodyPost_ret (results_none rfl _ _ _) rfl ?_
        refine ⟨⟨_, rfl⟩, .inl ?_⟩
        rw [List.append_nil] at hx
        rw [← hx]
        refine hJ _ wr _ none hJs (grown_of_below ?_) (fun r e => by cases e)
        exact hb1.alloc (Nat.le_trans (Nat.le_refl _) hb1.size) _
    · obtain rfl : k = n := by omega
      gi_wp2
      go_end0
      refine ⟨⟨_, rfl⟩, .inl ?_⟩
      have e0 : l.drop k = [] := by rw [← hlen]; exact List.drop_length
      rw [e0] at hx
      have e1 : insns f k [] = [] := by cases f <;> simp [insns]
      rw [e1, List.append_nil] at hx
      rw [← hx]; exact hJs
end Go.Proofs.YtdkclapinedgiaaGreatDoor

namespace Go.Proofs.YtdkclapinedgiaaGreatDoor
open Go.RowKit Go.Shelf
attribute [local go_sem] Oper.semAt_some

def KpB (n₀ Bs : Nat) (X Y : World) : Prop := Below n₀ X Y ∧ Y.cell? ⟨Bs, 0, none⟩ = X.cell? ⟨Bs, 0, none⟩

theorem decoded_stops (d : Nat) (hd : 1 ≤ d) (Bs n₀ n c : Nat) (A : Option Addr) (l : List Int) (hl : Bytes l) (hnc : n ≤ c) (hn63 : (n : Int) ≤ 4611686018427387904)
    (w0 : World) (hn₀ : n₀ ≤ w0.heap.size) (hBs : w0.cell? ⟨Bs, 0, none⟩ = some (.slice A n c)) (hBs0 : Bs < w0.heap.size) (hr : Reads w0 n₀ 1 A n (u8s l)) :
    SeqStopsK Fence.wide d Tryz.prog 133 #[.pointer (some ⟨Bs, 0, none⟩)] encI (KpB n₀ Bs) (fun ys => ys = insns n 0 l) (fun pre => ∃ r, pre ++ r = insns n 0 l) n w0 := fun i J Jx W hW hJ _ hY h0 => by
  have hs := hW.size
  refine (decoded1_in d hd i Bs n₀ n c A l hl hnc hn63 J Jx W (by omega) ((hW.cell (p := ⟨Bs, 0, none⟩) hBs0).trans hBs) (by omega) ((hr.more hn₀).below hW |>.keep (fun _ _ => rfl) |> fun h => (hr.below (hW.mono hn₀))) hJ ?_ h0).mono ?_
  · intro pre x W1 hJ1 hlt
    refine YieldAt.mono (hY pre x W1 hJ1 hlt) ?_
    rintro e W' (⟨rfl, h1, h2, h3⟩ | h)
    · exact .inl ⟨rfl, h1, h2, h3⟩
    · exact .inr h
  · rintro e W' ⟨he, hj | ⟨pre, hp, hj⟩⟩
    · exact ⟨he, .inl ⟨_, rfl, hj⟩⟩
    · exact ⟨he, .inr ⟨_, hp, hj⟩⟩

def endAt (ps : List (Int × Insn)) : Int := (ps.getLast?.map (·.1)).getD 0
def cellsOf (ps : List (Int × Insn)) : List Value := ps.flatMap fun x => x.2.cs.toList
theorem endAt_snoc (ps : List (Int × Insn)) (x : Int × Insn) : endAt (ps ++ [x]) = x.1 := by simp [endAt]
theorem cellsOf_snoc (ps : List (Int × Insn)) (x : Int × Insn) : cellsOf (ps ++ [x]) = cellsOf ps ++ x.2.cs.toList := by simp [cellsOf]

theorem list_round {W w1 : World} {n₀ Bo Ba Bb : Nat} {v v' u a' s : Value} {k m : Nat} {xs ys : List Value} {tmp : Obj}
    (hv : Boxed W Bo 53 v) (ha : Boxed W Ba 3 u) (hb : Boxed W Bb 44 s) (hne1 : Bo ≠ Ba) (hne2 : Bb ≠ Ba) (hne3 : Bb ≠ Bo)
    (hrow : W.ownsRow n₀ 24 7 v k xs) (hn₀ : n₀ ≤ W.heap.size) (hBo : n₀ ≤ Bo) (hBa : n₀ ≤ Ba)
    (hown' : w1.ownsRow n₀ 24 7 v' m ys) (hgrow : (W.alloc tmp).grownBy w1 v.ownBlock) :
    (Boxed w1 Bo 53 v ∧ Boxed w1 Ba 3 u) ∧ Boxed ((w1.setCell ⟨Ba, 0, none⟩ a').setCell ⟨Bo, 0, none⟩ v') Bo 53 v' ∧ Boxed ((w1.setCell ⟨Ba, 0, none⟩ a').setCell ⟨Bo, 0, none⟩ v') Ba 3 a' ∧
      Boxed ((w1.setCell ⟨Ba, 0, none⟩ a').setCell ⟨Bo, 0, none⟩ v') Bb 44 s ∧ ((w1.setCell ⟨Ba, 0, none⟩ a').setCell ⟨Bo, 0, none⟩ v').ownsRow n₀ 24 7 v' m ys ∧
      KeepsOthers W ((w1.setCell ⟨Ba, 0, none⟩ a').setCell ⟨Bo, 0, none⟩ v') ∧ Below n₀ W ((w1.setCell ⟨Ba, 0, none⟩ a').setCell ⟨Bo, 0, none⟩ v') := by
  have hv1 : Boxed w1 Bo 53 v := (hv.alloc tmp).kept hgrow (hv.not_row (by decide) hrow)
  have ha1 : Boxed w1 Ba 3 u := (ha.alloc tmp).kept hgrow (ha.not_row (by decide) hrow)
  have hb1 : Boxed w1 Bb 44 s := (hb.alloc tmp).kept hgrow (hb.not_row (by decide) hrow)
  have hv2 := hv1.other hne1 a'
  have ha2 := ha1.set a'
  have hb2 := hb1.other hne2 a'
  have hown2 := hown'.kept (grownBy_setCell' w1 Ba a') (.inr (ha1.not_row (by decide) hown').symm)
  refine ⟨⟨hv1, ha1⟩, hv2.set v', ha2.other hne1.symm v', hb2.other hne3 v', hown2.kept (grownBy_setCell' _ Bo v') (.inr (hv2.not_row (by decide) hown2).symm), ?_, ?_⟩
  · refine (((KeepsOthers.alloc W tmp).trans (KeepsOthers.of_grownBy hgrow fun j o ej hj => ?_)).trans (KeepsOthers.setCell _ _ _)).trans (KeepsOthers.setCell _ _ _)
    rcases (hrow.alloc tmp).2 with ⟨rfl, _⟩ | ⟨g, cap, cur, rfl, _, hgb, _⟩
    · simp [Value.ownBlock] at ej
    · obtain rfl : g = j := by simpa [Value.ownBlock] using ej
      rw [hgb] at hj; cases hj; rfl
  · refine ((((Below.refl n₀ W).alloc hn₀ tmp).grown hgrow (by simp; omega) fun j ej => ?_).setCell (p := ⟨Ba, 0, none⟩) hBa a').setCell (p := ⟨Bo, 0, none⟩) hBo v'
    rcases hrow.2 with ⟨rfl, _⟩ | ⟨g, cap, cur, rfl, hb, _, _⟩
    · simp [Value.ownBlock] at ej
    · obtain rfl : g = j := by simpa [Value.ownBlock] using ej
      exact hb

theorem info24 : (Tryz.prog.info? 24).map (fun i => (i.zero, i.size, i.bytes)) = some (some (.agg #[.int .i64 0, .int .i64 0, .int .i64 0, .int .i64 0, .int .i64 0, .int .i64 0, .int .u32 0]), 7, 56) := by kernel_rfl

theorem blk_own (Bx t : Nat) (cs : Array Value) : Own (fun (_ : Unit) W => Blk W Bx t cs) := by
  rintro s X Y row h hg hr
  refine h.grown hg (fun e => ?_)
  obtain ⟨o, ho, hc⟩ := hr Bx e.symm
  rw [show X.heap[Bx]? = _ from h] at ho; cases ho; cases hc

def ListPost (w : World) (n : Nat) (ps : List (Int × Insn)) (e : Ending) (w' : World) : Prop :=
  Below w.heap.size w w' ∧ if endAt ps < n then e = .returned (.tuple #[.slice none 0 0, .int .i64 (endAt ps), .int .i64 6]) else
    ∃ v, e = .returned (.tuple #[v, .int .i64 0, .int .i64 0]) ∧ w'.ownsRow w.heap.size 24 7 v ps.length (cellsOf ps) ∧ (v = .slice none 0 0 ↔ ps = [])

set_option maxRecDepth 100000 in
set_option maxHeartbeats 4000000 in
theorem list_any (A : Option Addr) (n c : Nat) (l : List Int) (w : World) (hr : Reads w w.heap.size 1 A n (u8s l)) (hl : Bytes l) (hnc : n ≤ c) (hn63 : (n : Int) ≤ 1000000000000) :
    Calls Tryz.prog 35 #[.slice A n c] w (ListPost w n (insns n 0 l)) := by
  obtain ⟨i0, hi, hz0, hz1, hz2⟩ := info_parts info24
  refine (callsIn_wide (n := 6)).1 ?_
  refine callsIn_of_wp_marks Tryz.func35 rfl trivial ?_ rfl
  simp only [Tryz.ntmps35, List.size_toArray, List.length_cons, List.length_nil, Nat.reduceAdd, Nat.reduceSub, Array.replicate_succ, Array.replicate_zero, List.push_toArray, List.append_toArray, List.nil_append, List.cons_append]
  have hlen : l.length = n := by have := hr.1; simpa [u8s] using this
  gi_wp2_with (refine ⟨trivial, ?_⟩; gi_at_call 81; refine (callsIn_wide.2 (decoded_any _ _ _ _)).mono ?_; rintro e w' ⟨rfl, rfl⟩)
  have bO := ((Boxed.new w 53 (.slice none 0 0)).alloc (.cells #[.int .i64 0] 3)).alloc (.cells #[.slice A n c] 44)
  have bT := (Boxed.new (w.alloc (.cells #[.slice none 0 0] 53)) 3 (.int .i64 0)).alloc (.cells #[.slice A n c] 44)
  have bB := Boxed.new ((w.alloc (.cells #[.slice none 0 0] 53)).alloc (.cells #[.int .i64 0] 3)) 44 (.slice A n c)
  simp only [World.size_alloc] at bT bB
  have hB0 : Below w.heap.size w (((w.alloc (.cells #[.slice none 0 0] 53)).alloc (.cells #[.int .i64 0] 3)).alloc (.cells #[.slice A n c] 44)) := (((Below.refl _ w).alloc (Nat.le_refl _) _).alloc (by simp) _).alloc (by simp; omega) _
  have hsz : (((w.alloc (.cells #[.slice none 0 0] 53)).alloc (.cells #[.int .i64 0] 3)).alloc (.cells #[.slice A n c] 44)).heap.size = w.heap.size + 3 := by simp
  obtain ⟨W0, hW0⟩ : ∃ W0, ((w.alloc (.cells #[.slice none 0 0] 53)).alloc (.cells #[.int .i64 0] 3)).alloc (.cells #[.slice A n c] 44) = W0 := ⟨_, rfl⟩
  rw [hW0] at bO bT bB hB0 hsz ⊢
  clear hW0
  refine wpIn_rangeFunc_ownH rfl (by decide) (gf := 133) (lb := #[.pointer (some ⟨w.heap.size + 1 + 1, 0, none⟩)]) rfl trivial (enters_of Tryz.func133 (by kernel_rfl) rfl)
    (decoded_stops (6 - 1) (by omega) (w.heap.size + 1 + 1) w.heap.size n c A l hl hnc (by omega) W0 (by omega) bB.cell (by omega) (hr.below hB0))
    (fun {_ _ _} h1 h2 => ⟨h1.1.trans h2.1, h2.2.trans h1.2⟩) ?hKb (Below.refl _ _) (fun _ => rfl)
    (fun pre W => (((∃ v, Boxed W w.heap.size 53 v ∧ W.ownsRow w.heap.size 24 7 v pre.length (cellsOf pre) ∧ (v = .slice none 0 0 ↔ pre = [])) ∧ Boxed W (w.heap.size + 1) 3 (.int .i64 (endAt pre))) ∧ Boxed W (w.heap.size + 1 + 1) 44 (.slice A n c)) ∧ Below w.heap.size w W)
    (fun _ _ _ => False)
    (OwnFrom.and (OwnFrom.and (OwnFrom.and (Own.from (holdsRow_own w.heap.size w.heap.size 53 24 7 (fun pre : List (Int × Insn) => pre.length) (fun pre => cellsOf pre) (fun pre v => v = .slice none 0 0 ↔ pre = [])) _) (Own.from (boxed_own _ _ _) _)) (Own.from (boxed_own _ _ _) _)) (ownFrom_below (Nat.le_refl _) (by omega)))
    (fun _ _ _ _ _ hs _ _ => hs)
    ⟨⟨⟨⟨_, bO, World.ownsRow_nil _ _ _ _, by simp⟩, bT⟩, bB⟩, hB0⟩
    (fun x a' W => ∃ Bx, w.heap.size + 2 < Bx ∧ Blk W Bx 24 x.2.cs ∧ a' = { tmps := #[.slice A n c, undef, .slice none 0 0, .int .i64 0, .int .i64 0, .pointer (some ⟨w.heap.size, 0, none⟩), .pointer (some ⟨w.heap.size + 1, 0, none⟩), .int .i64 x.1, .pointer (some ⟨Bx, 0, none⟩), .slice A n c, .func (.func 133) #[] #[.pointer (some ⟨w.heap.size + 1 + 1, 0, none⟩)], .int .i64 x.1, .agg x.2.cs, undef, undef, undef, undef, undef, undef, undef, undef, undef, undef, undef], defers := [] })
    (fun x a' _ X Y row hs hg hr => by obtain ⟨Bx, h1, h2, h3⟩ := hs; exact ⟨Bx, h1, blk_own Bx 24 x.2.cs () X Y row h2 hg (fun r e => (hr r e).2), h3⟩)
    ?assign ?body ?done ?stop
  case hKb =>
    intro W k o o' hk ho hoc _
    refine ⟨belowK_b (w := w) (Nat.le_refl _) W k o o' (by omega) ho hoc ‹_›, ?_⟩
    exact (belowK_b (w := W0) (Nat.le_refl _) W k o o' hk ho hoc ‹_›).cell (p := ⟨w.heap.size + 1 + 1, 0, none⟩) (by show w.heap.size + 1 + 1 < W0.heap.size; omega)
  case assign =>
    rintro i pre ⟨p, x⟩ W K ⟨⟨⟨⟨v, hv, hrow, hnil⟩, hT⟩, hBb⟩, hB⟩ hK
    simp only [encI, Insn.cs]
    gi_wp2
    exact hK _ _ ((KeepsOthers.alloc _ _).from _) ⟨(Below.refl _ W).alloc hB.size _, ((Below.refl W.heap.size W).alloc (Nat.le_refl _) _).cell (p := ⟨w.heap.size + 1 + 1, 0, none⟩) hBb.lt⟩
      ⟨⟨⟨⟨v, hv.alloc _, hrow.alloc _, hnil⟩, hT.alloc _⟩, hBb.alloc _⟩, hB.alloc hB.size _⟩ ⟨W.heap.size, hBb.lt, Blk.new W 24 _, rfl⟩
  case body =>
    rintro i pre ⟨p, x⟩ a' W hl' _ ⟨⟨⟨⟨v, hv, hrow, hnil⟩, hT⟩, hBb⟩, hB⟩ ⟨Bx, hBx, bX, rfl⟩ hlt
    have cV := hv.cell
    have cT := hT.cell
    simp only [Insn.cs] at bX ⊢
    obtain ⟨d0, d1, d2, d3, d4, d5, d6, f0, f1, f2, f3, f4, f5, f6⟩ := bX.facts7
    gi_wp2_with (gi_at_builtin; refine wpListIn_append_own _ rfl _ _ 53 rfl w.heap.size 24 i0 _ 7 56 Tryz.underlying53 hi hz0 hz1 hz2 rfl (by decide) _ _ _ rfl (hrow.alloc _) ⟨W.heap.size, 0, none⟩ 1 1 [.int .i64 x.op, .int .i64 x.a, .int .i64 x.b, .int .i64 x.c, .int .i64 x.d, .int .i64 x.k, .int .u32 x.i] rfl rfl (cells_of_blk (Blk.new _ 24 _) _ rfl) (by simp [Value.oneCell']) (by simp [maxLen]; omega) (by omega) (by have := hB.size; simp; omega) ?_; intro v' w1 hown' hgrow _; obtain ⟨g', cap', rfl⟩ := ownsRow_succ hown'; obtain ⟨⟨hv1, ha1⟩, hv2, ha2, hb2, hr2, hk2, hbb2⟩ := list_round (a' := .int .i64 p) hv hT hBb (by omega) (by omega) (by omega) hrow hB.size (Nat.le_refl _) (by omega) hown' hgrow; have hc1 := hv1.cell; have hf1 := hv1.frozen; have hc2 := ha1.cell; have hf2 := ha1.frozen)
    exact ⟨hk2.from _, ⟨hbb2, by rw [hb2.cell, hBb.cell]⟩, ⟨⟨⟨_, hv2, by rw [cellsOf_snoc]; simpa [Insn.cs] using hr2, by simp⟩, by rw [endAt_snoc]; exact ha2⟩, hb2⟩, hB.trans hbb2⟩
  case done =>
    rintro D ys W hD rfl ⟨⟨⟨⟨v, hv, hrow, hnil⟩, hT⟩, hBb⟩, hB⟩ hK
    have hc := hv.cell
    have hc2 := hT.cell
    generalize insns n 0 l = ps at *
    gi_wp2
    · have hmx : Tryz.prog.follows .mixedOrders = true := by kernel_rfl
      refine wpIn_wide.2 ?_
      go_region
      all_goals gi_wp2
      all_goals (refine ⟨by simp, .inl ⟨_, _, rfl, run_takeDeferred hK, ?_⟩⟩)
      all_goals (refine ⟨_, results_tmp3 rfl _ _ _, ?_⟩)
      have hlt : endAt ps < n := by assumption
      refine ⟨hB.drew.trans (belowK_b (w := w) (Nat.le_refl _) W.drew D _ _ (by omega) hK rfl rfl), ?_⟩
      rw [if_pos hlt]
      rfl
    · refine ⟨by simp, .inl ⟨_, _, rfl, run_takeDeferred hK, ?_⟩⟩
      refine ⟨_, results_tmp3 rfl _ _ _, ?_⟩
      have hlt : ¬ endAt ps < n := by omega
      refine ⟨hB.trans (belowK_b (w := w) (Nat.le_refl _) W D _ _ (by omega) hK rfl rfl), ?_⟩
      rw [if_neg hlt]
      exact ⟨v, rfl, ownsRow_putObj hrow _ hK rfl, hnil⟩
  case stop =>
    rintro D c pre W _ _ h _
    exact h.elim
end Go.Proofs.YtdkclapinedgiaaGreatDoor
