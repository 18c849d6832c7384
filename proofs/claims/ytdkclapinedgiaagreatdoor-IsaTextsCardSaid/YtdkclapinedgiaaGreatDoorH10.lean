/- Contract: Parse of package isa. -/
import Derived.Test.YtdkclapinedgiaaGreatDoorH9
namespace Go.Proofs.YtdkclapinedgiaaGreatDoor
open Go.RowKit

/-- The instruction with a text, and the error. -/
def parseOf (s : List UInt8) : Insn × Int :=
  match parsedOf s with
  | some x => if x.valid = true ∧ textL x = s then (x, 0) else (insn0, 4)
  | none => (insn0, 4)
def ParsePost (w : World) (p : Insn × Int) (e : Ending) (w' : World) : Prop := e = .returned (.tuple #[.agg p.1.cs, .int .i64 p.2]) ∧ Below w.heap.size w w'
theorem insn0_cs : insn0.cs = #[.int .i64 0, .int .i64 0, .int .i64 0, .int .i64 0, .int .i64 0, .int .i64 0, .int .u32 0] := rfl

set_option maxRecDepth 100000 in
set_option maxHeartbeats 4000000 in
theorem parse_none (s : List UInt8) (hs : s.length ≤ 1000000) (hix : ∀ g ∈ given s, IdxOk (inner g) (signAt g)) (w : World) (he : Env w) (hp : parsedOf s = none) : Calls Tryz.prog 18 #[.string ⟨s.toArray⟩] w (ParsePost w (insn0, 4)) := by
  have HE := Lib.hid (below_env he)
  have HP := Lib.hid (fun W hW => parsed_any s hs hix W hW)
  rw [hp] at HP
  clear hs hix he hp
  go_enter Tryz.func18, Tryz.ntmps18
  go_wp2_with fail
  refine (HP.out _ (HE.out _ ((Below.refl _ w).alloc (Nat.le_refl _) _))).mono ?_
  rintro e w1 ⟨x, is, rfl, hxi, rfl, hb⟩
  have HB1 := Lib.hid (((Below.refl _ w).alloc (Nat.le_refl _) _).call hb (by simp))
  have HK1 := Lib.hid ((Blk.new w 24 insn0.cs).call hb)
  have hz1 := HK1.out.lt
  have hz2 := HB1.out.size
  have HXI := Lib.hid hxi
  have HT := Lib.hid (fun W hW => text_any x hxi W hW)
  clear hb
  unfold Insn.cs at HT ⊢
  go_wp2_with fail
  refine (HT.out _ (HE.out _ (HB1.out.alloc HB1.out.size _))).mono ?_
  rintro e w2 ⟨rfl, hb2⟩
  have HB2 := Lib.hid ((HB1.out.alloc HB1.out.size _).call hb2 (by simp; omega))
  have HX2 := Lib.hid ((Blk.new w1 24 #[.int .i64 x.op, .int .i64 x.a, .int .i64 x.b, .int .i64 x.c, .int .i64 x.d, .int .i64 x.k, .int .u32 x.i]).call hb2)
  have hK2 := (HK1.out.alloc (.cells #[.int .i64 x.op, .int .i64 x.a, .int .i64 x.b, .int .i64 x.c, .int .i64 x.d, .int .i64 x.k, .int .u32 x.i] 24)).call hb2
  have HK2 := Lib.hid hK2
  obtain ⟨c0, c1, c2, c3, c4, c5, c6, f0, f1, f2, f3, f4, f5, f6⟩ := hK2.facts7
  obtain ⟨d0, d1, d2, d3, d4, d5, d6, e0, e1, e2, e3, e4, e5, e6⟩ := HX2.out.facts7
  have hz3 := HK2.out.lt
  have hz4 := HX2.out.lt
  clear hb2 HB1 HK1 hK2
  generalize (if x.valid = true then textL x else []) = t
  generalize (if x.valid = true then (0 : Int) else 6) = er
  go_wp2
  exact bodyPost_ret (results_24_2 Tryz.results18 rfl (HK2.out.seven _ _ _ _ _ _ _)) rfl ⟨rfl, below_seven HB2.out (Nat.le_refl _) _ _ _ _ _ _ _⟩
set_option maxRecDepth 100000 in
set_option maxHeartbeats 4000000 in
theorem parse_bad (s : List UInt8) (hs : s.length ≤ 1000000) (hix : ∀ g ∈ given s, IdxOk (inner g) (signAt g)) (w : World) (he : Env w) (y : Insn) (hp : parsedOf s = some y) (hv : y.valid = false) : Calls Tryz.prog 18 #[.string ⟨s.toArray⟩] w (ParsePost w (insn0, 4)) := by
  have HE := Lib.hid (below_env he)
  have HP := Lib.hid (fun W hW => parsed_any s hs hix W hW)
  rw [hp] at HP
  have HV := Lib.hid hv
  clear hv
  clear hs hix he hp
  go_enter Tryz.func18, Tryz.ntmps18
  go_wp2_with fail
  refine (HP.out _ (HE.out _ ((Below.refl _ w).alloc (Nat.le_refl _) _))).mono ?_
  rintro e w1 ⟨x, is, rfl, hxi, ⟨rfl, rfl⟩, hb⟩
  have HB1 := Lib.hid (((Below.refl _ w).alloc (Nat.le_refl _) _).call hb (by simp))
  have HK1 := Lib.hid ((Blk.new w 24 insn0.cs).call hb)
  have hz1 := HK1.out.lt
  have hz2 := HB1.out.size
  have HXI := Lib.hid hxi
  have HT := Lib.hid (show ∀ W, Env W → Calls Tryz.prog 16 #[.agg x.cs] W fun e w' => e = .returned (.tuple #[.string ⟨([] : List UInt8).toArray⟩, .int .i64 6]) ∧ Below W.heap.size W w' from fun W hW => (text_any x HXI.out W hW).mono fun e w' h => by
    unfold TextOf at h; rw [HV.out] at h; exact h)
  clear hb
  unfold Insn.cs at HT ⊢
  go_wp2_with fail
  refine (HT.out _ (HE.out _ (HB1.out.alloc HB1.out.size _))).mono ?_
  rintro e w2 ⟨rfl, hb2⟩
  have HB2 := Lib.hid ((HB1.out.alloc HB1.out.size _).call hb2 (by simp; omega))
  have HX2 := Lib.hid ((Blk.new w1 24 #[.int .i64 x.op, .int .i64 x.a, .int .i64 x.b, .int .i64 x.c, .int .i64 x.d, .int .i64 x.k, .int .u32 x.i]).call hb2)
  have hK2 := (HK1.out.alloc (.cells #[.int .i64 x.op, .int .i64 x.a, .int .i64 x.b, .int .i64 x.c, .int .i64 x.d, .int .i64 x.k, .int .u32 x.i] 24)).call hb2
  have HK2 := Lib.hid hK2
  obtain ⟨c0, c1, c2, c3, c4, c5, c6, f0, f1, f2, f3, f4, f5, f6⟩ := hK2.facts7
  obtain ⟨d0, d1, d2, d3, d4, d5, d6, e0, e1, e2, e3, e4, e5, e6⟩ := HX2.out.facts7
  have hz3 := HK2.out.lt
  have hz4 := HX2.out.lt
  clear hb2 HB1 HK1 hK2
  go_wp2
  exact bodyPost_ret (results_24_2 Tryz.results18 rfl (HK2.out.seven _ _ _ _ _ _ _)) rfl ⟨rfl, below_seven HB2.out (Nat.le_refl _) _ _ _ _ _ _ _⟩
set_option maxRecDepth 100000 in
set_option maxHeartbeats 4000000 in
theorem parse_other (s : List UInt8) (hs : s.length ≤ 1000000) (hix : ∀ g ∈ given s, IdxOk (inner g) (signAt g)) (w : World) (he : Env w) (y : Insn) (hp : parsedOf s = some y) (hv : y.valid = true) (hne : ¬ textL y = s) : Calls Tryz.prog 18 #[.string ⟨s.toArray⟩] w (ParsePost w (insn0, 4)) := by
  have HE := Lib.hid (below_env he)
  have HP := Lib.hid (fun W hW => parsed_any s hs hix W hW)
  rw [hp] at HP
  have HV := Lib.hid hv
  have HNE := Lib.hid hne
  clear hv hne
  clear hs hix he hp
  go_enter Tryz.func18, Tryz.ntmps18
  go_wp2_with fail
  refine (HP.out _ (HE.out _ ((Below.refl _ w).alloc (Nat.le_refl _) _))).mono ?_
  rintro e w1 ⟨x, is, rfl, hxi, ⟨rfl, rfl⟩, hb⟩
  have HB1 := Lib.hid (((Below.refl _ w).alloc (Nat.le_refl _) _).call hb (by simp))
  have HK1 := Lib.hid ((Blk.new w 24 insn0.cs).call hb)
  have hz1 := HK1.out.lt
  have hz2 := HB1.out.size
  have HXI := Lib.hid hxi
  have HT := Lib.hid (show ∀ W, Env W → Calls Tryz.prog 16 #[.agg x.cs] W fun e w' => e = .returned (.tuple #[.string ⟨(textL x).toArray⟩, .int .i64 0]) ∧ Below W.heap.size W w' from fun W hW => (text_any x HXI.out W hW).mono fun e w' h => by
    unfold TextOf at h; rw [HV.out] at h; exact h)
  generalize textL x = t at *
  have hq : (t == s) = false := by simpa using HNE.out
  have hq2 : (t != s) = true := by simpa using HNE.out
  clear hb
  unfold Insn.cs at HT ⊢
  go_wp2_with fail
  refine (HT.out _ (HE.out _ (HB1.out.alloc HB1.out.size _))).mono ?_
  rintro e w2 ⟨rfl, hb2⟩
  have HB2 := Lib.hid ((HB1.out.alloc HB1.out.size _).call hb2 (by simp; omega))
  have HX2 := Lib.hid ((Blk.new w1 24 #[.int .i64 x.op, .int .i64 x.a, .int .i64 x.b, .int .i64 x.c, .int .i64 x.d, .int .i64 x.k, .int .u32 x.i]).call hb2)
  have hK2 := (HK1.out.alloc (.cells #[.int .i64 x.op, .int .i64 x.a, .int .i64 x.b, .int .i64 x.c, .int .i64 x.d, .int .i64 x.k, .int .u32 x.i] 24)).call hb2
  have HK2 := Lib.hid hK2
  obtain ⟨c0, c1, c2, c3, c4, c5, c6, f0, f1, f2, f3, f4, f5, f6⟩ := hK2.facts7
  obtain ⟨d0, d1, d2, d3, d4, d5, d6, e0, e1, e2, e3, e4, e5, e6⟩ := HX2.out.facts7
  have hz3 := HK2.out.lt
  have hz4 := HX2.out.lt
  clear hb2 HB1 HK1 hK2
  trace_state
  go_wp2
  exact bodyPost_ret (results_24_2 Tryz.results18 rfl (HK2.out.seven _ _ _ _ _ _ _)) rfl ⟨rfl, below_seven HB2.out (Nat.le_refl _) _ _ _ _ _ _ _⟩
set_option maxRecDepth 100000 in
set_option maxHeartbeats 4000000 in
theorem parse_same (s : List UInt8) (hs : s.length ≤ 1000000) (hix : ∀ g ∈ given s, IdxOk (inner g) (signAt g)) (w : World) (he : Env w) (y : Insn) (hp : parsedOf s = some y) (hv : y.valid = true) (heq : textL y = s) : Calls Tryz.prog 18 #[.string ⟨s.toArray⟩] w (ParsePost w (y, 0)) := by
  have HE := Lib.hid (below_env he)
  have HP := Lib.hid (fun W hW => parsed_any s hs hix W hW)
  rw [hp] at HP
  have HV := Lib.hid hv
  have HEQ := Lib.hid heq
  clear hv heq
  clear hs hix he hp
  go_enter Tryz.func18, Tryz.ntmps18
  go_wp2_with fail
  refine (HP.out _ (HE.out _ ((Below.refl _ w).alloc (Nat.le_refl _) _))).mono ?_
  rintro e w1 ⟨x, is, rfl, hxi, ⟨rfl, rfl⟩, hb⟩
  have HB1 := Lib.hid (((Below.refl _ w).alloc (Nat.le_refl _) _).call hb (by simp))
  have HK1 := Lib.hid ((Blk.new w 24 insn0.cs).call hb)
  have hz1 := HK1.out.lt
  have hz2 := HB1.out.size
  have HXI := Lib.hid hxi
  have HT := Lib.hid (show ∀ W, Env W → Calls Tryz.prog 16 #[.agg x.cs] W fun e w' => e = .returned (.tuple #[.string ⟨s.toArray⟩, .int .i64 0]) ∧ Below W.heap.size W w' from fun W hW => (text_any x HXI.out W hW).mono fun e w' h => by
    unfold TextOf at h; rw [HV.out, if_pos rfl, if_pos rfl, HEQ.out] at h; exact h)
  clear hb
  unfold Insn.cs at HT ⊢
  go_wp2_with fail
  refine (HT.out _ (HE.out _ (HB1.out.alloc HB1.out.size _))).mono ?_
  rintro e w2 ⟨rfl, hb2⟩
  have HB2 := Lib.hid ((HB1.out.alloc HB1.out.size _).call hb2 (by simp; omega))
  have HX2 := Lib.hid ((Blk.new w1 24 #[.int .i64 x.op, .int .i64 x.a, .int .i64 x.b, .int .i64 x.c, .int .i64 x.d, .int .i64 x.k, .int .u32 x.i]).call hb2)
  have hK2 := (HK1.out.alloc (.cells #[.int .i64 x.op, .int .i64 x.a, .int .i64 x.b, .int .i64 x.c, .int .i64 x.d, .int .i64 x.k, .int .u32 x.i] 24)).call hb2
  have HK2 := Lib.hid hK2
  obtain ⟨c0, c1, c2, c3, c4, c5, c6, f0, f1, f2, f3, f4, f5, f6⟩ := hK2.facts7
  obtain ⟨d0, d1, d2, d3, d4, d5, d6, e0, e1, e2, e3, e4, e5, e6⟩ := HX2.out.facts7
  have hz3 := HK2.out.lt
  have hz4 := HX2.out.lt
  clear hb2 HB1 HK1 hK2
  go_wp2
  exact bodyPost_ret (results_24_2 Tryz.results18 rfl (HK2.out.seven _ _ _ _ _ _ _)) rfl ⟨rfl, below_seven HB2.out (Nat.le_refl _) _ _ _ _ _ _ _⟩

theorem parse_any (s : List UInt8) (hs : s.length ≤ 1000000) (hix : ∀ g ∈ given s, IdxOk (inner g) (signAt g)) (w : World) (he : Env w) : Calls Tryz.prog 18 #[.string ⟨s.toArray⟩] w (ParsePost w (parseOf s)) := by
  unfold parseOf
  cases hp : parsedOf s with
  | none => exact parse_none s hs hix w he hp
  | some y =>
    by_cases hv : y.valid = true
    · by_cases ht : textL y = s
      · simp only [if_pos (And.intro hv ht)]
        exact parse_same s hs hix w he y hp hv ht
      · simp only [if_neg (fun h : y.valid = true ∧ textL y = s => ht h.2)]
        exact parse_other s hs hix w he y hp hv ht
    · simp only [if_neg (fun h : y.valid = true ∧ textL y = s => hv h.1)]
      exact parse_bad s hs hix w he y hp (by simpa using hv)
end Go.Proofs.YtdkclapinedgiaaGreatDoor
