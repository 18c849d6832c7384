/- Contract: Text of package isa. -/
import Derived.Test.YtdkclapinedgiaaGreatDoorG6
namespace Go.Proofs.YtdkclapinedgiaaGreatDoor
open Go.RowKit
open Go.Sort (grow)

def TextOf (w : World) (x : Insn) (e : Ending) (w' : World) : Prop :=
  e = .returned (.tuple #[.string ⟨(if x.valid then textL x else []).toArray⟩, .int .i64 (if x.valid then 0 else 6)]) ∧ Below w.heap.size w w'

set_option maxHeartbeats 2000000 in
theorem text_no (x : Insn) (hi : x.In) (hv : x.valid = false) (w : World) : Calls Tryz.prog 16 #[.agg x.cs] w (TextOf w x) := by
  have hh := Lib.hid (fun W => valid_any x W hi.k.1 hi.k.2)
  have HV := Lib.hid hv
  unfold Insn.cs at hh ⊢
  clear hi
  go_enter Tryz.func16, Tryz.ntmps16
  go_wp2_with (go_at_call 56; refine (hh.out _).mono ?_; rintro e w2 ⟨rfl, hb2⟩)
  all_goals
    go_ret2
    exact ⟨by rw [HV.out]; rfl, ((Below.refl _ w).alloc (Nat.le_refl _) _).call hb2 (by simp)⟩

/-- What is known of the world between two rounds. -/
def TextW (w : World) (x : Insn) (r : Nat) (wr : World) : Prop :=
  Blk wr w.heap.size 24 x.cs ∧ wr.heap[r]? = some (.map (mapTab writersTab) writersTab.length) ∧ w.heap.size < r ∧ Below w.heap.size w wr


def Len5 (l : List UInt8 × Bool) : Prop := l.1.length ≤ 5
theorem opnd_len (op : Int) : (opnd op).1.length ≤ 5 := by
  show Len5 (opnd op)
  unfold opnd vecs
  repeat' (refine ite_P (P := Len5) ?_ ?_)
  all_goals (unfold Len5; decide)
theorem run_index_str (l : List UInt8) (k : Nat) (hk : k < l.length) (W : World) : (Instr.index 9 (.string ⟨l.toArray⟩) (.int .i64 (k : Int))).run Tryz.prog W = .ok (.int .u8 (l[k].toNat : Int)) W := by
  rw [run_index_string W 9 ⟨l.toArray⟩ .i64 (k : Int) Tryz.underlying9]
  have h1 : (0 : Int) ≤ k ∧ (k : Int) < (⟨l.toArray⟩ : ByteArray).size := ⟨by omega, by rw [ba_size]; omega⟩
  rw [dif_pos h1]
  simp [ByteArray.getElem_eq_getElem_data]
theorem load_x {W : World} {g : Nat} {x : Insn} (h : Blk W g 24 x.cs) : (loadVar 24 ⟨g, 0, none⟩).run Tryz.prog W = .ok (.agg #[.int .i64 x.op, .int .i64 x.a, .int .i64 x.b, .int .i64 x.c, .int .i64 x.d, .int .i64 x.k, .int .u32 x.i]) W := load24 h

set_option maxRecDepth 100000 in
set_option maxHeartbeats 4000000 in
theorem text_yes (x : Insn) (hi : x.In) (hv : x.valid = true) (w : World) (he : Env w) : Calls Tryz.prog 16 #[.agg x.cs] w (TextOf w x) := by
  have hh := Lib.hid (fun W => (valid_any x W hi.k.1 hi.k.2).mono (fun e w' h => show e = .returned (.bool true) ∧ Below W.heap.size W w' by unfold ValidPost at h; rw [hv] at h; exact h))
  have HV := Lib.hid hv
  have HE := Lib.hid (below_env he)
  have ok := Insn.ok hv
  have hfit := Lib.hid (Insn.fits hv)
  have hix := Lib.hid (fun W => run_index81 x.op (by have := ok.op; omega) (by have := ok.op; omega) W)
  clear he hv ok
  unfold Insn.cs at hh ⊢
  go_enter Tryz.func16, Tryz.ntmps16
  go_wp2_with (go_at_call 56; refine (hh.out _).mono ?_; rintro e w2 ⟨rfl, hb2⟩; obtain ⟨hc, hf⟩ := bcell hb2; have hz : w.heap.size < w2.heap.size := by { have := hb2.size; simp at this; omega })
  refine name_world (fun W => Blk W w.heap.size 24 x.cs ∧ Below w.heap.size w W) _ ⟨(Blk.new w 24 _).call hb2, ((Below.refl _ w).alloc (Nat.le_refl _) _).call hb2 (by simp)⟩ ?_
  clear hc hf hz hb2
  rintro W ⟨hb, hB⟩
  have HB := Lib.hid hb
  have HBB := Lib.hid hB
  have k0 : ∀ d os, (grow (redrawn W d) os).cell? ⟨w.heap.size, 0, none⟩ = some (.int .i64 x.op) := cell_regrown (hb.cell 0)
  have cN : ∀ d os, Calls Tryz.prog 57 #[] (grow (redrawn W d) os) fun e w'' => e = .returned (.agg nameVals) ∧ ∃ p : Regrown, w'' = grow (redrawn W p.d) p.os := fun d os => Calls.regrown_of (names_any _)
  have hx := hix.out
  unfold strV at hx
  refine wp_region_quiet_below mixed (by kernel_rfl) ?_
  repeat (quiet_step (first | exact cN _ _))
  refine wpQuiet_nil ?_
  intro _ hw'
  obtain ⟨⟨dq, osq⟩, hw''⟩ := hw'
  subst hw''
  clear cN k0 hb hB hx
  refine name_on (fun W => Blk W w.heap.size 24 x.cs ∧ Below w.heap.size w W) _ ⟨HB.out.below ((below_regrown W dq osq).mono (Nat.le_refl _)) HB.out.lt, HBB.out.trans ((below_regrown W dq osq).mono HBB.out.size)⟩ ?_
  clear HB HBB
  rintro W2 ⟨hb, hB⟩
  have k0 : W2.cell? ⟨w.heap.size, 0, none⟩ = some (.int .i64 x.op) := hb.cell 0
  have HB := Lib.hid hb
  have HBB := Lib.hid hB
  clear hb hB W
  go_wp2_with (first
    | (go_at_call 58; refine (operands_any _ _).mono ?_; rintro e w' ⟨rfl, rfl⟩)
    | (go_at_call 59; refine (writers_any _).mono ?_; rintro e w3 ⟨r, rfl, hr, hr1, hb3⟩))
  have hl5 := opnd_len x.op
  have HL := Lib.hid (show (opnd x.op).1 = (opnd x.op).1 from rfl)
  generalize hl0 : (opnd x.op).1 = l at *
  replace HL := Lib.hid hl0
  clear hl0
  refine name_world (TextW w x r) _ ⟨HB.out.below hb3 HB.out.lt, hr, by have := HB.out.lt; omega, HBB.out.call hb3 HBB.out.size⟩ ?_
  clear HB HBB hr hr1 hb3 k0
  intro W0 hW0
  go_loopw [4, 25] (fun o i wr => ∃ k : Nat, k ≤ l.length ∧ i = .int .i64 k ∧ o = .string ⟨(textTo x l k).toArray⟩ ∧ TextW w x r wr) (fun _ i _ => l.length - (intOf i).toNat)
  case atStart => exact ⟨0, Nat.zero_le _, rfl, rfl, hW0⟩
  case round =>
    obtain ⟨k, hk, rfl, rfl, hW⟩ := hrel
    clear hW0
    by_cases hlt : k < l.length
    · obtain ⟨f, hf⟩ := writer_of x hi l[k] (hfit.out _ (List.getElem_mem hlt))
      have HW := Lib.hid hW
      have HF := Lib.hid hf
      have hO := textTo_length x hi l k
      have hP := opText_length l[k] x hi
      have hx := hix.out
      have kx := hW.1.cell 0
      have hk0 : (0 : Int) ≤ k := by omega
      have hk1 : (k : Int) < l.length := by omega
      rcases k with _ | k
      · have HT : Hid (textTo x l (0 + 1) = nameOf x.op ++ ([32] : List UInt8) ++ opText l[0] x) := by
          unfold Hid; simp only [textTo, if_true]; simp [hlt]
        have hN := name_len x.op
        have n0 : ¬ 9223372036854775807 < (nameOf x.op).length + 2 := by omega
        have n1 : ¬ 9223372036854775807 < (nameOf x.op).length + 1 := by omega
        have n2 : ¬ 9223372036854775807 < (nameOf x.op).length + 1 + (opText l[0] x).length := by omega
        have k0 : ∀ d os, (grow (redrawn wr d) os).cell? ⟨w.heap.size, 0, none⟩ = some (.int .i64 x.op) := cell_regrown (hW.1.cell 0)
        have cN : ∀ d os, Calls Tryz.prog 57 #[] (grow (redrawn wr d) os) fun e w'' => e = .returned (.agg nameVals) ∧ ∃ p : Regrown, w'' = grow (redrawn wr p.d) p.os := fun d os => Calls.regrown_of (names_any _)
        unfold strV at hx
        unfold textTo
        clear hO hP hW hf kx hN
        go_wp2
        refine wp_region_quiet_below mixed (by kernel_rfl) ?_
        repeat (quiet_step (first | exact cN _ _))
        refine wpQuiet_nil ?_
        intro _ hw'
        obtain ⟨⟨dq, osq⟩, hw''⟩ := hw'
        subst hw''
        clear cN k0 hx
        have hW := HW.out
        have hD := below_regrown wr dq osq
        refine name_on (TextW w x r) _ ⟨hW.1.below hD hW.1.lt, (hD.block r (by have := hW.2.1; rw [Array.getElem?_eq_some_iff] at this; exact this.1)).trans hW.2.1, hW.2.2.1, hW.2.2.2.trans (hD.mono hW.2.2.2.size)⟩ ?_
        clear hW hD HW
        intro wz hV
        have hf := HF.out
        have kl : ∀ d os, (Instr.lookup 83 (.map (some r)) (.int .u8 (l[0].toNat : Int)) false).run Tryz.prog (grow (redrawn wz d) os) = .ok (.func (.func f) #[] #[]) (grow (redrawn wz d) os) := fun d os =>
          run_lookup_tab Tryz.underlying83 _ r _ writersTab (((below_regrown wz d os).block r (by have := hV.2.1; rw [Array.getElem?_eq_some_iff] at this; exact this.1)).trans hV.2.1) _ f HF.out.1
        have x0 : ∀ d os, (grow (redrawn wz d) os).cell? ⟨w.heap.size, 0, none⟩ = some (.int .i64 x.op) := cell_regrown (hV.1.cell 0)
        have x1 : ∀ d os, (grow (redrawn wz d) os).cell? ⟨w.heap.size, 1, none⟩ = some (.int .i64 x.a) := cell_regrown (hV.1.cell 1)
        have x2 : ∀ d os, (grow (redrawn wz d) os).cell? ⟨w.heap.size, 2, none⟩ = some (.int .i64 x.b) := cell_regrown (hV.1.cell 2)
        have x3 : ∀ d os, (grow (redrawn wz d) os).cell? ⟨w.heap.size, 3, none⟩ = some (.int .i64 x.c) := cell_regrown (hV.1.cell 3)
        have x4 : ∀ d os, (grow (redrawn wz d) os).cell? ⟨w.heap.size, 4, none⟩ = some (.int .i64 x.d) := cell_regrown (hV.1.cell 4)
        have x5 : ∀ d os, (grow (redrawn wz d) os).cell? ⟨w.heap.size, 5, none⟩ = some (.int .i64 x.k) := cell_regrown (hV.1.cell 5)
        have x6 : ∀ d os, (grow (redrawn wz d) os).cell? ⟨w.heap.size, 6, none⟩ = some (.int .u32 x.i) := cell_regrown (hV.1.cell 6)
        have cF : ∀ d os, Calls Tryz.prog f #[.agg #[.int .i64 x.op, .int .i64 x.a, .int .i64 x.b, .int .i64 x.c, .int .i64 x.d, .int .i64 x.k, .int .u32 x.i]] (grow (redrawn wz d) os) fun e w'' => e = .returned (.string ⟨(opText l[0] x).toArray⟩) ∧ ∃ p : Regrown, w'' = grow (redrawn wz p.d) p.os := fun d os => Calls.regrown_of (HF.out.2.2 _ (HE.out _ (hV.2.2.2.trans ((below_regrown wz d os).mono hV.2.2.2.size))))
        have eF := hf.2.1
        have kix : ∀ W, (Instr.index 9 (.string ⟨l.toArray⟩) (.int .i64 0)).run Tryz.prog W = .ok (.int .u8 (l[0].toNat : Int)) W := fun W => run_index_str l 0 hlt W
        have HW := Lib.hid hV
        clear hV hf
        go_wp2
        refine wp_region_quiet_below mixed (by kernel_rfl) ?_
        repeat (quiet_step (first | exact cF _ _))
        refine wpQuiet_nil ?_
        intro _ hw'
        obtain ⟨⟨dq, osq⟩, hw''⟩ := hw'
        subst hw''
        clear cF kl kix eF x0 x1 x2 x3 x4 x5 x6
        have hW := HW.out
        have hD := below_regrown wz dq osq
        have hN : TextW w x r (grow (redrawn wz dq) osq) := ⟨hW.1.below hD hW.1.lt, (hD.block r (by have := hW.2.1; rw [Array.getElem?_eq_some_iff] at this; exact this.1)).trans hW.2.1, hW.2.2.1, hW.2.2.2.trans (hD.mono hW.2.2.2.size)⟩
        have HN := Lib.hid hN
        clear hN hW hD HW
        go_wp2
        refine ⟨⟨0 + 1, by omega, by go_num, by show _ = Value.string ⟨(textTo x l (0 + 1)).toArray⟩; rw [HT.out, ← ba_app, ← ba_app], HN.out⟩, by simp [intOf]; omega⟩
      · have HT : Hid (textTo x l (k + 1 + 1) = textTo x l (k + 1) ++ [44, 32] ++ opText l[k+1] x) := by
          unfold Hid; rw [textTo, if_neg (by omega)]; simp [hlt]
        generalize textTo x l (k + 1) = O at *
        have n1 : ¬ 9223372036854775807 < O.length + 2 := by omega
        have n2 : ¬ 9223372036854775807 < O.length + 2 + (opText l[k+1] x).length := by omega
        have hb1 : ((k : Int) + 1 == 0) = false := by simp; omega
        have kl : ∀ d os, (Instr.lookup 83 (.map (some r)) (.int .u8 (l[k+1].toNat : Int)) false).run Tryz.prog (grow (redrawn wr d) os) = .ok (.func (.func f) #[] #[]) (grow (redrawn wr d) os) := fun d os =>
          run_lookup_tab Tryz.underlying83 _ r _ writersTab (((below_regrown wr d os).block r (by have := hW.2.1; rw [Array.getElem?_eq_some_iff] at this; exact this.1)).trans hW.2.1) _ f HF.out.1
        have x0 : ∀ d os, (grow (redrawn wr d) os).cell? ⟨w.heap.size, 0, none⟩ = some (.int .i64 x.op) := cell_regrown (hW.1.cell 0)
        have x1 : ∀ d os, (grow (redrawn wr d) os).cell? ⟨w.heap.size, 1, none⟩ = some (.int .i64 x.a) := cell_regrown (hW.1.cell 1)
        have x2 : ∀ d os, (grow (redrawn wr d) os).cell? ⟨w.heap.size, 2, none⟩ = some (.int .i64 x.b) := cell_regrown (hW.1.cell 2)
        have x3 : ∀ d os, (grow (redrawn wr d) os).cell? ⟨w.heap.size, 3, none⟩ = some (.int .i64 x.c) := cell_regrown (hW.1.cell 3)
        have x4 : ∀ d os, (grow (redrawn wr d) os).cell? ⟨w.heap.size, 4, none⟩ = some (.int .i64 x.d) := cell_regrown (hW.1.cell 4)
        have x5 : ∀ d os, (grow (redrawn wr d) os).cell? ⟨w.heap.size, 5, none⟩ = some (.int .i64 x.k) := cell_regrown (hW.1.cell 5)
        have x6 : ∀ d os, (grow (redrawn wr d) os).cell? ⟨w.heap.size, 6, none⟩ = some (.int .u32 x.i) := cell_regrown (hW.1.cell 6)
        have cF : ∀ d os, Calls Tryz.prog f #[.agg #[.int .i64 x.op, .int .i64 x.a, .int .i64 x.b, .int .i64 x.c, .int .i64 x.d, .int .i64 x.k, .int .u32 x.i]] (grow (redrawn wr d) os) fun e w'' => e = .returned (.string ⟨(opText l[k+1] x).toArray⟩) ∧ ∃ p : Regrown, w'' = grow (redrawn wr p.d) p.os := fun d os => Calls.regrown_of (HF.out.2.2 _ (HE.out _ (hW.2.2.2.trans ((below_regrown wr d os).mono hW.2.2.2.size))))
        have eF := hf.2.1
        have kix : ∀ W, (Instr.index 9 (.string ⟨l.toArray⟩) (.int .i64 ((k : Int) + 1))).run Tryz.prog W = .ok (.int .u8 (l[k+1].toNat : Int)) W := fun W => run_index_str l (k + 1) hlt W
        clear hO hP hW hf hx
        go_wp2
        refine wp_region_quiet_below mixed (by kernel_rfl) ?_
        repeat (quiet_step (first | exact cF _ _))
        refine wpQuiet_nil ?_
        intro _ hw'
        obtain ⟨⟨dq, osq⟩, hw''⟩ := hw'
        subst hw''
        clear cF kl kix eF x0 x1 x2 x3 x4 x5 x6
        have hW := HW.out
        have hD := below_regrown wr dq osq
        have hN : TextW w x r (grow (redrawn wr dq) osq) := ⟨hW.1.below hD hW.1.lt, (hD.block r (by have := hW.2.1; rw [Array.getElem?_eq_some_iff] at this; exact this.1)).trans hW.2.1, hW.2.2.1, hW.2.2.2.trans (hD.mono hW.2.2.2.size)⟩
        have HN := Lib.hid hN
        clear hN hW hD HW
        go_wp2
        refine ⟨⟨k + 1 + 1, by omega, by go_num, by rw [HT.out, ← ba_app, ← ba_app], HN.out⟩, by simp [intOf]; omega⟩
    · have hkl : k = l.length := by omega
      have HK := Lib.hid hkl
      have HT : Hid (textTo x l k = textL x) := by unfold Hid textL; rw [hkl, HL.out]
      have HW := Lib.hid hW
      clear hW hkl
      generalize textTo x l k = O at *
      go_wp2
      go_ret2
      exact ⟨by rw [HV.out, ← HT.out]; rfl, HW.out.2.2.2⟩

/-- Text. -/
theorem text_any (x : Insn) (hi : x.In) (w : World) (he : Env w) : Calls Tryz.prog 16 #[.agg x.cs] w (TextOf w x) := by
  rcases hv : x.valid with _ | _
  · exact text_no x hi hv w
  · exact text_yes x hi hv w he
end Go.Proofs.YtdkclapinedgiaaGreatDoor
