/- Contracts: what reads the operands: numbers. -/
import Derived.Test.YtdkclapinedgiaaGreatDoorH4
import Derived.Test.YtdkclapinedgiaaGreatDoorG3
import Derived.Lib.AtoiAllCases
namespace Go.Proofs.YtdkclapinedgiaaGreatDoor
open Go.RowKit

/-- All old blocks but b are as they were. -/
structure Beside (b : Nat) (w w' : World) : Prop where
  os : w'.os = w.os
  tape : w'.tape = w.tape
  output : w'.output = w.output
  size : w.heap.size ≤ w'.heap.size
  block : ∀ k, k < w.heap.size → k ≠ b → w'.heap[k]? = w.heap[k]?
theorem Beside.refl (b : Nat) (w : World) : Beside b w w := ⟨rfl, rfl, rfl, Nat.le_refl _, fun _ _ _ => rfl⟩
theorem Beside.trans {b : Nat} {w w1 w2 : World} (h : Beside b w w1) (k : Beside b w1 w2) : Beside b w w2 :=
  ⟨k.os.trans h.os, k.tape.trans h.tape, k.output.trans h.output, Nat.le_trans h.size k.size, fun i hi hn => (k.block i (Nat.lt_of_lt_of_le hi h.size) hn).trans (h.block i hi hn)⟩
theorem _root_.Go.RowKit.Below.beside {w w' : World} (h : Below w.heap.size w w') (b : Nat) : Beside b w w' := ⟨h.os, h.tape, h.output, h.size, fun k hk _ => h.block k hk⟩
theorem Beside.setCell {b : Nat} {w w' : World} (h : Beside b w w') (j : Nat) (v : Value) : Beside b w (w'.setCell ⟨b, j, none⟩ v) :=
  h.trans ⟨rfl, rfl, rfl, by simp [World.setCell], fun k _ hn => Below.heap_setCell _ _ _ _ hn⟩
theorem Beside.below {b B : Nat} {w w' : World} (h : Beside b w w') (hB : B ≤ b) (hBw : B ≤ w.heap.size) : Below B w w' :=
  ⟨h.os, h.tape, h.output, h.size, fun k hk => h.block k (by omega) (by omega)⟩
theorem Beside.blk {b g t : Nat} {cs : Array Value} {w w' : World} (h : Beside b w w') (hb : Blk w g t cs) (hn : g ≠ b) : Blk w' g t cs := (h.block g hb.lt hn).trans hb

def RdPost (b : Nat) (w : World) (o : Option Insn) (e : Ending) (w' : World) : Prop :=
  ∃ x' : Insn, (match o with | some y => e = .returned (.tuple #[]) ∧ x' = y | none => e = .panicked wrongs) ∧ Blk w' b 24 x'.cs ∧ x'.In ∧ Beside b w w'
theorem numOf_in {s p : List UInt8} {v : Int} (h : numOf s p = some v) : -9223372036854775808 ≤ v ∧ v ≤ 9223372036854775807 := by
  unfold numOf at h
  split at h
  · split at h
    · rename_i u hu
      injection h with h
      subst h
      exact Lib.atoiAll_bounds hu
    · cases h
  · cases h

set_option maxHeartbeats 2000000 in
theorem rd142 (g : List UInt8) (hg : g.length ≤ 1000000) (x : Insn) (hi : x.In) (b : Nat) (w : World) (he : Env w) (hx : Blk w b 24 x.cs) :
    Calls Tryz.prog 142 #[.string ⟨g.toArray⟩, .pointer (some ⟨b, 0, none⟩)] w (RdPost b w ((numOf g [114]).map fun v => { x with a := v })) := by
  have HN := Lib.hid (number_any g [114] hg w he)
  have HV := Lib.hid (fun v h => numOf_in (s := g) (p := [114]) (v := v) h)
  have HX := Lib.hid hx
  have HI := Lib.hid hi
  have hlt := hx.lt
  have c := (hx.cell 1).trans rfl
  have f := hx.frozen 1
  clear he hx hi hg
  generalize numOf g [114] = o at *
  rcases o with _ | v
  · go_enter Tryz.func142, Tryz.ntmps142
    go_wp2_with (go_at_call 143; refine HN.out.mono ?_; rintro e w1 ⟨rfl, hb⟩)
    exact ⟨rfl, x, rfl, HX.out.call hb, HI.out, hb.beside b⟩
  · have hv := HV.out v rfl
    have HVV := Lib.hid hv
    clear hv
    go_enter Tryz.func142, Tryz.ntmps142
    go_wp2_with (go_at_call 143; refine HN.out.mono ?_; rintro e w1 ⟨rfl, hb⟩; obtain ⟨hc1, hf1⟩ := bcell hb)
    go_end0
    have hi := HI.out
    have hv := HVV.out
    refine ⟨_, ⟨rfl, rfl⟩, ?_, ⟨hi.op, hv, hi.b, hi.c, hi.d, hi.k, hi.i⟩, (hb.beside b).setCell _ _⟩
    exact (HX.out.call hb).set_ 1 _

set_option maxHeartbeats 2000000 in
theorem rd144 (g : List UInt8) (hg : g.length ≤ 1000000) (x : Insn) (hi : x.In) (b : Nat) (w : World) (he : Env w) (hx : Blk w b 24 x.cs) :
    Calls Tryz.prog 144 #[.string ⟨g.toArray⟩, .pointer (some ⟨b, 0, none⟩)] w (RdPost b w ((numOf g [114]).map fun v => { x with b := v })) := by
  have HN := Lib.hid (number_any g [114] hg w he)
  have HV := Lib.hid (fun v h => numOf_in (s := g) (p := [114]) (v := v) h)
  have HX := Lib.hid hx
  have HI := Lib.hid hi
  have hlt := hx.lt
  have c := (hx.cell 2).trans rfl
  have f := hx.frozen 2
  clear he hx hi hg
  generalize numOf g [114] = o at *
  rcases o with _ | v
  · go_enter Tryz.func144, Tryz.ntmps144
    go_wp2_with (go_at_call 143; refine HN.out.mono ?_; rintro e w1 ⟨rfl, hb⟩)
    exact ⟨rfl, x, rfl, HX.out.call hb, HI.out, hb.beside b⟩
  · have hv := HV.out v rfl
    have HVV := Lib.hid hv
    clear hv
    go_enter Tryz.func144, Tryz.ntmps144
    go_wp2_with (go_at_call 143; refine HN.out.mono ?_; rintro e w1 ⟨rfl, hb⟩; obtain ⟨hc1, hf1⟩ := bcell hb)
    go_end0
    have hi := HI.out
    have hv := HVV.out
    refine ⟨_, ⟨rfl, rfl⟩, ?_, ⟨hi.op, hi.a, hv, hi.c, hi.d, hi.k, hi.i⟩, (hb.beside b).setCell _ _⟩
    exact (HX.out.call hb).set_ 2 _

set_option maxHeartbeats 2000000 in
theorem rd145 (g : List UInt8) (hg : g.length ≤ 1000000) (x : Insn) (hi : x.In) (b : Nat) (w : World) (he : Env w) (hx : Blk w b 24 x.cs) :
    Calls Tryz.prog 145 #[.string ⟨g.toArray⟩, .pointer (some ⟨b, 0, none⟩)] w (RdPost b w ((numOf g [114]).map fun v => { x with c := v })) := by
  have HN := Lib.hid (number_any g [114] hg w he)
  have HV := Lib.hid (fun v h => numOf_in (s := g) (p := [114]) (v := v) h)
  have HX := Lib.hid hx
  have HI := Lib.hid hi
  have hlt := hx.lt
  have c := (hx.cell 3).trans rfl
  have f := hx.frozen 3
  clear he hx hi hg
  generalize numOf g [114] = o at *
  rcases o with _ | v
  · go_enter Tryz.func145, Tryz.ntmps145
    go_wp2_with (go_at_call 143; refine HN.out.mono ?_; rintro e w1 ⟨rfl, hb⟩)
    exact ⟨rfl, x, rfl, HX.out.call hb, HI.out, hb.beside b⟩
  · have hv := HV.out v rfl
    have HVV := Lib.hid hv
    clear hv
    go_enter Tryz.func145, Tryz.ntmps145
    go_wp2_with (go_at_call 143; refine HN.out.mono ?_; rintro e w1 ⟨rfl, hb⟩; obtain ⟨hc1, hf1⟩ := bcell hb)
    go_end0
    have hi := HI.out
    have hv := HVV.out
    refine ⟨_, ⟨rfl, rfl⟩, ?_, ⟨hi.op, hi.a, hi.b, hv, hi.d, hi.k, hi.i⟩, (hb.beside b).setCell _ _⟩
    exact (HX.out.call hb).set_ 3 _

set_option maxHeartbeats 2000000 in
theorem rd146 (g : List UInt8) (hg : g.length ≤ 1000000) (x : Insn) (hi : x.In) (b : Nat) (w : World) (he : Env w) (hx : Blk w b 24 x.cs) :
    Calls Tryz.prog 146 #[.string ⟨g.toArray⟩, .pointer (some ⟨b, 0, none⟩)] w (RdPost b w ((numOf g [118]).map fun v => { x with a := v })) := by
  have HN := Lib.hid (number_any g [118] hg w he)
  have HV := Lib.hid (fun v h => numOf_in (s := g) (p := [118]) (v := v) h)
  have HX := Lib.hid hx
  have HI := Lib.hid hi
  have hlt := hx.lt
  have c := (hx.cell 1).trans rfl
  have f := hx.frozen 1
  clear he hx hi hg
  generalize numOf g [118] = o at *
  rcases o with _ | v
  · go_enter Tryz.func146, Tryz.ntmps146
    go_wp2_with (go_at_call 143; refine HN.out.mono ?_; rintro e w1 ⟨rfl, hb⟩)
    exact ⟨rfl, x, rfl, HX.out.call hb, HI.out, hb.beside b⟩
  · have hv := HV.out v rfl
    have HVV := Lib.hid hv
    clear hv
    go_enter Tryz.func146, Tryz.ntmps146
    go_wp2_with (go_at_call 143; refine HN.out.mono ?_; rintro e w1 ⟨rfl, hb⟩; obtain ⟨hc1, hf1⟩ := bcell hb)
    go_end0
    have hi := HI.out
    have hv := HVV.out
    refine ⟨_, ⟨rfl, rfl⟩, ?_, ⟨hi.op, hv, hi.b, hi.c, hi.d, hi.k, hi.i⟩, (hb.beside b).setCell _ _⟩
    exact (HX.out.call hb).set_ 1 _

set_option maxHeartbeats 2000000 in
theorem rd147 (g : List UInt8) (hg : g.length ≤ 1000000) (x : Insn) (hi : x.In) (b : Nat) (w : World) (he : Env w) (hx : Blk w b 24 x.cs) :
    Calls Tryz.prog 147 #[.string ⟨g.toArray⟩, .pointer (some ⟨b, 0, none⟩)] w (RdPost b w ((numOf g [118]).map fun v => { x with b := v })) := by
  have HN := Lib.hid (number_any g [118] hg w he)
  have HV := Lib.hid (fun v h => numOf_in (s := g) (p := [118]) (v := v) h)
  have HX := Lib.hid hx
  have HI := Lib.hid hi
  have hlt := hx.lt
  have c := (hx.cell 2).trans rfl
  have f := hx.frozen 2
  clear he hx hi hg
  generalize numOf g [118] = o at *
  rcases o with _ | v
  · go_enter Tryz.func147, Tryz.ntmps147
    go_wp2_with (go_at_call 143; refine HN.out.mono ?_; rintro e w1 ⟨rfl, hb⟩)
    exact ⟨rfl, x, rfl, HX.out.call hb, HI.out, hb.beside b⟩
  · have hv := HV.out v rfl
    have HVV := Lib.hid hv
    clear hv
    go_enter Tryz.func147, Tryz.ntmps147
    go_wp2_with (go_at_call 143; refine HN.out.mono ?_; rintro e w1 ⟨rfl, hb⟩; obtain ⟨hc1, hf1⟩ := bcell hb)
    go_end0
    have hi := HI.out
    have hv := HVV.out
    refine ⟨_, ⟨rfl, rfl⟩, ?_, ⟨hi.op, hi.a, hv, hi.c, hi.d, hi.k, hi.i⟩, (hb.beside b).setCell _ _⟩
    exact (HX.out.call hb).set_ 2 _

set_option maxHeartbeats 2000000 in
theorem rd148 (g : List UInt8) (hg : g.length ≤ 1000000) (x : Insn) (hi : x.In) (b : Nat) (w : World) (he : Env w) (hx : Blk w b 24 x.cs) :
    Calls Tryz.prog 148 #[.string ⟨g.toArray⟩, .pointer (some ⟨b, 0, none⟩)] w (RdPost b w ((numOf g [118]).map fun v => { x with c := v })) := by
  have HN := Lib.hid (number_any g [118] hg w he)
  have HV := Lib.hid (fun v h => numOf_in (s := g) (p := [118]) (v := v) h)
  have HX := Lib.hid hx
  have HI := Lib.hid hi
  have hlt := hx.lt
  have c := (hx.cell 3).trans rfl
  have f := hx.frozen 3
  clear he hx hi hg
  generalize numOf g [118] = o at *
  rcases o with _ | v
  · go_enter Tryz.func148, Tryz.ntmps148
    go_wp2_with (go_at_call 143; refine HN.out.mono ?_; rintro e w1 ⟨rfl, hb⟩)
    exact ⟨rfl, x, rfl, HX.out.call hb, HI.out, hb.beside b⟩
  · have hv := HV.out v rfl
    have HVV := Lib.hid hv
    clear hv
    go_enter Tryz.func148, Tryz.ntmps148
    go_wp2_with (go_at_call 143; refine HN.out.mono ?_; rintro e w1 ⟨rfl, hb⟩; obtain ⟨hc1, hf1⟩ := bcell hb)
    go_end0
    have hi := HI.out
    have hv := HVV.out
    refine ⟨_, ⟨rfl, rfl⟩, ?_, ⟨hi.op, hi.a, hi.b, hv, hi.d, hi.k, hi.i⟩, (hb.beside b).setCell _ _⟩
    exact (HX.out.call hb).set_ 3 _

set_option maxHeartbeats 2000000 in
theorem rd152 (g : List UInt8) (hg : g.length ≤ 1000000) (x : Insn) (hi : x.In) (b : Nat) (w : World) (he : Env w) (hx : Blk w b 24 x.cs) :
    Calls Tryz.prog 152 #[.string ⟨g.toArray⟩, .pointer (some ⟨b, 0, none⟩)] w (RdPost b w ((numOf g []).map fun v => { x with d := v })) := by
  have HN := Lib.hid (number_any g [] hg w he)
  have HV := Lib.hid (fun v h => numOf_in (s := g) (p := []) (v := v) h)
  have HX := Lib.hid hx
  have HI := Lib.hid hi
  have hlt := hx.lt
  have c := (hx.cell 4).trans rfl
  have f := hx.frozen 4
  clear he hx hi hg
  generalize numOf g [] = o at *
  rcases o with _ | v
  · go_enter Tryz.func152, Tryz.ntmps152
    go_wp2_with (go_at_call 143; refine HN.out.mono ?_; rintro e w1 ⟨rfl, hb⟩)
    exact ⟨rfl, x, rfl, HX.out.call hb, HI.out, hb.beside b⟩
  · have hv := HV.out v rfl
    have HVV := Lib.hid hv
    clear hv
    go_enter Tryz.func152, Tryz.ntmps152
    go_wp2_with (go_at_call 143; refine HN.out.mono ?_; rintro e w1 ⟨rfl, hb⟩; obtain ⟨hc1, hf1⟩ := bcell hb)
    go_end0
    have hi := HI.out
    have hv := HVV.out
    refine ⟨_, ⟨rfl, rfl⟩, ?_, ⟨hi.op, hi.a, hi.b, hi.c, hv, hi.k, hi.i⟩, (hb.beside b).setCell _ _⟩
    exact (HX.out.call hb).set_ 4 _

set_option maxHeartbeats 2000000 in
theorem rd153 (g : List UInt8) (hg : g.length ≤ 1000000) (x : Insn) (hi : x.In) (b : Nat) (w : World) (he : Env w) (hx : Blk w b 24 x.cs) :
    Calls Tryz.prog 153 #[.string ⟨g.toArray⟩, .pointer (some ⟨b, 0, none⟩)] w (RdPost b w ((numOf g []).map fun v => { x with d := v })) := by
  have HN := Lib.hid (number_any g [] hg w he)
  have HV := Lib.hid (fun v h => numOf_in (s := g) (p := []) (v := v) h)
  have HX := Lib.hid hx
  have HI := Lib.hid hi
  have hlt := hx.lt
  have c := (hx.cell 4).trans rfl
  have f := hx.frozen 4
  clear he hx hi hg
  generalize numOf g [] = o at *
  rcases o with _ | v
  · go_enter Tryz.func153, Tryz.ntmps153
    go_wp2_with (go_at_call 143; refine HN.out.mono ?_; rintro e w1 ⟨rfl, hb⟩)
    exact ⟨rfl, x, rfl, HX.out.call hb, HI.out, hb.beside b⟩
  · have hv := HV.out v rfl
    have HVV := Lib.hid hv
    clear hv
    go_enter Tryz.func153, Tryz.ntmps153
    go_wp2_with (go_at_call 143; refine HN.out.mono ?_; rintro e w1 ⟨rfl, hb⟩; obtain ⟨hc1, hf1⟩ := bcell hb)
    go_end0
    have hi := HI.out
    have hv := HVV.out
    refine ⟨_, ⟨rfl, rfl⟩, ?_, ⟨hi.op, hi.a, hi.b, hi.c, hv, hi.k, hi.i⟩, (hb.beside b).setCell _ _⟩
    exact (HX.out.call hb).set_ 4 _

set_option maxHeartbeats 2000000 in
theorem rd154 (g : List UInt8) (hg : g.length ≤ 1000000) (x : Insn) (hi : x.In) (b : Nat) (w : World) (he : Env w) (hx : Blk w b 24 x.cs) :
    Calls Tryz.prog 154 #[.string ⟨g.toArray⟩, .pointer (some ⟨b, 0, none⟩)] w (RdPost b w ((numOf g []).map fun v => { x with k := v })) := by
  have HN := Lib.hid (number_any g [] hg w he)
  have HV := Lib.hid (fun v h => numOf_in (s := g) (p := []) (v := v) h)
  have HX := Lib.hid hx
  have HI := Lib.hid hi
  have hlt := hx.lt
  have c := (hx.cell 5).trans rfl
  have f := hx.frozen 5
  clear he hx hi hg
  generalize numOf g [] = o at *
  rcases o with _ | v
  · go_enter Tryz.func154, Tryz.ntmps154
    go_wp2_with (go_at_call 143; refine HN.out.mono ?_; rintro e w1 ⟨rfl, hb⟩)
    exact ⟨rfl, x, rfl, HX.out.call hb, HI.out, hb.beside b⟩
  · have hv := HV.out v rfl
    have HVV := Lib.hid hv
    clear hv
    go_enter Tryz.func154, Tryz.ntmps154
    go_wp2_with (go_at_call 143; refine HN.out.mono ?_; rintro e w1 ⟨rfl, hb⟩; obtain ⟨hc1, hf1⟩ := bcell hb)
    go_end0
    have hi := HI.out
    have hv := HVV.out
    refine ⟨_, ⟨rfl, rfl⟩, ?_, ⟨hi.op, hi.a, hi.b, hi.c, hi.d, hv, hi.i⟩, (hb.beside b).setCell _ _⟩
    exact (HX.out.call hb).set_ 5 _
end Go.Proofs.YtdkclapinedgiaaGreatDoor
