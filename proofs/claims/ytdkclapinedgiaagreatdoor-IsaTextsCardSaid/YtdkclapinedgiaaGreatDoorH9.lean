/- The plain side of 'parsed'; what reads a letter's operand. -/
/- Contract: parsed of package isa. -/
import Derived.Test.YtdkclapinedgiaaGreatDoorH7
import Derived.Test.YtdkclapinedgiaaGreatDoorG6
import Derived.Test.YtdkclapinedgiaaGreatDoorG7

namespace Go.Proofs.YtdkclapinedgiaaGreatDoor
open Go.RowKit

/-- Where a sign stands in the text within brackets. -/
def signAt (g : List UInt8) : Int := Lib.indexAny (inner g) [43, 45]
/-- An instruction with a field that a text of an operand has; none: the reader panics. -/
def readOp (c : UInt8) (g : List UInt8) (x : Insn) : Option Insn :=
  if c = 97 then (numOf g [114]).map fun v => { x with a := v } else if c = 98 then (numOf g [114]).map fun v => { x with b := v } else if c = 99 then (numOf g [114]).map fun v => { x with c := v } else
  if c = 65 then (numOf g [118]).map fun v => { x with a := v } else if c = 66 then (numOf g [118]).map fun v => { x with b := v } else if c = 67 then (numOf g [118]).map fun v => { x with c := v } else
  if c = 100 then some { x with d := strIdx condTab g } else if c = 101 then some { x with d := strIdx extTab g } else if c = 108 then some { x with d := strIdx laneTab g } else
  if c = 119 ∨ c = 115 then (numOf g []).map fun v => { x with d := v } else if c = 107 then (numOf g []).map fun v => { x with k := v } else if c = 105 then (unhexOf g).map fun v => { x with i := v } else
  if c = 110 then nOp g (signAt g) x else mOp g (signAt g) x
/-- An instruction with the fields that texts of operands have. -/
def readAll : List UInt8 → List (List UInt8) → Insn → Option Insn
  | c :: l, g :: gs, x => (readOp c g x).bind (readAll l gs)
  | _, _, x => some x

def Reader (c : UInt8) (g : List UInt8) (f : FuncId) : Prop :=
  readersTab.find? (fun p => p.1 == (c.toNat : Int)) = some ((c.toNat : Int), f) ∧ (∀ args w, (callFunc f args).run Tryz.prog w = .ok (.enter f args) w) ∧
    ∀ (x : Insn) (_ : x.In) (b : Nat) (_ : 12 ≤ b) (w : World) (_ : Env w) (_ : Blk w b 24 x.cs), Calls Tryz.prog f #[.string ⟨g.toArray⟩, .pointer (some ⟨b, 0, none⟩)] w (RdPost b w (readOp c g x))
theorem reader_of (c : UInt8) (hc : c ∈ letters) (g : List UInt8) (hg : g.length ≤ 1000000) (hi : IdxOk (inner g) (signAt g)) : ∃ f, Reader c g f := by
  simp only [letters, List.mem_cons, List.mem_nil_iff, or_false] at hc
  rcases hc with rfl | rfl | rfl | rfl | rfl | rfl | rfl | rfl | rfl | rfl | rfl | rfl | rfl | rfl | rfl
  · exact ⟨142, by decide, enters_of Tryz.func142 (by kernel_rfl) rfl, fun x hx b _ w he hb => rd142 g hg x hx b w he hb⟩
  · exact ⟨144, by decide, enters_of Tryz.func144 (by kernel_rfl) rfl, fun x hx b _ w he hb => rd144 g hg x hx b w he hb⟩
  · exact ⟨145, by decide, enters_of Tryz.func145 (by kernel_rfl) rfl, fun x hx b _ w he hb => rd145 g hg x hx b w he hb⟩
  · exact ⟨146, by decide, enters_of Tryz.func146 (by kernel_rfl) rfl, fun x hx b _ w he hb => rd146 g hg x hx b w he hb⟩
  · exact ⟨147, by decide, enters_of Tryz.func147 (by kernel_rfl) rfl, fun x hx b _ w he hb => rd147 g hg x hx b w he hb⟩
  · exact ⟨148, by decide, enters_of Tryz.func148 (by kernel_rfl) rfl, fun x hx b _ w he hb => rd148 g hg x hx b w he hb⟩
  · exact ⟨149, by decide, enters_of Tryz.func149 (by kernel_rfl) rfl, fun x hx b _ w he hb => rd149 g x hx b w he hb⟩
  · exact ⟨150, by decide, enters_of Tryz.func150 (by kernel_rfl) rfl, fun x hx b _ w he hb => rd150 g x hx b w he hb⟩
  · exact ⟨151, by decide, enters_of Tryz.func151 (by kernel_rfl) rfl, fun x hx b _ w he hb => rd151 g x hx b w he hb⟩
  · exact ⟨152, by decide, enters_of Tryz.func152 (by kernel_rfl) rfl, fun x hx b _ w he hb => rd152 g hg x hx b w he hb⟩
  · exact ⟨153, by decide, enters_of Tryz.func153 (by kernel_rfl) rfl, fun x hx b _ w he hb => rd153 g hg x hx b w he hb⟩
  · exact ⟨154, by decide, enters_of Tryz.func154 (by kernel_rfl) rfl, fun x hx b _ w he hb => rd154 g hg x hx b w he hb⟩
  · exact ⟨155, by decide, enters_of Tryz.func155 (by kernel_rfl) rfl, fun x hx b _ w he hb => rd155 g hg x hx b w he hb⟩
  · exact ⟨157, by decide, enters_of Tryz.func157 (by kernel_rfl) rfl, fun x hx b _ w he hb => rd157 g hg _ hi x hx b w he hb⟩
  · exact ⟨160, by decide, enters_of Tryz.func160 (by kernel_rfl) rfl, fun x hx b h12 w he hb => rd160 g hg _ hi x hx b h12 w he hb⟩

theorem cut_any (s : List UInt8) (hs : s.length ≤ 1000000) (w : World) (he : Env w) :
    Calls Tryz.prog 121 #[.string ⟨s.toArray⟩, .string ⟨#[32]⟩] w fun e w' => e = .returned (.tuple #[.string ⟨(Lib.cut s [32]).1.toArray⟩, .string ⟨(Lib.cut s [32]).2.1.toArray⟩, .bool (Lib.cut s [32]).2.2]) ∧ Below w.heap.size w w' := by
  obtain ⟨m, hm⟩ := he.maxLen
  have h := Tryz.strings_Cut ⟨s.toArray⟩ ⟨[32].toArray⟩ m w (by rw [ba_size]; omega) hm
  rw [show (⟨s.toArray⟩ : ByteArray).data.toList = s by simp, show (⟨([32] : List UInt8).toArray⟩ : ByteArray).data.toList = [32] by simp] at h
  refine h.mono ?_
  rintro e w' ⟨rfl, n, rfl⟩
  exact ⟨rfl, rfl, rfl, rfl, Nat.le_refl _, fun _ _ => rfl⟩

/-- The texts of the operands. -/
def pieces (r : List UInt8) : List (List UInt8) := (Lib.splitB ⟨#[44, 32]⟩ 0 (Lib.countB ⟨r.toArray⟩ ⟨#[44, 32]⟩) ⟨r.toArray⟩).map (·.data.toList)
def SplitPost (w : World) (l : List (List UInt8)) (e : Ending) (w' : World) : Prop :=
  ∃ g, e = .returned (.slice (some ⟨g, 0, none⟩) l.length l.length) ∧ Blk w' g 9 (l.map strV).toArray ∧ w.heap.size ≤ g ∧ Below w.heap.size w w'
theorem split_any (r : List UInt8) (hs : r.length ≤ 1000000) (w : World) (he : Env w) : Calls Tryz.prog 122 #[.string ⟨r.toArray⟩, .string ⟨#[44, 32]⟩] w (SplitPost w (pieces r)) := by
  obtain ⟨m, hm⟩ := he.maxLen
  refine (Tryz.strings_Split ⟨r.toArray⟩ ⟨#[44, 32]⟩ m w (by rw [ba_size]; omega) hm (by decide)).mono ?_
  rintro e w' ⟨rfl, rfl⟩
  have hl : (pieces r).length = Lib.countB ⟨r.toArray⟩ ⟨#[44, 32]⟩ + 1 := by
    unfold pieces
    rw [List.length_map, Lib.splitB_all _ (by decide) _ _ _ rfl]
  refine ⟨w.heap.size, by rw [hl], ?_, Nat.le_refl _, (Below.refl _ w).alloc (Nat.le_refl _) _⟩
  have e : ((Lib.splitB ⟨#[44, 32]⟩ 0 (Lib.countB ⟨r.toArray⟩ ⟨#[44, 32]⟩) ⟨r.toArray⟩).map Value.string) = (pieces r).map strV := by
    unfold pieces strV
    rw [List.map_map]
    apply List.map_congr_left
    intro b _
    simp
  rw [e]
  exact Blk.new w 9 _
end Go.Proofs.YtdkclapinedgiaaGreatDoor

namespace Go.Proofs.YtdkclapinedgiaaGreatDoor
open Go.RowKit

/-- The operands' texts of a line. -/
def given (s : List UInt8) : List (List UInt8) := if (Lib.cut s [32]).2.2 then pieces (Lib.cut s [32]).2.1 else []
/-- The instruction with a text, as far as it can be read. -/
def parsedOf (s : List UInt8) : Option Insn :=
  let op := opOf (Lib.cut s [32]).1
  if op.2 = true ∧ (given s).length = (opnd op.1).1.length then readAll (opnd op.1).1 (given s) { insn0 with op := op.1 } else none
def ParsedPost (w : World) (o : Option Insn) (e : Ending) (w' : World) : Prop :=
  ∃ (x : Insn) (is : Bool), e = .returned (.tuple #[.agg x.cs, .bool is]) ∧ x.In ∧ (match o with | some y => is = true ∧ x = y | none => is = false) ∧ Below w.heap.size w w'

/-- The blocks of the two results. -/
def PS (w : World) (x : Insn) (is : Bool) (W : World) : Prop := Blk W w.heap.size 24 x.cs ∧ Blk W (w.heap.size + 1) 4 #[.bool is] ∧ Below w.heap.size w W
theorem PS.call {w W W' : World} {x : Insn} {is : Bool} (h : PS w x is W) (hb : Below W.heap.size W W') : PS w x is W' :=
  ⟨h.1.call hb, h.2.1.call hb, h.2.2.call hb h.2.2.size⟩
def LetS (l : List UInt8 × Bool) : Prop := ∀ c ∈ l.1, c ∈ letters
theorem Insn.letters_of (op : Int) : ∀ c ∈ (opnd op).1, c ∈ letters := fun c hc => (opnd_fits op c hc).1
theorem piece_len (k : Nat) : ∀ (r : List UInt8) (g : List UInt8), g ∈ Lib.splitK [44, 32] 0 k r → g.length ≤ r.length := by
  induction k with
  | zero => intro r g hg; simp [Lib.splitK] at hg; subst hg; omega
  | succ k ih =>
    intro r g hg
    rw [Lib.splitK] at hg
    split at hg
    · simp at hg; subst hg; omega
    · rw [List.mem_cons] at hg
      rcases hg with rfl | hg
      · simp only [List.length_take]; omega
      · have := ih _ _ hg
        simp only [List.length_drop] at this; omega
theorem pieces_eq (r : List UInt8) : pieces r = Lib.splitK [44, 32] 0 (Lib.countB ⟨r.toArray⟩ ⟨#[44, 32]⟩) r := by
  unfold pieces
  rw [Lib.splitB_data]
theorem cut_len (s : List UInt8) : (Lib.cut s [32]).1.length ≤ s.length ∧ (Lib.cut s [32]).2.1.length ≤ s.length := by
  unfold Lib.cut
  split
  · simp only [List.length_take, List.length_drop]; omega
  · simp

theorem given_len (s : List UInt8) (hs : s.length ≤ 1000000) : ∀ g ∈ given s, g.length ≤ 1000000 := by
  intro g hg
  unfold given at hg
  split at hg
  · rw [pieces_eq] at hg
    have := piece_len _ _ _ hg
    have := cut_len s
    omega
  · simp at hg
theorem PS.start (w : World) : PS w insn0 false ((w.alloc (.cells #[.int .i64 0, .int .i64 0, .int .i64 0, .int .i64 0, .int .i64 0, .int .i64 0, .int .u32 0] 24)).alloc (.cells #[.bool false] 4)) :=
  ⟨(Blk.new w 24 _).alloc _, blk_at _ _ 4 _ (by simp), by (repeat (first | exact Below.refl _ _ | assumption | refine Below.drew ?_ | refine Below.alloc ?_ (by first | exact Nat.le_refl _ | (simp; done) | (simp; omega)) _ | refine Below.call ?_ (by assumption) (by first | exact Nat.le_refl _ | (simp; done) | (simp; omega) | omega)))⟩
theorem PS.ops {w W : World} {is : Bool} (h : PS w insn0 is W) (v : Int) (b : Bool) : PS w { insn0 with op := v } b ((W.setCell ⟨w.heap.size, 0, none⟩ (.int .i64 v)).setCell ⟨w.heap.size + 1, 0, none⟩ (.bool b)) :=
  ⟨(h.1.set_ 0 _).far (by simp) _, (h.2.1.far (by simp) _).set_ 0 _, (h.2.2.setCell (Nat.le_refl _) _).setCell (by simp) _⟩
theorem PS.facts {w W : World} {x : Insn} {is : Bool} (h : PS w x is W) : (W.cell? ⟨w.heap.size, 0, none⟩ = some (.int .i64 x.op) ∧ W.cell? ⟨w.heap.size, 1, none⟩ = some (.int .i64 x.a) ∧ W.cell? ⟨w.heap.size, 2, none⟩ = some (.int .i64 x.b) ∧ W.cell? ⟨w.heap.size, 3, none⟩ = some (.int .i64 x.c) ∧
    W.cell? ⟨w.heap.size, 4, none⟩ = some (.int .i64 x.d) ∧ W.cell? ⟨w.heap.size, 5, none⟩ = some (.int .i64 x.k) ∧ W.cell? ⟨w.heap.size, 6, none⟩ = some (.int .u32 x.i) ∧ W.cell? ⟨w.heap.size + 1, 0, none⟩ = some (.bool is)) ∧
    (W.frozen? ⟨w.heap.size, 0, none⟩ = false ∧ W.frozen? ⟨w.heap.size, 1, none⟩ = false ∧ W.frozen? ⟨w.heap.size, 2, none⟩ = false ∧ W.frozen? ⟨w.heap.size, 3, none⟩ = false ∧ W.frozen? ⟨w.heap.size, 4, none⟩ = false ∧ W.frozen? ⟨w.heap.size, 5, none⟩ = false ∧ W.frozen? ⟨w.heap.size, 6, none⟩ = false ∧ W.frozen? ⟨w.heap.size + 1, 0, none⟩ = false) :=
  ⟨⟨h.1.cell 0, h.1.cell 1, h.1.cell 2, h.1.cell 3, h.1.cell 4, h.1.cell 5, h.1.cell 6, h.2.1.cell 0⟩, h.1.frozen 0, h.1.frozen 1, h.1.frozen 2, h.1.frozen 3, h.1.frozen 4, h.1.frozen 5, h.1.frozen 6, h.2.1.frozen 0⟩

theorem PS.back {w W : World} {x : Insn} {is : Bool} (h : PS w x is W) (b : Bool) :
    PS w x b ((((((((W.setCell ⟨w.heap.size, 0, none⟩ (.int .i64 x.op)).setCell ⟨w.heap.size, 1, none⟩ (.int .i64 x.a)).setCell ⟨w.heap.size, 2, none⟩ (.int .i64 x.b)).setCell ⟨w.heap.size, 3, none⟩ (.int .i64 x.c)).setCell ⟨w.heap.size, 4, none⟩ (.int .i64 x.d)).setCell ⟨w.heap.size, 5, none⟩ (.int .i64 x.k)).setCell ⟨w.heap.size, 6, none⟩ (.int .u32 x.i)).setCell ⟨w.heap.size + 1, 0, none⟩ (.bool b)) := by
  obtain ⟨h1, h2, h3⟩ := h
  refine ⟨(h1.seven _ _ _ _ _ _ _).far (by simp) _, ?_, (below_seven h3 (Nat.le_refl _) _ _ _ _ _ _ _).setCell (by simp) _⟩
  exact (((((((h2.far (by simp) _).far (by simp) _).far (by simp) _).far (by simp) _).far (by simp) _).far (by simp) _).far (by simp) _).set_ 0 _
theorem PS.wrong {w W : World} {x : Insn} {is : Bool} (h : PS w x is W) (o : Obj) : PS w x false ((W.setCell ⟨w.heap.size + 1, 0, none⟩ (.bool false)).alloc o) :=
  ⟨(h.1.far (by simp) _).alloc _, (h.2.1.set_ 0 _).alloc _, (h.2.2.setCell (by simp) _).alloc (by simp [World.setCell]; exact h.2.2.size) _⟩
theorem PS.read {w W W' : World} {x x' : Insn} {is : Bool} (h : PS w x is W) (hx : Blk W' w.heap.size 24 x'.cs) (hb : Beside w.heap.size W W') : PS w x' is W' :=
  ⟨hx, hb.blk h.2.1 (by omega), h.2.2.trans (hb.below (Nat.le_refl _) h.2.2.size)⟩
/-- What is known of the world between two rounds. -/
def ParsW (w : World) (l : List UInt8) (gs : List (List UInt8)) (x0 : Insn) (r g : Nat) (k : Nat) (x : Insn) (W : World) : Prop :=
  readAll (l.drop k) (gs.drop k) x = readAll l gs x0 ∧ x.In ∧ PS w x true W ∧ W.heap[r]? = some (.map (mapTab readersTab) readersTab.length) ∧ (gs ≠ [] → Blk W g 9 (gs.map strV).toArray) ∧ w.heap.size + 1 < r ∧ w.heap.size + 1 < g
theorem ParsW.next {w : World} {l : List UInt8} {gs : List (List UInt8)} {x0 : Insn} {r g : Nat} {k : Nat} {x x' : Insn} {W W' : World} (h : ParsW w l gs x0 r g k x W) (hk : k < l.length) (hg : k < gs.length)
    (hr : readOp l[k] gs[k] x = some x') (hi : x'.In) (hx : Blk W' w.heap.size 24 x'.cs) (hb : Beside w.heap.size W W') : ParsW w l gs x0 r g (k + 1) x' W' := by
  obtain ⟨h1, h2, h3, h4, h5, h6, h7⟩ := h
  refine ⟨?_, hi, h3.read hx hb, (hb.block r (by rw [Array.getElem?_eq_some_iff] at h4; exact h4.1) (by omega)).trans h4, fun hne => hb.blk (h5 hne) (by omega), h6, h7⟩
  rw [← h1, List.drop_eq_getElem_cons hk, List.drop_eq_getElem_cons hg, readAll, hr]
  rfl
theorem insn0_in (v : Int) (h0 : -9223372036854775808 ≤ v) (h1 : v ≤ 9223372036854775807) : Insn.In { insn0 with op := v } := by
  refine ⟨⟨h0, h1⟩, ?_, ?_, ?_, ?_, ?_, ?_⟩ <;> simp [insn0]
theorem opOf_in (nm : List UInt8) : -9223372036854775808 ≤ (opOf nm).1 ∧ (opOf nm).1 ≤ 9223372036854775807 := by
  unfold opOf
  have := strIdx_in nameTab nm
  have hl : nameTab.length = 73 := by decide
  split <;> simp <;> omega
theorem calls_name {P : Program} {f : FuncId} {args : Array Value} {R : Ending → World → Prop} (F : World → Prop) (W : World) (h : F W) (k : ∀ W', F W' → Calls P f args W' R) : Calls P f args W R := k W h
theorem results62 {tmps : Array Value} {w W : World} {x : Insn} {is : Bool} (h2 : tmps.getD 2 undef = .pointer (some ⟨w.heap.size, 0, none⟩)) (h3 : tmps.getD 3 undef = .pointer (some ⟨w.heap.size + 1, 0, none⟩)) (h : PS w x is W) :
    (results Tryz.f62 tmps).run Tryz.prog W = .ok (.tuple #[.agg x.cs, .bool is]) W := by
  obtain ⟨⟨c0, c1, c2, c3, c4, c5, c6, c7⟩, _⟩ := h.facts
  simp at h2 h3
  simp [results, Tryz.results62, h2, h3, c0, c1, c2, c3, c4, c5, c6, c7, go_sem, Insn.cs]

set_option maxRecDepth 100000 in
set_option maxHeartbeats 4000000 in
theorem parsed_none (s : List UInt8) (hmo0 : (Lib.cut s [32]).2.2 = false) (hs : s.length ≤ 1000000) (hix : ∀ g ∈ given s, IdxOk (inner g) (signAt g)) (w : World) (he : Env w) : Calls Tryz.prog 62 #[.string ⟨s.toArray⟩] w (ParsedPost w (parsedOf s)) := by
  have HMO := Lib.hid hmo0
  clear hmo0
  have hmf : ∀ (fn : Fn) (first cap : Array Value) (w : World), (Instr.makeFunc fn first cap).run Tryz.prog w = .ok (.func fn first cap) w := fun _ _ _ _ => rfl
  have HE := Lib.hid (below_env he)
  have H12 := Lib.hid he.size
  have HC := Lib.hid (fun W hW => cut_any s hs W hW)
  clear he
  go_enter_defers Tryz.func62, Tryz.ntmps62
  go_wp2_with fail
  refine (HC.out _ (HE.out _ (by (repeat (first | exact Below.refl _ _ | assumption | refine Below.drew ?_ | refine Below.alloc ?_ (by first | exact Nat.le_refl _ | (simp; done) | (simp; omega)) _ | refine Below.call ?_ (by assumption) (by first | exact Nat.le_refl _ | (simp; done) | (simp; omega) | omega)))))).mono ?_
  rintro e w1 ⟨rfl, hb⟩
  have P1 := (PS.start w).call hb
  clear hb
  generalize hnm : (Lib.cut s [32]).1 = nm at *
  generalize hmo : (Lib.cut s [32]).2.2 = more at *
  generalize hre : (Lib.cut s [32]).2.1 = rest at *
  have HG : Hid (given s = if more then pieces rest else []) := by unfold Hid given; rw [hmo, hre]
  have HP : Hid (parsedOf s = if (opOf nm).2 = true ∧ (given s).length = (opnd (opOf nm).1).1.length then readAll (opnd (opOf nm).1).1 (given s) { insn0 with op := (opOf nm).1 } else none) := by unfold Hid parsedOf; rw [hnm]
  have HL := Lib.hid (show rest.length ≤ 1000000 by have := cut_len s; rw [hre] at this; omega)
  clear hnm hmo hre
  have HP1 := Lib.hid P1
  clear P1
  go_wp2_with fail
  refine (op_any nm _).mono ?_
  rintro e w2 ⟨rfl, hb⟩
  have HP2 := Lib.hid (HP1.out.call hb)
  obtain ⟨⟨c0, c1, c2, c3, c4, c5, c6, c7⟩, f0, f1, f2, f3, f4, f5, f6, f7⟩ := HP2.out.facts
  clear hb HP1
  have hoi := opOf_in nm
  generalize (opOf nm).1 = op at *
  have HI0 := Lib.hid (insn0_in op hoi.1 hoi.2)
  clear hoi
  generalize (opOf nm).2 = ok at *
  go_wp2_with fail
  refine calls_name (PS w { insn0 with op := op } ok) _ (HP2.out.ops op ok) ?_
  clear c0 c1 c2 c3 c4 c5 c6 c7 f0 f1 f2 f3 f4 f5 f6 f7 HP2
  intro w3 h3
  have HP3 := Lib.hid h3
  obtain ⟨⟨c0, c1, c2, c3, c4, c5, c6, c7⟩, f0, f1, f2, f3, f4, f5, f6, f7⟩ := h3.facts
  clear h3
  refine (operands_any op _).mono ?_
  rintro e w' ⟨rfl, rfl⟩
  have HLL := Lib.hid (Insn.letters_of op)
  have hl5 := opnd_len op
  generalize (opnd op).1 = l at *
  have HGSL : Hid (∀ g ∈ given s, g.length ≤ 1000000) := fun g hg => given_len s hs g hg
  have HIXX := Lib.hid hix
  clear hix hs
  generalize hgs : given s = gs at *
  clear hgs
  obtain rfl : more = false := HMO.out
  clear HMO
  have hg0 : gs = [] := HG.out
  subst hg0
  rcases ok with _ | _
  · have hP : parsedOf s = none := by rw [HP.out, if_neg (by simp)]
    have HX0 := Lib.hid hP
    clear hP
    go_wp2
    refine leaves_cons (f := 120) (args := #[.pointer (some ⟨w.heap.size + 1, 0, none⟩)]) (by simp) (by simp [go_sem]) ?_
    refine (catch_idle _ _).mono ?_
    rintro e u' w'' ⟨rfl, rfl, rfl⟩
    exact ⟨_, results62 rfl rfl (HP3.out.back false), _, false, rfl, HI0.out, by rw [HX0.out], (HP3.out.back false).2.2⟩
  · rcases l with _ | ⟨c, l⟩
    · have hP : parsedOf s = readAll [] [] { insn0 with op := op } := by rw [HP.out, if_pos (by simp)]
      have HX0 := Lib.hid hP
      clear hP
      go_wp2_with (go_at_call 123; refine (readers_any _).mono ?_; rintro e w5 ⟨r, rfl, hr, hr1, hb5⟩; have HP5 := Lib.hid (HP3.out.call hb5); obtain ⟨⟨d0, d1, d2, d3, d4, d5, d6, d7⟩, e0, e1, e2, e3, e4, e5, e6, e7⟩ := (HP3.out.call hb5).facts)
      refine wp_loop_rounds 1 ?_
      rw [rounds_succ]
      go_wp2
      refine leaves_cons (f := 120) (args := #[.pointer (some ⟨w.heap.size + 1, 0, none⟩)]) (by simp) (by simp [go_sem]) ?_
      refine (catch_idle _ _).mono ?_
      rintro e u' w'' ⟨rfl, rfl, rfl⟩
      exact ⟨_, results62 rfl rfl (HP5.out.back true), _, true, rfl, HI0.out, by rw [HX0.out]; exact ⟨rfl, rfl⟩, (HP5.out.back true).2.2⟩
    · have hP : parsedOf s = none := by rw [HP.out, if_neg (by simp)]
      have HX0 := Lib.hid hP
      have hlen : ((0 : Int) != ((l.length : Int) + 1)) = true := by simp; omega
      clear hP
      go_wp2
      refine leaves_cons (f := 120) (args := #[.pointer (some ⟨w.heap.size + 1, 0, none⟩)]) (by simp) (by simp [go_sem]) ?_
      refine (catch_idle _ _).mono ?_
      rintro e u' w'' ⟨rfl, rfl, rfl⟩
      exact ⟨_, results62 rfl rfl (HP3.out.back false), _, false, rfl, HI0.out, by rw [HX0.out], (HP3.out.back false).2.2⟩

set_option maxRecDepth 100000 in
set_option maxHeartbeats 4000000 in
theorem parsed_bad (s : List UInt8) (hmo0 : (Lib.cut s [32]).2.2 = true) (hok0 : (opOf (Lib.cut s [32]).1).2 = false) (hs : s.length ≤ 1000000) (hix : ∀ g ∈ given s, IdxOk (inner g) (signAt g)) (w : World) (he : Env w) : Calls Tryz.prog 62 #[.string ⟨s.toArray⟩] w (ParsedPost w (parsedOf s)) := by
  have HMO := Lib.hid hmo0
  have HOK := Lib.hid hok0
  clear hmo0 hok0
  have hmf : ∀ (fn : Fn) (first cap : Array Value) (w : World), (Instr.makeFunc fn first cap).run Tryz.prog w = .ok (.func fn first cap) w := fun _ _ _ _ => rfl
  have HE := Lib.hid (below_env he)
  have H12 := Lib.hid he.size
  have HC := Lib.hid (fun W hW => cut_any s hs W hW)
  clear he
  go_enter_defers Tryz.func62, Tryz.ntmps62
  go_wp2_with fail
  refine (HC.out _ (HE.out _ (by (repeat (first | exact Below.refl _ _ | assumption | refine Below.drew ?_ | refine Below.alloc ?_ (by first | exact Nat.le_refl _ | (simp; done) | (simp; omega)) _ | refine Below.call ?_ (by assumption) (by first | exact Nat.le_refl _ | (simp; done) | (simp; omega) | omega)))))).mono ?_
  rintro e w1 ⟨rfl, hb⟩
  have P1 := (PS.start w).call hb
  clear hb
  generalize hnm : (Lib.cut s [32]).1 = nm at *
  generalize hmo : (Lib.cut s [32]).2.2 = more at *
  generalize hre : (Lib.cut s [32]).2.1 = rest at *
  have HG : Hid (given s = if more then pieces rest else []) := by unfold Hid given; rw [hmo, hre]
  have HP : Hid (parsedOf s = if (opOf nm).2 = true ∧ (given s).length = (opnd (opOf nm).1).1.length then readAll (opnd (opOf nm).1).1 (given s) { insn0 with op := (opOf nm).1 } else none) := by unfold Hid parsedOf; rw [hnm]
  have HL := Lib.hid (show rest.length ≤ 1000000 by have := cut_len s; rw [hre] at this; omega)
  clear hnm hmo hre
  have HP1 := Lib.hid P1
  clear P1
  go_wp2_with fail
  refine (op_any nm _).mono ?_
  rintro e w2 ⟨rfl, hb⟩
  have HP2 := Lib.hid (HP1.out.call hb)
  obtain ⟨⟨c0, c1, c2, c3, c4, c5, c6, c7⟩, f0, f1, f2, f3, f4, f5, f6, f7⟩ := HP2.out.facts
  clear hb HP1
  have hoi := opOf_in nm
  generalize (opOf nm).1 = op at *
  have HI0 := Lib.hid (insn0_in op hoi.1 hoi.2)
  clear hoi
  generalize (opOf nm).2 = ok at *
  go_wp2_with fail
  refine calls_name (PS w { insn0 with op := op } ok) _ (HP2.out.ops op ok) ?_
  clear c0 c1 c2 c3 c4 c5 c6 c7 f0 f1 f2 f3 f4 f5 f6 f7 HP2
  intro w3 h3
  have HP3 := Lib.hid h3
  obtain ⟨⟨c0, c1, c2, c3, c4, c5, c6, c7⟩, f0, f1, f2, f3, f4, f5, f6, f7⟩ := h3.facts
  clear h3
  refine (operands_any op _).mono ?_
  rintro e w' ⟨rfl, rfl⟩
  have HLL := Lib.hid (Insn.letters_of op)
  have hl5 := opnd_len op
  generalize (opnd op).1 = l at *
  have HGSL : Hid (∀ g ∈ given s, g.length ≤ 1000000) := fun g hg => given_len s hs g hg
  have HIXX := Lib.hid hix
  clear hix hs
  generalize hgs : given s = gs at *
  clear hgs
  obtain rfl : more = true := HMO.out
  obtain rfl : ok = false := HOK.out
  clear HMO HOK
  have hg0 : gs = pieces rest := HG.out
  have HS := Lib.hid (fun W hW => split_any rest HL.out W hW)
  rw [← hg0] at HS
  clear hg0 HG
  have hP : parsedOf s = none := by rw [HP.out, if_neg (by simp)]
  have HX0 := Lib.hid hP
  clear hP
  clear c0 c1 c2 c3 c4 c5 c6 c7 f0 f1 f2 f3 f4 f5 f6 f7
  go_wp2_with (go_at_call 122; refine (HS.out _ (HE.out _ HP3.out.2.2)).mono ?_; rintro e w4 ⟨g, rfl, hg, hgl, hb4⟩; have HG4 := Lib.hid hg; have HP4 := Lib.hid (HP3.out.call hb4); have HZ4 := Lib.hid hb4; obtain ⟨⟨d0, d1, d2, d3, d4, d5, d6, d7⟩, e0, e1, e2, e3, e4, e5, e6, e7⟩ := (HP3.out.call hb4).facts; clear hg)
  refine leaves_cons (f := 120) (args := #[.pointer (some ⟨w.heap.size + 1, 0, none⟩)]) (by simp) (by simp [go_sem]) ?_
  refine (catch_idle _ _).mono ?_
  rintro e u' w'' ⟨rfl, rfl, rfl⟩
  exact ⟨_, results62 rfl rfl (HP4.out.back false), _, false, rfl, HI0.out, by rw [HX0.out], (HP4.out.back false).2.2⟩

set_option maxRecDepth 100000 in
set_option maxHeartbeats 4000000 in
theorem parsed_yes (s : List UInt8) (hmo0 : (Lib.cut s [32]).2.2 = true) (hok0 : (opOf (Lib.cut s [32]).1).2 = true) (hll : (given s).length = (opnd (opOf (Lib.cut s [32]).1).1).1.length) (hs : s.length ≤ 1000000) (hix : ∀ g ∈ given s, IdxOk (inner g) (signAt g)) (w : World) (he : Env w) : Calls Tryz.prog 62 #[.string ⟨s.toArray⟩] w (ParsedPost w (parsedOf s)) := by
  have HMO := Lib.hid hmo0
  have HOK := Lib.hid hok0
  have HLL0 := Lib.hid hll
  clear hmo0 hok0 hll
  have hmf : ∀ (fn : Fn) (first cap : Array Value) (w : World), (Instr.makeFunc fn first cap).run Tryz.prog w = .ok (.func fn first cap) w := fun _ _ _ _ => rfl
  have HE := Lib.hid (below_env he)
  have H12 := Lib.hid he.size
  have HC := Lib.hid (fun W hW => cut_any s hs W hW)
  clear he
  go_enter_defers Tryz.func62, Tryz.ntmps62
  go_wp2_with fail
  refine (HC.out _ (HE.out _ (by (repeat (first | exact Below.refl _ _ | assumption | refine Below.drew ?_ | refine Below.alloc ?_ (by first | exact Nat.le_refl _ | (simp; done) | (simp; omega)) _ | refine Below.call ?_ (by assumption) (by first | exact Nat.le_refl _ | (simp; done) | (simp; omega) | omega)))))).mono ?_
  rintro e w1 ⟨rfl, hb⟩
  have P1 := (PS.start w).call hb
  clear hb
  generalize hnm : (Lib.cut s [32]).1 = nm at *
  generalize hmo : (Lib.cut s [32]).2.2 = more at *
  generalize hre : (Lib.cut s [32]).2.1 = rest at *
  have HG : Hid (given s = if more then pieces rest else []) := by unfold Hid given; rw [hmo, hre]
  have HP : Hid (parsedOf s = if (opOf nm).2 = true ∧ (given s).length = (opnd (opOf nm).1).1.length then readAll (opnd (opOf nm).1).1 (given s) { insn0 with op := (opOf nm).1 } else none) := by unfold Hid parsedOf; rw [hnm]
  have HL := Lib.hid (show rest.length ≤ 1000000 by have := cut_len s; rw [hre] at this; omega)
  clear hnm hmo hre
  have HP1 := Lib.hid P1
  clear P1
  go_wp2_with fail
  refine (op_any nm _).mono ?_
  rintro e w2 ⟨rfl, hb⟩
  have HP2 := Lib.hid (HP1.out.call hb)
  obtain ⟨⟨c0, c1, c2, c3, c4, c5, c6, c7⟩, f0, f1, f2, f3, f4, f5, f6, f7⟩ := HP2.out.facts
  clear hb HP1
  have hoi := opOf_in nm
  generalize (opOf nm).1 = op at *
  have HI0 := Lib.hid (insn0_in op hoi.1 hoi.2)
  clear hoi
  generalize (opOf nm).2 = ok at *
  go_wp2_with fail
  refine calls_name (PS w { insn0 with op := op } ok) _ (HP2.out.ops op ok) ?_
  clear c0 c1 c2 c3 c4 c5 c6 c7 f0 f1 f2 f3 f4 f5 f6 f7 HP2
  intro w3 h3
  have HP3 := Lib.hid h3
  obtain ⟨⟨c0, c1, c2, c3, c4, c5, c6, c7⟩, f0, f1, f2, f3, f4, f5, f6, f7⟩ := h3.facts
  clear h3
  refine (operands_any op _).mono ?_
  rintro e w' ⟨rfl, rfl⟩
  have HLL := Lib.hid (Insn.letters_of op)
  have hl5 := opnd_len op
  generalize (opnd op).1 = l at *
  have HGSL : Hid (∀ g ∈ given s, g.length ≤ 1000000) := fun g hg => given_len s hs g hg
  have HIXX := Lib.hid hix
  clear hix hs
  generalize hgs : given s = gs at *
  clear hgs
  obtain rfl : more = true := HMO.out
  obtain rfl : ok = true := HOK.out
  have hll := HLL0.out
  clear HMO HOK HLL0
  have hg0 : gs = pieces rest := HG.out
  have HS := Lib.hid (fun W hW => split_any rest HL.out W hW)
  rw [← hg0] at HS
  clear hg0 HG
  have hP : parsedOf s = readAll l gs { insn0 with op := op } := by rw [HP.out, if_pos ⟨rfl, hll⟩]
  have HLEN := Lib.hid hll
  have HGL := HGSL
  have HIX := Lib.hid HIXX.out
  have hlb : ((gs.length : Int) != (l.length : Int)) = false := by simp; omega
  have HPP := Lib.hid hP
  clear hll hP
  clear c0 c1 c2 c3 c4 c5 c6 c7 f0 f1 f2 f3 f4 f5 f6 f7
  go_wp2_with (first
    | (go_at_call 122; refine (HS.out _ (HE.out _ HP3.out.2.2)).mono ?_; rintro e w4 ⟨g, rfl, hg, hgl, hb4⟩; have HG4 := Lib.hid hg; have HP4 := Lib.hid (HP3.out.call hb4); have HZ4 := Lib.hid hb4; obtain ⟨⟨d0, d1, d2, d3, d4, d5, d6, d7⟩, e0, e1, e2, e3, e4, e5, e6, e7⟩ := (HP3.out.call hb4).facts; clear hg)
    | (go_at_call 123; refine (readers_any _).mono ?_; rintro e w5 ⟨r, rfl, hr, hr1, hb5⟩))
  refine name_world (ParsW w l gs { insn0 with op := op } r g 0 { insn0 with op := op }) _ ⟨rfl, HI0.out, HP4.out.call hb5, hr, fun _ => HG4.out.call hb5, by have := HP4.out.2.1.lt; omega, by have := HP3.out.2.1.lt; omega⟩ ?_
  clear hr hr1 hb5 hgl hb4
  clear d0 d1 d2 d3 d4 d5 d6 d7 e0 e1 e2 e3 e4 e5 e6 e7
  intro W0 hW0
  have HX0 := HPP
  go_loopw [48] (fun i wr => ∃ (k : Nat) (x : Insn), k ≤ gs.length ∧ i = .int .i64 k ∧ ParsW w l gs { insn0 with op := op } r g k x wr) (fun i _ => gs.length - (intOf i).toNat)
  case atStart => exact ⟨0, _, Nat.zero_le _, rfl, hW0⟩
  case round =>
    obtain ⟨k, x, hk, rfl, hW⟩ := hrel
    clear hW0
    have HW := Lib.hid hW
    by_cases hlt : k < gs.length
    · have hll : k < l.length := by rw [← HLEN.out]; exact hlt
      obtain ⟨f, hf⟩ := reader_of l[k] (HLL.out _ (List.getElem_mem hll)) gs[k] (HGL.out _ (List.getElem_mem hlt)) (HIX.out _ (List.getElem_mem hlt))
      have HF := Lib.hid hf
      have kc : wr.cell? ⟨g, k, none⟩ = some (.string ⟨gs[k].toArray⟩) := by
        rw [(hW.2.2.2.2.1 (by intro e; rw [e] at hlt; simp at hlt)).cell]
        simp [hlt, strV]
      have kl : (Instr.lookup 140 (.map (some r)) (.int .u8 (l[k].toNat : Int)) false).run Tryz.prog wr = .ok (.func (.func f) #[] #[]) wr := run_lookup_tab Tryz.underlying140 wr r _ readersTab hW.2.2.2.1 _ f hf.1
      have kix : ∀ W, (Instr.index 9 (.string ⟨l.toArray⟩) (.int .i64 (k : Int))).run Tryz.prog W = .ok (.int .u8 (l[k].toNat : Int)) W := fun W => run_index_str l k hll W
      have eF := hf.2.1
      have hk0 : (0 : Int) ≤ k := by omega
      have hk1 : (k : Int) < gs.length := by omega
      have hk2 : (k : Int) + 1 ≤ 9223372036854775807 := by have := HLEN.out; omega
      clear hW hf hk
      go_wp2_with fail
      refine (HF.out.2.2 x HW.out.2.1 w.heap.size H12.out wr (HE.out wr HW.out.2.2.1.2.2) HW.out.2.2.1.1).mono ?_
      have hcase := HF.out
      cases hro : readOp l[k] gs[k] x with
      | none =>
        have HN : Hid (readAll l gs { insn0 with op := op } = none) := by
          unfold Hid
          rw [← HW.out.1, List.drop_eq_getElem_cons hll, List.drop_eq_getElem_cons hlt, readAll, hro]; rfl
        rintro e w5 ⟨x', rfl, hx, hxi, hbs⟩
        have h5 := HW.out.2.2.1.read hx hbs
        refine leaves_cons (f := 120) (args := #[.pointer (some ⟨w.heap.size + 1, 0, none⟩)]) (by simp) (by simp [go_sem]) ?_
        refine (catch_wrong (w.heap.size + 1) true [] w5 h5.2.1.lt (h5.2.1.cell 0) (h5.2.1.frozen 0)).mono ?_
        rintro e u' w'' ⟨rfl, rfl, rfl⟩
        exact ⟨_, results62 rfl rfl (h5.wrong _), _, false, rfl, hxi, by rw [HX0.out, HN.out], (h5.wrong _).2.2⟩
      | some y =>
        rintro e w5 ⟨x', ⟨rfl, rfl⟩, hx, hxi, hbs⟩
        have HNX := Lib.hid (HW.out.next hll hlt hro hxi hx hbs)
        clear hro hx hxi hbs kc kl kix eF hcase
        go_wp2
        exact ⟨⟨k + 1, _, by omega, by go_num, HNX.out⟩, by simp [intOf]; omega⟩
    · have hkk : k = gs.length := by omega
      have HN : Hid (readAll l gs { insn0 with op := op } = some x) := by
        unfold Hid
        rw [← HW.out.1, List.drop_of_length_le (by rw [← HLEN.out]; omega)]
        cases gs.drop k <;> rfl
      obtain ⟨⟨c0, c1, c2, c3, c4, c5, c6, c7⟩, f0, f1, f2, f3, f4, f5, f6, f7⟩ := hW.2.2.1.facts
      clear hW hkk
      go_wp2
      refine leaves_cons (f := 120) (args := #[.pointer (some ⟨w.heap.size + 1, 0, none⟩)]) (by simp) (by simp [go_sem]) ?_
      refine (catch_idle _ _).mono ?_
      rintro e u' w'' ⟨rfl, rfl, rfl⟩
      exact ⟨_, results62 rfl rfl (HW.out.2.2.1.back true), _, true, rfl, HW.out.2.1, by rw [HX0.out, HN.out]; exact ⟨rfl, rfl⟩, (HW.out.2.2.1.back true).2.2⟩

set_option maxRecDepth 100000 in
set_option maxHeartbeats 4000000 in
theorem parsed_many (s : List UInt8) (hmo0 : (Lib.cut s [32]).2.2 = true) (hok0 : (opOf (Lib.cut s [32]).1).2 = true) (hll : ¬ (given s).length = (opnd (opOf (Lib.cut s [32]).1).1).1.length) (hs : s.length ≤ 1000000) (hix : ∀ g ∈ given s, IdxOk (inner g) (signAt g)) (w : World) (he : Env w) : Calls Tryz.prog 62 #[.string ⟨s.toArray⟩] w (ParsedPost w (parsedOf s)) := by
  have HMO := Lib.hid hmo0
  have HOK := Lib.hid hok0
  have HLL0 := Lib.hid hll
  clear hmo0 hok0 hll
  have hmf : ∀ (fn : Fn) (first cap : Array Value) (w : World), (Instr.makeFunc fn first cap).run Tryz.prog w = .ok (.func fn first cap) w := fun _ _ _ _ => rfl
  have HE := Lib.hid (below_env he)
  have H12 := Lib.hid he.size
  have HC := Lib.hid (fun W hW => cut_any s hs W hW)
  clear he
  go_enter_defers Tryz.func62, Tryz.ntmps62
  go_wp2_with fail
  refine (HC.out _ (HE.out _ (by (repeat (first | exact Below.refl _ _ | assumption | refine Below.drew ?_ | refine Below.alloc ?_ (by first | exact Nat.le_refl _ | (simp; done) | (simp; omega)) _ | refine Below.call ?_ (by assumption) (by first | exact Nat.le_refl _ | (simp; done) | (simp; omega) | omega)))))).mono ?_
  rintro e w1 ⟨rfl, hb⟩
  have P1 := (PS.start w).call hb
  clear hb
  generalize hnm : (Lib.cut s [32]).1 = nm at *
  generalize hmo : (Lib.cut s [32]).2.2 = more at *
  generalize hre : (Lib.cut s [32]).2.1 = rest at *
  have HG : Hid (given s = if more then pieces rest else []) := by unfold Hid given; rw [hmo, hre]
  have HP : Hid (parsedOf s = if (opOf nm).2 = true ∧ (given s).length = (opnd (opOf nm).1).1.length then readAll (opnd (opOf nm).1).1 (given s) { insn0 with op := (opOf nm).1 } else none) := by unfold Hid parsedOf; rw [hnm]
  have HL := Lib.hid (show rest.length ≤ 1000000 by have := cut_len s; rw [hre] at this; omega)
  clear hnm hmo hre
  have HP1 := Lib.hid P1
  clear P1
  go_wp2_with fail
  refine (op_any nm _).mono ?_
  rintro e w2 ⟨rfl, hb⟩
  have HP2 := Lib.hid (HP1.out.call hb)
  obtain ⟨⟨c0, c1, c2, c3, c4, c5, c6, c7⟩, f0, f1, f2, f3, f4, f5, f6, f7⟩ := HP2.out.facts
  clear hb HP1
  have hoi := opOf_in nm
  generalize (opOf nm).1 = op at *
  have HI0 := Lib.hid (insn0_in op hoi.1 hoi.2)
  clear hoi
  generalize (opOf nm).2 = ok at *
  go_wp2_with fail
  refine calls_name (PS w { insn0 with op := op } ok) _ (HP2.out.ops op ok) ?_
  clear c0 c1 c2 c3 c4 c5 c6 c7 f0 f1 f2 f3 f4 f5 f6 f7 HP2
  intro w3 h3
  have HP3 := Lib.hid h3
  obtain ⟨⟨c0, c1, c2, c3, c4, c5, c6, c7⟩, f0, f1, f2, f3, f4, f5, f6, f7⟩ := h3.facts
  clear h3
  refine (operands_any op _).mono ?_
  rintro e w' ⟨rfl, rfl⟩
  have HLL := Lib.hid (Insn.letters_of op)
  have hl5 := opnd_len op
  generalize (opnd op).1 = l at *
  have HGSL : Hid (∀ g ∈ given s, g.length ≤ 1000000) := fun g hg => given_len s hs g hg
  have HIXX := Lib.hid hix
  clear hix hs
  generalize hgs : given s = gs at *
  clear hgs
  obtain rfl : more = true := HMO.out
  obtain rfl : ok = true := HOK.out
  have hll := HLL0.out
  clear HMO HOK HLL0
  have hg0 : gs = pieces rest := HG.out
  have HS := Lib.hid (fun W hW => split_any rest HL.out W hW)
  rw [← hg0] at HS
  clear hg0 HG
  have hP : parsedOf s = none := by rw [HP.out, if_neg (fun h => hll h.2)]
  have HX0 := Lib.hid hP
  have hlb : ((gs.length : Int) != (l.length : Int)) = true := by simp; omega
  clear hP hll
  clear c0 c1 c2 c3 c4 c5 c6 c7 f0 f1 f2 f3 f4 f5 f6 f7
  go_wp2_with (go_at_call 122; refine (HS.out _ (HE.out _ HP3.out.2.2)).mono ?_; rintro e w4 ⟨g, rfl, hg, hgl, hb4⟩; have HG4 := Lib.hid hg; have HP4 := Lib.hid (HP3.out.call hb4); have HZ4 := Lib.hid hb4; obtain ⟨⟨d0, d1, d2, d3, d4, d5, d6, d7⟩, e0, e1, e2, e3, e4, e5, e6, e7⟩ := (HP3.out.call hb4).facts; clear hg)
  refine leaves_cons (f := 120) (args := #[.pointer (some ⟨w.heap.size + 1, 0, none⟩)]) (by simp) (by simp [go_sem]) ?_
  refine (catch_idle _ _).mono ?_
  rintro e u' w'' ⟨rfl, rfl, rfl⟩
  exact ⟨_, results62 rfl rfl (HP4.out.back false), _, false, rfl, HI0.out, by rw [HX0.out], (HP4.out.back false).2.2⟩

theorem parsed_any (s : List UInt8) (hs : s.length ≤ 1000000) (hix : ∀ g ∈ given s, IdxOk (inner g) (signAt g)) (w : World) (he : Env w) : Calls Tryz.prog 62 #[.string ⟨s.toArray⟩] w (ParsedPost w (parsedOf s)) := by
  cases hmo : (Lib.cut s [32]).2.2
  · exact parsed_none s hmo hs hix w he
  · cases hok : (opOf (Lib.cut s [32]).1).2
    · exact parsed_bad s hmo hok hs hix w he
    · by_cases hll : (given s).length = (opnd (opOf (Lib.cut s [32]).1).1).1.length
      · exact parsed_yes s hmo hok hll hs hix w he
      · exact parsed_many s hmo hok hll hs hix w he
end Go.Proofs.YtdkclapinedgiaaGreatDoor
