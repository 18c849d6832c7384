/- Contract: UsesOf of package isa: the loop over the operands' letters. -/
import Derived.Test.YtdkclapinedgiaaGreatDoorC3
import Derived.Test.YtdkclapinedgiaaGreatDoorE1
import Derived.StillTailTactics
import Derived.Deep.RegionLaw
import Derived.Deep.DeepCutAuto
import Derived.Deep.CutBlock
import Derived.Test.YtdkclapinedgiaaGreatDoorWords3
namespace Go.Proofs.YtdkclapinedgiaaGreatDoor
open Go.RowKit

def orI (a b : Int) : Int := bits BinOp.or .i64 a b
def shl1 (n : Int) : Int := IntKind.i64.wrap (2 ^ n.toNat)
/-- What a letter adds to the registers that are read. -/
def usesStep (x : Insn) (s : Int × Int) (y : UInt8) : Int × Int :=
  if (y.toNat : Int) = 98 ∨ (y.toNat : Int) = 109 ∨ (y.toNat : Int) = 110 then (orI s.1 (shl1 x.b), s.2) else
  if (y.toNat : Int) = 99 then (orI s.1 (shl1 x.c), s.2) else
  if (y.toNat : Int) = 66 then (s.1, orI s.2 (shl1 x.b)) else
  if (y.toNat : Int) = 67 then (s.1, orI s.2 (shl1 x.c)) else s
def usesBlk (r w vr vw : Int) (fi fo : Bool) (ld st : Int) (j : Bool) : Array Value :=
  #[.int .i64 r, .int .i64 w, .int .i64 vr, .int .i64 vw, .bool fi, .bool fo, .int .i64 ld, .int .i64 st, .bool j]
/-- What is known of the world beside the place of the loop. -/
def UsesBase (w w2 : World) (x : Insn) (r vr ld st : Int) (wr : World) : Prop :=
  Blk wr (w2.heap.size + 1) 33 (usesBlk r 0 vr 0 false false ld st false) ∧ Blk wr w.heap.size 24 x.cs ∧ Blk wr (w.heap.size + 1) 33 (usesBlk 0 0 0 0 false false 0 0 false) ∧
    Below w.heap.size w wr ∧ wr.heap.size = w2.heap.size + 3 ∧ w.heap.size + 1 < w2.heap.size
def UsesAt (w w2 : World) (x : Insn) (l : List UInt8) (ld st : Int) (p : Nat) (r vr : Int) (wr : World) : Prop :=
  p ≤ l.length ∧ (l.drop p).foldl (usesStep x) (r, vr) = l.foldl (usesStep x) (0, 0) ∧ wr.heap[w2.heap.size + 1 + 1]? = some (.stringIter ⟨l.toArray⟩ p) ∧ UsesBase w w2 x r vr ld st wr

theorem UsesAt.next {w w2 wr : World} {x : Insn} {l : List UInt8} {ld st : Int} {p : Nat} {r vr : Int} (h : UsesAt w w2 x l ld st p r vr wr) (hp : p < l.length) (ha : ∀ x ∈ l, x.toNat < 128) :
    ∃ w3, (∀ (ty : TypeId), (Instr.next (.pointer (some ⟨w2.heap.size + 1 + 1, 0, none⟩)) true ty).run Tryz.prog wr = .ok (.tuple #[.bool true, .int .i64 p, .int .i32 (l[p].toNat)]) w3) ∧
      (l.drop (p + 1)).foldl (usesStep x) (usesStep x (r, vr) l[p]) = l.foldl (usesStep x) (0, 0) ∧ w3.heap[w2.heap.size + 1 + 1]? = some (.stringIter ⟨l.toArray⟩ (p + 1)) ∧ UsesBase w w2 x r vr ld st w3 := by
  obtain ⟨h1, h2, h3, h4, h5, h6, h7, h8, h9⟩ := h
  have hs : p < (⟨l.toArray⟩ : ByteArray).size := by simpa [ByteArray.size] using hp
  refine ⟨wr.iterAt (w2.heap.size + 1 + 1) ⟨l.toArray⟩ (p + 1), fun ty => ?_, ?_, Lib.iterAt_heap _ _ _ _ _ h3, h4.iterAt (by omega) _ _, h5.iterAt (by omega) _ _, h6.iterAt (by omega) _ _, Lib.below_iterAt h7 (by omega) _ _, by rw [Lib.iterAt_size]; exact h8, h9⟩
  · have hx : (⟨l.toArray⟩ : ByteArray)[p] = l[p] := by simp [ByteArray.getElem_eq_getElem_data]
    have := Lib.run_next_ascii_at (P := Tryz.prog) wr (w2.heap.size + 1 + 1) ⟨l.toArray⟩ p ty h3 hs (by rw [hx]; exact ha _ (List.getElem_mem hp))
    rw [this, hx]
  · rw [← h2, List.drop_eq_getElem_cons hp]; rfl

structure UsesS where
  (r w vr vw : Int) (fi fo : Bool) (ld st : Int) (j : Bool)
def UsesS.cs (u : UsesS) : Array Value := usesBlk u.r u.w u.vr u.vw u.fi u.fo u.ld u.st u.j
def uses0 : UsesS := ⟨0, 0, 0, 0, false, false, 0, 0, false⟩
def fstIs (l : List UInt8) (n : Nat) : Bool := match l with | y :: _ => y.toNat == n | [] => false
def stoL : List Int := [31, 32, 33, 70, 34]
def swpL : List Int := [36, 37, 38]
def vinL : List Int := [49, 58]
def fiL : List Int := [16, 17, 25, 26, 67, 46]
def foL : List Int := [16, 17, 18, 19, 22, 23, 24, 37, 47, 65, 72]
def jmpL : List Int := [40, 41, 42, 66, 67, 68]
/-- What an instruction uses, behind the loop: r and vr are what the letters have added. -/
def usesTail (x : Insn) (l : List UInt8) (r vr ld st : Int) : UsesS :=
  let sto := hasOp stoL x.op
  let r1 := if fstIs l 97 && (sto || hasOp swpL x.op) then orI r (shl1 x.a) else r
  let w1 := if fstIs l 97 && !sto then orI 0 (shl1 x.a) else 0
  let v1 := if fstIs l 65 && hasOp vinL x.op then orI vr (shl1 x.a) else vr
  let y1 := if fstIs l 65 && !(x.op == 49) then orI 0 (shl1 x.a) else 0
  let stk := x.op == 34 || x.op == 35 || x.op == 68 || x.op == 41 || x.op == 42
  let r2 := if stk then orI r1 32768 else if x.op == 43 then 15 else if x.op == 44 then 3 else r1
  let w2 := if stk then orI w1 32768 else if x.op == 43 then 1 else if x.op == 44 then 1 else w1
  ⟨r2, w2, v1, y1, hasOp fiL x.op, (decide (3 ≤ x.op) && decide (x.op ≤ 10)) || hasOp foL x.op, ld, st, hasOp jmpL x.op⟩
def usesOf (x : Insn) : UsesS :=
  let s := (opnd x.op).1.foldl (usesStep x) (0, 0)
  usesTail x (opnd x.op).1 s.1 s.2 (accOf x.op).1 (accOf x.op).2
theorem UsesAt.pos {w w2 wr : World} {x : Insn} {l : List UInt8} {ld st : Int} {p : Nat} {r vr : Int} (h : UsesAt w w2 x l ld st p r vr wr) : wr.iterPos (w2.heap.size + 1 + 1) = p := by unfold World.iterPos; rw [h.2.2.1]
def UsesEnd (w w2 : World) (x : Insn) (l : List UInt8) (ld st : Int) (p : Nat) (W : World) : Prop :=
  (∃ p r vr, UsesAt w w2 x l ld st p r vr W) ∧ l.length - W.iterPos (w2.heap.size + 1 + 1) < l.length - p
theorem uses_same {w w2 w3 : World} {x : Insn} {l : List UInt8} {ld st : Int} {p : Nat} {r vr : Int} {y : UInt8} (hp : p < l.length) (h1 : (l.drop (p + 1)).foldl (usesStep x) (usesStep x (r, vr) y) = l.foldl (usesStep x) (0, 0))
    (h2 : w3.heap[w2.heap.size + 1 + 1]? = some (.stringIter ⟨l.toArray⟩ (p + 1))) (h3 : UsesBase w w2 x r vr ld st w3) (e : usesStep x (r, vr) y = (r, vr)) : UsesEnd w w2 x l ld st p w3 := by
  rw [e] at h1
  have H : UsesAt w w2 x l ld st (p + 1) r vr w3 := ⟨hp, h1, h2, h3⟩
  exact ⟨⟨_, _, _, H⟩, by rw [H.pos]; omega⟩
theorem uses_r {w w2 w3 : World} {x : Insn} {l : List UInt8} {ld st : Int} {p : Nat} {r vr r' : Int} {y : UInt8} (hp : p < l.length) (h1 : (l.drop (p + 1)).foldl (usesStep x) (usesStep x (r, vr) y) = l.foldl (usesStep x) (0, 0))
    (h2 : w3.heap[w2.heap.size + 1 + 1]? = some (.stringIter ⟨l.toArray⟩ (p + 1))) (h3 : UsesBase w w2 x r vr ld st w3) (e : usesStep x (r, vr) y = (r', vr)) :
    UsesEnd w w2 x l ld st p (w3.setCell ⟨w2.heap.size + 1, 0, none⟩ (.int .i64 r')).drew := by
  rw [e] at h1
  obtain ⟨a, b, c, d, f, g⟩ := h3
  have H : UsesAt w w2 x l ld st (p + 1) r' vr (w3.setCell ⟨w2.heap.size + 1, 0, none⟩ (.int .i64 r')).drew :=
    ⟨hp, h1, (Below.heap_setCell w3 _ _ _ (by simp)).trans h2, (a.set_ 0 _).drew, (b.far (by simp; omega) _).drew, (c.far (by simp; omega) _).drew, (d.setCell (by simp; omega) _).drew, by simpa [World.setCell] using f, g⟩
  exact ⟨⟨_, _, _, H⟩, by rw [H.pos]; omega⟩
theorem uses_v {w w2 w3 : World} {x : Insn} {l : List UInt8} {ld st : Int} {p : Nat} {r vr r' : Int} {y : UInt8} (hp : p < l.length) (h1 : (l.drop (p + 1)).foldl (usesStep x) (usesStep x (r, vr) y) = l.foldl (usesStep x) (0, 0))
    (h2 : w3.heap[w2.heap.size + 1 + 1]? = some (.stringIter ⟨l.toArray⟩ (p + 1))) (h3 : UsesBase w w2 x r vr ld st w3) (e : usesStep x (r, vr) y = (r, r')) :
    UsesEnd w w2 x l ld st p (w3.setCell ⟨w2.heap.size + 1, 2, none⟩ (.int .i64 r')).drew := by
  rw [e] at h1
  obtain ⟨a, b, c, d, f, g⟩ := h3
  have H : UsesAt w w2 x l ld st (p + 1) r r' (w3.setCell ⟨w2.heap.size + 1, 2, none⟩ (.int .i64 r')).drew :=
    ⟨hp, h1, (Below.heap_setCell w3 _ _ _ (by simp)).trans h2, (a.set_ 2 _).drew, (b.far (by simp; omega) _).drew, (c.far (by simp; omega) _).drew, (d.setCell (by simp; omega) _).drew, by simpa [World.setCell] using f, g⟩
  exact ⟨⟨_, _, _, H⟩, by rw [H.pos]; omega⟩

def UTail (w : World) (g : Nat) (x : Insn) (u : UsesS) (W : World) : Prop :=
  Blk W g 33 u.cs ∧ Blk W w.heap.size 24 x.cs ∧ Blk W (w.heap.size + 1) 33 uses0.cs ∧ Below w.heap.size w W ∧ w.heap.size + 1 < g
theorem UTail.of {w w2 W : World} {x : Insn} {r vr ld st : Int} (h : UsesBase w w2 x r vr ld st W) : UTail w (w2.heap.size + 1) x ⟨r, 0, vr, 0, false, false, ld, st, false⟩ W := by
  obtain ⟨a, b, c, d, e, f⟩ := h
  exact ⟨a, b, c, d, by omega⟩
theorem UTail.alloc {w W : World} {g : Nat} {x : Insn} {u : UsesS} (h : UTail w g x u W) (o : Obj) : UTail w g x u (W.alloc o) := by
  obtain ⟨a, b, c, d, e⟩ := h
  exact ⟨a.alloc _, b.alloc _, c.alloc _, d.alloc d.size _, e⟩
theorem UTail.drew {w W : World} {g : Nat} {x : Insn} {u : UsesS} (h : UTail w g x u W) : UTail w g x u W.drew := by
  obtain ⟨a, b, c, d, e⟩ := h
  exact ⟨a.drew, b.drew, c.drew, d.drew, e⟩
theorem UTail.set {w W : World} {g : Nat} {x : Insn} {u u' : UsesS} (h : UTail w g x u W) (i : Nat) (v : Value) (e' : u'.cs = u.cs.setIfInBounds i v) : UTail w g x u' (W.setCell ⟨g, i, none⟩ v) := by
  obtain ⟨a, b, c, d, e⟩ := h
  exact ⟨by rw [e']; exact a.set_ i v, b.far (by simp; omega) _, c.far (by simp; omega) _, d.setCell (by simp; omega) _, e⟩

theorem idx0 (y : UInt8) (l : List UInt8) (W : World) : (Instr.index 9 (.string ⟨(y :: l).toArray⟩) (.int .i64 0)).run Tryz.prog W = .ok (.int .u8 (y.toNat : Int)) W := by
  rw [run_index_string W 9 ⟨(y :: l).toArray⟩ .i64 0 Tryz.underlying9]
  have h1 : (0 : Int) ≤ 0 ∧ (0 : Int) < (⟨(y :: l).toArray⟩ : ByteArray).size := ⟨by omega, by simp [ByteArray.size]⟩
  rw [dif_pos h1]
  simp [ByteArray.getElem_eq_getElem_data]
theorem fst_t (y : UInt8) (l : List UInt8) (n : Nat) (h : (y.toNat : Int) = n) : fstIs (y :: l) n = true := by unfold fstIs; simp only [beq_iff_eq]; omega
theorem fst_f (y : UInt8) (l : List UInt8) (n : Nat) (h : ¬ (y.toNat : Int) = n) : fstIs (y :: l) n = false := by unfold fstIs; simp only [beq_eq_false_iff_ne]; omega
theorem wrapQ (n : Int) : wrap64 n = IntKind.i64.wrap n := by simp only [IntKind.wrap_i64, wrap64]
theorem ne0 (y : UInt8) (l : List UInt8) : ((⟨(y :: l).toArray⟩ : ByteArray) != ⟨#[]⟩) = true := by
  rfl

set_option maxRecDepth 100000 in
set_option maxHeartbeats 4000000 in
theorem uses_ok (x : Insn) (w : World) (hv : x.valid = true) : Calls Tryz.prog 20 #[.agg x.cs] w fun e w' => e = .returned (.tuple #[.agg (usesOf x).cs, .int .i64 0]) ∧ Below w.heap.size w w' := by
  have ok := Insn.ok hv
  have hh := Lib.hid (fun W => valid_any x W (by have := ok.k; omega) (by have := ok.k; omega))
  have hasc := Lib.hid (show ∀ y ∈ (opnd x.op).1, y.toNat < 128 from opnd_ascii x.op)
  obtain ⟨ho, ⟨o1, o2, o3⟩, ⟨a1, a2⟩, ⟨b1, b2⟩, ⟨c1, c2⟩, ⟨d1, d2⟩, ⟨k1, k2⟩⟩ := ok
  unfold Insn.cs at hh ⊢
  go_enter Tryz.func20, Tryz.ntmps20
  go_wp2_with (first
    | (go_at_call 56; refine (hh.out _).mono ?_; rintro e w1 ⟨rfl, hb1⟩; obtain ⟨hc1, hf1⟩ := bcell hb1; have hz1 : w.heap.size < w1.heap.size := by { have := hb1.size; simp at this; omega }; have hz1' : w.heap.size + 1 < w1.heap.size := by { have := hb1.size; simp at this; omega })
    | (go_at_call 65; refine (accesses_any _ _).mono ?_; rintro e w2 ⟨rfl, hb2⟩; obtain ⟨hc2, hf2⟩ := bcell hb2; have hz2 : w.heap.size < w2.heap.size := by { have := hb2.size; omega }; have hz2' : w.heap.size + 1 < w2.heap.size := by { have := hb2.size; omega })
    | (go_at_call 58; refine (operands_any _ _).mono ?_; rintro e w' ⟨rfl, rfl⟩))
  refine name_world (UsesAt w w2 x (opnd x.op).1 (accOf x.op).1 (accOf x.op).2 0 0 0) _ ?facts ?_
  case facts =>
    have hs := hb1.size
    have hs2 := hb2.size
    simp only [World.size_alloc] at hs
    have K1 := ((Blk.new w 24 x.cs).alloc (.cells (usesBlk 0 0 0 0 false false 0 0 false) 33)).call hb1
    have K2 := (blk_at (w.alloc (.cells x.cs 24)) (w.heap.size + 1) 33 (usesBlk 0 0 0 0 false false 0 0 false) (by simp)).call hb1
    have B := (((Below.refl _ w).alloc (Nat.le_refl _) (.cells x.cs 24)).alloc (by simp) (.cells (usesBlk 0 0 0 0 false false 0 0 false) 33)).call hb1 (by simp; omega)
    have h2 := World.iter_heap ((w2.alloc (.cells #[.int .i64 (accOf x.op).1, .int .i64 (accOf x.op).2] 92)).alloc (.cells (usesBlk 0 0 0 0 false false (accOf x.op).1 (accOf x.op).2 false) 33)) ⟨(opnd x.op).1.toArray⟩ 0
    rw [show ((w2.alloc (.cells #[.int .i64 (accOf x.op).1, .int .i64 (accOf x.op).2] 92)).alloc (.cells (usesBlk 0 0 0 0 false false (accOf x.op).1 (accOf x.op).2 false) 33)).heap.size = w2.heap.size + 1 + 1 from by simp] at h2
    refine ⟨Nat.zero_le _, rfl, h2, ?_, ?_, ?_, ?_, ?_, hz2'⟩
    · exact Blk.alloc (blk_at (w2.alloc (.cells #[.int .i64 (accOf x.op).1, .int .i64 (accOf x.op).2] 92)) (w2.heap.size + 1) 33 _ (by simp)) _
    · exact (((K1.call hb2).alloc _).alloc _).alloc _
    · exact (((K2.call hb2).alloc _).alloc _).alloc _
    · exact (((B.call hb2 (by omega)).alloc (by omega) _).alloc (by simp; omega) _).alloc (by simp; omega) _
    · simp [World.iter]
  clear hc1 hf1 hc2 hf2 hz1 hz1' hz2 hz2'
  generalize hgl : (opnd x.op).1 = l at *
  generalize hgd : (accOf x.op).1 = ld
  generalize hgs : (accOf x.op).2 = st
  have HGL := Lib.hid hgl
  have HGD := Lib.hid hgd
  have HGS := Lib.hid hgs
  clear hgl hgd hgs
  intro W0 hW0
  go_loopw [9] (fun _ wr => ∃ p r vr, UsesAt w w2 x l ld st p r vr wr) (fun _ wr => l.length - wr.iterPos (w2.heap.size + 1 + 1))
  case atStart => exact ⟨0, 0, 0, hW0⟩
  case round =>
    obtain ⟨p, r, vr, hrel⟩ := hrel
    have hpos : wr.iterPos (w2.heap.size + 1 + 1) = p := by unfold World.iterPos; rw [hrel.2.2.1]
    have HP := Lib.hid hpos
    have H0 := Lib.hid hW0
    clear hpos hW0
    by_cases hp : p < l.length
    · obtain ⟨w3, hnx, h1, h2, h3⟩ := hrel.next hp hasc.out
      have G1 := Lib.hid h1
      have G2 := Lib.hid h2
      have G3 := Lib.hid h3
      obtain ⟨uc0, uc1, uc2, uc3, uc4, uc5, uc6, uc7, uc8, uf0, uf1, uf2, uf3, uf4, uf5, uf6, uf7, uf8⟩ := h3.1.facts9
      obtain ⟨xc0, xc1, xc2, xc3, xc4, xc5, xc6, xf0, xf1, xf2, xf3, xf4, xf5, xf6⟩ := h3.2.1.facts7
      have hy := hasc.out _ (List.getElem_mem hp)
      clear h1 h2 h3 hrel
      clear uf1 uf3 uf4 uf5 uf6 uf7 uf8 uc1 uc3 uc4 uc5 uc6 uc7 uc8 xc0 xc1 xc4 xc5 xc6 xf0 xf1 xf2 xf3 xf4 xf5 xf6
      generalize l[p] = y at *
      go_wp2
      all_goals try go_region_law (first | fail)
      all_goals try go_wp2
      all_goals rw [HP.out]
      all_goals show UsesEnd w w2 x l ld st p _
      all_goals first
        | (with_reducible refine uses_same hp G1.out G2.out G3.out ?_)
        | (with_reducible refine uses_r hp G1.out G2.out G3.out ?_)
        | (with_reducible refine uses_v hp G1.out G2.out G3.out ?_)
      all_goals
        clear HP H0 G1 G2 G3 uc0 uc2 uf0 uf2 xc2 xc3 hnx hh hasc
        simp_all [usesStep, orI, shl1]
    · have hnx : ∀ ty, (Instr.next (.pointer (some ⟨w2.heap.size + 1 + 1, 0, none⟩)) true ty).run Tryz.prog wr = _ := fun ty => Lib.run_next_end_at wr _ _ p ty hrel.2.2.1 (by simpa [ByteArray.size] using hp)
      obtain ⟨h1, h2, h3, h4⟩ := hrel
      have hr : (r, vr) = l.foldl (usesStep x) (0, 0) := by rw [← h2, List.drop_of_length_le (by omega)]; rfl
      have HR := Lib.hid hr
      have G := Lib.hid h4
      clear h1 h2 h3 h4 hr
      go_upto_region 20 with fail
      refine name_world (UTail w (w2.heap.size + 1) x ⟨r, 0, vr, 0, false, false, ld, st, false⟩) _ (UTail.of G.out) ?_
      generalize w2.heap.size + 1 = g
      intro W hW
      have HW := Lib.hid hW
      have hu0 : W.heap.size = W.heap.size := rfl
      obtain ⟨xc0, xc1, xc2, xc3, xc4, xc5, xc6, xf0, xf1, xf2, xf3, xf4, xf5, xf6⟩ := hW.2.1.facts7
      clear xf0 xf1 xf2 xf3 xf4 xf5 xf6 xc2 xc3 xc4 xc5 xc6 hW hnx HP H0 hp hu0
      go_wp2_with fail
      refine (oneof_any (some ⟨W.heap.size, 0, none⟩) 5 5 stoL x.op _ (reads_of_blk (blk_at W W.heap.size 3 _ rfl) rfl rfl) (by decide)).mono ?_
      rintro e w' ⟨rfl, rfl⟩
      generalize hsto : hasOp stoL x.op = sto
      have HS := Lib.hid hsto
      clear hsto xc0 xc1
      go_upto_region 21 with fail
      refine name_world (UTail w g x ⟨r, 0, vr, 0, false, false, ld, st, false⟩) _ (HW.out.alloc _) ?_
      clear HW
      intro W hW
      go_cut [83] (fun s wx => s = .bool (fstIs l 97) ∧ wx = W)
      case first => as_aux_lemma =>
        rcases l with _ | ⟨y, l⟩
        · go_wp2_with fail
          go_meet
          exact ⟨rfl, rfl⟩
        · have kix := idx0 y l
          have kne := ne0 y l
          by_cases hy : (y.toNat : Int) = 97
          · go_wp2_with fail
            go_meet
            exact ⟨by rw [fst_t y l 97 hy], rfl⟩
          · go_wp2_with fail
            go_meet
            exact ⟨by rw [fst_f y l 97 hy]; exact congrArg Value.bool (beq_eq_false_iff_ne.2 hy), rfl⟩
      case rest =>
        obtain ⟨rfl, rfl⟩ := hcut
        go_upto_if 83 with fail
        go_cut [] (fun wx => UTail w g x ⟨if fstIs l 97 && (sto || hasOp swpL x.op) then orI r (shl1 x.a) else r, if fstIs l 97 && !sto then orI 0 (shl1 x.a) else 0, vr, 0, false, false, ld, st, false⟩ wx)
        case first => as_aux_lemma =>
          have HW := Lib.hid hW
          obtain ⟨uc0, uc1, uc2, uc3, uc4, uc5, uc6, uc7, uc8, uf0, uf1, uf2, uf3, uf4, uf5, uf6, uf7, uf8⟩ := hW.1.facts9
          obtain ⟨xc0, xc1, xc2, xc3, xc4, xc5, xc6, xf0, xf1, xf2, xf3, xf4, xf5, xf6⟩ := hW.2.1.facts7
          clear uf2 uf3 uf4 uf5 uf6 uf7 uf8 uc2 uc3 uc4 uc5 uc6 uc7 uc8 xf0 xf1 xf2 xf3 xf4 xf5 xf6 xc2 xc3 xc4 xc5 xc6 hW
          cases hb : fstIs l 97
          · go_wp2_with fail
            go_meet
            rw [hb]; exact HW.out
          · have wl : g < wc.heap.size := HW.out.1.lt
            have wl' : w.heap.size < wc.heap.size := HW.out.2.1.lt
            cases sto
            · go_wp2_with fail
              refine (oneof_any (some ⟨wc.heap.size, 0, none⟩) 3 3 swpL x.op _ (reads_of_blk (blk_at wc wc.heap.size 3 _ rfl) rfl rfl) (by decide)).mono ?_
              rintro e w' ⟨rfl, rfl⟩
              cases hswp : hasOp swpL x.op
              · go_wp2_with fail
                all_goals try go_region_law (first | fail)
                all_goals try go_wp2
                all_goals go_meet
                all_goals rw [hb, hswp]
                all_goals refine UTail.drew ?_
                all_goals refine UTail.alloc ?_ _
                all_goals refine UTail.set (u := ⟨r, 0, vr, 0, false, false, ld, st, false⟩) HW.out _ _ rfl
              · go_wp2_with fail
                all_goals try go_region_law (first | fail)
                all_goals try go_wp2
                all_goals try go_region_law (first | fail)
                all_goals try go_wp2
                all_goals go_meet
                all_goals rw [hb, hswp]
                all_goals try simp only [wrapQ]
                all_goals refine UTail.drew (UTail.drew ?_)
                all_goals refine UTail.alloc ?_ _
                all_goals refine UTail.set (u := ⟨orI r (shl1 x.a), 0, vr, 0, false, false, ld, st, false⟩) ?_ _ _ rfl
                all_goals refine UTail.set (u := ⟨r, 0, vr, 0, false, false, ld, st, false⟩) HW.out _ _ rfl
            · go_wp2_with fail
              all_goals try go_region_law (first | fail)
              all_goals try go_wp2
              all_goals go_meet
              all_goals rw [hb]
              all_goals try simp only [wrapQ]
              all_goals exact (UTail.set (u := ⟨r, 0, vr, 0, false, false, ld, st, false⟩) HW.out _ _ rfl).drew
        case rest =>
          clear hW
          have hW := hcut
          clear hcut
          generalize hgr1 : (if fstIs l 97 && (sto || hasOp swpL x.op) then orI r (shl1 x.a) else r) = r1 at hW
          have HGr1 := Lib.hid hgr1
          clear hgr1
          generalize hgw1 : (if fstIs l 97 && !sto then orI 0 (shl1 x.a) else 0) = w1 at hW
          have HGw1 := Lib.hid hgw1
          clear hgw1
          go_upto_region 26 with fail
          go_cut [113] (fun s wx => s = .bool (fstIs l 65) ∧ wx = wc)
          case first => as_aux_lemma =>
            rcases l with _ | ⟨y, l⟩
            · go_wp2_with fail
              go_meet
              exact ⟨rfl, rfl⟩
            · have kix := idx0 y l
              have kne := ne0 y l
              by_cases hy : (y.toNat : Int) = 65
              · go_wp2_with fail
                go_meet
                exact ⟨by rw [fst_t y l 65 hy], rfl⟩
              · go_wp2_with fail
                go_meet
                exact ⟨by rw [fst_f y l 65 hy]; exact congrArg Value.bool (beq_eq_false_iff_ne.2 hy), rfl⟩
          case rest =>
            obtain ⟨rfl, rfl⟩ := hcut
            go_upto_if 113 with fail
            go_cut [] (fun wx => UTail w g x ⟨r1, w1, if fstIs l 65 && hasOp vinL x.op then orI vr (shl1 x.a) else vr, if fstIs l 65 && !(x.op == 49) then orI 0 (shl1 x.a) else 0, false, false, ld, st, false⟩ wx)
            case first => as_aux_lemma =>
              have HW := Lib.hid hW
              obtain ⟨uc0, uc1, uc2, uc3, uc4, uc5, uc6, uc7, uc8, uf0, uf1, uf2, uf3, uf4, uf5, uf6, uf7, uf8⟩ := hW.1.facts9
              obtain ⟨xc0, xc1, xc2, xc3, xc4, xc5, xc6, xf0, xf1, xf2, xf3, xf4, xf5, xf6⟩ := hW.2.1.facts7
              clear uf0 uf1 uf4 uf5 uf6 uf7 uf8 uc0 uc1 uc4 uc5 uc6 uc7 uc8 xf0 xf1 xf2 xf3 xf4 xf5 xf6 xc2 xc3 xc4 xc5 xc6 hW
              cases hb : fstIs l 65
              · go_wp2_with fail
                go_meet
                rw [hb]; exact HW.out
              · have wl : g < wc.heap.size := HW.out.1.lt
                have wl' : w.heap.size < wc.heap.size := HW.out.2.1.lt
                go_wp2_with fail
                refine (oneof_any (some ⟨wc.heap.size, 0, none⟩) 2 2 vinL x.op _ (reads_of_blk (blk_at wc wc.heap.size 3 _ rfl) rfl rfl) (by decide)).mono ?_
                rintro e w' ⟨rfl, rfl⟩
                cases hvin : hasOp vinL x.op
                · by_cases h49 : x.op = 49
                  · rw [h49] at hvin; exact absurd hvin (by decide)
                  · have h49b : (x.op == 49) = false := beq_eq_false_iff_ne.2 h49
                    go_wp2_with fail
                    all_goals try go_region_law (first | fail)
                    all_goals try go_wp2
                    all_goals go_meet
                    all_goals rw [hb, hvin, h49b]
                    all_goals try simp only [wrapQ]
                    all_goals refine UTail.drew ?_
                    all_goals refine UTail.alloc ?_ _
                    all_goals refine UTail.set (u := ⟨r1, w1, vr, 0, false, false, ld, st, false⟩) HW.out _ _ rfl
                · by_cases h49 : x.op = 49
                  · have h49b : (x.op == 49) = true := beq_iff_eq.2 h49
                    have H49 := Lib.hid h49b
                    have h49n : (x.op != 49) = false := by simp [h49]
                    clear h49b h49
                    go_wp2_with fail
                    all_goals try go_region_law (first | fail)
                    all_goals try go_wp2
                    all_goals go_meet
                    all_goals rw [hb, hvin, H49.out]
                    all_goals try simp only [wrapQ]
                    all_goals refine UTail.drew ?_
                    all_goals refine UTail.alloc ?_ _
                    all_goals refine UTail.set (u := ⟨r1, w1, vr, 0, false, false, ld, st, false⟩) HW.out _ _ rfl
                  · have h49b : (x.op == 49) = false := beq_eq_false_iff_ne.2 h49
                    go_wp2_with fail
                    all_goals try go_region_law (first | fail)
                    all_goals try go_wp2
                    all_goals try go_region_law (first | fail)
                    all_goals try go_wp2
                    all_goals go_meet
                    all_goals rw [hb, hvin, h49b]
                    all_goals try simp only [wrapQ]
                    all_goals refine UTail.drew (UTail.drew ?_)
                    all_goals refine UTail.alloc ?_ _
                    all_goals refine UTail.set (u := ⟨r1, w1, orI vr (shl1 x.a), 0, false, false, ld, st, false⟩) ?_ _ _ rfl
                    all_goals refine UTail.set (u := ⟨r1, w1, vr, 0, false, false, ld, st, false⟩) HW.out _ _ rfl
            case rest =>
              clear hW
              have hW := hcut
              clear hcut
              generalize hgv1 : (if fstIs l 65 && hasOp vinL x.op then orI vr (shl1 x.a) else vr) = v1 at hW
              have HGv1 := Lib.hid hgv1
              clear hgv1
              generalize hgy1 : (if fstIs l 65 && !(x.op == 49) then orI 0 (shl1 x.a) else 0) = y1 at hW
              have HGy1 := Lib.hid hgy1
              clear hgy1
              go_upto_region 31 with fail
              obtain ⟨xc0, xc1, xc2, xc3, xc4, xc5, xc6, xf0, xf1, xf2, xf3, xf4, xf5, xf6⟩ := hW.2.1.facts7
              clear xf0 xf1 xf2 xf3 xf4 xf5 xf6 xc1 xc2 xc3 xc4 xc5 xc6
              have HW := Lib.hid hW
              clear hW
              go_upto_block 3 with fail
              go_cut [] (fun wx => UTail w g x ⟨if x.op == 34 || x.op == 35 || x.op == 68 || x.op == 41 || x.op == 42 then orI r1 32768 else if x.op == 43 then 15 else if x.op == 44 then 3 else r1,
                if x.op == 34 || x.op == 35 || x.op == 68 || x.op == 41 || x.op == 42 then orI w1 32768 else if x.op == 43 then 1 else if x.op == 44 then 1 else w1, v1, y1, false, false, ld, st, false⟩ wx)
              case first => as_aux_lemma =>
                obtain ⟨uc0, uc1, uc2, uc3, uc4, uc5, uc6, uc7, uc8, uf0, uf1, uf2, uf3, uf4, uf5, uf6, uf7, uf8⟩ := HW.out.1.facts9
                clear uf2 uf3 uf4 uf5 uf6 uf7 uf8 uc2 uc3 uc4 uc5 uc6 uc7 uc8
                go_wp2_with fail
                all_goals go_meet
                all_goals first
                  | (have e : (x.op == 34 || x.op == 35 || x.op == 68 || x.op == 41 || x.op == 42) = true := by (simp only [*, Bool.true_or, Bool.or_true]; done)
                     rw [if_pos e, if_pos e]
                     exact UTail.set (u := ⟨orI r1 32768, w1, v1, y1, false, false, ld, st, false⟩) (UTail.set HW.out 0 _ rfl) 1 _ rfl)
                  | (have e : (x.op == 34 || x.op == 35 || x.op == 68 || x.op == 41 || x.op == 42) = false := by (simp only [*, Bool.or_false]; done)
                     have f : (x.op == 43) = true := by assumption
                     rw [e, f]
                     exact UTail.set (u := ⟨15, w1, v1, y1, false, false, ld, st, false⟩) (UTail.set HW.out 0 _ rfl) 1 _ rfl)
                  | (have e : (x.op == 34 || x.op == 35 || x.op == 68 || x.op == 41 || x.op == 42) = false := by (simp only [*, Bool.or_false]; done)
                     have f : (x.op == 43) = false := by assumption
                     have f' : (x.op == 44) = true := by assumption
                     rw [e, f, f']
                     exact UTail.set (u := ⟨3, w1, v1, y1, false, false, ld, st, false⟩) (UTail.set HW.out 0 _ rfl) 1 _ rfl)
                  | (have e : (x.op == 34 || x.op == 35 || x.op == 68 || x.op == 41 || x.op == 42) = false := by (simp only [*, Bool.or_false]; done)
                     have f : (x.op == 43) = false := by assumption
                     have f' : (x.op == 44) = false := by assumption
                     rw [e, f, f']
                     exact HW.out)
              case rest =>
                clear HW xc0
                have HW := Lib.hid hcut
                obtain ⟨xc0, xc1, xc2, xc3, xc4, xc5, xc6, xf0, xf1, xf2, xf3, xf4, xf5, xf6⟩ := hcut.2.1.facts7
                obtain ⟨uc0, uc1, uc2, uc3, uc4, uc5, uc6, uc7, uc8, uf0, uf1, uf2, uf3, uf4, uf5, uf6, uf7, uf8⟩ := hcut.1.facts9
                clear xf0 xf1 xf2 xf3 xf4 xf5 xf6 xc1 xc2 xc3 xc4 xc5 xc6 uf0 uf1 uf2 uf3 uf5 uf6 uf7 uf8 uc0 uc1 uc2 uc3 uc5 uc6 uc7 uc8
                have wl : g < wc.heap.size := hcut.1.lt
                have wl' : w.heap.size < wc.heap.size := hcut.2.1.lt
                clear hcut
                revert HW
                generalize hgr2 : (if x.op == 34 || x.op == 35 || x.op == 68 || x.op == 41 || x.op == 42 then orI r1 32768 else if x.op == 43 then 15 else if x.op == 44 then 3 else r1) = r2
                have HGr2 := Lib.hid hgr2
                clear hgr2
                generalize hgw2p : (if x.op == 34 || x.op == 35 || x.op == 68 || x.op == 41 || x.op == 42 then orI w1 32768 else if x.op == 43 then 1 else if x.op == 44 then 1 else w1) = w2'
                have HGw2p := Lib.hid hgw2p
                clear hgw2p
                intro HW
                go_wp2_with fail
                refine (oneof_any (some ⟨wc.heap.size, 0, none⟩) 6 6 fiL x.op _ (reads_of_blk (blk_at wc wc.heap.size 3 _ rfl) rfl rfl) (by decide)).mono ?_
                rintro e w' ⟨rfl, rfl⟩
                generalize hfi : hasOp fiL x.op = fi
                go_upto_region 44 with fail
                refine name_world (UTail w g x ⟨r2, w2', v1, y1, fi, false, ld, st, false⟩) _ ?uf ?_
                case uf =>
                  clear hfi
                  refine UTail.alloc ?_ _
                  exact UTail.set (u := ⟨r2, w2', v1, y1, false, false, ld, st, false⟩) HW.out 4 _ rfl
                clear HW xc0 uc4 uf4 wl wl'
                have HFI := Lib.hid hfi
                clear hfi
                intro W hW
                obtain ⟨xc0, xc1, xc2, xc3, xc4, xc5, xc6, xf0, xf1, xf2, xf3, xf4, xf5, xf6⟩ := hW.2.1.facts7
                obtain ⟨uc0, uc1, uc2, uc3, uc4, uc5, uc6, uc7, uc8, uf0, uf1, uf2, uf3, uf4, uf5, uf6, uf7, uf8⟩ := hW.1.facts9
                clear xf0 xf1 xf2 xf3 xf4 xf5 xf6 xc1 xc2 xc3 xc4 xc5 xc6 uf0 uc0 uf1 uc1 uf2 uc2 uf3 uc3 uf4 uc4 uf6 uc6 uf7 uc7 uf8 uc8
                have wl : g < W.heap.size := hW.1.lt
                have wl' : w.heap.size < W.heap.size := hW.2.1.lt
                have HW := Lib.hid hW
                clear hW
                go_cut [] (fun wx => UTail w g x ⟨r2, w2', v1, y1, fi, (decide (3 ≤ x.op) && decide (x.op ≤ 10)) || hasOp foL x.op, ld, st, false⟩ wx)
                case first =>
                  by_cases h3 : 3 ≤ x.op
                  · have d3 : decide (3 ≤ x.op) = true := decide_eq_true h3
                    by_cases h10 : x.op ≤ 10
                    · have d10 : decide (x.op ≤ 10) = true := decide_eq_true h10
                      go_wp2_with fail
                      go_meet
                      rw [d3, d10]
                      exact UTail.set (u := ⟨r2, w2', v1, y1, fi, false, ld, st, false⟩) HW.out 5 _ rfl
                    · have d10 : decide (x.op ≤ 10) = false := decide_eq_false h10
                      go_wp2_with fail
                      refine (oneof_any (some ⟨W.heap.size, 0, none⟩) 11 11 foL x.op _ (reads_of_blk (blk_at W W.heap.size 3 _ rfl) rfl rfl) (by decide)).mono ?_
                      rintro e w' ⟨rfl, rfl⟩
                      go_wp2_with fail
                      go_meet
                      rw [d3, d10]
                      refine UTail.alloc ?_ _
                      exact UTail.set (u := ⟨r2, w2', v1, y1, fi, false, ld, st, false⟩) HW.out 5 _ rfl
                  · have d3 : decide (3 ≤ x.op) = false := decide_eq_false h3
                    go_wp2_with fail
                    refine (oneof_any (some ⟨W.heap.size, 0, none⟩) 11 11 foL x.op _ (reads_of_blk (blk_at W W.heap.size 3 _ rfl) rfl rfl) (by decide)).mono ?_
                    rintro e w' ⟨rfl, rfl⟩
                    go_wp2_with fail
                    go_meet
                    rw [d3]
                    refine UTail.alloc ?_ _
                    exact UTail.set (u := ⟨r2, w2', v1, y1, fi, false, ld, st, false⟩) HW.out 5 _ rfl
                case rest =>
                clear HW xc0 uc5 uf5 wl wl'
                have hW := hcut
                clear hcut
                revert hW
                generalize wc = W
                clear wc
                generalize hfo : ((decide (3 ≤ x.op) && decide (x.op ≤ 10)) || hasOp foL x.op) = fo
                have HFO := Lib.hid hfo
                clear hfo
                intro hW
                obtain ⟨xc0, xc1, xc2, xc3, xc4, xc5, xc6, xf0, xf1, xf2, xf3, xf4, xf5, xf6⟩ := hW.2.1.facts7
                obtain ⟨uc0, uc1, uc2, uc3, uc4, uc5, uc6, uc7, uc8, uf0, uf1, uf2, uf3, uf4, uf5, uf6, uf7, uf8⟩ := hW.1.facts9
                clear xf0 xf1 xf2 xf3 xf4 xf5 xf6 xc1 xc2 xc3 xc4 xc5 xc6 uf0 uc0 uf1 uc1 uf2 uc2 uf3 uc3 uf4 uc4 uf5 uc5 uf6 uc6 uf7 uc7
                have wl : g < W.heap.size := hW.1.lt
                have wl' : w.heap.size < W.heap.size := hW.2.1.lt
                have HW := Lib.hid hW
                clear hW
                go_wp2_with fail
                refine (oneof_any (some ⟨W.heap.size, 0, none⟩) 6 6 jmpL x.op _ (reads_of_blk (blk_at W W.heap.size 3 _ rfl) rfl rfl) (by decide)).mono ?_
                rintro e w' ⟨rfl, rfl⟩
                generalize hjm : hasOp jmpL x.op = jm
                go_upto_region 46 with fail
                refine name_world (UTail w g x ⟨r2, w2', v1, y1, fi, fo, ld, st, jm⟩) _ ?uf2 ?_
                case uf2 =>
                  clear hjm
                  refine UTail.alloc ?_ _
                  exact UTail.set (u := ⟨r2, w2', v1, y1, fi, fo, ld, st, false⟩) HW.out 8 _ rfl
                clear HW xc0 uc8 uf8 wl wl'
                have HJM := Lib.hid hjm
                clear hjm
                intro W hW
                obtain ⟨uc0, uc1, uc2, uc3, uc4, uc5, uc6, uc7, uc8, uf0, uf1, uf2, uf3, uf4, uf5, uf6, uf7, uf8⟩ := hW.1.facts9
                obtain ⟨rc0, rc1, rc2, rc3, rc4, rc5, rc6, rc7, rc8, rf0, rf1, rf2, rf3, rf4, rf5, rf6, rf7, rf8⟩ := hW.2.2.1.facts9
                clear uf0 uf1 uf2 uf3 uf4 uf5 uf6 uf7 uf8
                have HW := Lib.hid hW
                clear hW
                go_wp2_with fail
                refine bodyPost_ret (results_33_2 rfl rfl (Blk.nine HW.out.2.2.1 _ _ _ _ _ _ _ _ _)) rfl ?_
                refine ⟨?_, below_nine HW.out.2.2.2.1 (by omega) _ _ _ _ _ _ _ _ _⟩
                have e : usesOf x = ⟨r2, w2', v1, y1, fi, fo, ld, st, jm⟩ := by
                  unfold usesOf usesTail
                  dsimp only
                  rw [HGL.out, HGD.out, HGS.out, ← HR.out, HS.out]
                  dsimp only
                  rw [HGr1.out, HGw1.out, HGv1.out, HGy1.out, HGr2.out, HGw2p.out, HFI.out, HFO.out, HJM.out]
                rw [e]
                rfl
end Go.Proofs.YtdkclapinedgiaaGreatDoor
