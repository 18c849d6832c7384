/- Contracts: fields, has, valid, Check of package isa. -/
/- Contracts: has, valid, Check of package isa. -/
import Derived.Test.YtdkclapinedgiaaGreatDoorC0
import Derived.Test.YtdkclapinedgiaaGreatDoorPure2

namespace Go.Proofs.YtdkclapinedgiaaGreatDoor
open Go.RowKit

def Room.cs (r : Room) : Array Value := #[.int .i64 r.a, .int .i64 r.b, .int .i64 r.c, .int .i64 r.d, .bool r.k, .bool r.i]

/-- Where the loop of 'fields' stands: the first p letters are in the room. -/
def FieldsAt (w w' : World) (l : List UInt8) (p : Nat) (r : Room) : Prop :=
  p ≤ l.length ∧ (l.drop p).foldl Room.step r = l.foldl Room.step room0 ∧ Blk w' (w.heap.size + 1) 98 r.cs ∧ w'.heap[w.heap.size + 1 + 1]? = some (.stringIter ⟨l.toArray⟩ p) ∧
    Blk w' w.heap.size 98 room0.cs ∧ Below w.heap.size w w' ∧ w'.heap.size = w.heap.size + 3

def FieldsPost (w : World) (op : Int) (e : Ending) (w' : World) : Prop :=
  e = .returned (.tuple #[.agg (roomOf op).cs, .bool (opnd op).2]) ∧ Below w.heap.size w w'

def Ascii (l : List UInt8 × Bool) : Prop := ∀ x ∈ l.1, x.toNat < 128
theorem opnd_ascii (op : Int) : Ascii (opnd op) := by
  unfold opnd vecs
  repeat' (refine ite_P (P := Ascii) ?_ ?_)
  all_goals (unfold Ascii; decide)

/-- The world behind 'next': all as it was, the iterator moved on. -/
theorem FieldsAt.next {w w' : World} {l : List UInt8} {p : Nat} {r : Room} (h : FieldsAt w w' l p r) (hp : p < l.length) (ha : ∀ x ∈ l, x.toNat < 128) :
    ∃ w2, (∀ (ty : TypeId), (Instr.next (.pointer (some ⟨w.heap.size + 1 + 1, 0, none⟩)) true ty).run Tryz.prog w' = .ok (.tuple #[.bool true, .int .i64 p, .int .i32 (l[p].toNat)]) w2) ∧
      ((l.drop (p + 1)).foldl Room.step (r.step l[p]) = l.foldl Room.step room0 ∧ Blk w2 (w.heap.size + 1) 98 r.cs ∧ w2.heap[w.heap.size + 1 + 1]? = some (.stringIter ⟨l.toArray⟩ (p + 1)) ∧
        Blk w2 w.heap.size 98 room0.cs ∧ Below w.heap.size w w2 ∧ w2.heap.size = w.heap.size + 3) := by
  obtain ⟨h1, h2, h3, h4, h5, h6, h7⟩ := h
  have hs : p < (⟨l.toArray⟩ : ByteArray).size := by simpa [ByteArray.size] using hp
  refine ⟨w'.iterAt (w.heap.size + 1 + 1) ⟨l.toArray⟩ (p + 1), fun ty => ?_, ?_, h3.iterAt (by omega) _ _, Lib.iterAt_heap _ _ _ _ _ h4, h5.iterAt (by omega) _ _, Lib.below_iterAt h6 (by omega) _ _, by rw [Lib.iterAt_size]; exact h7⟩
  · have hx : (⟨l.toArray⟩ : ByteArray)[p] = l[p] := by simp [ByteArray.getElem_eq_getElem_data]
    have := Lib.run_next_ascii_at (P := Tryz.prog) w' (w.heap.size + 1 + 1) ⟨l.toArray⟩ p ty h4 hs (by rw [hx]; exact ha _ (List.getElem_mem hp))
    rw [this, hx]
  · rw [← h2, List.drop_eq_getElem_cons hp]; rfl

theorem FieldsAt.pos {w w' : World} {l : List UInt8} {p : Nat} {r : Room} (h : FieldsAt w w' l p r) : w'.iterPos (w.heap.size + 1 + 1) = p := by unfold World.iterPos; rw [h.2.2.2.1]

def FieldsNext (w w2 : World) (l : List UInt8) (p : Nat) (r r' : Room) : Prop :=
  (l.drop (p + 1)).foldl Room.step r' = l.foldl Room.step room0 ∧ Blk w2 (w.heap.size + 1) 98 r.cs ∧ w2.heap[w.heap.size + 1 + 1]? = some (.stringIter ⟨l.toArray⟩ (p + 1)) ∧
        Blk w2 w.heap.size 98 room0.cs ∧ Below w.heap.size w w2 ∧ w2.heap.size = w.heap.size + 3

theorem FieldsNext.none_ {w w2 : World} {l : List UInt8} {p : Nat} {r r' : Room} (hp : p < l.length) (h : FieldsNext w w2 l p r r') (hr : r' = r) :
    (∃ p r, FieldsAt w w2 l p r) ∧ l.length - w2.iterPos (w.heap.size + 1 + 1) < l.length - p := by
  obtain ⟨h1, h3, h4, h5, h6, h7⟩ := h
  subst hr
  have H : FieldsAt w w2 l (p + 1) r' := ⟨hp, h1, h3, h4, h5, h6, h7⟩
  exact ⟨⟨_, _, H⟩, by rw [H.pos]; omega⟩

theorem FieldsNext.one {w w2 : World} {l : List UInt8} {p j : Nat} {r r' : Room} {v : Value} (hp : p < l.length) (h : FieldsNext w w2 l p r r') (hr : r'.cs = r.cs.setIfInBounds j v) :
    (∃ p r, FieldsAt w (w2.setCell ⟨w.heap.size + 1, j, none⟩ v) l p r) ∧ l.length - (w2.setCell ⟨w.heap.size + 1, j, none⟩ v).iterPos (w.heap.size + 1 + 1) < l.length - p := by
  obtain ⟨h1, h3, h4, h5, h6, h7⟩ := h
  have H : FieldsAt w (w2.setCell ⟨w.heap.size + 1, j, none⟩ v) l (p + 1) r' :=
    ⟨hp, h1, by rw [hr]; exact h3.set_ j v, (Below.heap_setCell w2 _ v _ (by simp)).trans h4, h5.far (by simp) v, h6.setCell (by simp) v, by simpa [World.setCell] using h7⟩
  exact ⟨⟨_, _, H⟩, by rw [H.pos]; omega⟩

theorem FieldsNext.two {w w2 : World} {l : List UInt8} {p j k : Nat} {r r' : Room} {v u : Value} (hp : p < l.length) (h : FieldsNext w w2 l p r r') (hr : r'.cs = (r.cs.setIfInBounds j v).setIfInBounds k u) :
    (∃ p r, FieldsAt w ((w2.setCell ⟨w.heap.size + 1, j, none⟩ v).setCell ⟨w.heap.size + 1, k, none⟩ u) l p r) ∧ l.length - ((w2.setCell ⟨w.heap.size + 1, j, none⟩ v).setCell ⟨w.heap.size + 1, k, none⟩ u).iterPos (w.heap.size + 1 + 1) < l.length - p := by
  obtain ⟨h1, h3, h4, h5, h6, h7⟩ := h
  have H : FieldsAt w ((w2.setCell ⟨w.heap.size + 1, j, none⟩ v).setCell ⟨w.heap.size + 1, k, none⟩ u) l (p + 1) r' :=
    ⟨hp, h1, by rw [hr]; exact (h3.set_ j v).set_ k u, ((Below.heap_setCell _ _ u _ (by simp)).trans (Below.heap_setCell w2 _ v _ (by simp))).trans h4, (h5.far (by simp) v).far (by simp) u, (h6.setCell (by simp) v).setCell (by simp) u, by simpa [World.setCell] using h7⟩
  exact ⟨⟨_, _, H⟩, by rw [H.pos]; omega⟩

set_option maxHeartbeats 4000000 in
theorem fields_any (op : Int) (w : World) : Calls Tryz.prog 71 #[.int .i64 op] w (FieldsPost w op) := by
  have hasc := Lib.hid (show ∀ x ∈ (opnd op).1, x.toNat < 128 from opnd_ascii op)
  go_enter Tryz.func71, Tryz.ntmps71
  go_wp2_with (go_at_call 58; refine (operands_any _ _).mono ?_; rintro e w' ⟨rfl, rfl⟩)
  have hR := Lib.hid (show roomOf op = (opnd op).1.foldl Room.step room0 from rfl)
  have hB := Lib.hid (show (opnd op).2 = (opnd op).2 from rfl)
  generalize (opnd op).1 = l at *
  generalize hb : (opnd op).2 = b at *
  have hb := Lib.hid hb
  clear hb
  go_loopw [8] (fun _ w' => ∃ p r, FieldsAt w w' l p r) (fun _ w' => l.length - w'.iterPos (w.heap.size + 1 + 1))
  case atStart =>
    refine ⟨0, room0, Nat.zero_le _, rfl, ?_, ?_, ?_, ?_, ?_⟩
    · have h := Blk.new (w.alloc (.cells room0.cs 98)) 98 room0.cs
      rw [show (w.alloc (.cells room0.cs 98)).heap.size = w.heap.size + 1 from by simp] at h
      exact h.alloc _
    · have h := World.iter_heap ((w.alloc (.cells room0.cs 98)).alloc (.cells room0.cs 98)) ⟨l.toArray⟩ 0
      rw [show ((w.alloc (.cells room0.cs 98)).alloc (.cells room0.cs 98)).heap.size = w.heap.size + 1 + 1 from by simp] at h
      exact h
    · exact ((Blk.new w 98 room0.cs).alloc _).alloc _
    · exact ((((Below.refl _ w).alloc (Nat.le_refl _) _).alloc (by simp) _).alloc (by simp; omega) _)
    · simp [World.iter]
  case round =>
    obtain ⟨p, r, hrel⟩ := hrel
    have hpos := hrel.pos
    by_cases hp : p < l.length
    · obtain ⟨w2, hnx, hw2⟩ := hrel.next hp hasc.out
      have H2 : Hid (FieldsNext w w2 l p r (r.step l[p])) := hw2
      have c0 := hw2.2.1.cell 0
      have c1 := hw2.2.1.cell 1
      have c2 := hw2.2.1.cell 2
      have c3 := hw2.2.1.cell 3
      have c4 := hw2.2.1.cell 4
      have c5 := hw2.2.1.cell 5
      have f0 := hw2.2.1.frozen 0
      have f1 := hw2.2.1.frozen 1
      have f2 := hw2.2.1.frozen 2
      have f3 := hw2.2.1.frozen 3
      have f4 := hw2.2.1.frozen 4
      have f5 := hw2.2.1.frozen 5
      have HP := Lib.hid hpos
      clear hrel hw2 hpos
      simp [Room.cs] at c0 c1 c2 c3 c4 c5
      go_wp2
      all_goals (rw [HP.out]; first | refine H2.out.one hp ?_ | refine H2.out.two hp ?_ | refine H2.out.none_ hp ?_)
      all_goals (clear c0 c1 c2 c3 c4 c5 f0 f1 f2 f3 f4 f5 H2 HP; simp_all [Room.step, Room.cs])
    · have hnx : ∀ ty, (Instr.next (.pointer (some ⟨w.heap.size + 1 + 1, 0, none⟩)) true ty).run Tryz.prog wr = _ := fun ty => Lib.run_next_end_at wr _ _ p ty hrel.2.2.2.1 (by simpa [ByteArray.size] using hp)
      obtain ⟨h1, h2, h3, h4, h5, h6, h7⟩ := hrel
      have hr : r = roomOf op := by
        rw [hR.out, ← h2, List.drop_of_length_le (by omega)]; rfl
      have c0 := h3.cell 0
      have c1 := h3.cell 1
      have c2 := h3.cell 2
      have c3 := h3.cell 3
      have c4 := h3.cell 4
      have c5 := h3.cell 5
      have d0 := h5.cell 0
      have d1 := h5.cell 1
      have d2 := h5.cell 2
      have d3 := h5.cell 3
      have d4 := h5.cell 4
      have d5 := h5.cell 5
      have f0 := h5.frozen 0
      have f1 := h5.frozen 1
      have f2 := h5.frozen 2
      have f3 := h5.frozen 3
      have f4 := h5.frozen 4
      have f5 := h5.frozen 5
      simp [Room.cs, room0] at c0 c1 c2 c3 c4 c5 d0 d1 d2 d3 d4 d5
      have HR := Lib.hid hr
      have H6 := Lib.hid h6
      have H5 := Lib.hid h5
      clear h1 h2 h3 h4 h5 h6 h7 hr hpos hB
      go_wp2
      refine bodyPost_ret (v := .tuple #[.agg r.cs, .bool b]) (by simp [results, Tryz.results71, go_sem, Room.cs, d0, d1, d2, d3, d4, d5]) rfl ⟨by rw [HR.out, hb], ?_⟩
      exact (((((H6.out.setCell (by simp) _).setCell (by simp) _).setCell (by simp) _).setCell (by simp) _).setCell (by simp) _).setCell (by simp) _
end Go.Proofs.YtdkclapinedgiaaGreatDoor

namespace Go.Proofs.YtdkclapinedgiaaGreatDoor
open Go.RowKit

def Insn.cs (x : Insn) : Array Value := #[.int .i64 x.op, .int .i64 x.a, .int .i64 x.b, .int .i64 x.c, .int .i64 x.d, .int .i64 x.k, .int .u32 x.i]
def Insn.v (x : Insn) : Value := .agg x.cs

theorem within_wrap (k : Int) (h0 : -9223372036854775808 ≤ k) (h1 : k ≤ 9223372036854775807) : within (wrap64 (k + 128)) 255 = within (k + 128) 255 := by
  unfold within wrap64
  rw [Bool.eq_iff_iff]; simp; omega

set_option maxHeartbeats 4000000 in
theorem has_any (r : Room) (x : Insn) (w : World) (h0 : -9223372036854775808 ≤ x.k) (h1 : x.k ≤ 9223372036854775807) :
    Calls Tryz.prog 72 #[.agg r.cs, .agg x.cs] w fun e w' => e = .returned (.bool (r.has x)) ∧ Below w.heap.size w w' := by
  have hw := Lib.hid (within_wrap x.k h0 h1)
  unfold Insn.cs Room.cs
  clear h0 h1
  go_enter Tryz.func72, Tryz.ntmps72
  go_wp2_with (go_at_call 130; refine (has1_any _ _ _).mono ?_; rintro e w' ⟨rfl, rfl⟩)
  all_goals (go_ret; refine ⟨?_, ((Below.refl _ w).alloc (Nat.le_refl _) _).alloc (by simp) _⟩)
  all_goals (have hw := hw.out; simp_all [Room.has])

end Go.Proofs.YtdkclapinedgiaaGreatDoor
