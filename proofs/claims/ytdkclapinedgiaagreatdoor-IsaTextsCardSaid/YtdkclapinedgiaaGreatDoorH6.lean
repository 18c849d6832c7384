/- Contracts: what reads the operands: texts of the field D, numbers in hexadecimal notation, places in memory. -/
import Derived.Test.YtdkclapinedgiaaGreatDoorH5
import Derived.Test.YtdkclapinedgiaaGreatDoorD2
namespace Go.Proofs.YtdkclapinedgiaaGreatDoor
open Go.RowKit

theorem TabIs_below12 {n : String} {g : Nat} {k : IntKind} {zs : List Int} {w w' : World} (hg : Tryz.prog.globalNamed n = some g) (h12 : g < 12) (h : Lib.TabIs Tryz.prog w n k zs) (hb : Below 12 w w') : Lib.TabIs Tryz.prog w' n k zs := by
  unfold Lib.TabIs World.var? at h ⊢
  rw [hg] at h ⊢
  simp only [Option.bind_some] at h ⊢
  rw [hb.block g h12]
  exact h
/-- The library's variables lie in the first twelve blocks. -/
theorem Env.below12 {w w' : World} (h : Env w) (hb : Below 12 w w') : Env w' where
  size := Nat.le_trans h.size hb.size
  maxLen := by obtain ⟨m, hm⟩ := h.maxLen; exact ⟨m, by rw [hb.cell (p := ⟨2, 0, none⟩) (by decide)]; exact hm⟩
  space := TabIs_below12 gSpace (by decide) h.space hb
  pow := TabIs_below12 gPow (by decide) h.pow hb
  bruijn := by rw [hb.cell (p := ⟨11, 15, none⟩) (by decide)]; exact h.bruijn
  synt := by obtain ⟨m, x, hm⟩ := h.synt; exact ⟨m, x, by rw [hb.cell (p := ⟨8, 0, none⟩) (by decide)]; exact hm⟩
  rng := by obtain ⟨m, x, hm⟩ := h.rng; exact ⟨m, x, by rw [hb.cell (p := ⟨9, 0, none⟩) (by decide)]; exact hm⟩
theorem strIdx_in (l : List (List UInt8)) (x : List UInt8) : -1 ≤ strIdx l x ∧ strIdx l x ≤ l.length := by
  unfold strIdx
  cases h : l.findIdx? (· == x) with
  | none => simp
  | some k =>
    rw [List.findIdx?_eq_some_iff_getElem] at h
    obtain ⟨hk, _⟩ := h
    constructor <;> simp <;> omega
theorem Insn.In.setD {x : Insn} (hi : x.In) {v : Int} (h0 : -1 ≤ v) (h1 : v ≤ 100) : Insn.In { x with d := v } := ⟨hi.op, hi.a, hi.b, hi.c, ⟨by show _ ≤ v; omega, by show v ≤ _; omega⟩, hi.k, hi.i⟩

def TabReads (w : World) (r : List (List UInt8)) (n : Nat) (e : Ending) (w' : World) : Prop :=
  e = .returned (.slice (some ⟨w.heap.size, 0, none⟩) n n) ∧ Reads w' w'.heap.size 1 (some ⟨w.heap.size, 0, none⟩) n (r.map strV) ∧ Below w.heap.size w w'
theorem TabPost.reads {w : World} {r : List (List UInt8)} {n : Nat} {e : Ending} {w' : World} (h : TabPost w r e w') (hn : r.length = n) : TabReads w r n e w' := by
  obtain ⟨rfl, rfl⟩ := h
  subst hn
  exact ⟨rfl, reads_of_blk (Blk.new w 9 _) (by simp [strV]) (by simp), (Below.refl _ w).alloc (Nat.le_refl _) _⟩

set_option maxHeartbeats 2000000 in
theorem rd149 (g : List UInt8) (x : Insn) (hi : x.In) (b : Nat) (w : World) (he : Env w) (hx : Blk w b 24 x.cs) :
    Calls Tryz.prog 149 #[.string ⟨g.toArray⟩, .pointer (some ⟨b, 0, none⟩)] w (RdPost b w (some { x with d := strIdx condTab g })) := by
  have HC := Lib.hid ((conditions_any w he).mono fun e w' h => TabPost.reads (n := 16) h rfl)
  have HS := Lib.hid (show ∀ W, Reads W W.heap.size 1 (some ⟨w.heap.size, 0, none⟩) 16 (condTab.map strV) → Calls Tryz.prog 83 #[.slice (some ⟨w.heap.size, 0, none⟩) 16 16, .string ⟨g.toArray⟩] W fun e w' => e = .returned (.int .i64 (strIdx condTab g)) ∧ W = w' from fun W hr => sindex_any _ 16 16 condTab g W hr (by decide))
  have HX := Lib.hid hx
  have HI := Lib.hid (hi.setD (strIdx_in condTab g).1 (by have := (strIdx_in condTab g).2; have : condTab.length = 16 := rfl; omega))
  have hlt := hx.lt
  have c : w.cell? ⟨b, 4, none⟩ = some (.int .i64 x.d) := hx.cell 4
  have f := hx.frozen 4
  clear he hx hi
  generalize strIdx condTab g = v at *
  go_enter Tryz.func149, Tryz.ntmps149
  go_wp2_with (first
    | (go_at_call 102; refine HC.out.mono ?_; rintro e w1 ⟨rfl, hr, hb⟩; replace hr := Lib.hid hr; obtain ⟨hc1, hf1⟩ := bcell hb)
    | (go_at_call 83; refine (HS.out _ (Hid.out (by assumption))).mono ?_; rintro e w2 ⟨rfl, rfl⟩))
  go_end0
  exact ⟨_, ⟨rfl, rfl⟩, (HX.out.call hb).set_ 4 _, HI.out, (hb.beside b).setCell _ _⟩

set_option maxHeartbeats 2000000 in
theorem rd150 (g : List UInt8) (x : Insn) (hi : x.In) (b : Nat) (w : World) (he : Env w) (hx : Blk w b 24 x.cs) :
    Calls Tryz.prog 150 #[.string ⟨g.toArray⟩, .pointer (some ⟨b, 0, none⟩)] w (RdPost b w (some { x with d := strIdx extTab g })) := by
  have HC := Lib.hid ((extensions_any w he).mono fun e w' h => TabPost.reads (n := 4) h rfl)
  have HS := Lib.hid (show ∀ W, Reads W W.heap.size 1 (some ⟨w.heap.size, 0, none⟩) 4 (extTab.map strV) → Calls Tryz.prog 83 #[.slice (some ⟨w.heap.size, 0, none⟩) 4 4, .string ⟨g.toArray⟩] W fun e w' => e = .returned (.int .i64 (strIdx extTab g)) ∧ W = w' from fun W hr => sindex_any _ 4 4 extTab g W hr (by decide))
  have HX := Lib.hid hx
  have HI := Lib.hid (hi.setD (strIdx_in extTab g).1 (by have := (strIdx_in extTab g).2; have : extTab.length = 4 := rfl; omega))
  have hlt := hx.lt
  have c : w.cell? ⟨b, 4, none⟩ = some (.int .i64 x.d) := hx.cell 4
  have f := hx.frozen 4
  clear he hx hi
  generalize strIdx extTab g = v at *
  go_enter Tryz.func150, Tryz.ntmps150
  go_wp2_with (first
    | (go_at_call 104; refine HC.out.mono ?_; rintro e w1 ⟨rfl, hr, hb⟩; replace hr := Lib.hid hr; obtain ⟨hc1, hf1⟩ := bcell hb)
    | (go_at_call 83; refine (HS.out _ (Hid.out (by assumption))).mono ?_; rintro e w2 ⟨rfl, rfl⟩))
  go_end0
  exact ⟨_, ⟨rfl, rfl⟩, (HX.out.call hb).set_ 4 _, HI.out, (hb.beside b).setCell _ _⟩

set_option maxHeartbeats 2000000 in
theorem rd151 (g : List UInt8) (x : Insn) (hi : x.In) (b : Nat) (w : World) (he : Env w) (hx : Blk w b 24 x.cs) :
    Calls Tryz.prog 151 #[.string ⟨g.toArray⟩, .pointer (some ⟨b, 0, none⟩)] w (RdPost b w (some { x with d := strIdx laneTab g })) := by
  have HC := Lib.hid ((lanes_any w he).mono fun e w' h => TabPost.reads (n := 3) h rfl)
  have HS := Lib.hid (show ∀ W, Reads W W.heap.size 1 (some ⟨w.heap.size, 0, none⟩) 3 (laneTab.map strV) → Calls Tryz.prog 83 #[.slice (some ⟨w.heap.size, 0, none⟩) 3 3, .string ⟨g.toArray⟩] W fun e w' => e = .returned (.int .i64 (strIdx laneTab g)) ∧ W = w' from fun W hr => sindex_any _ 3 3 laneTab g W hr (by decide))
  have HX := Lib.hid hx
  have HI := Lib.hid (hi.setD (strIdx_in laneTab g).1 (by have := (strIdx_in laneTab g).2; have : laneTab.length = 3 := rfl; omega))
  have hlt := hx.lt
  have c : w.cell? ⟨b, 4, none⟩ = some (.int .i64 x.d) := hx.cell 4
  have f := hx.frozen 4
  clear he hx hi
  generalize strIdx laneTab g = v at *
  go_enter Tryz.func151, Tryz.ntmps151
  go_wp2_with (first
    | (go_at_call 106; refine HC.out.mono ?_; rintro e w1 ⟨rfl, hr, hb⟩; replace hr := Lib.hid hr; obtain ⟨hc1, hf1⟩ := bcell hb)
    | (go_at_call 83; refine (HS.out _ (Hid.out (by assumption))).mono ?_; rintro e w2 ⟨rfl, rfl⟩))
  go_end0
  exact ⟨_, ⟨rfl, rfl⟩, (HX.out.call hb).set_ 4 _, HI.out, (hb.beside b).setCell _ _⟩

set_option maxHeartbeats 2000000 in
theorem rd155 (g : List UInt8) (hg : g.length ≤ 1000000) (x : Insn) (hi : x.In) (b : Nat) (w : World) (he : Env w) (hx : Blk w b 24 x.cs) :
    Calls Tryz.prog 155 #[.string ⟨g.toArray⟩, .pointer (some ⟨b, 0, none⟩)] w (RdPost b w ((unhexOf g).map fun v => { x with i := v })) := by
  have HN := Lib.hid (unhex_any g hg w he)
  have HV := Lib.hid (fun v h => unhexOf_in (s := g) (v := v) h)
  have HX := Lib.hid hx
  have HI := Lib.hid hi
  have hlt := hx.lt
  have c : w.cell? ⟨b, 6, none⟩ = some (.int .u32 x.i) := hx.cell 6
  have f := hx.frozen 6
  clear he hx hi hg
  generalize unhexOf g = o at *
  rcases o with _ | v
  · go_enter Tryz.func155, Tryz.ntmps155
    go_wp2_with (go_at_call 156; refine HN.out.mono ?_; rintro e w1 ⟨rfl, hb⟩)
    exact ⟨rfl, x, rfl, HX.out.call hb, HI.out, hb.beside b⟩
  · have hv := HV.out v rfl
    have HVV := Lib.hid hv
    clear hv
    go_enter Tryz.func155, Tryz.ntmps155
    go_wp2_with (go_at_call 156; refine HN.out.mono ?_; rintro e w1 ⟨rfl, hb⟩; obtain ⟨hc1, hf1⟩ := bcell hb)
    go_end0
    have hi := HI.out
    have hv := HVV.out
    refine ⟨_, ⟨rfl, rfl⟩, ?_, ⟨hi.op, hi.a, hi.b, hi.c, hi.d, hi.k, ⟨hv.1, by show v < _; omega⟩⟩, (hb.beside b).setCell _ _⟩
    exact (HX.out.call hb).set_ 6 _

/-- An index at which the library finds a sign. -/
structure IdxOk (t : List UInt8) (i : Int) : Prop where
  lo : -1 ≤ i
  hi : i ≤ t.length
  run : ∀ W, Env W → Calls Tryz.prog 176 #[.string ⟨t.toArray⟩, .string ⟨#[43, 45]⟩] W fun e w' => e = .returned (.int .i64 i) ∧ Below W.heap.size W w'
/-- A place in memory with a number in hexadecimal notation. -/
def nOp (g : List UInt8) (i : Int) (x : Insn) : Option Insn :=
  match memAt g i with
  | none => none
  | some p => (unhexOf (Lib.trimPrefix p.2 [43])).map fun v => { x with b := p.1, i := v }
/-- A place in memory with a number in decimal notation, or none. -/
def mOp (g : List UInt8) (i : Int) (x : Insn) : Option Insn :=
  match memAt g i with
  | none => none
  | some p => if p.2 = [] then some { x with b := p.1 } else (numOf p.2 []).map fun v => { x with b := p.1, k := v }
theorem inner_len (s : List UInt8) : (inner s).length ≤ s.length := by
  unfold inner Lib.trimSuffix Lib.trimPrefix
  split <;> split <;> first | omega | (simp only [List.length_take, List.length_drop]; omega)
theorem memAt_in {s : List UInt8} {i : Int} {p : Int × List UInt8} (h : memAt s i = some p) : (-9223372036854775808 ≤ p.1 ∧ p.1 ≤ 9223372036854775807) ∧ p.2.length ≤ s.length := by
  unfold memAt at h
  split at h
  · cases hn : numOf ((inner s).take (cutAt (inner s) i)) [114] with
    | none => rw [hn] at h; cases h
    | some v =>
      rw [hn] at h
      simp at h
      subst h
      exact ⟨numOf_in hn, by have := inner_len s; simp only [List.length_drop]; omega⟩
  · cases h

set_option maxHeartbeats 2000000 in
theorem rd157 (g : List UInt8) (hg : g.length ≤ 1000000) (i : Int) (hx0 : IdxOk (inner g) i) (x : Insn) (hi : x.In) (b : Nat) (w : World) (he : Env w) (hx : Blk w b 24 x.cs) :
    Calls Tryz.prog 157 #[.string ⟨g.toArray⟩, .pointer (some ⟨b, 0, none⟩)] w (RdPost b w (nOp g i x)) := by
  have HM := Lib.hid (memory_at g hg i hx0.lo hx0.hi w he hx0.run)
  have HMI := Lib.hid (fun p h => memAt_in (s := g) (i := i) (p := p) h)
  have HE := Lib.hid (below_env he)
  have HX := Lib.hid hx
  have HI := Lib.hid hi
  have hlt := hx.lt
  have c2 : w.cell? ⟨b, 2, none⟩ = some (.int .i64 x.b) := hx.cell 2
  have c6 : w.cell? ⟨b, 6, none⟩ = some (.int .u32 x.i) := hx.cell 6
  have f2 := hx.frozen 2
  have f6 := hx.frozen 6
  clear he hx hi hx0
  unfold nOp
  generalize memAt g i = o at *
  rcases o with _ | ⟨n, rest⟩
  · go_enter Tryz.func157, Tryz.ntmps157
    go_wp2_with (go_at_call 158; refine HM.out.mono ?_; rintro e w1 ⟨rfl, hb⟩)
    exact ⟨rfl, x, rfl, HX.out.call hb, HI.out, hb.beside b⟩
  · have HN := Lib.hid (HMI.out _ rfl)
    have htp : (Lib.trimPrefix rest [43]).length ≤ 1000000 := by
      have := HN.out.2
      unfold Lib.trimPrefix; split
      · rw [List.length_drop]; simp at this ⊢; omega
      · simp at this; omega
    have HT := Lib.hid (show ∀ W, Calls Tryz.prog 159 #[.string ⟨rest.toArray⟩, .string ⟨#[43]⟩] W fun e w' => e = .returned (.string ⟨(Lib.trimPrefix rest [43]).toArray⟩) ∧ w' = W from fun W => by
      have := Tryz.strings_TrimPrefix ⟨rest.toArray⟩ ⟨[43].toArray⟩ W
      rw [show (⟨rest.toArray⟩ : ByteArray).data.toList = rest by simp, show (⟨([43] : List UInt8).toArray⟩ : ByteArray).data.toList = [43] by simp] at this
      exact this)
    have HU := Lib.hid (fun W hW => unhex_any (Lib.trimPrefix rest [43]) htp W hW)
    have HUV := Lib.hid (fun v h => unhexOf_in (s := Lib.trimPrefix rest [43]) (v := v) h)
    show Calls _ _ _ _ (RdPost b w ((unhexOf (Lib.trimPrefix rest [43])).map fun v => { x with b := n, i := v }))
    clear htp
    generalize Lib.trimPrefix rest [43] = t at *
    generalize unhexOf t = o at *
    rcases o with _ | v
    · go_enter Tryz.func157, Tryz.ntmps157
      go_wp2_with (first
        | (go_at_call 158; refine HM.out.mono ?_; rintro e w1 ⟨rfl, hb⟩; have HB := Lib.hid hb)
        | (go_at_call 159; refine (HT.out _).mono ?_; rintro e w2 ⟨rfl, rfl⟩)
        | (go_at_call 156; refine (HU.out _ (HE.out _ (by assumption))).mono ?_; rintro e w3 ⟨rfl, hb3⟩))
      have hb := HB.out
      exact ⟨rfl, x, rfl, (HX.out.call hb).call hb3, HI.out, (hb.beside b).trans (hb3.beside b)⟩
    · have HVV := Lib.hid (HUV.out v rfl)
      go_enter Tryz.func157, Tryz.ntmps157
      go_wp2_with (first
        | (go_at_call 158; refine HM.out.mono ?_; rintro e w1 ⟨rfl, hb⟩; have HB := Lib.hid hb; have hz1 := hb.size; obtain ⟨hc1, hf1⟩ := bcell hb; have hlt1 : b < w1.heap.size := by { omega })
        | (go_at_call 159; refine (HT.out _).mono ?_; rintro e w2 ⟨rfl, rfl⟩)
        | (go_at_call 156; refine (HU.out _ (HE.out _ (by assumption))).mono ?_; rintro e w3 ⟨rfl, hb3⟩; obtain ⟨hc3, hf3⟩ := bcell hb3))
      go_end0
      have hb := HB.out
      have hi := HI.out
      have hv := HVV.out
      have hn := HN.out.1
      refine ⟨_, ⟨rfl, rfl⟩, ?_, ⟨hi.op, hi.a, hn, hi.c, hi.d, hi.k, ⟨hv.1, by show v < _; omega⟩⟩, (((hb.beside b).trans (hb3.beside b)).setCell _ _).setCell _ _⟩
      exact (((HX.out.call hb).call hb3).set_ 2 _).set_ 6 _

set_option maxHeartbeats 2000000 in
theorem rd160 (g : List UInt8) (hg : g.length ≤ 1000000) (i : Int) (hx0 : IdxOk (inner g) i) (x : Insn) (hi : x.In) (b : Nat) (h12 : 12 ≤ b) (w : World) (he : Env w) (hx : Blk w b 24 x.cs) :
    Calls Tryz.prog 160 #[.string ⟨g.toArray⟩, .pointer (some ⟨b, 0, none⟩)] w (RdPost b w (mOp g i x)) := by
  have HM := Lib.hid (memory_at g hg i hx0.lo hx0.hi w he hx0.run)
  have HMI := Lib.hid (fun p h => memAt_in (s := g) (i := i) (p := p) h)
  have HE := Lib.hid (show ∀ W, Below 12 w W → Env W from fun W hW => he.below12 hW)
  have HW := Lib.hid he.size
  have H12 := Lib.hid h12
  have HX := Lib.hid hx
  have HI := Lib.hid hi
  have hlt := hx.lt
  have c2 : w.cell? ⟨b, 2, none⟩ = some (.int .i64 x.b) := hx.cell 2
  have c5 : w.cell? ⟨b, 5, none⟩ = some (.int .i64 x.k) := hx.cell 5
  have f2 := hx.frozen 2
  have f5 := hx.frozen 5
  clear he hx hi hx0 h12
  unfold mOp
  generalize memAt g i = o at *
  rcases o with _ | ⟨n, rest⟩
  · go_enter Tryz.func160, Tryz.ntmps160
    go_wp2_with (go_at_call 158; refine HM.out.mono ?_; rintro e w1 ⟨rfl, hb⟩)
    exact ⟨rfl, x, rfl, HX.out.call hb, HI.out, hb.beside b⟩
  · have HN := Lib.hid (HMI.out _ rfl)
    by_cases hr : rest = []
    · subst hr
      show Calls _ _ _ _ (RdPost b w (some { x with b := n }))
      go_enter Tryz.func160, Tryz.ntmps160
      go_wp2_with (go_at_call 158; refine HM.out.mono ?_; rintro e w1 ⟨rfl, hb⟩; obtain ⟨hc1, hf1⟩ := bcell hb)
      go_end0
      have hi := HI.out
      exact ⟨_, ⟨rfl, rfl⟩, (HX.out.call hb).set_ 2 _, ⟨hi.op, hi.a, HN.out.1, hi.c, hi.d, hi.k, hi.i⟩, (hb.beside b).setCell _ _⟩
    · have HU := Lib.hid (fun W hW => number_any rest [] (by have := HN.out.2; simp at this; omega) W hW)
      have HUV := Lib.hid (fun v h => numOf_in (s := rest) (p := []) (v := v) h)
      have hne : rest.isEmpty = false := by cases rest with | nil => exact absurd rfl hr | cons => rfl
      have e1 : (match (some (n, rest) : Option (Int × List UInt8)) with
          | none => none
          | some p => if p.2 = [] then some { x with b := p.1 } else (numOf p.2 []).map fun v => { x with b := p.1, k := v }) = (numOf rest []).map fun v => { x with b := n, k := v } := by
        show (if rest = [] then _ else _) = _
        rw [if_neg hr]
      rw [e1]
      clear e1 hr
      generalize numOf rest [] = o at *
      rcases o with _ | v
      · go_enter Tryz.func160, Tryz.ntmps160
        go_wp2_with (first
          | (go_at_call 158; refine HM.out.mono ?_; rintro e w1 ⟨rfl, hb⟩; have HB := Lib.hid hb; have hz1 := hb.size; obtain ⟨hc1, hf1⟩ := bcell hb; have hlt1 : b < w1.heap.size := by { omega })
          | (go_at_call 143; refine (HU.out _ (HE.out _ ((hb.mono HW.out).setCell (p := ⟨b, 2, none⟩) H12.out _))).mono ?_; rintro e w3 ⟨rfl, hb3⟩))
        have hi := HI.out
        exact ⟨rfl, { x with b := n }, rfl, ((HX.out.call HB.out).set_ 2 _).call hb3, ⟨hi.op, hi.a, HN.out.1, hi.c, hi.d, hi.k, hi.i⟩, ((HB.out.beside b).setCell _ _).trans (hb3.beside b)⟩
      · have HVV := Lib.hid (HUV.out v rfl)
        go_enter Tryz.func160, Tryz.ntmps160
        go_wp2_with (first
          | (go_at_call 158; refine HM.out.mono ?_; rintro e w1 ⟨rfl, hb⟩; have HB := Lib.hid hb; have hz1 := hb.size; obtain ⟨hc1, hf1⟩ := bcell hb; have hlt1 : b < w1.heap.size := by { omega })
          | (go_at_call 143; refine (HU.out _ (HE.out _ ((hb.mono HW.out).setCell (p := ⟨b, 2, none⟩) H12.out _))).mono ?_; rintro e w3 ⟨rfl, hb3⟩; have HB3 := Lib.hid hb3; obtain ⟨hc3, hf3⟩ := bcell hb3))
        go_end0
        have hi := HI.out
        refine ⟨_, ⟨rfl, rfl⟩, ?_, ⟨hi.op, hi.a, HN.out.1, hi.c, hi.d, HVV.out, hi.i⟩, (((HB.out.beside b).setCell _ _).trans (HB3.out.beside b)).setCell _ _⟩
        exact (((HX.out.call HB.out).set_ 2 _).call HB3.out).set_ 5 _
end Go.Proofs.YtdkclapinedgiaaGreatDoor
