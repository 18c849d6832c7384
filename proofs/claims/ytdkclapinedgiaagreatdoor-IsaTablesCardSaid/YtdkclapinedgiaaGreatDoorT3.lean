/- IsaTables of the law's package: the walk. -/
import Derived.Test.YtdkclapinedgiaaGreatDoorT2
namespace Go.Proofs.YtdkclapinedgiaaGreatDoor
open Go.RowKit

theorem below_dq {w W : World} (h : Below w.heap.size w W) (q : Nat) : Below w.heap.size w (W.drewN q) := h.call (show Below W.heap.size W (W.drewN q) from ⟨rfl, rfl, rfl, Nat.le_refl _, fun _ _ => rfl⟩) h.size
/-- What a function answers in every world that goes back to w, where something is known of the world behind it. -/
def TellsK (w : World) (f : Nat) (args : Array Value) (R : Value → World → Prop) : Prop := ∀ W, Below w.heap.size w W → Calls Tryz.prog f args W fun e w' => (∃ v, e = .returned v ∧ R v w') ∧ Below W.heap.size W w'
/-- A slice of numbers and a truth value. -/
def FldR (ks : List Int) (b : Bool) (v : Value) (w' : World) : Prop := ∃ A n c, v = .tuple #[.slice A n c, .bool b] ∧ n ≤ 5 ∧ Reads w' w'.heap.size 1 A n (i64s ks)
/-- A list of instructions, a place and an error. -/
def LstR (l : List Insn) (at_ er : Int) (v : Value) (w' : World) : Prop := ∃ A n c, v = .tuple #[.slice A n c, .int .i64 at_, .int .i64 er] ∧ n ≤ 100000 ∧ Reads w' w'.heap.size 7 A n (flat l)

theorem fld_says (op : Int) (w : World) : ∃ b ks, TellsK w 42 #[.int .i64 op] (FldR ks b) ∧ TellsK w 43 #[.int .i64 op] (FldR ks b) := by
  have hl5 : (kindsOf op).length ≤ 5 := by unfold kindsOf; rw [List.length_map]; exact opnd_len op
  refine ⟨(opnd op).2, kindsOf op, fun W _ => ?_, fun W _ => ?_⟩
  · refine (Fields_any op W).mono ?_
    rintro e w' ⟨⟨A, k, rfl, _, hr⟩, hb⟩
    exact ⟨⟨_, rfl, A, _, k, rfl, hl5, hr⟩, hb⟩
  · refine (rfields_any op W).mono ?_
    rintro e w' ⟨cs, b, hcase, hcs, hb⟩
    subst hb
    have hn : cs.size = (kindsOf op).length := by have := congrArg List.length hcs; simpa using this
    rcases hcase with ⟨rfl, rfl, rfl⟩ | ⟨rfl, rfl⟩
    · have h0 : (kindsOf op).length = 0 := by rw [← hn]; rfl
      rw [List.length_eq_zero_iff.1 h0]
      exact ⟨⟨_, rfl, none, 0, 0, rfl, by omega, Reads.none_⟩, Below.refl _ _⟩
    · refine ⟨⟨_, rfl, some ⟨W.heap.size, 0, none⟩, cs.size, cs.size, rfl, by omega, ?_⟩, (Below.refl _ _).alloc (Nat.le_refl _) _⟩
      exact reads_of_blk (Blk.new W 3 cs) hcs (by simp [i64s, hn])
theorem lst_of {w : World} {f : Nat} {n : Nat} {A : Option Addr} {c : Nat} {ps : List (Int × Insn)} (hn : n ≤ 100000) (hps : 4 * ps.length ≤ n)
    (h : ∀ W, Below w.heap.size w W → Calls Tryz.prog f #[.slice A n c] W (ListPost W n ps)) :
    TellsK w f #[.slice A n c] (if endAt ps < n then LstR [] (endAt ps) 6 else LstR (ps.map (·.2)) 0 0) := fun W hW => by
  refine (h W hW).mono ?_
  rintro e w' ⟨hb, hc⟩
  refine ⟨?_, hb⟩
  split at hc
  · rename_i hlt
    refine ⟨_, hc, ?_⟩
    rw [if_pos hlt]
    exact ⟨none, 0, 0, rfl, by omega, Reads.none_⟩
  · rename_i hlt
    obtain ⟨v, he, hown, _⟩ := hc
    refine ⟨_, he, ?_⟩
    rw [if_neg hlt]
    rw [cellsOf_flat] at hown
    have hl : (ps.map (·.2)).length = ps.length := by simp
    rw [← hl] at hown
    obtain ⟨A', k, rfl, _, hr, _⟩ := own_slice hown
    exact ⟨A', _, k, rfl, by rw [hl]; omega, hr⟩

set_option maxRecDepth 100000 in
set_option maxHeartbeats 40000000 in
theorem tables_walk (A : Option Addr) (n c : Nat) (op at_ er k : Int) (s nm : ByteArray) (bn bk bf : Bool) (l : List Insn) (ks : List Int) (w : World)
    (hsane : ∀ W, Below w.heap.size w W → Calls Tryz.prog 15 #[] W fun e w' => e = .returned (.bool true) ∧ Below W.heap.size W w')
    (hL : n ≤ 100000 → TellsK w 35 #[.slice A n c] (LstR l at_ er) ∧ TellsK w 36 #[.slice A n c] (LstR l at_ er))
    (hN1 : ∀ W, Below w.heap.size w W → Calls Tryz.prog 38 #[.int .i64 op] W fun e w' => e = .returned (.tuple #[.string nm, .bool bn]) ∧ Below W.heap.size W w')
    (hN2 : ∀ W, Below w.heap.size w W → Calls Tryz.prog 39 #[.int .i64 op] W fun e w' => e = .returned (.tuple #[.string nm, .bool bn]) ∧ Below W.heap.size W w')
    (hO1 : ∀ W, Below w.heap.size w W → Calls Tryz.prog 40 #[.string s] W fun e w' => e = .returned (.tuple #[.int .i64 k, .bool bk]) ∧ Below W.heap.size W w')
    (hO2 : ∀ W, Below w.heap.size w W → Calls Tryz.prog 41 #[.string s] W fun e w' => e = .returned (.tuple #[.int .i64 k, .bool bk]) ∧ Below W.heap.size W w')
    (hF1 : TellsK w 42 #[.int .i64 op] (FldR ks bf)) (hF2 : TellsK w 43 #[.int .i64 op] (FldR ks bf)) :
    Calls Tryz.prog 9 #[.slice A n c, .int .i64 op, .string s] w fun e w' => e = .returned (.bool true) ∧ Below w.heap.size w w' := by
  have HS := Lib.hid hsane
  have HN1 := Lib.hid hN1
  have HN2 := Lib.hid hN2
  have HO1 := Lib.hid hO1
  have HO2 := Lib.hid hO2
  have HF1 := Lib.hid hF1
  have HF2 := Lib.hid hF2
  have HL := Lib.hid hL
  clear hsane hN1 hN2 hO1 hO2 hF1 hF2 hL
  unfold TellsK FldR at HF1 HF2
  unfold TellsK LstR at HL
  go_enter Tryz.func9, Tryz.ntmps9
  go_wp2_with fail
  refine (HS.out _ (Below.refl _ w)).mono ?_
  rintro e w1 ⟨rfl, hb⟩
  have HW := Lib.hid hb
  clear hb HS
  by_cases hn : (n : Int) ≤ 100000
  · have hn' : n ≤ 100000 := by omega
    have HL1 := Lib.hid (HL.out hn').1
    have HL2 := Lib.hid (HL.out hn').2
    clear HL hn'
    go_wp2_with fail
    refine (HL1.out _ HW.out).mono ?_
    rintro e w2 ⟨⟨v, rfl, A1, n1, c1, rfl, hn1, hr1⟩, hb⟩
    replace HW := Lib.hid (HW.out.call hb HW.out.size)
    have HR1 := Lib.hid hr1
    clear hb HL1 hr1
    go_wp2_with fail
    refine (HL2.out _ HW.out).mono ?_
    rintro e w3 ⟨⟨v, rfl, A2, n2, c2, rfl, hn2, hr2⟩, hb⟩
    replace HW := Lib.hid (HW.out.call hb HW.out.size)
    replace HR1 := Lib.hid ((HR1.out.below hb).more hb.size)
    have HQ := Lib.hid (iequal_any A1 A2 n1 n2 c1 c2 l l w3 HR1.out hr2 (by omega) (by omega))
    clear hb HL2 hr2 HR1
    rw [decide_eq_true rfl] at HQ
    go_wp2_with fail
    refine (HQ.out).mono ?_
    rintro e w4 ⟨rfl, q, rfl⟩
    replace HW := Lib.hid (below_dq HW.out q)
    clear HQ
    go_wp2_with fail

    refine (HN1.out _ HW.out).mono ?_
    rintro e w5 ⟨rfl, hb⟩
    replace HW := Lib.hid (HW.out.call hb HW.out.size)
    clear hb HN1
    go_wp2_with fail
    refine (HN2.out _ HW.out).mono ?_
    rintro e w6 ⟨rfl, hb⟩
    replace HW := Lib.hid (HW.out.call hb HW.out.size)
    clear hb HN2
    go_wp2_with fail
    refine (HO1.out _ HW.out).mono ?_
    rintro e w7 ⟨rfl, hb⟩
    replace HW := Lib.hid (HW.out.call hb HW.out.size)
    clear hb HO1
    go_wp2_with fail
    refine (HO2.out _ HW.out).mono ?_
    rintro e w8 ⟨rfl, hb⟩
    replace HW := Lib.hid (HW.out.call hb HW.out.size)
    clear hb HO2
    go_wp2_with fail
    refine (HF1.out _ HW.out).mono ?_
    rintro e w9 ⟨⟨v, rfl, A3, n3, c3, rfl, hn3, hr3⟩, hb⟩
    replace HW := Lib.hid (HW.out.call hb HW.out.size)
    have HR3 := Lib.hid hr3
    clear hb HF1 hr3
    go_wp2_with fail
    refine (HF2.out _ HW.out).mono ?_
    rintro e w10 ⟨⟨v, rfl, A4, n4, c4, rfl, hn4, hr4⟩, hb⟩
    replace HW := Lib.hid (HW.out.call hb HW.out.size)
    replace HR3 := Lib.hid ((HR3.out.below hb).more hb.size)
    have HQ := Lib.hid (nequal_any A3 A4 n3 n4 c3 c4 ks ks w10 HR3.out hr4 (by omega) (by omega))
    clear hb HF2 hr4 HR3
    rw [decide_eq_true rfl] at HQ
    go_wp2_with fail
    refine (HQ.out).mono ?_
    rintro e w11 ⟨rfl, q, rfl⟩
    clear HQ
    go_wp2_with fail
    go_ret
    exact ⟨rfl, below_dq HW.out q⟩
  · clear HL
    go_wp2_with fail

    refine (HN1.out _ HW.out).mono ?_
    rintro e w5 ⟨rfl, hb⟩
    replace HW := Lib.hid (HW.out.call hb HW.out.size)
    clear hb HN1
    go_wp2_with fail
    refine (HN2.out _ HW.out).mono ?_
    rintro e w6 ⟨rfl, hb⟩
    replace HW := Lib.hid (HW.out.call hb HW.out.size)
    clear hb HN2
    go_wp2_with fail
    refine (HO1.out _ HW.out).mono ?_
    rintro e w7 ⟨rfl, hb⟩
    replace HW := Lib.hid (HW.out.call hb HW.out.size)
    clear hb HO1
    go_wp2_with fail
    refine (HO2.out _ HW.out).mono ?_
    rintro e w8 ⟨rfl, hb⟩
    replace HW := Lib.hid (HW.out.call hb HW.out.size)
    clear hb HO2
    go_wp2_with fail
    refine (HF1.out _ HW.out).mono ?_
    rintro e w9 ⟨⟨v, rfl, A3, n3, c3, rfl, hn3, hr3⟩, hb⟩
    replace HW := Lib.hid (HW.out.call hb HW.out.size)
    have HR3 := Lib.hid hr3
    clear hb HF1 hr3
    go_wp2_with fail
    refine (HF2.out _ HW.out).mono ?_
    rintro e w10 ⟨⟨v, rfl, A4, n4, c4, rfl, hn4, hr4⟩, hb⟩
    replace HW := Lib.hid (HW.out.call hb HW.out.size)
    replace HR3 := Lib.hid ((HR3.out.below hb).more hb.size)
    have HQ := Lib.hid (nequal_any A3 A4 n3 n4 c3 c4 ks ks w10 HR3.out hr4 (by omega) (by omega))
    clear hb HF2 hr4 HR3
    rw [decide_eq_true rfl] at HQ
    go_wp2_with fail
    refine (HQ.out).mono ?_
    rintro e w11 ⟨rfl, q, rfl⟩
    clear HQ
    go_wp2_with fail
    go_ret
    exact ⟨rfl, below_dq HW.out q⟩

theorem tables_of (A : Option Addr) (n c : Nat) (l : List Int) (op : Int) (s : ByteArray) (w : World) (hr : Reads w w.heap.size 1 A n (u8s l)) (hb : Bytes l) (hnc : n ≤ c)
    (hsane : ∀ W, Below w.heap.size w W → Calls Tryz.prog 15 #[] W fun e w' => e = .returned (.bool true) ∧ Below W.heap.size W w') :
    Calls Tryz.prog 9 #[.slice A n c, .int .i64 op, .string s] w fun e w' => e = .returned (.bool true) ∧ Below w.heap.size w w' := by
  obtain ⟨bf, ks, hF1, hF2⟩ := fld_says op w
  obtain ⟨⟨sl⟩⟩ := s
  have hlen : l.length = n := by have := hr.1; simpa [u8s] using this
  have hps := insns_len n 0 l
  rw [hlen] at hps
  obtain ⟨lx, at_, er, hL⟩ : ∃ lx at_ er, (if endAt (insns n 0 l) < n then LstR [] (endAt (insns n 0 l)) 6 else LstR ((insns n 0 l).map (·.2)) 0 0) = LstR lx at_ er := by
    split
    · exact ⟨_, _, _, rfl⟩
    · exact ⟨_, _, _, rfl⟩
  refine tables_walk A n c op at_ er (opOf sl).1 ⟨⟨sl⟩⟩ ⟨(if (opnd op).2 then nameOf op else []).toArray⟩ (opnd op).2 (opOf sl).2 bf lx ks w hsane ?_ (fun W _ => name_any op W) (fun W _ => rname_any op W) (fun W _ => op_any sl W) (fun W _ => rop_any sl W) hF1 hF2
  intro hn
  rw [← hL]
  exact ⟨lst_of hn hps fun W hW => list_any A n c l W ((hr.below hW).more hW.size) hb hnc (by omega), lst_of hn hps fun W hW => rlist_any A n c l W ((hr.below hW).more hW.size) hb hnc (by omega)⟩
end Go.Proofs.YtdkclapinedgiaaGreatDoor
