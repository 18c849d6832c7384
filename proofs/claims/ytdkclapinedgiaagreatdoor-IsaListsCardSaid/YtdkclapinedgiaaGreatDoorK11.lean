/- IsaLists of the law's package returns true at every slice of instructions and every two slices of bytes, and leaves its arguments as they were: the row and its card. It holds where the listed library variables hold what the program's text lays. -/
import Derived.Test.YtdkclapinedgiaaGreatDoorCards
import Derived.Test.YtdkclapinedgiaaGreatDoorTie
import Derived.Test.YtdkclapinedgiaaGreatDoorK0
import Derived.Test.YtdkclapinedgiaaGreatDoorS5
import Derived.Test.YtdkclapinedgiaaGreatDoorM4
import Derived.Carry
import Derived.SizedLaws
import Derived.ChangeSlices
import Derived.DataElems
namespace Go.Proofs.YtdkclapinedgiaaGreatDoor.isaLists
open Go.ChangeShapes Go.WideShapes Go.ChangeAt Go.RowKit

/-! ### A slice of bytes as an argument. -/
theorem cells5 : Tryz.prog.cellsOf 5 = 1 := by kernel_rfl
theorem bytes5 : Tryz.prog.bytesOf 5 = 1 := by kernel_rfl
theorem under5 : Tryz.prog.underlying 5 = some (.int .u8) := by kernel_rfl
theorem laidOut : laidOutB Tryz.prog = true := by kernel_rfl
set_option maxRecDepth 100000 in
/-- What the reading of a slice of bytes says: its bytes lie there. -/
theorem open_bytes {H : Type} {enc : TypeId × Value → H} {W : World} {v : Value} {d : DataW H} {ps : List MemPlace} {r0 : Reach} {b0 : Nat} (hval : Value.okWide Tryz.prog W r0 b0 44 v) (h : DataW.Trod enc Tryz.prog W 0 (fun _ => true) true 44 v d ps) :
    ∃ (A : Option Addr) (n c : Nat) (l : List Int), v = .slice A n c ∧ Reads W W.heap.size 1 A n (u8s l) ∧ Bytes l ∧ n ≤ c ∧ c ≤ maxLen ∧ (A = none → n = 0 ∧ c = 0) ∧
      ((n = 0 ∧ c = 0) ∨ ∃ e1 e2, d = .slice e1 e2 ∧ e1.length + e2.length = c) := by
  obtain ⟨a0, n0, c0, rfl⟩ := okWide_slice Tryz.underlying44 hval
  obtain ⟨fuel, hf⟩ := h
  rcases open_ints Tryz.underlying44 under5 cells5 hf with ⟨hv, _⟩ | ⟨a, len, cap, zs, hv, _, hlc, hcm, hzl, hx, hc, hw⟩
  · simp [Value.cells] at hv
    obtain ⟨rfl, rfl, rfl⟩ := hv
    refine ⟨none, 0, 0, [], rfl, Reads.none_, ?_, Nat.le_refl _, ?_, fun _ => ⟨rfl, rfl⟩, .inl ⟨rfl, rfl⟩⟩
    · intro x hx; cases hx
    · unfold maxLen; omega
  · simp [Value.cells] at hv
    obtain ⟨rfl, rfl, rfl⟩ := hv
    have hzl' : zs.length = c0 := by simpa using hzl
    refine ⟨some a, n0, c0, zs.take n0, rfl, ⟨?_, fun h0 => ⟨a, rfl, ?_, fun j u hj => ?_⟩⟩, ?_, hlc, hcm, (fun h => by cases h), .inr ⟨_, _, congrArg Prod.fst hx, ?_⟩⟩
    · simp [u8s]; omega
    · have h1 := hc 0 (by omega)
      exact block_lt_of_cell h1
    · unfold u8s at hj
      rw [List.getElem?_map, List.getElem?_take] at hj
      split at hj
      · rename_i hjl
        have hjz : j < zs.length := by omega
        rw [List.getElem?_eq_getElem hjz] at hj
        simp at hj
        rw [hc j hjz, ← hj]
        simp [List.getD_eq_getElem?_getD, hjz]
      · simp at hj
    · intro x hx
      have := hw x (List.mem_of_mem_take hx)
      simp [Lit.wf, IntKind.min, IntKind.max, IntKind.signed, IntKind.bits] at this
      omega
    · simp [lits]; omega


/-! ### A slice of instructions as an argument. -/
set_option maxRecDepth 100000 in
/-- Seven cells that read as an instruction are one's. -/
theorem insn_of_cells {H : Type} {enc : TypeId × Value → H} {W : World} {base : Nat} {sp : Nat → Bool} {held : Bool} {fuel : Nat} {cs : List Value} {y : DataW H × List MemPlace} (hl : cs.length = 7)
    (hf : DataW.trod enc Tryz.prog W base sp held fuel 24 cs = some y) : ∃ x : Insn, cs = x.cs.toList ∧ x.In := by
  obtain ⟨xs, n, _, hx, hln, hlen, hfs⟩ := DataW.trod_struct Tryz.underlying24 hf
  match cs, hl with
  | [v0, v1, v2, v3, v4, v5, v6], _ =>
    match xs, hlen with
    | [y0, y1, y2, y3, y4, y5, y6], _ =>
      have f0 : DataW.trod enc Tryz.prog W base sp held n 3 [v0] = some y0 := by
        have h : DataW.trod enc Tryz.prog W base sp held n 3 (([v0, v1, v2, v3, v4, v5, v6].drop 0).take (Tryz.prog.cellsOf 3)) = some y0 := hfs 0 _ rfl
        rw [c3] at h; exact h
      have f1 : DataW.trod enc Tryz.prog W base sp held n 3 [v1] = some y1 := by
        have h : DataW.trod enc Tryz.prog W base sp held n 3 (([v0, v1, v2, v3, v4, v5, v6].drop 1).take (Tryz.prog.cellsOf 3)) = some y1 := hfs 1 _ rfl
        rw [c3] at h; exact h
      have f2 : DataW.trod enc Tryz.prog W base sp held n 3 [v2] = some y2 := by
        have h : DataW.trod enc Tryz.prog W base sp held n 3 (([v0, v1, v2, v3, v4, v5, v6].drop 2).take (Tryz.prog.cellsOf 3)) = some y2 := hfs 2 _ rfl
        rw [c3] at h; exact h
      have f3 : DataW.trod enc Tryz.prog W base sp held n 3 [v3] = some y3 := by
        have h : DataW.trod enc Tryz.prog W base sp held n 3 (([v0, v1, v2, v3, v4, v5, v6].drop 3).take (Tryz.prog.cellsOf 3)) = some y3 := hfs 3 _ rfl
        rw [c3] at h; exact h
      have f4 : DataW.trod enc Tryz.prog W base sp held n 3 [v4] = some y4 := by
        have h : DataW.trod enc Tryz.prog W base sp held n 3 (([v0, v1, v2, v3, v4, v5, v6].drop 4).take (Tryz.prog.cellsOf 3)) = some y4 := hfs 4 _ rfl
        rw [c3] at h; exact h
      have f5 : DataW.trod enc Tryz.prog W base sp held n 3 [v5] = some y5 := by
        have h : DataW.trod enc Tryz.prog W base sp held n 3 (([v0, v1, v2, v3, v4, v5, v6].drop 5).take (Tryz.prog.cellsOf 3)) = some y5 := hfs 5 _ rfl
        rw [c3] at h; exact h
      have f6 : DataW.trod enc Tryz.prog W base sp held n 22 [v6] = some y6 := by
        have h : DataW.trod enc Tryz.prog W base sp held n 22 (([v0, v1, v2, v3, v4, v5, v6].drop 6).take (Tryz.prog.cellsOf 22)) = some y6 := hfs 6 _ rfl
        rw [c22] at h; exact h
      obtain ⟨n0, e0, rfl, w0⟩ := DataW.trod_int u3 f0
      obtain ⟨n1, e1, rfl, w1⟩ := DataW.trod_int u3 f1
      obtain ⟨n2, e2, rfl, w2⟩ := DataW.trod_int u3 f2
      obtain ⟨n3, e3, rfl, w3⟩ := DataW.trod_int u3 f3
      obtain ⟨n4, e4, rfl, w4⟩ := DataW.trod_int u3 f4
      obtain ⟨n5, e5, rfl, w5⟩ := DataW.trod_int u3 f5
      obtain ⟨n6, e6, rfl, w6⟩ := DataW.trod_int u22 f6
      simp at e0 e1 e2 e3 e4 e5 e6
      subst e0 e1 e2 e3 e4 e5 e6
      have b6 := bounds_u32 w6
      exact ⟨⟨n0, n1, n2, n3, n4, n5, n6⟩, rfl, ⟨bounds_i64 w0, bounds_i64 w1, bounds_i64 w2, bounds_i64 w3, bounds_i64 w4, bounds_i64 w5, ⟨b6.1, by show n6 < _; omega⟩⟩⟩
/-- Instructions that lie one behind the other, each by itself, lie there. -/
theorem gather {W : World} {a : Addr} : ∀ (n o : Nat), (∀ i, i < n → ∃ x : Insn, x.In ∧ ∀ k u, x.cs.toList[k]? = some u → W.cell? (a.add ((o + i) * 7 + k)) = some u) →
    ∃ l : List Insn, l.length = n ∧ (∀ x ∈ l, x.In) ∧ ∀ j u, (flat l)[j]? = some u → W.cell? (a.add (o * 7 + j)) = some u
  | 0, o, _ => ⟨[], rfl, (fun _ h => by cases h), fun j u h => by simp [flat] at h⟩
  | n + 1, o, h => by
    obtain ⟨x, hx, hc⟩ := h 0 (by omega)
    obtain ⟨l, hl, hi, hf⟩ := gather n (o + 1) (fun i hi => by
      obtain ⟨y, hy, hcy⟩ := h (i + 1) (by omega)
      exact ⟨y, hy, fun k u hk => by rw [show (o + 1 + i) * 7 + k = (o + (i + 1)) * 7 + k by omega]; exact hcy k u hk⟩)
    refine ⟨x :: l, by simp [hl], ?_, ?_⟩
    · intro y hy
      rcases List.mem_cons.1 hy with rfl | hy
      · exact hx
      · exact hi y hy
    · intro j u hj
      have h7 : x.cs.toList.length = 7 := rfl
      have e : flat (x :: l) = x.cs.toList ++ flat l := rfl
      rw [e] at hj
      by_cases hj7 : j < 7
      · rw [List.getElem?_append_left (by omega)] at hj
        exact hc j u hj
      · rw [List.getElem?_append_right (by omega), h7] at hj
        have := hf (j - 7) u hj
        rw [show (o + 1) * 7 + (j - 7) = o * 7 + j by omega] at this
        exact this
set_option maxRecDepth 100000 in
/-- What the reading of a slice of instructions says: they lie there. -/
theorem open_insns {H : Type} {enc : TypeId × Value → H} {W : World} {v : Value} {d : DataW H} {ps : List MemPlace} {r0 : Reach} {b0 : Nat} (hval : Value.okWide Tryz.prog W r0 b0 53 v) (h : DataW.Trod enc Tryz.prog W 0 (fun _ => true) true 53 v d ps) :
    ∃ (A : Option Addr) (n c : Nat) (l : List Insn), v = .slice A n c ∧ Reads W W.heap.size 7 A n (flat l) ∧ (∀ x ∈ l, x.In) := by
  obtain ⟨a0, n0, c0, rfl⟩ := okWide_slice Tryz.underlying53 hval
  obtain ⟨fuel, hf⟩ := h
  rcases DataW.trod_slice Tryz.underlying53 hf with ⟨hv, _⟩ | ⟨a, len, cap, elems, rest, n, _, hv, _, _, hl, hm, hlen, hel, _, _⟩
  · simp [Value.cells] at hv
    obtain ⟨rfl, rfl, rfl⟩ := hv
    exact ⟨none, 0, 0, [], rfl, Reads.none_, fun _ hx => by cases hx⟩
  · simp [Value.cells] at hv
    obtain ⟨rfl, rfl, rfl⟩ := hv
    have each : ∀ i, i < n0 → ∃ x : Insn, x.In ∧ ∀ k u, x.cs.toList[k]? = some u → W.cell? (a.add ((0 + i) * 7 + k)) = some u := by
      intro i hi
      have h1 := hel i hi
      rw [List.getElem?_eq_getElem (by omega), Option.bind_eq_some_iff, c24] at h1
      obtain ⟨cs, hc1, hc2⟩ := h1
      obtain ⟨_, g2, g3⟩ := World.cells?_some hc1
      obtain ⟨x, hx, hxi⟩ := insn_of_cells g2 hc2
      refine ⟨x, hxi, fun k u hk => ?_⟩
      rw [← hx] at hk
      have hk7 : k < 7 := by have := (List.getElem?_eq_some_iff.1 hk).1; omega
      have h3 := g3 k hk7
      rw [hk] at h3
      rw [← h3]
      rw [Addr.add_add, Nat.zero_add]
    obtain ⟨l, hll, hli, hlf⟩ := gather n0 0 each
    refine ⟨some a, n0, c0, l, rfl, ⟨?_, fun h0 => ⟨a, rfl, ?_, ?_⟩⟩, hli⟩
    · rw [flat_len, hll]
    · obtain ⟨x, _, hc⟩ := each 0 h0
      exact block_lt_of_cell (hc 0 _ rfl)
    · intro j u hj
      have := hlf j u hj
      simpa using this

theorem own : ownKnob Tryz.prog.godebug = none := by kernel_rfl

set_option maxRecDepth 100000 in
theorem contract (H : Type) (enc : TypeId × Value → H) (W : World) (base : Nat) (args : Array Value) (ds gs : List (DataW H)) (before : List MemPlace)
    (hval0 : ∀ (j : Nat) t v, Tryz.f13.params[j]? = some t → args[j]? = some v → Value.okWide Tryz.prog W .any base t v)
    (hW : DataW.Whole enc Tryz.prog Tryz.f13.params.toList Rows.isaListsSpec.vars false W args.toList ds gs before) (hsz0 : (DataW.weightsEach Tryz.prog (Tryz.f13.params.toList ++ (OpenSpec.ofChange Rows.isaListsSpec).bare.plain.varTypes Tryz.prog) (ds ++ gs)).all (· ≤ reachBytes) = true) (hL : laidMetH Tryz.prog laidAll W) (hS : W.ShapedOpen Tryz.prog) :
    Calls Tryz.prog 13 args W fun e W' => ∃ v, e = .returned v ∧ Rows.isaListsSpec.post enc Tryz.prog Tryz.f13 false true false false W args v W' := by
  have hval : ∀ (j : Nat) t v, Tryz.f13.params[j]? = some t → args[j]? = some v → Value.okWide Tryz.prog W .any base t v := hval0
  have hW' := hW
  obtain ⟨p, q, hA0, hV, rfl, hfz, hnd⟩ := hW
  have hA : DataW.TrodAll enc Tryz.prog W 0 (fun _ => true) true Tryz.f13.params.toList args.toList ds p := hA0
  rw [Tryz.params13] at hA hval
  obtain ⟨v0, vs0, d0, ds0, p0, q0, hargs, rfl, rfl, h0, r0⟩ := trodAll_cons hA
  obtain ⟨v1, vs1, d1, ds1, p1, q1, rfl, rfl, rfl, h1, r1⟩ := trodAll_cons r0
  obtain ⟨v2, vs2, d2, ds2, p2, q2, rfl, rfl, rfl, h2, r2⟩ := trodAll_cons r1
  obtain ⟨rfl, rfl, rfl⟩ := trodAll_nil r2
  obtain rfl : args = #[v0, v1, v2] := by cases args; simp_all
  obtain ⟨rfl, rfl⟩ := trodVars_none hV
  have h0k := h0
  obtain ⟨A, n, c, ls, rfl, hls, hin⟩ := open_insns (hval 0 53 _ rfl rfl) h0
  have h1k := h1
  have h2k := h2
  obtain ⟨R, k, kc, r, rfl, hr, hrb, hkc, hcm, hRn, hrd⟩ := open_bytes (hval 1 44 _ rfl rfl) h1
  obtain ⟨B, m, d, s, rfl, hs, hsb, hmd, hdm, hBn, hsd⟩ := open_bytes (hval 2 44 _ rfl rfl) h2
  have hk : k ≤ 140737488351232 := by
    rcases hrd with ⟨rfl, _⟩ | ⟨e1, e2, rfl, he⟩
    · exact Nat.zero_le _
    · have hsz : (DataW.weightsEach Tryz.prog [53, 44, 44] [d0, .slice e1 e2, d2]).all (· ≤ reachBytes) = true := hsz0
      have h := sized_slice hsz (j := 1) (t := 44) (e := 5) rfl rfl Tryz.underlying44
      rw [bytes5] at h
      simp only [reachBytes] at h
      omega
  have hm : m ≤ 140737488351232 := by
    rcases hsd with ⟨rfl, _⟩ | ⟨e1, e2, rfl, he⟩
    · exact Nat.zero_le _
    · have hsz : (DataW.weightsEach Tryz.prog [53, 44, 44] [d0, d1, .slice e1 e2]).all (· ≤ reachBytes) = true := hsz0
      have h := sized_slice hsz (j := 2) (t := 44) (e := 5) rfl rfl Tryz.underlying44
      rw [bytes5] at h
      simp only [reachBytes] at h
      omega
  clear hA0
  refine (lists_of A R B n c k kc m d ls r s W hls hr hs hin hrb hsb hkc hmd hk hm hRn hBn (fun V hV => sane_any V (below_env (env_of_laid hL hS) V hV))).mono fun e W' ⟨he, hb⟩ => ?_
  subst he
  obtain ⟨n0, t0⟩ := id h0k
  obtain ⟨n1, t1⟩ := id h1k
  obtain ⟨n2, t2⟩ := id h2k
  refine ⟨_, rfl, _, _, _, [], p0 ++ (p1 ++ p2), [], hW', ?_, ?_, ?_, hb.frame _, fun h => by cases h⟩
  · exact trodAll_cons_mk (shut_bool Tryz.underlying4 _) trodAll_mk0
  · have g0 := Below.trod laidOut (by kernel_rfl) (of_decide_eq_true (by kernel_rfl)) h0k hb (DataW.trod_lt n0 _ _ _ t0)
    have g1 := Below.trod laidOut (by kernel_rfl) (of_decide_eq_true (by kernel_rfl)) h1k hb (DataW.trod_lt n1 _ _ _ t1)
    have g2 := Below.trod laidOut (by kernel_rfl) (of_decide_eq_true (by kernel_rfl)) h2k hb (DataW.trod_lt n2 _ _ _ t2)
    have g := trodAll_cons_mk g0 (trodAll_cons_mk g1 (trodAll_cons_mk g2 trodAll_mk0))
    simp only [List.append_nil] at g ⊢
    exact g
  · rfl

def wargs : Array Value := #[.slice none 0 0, .slice none 0 0, .slice none 0 0]
theorem reads (os : Os) {H : Type} (enc : TypeId × Value → H) : ∃ places, DataW.whole enc Tryz.prog ((laidWorld os).forCall (fun _ _ => 0) ⟨#[], wargs, []⟩).memory Tryz.f13.params.toList Rows.isaListsSpec.vars false wargs.toList 8 = some ([.nil, .nil, .nil], [], places) :=
  ⟨[], by kernel_rfl⟩

set_option maxRecDepth 100000 in
theorem lifted (os : Os) (started : os.Started) (H : Type) (enc : TypeId × Value → H) (F : Stop.Interp) :
    ReturnsInHanded {} Tryz.checked os 13 .any ((OpenSpec.ofChange Rows.isaListsSpec).preRow enc Tryz.prog Tryz.f13 Rows.isaListsRow.domain false Rows.isaListsRow.laid) (((OpenSpec.ofChange Rows.isaListsSpec).at F).post enc Tryz.prog Tryz.f13 false true false false) := by
  obtain ⟨places, hx⟩ := reads os enc
  refine returnsInHanded_of_row (C := Tryz.checked) (s := OpenSpec.ofChange Rows.isaListsSpec) own started (by kernel_rfl) Tryz.func13
    (witness_row_atRef (enc := enc) (C := Tryz.checked) false (laidWorld os) wargs rfl (by kernel_rfl) (by kernel_rfl) (by kernel_rfl)
      (OpenSpec.preRow_of_cond 8 hx (by kernel_rfl) (fun k hk => by cases hk) (by kernel_rfl) (laid_met os _))) ?_
  intro W base args ds gs before hval hW _ _ hsz hL hS _
  exact contract H enc W base args ds gs before hval hW hsz hL hS

theorem said : Rows.IsaListsSaid :=
  OpenClaim.holds_of_cond 13 Tryz.f13 rfl rfl rfl rfl rfl rfl rfl ⟨rfl, rfl, rfl, rfl, rfl⟩ rfl rfl rfl rfl rfl (by kernel_rfl) Tryz.func13 (by kernel_rfl)
    (of_decide_eq_true (by kernel_rfl)) (by unfold Func.isWrapper; first | (rw [if_pos (by decide +kernel)]; kernel_rfl) | (rw [if_neg (by decide +kernel)]; exact ⟨rfl, rfl⟩))
    (fun os started H enc _ F => by rw [OpenClaim.pre_eq_preRow]; exact lifted os started H enc F)

theorem plain (f : FuncId) (fn : Func) (hf : Tryz.pinned.checked.prog.funcNamed "candling/candlinglaw01.IsaLists" = some f) (hfn : Tryz.pinned.checked.prog.funcs[f]? = some fn) :
    true = Tryz.pinned.checked.prog.looks [] ∧ ∀ (j : Nat) t, fn.params[j]? = some t → Tryz.pinned.checked.prog.wantsStandIn t = false := by
  obtain rfl : f = 13 := Option.some.inj ((show Tryz.prog.funcNamed "candling/candlinglaw01.IsaLists" = some 13 by kernel_rfl).symm.trans hf) |>.symm
  obtain rfl : fn = Tryz.f13 := (Option.some.inj (Tryz.func13.symm.trans hfn)).symm
  refine ⟨by kernel_rfl, fun j t ht => ?_⟩
  rw [Tryz.params13] at ht
  have hm := Array.mem_of_getElem? ht
  simp at hm
  rcases hm with rfl | rfl
  · exact (show Tryz.prog.wantsStandIn 53 = false by kernel_rfl)
  · exact (show Tryz.prog.wantsStandIn 44 = false by kernel_rfl)

theorem card : Rows.IsaListsCardSaid :=
  Claim7.holds_tied_plain_at .later [] _ _ _ _ said (fun _ h => by cases h) (by kernel_rfl) (fun _ h => by cases h) isaLists_row_tie rfl ⟨rfl, rfl⟩ (by kernel_rfl) rfl plain (by kernel_rfl)
end Go.Proofs.YtdkclapinedgiaaGreatDoor.isaLists
