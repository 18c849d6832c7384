/- IsaCodes of the law's package returns true at every instruction and every slice of bytes, and leaves its arguments as they were: the row and its card. It holds where the listed library variables hold what the program's text lays. -/
import Derived.Test.YtdkclapinedgiaaGreatDoorCards
import Derived.Test.YtdkclapinedgiaaGreatDoorTie
import Derived.Test.YtdkclapinedgiaaGreatDoorK0
import Derived.Test.YtdkclapinedgiaaGreatDoorS5
import Derived.Test.YtdkclapinedgiaaGreatDoorW7
import Derived.Carry
import Derived.SizedLaws
import Derived.ChangeSlices
namespace Go.Proofs.YtdkclapinedgiaaGreatDoor.isaCodes
open Go.ChangeShapes Go.WideShapes Go.ChangeAt Go.RowKit

/-! ### A slice of bytes as an argument. -/
theorem cells5 : Tryz.prog.cellsOf 5 = 1 := by kernel_rfl
theorem bytes5 : Tryz.prog.bytesOf 5 = 1 := by kernel_rfl
theorem under5 : Tryz.prog.underlying 5 = some (.int .u8) := by kernel_rfl
theorem laidOut : laidOutB Tryz.prog = true := by kernel_rfl
set_option maxRecDepth 100000 in
/-- What the reading of a slice of bytes says: its bytes lie there. -/
theorem open_bytes {H : Type} {enc : TypeId × Value → H} {W : World} {v : Value} {d : DataW H} {ps : List MemPlace} {r0 : Reach} {b0 : Nat} (hval : Value.okWide Tryz.prog W r0 b0 44 v) (h : DataW.Trod enc Tryz.prog W 0 (fun _ => true) true 44 v d ps) :
    ∃ (A : Option Addr) (n c : Nat) (l : List Int), v = .slice A n c ∧ Reads W W.heap.size 1 A n (u8s l) ∧ Bytes l ∧ n ≤ c ∧ c ≤ maxLen ∧ (A = none → n = 0 ∧ c = 0) ∧
      ((n = 0 ∧ c = 0) ∨ ∃ e1 e2, d = .slice e1 e2 ∧ e1.length + e2.length = c) := by
  obtain ⟨a0, n0, c0, rfl⟩ := okWide_slice Tryz.underlying44 hval
  obtain ⟨fuel, hf⟩ := h
  rcases open_ints Tryz.underlying44 under5 cells5 hf with ⟨hv, _⟩ | ⟨a, len, cap, zs, hv, _, hlc, hcm, hzl, hx, hc, hw⟩
  · simp [Value.cells] at hv
    obtain ⟨rfl, rfl, rfl⟩ := hv
    refine ⟨none, 0, 0, [], rfl, Reads.none_, ?_, Nat.le_refl _, ?_, fun _ => ⟨rfl, rfl⟩, .inl ⟨rfl, rfl⟩⟩
    · intro x hx; cases hx
    · unfold maxLen; omega
  · simp [Value.cells] at hv
    obtain ⟨rfl, rfl, rfl⟩ := hv
    have hzl' : zs.length = c0 := by simpa using hzl
    refine ⟨some a, n0, c0, zs.take n0, rfl, ⟨?_, fun h0 => ⟨a, rfl, ?_, fun j u hj => ?_⟩⟩, ?_, hlc, hcm, (fun h => by cases h), .inr ⟨_, _, congrArg Prod.fst hx, ?_⟩⟩
    · simp [u8s]; omega
    · have h1 := hc 0 (by omega)
      exact block_lt_of_cell h1
    · unfold u8s at hj
      rw [List.getElem?_map, List.getElem?_take] at hj
      split at hj
      · rename_i hjl
        have hjz : j < zs.length := by omega
        rw [List.getElem?_eq_getElem hjz] at hj
        simp at hj
        rw [hc j hjz, ← hj]
        simp [List.getD_eq_getElem?_getD, hjz]
      · simp at hj
    · intro x hx
      have := hw x (List.mem_of_mem_take hx)
      simp [Lit.wf, IntKind.min, IntKind.max, IntKind.signed, IntKind.bits] at this
      omega
    · simp [lits]; omega

theorem own : ownKnob Tryz.prog.godebug = none := by kernel_rfl

set_option maxRecDepth 100000 in
theorem contract (H : Type) (enc : TypeId × Value → H) (W : World) (base : Nat) (args : Array Value) (ds gs : List (DataW H)) (before : List MemPlace)
    (hval0 : ∀ (j : Nat) t v, Tryz.f8.params[j]? = some t → args[j]? = some v → Value.okWide Tryz.prog W .any base t v)
    (hW : DataW.Whole enc Tryz.prog Tryz.f8.params.toList Rows.isaCodesSpec.vars false W args.toList ds gs before) (hL : laidMetH Tryz.prog laidAll W) (hS : W.ShapedOpen Tryz.prog) :
    Calls Tryz.prog 8 args W fun e W' => ∃ v, e = .returned v ∧ Rows.isaCodesSpec.post enc Tryz.prog Tryz.f8 false true false false W args v W' := by
  have hval : ∀ (j : Nat) t v, Tryz.f8.params[j]? = some t → args[j]? = some v → Value.okWide Tryz.prog W .any base t v := hval0
  have hW' := hW
  obtain ⟨p, q, hA0, hV, rfl, hfz, hnd⟩ := hW
  have hA : DataW.TrodAll enc Tryz.prog W 0 (fun _ => true) true Tryz.f8.params.toList args.toList ds p := hA0
  rw [Tryz.params8] at hA hval
  obtain ⟨v0, vs0, d0, ds0, p0, q0, hargs, rfl, rfl, h0, r0⟩ := trodAll_cons hA
  obtain ⟨v1, vs1, d1, ds1, p1, q1, rfl, rfl, rfl, h1, r1⟩ := trodAll_cons r0
  obtain ⟨rfl, rfl, rfl⟩ := trodAll_nil r1
  obtain rfl : args = #[v0, v1] := by cases args; simp_all
  obtain ⟨rfl, rfl⟩ := trodVars_none hV
  obtain ⟨x, rfl, rfl, rfl, hx⟩ := open_insn (hval 0 24 v0 rfl rfl) h0
  have h1k := h1
  obtain ⟨B, m, d, s, rfl, hs, hsb, _, _, _, _⟩ := open_bytes (hval 1 44 _ rfl rfl) h1
  clear hA0
  refine (codes_of x hx B m d s W hs hsb (fun V hV => sane_any V (below_env (env_of_laid hL hS) V hV))).mono fun e W' ⟨he, hb⟩ => ?_
  subst he
  obtain ⟨n1, t1⟩ := id h1k
  refine ⟨_, rfl, _, _, _, [], p1, [], hW', ?_, ?_, ?_, hb.frame _, fun h => by cases h⟩
  · exact trodAll_cons_mk (shut_bool Tryz.underlying4 _) trodAll_mk0
  · have g1 := Below.trod laidOut (by kernel_rfl) (of_decide_eq_true (by kernel_rfl)) h1k hb (DataW.trod_lt n1 _ _ _ t1)
    have g := trodAll_cons_mk (shut_insn hx) (trodAll_cons_mk g1 trodAll_mk0)
    simp only [List.append_nil, List.nil_append] at g ⊢
    exact g
  · rfl

def wargs : Array Value := #[.agg insn0.cs, .slice none 0 0]
theorem reads (os : Os) {H : Type} (enc : TypeId × Value → H) : ∃ places, DataW.whole enc Tryz.prog ((laidWorld os).forCall (fun _ _ => 0) ⟨#[], wargs, []⟩).memory Tryz.f8.params.toList Rows.isaCodesSpec.vars false wargs.toList 8 = some ([insnD insn0, .nil], [], places) :=
  ⟨[], by kernel_rfl⟩

set_option maxRecDepth 100000 in
theorem lifted (os : Os) (started : os.Started) (H : Type) (enc : TypeId × Value → H) (F : Stop.Interp) :
    ReturnsInHanded {} Tryz.checked os 8 .any ((OpenSpec.ofChange Rows.isaCodesSpec).preRow enc Tryz.prog Tryz.f8 Rows.isaCodesRow.domain false Rows.isaCodesRow.laid) (((OpenSpec.ofChange Rows.isaCodesSpec).at F).post enc Tryz.prog Tryz.f8 false true false false) := by
  obtain ⟨places, hx⟩ := reads os enc
  refine returnsInHanded_of_row (C := Tryz.checked) (s := OpenSpec.ofChange Rows.isaCodesSpec) own started (by kernel_rfl) Tryz.func8
    (witness_row_atRef (enc := enc) (C := Tryz.checked) false (laidWorld os) wargs rfl (by kernel_rfl) (by kernel_rfl) (by kernel_rfl)
      (OpenSpec.preRow_of_cond 8 hx (by kernel_rfl) (fun k hk => by cases hk) (by kernel_rfl) (laid_met os _))) ?_
  intro W base args ds gs before hval hW _ _ _ hL hS _
  exact contract H enc W base args ds gs before hval hW hL hS

theorem said : Rows.IsaCodesSaid :=
  OpenClaim.holds_of_cond 8 Tryz.f8 rfl rfl rfl rfl rfl rfl rfl ⟨rfl, rfl, rfl, rfl, rfl⟩ rfl rfl rfl rfl rfl (by kernel_rfl) Tryz.func8 (by kernel_rfl)
    (of_decide_eq_true (by kernel_rfl)) (by unfold Func.isWrapper; first | (rw [if_pos (by decide +kernel)]; kernel_rfl) | (rw [if_neg (by decide +kernel)]; exact ⟨rfl, rfl⟩))
    (fun os started H enc _ F => by rw [OpenClaim.pre_eq_preRow]; exact lifted os started H enc F)

theorem plain (f : FuncId) (fn : Func) (hf : Tryz.pinned.checked.prog.funcNamed "candling/candlinglaw01.IsaCodes" = some f) (hfn : Tryz.pinned.checked.prog.funcs[f]? = some fn) :
    true = Tryz.pinned.checked.prog.looks [] ∧ ∀ (j : Nat) t, fn.params[j]? = some t → Tryz.pinned.checked.prog.wantsStandIn t = false := by
  obtain rfl : f = 8 := Option.some.inj ((show Tryz.prog.funcNamed "candling/candlinglaw01.IsaCodes" = some 8 by kernel_rfl).symm.trans hf) |>.symm
  obtain rfl : fn = Tryz.f8 := (Option.some.inj (Tryz.func8.symm.trans hfn)).symm
  refine ⟨by kernel_rfl, fun j t ht => ?_⟩
  rw [Tryz.params8] at ht
  have hm := Array.mem_of_getElem? ht
  simp at hm
  rcases hm with rfl | rfl
  · exact (show Tryz.prog.wantsStandIn 24 = false by kernel_rfl)
  · exact (show Tryz.prog.wantsStandIn 44 = false by kernel_rfl)

theorem card : Rows.IsaCodesCardSaid :=
  Claim7.holds_tied_plain_at .later [] _ _ _ _ said (fun _ h => by cases h) (by kernel_rfl) (fun _ h => by cases h) isaCodes_row_tie rfl ⟨rfl, rfl⟩ (by kernel_rfl) rfl plain (by kernel_rfl)
end Go.Proofs.YtdkclapinedgiaaGreatDoor.isaCodes
