/- Contract: UsesOf of the reference. -/
import Derived.Test.YtdkclapinedgiaaGreatDoorY1
import Derived.StillTailTactics
namespace Go.Proofs.YtdkclapinedgiaaGreatDoor
open Go.RowKit

set_option maxRecDepth 100000 in
set_option maxHeartbeats 4000000 in
theorem ruses_no (x : Insn) (w : World) (i0 : 0 ≤ x.i) (i1 : x.i < 4294967296) (hv : x.valid = false) :
    Calls Tryz.prog 21 #[.agg x.cs] w fun e w' => e = .returned (.tuple #[.agg uses0.cs, .int .i64 6]) ∧ Below w.heap.size w w' := by
  have hh := Lib.hid (fun W => is_any x i0 i1 W)
  rw [hv] at hh
  unfold Insn.cs at hh ⊢
  clear i0 i1
  go_enter Tryz.func21, Tryz.ntmps21
  go_wp2_with fail
  refine (hh.out _).mono ?_
  rintro e w1 ⟨rfl, hb⟩
  have hB := ((Below.refl _ w).alloc (Nat.le_refl _) (.cells x.cs 24)).alloc (by simp) (.cells uses0.cs 33)
  have K : Blk w1 (w.heap.size + 1) 33 uses0.cs := (blk_at (w.alloc (.cells x.cs 24)) (w.heap.size + 1) 33 uses0.cs (by simp)).call hb
  have B : Below w.heap.size w w1 := hB.call hb (by simp; omega)
  obtain ⟨uc0, uc1, uc2, uc3, uc4, uc5, uc6, uc7, uc8, uf0, uf1, uf2, uf3, uf4, uf5, uf6, uf7, uf8⟩ := K.facts9
  have HK := Lib.hid K
  have HB := Lib.hid B
  clear K B hB hb
  go_wp2_with fail
  refine bodyPost_ret (results_33_2 rfl rfl (Blk.nine HK.out _ _ _ _ _ _ _ _ _)) rfl ?_
  exact ⟨rfl, below_nine HB.out (by omega) _ _ _ _ _ _ _ _ _⟩

/-- Where the reference's UsesOf stands. -/
structure RT (w : World) (g : Nat) (x : Insn) (A : Option Addr) (ks : List Int) (u : UsesS) (W : World) : Prop where
  bu : Blk W g 33 u.cs
  bx : Blk W w.heap.size 24 x.cs
  bo : Blk W (w.heap.size + 1) 33 uses0.cs
  bs : Blk W (g + 1) 3 (i64s stoL).toArray
  rd : Reads W g 1 A ks.length (i64s ks)
  below : Below w.heap.size w W
  lt : w.heap.size + 1 < g
section
variable {w W W' : World} {g : Nat} {x : Insn} {A : Option Addr} {ks : List Int} {u u' : UsesS}
theorem RT.call (h : RT w g x A ks u W) (hb : Below W.heap.size W W') : RT w g x A ks u W' :=
  ⟨h.bu.call hb, h.bx.call hb, h.bo.call hb, h.bs.call hb, h.rd.below (hb.mono (Nat.le_of_lt h.bu.lt)), h.below.call hb h.below.size, h.lt⟩
theorem RT.alloc (h : RT w g x A ks u W) (o : Obj) : RT w g x A ks u (W.alloc o) :=
  h.call ((Below.refl _ W).alloc (Nat.le_refl _) o)
theorem RT.drew (h : RT w g x A ks u W) : RT w g x A ks u W.drew := h.call (Below.refl _ W).drew
theorem RT.set_ (h : RT w g x A ks u W) (i : Nat) (v : Value) (e' : u'.cs = u.cs.setIfInBounds i v) : RT w g x A ks u' (W.setCell ⟨g, i, none⟩ v) :=
  have hl := h.lt
  ⟨by rw [e']; exact h.bu.set_ i v, h.bx.far (by simp; omega) _, h.bo.far (by simp; omega) _, h.bs.far (by simp) _, h.rd.setCell (p := ⟨g, i, none⟩) (Nat.le_refl _) v, h.below.setCell (p := ⟨g, i, none⟩) (by show w.heap.size ≤ g; omega) v, hl⟩
theorem RT.rds (h : RT w g x A ks u W) : Reads W W.heap.size 1 A ks.length (i64s ks) := h.rd.more (Nat.le_of_lt h.bu.lt)
theorem RT.sto (h : RT w g x A ks u W) : Reads W W.heap.size 1 (some ⟨g + 1, 0, none⟩) 5 (i64s stoL) := reads_of_blk h.bs rfl rfl
end
theorem has_k {w : World} {g : Nat} {x : Insn} {A : Option Addr} {ks : List Int} {u : UsesS} {W : World} (h : RT w g x A ks u W) (hl : ks.length ≤ 5) (k : Int) (b : Bool) (e : hasOp ks k = b) :
    Calls Tryz.prog 67 #[.slice A ks.length ks.length, .int .i64 k] W fun e w' => e = .returned (.bool b) ∧ W = w' := by
  subst e; exact rhas_any A _ _ ks k W h.rds (by omega)
theorem has_s {w : World} {g : Nat} {x : Insn} {A : Option Addr} {ks : List Int} {u : UsesS} {W : World} (h : RT w g x A ks u W) (k : Int) (b : Bool) (e : hasOp stoL k = b) :
    Calls Tryz.prog 67 #[.slice (some ⟨g + 1, 0, none⟩) 5 5, .int .i64 k] W fun e w' => e = .returned (.bool b) ∧ W = w' := by
  subst e; exact rhas_any _ _ _ stoL k W h.sto (by decide)
theorem has_new {W : World} {t : Nat} {cs : Array Value} (l : List Int) (n : Nat) (k : Int) (b : Bool) (e : hasOp l k = b) (hn1 : n ≤ 100) (hc : cs.toList = i64s l) (hn : l.length = n) :
    Calls Tryz.prog 67 #[.slice (some ⟨W.heap.size, 0, none⟩) n n, .int .i64 k] (W.alloc (.cells cs t)) fun e w' => e = .returned (.bool b) ∧ W.alloc (.cells cs t) = w' := by
  subst e; exact rhas_any _ _ _ l k _ (reads_of_blk (blk_at W W.heap.size t _ rfl) hc (by simp [i64s, hn])) (by omega)

/-- What is left of a body behind its first n statements. -/
def nthTail : Nat → Code → Code
  | 0, c => c
  | n + 1, .seq _ r => nthTail n r
  | _ + 1, c => c
def UQ (x : Insn) (w : World) : Exit → Act → World → Prop := bodyPost Tryz.prog Tryz.f21 fun e w' => e = .returned (.tuple #[.agg (usesR x).cs, .int .i64 0]) ∧ Below w.heap.size w w'
set_option maxRecDepth 100000 in
set_option maxHeartbeats 40000000 in
theorem rtail11 (x : Insn) (w : World) (g : Nat) (A : Option Addr) (ks : List Int) (us : UsesS) (b : Bool) (u8 u9 u10 u11 u12 u13 u14 u15 u16 u17 u18 u19 u20 u21 u22 u23 u24 u25 u26 u27 u28 u29 u30 u31 u32 u33 u34 u35 u36 u37 u38 u39 u40 u41 u42 u43 u44 u45 u46 u47 u48 u49 u50 u51 u52 u53 u54 u55 u56 u57 u58 u59 u60 u61 u62 u63 u64 u65 u66 u67 u68 u69 u70 u71 u72 u73 u74 u75 u76 u77 u78 u79 u80 u81 u82 u83 u84 u85 u86 u87 u88 u89 u90 u91 u92 u93 u94 u95 u96 u97 u98 u99 u100 u101 u102 u103 u104 u105 u106 u107 u108 u109 u110 u111 u112 u113 u114 u115 u116 u117 u118 u119 u120 u121 u122 u123 u124 u125 u126 u127 u128 u129 u130 u131 u132 u133 u134 u135 u136 u137 u138 u139 u140 u141 u142 u143 u144 u145 u146 u147 u148 u149 u150 u151 u152 u153 u154 u155 u156 u157 u158 u159 u160 u161 u162 u163 u164 u165 u166 u167 u168 u169 u170 u171 u172 u173 u174 u175 u176 u177 u178 u179 u180 u181 u182 u183 u184 u185 u186 u187 u188 u189 u190 u191 u192 u193 u194 : Value) (wc : World) (hl : ks.length ≤ 5) (ha : 0 ≤ x.a ∧ x.a ≤ 15) (hb : 0 ≤ x.b ∧ x.b ≤ 15) (hc : 0 ≤ x.c ∧ x.c ≤ 15)
    (hR : usesR x = uFin x (us)) (hW : RT w g x A ks us wc) :
    Code.wp Tryz.prog (nthTail 16 (Tryz.f21.body.getD .skip)) (UQ x w)
      { tmps := #[.agg #[.int .i64 x.op, .int .i64 x.a, .int .i64 x.b, .int .i64 x.c, .int .i64 x.d, .int .i64 x.k, .int .u32 x.i], .pointer (some ⟨w.heap.size, 0, none⟩), .pointer (some ⟨w.heap.size + 1, 0, none⟩), .int .i64 0, .slice A ks.length ks.length, .bool b, .pointer (some ⟨g, 0, none⟩), .slice (some ⟨g + 1, 0, none⟩) 5 5, u8, u9, u10, u11, u12, u13, u14, u15, u16, u17, u18, u19, u20, u21, u22, u23, u24, u25, u26, u27, u28, u29, u30, u31, u32, u33, u34, u35, u36, u37, u38, u39, u40, u41, u42, u43, u44, u45, u46, u47, u48, u49, u50, u51, u52, u53, u54, u55, u56, u57, u58, u59, u60, u61, u62, u63, u64, u65, u66, u67, u68, u69, u70, u71, u72, u73, u74, u75, u76, u77, u78, u79, u80, u81, u82, u83, u84, u85, u86, u87, u88, u89, u90, u91, u92, u93, u94, u95, u96, u97, u98, u99, u100, u101, u102, u103, u104, u105, u106, u107, u108, u109, u110, u111, u112, u113, u114, u115, u116, u117, u118, u119, u120, u121, u122, u123, u124, u125, u126, u127, u128, u129, u130, u131, u132, u133, u134, u135, u136, u137, u138, u139, u140, u141, u142, u143, u144, u145, u146, u147, u148, u149, u150, u151, u152, u153, u154, u155, u156, u157, u158, u159, u160, u161, u162, u163, u164, u165, u166, u167, u168, u169, u170, u171, u172, u173, u174, u175, u176, u177, u178, u179, u180, u181, u182, u183, u184, u185, u186, u187, u188, u189, u190, u191, u192, u193, u194], defers := [] } wc := by
  have HR := Lib.hid hR
  have HL := Lib.hid hl
  have HA := Lib.hid ha
  have HB := Lib.hid hb
  have HC := Lib.hid hc
  clear hR hl ha hb hc
  dsimp only [Tryz.f21, nthTail, Option.getD_some]
  unfold UQ
  go_upto_region 31 with fail
  have HW := Lib.hid hW
  clear hW
  obtain ⟨fi, hfi⟩ : ∃ b, (hasOp fiL x.op) = b := ⟨_, rfl⟩
  have Hfi := Lib.hid hfi
  clear hfi
  obtain ⟨fo, hfo⟩ : ∃ b, ((decide (3 ≤ x.op) && decide (x.op ≤ 10)) || hasOp foL x.op) = b := ⟨_, rfl⟩
  have Hfo := Lib.hid hfo
  clear hfo
  obtain ⟨ld, hld⟩ : ∃ b, ((accOf x.op).1) = b := ⟨_, rfl⟩
  have Hld := Lib.hid hld
  clear hld
  obtain ⟨st, hst⟩ : ∃ b, ((accOf x.op).2) = b := ⟨_, rfl⟩
  have Hst := Lib.hid hst
  clear hst
  obtain ⟨jm, hjm⟩ : ∃ b, (hasOp jmpL x.op) = b := ⟨_, rfl⟩
  have Hjm := Lib.hid hjm
  clear hjm
  obtain ⟨xc0, xc1, xc2, xc3, xc4, xc5, xc6, xf0, xf1, xf2, xf3, xf4, xf5, xf6⟩ := HW.out.bx.facts7
  clear xf0 xf1 xf2 xf3 xf4 xf5 xf6 xc1 xc2 xc3 xc4 xc5 xc6
  obtain ⟨uc0, uc1, uc2, uc3, uc4, uc5, uc6, uc7, uc8, uf0, uf1, uf2, uf3, uf4, uf5, uf6, uf7, uf8⟩ := HW.out.bu.facts9
  clear uc0 uc1 uc2 uc3 uc5 uc6 uc7 uc8 uf0 uf1 uf2 uf3 uf5 uf6 uf7 uf8
  have wl : g < wc.heap.size := HW.out.bu.lt
  have wl3 : w.heap.size < wc.heap.size := HW.out.bx.lt
  go_wp2_with fail
  refine (has_new fiL 6 x.op _ Hfi.out (by decide) rfl rfl).mono ?_
  rintro e w' ⟨rfl, rfl⟩
  go_upto_region 32 with fail
  refine name_world (RT w g x A ks { us with fi := fi }) _ ?_ ?_
  · refine RT.alloc ?_ _
    exact RT.set_ (u := us) HW.out 4 _ rfl
  clear HW xc0 uc4 uf4 wl wl3
  intro we hW
  have HW := Lib.hid hW
  clear hW
  obtain ⟨xc0, xc1, xc2, xc3, xc4, xc5, xc6, xf0, xf1, xf2, xf3, xf4, xf5, xf6⟩ := HW.out.bx.facts7
  clear xf0 xf1 xf2 xf3 xf4 xf5 xf6 xc1 xc2 xc3 xc4 xc5 xc6
  obtain ⟨uc0, uc1, uc2, uc3, uc4, uc5, uc6, uc7, uc8, uf0, uf1, uf2, uf3, uf4, uf5, uf6, uf7, uf8⟩ := HW.out.bu.facts9
  clear uc0 uc1 uc2 uc3 uc4 uc6 uc7 uc8 uf0 uf1 uf2 uf3 uf4 uf6 uf7 uf8
  have wl : g < we.heap.size := HW.out.bu.lt
  have wl3 : w.heap.size < we.heap.size := HW.out.bx.lt
  go_cut [] (fun wx => RT w g x A ks { us with fi := fi, fo := fo } wx)
  case first =>
    obtain ⟨bz, hz⟩ : ∃ b : Bool, hasOp foL x.op = b := ⟨_, rfl⟩
    by_cases h3 : 3 ≤ x.op
    · have d3 : decide (3 ≤ x.op) = true := decide_eq_true h3
      by_cases h10 : x.op ≤ 10
      · have d10 : decide (x.op ≤ 10) = true := decide_eq_true h10
        have hfo : fo = true := by rw [← Hfo.out, d3, d10]; rfl
        subst hfo
        clear hz
        go_wp2_with fail
        go_meet
        exact RT.set_ (u := { us with fi := fi }) HW.out 5 _ rfl
      · have d10 : decide (x.op ≤ 10) = false := decide_eq_false h10
        have hfo : fo = bz := by rw [← Hfo.out, d3, d10, hz]; rfl
        subst hfo
        go_wp2_with fail
        refine (has_new foL 11 x.op _ hz (by decide) rfl rfl).mono ?_
        rintro e w' ⟨rfl, rfl⟩
        go_wp2_with fail
        go_meet
        refine RT.alloc ?_ _
        exact RT.set_ (u := { us with fi := fi }) HW.out 5 _ rfl
    · have d3 : decide (3 ≤ x.op) = false := decide_eq_false h3
      have hfo : fo = bz := by rw [← Hfo.out, d3, hz]; rfl
      subst hfo
      go_wp2_with fail
      refine (has_new foL 11 x.op _ hz (by decide) rfl rfl).mono ?_
      rintro e w' ⟨rfl, rfl⟩
      go_wp2_with fail
      go_meet
      refine RT.alloc ?_ _
      exact RT.set_ (u := { us with fi := fi }) HW.out 5 _ rfl
  case rest =>
    clear HW xc0 uc5 uf5 wl wl3
    have HW := Lib.hid hcut
    clear hcut
    go_upto_region 33 with fail
    obtain ⟨xc0, xc1, xc2, xc3, xc4, xc5, xc6, xf0, xf1, xf2, xf3, xf4, xf5, xf6⟩ := HW.out.bx.facts7
    clear xf0 xf1 xf2 xf3 xf4 xf5 xf6 xc1 xc2 xc3 xc4 xc5 xc6
    obtain ⟨uc0, uc1, uc2, uc3, uc4, uc5, uc6, uc7, uc8, uf0, uf1, uf2, uf3, uf4, uf5, uf6, uf7, uf8⟩ := HW.out.bu.facts9
    clear uc0 uc1 uc2 uc3 uc4 uc5 uc7 uc8 uf0 uf1 uf2 uf3 uf4 uf5 uf7 uf8
    have wl : g < wc.heap.size := HW.out.bu.lt
    have wl3 : w.heap.size < wc.heap.size := HW.out.bx.lt
    go_wp2_with fail
    refine (loads_any x.op _).mono ?_
    rintro e w' ⟨rfl, rfl⟩
    rw [Hld.out]
    go_upto_region 34 with fail
    refine name_world (RT w g x A ks { us with fi := fi, fo := fo, ld := ld }) _ ?_ ?_
    · exact RT.set_ (u := { us with fi := fi, fo := fo }) HW.out 6 _ rfl
    clear HW xc0 uc6 uf6 wl wl3
    intro we hW
    have HW := Lib.hid hW
    clear hW
    obtain ⟨xc0, xc1, xc2, xc3, xc4, xc5, xc6, xf0, xf1, xf2, xf3, xf4, xf5, xf6⟩ := HW.out.bx.facts7
    clear xf0 xf1 xf2 xf3 xf4 xf5 xf6 xc1 xc2 xc3 xc4 xc5 xc6
    obtain ⟨uc0, uc1, uc2, uc3, uc4, uc5, uc6, uc7, uc8, uf0, uf1, uf2, uf3, uf4, uf5, uf6, uf7, uf8⟩ := HW.out.bu.facts9
    clear uc0 uc1 uc2 uc3 uc4 uc5 uc6 uc8 uf0 uf1 uf2 uf3 uf4 uf5 uf6 uf8
    have wl : g < we.heap.size := HW.out.bu.lt
    have wl3 : w.heap.size < we.heap.size := HW.out.bx.lt
    go_wp2_with fail
    refine (stores_any x.op _).mono ?_
    rintro e w' ⟨rfl, rfl⟩
    rw [Hst.out]
    go_upto_region 35 with fail
    refine name_world (RT w g x A ks { us with fi := fi, fo := fo, ld := ld, st := st }) _ ?_ ?_
    · exact RT.set_ (u := { us with fi := fi, fo := fo, ld := ld }) HW.out 7 _ rfl
    clear HW xc0 uc7 uf7 wl wl3
    intro we hW
    have HW := Lib.hid hW
    clear hW
    obtain ⟨xc0, xc1, xc2, xc3, xc4, xc5, xc6, xf0, xf1, xf2, xf3, xf4, xf5, xf6⟩ := HW.out.bx.facts7
    clear xf0 xf1 xf2 xf3 xf4 xf5 xf6 xc1 xc2 xc3 xc4 xc5 xc6
    obtain ⟨uc0, uc1, uc2, uc3, uc4, uc5, uc6, uc7, uc8, uf0, uf1, uf2, uf3, uf4, uf5, uf6, uf7, uf8⟩ := HW.out.bu.facts9
    clear uc0 uc1 uc2 uc3 uc4 uc5 uc6 uc7 uf0 uf1 uf2 uf3 uf4 uf5 uf6 uf7
    have wl : g < we.heap.size := HW.out.bu.lt
    have wl3 : w.heap.size < we.heap.size := HW.out.bx.lt
    go_wp2_with fail
    refine (has_new jmpL 6 x.op _ Hjm.out (by decide) rfl rfl).mono ?_
    rintro e w' ⟨rfl, rfl⟩
    go_upto_region 36 with fail
    refine name_world (RT w g x A ks { us with fi := fi, fo := fo, ld := ld, st := st, j := jm }) _ ?_ ?_
    · refine RT.alloc ?_ _
      exact RT.set_ (u := { us with fi := fi, fo := fo, ld := ld, st := st }) HW.out 8 _ rfl
    clear HW xc0 uc8 uf8 wl wl3
    intro we hW
    have HW := Lib.hid hW
    clear hW
    obtain ⟨uc0, uc1, uc2, uc3, uc4, uc5, uc6, uc7, uc8, uf0, uf1, uf2, uf3, uf4, uf5, uf6, uf7, uf8⟩ := HW.out.bu.facts9
    obtain ⟨rc0, rc1, rc2, rc3, rc4, rc5, rc6, rc7, rc8, rf0, rf1, rf2, rf3, rf4, rf5, rf6, rf7, rf8⟩ := HW.out.bo.facts9
    clear uf0 uf1 uf2 uf3 uf4 uf5 uf6 uf7 uf8
    go_wp2_with fail
    refine bodyPost_ret (results_33_2 rfl rfl (Blk.nine HW.out.bo _ _ _ _ _ _ _ _ _)) rfl ?_
    refine ⟨?_, below_nine HW.out.below (by omega) _ _ _ _ _ _ _ _ _⟩
    have e : usesR x = { us with fi := fi, fo := fo, ld := ld, st := st, j := jm } := by
      rw [HR.out]
      unfold uFin
      rw [Hfi.out, Hfo.out, Hld.out, Hst.out, Hjm.out]
    rw [e]
    rfl
set_option maxRecDepth 100000 in
set_option maxHeartbeats 40000000 in
theorem rtail10 (x : Insn) (w : World) (g : Nat) (A : Option Addr) (ks : List Int) (us : UsesS) (b : Bool) (u8 u9 u10 u11 u12 u13 u14 u15 u16 u17 u18 u19 u20 u21 u22 u23 u24 u25 u26 u27 u28 u29 u30 u31 u32 u33 u34 u35 u36 u37 u38 u39 u40 u41 u42 u43 u44 u45 u46 u47 u48 u49 u50 u51 u52 u53 u54 u55 u56 u57 u58 u59 u60 u61 u62 u63 u64 u65 u66 u67 u68 u69 u70 u71 u72 u73 u74 u75 u76 u77 u78 u79 u80 u81 u82 u83 u84 u85 u86 u87 u88 u89 u90 u91 u92 u93 u94 u95 u96 u97 u98 u99 u100 u101 u102 u103 u104 u105 u106 u107 u108 u109 u110 u111 u112 u113 u114 u115 u116 u117 u118 u119 u120 u121 u122 u123 u124 u125 u126 u127 u128 u129 u130 u131 u132 u133 u134 u135 u136 u137 u138 u139 u140 u141 u142 u143 u144 u145 u146 u147 u148 u149 u150 u151 u152 u153 u154 u155 u156 u157 u158 u159 u160 u161 u162 u163 u164 u165 u166 u167 u168 u169 u170 u171 u172 u173 u174 u175 u176 u177 u178 u179 u180 u181 u182 u183 u184 u185 u186 u187 u188 u189 u190 u191 u192 u193 u194 : Value) (wc : World) (hl : ks.length ≤ 5) (ha : 0 ≤ x.a ∧ x.a ≤ 15) (hb : 0 ≤ x.b ∧ x.b ≤ 15) (hc : 0 ≤ x.c ∧ x.c ≤ 15)
    (hR : usesR x = uFin x (uVW x (hasOp ks 4 && (x.op != 49)) (us))) (hW : RT w g x A ks us wc) :
    Code.wp Tryz.prog (nthTail 15 (Tryz.f21.body.getD .skip)) (UQ x w)
      { tmps := #[.agg #[.int .i64 x.op, .int .i64 x.a, .int .i64 x.b, .int .i64 x.c, .int .i64 x.d, .int .i64 x.k, .int .u32 x.i], .pointer (some ⟨w.heap.size, 0, none⟩), .pointer (some ⟨w.heap.size + 1, 0, none⟩), .int .i64 0, .slice A ks.length ks.length, .bool b, .pointer (some ⟨g, 0, none⟩), .slice (some ⟨g + 1, 0, none⟩) 5 5, u8, u9, u10, u11, u12, u13, u14, u15, u16, u17, u18, u19, u20, u21, u22, u23, u24, u25, u26, u27, u28, u29, u30, u31, u32, u33, u34, u35, u36, u37, u38, u39, u40, u41, u42, u43, u44, u45, u46, u47, u48, u49, u50, u51, u52, u53, u54, u55, u56, u57, u58, u59, u60, u61, u62, u63, u64, u65, u66, u67, u68, u69, u70, u71, u72, u73, u74, u75, u76, u77, u78, u79, u80, u81, u82, u83, u84, u85, u86, u87, u88, u89, u90, u91, u92, u93, u94, u95, u96, u97, u98, u99, u100, u101, u102, u103, u104, u105, u106, u107, u108, u109, u110, u111, u112, u113, u114, u115, u116, u117, u118, u119, u120, u121, u122, u123, u124, u125, u126, u127, u128, u129, u130, u131, u132, u133, u134, u135, u136, u137, u138, u139, u140, u141, u142, u143, u144, u145, u146, u147, u148, u149, u150, u151, u152, u153, u154, u155, u156, u157, u158, u159, u160, u161, u162, u163, u164, u165, u166, u167, u168, u169, u170, u171, u172, u173, u174, u175, u176, u177, u178, u179, u180, u181, u182, u183, u184, u185, u186, u187, u188, u189, u190, u191, u192, u193, u194], defers := [] } wc := by
  have HR := Lib.hid hR
  have HL := Lib.hid hl
  have HA := Lib.hid ha
  have HB := Lib.hid hb
  have HC := Lib.hid hc
  clear hR hl ha hb hc
  dsimp only [Tryz.f21, nthTail, Option.getD_some]
  unfold UQ
  go_upto_region 29 with fail
  have HW := Lib.hid hW
  clear hW
  go_cut [153] (fun s wx => s = .bool (hasOp ks 4 && (x.op != 49)) ∧ RT w g x A ks us wx)
  case first => as_aux_lemma =>
    obtain ⟨xc0, xc1, xc2, xc3, xc4, xc5, xc6, xf0, xf1, xf2, xf3, xf4, xf5, xf6⟩ := HW.out.bx.facts7
    clear xf0 xf1 xf2 xf3 xf4 xf5 xf6 xc1 xc2 xc3 xc4 xc5 xc6
    obtain ⟨b49, hb49⟩ : ∃ b : Bool, (x.op != 49) = b := ⟨_, rfl⟩
    generalize hb4 : hasOp ks 4 = b4
    cases b4
    · go_wp2_with fail
      refine (has_k HW.out HL.out 4 _ hb4).mono ?_
      rintro e w' ⟨rfl, rfl⟩
      go_wp2_with fail
      go_meet
      exact ⟨by rw [hb4] <;> rfl, HW.out⟩
    · go_wp2_with fail
      refine (has_k HW.out HL.out 4 _ hb4).mono ?_
      rintro e w' ⟨rfl, rfl⟩
      go_wp2_with fail
      go_meet
      exact ⟨by rw [hb4, hb49] <;> rfl, HW.out⟩
  case rest =>
    obtain ⟨rfl, hW⟩ := hcut
    clear HW
    have HW := Lib.hid hW
    clear hW
    go_upto_if 153 with fail
    obtain ⟨b11, hb11⟩ : ∃ b : Bool, (hasOp ks 4 && (x.op != 49)) = b := ⟨_, rfl⟩
    rw [hb11]
    have HB11 := Lib.hid hb11
    clear hb11
    go_cut [] (fun wx => RT w g x A ks (uVW x b11 us) wx)
    case first => as_aux_lemma =>
      cases b11
      · go_wp2_with fail
        go_meet
        exact HW.out
      · skip
        obtain ⟨xc0, xc1, xc2, xc3, xc4, xc5, xc6, xf0, xf1, xf2, xf3, xf4, xf5, xf6⟩ := HW.out.bx.facts7
        clear xc0 xc2 xc3 xc4 xc5 xc6 xf0 xf1 xf2 xf3 xf4 xf5 xf6
        obtain ⟨uc0, uc1, uc2, uc3, uc4, uc5, uc6, uc7, uc8, uf0, uf1, uf2, uf3, uf4, uf5, uf6, uf7, uf8⟩ := HW.out.bu.facts9
        clear uc0 uc1 uc2 uc4 uc5 uc6 uc7 uc8 uf3 uf0 uf1 uf2 uf4 uf5 uf6 uf7 uf8
        have HD := Lib.hid HW.out.drew
        go_wp2_with fail
        go_still_tail 7, (by kernel_rfl)
        still_call (bit_still x.a HA.out.1 HA.out.2 _)
        repeat still_step
        refine wpStill_nil ?_
        change wpList _ _ _ _ _ wc.drew
        clear uc3 xc1 HW
        revert HD
        generalize wc.drew = w2
        intro HD
        obtain ⟨uc0, uc1, uc2, uc3, uc4, uc5, uc6, uc7, uc8, uf0, uf1, uf2, uf3, uf4, uf5, uf6, uf7, uf8⟩ := HD.out.bu.facts9
        clear uc0 uc1 uc2 uc4 uc5 uc6 uc7 uc8 uf0 uf1 uf2 uf4 uf5 uf6 uf7 uf8
        go_wp2
        go_meet
        exact RT.set_ (u' := uVW x true us) (u := us) HD.out 3 _ rfl
    case rest => as_aux_lemma =>
      have hW := hcut
      clear hcut HW
      obtain ⟨s11, hu11⟩ : ∃ u, (uVW x b11 us) = u := ⟨_, rfl⟩
      rw [hu11] at hW
      rw [HB11.out, hu11] at HR
      clear hu11 HB11
      refine (‹∀ (a : Act) (w : World), Code.wp Tryz.prog _ _ a w → _›) _ _ ?_
      exact rtail11 x w g A ks s11 b _ _ _ _ _ _ _ _ _ _ _ _ _ _ _ _ _ _ _ _ _ _ _ _ _ _ _ _ _ _ _ _ _ _ _ _ _ _ _ _ _ _ _ _ _ _ _ _ _ _ _ _ _ _ _ _ _ _ _ _ _ _ _ _ _ _ _ _ _ _ _ _ _ _ _ _ _ _ _ _ _ _ _ _ _ _ _ _ _ _ _ _ _ _ _ _ _ _ _ _ _ _ _ _ _ _ _ _ _ _ _ _ _ _ _ _ _ _ _ _ _ _ _ _ _ _ _ _ _ _ _ _ _ _ _ _ _ _ _ _ _ _ _ _ _ _ _ _ _ _ _ _ _ _ _ _ _ _ _ _ _ _ _ _ _ _ _ _ _ _ _ _ _ _ _ _ _ _ _ _ _ _ _ _ _ _ _ wc HL.out HA.out HB.out HC.out HR.out hW
set_option maxRecDepth 100000 in
set_option maxHeartbeats 40000000 in
theorem rtail9 (x : Insn) (w : World) (g : Nat) (A : Option Addr) (ks : List Int) (us : UsesS) (b : Bool) (u8 u9 u10 u11 u12 u13 u14 u15 u16 u17 u18 u19 u20 u21 u22 u23 u24 u25 u26 u27 u28 u29 u30 u31 u32 u33 u34 u35 u36 u37 u38 u39 u40 u41 u42 u43 u44 u45 u46 u47 u48 u49 u50 u51 u52 u53 u54 u55 u56 u57 u58 u59 u60 u61 u62 u63 u64 u65 u66 u67 u68 u69 u70 u71 u72 u73 u74 u75 u76 u77 u78 u79 u80 u81 u82 u83 u84 u85 u86 u87 u88 u89 u90 u91 u92 u93 u94 u95 u96 u97 u98 u99 u100 u101 u102 u103 u104 u105 u106 u107 u108 u109 u110 u111 u112 u113 u114 u115 u116 u117 u118 u119 u120 u121 u122 u123 u124 u125 u126 u127 u128 u129 u130 u131 u132 u133 u134 u135 u136 u137 u138 u139 u140 u141 u142 u143 u144 u145 u146 u147 u148 u149 u150 u151 u152 u153 u154 u155 u156 u157 u158 u159 u160 u161 u162 u163 u164 u165 u166 u167 u168 u169 u170 u171 u172 u173 u174 u175 u176 u177 u178 u179 u180 u181 u182 u183 u184 u185 u186 u187 u188 u189 u190 u191 u192 u193 u194 : Value) (wc : World) (hl : ks.length ≤ 5) (ha : 0 ≤ x.a ∧ x.a ≤ 15) (hb : 0 ≤ x.b ∧ x.b ≤ 15) (hc : 0 ≤ x.c ∧ x.c ≤ 15)
    (hR : usesR x = uFin x (uVW x (hasOp ks 4 && (x.op != 49)) (uVA x ((x.op == 49) || (x.op == 58)) (us)))) (hW : RT w g x A ks us wc) :
    Code.wp Tryz.prog (nthTail 14 (Tryz.f21.body.getD .skip)) (UQ x w)
      { tmps := #[.agg #[.int .i64 x.op, .int .i64 x.a, .int .i64 x.b, .int .i64 x.c, .int .i64 x.d, .int .i64 x.k, .int .u32 x.i], .pointer (some ⟨w.heap.size, 0, none⟩), .pointer (some ⟨w.heap.size + 1, 0, none⟩), .int .i64 0, .slice A ks.length ks.length, .bool b, .pointer (some ⟨g, 0, none⟩), .slice (some ⟨g + 1, 0, none⟩) 5 5, u8, u9, u10, u11, u12, u13, u14, u15, u16, u17, u18, u19, u20, u21, u22, u23, u24, u25, u26, u27, u28, u29, u30, u31, u32, u33, u34, u35, u36, u37, u38, u39, u40, u41, u42, u43, u44, u45, u46, u47, u48, u49, u50, u51, u52, u53, u54, u55, u56, u57, u58, u59, u60, u61, u62, u63, u64, u65, u66, u67, u68, u69, u70, u71, u72, u73, u74, u75, u76, u77, u78, u79, u80, u81, u82, u83, u84, u85, u86, u87, u88, u89, u90, u91, u92, u93, u94, u95, u96, u97, u98, u99, u100, u101, u102, u103, u104, u105, u106, u107, u108, u109, u110, u111, u112, u113, u114, u115, u116, u117, u118, u119, u120, u121, u122, u123, u124, u125, u126, u127, u128, u129, u130, u131, u132, u133, u134, u135, u136, u137, u138, u139, u140, u141, u142, u143, u144, u145, u146, u147, u148, u149, u150, u151, u152, u153, u154, u155, u156, u157, u158, u159, u160, u161, u162, u163, u164, u165, u166, u167, u168, u169, u170, u171, u172, u173, u174, u175, u176, u177, u178, u179, u180, u181, u182, u183, u184, u185, u186, u187, u188, u189, u190, u191, u192, u193, u194], defers := [] } wc := by
  have HR := Lib.hid hR
  have HL := Lib.hid hl
  have HA := Lib.hid ha
  have HB := Lib.hid hb
  have HC := Lib.hid hc
  clear hR hl ha hb hc
  dsimp only [Tryz.f21, nthTail, Option.getD_some]
  unfold UQ
  go_upto_region 27 with fail
  have HW := Lib.hid hW
  clear hW
  go_cut [139] (fun s wx => s = .bool ((x.op == 49) || (x.op == 58)) ∧ RT w g x A ks us wx)
  case first => as_aux_lemma =>
    obtain ⟨xc0, xc1, xc2, xc3, xc4, xc5, xc6, xf0, xf1, xf2, xf3, xf4, xf5, xf6⟩ := HW.out.bx.facts7
    clear xf0 xf1 xf2 xf3 xf4 xf5 xf6 xc1 xc2 xc3 xc4 xc5 xc6
    obtain ⟨b49, hb49⟩ : ∃ b : Bool, (x.op == 49) = b := ⟨_, rfl⟩
    cases b49
    · go_wp2_with fail
      go_meet
      exact ⟨by rw [hb49] <;> rfl, HW.out⟩
    · go_wp2_with fail
      go_meet
      exact ⟨by rw [hb49] <;> rfl, HW.out⟩
  case rest =>
    obtain ⟨rfl, hW⟩ := hcut
    clear HW
    have HW := Lib.hid hW
    clear hW
    go_upto_if 139 with fail
    obtain ⟨b10, hb10⟩ : ∃ b : Bool, ((x.op == 49) || (x.op == 58)) = b := ⟨_, rfl⟩
    rw [hb10]
    have HB10 := Lib.hid hb10
    clear hb10
    go_cut [] (fun wx => RT w g x A ks (uVA x b10 us) wx)
    case first => as_aux_lemma =>
      cases b10
      · go_wp2_with fail
        go_meet
        exact HW.out
      · skip
        obtain ⟨xc0, xc1, xc2, xc3, xc4, xc5, xc6, xf0, xf1, xf2, xf3, xf4, xf5, xf6⟩ := HW.out.bx.facts7
        clear xc0 xc2 xc3 xc4 xc5 xc6 xf0 xf1 xf2 xf3 xf4 xf5 xf6
        obtain ⟨uc0, uc1, uc2, uc3, uc4, uc5, uc6, uc7, uc8, uf0, uf1, uf2, uf3, uf4, uf5, uf6, uf7, uf8⟩ := HW.out.bu.facts9
        clear uc0 uc1 uc3 uc4 uc5 uc6 uc7 uc8 uf2 uf0 uf1 uf3 uf4 uf5 uf6 uf7 uf8
        have HD := Lib.hid HW.out.drew
        go_wp2_with fail
        go_still_tail 7, (by kernel_rfl)
        still_call (bit_still x.a HA.out.1 HA.out.2 _)
        repeat still_step
        refine wpStill_nil ?_
        change wpList _ _ _ _ _ wc.drew
        clear uc2 xc1 HW
        revert HD
        generalize wc.drew = w2
        intro HD
        obtain ⟨uc0, uc1, uc2, uc3, uc4, uc5, uc6, uc7, uc8, uf0, uf1, uf2, uf3, uf4, uf5, uf6, uf7, uf8⟩ := HD.out.bu.facts9
        clear uc0 uc1 uc3 uc4 uc5 uc6 uc7 uc8 uf0 uf1 uf3 uf4 uf5 uf6 uf7 uf8
        go_wp2
        go_meet
        exact RT.set_ (u' := uVA x true us) (u := us) HD.out 2 _ rfl
    case rest => as_aux_lemma =>
      have hW := hcut
      clear hcut HW
      obtain ⟨s10, hu10⟩ : ∃ u, (uVA x b10 us) = u := ⟨_, rfl⟩
      rw [hu10] at hW
      rw [HB10.out, hu10] at HR
      clear hu10 HB10
      refine (‹∀ (a : Act) (w : World), Code.wp Tryz.prog _ _ a w → _›) _ _ ?_
      exact rtail10 x w g A ks s10 b _ _ _ _ _ _ _ _ _ _ _ _ _ _ _ _ _ _ _ _ _ _ _ _ _ _ _ _ _ _ _ _ _ _ _ _ _ _ _ _ _ _ _ _ _ _ _ _ _ _ _ _ _ _ _ _ _ _ _ _ _ _ _ _ _ _ _ _ _ _ _ _ _ _ _ _ _ _ _ _ _ _ _ _ _ _ _ _ _ _ _ _ _ _ _ _ _ _ _ _ _ _ _ _ _ _ _ _ _ _ _ _ _ _ _ _ _ _ _ _ _ _ _ _ _ _ _ _ _ _ _ _ _ _ _ _ _ _ _ _ _ _ _ _ _ _ _ _ _ _ _ _ _ _ _ _ _ _ _ _ _ _ _ _ _ _ _ _ _ _ _ _ _ _ _ _ _ _ _ _ _ _ _ _ _ _ _ wc HL.out HA.out HB.out HC.out HR.out hW
set_option maxRecDepth 100000 in
set_option maxHeartbeats 40000000 in
theorem rtail8 (x : Insn) (w : World) (g : Nat) (A : Option Addr) (ks : List Int) (us : UsesS) (b : Bool) (u8 u9 u10 u11 u12 u13 u14 u15 u16 u17 u18 u19 u20 u21 u22 u23 u24 u25 u26 u27 u28 u29 u30 u31 u32 u33 u34 u35 u36 u37 u38 u39 u40 u41 u42 u43 u44 u45 u46 u47 u48 u49 u50 u51 u52 u53 u54 u55 u56 u57 u58 u59 u60 u61 u62 u63 u64 u65 u66 u67 u68 u69 u70 u71 u72 u73 u74 u75 u76 u77 u78 u79 u80 u81 u82 u83 u84 u85 u86 u87 u88 u89 u90 u91 u92 u93 u94 u95 u96 u97 u98 u99 u100 u101 u102 u103 u104 u105 u106 u107 u108 u109 u110 u111 u112 u113 u114 u115 u116 u117 u118 u119 u120 u121 u122 u123 u124 u125 u126 u127 u128 u129 u130 u131 u132 u133 u134 u135 u136 u137 u138 u139 u140 u141 u142 u143 u144 u145 u146 u147 u148 u149 u150 u151 u152 u153 u154 u155 u156 u157 u158 u159 u160 u161 u162 u163 u164 u165 u166 u167 u168 u169 u170 u171 u172 u173 u174 u175 u176 u177 u178 u179 u180 u181 u182 u183 u184 u185 u186 u187 u188 u189 u190 u191 u192 u193 u194 : Value) (wc : World) (hl : ks.length ≤ 5) (ha : 0 ≤ x.a ∧ x.a ≤ 15) (hb : 0 ≤ x.b ∧ x.b ≤ 15) (hc : 0 ≤ x.c ∧ x.c ≤ 15)
    (hR : usesR x = uFin x (uVW x (hasOp ks 4 && (x.op != 49)) (uVA x ((x.op == 49) || (x.op == 58)) (uVC x (hasOp ks 6) (us))))) (hW : RT w g x A ks us wc) :
    Code.wp Tryz.prog (nthTail 13 (Tryz.f21.body.getD .skip)) (UQ x w)
      { tmps := #[.agg #[.int .i64 x.op, .int .i64 x.a, .int .i64 x.b, .int .i64 x.c, .int .i64 x.d, .int .i64 x.k, .int .u32 x.i], .pointer (some ⟨w.heap.size, 0, none⟩), .pointer (some ⟨w.heap.size + 1, 0, none⟩), .int .i64 0, .slice A ks.length ks.length, .bool b, .pointer (some ⟨g, 0, none⟩), .slice (some ⟨g + 1, 0, none⟩) 5 5, u8, u9, u10, u11, u12, u13, u14, u15, u16, u17, u18, u19, u20, u21, u22, u23, u24, u25, u26, u27, u28, u29, u30, u31, u32, u33, u34, u35, u36, u37, u38, u39, u40, u41, u42, u43, u44, u45, u46, u47, u48, u49, u50, u51, u52, u53, u54, u55, u56, u57, u58, u59, u60, u61, u62, u63, u64, u65, u66, u67, u68, u69, u70, u71, u72, u73, u74, u75, u76, u77, u78, u79, u80, u81, u82, u83, u84, u85, u86, u87, u88, u89, u90, u91, u92, u93, u94, u95, u96, u97, u98, u99, u100, u101, u102, u103, u104, u105, u106, u107, u108, u109, u110, u111, u112, u113, u114, u115, u116, u117, u118, u119, u120, u121, u122, u123, u124, u125, u126, u127, u128, u129, u130, u131, u132, u133, u134, u135, u136, u137, u138, u139, u140, u141, u142, u143, u144, u145, u146, u147, u148, u149, u150, u151, u152, u153, u154, u155, u156, u157, u158, u159, u160, u161, u162, u163, u164, u165, u166, u167, u168, u169, u170, u171, u172, u173, u174, u175, u176, u177, u178, u179, u180, u181, u182, u183, u184, u185, u186, u187, u188, u189, u190, u191, u192, u193, u194], defers := [] } wc := by
  have HR := Lib.hid hR
  have HL := Lib.hid hl
  have HA := Lib.hid ha
  have HB := Lib.hid hb
  have HC := Lib.hid hc
  clear hR hl ha hb hc
  dsimp only [Tryz.f21, nthTail, Option.getD_some]
  unfold UQ
  go_upto_region 25 with fail
  have HW := Lib.hid hW
  clear hW
  obtain ⟨b9, hb9⟩ : ∃ b : Bool, (hasOp ks 6) = b := ⟨_, rfl⟩
  have HB9 := Lib.hid hb9
  clear hb9
  go_wp2_with fail
  refine (has_k HW.out HL.out 6 _ HB9.out).mono ?_
  rintro e w' ⟨rfl, rfl⟩
  go_upto_if 124 with fail
  go_cut [] (fun wx => RT w g x A ks (uVC x b9 us) wx)
  case first => as_aux_lemma =>
    cases b9
    · go_wp2_with fail
      go_meet
      exact HW.out
    · skip
      obtain ⟨xc0, xc1, xc2, xc3, xc4, xc5, xc6, xf0, xf1, xf2, xf3, xf4, xf5, xf6⟩ := HW.out.bx.facts7
      clear xc0 xc1 xc2 xc4 xc5 xc6 xf0 xf1 xf2 xf3 xf4 xf5 xf6
      obtain ⟨uc0, uc1, uc2, uc3, uc4, uc5, uc6, uc7, uc8, uf0, uf1, uf2, uf3, uf4, uf5, uf6, uf7, uf8⟩ := HW.out.bu.facts9
      clear uc0 uc1 uc3 uc4 uc5 uc6 uc7 uc8 uf2 uf0 uf1 uf3 uf4 uf5 uf6 uf7 uf8
      have HD := Lib.hid HW.out.drew
      go_wp2_with fail
      go_still_tail 7, (by kernel_rfl)
      still_call (bit_still x.c HC.out.1 HC.out.2 _)
      repeat still_step
      refine wpStill_nil ?_
      change wpList _ _ _ _ _ wc.drew
      clear uc2 xc3 HW
      revert HD
      generalize wc.drew = w2
      intro HD
      obtain ⟨uc0, uc1, uc2, uc3, uc4, uc5, uc6, uc7, uc8, uf0, uf1, uf2, uf3, uf4, uf5, uf6, uf7, uf8⟩ := HD.out.bu.facts9
      clear uc0 uc1 uc3 uc4 uc5 uc6 uc7 uc8 uf0 uf1 uf3 uf4 uf5 uf6 uf7 uf8
      go_wp2
      go_meet
      exact RT.set_ (u' := uVC x true us) (u := us) HD.out 2 _ rfl
  case rest =>
    have hW := hcut
    clear hcut HW
    obtain ⟨s9, hu9⟩ : ∃ u, (uVC x b9 us) = u := ⟨_, rfl⟩
    rw [hu9] at hW
    rw [HB9.out, hu9] at HR
    clear hu9 HB9
    refine (‹∀ (a : Act) (w : World), Code.wp Tryz.prog _ _ a w → _›) _ _ ?_
    exact rtail9 x w g A ks s9 b _ _ _ _ _ _ _ _ _ _ _ _ _ _ _ _ _ _ _ _ _ _ _ _ _ _ _ _ _ _ _ _ _ _ _ _ _ _ _ _ _ _ _ _ _ _ _ _ _ _ _ _ _ _ _ _ _ _ _ _ _ _ _ _ _ _ _ _ _ _ _ _ _ _ _ _ _ _ _ _ _ _ _ _ _ _ _ _ _ _ _ _ _ _ _ _ _ _ _ _ _ _ _ _ _ _ _ _ _ _ _ _ _ _ _ _ _ _ _ _ _ _ _ _ _ _ _ _ _ _ _ _ _ _ _ _ _ _ _ _ _ _ _ _ _ _ _ _ _ _ _ _ _ _ _ _ _ _ _ _ _ _ _ _ _ _ _ _ _ _ _ _ _ _ _ _ _ _ _ _ _ _ _ _ _ _ _ wc HL.out HA.out HB.out HC.out HR.out hW
set_option maxRecDepth 100000 in
set_option maxHeartbeats 40000000 in
theorem rtail7 (x : Insn) (w : World) (g : Nat) (A : Option Addr) (ks : List Int) (us : UsesS) (b : Bool) (u8 u9 u10 u11 u12 u13 u14 u15 u16 u17 u18 u19 u20 u21 u22 u23 u24 u25 u26 u27 u28 u29 u30 u31 u32 u33 u34 u35 u36 u37 u38 u39 u40 u41 u42 u43 u44 u45 u46 u47 u48 u49 u50 u51 u52 u53 u54 u55 u56 u57 u58 u59 u60 u61 u62 u63 u64 u65 u66 u67 u68 u69 u70 u71 u72 u73 u74 u75 u76 u77 u78 u79 u80 u81 u82 u83 u84 u85 u86 u87 u88 u89 u90 u91 u92 u93 u94 u95 u96 u97 u98 u99 u100 u101 u102 u103 u104 u105 u106 u107 u108 u109 u110 u111 u112 u113 u114 u115 u116 u117 u118 u119 u120 u121 u122 u123 u124 u125 u126 u127 u128 u129 u130 u131 u132 u133 u134 u135 u136 u137 u138 u139 u140 u141 u142 u143 u144 u145 u146 u147 u148 u149 u150 u151 u152 u153 u154 u155 u156 u157 u158 u159 u160 u161 u162 u163 u164 u165 u166 u167 u168 u169 u170 u171 u172 u173 u174 u175 u176 u177 u178 u179 u180 u181 u182 u183 u184 u185 u186 u187 u188 u189 u190 u191 u192 u193 u194 : Value) (wc : World) (hl : ks.length ≤ 5) (ha : 0 ≤ x.a ∧ x.a ≤ 15) (hb : 0 ≤ x.b ∧ x.b ≤ 15) (hc : 0 ≤ x.c ∧ x.c ≤ 15)
    (hR : usesR x = uFin x (uVW x (hasOp ks 4 && (x.op != 49)) (uVA x ((x.op == 49) || (x.op == 58)) (uVC x (hasOp ks 6) (uVB x (hasOp ks 5) (us)))))) (hW : RT w g x A ks us wc) :
    Code.wp Tryz.prog (nthTail 12 (Tryz.f21.body.getD .skip)) (UQ x w)
      { tmps := #[.agg #[.int .i64 x.op, .int .i64 x.a, .int .i64 x.b, .int .i64 x.c, .int .i64 x.d, .int .i64 x.k, .int .u32 x.i], .pointer (some ⟨w.heap.size, 0, none⟩), .pointer (some ⟨w.heap.size + 1, 0, none⟩), .int .i64 0, .slice A ks.length ks.length, .bool b, .pointer (some ⟨g, 0, none⟩), .slice (some ⟨g + 1, 0, none⟩) 5 5, u8, u9, u10, u11, u12, u13, u14, u15, u16, u17, u18, u19, u20, u21, u22, u23, u24, u25, u26, u27, u28, u29, u30, u31, u32, u33, u34, u35, u36, u37, u38, u39, u40, u41, u42, u43, u44, u45, u46, u47, u48, u49, u50, u51, u52, u53, u54, u55, u56, u57, u58, u59, u60, u61, u62, u63, u64, u65, u66, u67, u68, u69, u70, u71, u72, u73, u74, u75, u76, u77, u78, u79, u80, u81, u82, u83, u84, u85, u86, u87, u88, u89, u90, u91, u92, u93, u94, u95, u96, u97, u98, u99, u100, u101, u102, u103, u104, u105, u106, u107, u108, u109, u110, u111, u112, u113, u114, u115, u116, u117, u118, u119, u120, u121, u122, u123, u124, u125, u126, u127, u128, u129, u130, u131, u132, u133, u134, u135, u136, u137, u138, u139, u140, u141, u142, u143, u144, u145, u146, u147, u148, u149, u150, u151, u152, u153, u154, u155, u156, u157, u158, u159, u160, u161, u162, u163, u164, u165, u166, u167, u168, u169, u170, u171, u172, u173, u174, u175, u176, u177, u178, u179, u180, u181, u182, u183, u184, u185, u186, u187, u188, u189, u190, u191, u192, u193, u194], defers := [] } wc := by
  have HR := Lib.hid hR
  have HL := Lib.hid hl
  have HA := Lib.hid ha
  have HB := Lib.hid hb
  have HC := Lib.hid hc
  clear hR hl ha hb hc
  dsimp only [Tryz.f21, nthTail, Option.getD_some]
  unfold UQ
  go_upto_region 23 with fail
  have HW := Lib.hid hW
  clear hW
  obtain ⟨b8, hb8⟩ : ∃ b : Bool, (hasOp ks 5) = b := ⟨_, rfl⟩
  have HB8 := Lib.hid hb8
  clear hb8
  go_wp2_with fail
  refine (has_k HW.out HL.out 5 _ HB8.out).mono ?_
  rintro e w' ⟨rfl, rfl⟩
  go_upto_if 115 with fail
  go_cut [] (fun wx => RT w g x A ks (uVB x b8 us) wx)
  case first => as_aux_lemma =>
    cases b8
    · go_wp2_with fail
      go_meet
      exact HW.out
    · skip
      obtain ⟨xc0, xc1, xc2, xc3, xc4, xc5, xc6, xf0, xf1, xf2, xf3, xf4, xf5, xf6⟩ := HW.out.bx.facts7
      clear xc0 xc1 xc3 xc4 xc5 xc6 xf0 xf1 xf2 xf3 xf4 xf5 xf6
      obtain ⟨uc0, uc1, uc2, uc3, uc4, uc5, uc6, uc7, uc8, uf0, uf1, uf2, uf3, uf4, uf5, uf6, uf7, uf8⟩ := HW.out.bu.facts9
      clear uc0 uc1 uc3 uc4 uc5 uc6 uc7 uc8 uf2 uf0 uf1 uf3 uf4 uf5 uf6 uf7 uf8
      have HD := Lib.hid HW.out.drew
      go_wp2_with fail
      go_still_tail 7, (by kernel_rfl)
      still_call (bit_still x.b HB.out.1 HB.out.2 _)
      repeat still_step
      refine wpStill_nil ?_
      change wpList _ _ _ _ _ wc.drew
      clear uc2 xc2 HW
      revert HD
      generalize wc.drew = w2
      intro HD
      obtain ⟨uc0, uc1, uc2, uc3, uc4, uc5, uc6, uc7, uc8, uf0, uf1, uf2, uf3, uf4, uf5, uf6, uf7, uf8⟩ := HD.out.bu.facts9
      clear uc0 uc1 uc3 uc4 uc5 uc6 uc7 uc8 uf0 uf1 uf3 uf4 uf5 uf6 uf7 uf8
      go_wp2
      go_meet
      exact RT.set_ (u' := uVB x true us) (u := us) HD.out 2 _ rfl
  case rest => as_aux_lemma =>
    have hW := hcut
    clear hcut HW
    obtain ⟨s8, hu8⟩ : ∃ u, (uVB x b8 us) = u := ⟨_, rfl⟩
    rw [hu8] at hW
    rw [HB8.out, hu8] at HR
    clear hu8 HB8
    refine (‹∀ (a : Act) (w : World), Code.wp Tryz.prog _ _ a w → _›) _ _ ?_
    exact rtail8 x w g A ks s8 b _ _ _ _ _ _ _ _ _ _ _ _ _ _ _ _ _ _ _ _ _ _ _ _ _ _ _ _ _ _ _ _ _ _ _ _ _ _ _ _ _ _ _ _ _ _ _ _ _ _ _ _ _ _ _ _ _ _ _ _ _ _ _ _ _ _ _ _ _ _ _ _ _ _ _ _ _ _ _ _ _ _ _ _ _ _ _ _ _ _ _ _ _ _ _ _ _ _ _ _ _ _ _ _ _ _ _ _ _ _ _ _ _ _ _ _ _ _ _ _ _ _ _ _ _ _ _ _ _ _ _ _ _ _ _ _ _ _ _ _ _ _ _ _ _ _ _ _ _ _ _ _ _ _ _ _ _ _ _ _ _ _ _ _ _ _ _ _ _ _ _ _ _ _ _ _ _ _ _ _ _ _ _ _ _ _ _ wc HL.out HA.out HB.out HC.out HR.out hW
set_option maxRecDepth 100000 in
set_option maxHeartbeats 40000000 in
theorem rtail6 (x : Insn) (w : World) (g : Nat) (A : Option Addr) (ks : List Int) (us : UsesS) (b : Bool) (u8 u9 u10 u11 u12 u13 u14 u15 u16 u17 u18 u19 u20 u21 u22 u23 u24 u25 u26 u27 u28 u29 u30 u31 u32 u33 u34 u35 u36 u37 u38 u39 u40 u41 u42 u43 u44 u45 u46 u47 u48 u49 u50 u51 u52 u53 u54 u55 u56 u57 u58 u59 u60 u61 u62 u63 u64 u65 u66 u67 u68 u69 u70 u71 u72 u73 u74 u75 u76 u77 u78 u79 u80 u81 u82 u83 u84 u85 u86 u87 u88 u89 u90 u91 u92 u93 u94 u95 u96 u97 u98 u99 u100 u101 u102 u103 u104 u105 u106 u107 u108 u109 u110 u111 u112 u113 u114 u115 u116 u117 u118 u119 u120 u121 u122 u123 u124 u125 u126 u127 u128 u129 u130 u131 u132 u133 u134 u135 u136 u137 u138 u139 u140 u141 u142 u143 u144 u145 u146 u147 u148 u149 u150 u151 u152 u153 u154 u155 u156 u157 u158 u159 u160 u161 u162 u163 u164 u165 u166 u167 u168 u169 u170 u171 u172 u173 u174 u175 u176 u177 u178 u179 u180 u181 u182 u183 u184 u185 u186 u187 u188 u189 u190 u191 u192 u193 u194 : Value) (wc : World) (hl : ks.length ≤ 5) (ha : 0 ≤ x.a ∧ x.a ≤ 15) (hb : 0 ≤ x.b ∧ x.b ≤ 15) (hc : 0 ≤ x.c ∧ x.c ≤ 15)
    (hR : usesR x = uFin x (uVW x (hasOp ks 4 && (x.op != 49)) (uVA x ((x.op == 49) || (x.op == 58)) (uVC x (hasOp ks 6) (uVB x (hasOp ks 5) (uQ (x.op == 44) (us))))))) (hW : RT w g x A ks us wc) :
    Code.wp Tryz.prog (nthTail 11 (Tryz.f21.body.getD .skip)) (UQ x w)
      { tmps := #[.agg #[.int .i64 x.op, .int .i64 x.a, .int .i64 x.b, .int .i64 x.c, .int .i64 x.d, .int .i64 x.k, .int .u32 x.i], .pointer (some ⟨w.heap.size, 0, none⟩), .pointer (some ⟨w.heap.size + 1, 0, none⟩), .int .i64 0, .slice A ks.length ks.length, .bool b, .pointer (some ⟨g, 0, none⟩), .slice (some ⟨g + 1, 0, none⟩) 5 5, u8, u9, u10, u11, u12, u13, u14, u15, u16, u17, u18, u19, u20, u21, u22, u23, u24, u25, u26, u27, u28, u29, u30, u31, u32, u33, u34, u35, u36, u37, u38, u39, u40, u41, u42, u43, u44, u45, u46, u47, u48, u49, u50, u51, u52, u53, u54, u55, u56, u57, u58, u59, u60, u61, u62, u63, u64, u65, u66, u67, u68, u69, u70, u71, u72, u73, u74, u75, u76, u77, u78, u79, u80, u81, u82, u83, u84, u85, u86, u87, u88, u89, u90, u91, u92, u93, u94, u95, u96, u97, u98, u99, u100, u101, u102, u103, u104, u105, u106, u107, u108, u109, u110, u111, u112, u113, u114, u115, u116, u117, u118, u119, u120, u121, u122, u123, u124, u125, u126, u127, u128, u129, u130, u131, u132, u133, u134, u135, u136, u137, u138, u139, u140, u141, u142, u143, u144, u145, u146, u147, u148, u149, u150, u151, u152, u153, u154, u155, u156, u157, u158, u159, u160, u161, u162, u163, u164, u165, u166, u167, u168, u169, u170, u171, u172, u173, u174, u175, u176, u177, u178, u179, u180, u181, u182, u183, u184, u185, u186, u187, u188, u189, u190, u191, u192, u193, u194], defers := [] } wc := by
  have HR := Lib.hid hR
  have HL := Lib.hid hl
  have HA := Lib.hid ha
  have HB := Lib.hid hb
  have HC := Lib.hid hc
  clear hR hl ha hb hc
  dsimp only [Tryz.f21, nthTail, Option.getD_some]
  unfold UQ
  go_upto_region 20 with fail
  have HW := Lib.hid hW
  clear hW
  obtain ⟨b7, hb7⟩ : ∃ b : Bool, (x.op == 44) = b := ⟨_, rfl⟩
  have HB7 := Lib.hid hb7
  clear hb7
  have hz := HB7.out
  obtain ⟨xc0, xc1, xc2, xc3, xc4, xc5, xc6, xf0, xf1, xf2, xf3, xf4, xf5, xf6⟩ := HW.out.bx.facts7
  clear xf0 xf1 xf2 xf3 xf4 xf5 xf6 xc1 xc2 xc3 xc4 xc5 xc6
  go_upto_if 105 with fail
  clear hz xc0
  go_cut [] (fun wx => RT w g x A ks (uQ b7 us) wx)
  case first => as_aux_lemma =>
    cases b7
    · go_wp2_with fail
      go_meet
      exact HW.out
    · skip
      obtain ⟨uc0, uc1, uc2, uc3, uc4, uc5, uc6, uc7, uc8, uf0, uf1, uf2, uf3, uf4, uf5, uf6, uf7, uf8⟩ := HW.out.bu.facts9
      clear uc2 uc3 uc4 uc5 uc6 uc7 uc8 uf2 uf3 uf4 uf5 uf6 uf7 uf8
      go_wp2_with fail
      go_meet
      exact RT.set_ (u' := uQ true us) (u := { us with r := orI us.r 3 }) (RT.set_ HW.out 0 _ rfl) 1 _ rfl
  case rest =>
    have hW := hcut
    clear hcut HW
    obtain ⟨s7, hu7⟩ : ∃ u, (uQ b7 us) = u := ⟨_, rfl⟩
    rw [hu7] at hW
    rw [HB7.out, hu7] at HR
    clear hu7 HB7
    refine (‹∀ (a : Act) (w : World), Code.wp Tryz.prog _ _ a w → _›) _ _ ?_
    exact rtail7 x w g A ks s7 b _ _ _ _ _ _ _ _ _ _ _ _ _ _ _ _ _ _ _ _ _ _ _ _ _ _ _ _ _ _ _ _ _ _ _ _ _ _ _ _ _ _ _ _ _ _ _ _ _ _ _ _ _ _ _ _ _ _ _ _ _ _ _ _ _ _ _ _ _ _ _ _ _ _ _ _ _ _ _ _ _ _ _ _ _ _ _ _ _ _ _ _ _ _ _ _ _ _ _ _ _ _ _ _ _ _ _ _ _ _ _ _ _ _ _ _ _ _ _ _ _ _ _ _ _ _ _ _ _ _ _ _ _ _ _ _ _ _ _ _ _ _ _ _ _ _ _ _ _ _ _ _ _ _ _ _ _ _ _ _ _ _ _ _ _ _ _ _ _ _ _ _ _ _ _ _ _ _ _ _ _ _ _ _ _ _ _ wc HL.out HA.out HB.out HC.out HR.out hW
set_option maxRecDepth 100000 in
set_option maxHeartbeats 40000000 in
theorem rtail5 (x : Insn) (w : World) (g : Nat) (A : Option Addr) (ks : List Int) (us : UsesS) (b : Bool) (u8 u9 u10 u11 u12 u13 u14 u15 u16 u17 u18 u19 u20 u21 u22 u23 u24 u25 u26 u27 u28 u29 u30 u31 u32 u33 u34 u35 u36 u37 u38 u39 u40 u41 u42 u43 u44 u45 u46 u47 u48 u49 u50 u51 u52 u53 u54 u55 u56 u57 u58 u59 u60 u61 u62 u63 u64 u65 u66 u67 u68 u69 u70 u71 u72 u73 u74 u75 u76 u77 u78 u79 u80 u81 u82 u83 u84 u85 u86 u87 u88 u89 u90 u91 u92 u93 u94 u95 u96 u97 u98 u99 u100 u101 u102 u103 u104 u105 u106 u107 u108 u109 u110 u111 u112 u113 u114 u115 u116 u117 u118 u119 u120 u121 u122 u123 u124 u125 u126 u127 u128 u129 u130 u131 u132 u133 u134 u135 u136 u137 u138 u139 u140 u141 u142 u143 u144 u145 u146 u147 u148 u149 u150 u151 u152 u153 u154 u155 u156 u157 u158 u159 u160 u161 u162 u163 u164 u165 u166 u167 u168 u169 u170 u171 u172 u173 u174 u175 u176 u177 u178 u179 u180 u181 u182 u183 u184 u185 u186 u187 u188 u189 u190 u191 u192 u193 u194 : Value) (wc : World) (hl : ks.length ≤ 5) (ha : 0 ≤ x.a ∧ x.a ≤ 15) (hb : 0 ≤ x.b ∧ x.b ≤ 15) (hc : 0 ≤ x.c ∧ x.c ≤ 15)
    (hR : usesR x = uFin x (uVW x (hasOp ks 4 && (x.op != 49)) (uVA x ((x.op == 49) || (x.op == 58)) (uVC x (hasOp ks 6) (uVB x (hasOp ks 5) (uQ (x.op == 44) (uY (x.op == 43) (us)))))))) (hW : RT w g x A ks us wc) :
    Code.wp Tryz.prog (nthTail 10 (Tryz.f21.body.getD .skip)) (UQ x w)
      { tmps := #[.agg #[.int .i64 x.op, .int .i64 x.a, .int .i64 x.b, .int .i64 x.c, .int .i64 x.d, .int .i64 x.k, .int .u32 x.i], .pointer (some ⟨w.heap.size, 0, none⟩), .pointer (some ⟨w.heap.size + 1, 0, none⟩), .int .i64 0, .slice A ks.length ks.length, .bool b, .pointer (some ⟨g, 0, none⟩), .slice (some ⟨g + 1, 0, none⟩) 5 5, u8, u9, u10, u11, u12, u13, u14, u15, u16, u17, u18, u19, u20, u21, u22, u23, u24, u25, u26, u27, u28, u29, u30, u31, u32, u33, u34, u35, u36, u37, u38, u39, u40, u41, u42, u43, u44, u45, u46, u47, u48, u49, u50, u51, u52, u53, u54, u55, u56, u57, u58, u59, u60, u61, u62, u63, u64, u65, u66, u67, u68, u69, u70, u71, u72, u73, u74, u75, u76, u77, u78, u79, u80, u81, u82, u83, u84, u85, u86, u87, u88, u89, u90, u91, u92, u93, u94, u95, u96, u97, u98, u99, u100, u101, u102, u103, u104, u105, u106, u107, u108, u109, u110, u111, u112, u113, u114, u115, u116, u117, u118, u119, u120, u121, u122, u123, u124, u125, u126, u127, u128, u129, u130, u131, u132, u133, u134, u135, u136, u137, u138, u139, u140, u141, u142, u143, u144, u145, u146, u147, u148, u149, u150, u151, u152, u153, u154, u155, u156, u157, u158, u159, u160, u161, u162, u163, u164, u165, u166, u167, u168, u169, u170, u171, u172, u173, u174, u175, u176, u177, u178, u179, u180, u181, u182, u183, u184, u185, u186, u187, u188, u189, u190, u191, u192, u193, u194], defers := [] } wc := by
  have HR := Lib.hid hR
  have HL := Lib.hid hl
  have HA := Lib.hid ha
  have HB := Lib.hid hb
  have HC := Lib.hid hc
  clear hR hl ha hb hc
  dsimp only [Tryz.f21, nthTail, Option.getD_some]
  unfold UQ
  go_upto_region 17 with fail
  have HW := Lib.hid hW
  clear hW
  obtain ⟨b6, hb6⟩ : ∃ b : Bool, (x.op == 43) = b := ⟨_, rfl⟩
  have HB6 := Lib.hid hb6
  clear hb6
  have hz := HB6.out
  obtain ⟨xc0, xc1, xc2, xc3, xc4, xc5, xc6, xf0, xf1, xf2, xf3, xf4, xf5, xf6⟩ := HW.out.bx.facts7
  clear xf0 xf1 xf2 xf3 xf4 xf5 xf6 xc1 xc2 xc3 xc4 xc5 xc6
  go_upto_if 94 with fail
  clear hz xc0
  go_cut [] (fun wx => RT w g x A ks (uY b6 us) wx)
  case first => as_aux_lemma =>
    cases b6
    · go_wp2_with fail
      go_meet
      exact HW.out
    · skip
      obtain ⟨uc0, uc1, uc2, uc3, uc4, uc5, uc6, uc7, uc8, uf0, uf1, uf2, uf3, uf4, uf5, uf6, uf7, uf8⟩ := HW.out.bu.facts9
      clear uc2 uc3 uc4 uc5 uc6 uc7 uc8 uf2 uf3 uf4 uf5 uf6 uf7 uf8
      go_wp2_with fail
      go_meet
      exact RT.set_ (u' := uY true us) (u := { us with r := orI us.r 15 }) (RT.set_ HW.out 0 _ rfl) 1 _ rfl
  case rest => as_aux_lemma =>
    have hW := hcut
    clear hcut HW
    obtain ⟨s6, hu6⟩ : ∃ u, (uY b6 us) = u := ⟨_, rfl⟩
    rw [hu6] at hW
    rw [HB6.out, hu6] at HR
    clear hu6 HB6
    refine (‹∀ (a : Act) (w : World), Code.wp Tryz.prog _ _ a w → _›) _ _ ?_
    exact rtail6 x w g A ks s6 b _ _ _ _ _ _ _ _ _ _ _ _ _ _ _ _ _ _ _ _ _ _ _ _ _ _ _ _ _ _ _ _ _ _ _ _ _ _ _ _ _ _ _ _ _ _ _ _ _ _ _ _ _ _ _ _ _ _ _ _ _ _ _ _ _ _ _ _ _ _ _ _ _ _ _ _ _ _ _ _ _ _ _ _ _ _ _ _ _ _ _ _ _ _ _ _ _ _ _ _ _ _ _ _ _ _ _ _ _ _ _ _ _ _ _ _ _ _ _ _ _ _ _ _ _ _ _ _ _ _ _ _ _ _ _ _ _ _ _ _ _ _ _ _ _ _ _ _ _ _ _ _ _ _ _ _ _ _ _ _ _ _ _ _ _ _ _ _ _ _ _ _ _ _ _ _ _ _ _ _ _ _ _ _ _ _ _ wc HL.out HA.out HB.out HC.out HR.out hW
set_option maxRecDepth 100000 in
set_option maxHeartbeats 40000000 in
theorem rtail4 (x : Insn) (w : World) (g : Nat) (A : Option Addr) (ks : List Int) (us : UsesS) (b : Bool) (u8 u9 u10 u11 u12 u13 u14 u15 u16 u17 u18 u19 u20 u21 u22 u23 u24 u25 u26 u27 u28 u29 u30 u31 u32 u33 u34 u35 u36 u37 u38 u39 u40 u41 u42 u43 u44 u45 u46 u47 u48 u49 u50 u51 u52 u53 u54 u55 u56 u57 u58 u59 u60 u61 u62 u63 u64 u65 u66 u67 u68 u69 u70 u71 u72 u73 u74 u75 u76 u77 u78 u79 u80 u81 u82 u83 u84 u85 u86 u87 u88 u89 u90 u91 u92 u93 u94 u95 u96 u97 u98 u99 u100 u101 u102 u103 u104 u105 u106 u107 u108 u109 u110 u111 u112 u113 u114 u115 u116 u117 u118 u119 u120 u121 u122 u123 u124 u125 u126 u127 u128 u129 u130 u131 u132 u133 u134 u135 u136 u137 u138 u139 u140 u141 u142 u143 u144 u145 u146 u147 u148 u149 u150 u151 u152 u153 u154 u155 u156 u157 u158 u159 u160 u161 u162 u163 u164 u165 u166 u167 u168 u169 u170 u171 u172 u173 u174 u175 u176 u177 u178 u179 u180 u181 u182 u183 u184 u185 u186 u187 u188 u189 u190 u191 u192 u193 u194 : Value) (wc : World) (hl : ks.length ≤ 5) (ha : 0 ≤ x.a ∧ x.a ≤ 15) (hb : 0 ≤ x.b ∧ x.b ≤ 15) (hc : 0 ≤ x.c ∧ x.c ≤ 15)
    (hR : usesR x = uFin x (uVW x (hasOp ks 4 && (x.op != 49)) (uVA x ((x.op == 49) || (x.op == 58)) (uVC x (hasOp ks 6) (uVB x (hasOp ks 5) (uQ (x.op == 44) (uY (x.op == 43) (uS (hasOp stkL x.op) (us))))))))) (hW : RT w g x A ks us wc) :
    Code.wp Tryz.prog (nthTail 9 (Tryz.f21.body.getD .skip)) (UQ x w)
      { tmps := #[.agg #[.int .i64 x.op, .int .i64 x.a, .int .i64 x.b, .int .i64 x.c, .int .i64 x.d, .int .i64 x.k, .int .u32 x.i], .pointer (some ⟨w.heap.size, 0, none⟩), .pointer (some ⟨w.heap.size + 1, 0, none⟩), .int .i64 0, .slice A ks.length ks.length, .bool b, .pointer (some ⟨g, 0, none⟩), .slice (some ⟨g + 1, 0, none⟩) 5 5, u8, u9, u10, u11, u12, u13, u14, u15, u16, u17, u18, u19, u20, u21, u22, u23, u24, u25, u26, u27, u28, u29, u30, u31, u32, u33, u34, u35, u36, u37, u38, u39, u40, u41, u42, u43, u44, u45, u46, u47, u48, u49, u50, u51, u52, u53, u54, u55, u56, u57, u58, u59, u60, u61, u62, u63, u64, u65, u66, u67, u68, u69, u70, u71, u72, u73, u74, u75, u76, u77, u78, u79, u80, u81, u82, u83, u84, u85, u86, u87, u88, u89, u90, u91, u92, u93, u94, u95, u96, u97, u98, u99, u100, u101, u102, u103, u104, u105, u106, u107, u108, u109, u110, u111, u112, u113, u114, u115, u116, u117, u118, u119, u120, u121, u122, u123, u124, u125, u126, u127, u128, u129, u130, u131, u132, u133, u134, u135, u136, u137, u138, u139, u140, u141, u142, u143, u144, u145, u146, u147, u148, u149, u150, u151, u152, u153, u154, u155, u156, u157, u158, u159, u160, u161, u162, u163, u164, u165, u166, u167, u168, u169, u170, u171, u172, u173, u174, u175, u176, u177, u178, u179, u180, u181, u182, u183, u184, u185, u186, u187, u188, u189, u190, u191, u192, u193, u194], defers := [] } wc := by
  have HR := Lib.hid hR
  have HL := Lib.hid hl
  have HA := Lib.hid ha
  have HB := Lib.hid hb
  have HC := Lib.hid hc
  clear hR hl ha hb hc
  dsimp only [Tryz.f21, nthTail, Option.getD_some]
  unfold UQ
  go_upto_region 14 with fail
  have HW := Lib.hid hW
  clear hW
  obtain ⟨b5, hb5⟩ : ∃ b : Bool, (hasOp stkL x.op) = b := ⟨_, rfl⟩
  have HB5 := Lib.hid hb5
  clear hb5
  obtain ⟨xc0, xc1, xc2, xc3, xc4, xc5, xc6, xf0, xf1, xf2, xf3, xf4, xf5, xf6⟩ := HW.out.bx.facts7
  clear xf0 xf1 xf2 xf3 xf4 xf5 xf6 xc1 xc2 xc3 xc4 xc5 xc6
  have wl := HW.out.bx.lt
  go_wp2_with fail
  refine (has_new stkL 5 x.op _ HB5.out (by decide) rfl rfl).mono ?_
  rintro e w' ⟨rfl, rfl⟩
  clear xc0 wl
  go_upto_if 81 with fail
  refine name_world (RT w g x A ks us) _ (HW.out.alloc _) ?_
  clear HW
  intro wd hW
  have HW := Lib.hid hW
  clear hW
  go_cut [] (fun wx => RT w g x A ks (uS b5 us) wx)
  case first => as_aux_lemma =>
    cases b5
    · go_wp2_with fail
      go_meet
      exact HW.out
    · skip
      go_upto_region 15 with fail
      go_cut [] (fun wx => RT w g x A ks { us with r := orI us.r (shl1 15) } wx)
      case first => as_aux_lemma =>
        obtain ⟨uc0, uc1, uc2, uc3, uc4, uc5, uc6, uc7, uc8, uf0, uf1, uf2, uf3, uf4, uf5, uf6, uf7, uf8⟩ := HW.out.bu.facts9
        clear uc1 uc2 uc3 uc4 uc5 uc6 uc7 uc8 uf0 uf1 uf2 uf3 uf4 uf5 uf6 uf7 uf8
        have HD := Lib.hid HW.out.drew
        go_wp2_with fail
        go_still_tail 5, (by kernel_rfl)
        still_call (bit_still 15 (by decide) (by decide) _)
        repeat still_step
        refine wpStill_nil ?_
        change wpList _ _ _ _ _ wd.drew
        clear uc0 HW
        revert HD
        generalize wd.drew = w2
        intro HD
        obtain ⟨uc0, uc1, uc2, uc3, uc4, uc5, uc6, uc7, uc8, uf0, uf1, uf2, uf3, uf4, uf5, uf6, uf7, uf8⟩ := HD.out.bu.facts9
        clear uc1 uc2 uc3 uc4 uc5 uc6 uc7 uc8 uf1 uf2 uf3 uf4 uf5 uf6 uf7 uf8
        go_wp2
        go_meet
        exact RT.set_ (u' := { us with r := orI us.r (shl1 15) }) (u := us) HD.out 0 _ rfl
      case rest =>
        clear HW
        have HW := Lib.hid hcut
        clear hcut
        obtain ⟨uc0, uc1, uc2, uc3, uc4, uc5, uc6, uc7, uc8, uf0, uf1, uf2, uf3, uf4, uf5, uf6, uf7, uf8⟩ := HW.out.bu.facts9
        clear uc0 uc2 uc3 uc4 uc5 uc6 uc7 uc8 uf1 uf0 uf2 uf3 uf4 uf5 uf6 uf7 uf8
        have HD := Lib.hid HW.out.drew
        go_wp2_with fail
        go_still_tail 5, (by kernel_rfl)
        still_call (bit_still 15 (by decide) (by decide) _)
        repeat still_step
        refine wpStill_nil ?_
        change wpList _ _ _ _ _ wc.drew
        clear uc1 HW
        revert HD
        generalize wc.drew = w2
        intro HD
        obtain ⟨uc0, uc1, uc2, uc3, uc4, uc5, uc6, uc7, uc8, uf0, uf1, uf2, uf3, uf4, uf5, uf6, uf7, uf8⟩ := HD.out.bu.facts9
        clear uc0 uc2 uc3 uc4 uc5 uc6 uc7 uc8 uf0 uf2 uf3 uf4 uf5 uf6 uf7 uf8
        go_wp2
        go_meet
        exact RT.set_ (u' := uS true us) (u := { us with r := orI us.r (shl1 15) }) HD.out 1 _ rfl
  case rest =>
    have hW := hcut
    clear hcut HW
    obtain ⟨s5, hu5⟩ : ∃ u, (uS b5 us) = u := ⟨_, rfl⟩
    rw [hu5] at hW
    rw [HB5.out, hu5] at HR
    clear hu5 HB5
    refine (‹∀ (a : Act) (w : World), Code.wp Tryz.prog _ _ a w → _›) _ _ ?_
    exact rtail5 x w g A ks s5 b _ _ _ _ _ _ _ _ _ _ _ _ _ _ _ _ _ _ _ _ _ _ _ _ _ _ _ _ _ _ _ _ _ _ _ _ _ _ _ _ _ _ _ _ _ _ _ _ _ _ _ _ _ _ _ _ _ _ _ _ _ _ _ _ _ _ _ _ _ _ _ _ _ _ _ _ _ _ _ _ _ _ _ _ _ _ _ _ _ _ _ _ _ _ _ _ _ _ _ _ _ _ _ _ _ _ _ _ _ _ _ _ _ _ _ _ _ _ _ _ _ _ _ _ _ _ _ _ _ _ _ _ _ _ _ _ _ _ _ _ _ _ _ _ _ _ _ _ _ _ _ _ _ _ _ _ _ _ _ _ _ _ _ _ _ _ _ _ _ _ _ _ _ _ _ _ _ _ _ _ _ _ _ _ _ _ _ wc HL.out HA.out HB.out HC.out HR.out hW
set_option maxRecDepth 100000 in
set_option maxHeartbeats 40000000 in
theorem rtail3 (x : Insn) (w : World) (g : Nat) (A : Option Addr) (ks : List Int) (us : UsesS) (b : Bool) (u8 u9 u10 u11 u12 u13 u14 u15 u16 u17 u18 u19 u20 u21 u22 u23 u24 u25 u26 u27 u28 u29 u30 u31 u32 u33 u34 u35 u36 u37 u38 u39 u40 u41 u42 u43 u44 u45 u46 u47 u48 u49 u50 u51 u52 u53 u54 u55 u56 u57 u58 u59 u60 u61 u62 u63 u64 u65 u66 u67 u68 u69 u70 u71 u72 u73 u74 u75 u76 u77 u78 u79 u80 u81 u82 u83 u84 u85 u86 u87 u88 u89 u90 u91 u92 u93 u94 u95 u96 u97 u98 u99 u100 u101 u102 u103 u104 u105 u106 u107 u108 u109 u110 u111 u112 u113 u114 u115 u116 u117 u118 u119 u120 u121 u122 u123 u124 u125 u126 u127 u128 u129 u130 u131 u132 u133 u134 u135 u136 u137 u138 u139 u140 u141 u142 u143 u144 u145 u146 u147 u148 u149 u150 u151 u152 u153 u154 u155 u156 u157 u158 u159 u160 u161 u162 u163 u164 u165 u166 u167 u168 u169 u170 u171 u172 u173 u174 u175 u176 u177 u178 u179 u180 u181 u182 u183 u184 u185 u186 u187 u188 u189 u190 u191 u192 u193 u194 : Value) (wc : World) (hl : ks.length ≤ 5) (ha : 0 ≤ x.a ∧ x.a ≤ 15) (hb : 0 ≤ x.b ∧ x.b ≤ 15) (hc : 0 ≤ x.c ∧ x.c ≤ 15)
    (hR : usesR x = uFin x (uVW x (hasOp ks 4 && (x.op != 49)) (uVA x ((x.op == 49) || (x.op == 58)) (uVC x (hasOp ks 6) (uVB x (hasOp ks 5) (uQ (x.op == 44) (uY (x.op == 43) (uS (hasOp stkL x.op) (uW x (hasOp ks 1 && !hasOp stoL x.op) (us)))))))))) (hW : RT w g x A ks us wc) :
    Code.wp Tryz.prog (nthTail 8 (Tryz.f21.body.getD .skip)) (UQ x w)
      { tmps := #[.agg #[.int .i64 x.op, .int .i64 x.a, .int .i64 x.b, .int .i64 x.c, .int .i64 x.d, .int .i64 x.k, .int .u32 x.i], .pointer (some ⟨w.heap.size, 0, none⟩), .pointer (some ⟨w.heap.size + 1, 0, none⟩), .int .i64 0, .slice A ks.length ks.length, .bool b, .pointer (some ⟨g, 0, none⟩), .slice (some ⟨g + 1, 0, none⟩) 5 5, u8, u9, u10, u11, u12, u13, u14, u15, u16, u17, u18, u19, u20, u21, u22, u23, u24, u25, u26, u27, u28, u29, u30, u31, u32, u33, u34, u35, u36, u37, u38, u39, u40, u41, u42, u43, u44, u45, u46, u47, u48, u49, u50, u51, u52, u53, u54, u55, u56, u57, u58, u59, u60, u61, u62, u63, u64, u65, u66, u67, u68, u69, u70, u71, u72, u73, u74, u75, u76, u77, u78, u79, u80, u81, u82, u83, u84, u85, u86, u87, u88, u89, u90, u91, u92, u93, u94, u95, u96, u97, u98, u99, u100, u101, u102, u103, u104, u105, u106, u107, u108, u109, u110, u111, u112, u113, u114, u115, u116, u117, u118, u119, u120, u121, u122, u123, u124, u125, u126, u127, u128, u129, u130, u131, u132, u133, u134, u135, u136, u137, u138, u139, u140, u141, u142, u143, u144, u145, u146, u147, u148, u149, u150, u151, u152, u153, u154, u155, u156, u157, u158, u159, u160, u161, u162, u163, u164, u165, u166, u167, u168, u169, u170, u171, u172, u173, u174, u175, u176, u177, u178, u179, u180, u181, u182, u183, u184, u185, u186, u187, u188, u189, u190, u191, u192, u193, u194], defers := [] } wc := by
  have HR := Lib.hid hR
  have HL := Lib.hid hl
  have HA := Lib.hid ha
  have HB := Lib.hid hb
  have HC := Lib.hid hc
  clear hR hl ha hb hc
  dsimp only [Tryz.f21, nthTail, Option.getD_some]
  unfold UQ
  go_upto_region 12 with fail
  have HW := Lib.hid hW
  clear hW
  go_cut [70] (fun s wx => s = .bool (hasOp ks 1 && !hasOp stoL x.op) ∧ RT w g x A ks us wx)
  case first => as_aux_lemma =>
    obtain ⟨xc0, xc1, xc2, xc3, xc4, xc5, xc6, xf0, xf1, xf2, xf3, xf4, xf5, xf6⟩ := HW.out.bx.facts7
    clear xf0 xf1 xf2 xf3 xf4 xf5 xf6 xc1 xc2 xc3 xc4 xc5 xc6
    generalize hb1 : hasOp ks 1 = b1
    generalize hbS : hasOp stoL x.op = bS
    cases b1
    · go_wp2_with fail
      refine (has_k HW.out HL.out 1 _ hb1).mono ?_
      rintro e w' ⟨rfl, rfl⟩
      go_wp2_with fail
      go_meet
      exact ⟨by rw [hb1] <;> rfl, HW.out⟩
    · go_wp2_with fail
      refine (has_k HW.out HL.out 1 _ hb1).mono ?_
      rintro e w' ⟨rfl, rfl⟩
      go_wp2_with fail
      refine (has_s HW.out x.op _ hbS).mono ?_
      rintro e w' ⟨rfl, rfl⟩
      go_wp2_with fail
      go_meet
      exact ⟨by rw [hb1, hbS] <;> rfl, HW.out⟩
  case rest =>
    obtain ⟨rfl, hW⟩ := hcut
    clear HW
    have HW := Lib.hid hW
    clear hW
    go_upto_if 70 with fail
    obtain ⟨b4, hb4⟩ : ∃ b : Bool, (hasOp ks 1 && !hasOp stoL x.op) = b := ⟨_, rfl⟩
    rw [hb4]
    have HB4 := Lib.hid hb4
    clear hb4
    go_cut [] (fun wx => RT w g x A ks (uW x b4 us) wx)
    case first => as_aux_lemma =>
      cases b4
      · go_wp2_with fail
        go_meet
        exact HW.out
      · skip
        obtain ⟨xc0, xc1, xc2, xc3, xc4, xc5, xc6, xf0, xf1, xf2, xf3, xf4, xf5, xf6⟩ := HW.out.bx.facts7
        clear xc0 xc2 xc3 xc4 xc5 xc6 xf0 xf1 xf2 xf3 xf4 xf5 xf6
        obtain ⟨uc0, uc1, uc2, uc3, uc4, uc5, uc6, uc7, uc8, uf0, uf1, uf2, uf3, uf4, uf5, uf6, uf7, uf8⟩ := HW.out.bu.facts9
        clear uc0 uc2 uc3 uc4 uc5 uc6 uc7 uc8 uf1 uf0 uf2 uf3 uf4 uf5 uf6 uf7 uf8
        have HD := Lib.hid HW.out.drew
        go_wp2_with fail
        go_still_tail 7, (by kernel_rfl)
        still_call (bit_still x.a HA.out.1 HA.out.2 _)
        repeat still_step
        refine wpStill_nil ?_
        change wpList _ _ _ _ _ wc.drew
        clear uc1 xc1 HW
        revert HD
        generalize wc.drew = w2
        intro HD
        obtain ⟨uc0, uc1, uc2, uc3, uc4, uc5, uc6, uc7, uc8, uf0, uf1, uf2, uf3, uf4, uf5, uf6, uf7, uf8⟩ := HD.out.bu.facts9
        clear uc0 uc2 uc3 uc4 uc5 uc6 uc7 uc8 uf0 uf2 uf3 uf4 uf5 uf6 uf7 uf8
        go_wp2
        go_meet
        exact RT.set_ (u' := uW x true us) (u := us) HD.out 1 _ rfl
    case rest => as_aux_lemma =>
      have hW := hcut
      clear hcut HW
      obtain ⟨s4, hu4⟩ : ∃ u, (uW x b4 us) = u := ⟨_, rfl⟩
      rw [hu4] at hW
      rw [HB4.out, hu4] at HR
      clear hu4 HB4
      refine (‹∀ (a : Act) (w : World), Code.wp Tryz.prog _ _ a w → _›) _ _ ?_
      exact rtail4 x w g A ks s4 b _ _ _ _ _ _ _ _ _ _ _ _ _ _ _ _ _ _ _ _ _ _ _ _ _ _ _ _ _ _ _ _ _ _ _ _ _ _ _ _ _ _ _ _ _ _ _ _ _ _ _ _ _ _ _ _ _ _ _ _ _ _ _ _ _ _ _ _ _ _ _ _ _ _ _ _ _ _ _ _ _ _ _ _ _ _ _ _ _ _ _ _ _ _ _ _ _ _ _ _ _ _ _ _ _ _ _ _ _ _ _ _ _ _ _ _ _ _ _ _ _ _ _ _ _ _ _ _ _ _ _ _ _ _ _ _ _ _ _ _ _ _ _ _ _ _ _ _ _ _ _ _ _ _ _ _ _ _ _ _ _ _ _ _ _ _ _ _ _ _ _ _ _ _ _ _ _ _ _ _ _ _ _ _ _ _ _ wc HL.out HA.out HB.out HC.out HR.out hW
set_option maxRecDepth 100000 in
set_option maxHeartbeats 40000000 in
theorem rtail2 (x : Insn) (w : World) (g : Nat) (A : Option Addr) (ks : List Int) (us : UsesS) (b : Bool) (u8 u9 u10 u11 u12 u13 u14 u15 u16 u17 u18 u19 u20 u21 u22 u23 u24 u25 u26 u27 u28 u29 u30 u31 u32 u33 u34 u35 u36 u37 u38 u39 u40 u41 u42 u43 u44 u45 u46 u47 u48 u49 u50 u51 u52 u53 u54 u55 u56 u57 u58 u59 u60 u61 u62 u63 u64 u65 u66 u67 u68 u69 u70 u71 u72 u73 u74 u75 u76 u77 u78 u79 u80 u81 u82 u83 u84 u85 u86 u87 u88 u89 u90 u91 u92 u93 u94 u95 u96 u97 u98 u99 u100 u101 u102 u103 u104 u105 u106 u107 u108 u109 u110 u111 u112 u113 u114 u115 u116 u117 u118 u119 u120 u121 u122 u123 u124 u125 u126 u127 u128 u129 u130 u131 u132 u133 u134 u135 u136 u137 u138 u139 u140 u141 u142 u143 u144 u145 u146 u147 u148 u149 u150 u151 u152 u153 u154 u155 u156 u157 u158 u159 u160 u161 u162 u163 u164 u165 u166 u167 u168 u169 u170 u171 u172 u173 u174 u175 u176 u177 u178 u179 u180 u181 u182 u183 u184 u185 u186 u187 u188 u189 u190 u191 u192 u193 u194 : Value) (wc : World) (hl : ks.length ≤ 5) (ha : 0 ≤ x.a ∧ x.a ≤ 15) (hb : 0 ≤ x.b ∧ x.b ≤ 15) (hc : 0 ≤ x.c ∧ x.c ≤ 15)
    (hR : usesR x = uFin x (uVW x (hasOp ks 4 && (x.op != 49)) (uVA x ((x.op == 49) || (x.op == 58)) (uVC x (hasOp ks 6) (uVB x (hasOp ks 5) (uQ (x.op == 44) (uY (x.op == 43) (uS (hasOp stkL x.op) (uW x (hasOp ks 1 && !hasOp stoL x.op) (uA x (hasOp stoL x.op || hasOp swpL x.op) (us))))))))))) (hW : RT w g x A ks us wc) :
    Code.wp Tryz.prog (nthTail 7 (Tryz.f21.body.getD .skip)) (UQ x w)
      { tmps := #[.agg #[.int .i64 x.op, .int .i64 x.a, .int .i64 x.b, .int .i64 x.c, .int .i64 x.d, .int .i64 x.k, .int .u32 x.i], .pointer (some ⟨w.heap.size, 0, none⟩), .pointer (some ⟨w.heap.size + 1, 0, none⟩), .int .i64 0, .slice A ks.length ks.length, .bool b, .pointer (some ⟨g, 0, none⟩), .slice (some ⟨g + 1, 0, none⟩) 5 5, u8, u9, u10, u11, u12, u13, u14, u15, u16, u17, u18, u19, u20, u21, u22, u23, u24, u25, u26, u27, u28, u29, u30, u31, u32, u33, u34, u35, u36, u37, u38, u39, u40, u41, u42, u43, u44, u45, u46, u47, u48, u49, u50, u51, u52, u53, u54, u55, u56, u57, u58, u59, u60, u61, u62, u63, u64, u65, u66, u67, u68, u69, u70, u71, u72, u73, u74, u75, u76, u77, u78, u79, u80, u81, u82, u83, u84, u85, u86, u87, u88, u89, u90, u91, u92, u93, u94, u95, u96, u97, u98, u99, u100, u101, u102, u103, u104, u105, u106, u107, u108, u109, u110, u111, u112, u113, u114, u115, u116, u117, u118, u119, u120, u121, u122, u123, u124, u125, u126, u127, u128, u129, u130, u131, u132, u133, u134, u135, u136, u137, u138, u139, u140, u141, u142, u143, u144, u145, u146, u147, u148, u149, u150, u151, u152, u153, u154, u155, u156, u157, u158, u159, u160, u161, u162, u163, u164, u165, u166, u167, u168, u169, u170, u171, u172, u173, u174, u175, u176, u177, u178, u179, u180, u181, u182, u183, u184, u185, u186, u187, u188, u189, u190, u191, u192, u193, u194], defers := [] } wc := by
  have HR := Lib.hid hR
  have HL := Lib.hid hl
  have HA := Lib.hid ha
  have HB := Lib.hid hb
  have HC := Lib.hid hc
  clear hR hl ha hb hc
  dsimp only [Tryz.f21, nthTail, Option.getD_some]
  unfold UQ
  go_upto_region 10 with fail
  have HW := Lib.hid hW
  clear hW
  go_cut [54] (fun s wx => s = .bool (hasOp stoL x.op || hasOp swpL x.op) ∧ RT w g x A ks us wx)
  case first => as_aux_lemma =>
    obtain ⟨xc0, xc1, xc2, xc3, xc4, xc5, xc6, xf0, xf1, xf2, xf3, xf4, xf5, xf6⟩ := HW.out.bx.facts7
    clear xf0 xf1 xf2 xf3 xf4 xf5 xf6 xc1 xc2 xc3 xc4 xc5 xc6
    have wl := HW.out.bx.lt
    generalize hbS : hasOp stoL x.op = bS
    generalize hbW : hasOp swpL x.op = bW
    cases bS
    · go_wp2_with fail
      refine (has_s HW.out x.op _ hbS).mono ?_
      rintro e w' ⟨rfl, rfl⟩
      go_wp2_with fail
      refine (has_new swpL 3 x.op _ hbW (by decide) rfl rfl).mono ?_
      rintro e w' ⟨rfl, rfl⟩
      go_wp2_with fail
      go_meet
      exact ⟨by rw [hbS, hbW] <;> rfl, HW.out.alloc _⟩
    · go_wp2_with fail
      refine (has_s HW.out x.op _ hbS).mono ?_
      rintro e w' ⟨rfl, rfl⟩
      go_wp2_with fail
      go_meet
      exact ⟨by rw [hbS] <;> rfl, HW.out⟩
  case rest =>
    obtain ⟨rfl, hW⟩ := hcut
    clear HW
    have HW := Lib.hid hW
    clear hW
    go_upto_if 54 with fail
    obtain ⟨b3, hb3⟩ : ∃ b : Bool, (hasOp stoL x.op || hasOp swpL x.op) = b := ⟨_, rfl⟩
    rw [hb3]
    have HB3 := Lib.hid hb3
    clear hb3
    go_cut [] (fun wx => RT w g x A ks (uA x b3 us) wx)
    case first => as_aux_lemma =>
      cases b3
      · go_wp2_with fail
        go_meet
        exact HW.out
      · skip
        obtain ⟨xc0, xc1, xc2, xc3, xc4, xc5, xc6, xf0, xf1, xf2, xf3, xf4, xf5, xf6⟩ := HW.out.bx.facts7
        clear xc0 xc2 xc3 xc4 xc5 xc6 xf0 xf1 xf2 xf3 xf4 xf5 xf6
        obtain ⟨uc0, uc1, uc2, uc3, uc4, uc5, uc6, uc7, uc8, uf0, uf1, uf2, uf3, uf4, uf5, uf6, uf7, uf8⟩ := HW.out.bu.facts9
        clear uc1 uc2 uc3 uc4 uc5 uc6 uc7 uc8 uf0 uf1 uf2 uf3 uf4 uf5 uf6 uf7 uf8
        have HD := Lib.hid HW.out.drew
        go_wp2_with fail
        go_still_tail 7, (by kernel_rfl)
        still_call (bit_still x.a HA.out.1 HA.out.2 _)
        repeat still_step
        refine wpStill_nil ?_
        change wpList _ _ _ _ _ wc.drew
        clear uc0 xc1 HW
        revert HD
        generalize wc.drew = w2
        intro HD
        obtain ⟨uc0, uc1, uc2, uc3, uc4, uc5, uc6, uc7, uc8, uf0, uf1, uf2, uf3, uf4, uf5, uf6, uf7, uf8⟩ := HD.out.bu.facts9
        clear uc1 uc2 uc3 uc4 uc5 uc6 uc7 uc8 uf1 uf2 uf3 uf4 uf5 uf6 uf7 uf8
        go_wp2
        go_meet
        exact RT.set_ (u' := uA x true us) (u := us) HD.out 0 _ rfl
    case rest =>
      have hW := hcut
      clear hcut HW
      obtain ⟨s3, hu3⟩ : ∃ u, (uA x b3 us) = u := ⟨_, rfl⟩
      rw [hu3] at hW
      rw [HB3.out, hu3] at HR
      clear hu3 HB3
      refine (‹∀ (a : Act) (w : World), Code.wp Tryz.prog _ _ a w → _›) _ _ ?_
      exact rtail3 x w g A ks s3 b _ _ _ _ _ _ _ _ _ _ _ _ _ _ _ _ _ _ _ _ _ _ _ _ _ _ _ _ _ _ _ _ _ _ _ _ _ _ _ _ _ _ _ _ _ _ _ _ _ _ _ _ _ _ _ _ _ _ _ _ _ _ _ _ _ _ _ _ _ _ _ _ _ _ _ _ _ _ _ _ _ _ _ _ _ _ _ _ _ _ _ _ _ _ _ _ _ _ _ _ _ _ _ _ _ _ _ _ _ _ _ _ _ _ _ _ _ _ _ _ _ _ _ _ _ _ _ _ _ _ _ _ _ _ _ _ _ _ _ _ _ _ _ _ _ _ _ _ _ _ _ _ _ _ _ _ _ _ _ _ _ _ _ _ _ _ _ _ _ _ _ _ _ _ _ _ _ _ _ _ _ _ _ _ _ _ _ wc HL.out HA.out HB.out HC.out HR.out hW
set_option maxRecDepth 100000 in
set_option maxHeartbeats 40000000 in
theorem rtail1 (x : Insn) (w : World) (g : Nat) (A : Option Addr) (ks : List Int) (us : UsesS) (b : Bool) (u8 u9 u10 u11 u12 u13 u14 u15 u16 u17 u18 u19 u20 u21 u22 u23 u24 u25 u26 u27 u28 u29 u30 u31 u32 u33 u34 u35 u36 u37 u38 u39 u40 u41 u42 u43 u44 u45 u46 u47 u48 u49 u50 u51 u52 u53 u54 u55 u56 u57 u58 u59 u60 u61 u62 u63 u64 u65 u66 u67 u68 u69 u70 u71 u72 u73 u74 u75 u76 u77 u78 u79 u80 u81 u82 u83 u84 u85 u86 u87 u88 u89 u90 u91 u92 u93 u94 u95 u96 u97 u98 u99 u100 u101 u102 u103 u104 u105 u106 u107 u108 u109 u110 u111 u112 u113 u114 u115 u116 u117 u118 u119 u120 u121 u122 u123 u124 u125 u126 u127 u128 u129 u130 u131 u132 u133 u134 u135 u136 u137 u138 u139 u140 u141 u142 u143 u144 u145 u146 u147 u148 u149 u150 u151 u152 u153 u154 u155 u156 u157 u158 u159 u160 u161 u162 u163 u164 u165 u166 u167 u168 u169 u170 u171 u172 u173 u174 u175 u176 u177 u178 u179 u180 u181 u182 u183 u184 u185 u186 u187 u188 u189 u190 u191 u192 u193 u194 : Value) (wc : World) (hl : ks.length ≤ 5) (ha : 0 ≤ x.a ∧ x.a ≤ 15) (hb : 0 ≤ x.b ∧ x.b ≤ 15) (hc : 0 ≤ x.c ∧ x.c ≤ 15)
    (hR : usesR x = uFin x (uVW x (hasOp ks 4 && (x.op != 49)) (uVA x ((x.op == 49) || (x.op == 58)) (uVC x (hasOp ks 6) (uVB x (hasOp ks 5) (uQ (x.op == 44) (uY (x.op == 43) (uS (hasOp stkL x.op) (uW x (hasOp ks 1 && !hasOp stoL x.op) (uA x (hasOp stoL x.op || hasOp swpL x.op) (uC x (hasOp ks 3) (us)))))))))))) (hW : RT w g x A ks us wc) :
    Code.wp Tryz.prog (nthTail 6 (Tryz.f21.body.getD .skip)) (UQ x w)
      { tmps := #[.agg #[.int .i64 x.op, .int .i64 x.a, .int .i64 x.b, .int .i64 x.c, .int .i64 x.d, .int .i64 x.k, .int .u32 x.i], .pointer (some ⟨w.heap.size, 0, none⟩), .pointer (some ⟨w.heap.size + 1, 0, none⟩), .int .i64 0, .slice A ks.length ks.length, .bool b, .pointer (some ⟨g, 0, none⟩), .slice (some ⟨g + 1, 0, none⟩) 5 5, u8, u9, u10, u11, u12, u13, u14, u15, u16, u17, u18, u19, u20, u21, u22, u23, u24, u25, u26, u27, u28, u29, u30, u31, u32, u33, u34, u35, u36, u37, u38, u39, u40, u41, u42, u43, u44, u45, u46, u47, u48, u49, u50, u51, u52, u53, u54, u55, u56, u57, u58, u59, u60, u61, u62, u63, u64, u65, u66, u67, u68, u69, u70, u71, u72, u73, u74, u75, u76, u77, u78, u79, u80, u81, u82, u83, u84, u85, u86, u87, u88, u89, u90, u91, u92, u93, u94, u95, u96, u97, u98, u99, u100, u101, u102, u103, u104, u105, u106, u107, u108, u109, u110, u111, u112, u113, u114, u115, u116, u117, u118, u119, u120, u121, u122, u123, u124, u125, u126, u127, u128, u129, u130, u131, u132, u133, u134, u135, u136, u137, u138, u139, u140, u141, u142, u143, u144, u145, u146, u147, u148, u149, u150, u151, u152, u153, u154, u155, u156, u157, u158, u159, u160, u161, u162, u163, u164, u165, u166, u167, u168, u169, u170, u171, u172, u173, u174, u175, u176, u177, u178, u179, u180, u181, u182, u183, u184, u185, u186, u187, u188, u189, u190, u191, u192, u193, u194], defers := [] } wc := by
  have HR := Lib.hid hR
  have HL := Lib.hid hl
  have HA := Lib.hid ha
  have HB := Lib.hid hb
  have HC := Lib.hid hc
  clear hR hl ha hb hc
  dsimp only [Tryz.f21, nthTail, Option.getD_some]
  unfold UQ
  go_upto_region 8 with fail
  have HW := Lib.hid hW
  clear hW
  obtain ⟨b2, hb2⟩ : ∃ b : Bool, (hasOp ks 3) = b := ⟨_, rfl⟩
  have HB2 := Lib.hid hb2
  clear hb2
  go_wp2_with fail
  refine (has_k HW.out HL.out 3 _ HB2.out).mono ?_
  rintro e w' ⟨rfl, rfl⟩
  go_upto_if 37 with fail
  go_cut [] (fun wx => RT w g x A ks (uC x b2 us) wx)
  case first => as_aux_lemma =>
    cases b2
    · go_wp2_with fail
      go_meet
      exact HW.out
    · skip
      obtain ⟨xc0, xc1, xc2, xc3, xc4, xc5, xc6, xf0, xf1, xf2, xf3, xf4, xf5, xf6⟩ := HW.out.bx.facts7
      clear xc0 xc1 xc2 xc4 xc5 xc6 xf0 xf1 xf2 xf3 xf4 xf5 xf6
      obtain ⟨uc0, uc1, uc2, uc3, uc4, uc5, uc6, uc7, uc8, uf0, uf1, uf2, uf3, uf4, uf5, uf6, uf7, uf8⟩ := HW.out.bu.facts9
      clear uc1 uc2 uc3 uc4 uc5 uc6 uc7 uc8 uf0 uf1 uf2 uf3 uf4 uf5 uf6 uf7 uf8
      have HD := Lib.hid HW.out.drew
      go_wp2_with fail
      go_still_tail 7, (by kernel_rfl)
      still_call (bit_still x.c HC.out.1 HC.out.2 _)
      repeat still_step
      refine wpStill_nil ?_
      change wpList _ _ _ _ _ wc.drew
      clear uc0 xc3 HW
      revert HD
      generalize wc.drew = w2
      intro HD
      obtain ⟨uc0, uc1, uc2, uc3, uc4, uc5, uc6, uc7, uc8, uf0, uf1, uf2, uf3, uf4, uf5, uf6, uf7, uf8⟩ := HD.out.bu.facts9
      clear uc1 uc2 uc3 uc4 uc5 uc6 uc7 uc8 uf1 uf2 uf3 uf4 uf5 uf6 uf7 uf8
      go_wp2
      go_meet
      exact RT.set_ (u' := uC x true us) (u := us) HD.out 0 _ rfl
  case rest => as_aux_lemma =>
    have hW := hcut
    clear hcut HW
    obtain ⟨s2, hu2⟩ : ∃ u, (uC x b2 us) = u := ⟨_, rfl⟩
    rw [hu2] at hW
    rw [HB2.out, hu2] at HR
    clear hu2 HB2
    refine (‹∀ (a : Act) (w : World), Code.wp Tryz.prog _ _ a w → _›) _ _ ?_
    exact rtail2 x w g A ks s2 b _ _ _ _ _ _ _ _ _ _ _ _ _ _ _ _ _ _ _ _ _ _ _ _ _ _ _ _ _ _ _ _ _ _ _ _ _ _ _ _ _ _ _ _ _ _ _ _ _ _ _ _ _ _ _ _ _ _ _ _ _ _ _ _ _ _ _ _ _ _ _ _ _ _ _ _ _ _ _ _ _ _ _ _ _ _ _ _ _ _ _ _ _ _ _ _ _ _ _ _ _ _ _ _ _ _ _ _ _ _ _ _ _ _ _ _ _ _ _ _ _ _ _ _ _ _ _ _ _ _ _ _ _ _ _ _ _ _ _ _ _ _ _ _ _ _ _ _ _ _ _ _ _ _ _ _ _ _ _ _ _ _ _ _ _ _ _ _ _ _ _ _ _ _ _ _ _ _ _ _ _ _ _ _ _ _ _ wc HL.out HA.out HB.out HC.out HR.out hW
set_option maxRecDepth 100000 in
set_option maxHeartbeats 40000000 in
theorem ruses_ok (x : Insn) (w : World) (hv : x.valid = true) (i0 : 0 ≤ x.i) (i1 : x.i < 4294967296) : Calls Tryz.prog 21 #[.agg x.cs] w fun e w' => e = .returned (.tuple #[.agg (usesR x).cs, .int .i64 0]) ∧ Below w.heap.size w w' := by
  have hh := Lib.hid (fun W => is_any x i0 i1 W)
  rw [hv] at hh
  have ok := Insn.ok hv
  obtain ⟨_, _, ha, hb, hc, _, _⟩ := ok
  have hl5 : (kindsOf x.op).length ≤ 5 := by unfold kindsOf; rw [List.length_map]; exact opnd_len x.op
  have HR : Hid (usesR x = uFin x (usesBits x)) := rfl
  unfold usesBits at HR
  obtain ⟨ks, hks⟩ : ∃ ks, kindsOf x.op = ks := ⟨_, rfl⟩
  rw [hks] at hl5 HR
  have HKS := Lib.hid hks
  have HL := Lib.hid hl5
  have HA := Lib.hid ha
  have HB := Lib.hid hb
  have HC := Lib.hid hc
  dsimp only at HR
  clear hks ha hb hc hl5 hv i0 i1
  unfold Insn.cs at hh ⊢
  go_enter Tryz.func21, Tryz.ntmps21
  go_wp2_with fail
  refine (hh.out _).mono ?_
  rintro e w1 ⟨rfl, hb⟩
  have k1 : Blk w1 w.heap.size 24 x.cs := ((Blk.new w 24 x.cs).alloc (.cells uses0.cs 33)).call hb
  have k2 : Blk w1 (w.heap.size + 1) 33 uses0.cs := (blk_at (w.alloc (.cells x.cs 24)) (w.heap.size + 1) 33 uses0.cs (by simp)).call hb
  have B : Below w.heap.size w w1 := (((Below.refl _ w).alloc (Nat.le_refl _) (.cells x.cs 24)).alloc (by simp) (.cells uses0.cs 33)).call hb (by simp; omega)
  clear hb hh
  obtain ⟨xc0, xc1, xc2, xc3, xc4, xc5, xc6, xf0, xf1, xf2, xf3, xf4, xf5, xf6⟩ := k1.facts7
  clear xf0 xf1 xf2 xf3 xf4 xf5 xf6 xc1 xc2 xc3 xc4 xc5 xc6
  have K1 := Lib.hid k1
  have K2 := Lib.hid k2
  have KB := Lib.hid B
  clear k1 k2 B
  go_wp2_with fail
  refine (rfields_any x.op _).mono ?_
  rintro e w2 ⟨cs, b, hcase, hcs, hb⟩
  rw [HKS.out] at hcs
  have hn : cs.size = ks.length := by have := congrArg List.length hcs; simpa using this
  have hall : ∃ A, e = .returned (.tuple #[.slice A ks.length ks.length, .bool b]) ∧ Reads w2 w2.heap.size 1 A ks.length (i64s ks) ∧ Below w1.heap.size w1 w2 := by
    rcases hcase with ⟨rfl, rfl, rfl⟩ | ⟨rfl, rfl⟩
    · have h0 : ks.length = 0 := by rw [← hn]; rfl
      have h1 : ks = [] := List.length_eq_zero_iff.1 h0
      subst h1
      exact ⟨none, rfl, Reads.none_, Below.refl _ _⟩
    · refine ⟨some ⟨w1.heap.size, 0, none⟩, by rw [hn], ?_, (Below.refl _ _).alloc (Nat.le_refl _) _⟩
      exact reads_of_blk (Blk.new w1 3 cs) hcs (by simp [i64s])
  obtain ⟨A, rfl, hrd, hbb⟩ := hall
  have h0 : RT w w2.heap.size x A ks uses0 ((w2.alloc (.cells uses0.cs 33)).alloc (.cells (i64s stoL).toArray 3)) := by
    have e1 := K2.out.lt
    have e2 := hbb.size
    exact ⟨(Blk.new w2 33 _).alloc _, ((K1.out.call hbb).alloc _).alloc _, ((K2.out.call hbb).alloc _).alloc _, blk_at (w2.alloc (.cells uses0.cs 33)) (w2.heap.size + 1) 3 _ (by simp), (hrd.alloc (Nat.le_refl _) _).alloc (by simp) _, ((KB.out.call hbb KB.out.size).alloc (by omega) _).alloc (by simp; omega) _, by omega⟩
  have H0 := Lib.hid h0
  clear hcase hcs hn hrd hbb h0 K1 K2 KB xc0 hb
  go_upto_region 6 with fail
  refine name_world (RT w w2.heap.size x A ks uses0) _ H0.out ?_
  clear H0
  generalize w2.heap.size = g
  intro W hW
  have HW := Lib.hid hW
  clear hW
  go_cut [28] (fun s wx => s = .bool (hasOp ks 2 || hasOp ks 14 || hasOp ks 15) ∧ RT w g x A ks uses0 wx)
  case first => as_aux_lemma =>
    generalize hb2 : hasOp ks 2 = b2
    generalize hb14 : hasOp ks 14 = b14
    generalize hb15 : hasOp ks 15 = b15
    cases b2
    · cases b14
      · go_wp2_with fail
        refine (has_k HW.out HL.out 2 _ hb2).mono ?_
        rintro e w' ⟨rfl, rfl⟩
        go_wp2_with fail
        refine (has_k HW.out HL.out 14 _ hb14).mono ?_
        rintro e w' ⟨rfl, rfl⟩
        go_wp2_with fail
        refine (has_k HW.out HL.out 15 _ hb15).mono ?_
        rintro e w' ⟨rfl, rfl⟩
        go_wp2_with fail
        go_meet
        exact ⟨by rw [hb2, hb14, hb15] <;> rfl, HW.out⟩
      · go_wp2_with fail
        refine (has_k HW.out HL.out 2 _ hb2).mono ?_
        rintro e w' ⟨rfl, rfl⟩
        go_wp2_with fail
        refine (has_k HW.out HL.out 14 _ hb14).mono ?_
        rintro e w' ⟨rfl, rfl⟩
        go_wp2_with fail
        go_meet
        exact ⟨by rw [hb2, hb14] <;> rfl, HW.out⟩
    · go_wp2_with fail
      refine (has_k HW.out HL.out 2 _ hb2).mono ?_
      rintro e w' ⟨rfl, rfl⟩
      go_wp2_with fail
      go_meet
      exact ⟨by rw [hb2] <;> rfl, HW.out⟩
  case rest =>
    obtain ⟨rfl, hW⟩ := hcut
    clear HW
    have HW := Lib.hid hW
    clear hW
    go_upto_if 28 with fail
    obtain ⟨b1, hb1⟩ : ∃ b : Bool, (hasOp ks 2 || hasOp ks 14 || hasOp ks 15) = b := ⟨_, rfl⟩
    rw [hb1]
    have HB1 := Lib.hid hb1
    clear hb1
    go_cut [] (fun wx => RT w g x A ks (uB x b1 uses0) wx)
    case first => as_aux_lemma =>
      cases b1
      · go_wp2_with fail
        go_meet
        exact HW.out
      · skip
        obtain ⟨xc0, xc1, xc2, xc3, xc4, xc5, xc6, xf0, xf1, xf2, xf3, xf4, xf5, xf6⟩ := HW.out.bx.facts7
        clear xc0 xc1 xc3 xc4 xc5 xc6 xf0 xf1 xf2 xf3 xf4 xf5 xf6
        obtain ⟨uc0, uc1, uc2, uc3, uc4, uc5, uc6, uc7, uc8, uf0, uf1, uf2, uf3, uf4, uf5, uf6, uf7, uf8⟩ := HW.out.bu.facts9
        clear uc1 uc2 uc3 uc4 uc5 uc6 uc7 uc8 uf0 uf1 uf2 uf3 uf4 uf5 uf6 uf7 uf8
        have HD := Lib.hid HW.out.drew
        go_wp2_with fail
        go_still_tail 7, (by kernel_rfl)
        still_call (bit_still x.b HB.out.1 HB.out.2 _)
        repeat still_step
        refine wpStill_nil ?_
        change wpList _ _ _ _ _ wc.drew
        clear uc0 xc2 HW
        revert HD
        generalize wc.drew = w2
        intro HD
        obtain ⟨uc0, uc1, uc2, uc3, uc4, uc5, uc6, uc7, uc8, uf0, uf1, uf2, uf3, uf4, uf5, uf6, uf7, uf8⟩ := HD.out.bu.facts9
        clear uc1 uc2 uc3 uc4 uc5 uc6 uc7 uc8 uf1 uf2 uf3 uf4 uf5 uf6 uf7 uf8
        go_wp2
        go_meet
        exact RT.set_ (u' := uB x true uses0) (u := uses0) HD.out 0 _ rfl
    case rest =>
      have hW := hcut
      clear hcut HW
      obtain ⟨s1, hu1⟩ : ∃ u, (uB x b1 uses0) = u := ⟨_, rfl⟩
      rw [hu1] at hW
      rw [HB1.out, hu1] at HR
      clear hu1 HB1
      refine (‹∀ (a : Act) (w : World), Code.wp Tryz.prog _ _ a w → _›) _ _ ?_
      exact rtail1 x w g A ks s1 b _ _ _ _ _ _ _ _ _ _ _ _ _ _ _ _ _ _ _ _ _ _ _ _ _ _ _ _ _ _ _ _ _ _ _ _ _ _ _ _ _ _ _ _ _ _ _ _ _ _ _ _ _ _ _ _ _ _ _ _ _ _ _ _ _ _ _ _ _ _ _ _ _ _ _ _ _ _ _ _ _ _ _ _ _ _ _ _ _ _ _ _ _ _ _ _ _ _ _ _ _ _ _ _ _ _ _ _ _ _ _ _ _ _ _ _ _ _ _ _ _ _ _ _ _ _ _ _ _ _ _ _ _ _ _ _ _ _ _ _ _ _ _ _ _ _ _ _ _ _ _ _ _ _ _ _ _ _ _ _ _ _ _ _ _ _ _ _ _ _ _ _ _ _ _ _ _ _ _ _ _ _ _ _ _ _ _ wc HL.out HA.out HB.out HC.out HR.out hW
theorem ruses_any (x : Insn) (i0 : 0 ≤ x.i) (i1 : x.i < 4294967296) (w : World) :
    Calls Tryz.prog 21 #[.agg x.cs] w fun e w' => e = .returned (.tuple #[.agg (usesAns x).1.cs, .int .i64 (usesAns x).2]) ∧ Below w.heap.size w w' := by
  unfold usesAns
  cases hv : x.valid
  · exact ruses_no x w i0 i1 hv
  · rw [if_pos rfl, ← uses_same_ x hv]
    exact ruses_ok x w hv i0 i1
end Go.Proofs.YtdkclapinedgiaaGreatDoor
