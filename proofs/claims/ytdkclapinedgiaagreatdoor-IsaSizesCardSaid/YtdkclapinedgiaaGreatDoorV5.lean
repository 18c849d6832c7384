/- Contract: IsaSizes of the law's package (function 7): true, whatever the input. -/
import Derived.Test.YtdkclapinedgiaaGreatDoorS4
import Derived.Deep.DeepCutAuto
namespace Go.Proofs.YtdkclapinedgiaaGreatDoor
open Go.RowKit
open Go.Sort (grow)

set_option maxRecDepth 100000 in
set_option maxHeartbeats 40000000 in
theorem sizes_of (x y : Insn) (n : Int) (hx : x.In) (hy : y.In) (n0 : -9223372036854775808 ≤ n) (n1 : n ≤ 9223372036854775807) (w : World) (he : Env w) (hsane : ∀ W, Env W → Calls Tryz.prog 15 #[] W fun e w' => e = .returned (.bool true) ∧ Below W.heap.size W w') :
    Calls Tryz.prog 7 #[.agg x.cs, .agg y.cs, .int .i64 n] w fun e w' => e = .returned (.bool true) ∧ Below w.heap.size w w' := by
  have HE := Lib.hid (below_env he)
  have HS := Lib.hid hsane
  have HX := Lib.hid (fun W => enc_len x hx W)
  have HY := Lib.hid (fun W => enc_len y hy W)
  have HO := Lib.hid hx.op
  clear hx hy he hsane
  have hcx : x.cs = #[.int .i64 x.op, .int .i64 x.a, .int .i64 x.b, .int .i64 x.c, .int .i64 x.d, .int .i64 x.k, .int .u32 x.i] := rfl
  have hcy : y.cs = #[.int .i64 y.op, .int .i64 y.a, .int .i64 y.b, .int .i64 y.c, .int .i64 y.d, .int .i64 y.k, .int .u32 y.i] := rfl
  rw [hcx] at HX
  rw [hcy] at HY
  rw [hcx, hcy]
  clear hcx hcy
  go_enter Tryz.func7, Tryz.ntmps7
  go_wp2_with fail
  refine (HS.out _ (HE.out _ (((Below.refl _ w).alloc (Nat.le_refl _) _).alloc (by simp) _))).mono ?_
  rintro e w1 ⟨rfl, hb⟩
  have H : Two w x y w1 := Two.step ⟨((Below.refl _ w).alloc (Nat.le_refl _) _).alloc (by simp) _, (Blk.new w 24 x.cs).alloc _, blk_at _ (w.heap.size + 1) 24 y.cs (by simp)⟩ hb
  clear hb HS
  obtain ⟨a0, a1, a2, a3, a4, a5, a6, a7, a8, a9, a10, a11, a12, a13⟩ := H.bx.facts7
  obtain ⟨b0, b1, b2, b3, b4, b5, b6, b7, b8, b9, b10, b11, b12, b13⟩ := H.bY.facts7
  replace H := Lib.hid H
  clear a7 a8 a9 a10 a11 a12 a13 b7 b8 b9 b10 b11 b12 b13
  go_wp2_with fail
  refine (HX.out _).mono ?_
  rintro e w2 ⟨⟨A, m, c, er, rfl, hk⟩, hb⟩
  replace H := Lib.hid (H.out.step hb)
  clear a0 a1 a2 a3 a4 a5 a6 b0 b1 b2 b3 b4 b5 b6 hb HX
  obtain ⟨a0, a1, a2, a3, a4, a5, a6, a7, a8, a9, a10, a11, a12, a13⟩ := H.out.bx.facts7
  obtain ⟨b0, b1, b2, b3, b4, b5, b6, b7, b8, b9, b10, b11, b12, b13⟩ := H.out.bY.facts7
  clear a7 a8 a9 a10 a11 a12 a13 b7 b8 b9 b10 b11 b12 b13
  go_wp2_with fail
  refine (HY.out _).mono ?_
  rintro e w3 ⟨⟨A', m', c', er', rfl, hk'⟩, hb⟩
  replace H := Lib.hid (H.out.step hb)
  clear a0 a1 a2 a3 a4 a5 a6 b0 b1 b2 b3 b4 b5 b6 HY
  obtain ⟨a0, a1, a2, a3, a4, a5, a6, a7, a8, a9, a10, a11, a12, a13⟩ := H.out.bx.facts7
  obtain ⟨b0, b1, b2, b3, b4, b5, b6, b7, b8, b9, b10, b11, b12, b13⟩ := H.out.bY.facts7
  clear a7 a8 a9 a10 a11 a12 a13 b7 b8 b9 b10 b11 b12 b13
  rcases hk with ⟨hvx, rfl, hm, hmc, hr⟩ | ⟨_, rfl, rfl⟩
  · replace hr := (hr.below hb).more hb.size
    obtain ⟨o1, o2, o3⟩ := (Insn.ok hvx).op
    clear hb
    have hmpos : 0 < m := by rw [hm]; unfold sizeOf_; split <;> omega
    obtain ⟨b, off, rfl, hb, hc⟩ := hr.plain hmpos (by decide)
    have c0 := hc 0 (.int .u8 x.op) (by rw [bytes_head]; rfl)
    have HR := Lib.hid hr
    clear hr hc hmpos
    simp only [Nat.add_zero] at c0
    have HM := Lib.hid hm
    clear hm
    have HK := Lib.hid hk'
    clear hk'
    go_upto_region 7 with fail
    go_cut [77] (fun s wx => s = .bool false ∧ Below w3.heap.size w3 wx)
    case first => as_aux_lemma =>
      have hm := HM.out
      have hk' := HK.out
      have k0 : ∀ d os, (grow (redrawn w3 d) os).cell? ⟨w.heap.size, 0, none⟩ = some (.int .i64 x.op) := cell_regrown a0
      have k1 : ∀ d os, (grow (redrawn w3 d) os).cell? ⟨w.heap.size + 1, 0, none⟩ = some (.int .i64 y.op) := cell_regrown b0
      have k2 : ∀ d os, (grow (redrawn w3 d) os).cell? ⟨b, off, none⟩ = some (.int .u8 x.op) := cell_regrown c0
      clear a0 a1 a2 a3 a4 a5 a6 b0 b1 b2 b3 b4 b5 b6 c0
      have hwr : IntKind.i64.wrap x.op = x.op := by rw [IntKind.wrap_i64]; omega
      by_cases ho : x.op < 64
      · have hm4 : m = 4 := by rw [hm]; unfold sizeOf_; rw [if_pos ho]
        subst hm4
        have hob : decide (64 ≤ x.op) = false := by simp; omega
        rcases hk' with ⟨_, rfl, hm', _⟩ | ⟨_, rfl, rfl⟩
        · by_cases hop : x.op = y.op
          · have hm4' : m' = 4 := by rw [hm', ← hop, ← hm]
            subst hm4'
            have hopb : (x.op == y.op) = true := beq_iff_eq.2 hop
            clear hop hm hm'
            refine wp_region_quiet_below mixed (by kernel_rfl) ?_
            repeat (quiet_step (fail))
            refine wpQuiet_nil ?_
            intro _ hw'
            obtain ⟨⟨dq, osq⟩, hw''⟩ := hw'
            subst hw''
            go_wp2
            go_meet
            exact ⟨rfl, below_regrown w3 dq osq⟩
          · have hopb : (x.op == y.op) = false := beq_eq_false_iff_ne.2 hop
            clear hop hm hm'
            refine wp_region_quiet_below mixed (by kernel_rfl) ?_
            repeat (quiet_step (fail))
            refine wpQuiet_nil ?_
            intro _ hw'
            obtain ⟨⟨dq, osq⟩, hw''⟩ := hw'
            subst hw''
            go_wp2
            go_meet
            exact ⟨rfl, below_regrown w3 dq osq⟩
        · clear hm
          refine wp_region_quiet_below mixed (by kernel_rfl) ?_
          repeat (quiet_step (fail))
          refine wpQuiet_nil ?_
          intro _ hw'
          obtain ⟨⟨dq, osq⟩, hw''⟩ := hw'
          subst hw''
          go_wp2
          go_meet
          exact ⟨rfl, below_regrown w3 dq osq⟩
      · have hm4 : m = 8 := by rw [hm]; unfold sizeOf_; rw [if_neg ho]
        subst hm4
        have hob : decide (64 ≤ x.op) = true := by simp; omega
        rcases hk' with ⟨_, rfl, hm', _⟩ | ⟨_, rfl, rfl⟩
        · by_cases hop : x.op = y.op
          · have hm4' : m' = 8 := by rw [hm', ← hop, ← hm]
            subst hm4'
            have hopb : (x.op == y.op) = true := beq_iff_eq.2 hop
            clear hop hm hm'
            refine wp_region_quiet_below mixed (by kernel_rfl) ?_
            repeat (quiet_step (fail))
            refine wpQuiet_nil ?_
            intro _ hw'
            obtain ⟨⟨dq, osq⟩, hw''⟩ := hw'
            subst hw''
            go_wp2
            go_meet
            exact ⟨rfl, below_regrown w3 dq osq⟩
          · have hopb : (x.op == y.op) = false := beq_eq_false_iff_ne.2 hop
            clear hop hm hm'
            refine wp_region_quiet_below mixed (by kernel_rfl) ?_
            repeat (quiet_step (fail))
            refine wpQuiet_nil ?_
            intro _ hw'
            obtain ⟨⟨dq, osq⟩, hw''⟩ := hw'
            subst hw''
            go_wp2
            go_meet
            exact ⟨rfl, below_regrown w3 dq osq⟩
        · clear hm
          refine wp_region_quiet_below mixed (by kernel_rfl) ?_
          repeat (quiet_step (fail))
          refine wpQuiet_nil ?_
          intro _ hw'
          obtain ⟨⟨dq, osq⟩, hw''⟩ := hw'
          subst hw''
          go_wp2
          go_meet
          exact ⟨rfl, below_regrown w3 dq osq⟩
    case rest =>
      obtain ⟨rfl, hb3⟩ := hcut
      have H3 := Lib.hid (H.out.step hb3)
      have HR3 := Lib.hid ((HR.out.below hb3).more hb3.size)
      clear hb3 H HR a0 a1 a2 a3 a4 a5 a6 b0 b1 b2 b3 b4 b5 b6 c0 hb HK HO
      by_cases hn0 : n < 0
      · go_wp2_with fail
        go_ret
        exact ⟨rfl, H3.out.below⟩
      · by_cases hnm : (m : Int) ≤ n
        · go_wp2_with fail
          go_ret
          exact ⟨rfl, H3.out.below⟩
        · obtain ⟨k, rfl⟩ : ∃ k : Nat, n = k := ⟨n.toNat, by omega⟩
          have hkm : k < m := by omega
          have run : ∀ W, (Instr.slice 44 (.slice (some ⟨b, off, none⟩) m c) none (some (.int .i64 (k : Int))) none).run Tryz.prog W = .ok (.slice (some ⟨b, off, none⟩) k c) W := by
            intro W
            have h0 : (0 : Int) ≤ (k : Int) := by omega
            have h1 : (k : Int) ≤ (c : Int) := by omega
            simp [go_sem, Tryz.underlying44, h0, h1, sliced, Addr.add]
          have hk : (k : Int) < m := by omega
          have hd := decode_any (some ⟨b, off, none⟩) k c (x.bytes.take k) wc (by have := HR3.out.take (k := k) (by omega); simpa [u8s, List.map_take] using this) (bytes_in x hvx k)
          unfold DecPost at hd
          rw [cut_decode x k (by rw [← HM.out]; exact hkm)] at hd
          simp only [insn0_cs] at hd
          have HD := Lib.hid hd
          clear hd hnm
          go_wp2_with fail
          refine HD.out.mono ?_
          rintro e w4 ⟨rfl, hb⟩
          go_wp2_with fail
          go_ret
          exact ⟨rfl, (H3.out.step hb).below.alloc (H3.out.step hb).below.size _⟩
  · go_wp2_with fail
    go_ret
    exact ⟨rfl, H.out.below⟩
end Go.Proofs.YtdkclapinedgiaaGreatDoor
