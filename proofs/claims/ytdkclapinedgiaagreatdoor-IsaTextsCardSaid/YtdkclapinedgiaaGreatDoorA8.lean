/- Contract: Parse of the reference. -/
/- IsaTexts of the law's package: the walk. -/
import Derived.Test.YtdkclapinedgiaaGreatDoorA6
import Derived.Test.YtdkclapinedgiaaGreatDoorQ2
import Derived.Deep.RegionWith

namespace Go.Proofs.YtdkclapinedgiaaGreatDoor
open Go.RowKit

theorem rtext_iin (x : Insn) (hi : IIn x) (w : World) : Calls Tryz.prog 17 #[.agg x.cs] w (TextOf w x) := by
  cases hv : x.valid
  · exact rtext_no x hi.1 hi.2 hv w
  · exact rtext_yes x hi.1 hi.2 (valid_in hv hi) hv w
theorem pcs_ne : ∀ (s : List UInt8) (out : List (List UInt8)) (cur : List UInt8), pcs out cur s ≠ []
  | [], out, cur => by simp [pcs]
  | [c], out, cur => by rw [pcs]; split <;> simp
  | c :: d :: t, out, cur => by
    rw [pcs]
    split
    · exact pcs_ne (d :: t) _ _
    · split
      · exact pcs_ne t _ _
      · exact pcs_ne (d :: t) _ _
theorem pcs_len : ∀ (s : List UInt8) (out : List (List UInt8)) (cur : List UInt8), (pcs out cur s).length ≤ out.length + s.length + 1
  | [], out, cur => by simp [pcs]
  | [c], out, cur => by rw [pcs]; split <;> simp
  | c :: d :: t, out, cur => by
    rw [pcs]
    split
    · have := pcs_len (d :: t) (out ++ [cur]) []; simp at this ⊢; omega
    · split
      · have := pcs_len t (out ++ [cur]) []; simp at this ⊢; omega
      · have := pcs_len (d :: t) out (cur ++ [c]); simp at this ⊢; omega
theorem pcs_mem : ∀ (s : List UInt8) (out : List (List UInt8)) (cur : List UInt8) (n : Nat), (∀ u ∈ out, u.length ≤ n) → cur.length + s.length ≤ n → ∀ u ∈ pcs out cur s, u.length ≤ n
  | [], out, cur, n, ho, hn => by
    intro u hu; rw [pcs] at hu
    rcases List.mem_append.1 hu with h | h
    · exact ho u h
    · obtain rfl := List.mem_singleton.1 h; simp at hn; exact hn
  | [c], out, cur, n, ho, hn => by
    intro u hu; rw [pcs] at hu
    simp at hn
    split at hu
    · simp at hu
      rcases hu with h | rfl | rfl
      · exact ho u h
      · omega
      · simp
    · simp at hu
      rcases hu with h | rfl
      · exact ho u h
      · simp; omega
  | c :: d :: t, out, cur, n, ho, hn => by
    have hn' : cur.length + t.length + 2 ≤ n := by simp at hn; omega
    have ho' : ∀ u ∈ out ++ [cur], u.length ≤ n := by
      intro u hu
      rcases List.mem_append.1 hu with h | h
      · exact ho u h
      · obtain rfl := List.mem_singleton.1 h; omega
    rw [pcs]
    split
    · exact pcs_mem (d :: t) _ _ n ho' (by simp; omega)
    · split
      · exact pcs_mem t _ _ n ho' (by simp; omega)
      · exact pcs_mem (d :: t) _ _ n ho (by simp; omega)

theorem idx80_succ (b off n c k : Nat) (hk : k < n) (W : World) : (Instr.indexAt 80 (.slice (some ⟨b, off, none⟩) (n + 1) c) (.int .i64 ((k : Int) + 1))).run Tryz.prog W = .ok (.pointer (some ⟨b, off + (k + 1), none⟩)) W := by
  simp [go_sem, Tryz.underlying80]
  intro h
  have := h (by omega)
  omega
/-- The instruction with an operation alone. -/
def insnOp (op : Int) : Insn := { insn0 with op := op }
/-- Where the loop of the reference's Parse stands. -/
structure RpAt (w : World) (g : Nat) (A : Option Addr) (n : Nat) (ks : List Int) (A2 : Option Addr) (m : Nat) (L : List (List UInt8)) (y : Insn) (wr : World) : Prop where
  bk : Blk wr w.heap.size 24 insn0.cs
  bx : Blk wr g 24 y.cs
  gt : w.heap.size < g
  rk : Reads wr g 1 A n (i64s ks)
  rl : Reads wr g 1 A2 m (L.map strV)
  below : Below w.heap.size w wr
theorem RpAt.step {w wr w2 : World} {g n m : Nat} {A A2 : Option Addr} {ks : List Int} {L : List (List UInt8)} {y : Insn} (h : RpAt w g A n ks A2 m L y wr) (hb : Below wr.heap.size wr w2) : RpAt w g A n ks A2 m L y w2 :=
  ⟨h.bk.call hb, h.bx.call hb, h.gt, h.rk.below (hb.mono (Nat.le_of_lt h.bx.lt)), h.rl.below (hb.mono (Nat.le_of_lt h.bx.lt)), h.below.call hb h.below.size⟩
theorem RpAt.set_ {w wr : World} {g n m : Nat} {A A2 : Option Addr} {ks : List Int} {L : List (List UInt8)} {y : Insn} (h : RpAt w g A n ks A2 m L y wr) (z : Insn) :
    RpAt w g A n ks A2 m L z (((((((wr.setCell ⟨g, 0, none⟩ (.int .i64 z.op)).setCell ⟨g, 1, none⟩ (.int .i64 z.a)).setCell ⟨g, 2, none⟩ (.int .i64 z.b)).setCell ⟨g, 3, none⟩ (.int .i64 z.c)).setCell ⟨g, 4, none⟩ (.int .i64 z.d)).setCell ⟨g, 5, none⟩ (.int .i64 z.k)).setCell ⟨g, 6, none⟩ (.int .u32 z.i)) := by
  have hg := h.gt
  have hs := below_seven (Below.refl g wr) (Nat.le_refl _) (.int .i64 z.op) (.int .i64 z.a) (.int .i64 z.b) (.int .i64 z.c) (.int .i64 z.d) (.int .i64 z.k) (.int .u32 z.i)
  exact ⟨h.bk.below hs hg, h.bx.seven _ _ _ _ _ _ _, hg, h.rk.below hs, h.rl.below hs, h.below.trans (hs.mono (Nat.le_of_lt hg))⟩

theorem RpAt.drew {w wr : World} {g n m : Nat} {A A2 : Option Addr} {ks : List Int} {L : List (List UInt8)} {y : Insn} (h : RpAt w g A n ks A2 m L y wr) : RpAt w g A n ks A2 m L y wr.drew :=
  ⟨h.bk.drew, h.bx.drew, h.gt, h.rk.drew, h.rl.drew, h.below.drew⟩
def putTo (ks : List Int) (gs : List (List UInt8)) (y : Insn) : Nat → Insn
  | 0 => y
  | k + 1 => putR (ks.getD k 0) (gs.getD k []) (putTo ks gs y k)
theorem putTo_succ (k0 : Int) (ks : List Int) (g0 : List UInt8) (gs : List (List UInt8)) (y : Insn) : ∀ k, putTo (k0 :: ks) (g0 :: gs) y (k + 1) = putTo ks gs (putR k0 g0 y) k
  | 0 => rfl
  | k + 1 => by
    rw [putTo, putTo_succ k0 ks g0 gs y k]; rfl
theorem putTo_all : ∀ (ks : List Int) (gs : List (List UInt8)) (y : Insn), ks.length = gs.length → putTo ks gs y ks.length = putAll ks gs y
  | [], gs, y, _ => by simp [putTo, putAll]
  | k :: ks, [], y, h => by simp at h
  | k :: ks, g :: gs, y, h => by
    rw [List.length_cons, putTo_succ, putTo_all ks gs _ (by simpa using h), putAll]
theorem putTo_iin (ks : List Int) (gs : List (List UInt8)) (y : Insn) (h : IIn y) : ∀ k, IIn (putTo ks gs y k)
  | 0 => h
  | k + 1 => putR_iin _ _ _ (putTo_iin ks gs y h k)

set_option maxRecDepth 100000 in
set_option maxHeartbeats 40000000 in
theorem rparse_any (s : List UInt8) (hs : s.length ≤ 100000) (w : World) : Calls Tryz.prog 19 #[.string ⟨s.toArray⟩] w (ParsePost w (parseR s)) := by
  have hP := Lib.hid (fun W => pieces_any s (by omega) W)
  have hlen := pcs_len s [] []
  have hmem := pcs_mem s [] [] s.length (by simp) (by simp)
  obtain ⟨D, hD⟩ : ∃ D, parseR s = D := ⟨_, rfl⟩
  rw [hD]
  unfold parseR readR at hD
  obtain ⟨l0, ls, hL⟩ : ∃ l0 ls, pcs [] [] s = l0 :: ls := by
    cases h : pcs [] [] s with
    | nil => exact absurd h (pcs_ne s [] [])
    | cons a b => exact ⟨a, b, rfl⟩
  rw [hL] at hP hD hlen hmem
  clear hL
  simp only [List.headD_cons, List.tail_cons, List.length_cons, List.length_nil, Nat.add_right_cancel_iff] at hD hlen
  have hO := Lib.hid (fun W => rop_any l0 W)
  unfold PiecesPost at hP
  unfold OpPost strV at hO
  generalize opOf l0 = op at *
  obtain ⟨op, known⟩ := op
  dsimp only at hO hD
  have hk := Lib.hid (fun W => rkinds_any op W)
  unfold KPost at hk
  have HD := Lib.hid hD
  have HM := Lib.hid hmem
  simp only [List.length_cons, List.map_cons] at hP
  have hl63 : ls.length ≤ 100000 := by omega
  have HI : Hid (∀ k ∈ kindsOf op, 0 ≤ k ∧ k ≤ 15) := kind_in op
  have HI1 : Hid (∀ k ∈ kindsOf op, 1 ≤ k) := by
    intro k hk
    unfold kindsOf at hk
    obtain ⟨c, hc, rfl⟩ := List.mem_map.1 hk
    have := (opnd_fits op c hc).1
    exact (show ∀ c ∈ letters, 1 ≤ kindOf c by decide) c this
  clear hD hmem hlen
  unfold ParsePost Insn.cs
  go_enter Tryz.func19, Tryz.ntmps19
  go_wp2_with fail
  refine (hP.out _).mono ?_
  rintro e w1 ⟨A2, c2, rfl, hcc, hrl, hb⟩
  have HB1 := Lib.hid (((Below.refl _ w).alloc (Nat.le_refl _) (.cells #[.int .i64 0, .int .i64 0, .int .i64 0, .int .i64 0, .int .i64 0, .int .i64 0, .int .u32 0] 24)).call hb (by simp))
  have HK1 := Lib.hid ((Blk.new w 24 #[.int .i64 0, .int .i64 0, .int .i64 0, .int .i64 0, .int .i64 0, .int .i64 0, .int .u32 0]).call hb)
  obtain ⟨b2, off2, rfl, hb2, hcs2⟩ := hrl.plain (by omega) (by decide)
  have c0 := hcs2 0 _ rfl
  rw [Nat.add_zero] at c0
  unfold strV at c0
  have HRL := Lib.hid hrl
  clear hrl hcs2 hb hP
  go_wp2_with fail
  refine (hO.out _).mono ?_
  rintro e w2 ⟨rfl, hbo⟩
  have HB2 := Lib.hid (HB1.out.call hbo HB1.out.size)
  have HK2 := Lib.hid (HK1.out.call hbo)
  have HRL2 := Lib.hid ((HRL.out.below hbo).more hbo.size)
  obtain ⟨k0, k1, k2, k3, k4, k5, k6, f0, f1, f2, f3, f4, f5, f6⟩ := HK2.out.facts7
  have hz2 := HK2.out.lt
  clear hbo c0 hb2 HB1 HK1 HRL hO
  cases known with
  | false =>
    have hD := HD.out
    rw [if_neg (by simp)] at hD
    subst hD
    clear HD
    go_wp2_with fail
    exact bodyPost_ret (results_24_2 Tryz.results19 rfl (HK2.out.seven _ _ _ _ _ _ _)) rfl ⟨rfl, below_seven HB2.out (Nat.le_refl _) _ _ _ _ _ _ _⟩
  | true =>
    go_wp2_with fail
    refine (hk.out _).mono ?_
    rintro e w3 ⟨A, n, rfl, hn, hrk, hb⟩
    have HB3 := Lib.hid (HB2.out.call hb HB2.out.size)
    have HK3 := Lib.hid (HK2.out.call hb)
    have HRL3 := Lib.hid ((HRL2.out.below hb).more hb.size)
    have HRK3 := Lib.hid hrk
    have HN := Lib.hid hn
    clear k0 k1 k2 k3 k4 k5 k6 f0 f1 f2 f3 f4 f5 f6 hz2 hb hrk HB2 HK2 HRL2 hk
    obtain ⟨k0, k1, k2, k3, k4, k5, k6, f0, f1, f2, f3, f4, f5, f6⟩ := HK3.out.facts7
    have hz3 := HK3.out.lt
    by_cases hnl : ls.length = n
    · have HNL := Lib.hid hnl
      obtain ⟨X, hX⟩ : ∃ X, putAll (kindsOf op) ls { insn0 with op := op } = X := ⟨_, rfl⟩
      have hD := HD.out
      rw [if_pos ⟨by first | rfl | trivial, by rw [hnl, hn]⟩, hX] at hD
      replace HD := Lib.hid hD
      have HXX := Lib.hid hX
      have hl5 : (kindsOf op).length ≤ 5 := by unfold kindsOf; rw [List.length_map]; exact opnd_len op
      have heq : ((ls.length : Int) + 1 != (n : Int) + 1) = false := by rw [hnl]; simp
      have hw : wrap64 ((n : Int) + 1) = n + 1 := by unfold wrap64; omega
      obtain ⟨ks, hks⟩ : ∃ ks, kindsOf op = ks := ⟨_, rfl⟩
      rw [hks] at HI HI1 HN HRK3 HXX hl5
      clear hX hD hnl hks hn
      have AT0 := Lib.hid (show RpAt w w3.heap.size A n ks (some ⟨b2, off2, none⟩) (ls.length + 1) (l0 :: ls) (putTo ks ls (insnOp op) 0) (w3.alloc (.cells (insnOp op).cs 24)) from
        ⟨HK3.out.alloc _, Blk.new w3 24 _, HK3.out.lt, HRK3.out.alloc (Nat.le_refl _) _, HRL3.out.alloc (Nat.le_refl _) _, HB3.out.alloc HB3.out.size _⟩)
      have hws : w.heap.size < w3.heap.size := HK3.out.lt
      have hn5 : n ≤ 5 := by have := HN.out; omega
      clear k0 k1 k2 k3 k4 k5 k6 f0 f1 f2 f3 f4 f5 f6 HK3 HB3 HRL3 HRK3 hl5
      go_wp2_with fail
      go_loopw [10] (fun vi wr => ∃ k : Nat, vi = .int .i64 k ∧ k ≤ n ∧ RpAt w w3.heap.size A n ks (some ⟨b2, off2, none⟩) (ls.length + 1) (l0 :: ls) (putTo ks ls (insnOp op) k) wr) (fun vi _ => n - (intOf vi).toNat)
      case atStart => exact ⟨0, rfl, Nat.zero_le _, AT0.out⟩
      case round =>
        obtain ⟨k, rfl, hkn, hat⟩ := hrel
        have HA := Lib.hid hat
        by_cases hlt : k < n
        · have hkk : k < ks.length := by rw [HN.out]; exact hlt
          have hkl : k < ls.length := by rw [HNL.out]; exact hlt
          have hg := hat.bx.lt
          obtain ⟨b, off, rfl, hb, hcs⟩ := hat.rk.plain (by omega) (by decide)
          have cK := hcs k (.int .i64 ks[k]) (by unfold i64s; rw [List.getElem?_map, List.getElem?_eq_getElem hkk]; rfl)
          obtain ⟨b', off', he', hb', hcs'⟩ := hat.rl.plain (by omega) (by decide)
          injection he' with he'
          injection he' with e1 e2 _
          subst e1 e2
          have cL := hcs' (k + 1) (.string ⟨ls[k].toArray⟩) (by rw [List.map_cons, List.getElem?_cons_succ, List.getElem?_map, List.getElem?_eq_getElem hkl]; rfl)
          obtain ⟨a0, a1, a2, a3, a4, a5, a6, q0, q1, q2, q3, q4, q5, q6⟩ := hat.bx.facts7
          have HPT : Hid (putTo ks ls (insnOp op) (k + 1) = putR ks[k] ls[k] (putTo ks ls (insnOp op) k)) := by
            unfold Hid; rw [putTo]; congr 1 <;> simp [hkk, hkl]
          have hgl : ls[k].length ≤ 1000000 := by have := HM.out _ (List.mem_cons_of_mem _ (List.getElem_mem hkl)); omega
          have hkd := HI1.out _ (List.getElem_mem hkk)
          have hkd2 := (HI.out _ (List.getElem_mem hkk)).2
          have hPut := Lib.hid (rput_any (putTo ks ls (insnOp op) k) ks[k] ⟨hkd, hkd2⟩ ls[k] hgl)
          unfold MemRPost Insn.cs at hPut
          have hki : (k : Int) < (n : Int) := by omega
          have kix := idx80_succ b2 off2 ls.length c2 k hkl
          have hw1 : IntKind.i64.wrap ((k : Int) + 1) = k + 1 := by rw [IntKind.wrap_i64]; omega
          clear hat hcs hcs' hkd hkd2 hgl
          generalize putTo ks ls (insnOp op) k = y at *
          generalize hzz : putR ks[k] ls[k] y = z at *
          generalize ks[k] = kd at *
          generalize ls[k] = gd at *
          go_wp2
          go_region_with (go_at_call 64; refine (hPut.out _).mono ?_; rintro e w5 ⟨rfl, hb5⟩; obtain ⟨d0, d1, d2, d3, d4, d5, d6, p0, p1, p2, p3, p4, p5, p6⟩ := (HA.out.bx.drew.call hb5).facts7)
          all_goals
            have HN1 := Lib.hid ((HA.out.drew.step hb5).set_ z)
            clear d0 d1 d2 d3 d4 d5 d6 p0 p1 p2 p3 p4 p5 p6 a0 a1 a2 a3 a4 a5 a6 q0 q1 q2 q3 q4 q5 q6 cK cL kix hb5
            go_wp2
            go_roundw
            case rel => exact ⟨k + 1, by go_num, by omega, by rw [HPT.out]; exact HN1.out⟩
            case measure => simp [intOf]; omega
        · obtain rfl : k = n := by omega
          have hX1 : putTo ks ls (insnOp op) k = X := by
            rw [← HXX.out, ← HN.out]
            exact putTo_all ks ls _ (by rw [HN.out, HNL.out])
          have hin : IIn X := by rw [← hX1]; exact putTo_iin ks ls _ (show IIn (insnOp op) from ⟨Int.le_refl 0, by show (0 : Int) < 4294967296; decide⟩) k
          rw [hX1] at hat
          replace HA := Lib.hid hat
          have hT := Lib.hid (rtext_iin X hin)
          unfold TextOf Insn.cs at hT
          obtain ⟨a0, a1, a2, a3, a4, a5, a6, q0, q1, q2, q3, q4, q5, q6⟩ := hat.bx.facts7
          clear hat hX1 hin q0 q1 q2 q3 q4 q5 q6 hlt
          cases hv : X.valid with
          | false =>
            rw [hv] at hT
            have hD := HD.out
            rw [hv] at hD
            rw [if_neg (by simp)] at hD
            subst hD
            clear HD hv
            go_wp2_with fail
            refine (hT.out _).mono ?_
            rintro e w5 ⟨rfl, hb5⟩
            replace HA := Lib.hid (HA.out.step hb5)
            obtain ⟨k0, k1, k2, k3, k4, k5, k6, f0, f1, f2, f3, f4, f5, f6⟩ := HA.out.bk.facts7
            clear hb5 a0 a1 a2 a3 a4 a5 a6
            go_wp2_with fail
            exact bodyPost_ret (results_24_2 Tryz.results19 rfl (HA.out.bk.seven _ _ _ _ _ _ _)) rfl ⟨rfl, below_seven HA.out.below (Nat.le_refl _) _ _ _ _ _ _ _⟩
          | true =>
            rw [hv] at hT
            have hD := HD.out
            rw [hv] at hD
            simp only [if_true] at hT
            by_cases htx : textL X = s
            · rw [if_pos ⟨rfl, htx⟩] at hD
              rw [htx] at hT
              subst hD
              clear HD hv htx
              go_wp2_with fail
              refine (hT.out _).mono ?_
              rintro e w5 ⟨rfl, hb5⟩
              replace HA := Lib.hid (HA.out.step hb5)
              obtain ⟨k0, k1, k2, k3, k4, k5, k6, f0, f1, f2, f3, f4, f5, f6⟩ := HA.out.bk.facts7
              obtain ⟨b0, b1, b2, b3, b4, b5, b6, q0, q1, q2, q3, q4, q5, q6⟩ := HA.out.bx.facts7
              clear hb5 a0 a1 a2 a3 a4 a5 a6 q0 q1 q2 q3 q4 q5 q6
              go_wp2_with fail
              exact bodyPost_ret (results_24_2 Tryz.results19 rfl (HA.out.bk.seven _ _ _ _ _ _ _)) rfl ⟨rfl, below_seven HA.out.below (Nat.le_refl _) _ _ _ _ _ _ _⟩
            · rw [if_neg (fun h => htx h.2)] at hD
              subst hD
              have hbe : (textL X == s) = false := by simpa using htx
              generalize textL X = T at *
              clear HD hv htx
              go_wp2_with fail
              refine (hT.out _).mono ?_
              rintro e w5 ⟨rfl, hb5⟩
              replace HA := Lib.hid (HA.out.step hb5)
              obtain ⟨k0, k1, k2, k3, k4, k5, k6, f0, f1, f2, f3, f4, f5, f6⟩ := HA.out.bk.facts7
              clear hb5 a0 a1 a2 a3 a4 a5 a6
              go_wp2_with fail
              exact bodyPost_ret (results_24_2 Tryz.results19 rfl (HA.out.bk.seven _ _ _ _ _ _ _)) rfl ⟨rfl, below_seven HA.out.below (Nat.le_refl _) _ _ _ _ _ _ _⟩
    · have hD := HD.out
      rw [if_neg (by rintro ⟨_, h⟩; exact hnl (by rw [h, hn]))] at hD
      subst hD
      have hne : ((ls.length : Int) + 1 != (n : Int) + 1) = true := by simp; omega
      have hw : wrap64 ((n : Int) + 1) = n + 1 := by
        have : (kindsOf op).length ≤ 5 := by unfold kindsOf; rw [List.length_map]; exact opnd_len op
        unfold wrap64; omega
      clear HD hn hnl
      go_wp2_with fail
      exact bodyPost_ret (results_24_2 Tryz.results19 rfl (HK3.out.seven _ _ _ _ _ _ _)) rfl ⟨rfl, below_seven HB3.out (Nat.le_refl _) _ _ _ _ _ _ _⟩
end Go.Proofs.YtdkclapinedgiaaGreatDoor

namespace Go.Proofs.YtdkclapinedgiaaGreatDoor
open Go.RowKit

theorem eqSame (x : Insn) (w : World) : (Go.binOp .eql 24 (.agg #[.int .i64 x.op, .int .i64 x.a, .int .i64 x.b, .int .i64 x.c, .int .i64 x.d, .int .i64 x.k, .int .u32 x.i]) (.agg #[.int .i64 x.op, .int .i64 x.a, .int .i64 x.b, .int .i64 x.c, .int .i64 x.d, .int .i64 x.k, .int .u32 x.i])).run Tryz.prog w = .ok (.bool true) w := by
  simp [go_sem]
attribute [local go_sem] eqSame

set_option maxRecDepth 100000 in
set_option maxHeartbeats 40000000 in
theorem texts_walk (x z : Insn) (s tx : List UInt8) (ex ez : Int) (w : World)
    (hsane : Tell w 15 #[] (.bool true))
    (hX : Tell w 16 #[.agg x.cs] (.tuple #[.string ⟨tx.toArray⟩, .int .i64 ex])) (hR : Tell w 17 #[.agg x.cs] (.tuple #[.string ⟨tx.toArray⟩, .int .i64 ex]))
    (hs : s.length ≤ 100000 → Tell w 18 #[.string ⟨s.toArray⟩] (.tuple #[.agg z.cs, .int .i64 ez]) ∧ Tell w 19 #[.string ⟨s.toArray⟩] (.tuple #[.agg z.cs, .int .i64 ez])) :
    Calls Tryz.prog 3 #[.agg x.cs, .string ⟨s.toArray⟩] w fun e w' => e = .returned (.bool true) ∧ Below w.heap.size w w' := by
  have HS := Lib.hid hsane
  have HTX := Lib.hid hX
  have HTR := Lib.hid hR
  have HT := Lib.hid hs
  clear hsane hX hR hs
  unfold Tell at HS HTX HTR HT
  unfold Insn.cs at HTX HTR HT ⊢
  go_enter Tryz.func3, Tryz.ntmps3
  go_wp2_with fail
  refine (HS.out _ ((Below.refl _ w).alloc (Nat.le_refl _) _)).mono ?_
  rintro e w1 ⟨rfl, hb⟩
  have H := Lib.hid (show Below w.heap.size w w1 ∧ Blk w1 w.heap.size 24 x.cs from ⟨((Below.refl _ w).alloc (Nat.le_refl _) (.cells x.cs 24)).call hb (by simp), (Blk.new w 24 x.cs).call hb⟩)
  clear hb HS
  obtain ⟨a0, a1, a2, a3, a4, a5, a6, a7, a8, a9, a10, a11, a12, a13⟩ := H.out.2.facts7
  clear a7 a8 a9 a10 a11 a12 a13
  go_wp2_with fail
  refine (HTX.out _ H.out.1).mono ?_
  rintro e w2 ⟨rfl, hb⟩
  replace H := Lib.hid (show Below w.heap.size w w2 ∧ Blk w2 w.heap.size 24 x.cs from ⟨H.out.1.call hb H.out.1.size, H.out.2.call hb⟩)
  clear a0 a1 a2 a3 a4 a5 a6 hb HTX
  obtain ⟨a0, a1, a2, a3, a4, a5, a6, a7, a8, a9, a10, a11, a12, a13⟩ := H.out.2.facts7
  clear a7 a8 a9 a10 a11 a12 a13
  go_wp2_with fail
  refine (HTR.out _ H.out.1).mono ?_
  rintro e w3 ⟨rfl, hb⟩
  replace H := Lib.hid (show Below w.heap.size w w3 from H.out.1.call hb H.out.1.size)
  clear a0 a1 a2 a3 a4 a5 a6 hb HTR
  by_cases hn : (100000 : Int) < (s.length : Int)
  · go_wp2_with fail
    go_ret
    exact ⟨rfl, H.out⟩
  · obtain ⟨hp, hr⟩ := HT.out (by omega)
    have HP := Lib.hid hp
    have HR := Lib.hid hr
    clear hp hr HT
    go_wp2_with fail
    refine (HP.out _ H.out).mono ?_
    rintro e v1 ⟨rfl, hb⟩
    have BZ : Blk (v1.alloc (.cells z.cs 24)) v1.heap.size 24 z.cs := Blk.new v1 24 _
    replace H := Lib.hid (show Below w.heap.size w (v1.alloc (.cells z.cs 24)) from (H.out.call hb H.out.size).alloc (by have := H.out.size; have := hb.size; omega) _)
    have HBZ := Lib.hid BZ
    unfold Insn.cs at HBZ H
    clear hb HP BZ
    go_wp2_with fail
    refine (HR.out _ H.out).mono ?_
    rintro e v2 ⟨rfl, hb⟩
    have B2 := Lib.hid (HBZ.out.call hb)
    replace H := Lib.hid (H.out.call hb H.out.size)
    obtain ⟨a0, a1, a2, a3, a4, a5, a6, a7, a8, a9, a10, a11, a12, a13⟩ := B2.out.facts7
    have hlt := B2.out.lt
    clear a7 a8 a9 a10 a11 a12 a13 hb HR HBZ
    go_wp2_with fail
    go_ret
    exact ⟨rfl, H.out.alloc H.out.size _⟩

theorem texts_of (x : Insn) (hx : x.In) (s : List UInt8) (w : World) (he : Env w) (hsane : Tell w 15 #[] (.bool true)) :
    Calls Tryz.prog 3 #[.agg x.cs, .string ⟨s.toArray⟩] w fun e w' => e = .returned (.bool true) ∧ Below w.heap.size w w' := by
  refine texts_walk x (parseOf s).1 s (if x.valid then textL x else []) (if x.valid then 0 else 6) (parseOf s).2 w hsane
    (fun W hW => text_any x hx W (below_env he W hW)) (fun W _ => rtext_any x hx W) ?_
  intro hs
  have hsl : s.length ≤ 1000000 := by omega
  refine ⟨fun W hW => ?_, fun W _ => ?_⟩
  · exact parse_any s hsl (hix_all s hsl) W (below_env he W hW)
  · have h := rparse_any s hs W
    rw [parseR_is] at h
    exact h
end Go.Proofs.YtdkclapinedgiaaGreatDoor
