/- Contracts: what writes the operands in memory; the table of writers. -/
import Derived.Test.YtdkclapinedgiaaGreatDoorG3
import Derived.Lib.QuietBelow
import Derived.Lib.Walk
namespace Go.Proofs.YtdkclapinedgiaaGreatDoor
open Go.RowKit
open Go.Sort (grow)

theorem mixed : Tryz.prog.follows .mixedOrders = true := by kernel_rfl
/-- A name for the world behind a region, of which this is known. -/
theorem name_on {K : Act → World → Prop} {Q : Exit → Act → World → Prop} {a : Act} (F : World → Prop) (W : World) (h : F W) (k : ∀ W', F W' → Exit.then K Q .normal a W') : Exit.then K Q .normal a W := k W h
theorem ba_size (l : List UInt8) : (⟨l.toArray⟩ : ByteArray).size = l.length := by simp [ByteArray.size]

set_option maxRecDepth 100000 in
set_option maxHeartbeats 2000000 in
theorem wr113 (x : Insn) (hi : x.In) (w : World) (he : Env w) : Calls Tryz.prog 113 #[.agg x.cs] w (TextPost w (opText 110 x)) := by
  have HE := below_env he
  have hl1 := Lib.itoa_length_le x.b hi.b.1 hi.b.2
  have hl2 := hexL_length x.i.toNat
  have HT : opText 110 x = 91 :: (114 :: Lib.itoa x.b) ++ [43] ++ (48 :: 120 :: hexL x.i.toNat) ++ [93] := by simp [opText]
  have hr := fun W h => regText_any [114] (by decide) x.b hi.b.1 hi.b.2 W h
  have hh := fun W h => hex_any x.i hi.i.1 hi.i.2 W h
  rw [HT]
  unfold Insn.cs
  clear he hi HT
  generalize x.i = i at *
  rw [show [114] ++ Lib.itoa x.b = 114 :: Lib.itoa x.b from rfl] at hr
  have g1 : (⟨(114 :: Lib.itoa x.b).toArray⟩ : ByteArray).size ≤ 22 := by rw [ba_size]; simp; omega
  have g2 : (⟨(48 :: 120 :: hexL i.toNat).toArray⟩ : ByteArray).size ≤ 10 := by rw [ba_size]; simp; omega
  have GT : Hid (∀ r h : ByteArray, r = ⟨(114 :: Lib.itoa x.b).toArray⟩ → h = ⟨(48 :: 120 :: hexL i.toNat).toArray⟩ → (⟨#[91]⟩ ++ r ++ ⟨#[43]⟩ ++ h ++ ⟨#[93]⟩ : ByteArray) = ⟨(91 :: (114 :: Lib.itoa x.b) ++ [43] ++ (48 :: 120 :: hexL i.toNat) ++ [93]).toArray⟩) := by
    intro r h h1 h2
    subst h1 h2
    apply ByteArray.ext
    simp
  generalize e1 : (⟨(114 :: Lib.itoa x.b).toArray⟩ : ByteArray) = r at *
  generalize e2 : (⟨(48 :: 120 :: hexL i.toNat).toArray⟩ : ByteArray) = h at *
  have GT := Lib.hid (GT.out r h rfl rfl)
  clear e1 e2 hl1 hl2
  generalize (91 :: (114 :: Lib.itoa x.b) ++ [43] ++ (48 :: 120 :: hexL i.toNat) ++ [93]) = out at *
  replace hr := Lib.hid hr
  replace hh := Lib.hid hh
  replace HE := Lib.hid HE
  go_enter Tryz.func113, Tryz.ntmps113
  go_wp2
  refine name_world (fun W => (W.cell? ⟨w.heap.size, 2, none⟩ = some (.int .i64 x.b) ∧ W.cell? ⟨w.heap.size, 6, none⟩ = some (.int .u32 i)) ∧ Below w.heap.size w W) _ ⟨⟨?_, ?_⟩, ?_⟩ ?_
  · rw [(Blk.new w 24 _).cell]; rfl
  · rw [(Blk.new w 24 _).cell]; rfl
  · (repeat (first | exact Below.refl _ _ | assumption | refine Below.drew ?_ | refine Below.alloc ?_ (by first | exact Nat.le_refl _ | (simp; done) | (simp; omega)) _ | refine Below.call ?_ (by assumption) (by first | exact Nat.le_refl _ | (simp; done) | (simp; omega) | omega)))
  rintro W ⟨⟨c2, c6⟩, hB⟩
  have k0 := cell_regrown c2
  have k1 := cell_regrown c6
  have HB := Lib.hid hB
  have cR : ∀ d os, Calls Tryz.prog 95 #[.string ⟨#[114]⟩, .int .i64 x.b] (grow (redrawn W d) os) fun e w'' => e = .returned (.string r) ∧ ∃ p : Regrown, w'' = grow (redrawn W p.d) p.os := fun d os => Calls.regrown_of (hr.out _ (HE.out _ (hB.trans ((below_regrown W d os).mono hB.size))))
  have cH : ∀ d os, Calls Tryz.prog 112 #[.int .u32 i] (grow (redrawn W d) os) fun e w'' => e = .returned (.string h) ∧ ∃ p : Regrown, w'' = grow (redrawn W p.d) p.os := fun d os => Calls.regrown_of (hh.out _ (HE.out _ (hB.trans ((below_regrown W d os).mono hB.size))))
  have n1 : ¬ 9223372036854775807 < 1 + r.size := by omega
  have n2 : ¬ 9223372036854775807 < 1 + r.size + 1 := by omega
  have n3 : ¬ 9223372036854775807 < 1 + r.size + 1 + h.size := by omega
  have n4 : ¬ 9223372036854775807 < 1 + r.size + 1 + h.size + 1 := by omega
  clear c2 c6 hB
  refine wp_region_quiet_below mixed (by kernel_rfl) ?_
  repeat (quiet_step (first | exact cR _ _ | exact cH _ _))
  refine wpQuiet_nil ?_
  intro _ hw'
  obtain ⟨⟨dq, osq⟩, hw''⟩ := hw'
  subst hw''
  clear cR cH k0 k1
  go_wp2
  go_ret
  exact ⟨by rw [← GT.out]; rfl, HB.out.trans ((below_regrown W dq osq).mono HB.out.size)⟩

theorem opText_m (x : Insn) : opText 109 x = 91 :: (114 :: Lib.itoa x.b) ++ (if 0 < x.k then [43] else []) ++ (if x.k = 0 then [] else Lib.itoa x.k) ++ [93] := by simp [opText]
theorem ba4 (r h t : List UInt8) : (⟨#[91]⟩ ++ ⟨r.toArray⟩ ++ ⟨t.toArray⟩ ++ ⟨h.toArray⟩ ++ ⟨#[93]⟩ : ByteArray) = ⟨(91 :: r ++ t ++ h ++ [93]).toArray⟩ := by
  apply ByteArray.ext; simp
theorem ba3 (r h : List UInt8) : (⟨#[91]⟩ ++ ⟨r.toArray⟩ ++ ⟨h.toArray⟩ ++ ⟨#[93]⟩ : ByteArray) = ⟨(91 :: r ++ h ++ [93]).toArray⟩ := by
  apply ByteArray.ext; simp
theorem ba2 (r : List UInt8) : (⟨#[91]⟩ ++ ⟨r.toArray⟩ ++ ⟨#[93]⟩ : ByteArray) = ⟨(91 :: r ++ [93]).toArray⟩ := by
  apply ByteArray.ext; simp
set_option maxRecDepth 100000 in
set_option maxHeartbeats 2000000 in
theorem wr114 (x : Insn) (hi : x.In) (w : World) (he : Env w) : Calls Tryz.prog 114 #[.agg x.cs] w (TextPost w (opText 109 x)) := by
  have HE := below_env he
  have hl1 := Lib.itoa_length_le x.b hi.b.1 hi.b.2
  have hl2 := Lib.itoa_length_le x.k hi.k.1 hi.k.2
  have HT := opText_m x
  have hr := fun W h => regText_any [114] (by decide) x.b hi.b.1 hi.b.2 W h
  have hh := fun W h => itoa_any x.k hi.k.1 hi.k.2 W h
  rw [HT]
  unfold Insn.cs
  clear he hi HT
  generalize x.k = k at *
  rw [show [114] ++ Lib.itoa x.b = 114 :: Lib.itoa x.b from rfl] at hr
  have hl1 : (114 :: Lib.itoa x.b).length ≤ 22 := by simp; omega
  generalize (114 :: Lib.itoa x.b) = r at *
  generalize Lib.itoa k = t at *
  have g1 := ba_size r
  have g2 := ba_size t
  have GT2 : Hid ((⟨#[91]⟩ ++ ⟨r.toArray⟩ ++ ⟨#[93]⟩ : ByteArray) = ⟨(91 :: r ++ [93]).toArray⟩) := ba2 r
  have GT3 : Hid ((⟨#[91]⟩ ++ ⟨r.toArray⟩ ++ ⟨t.toArray⟩ ++ ⟨#[93]⟩ : ByteArray) = ⟨(91 :: r ++ t ++ [93]).toArray⟩) := ba3 r t
  have GT4 : Hid ((⟨#[91]⟩ ++ ⟨r.toArray⟩ ++ ⟨#[43]⟩ ++ ⟨t.toArray⟩ ++ ⟨#[93]⟩ : ByteArray) = ⟨(91 :: r ++ [43] ++ t ++ [93]).toArray⟩) := ba4 r t [43]
  replace hr := Lib.hid hr
  replace hh := Lib.hid hh
  replace HE := Lib.hid HE
  generalize (⟨r.toArray⟩ : ByteArray) = rb at *
  generalize (⟨t.toArray⟩ : ByteArray) = tb at *
  have n0 : ¬ 9223372036854775807 < 1 + rb.size := by omega
  have n1 : ¬ 9223372036854775807 < 1 + rb.size + 1 := by omega
  have n2 : ¬ 9223372036854775807 < 1 + rb.size + tb.size := by omega
  have n3 : ¬ 9223372036854775807 < 1 + rb.size + 1 + tb.size := by omega
  have n4 : ¬ 9223372036854775807 < 1 + rb.size + tb.size + 1 := by omega
  have n5 : ¬ 9223372036854775807 < 1 + rb.size + 1 + tb.size + 1 := by omega
  clear g1 g2 hl1 hl2
  by_cases h0 : k = 0
  · subst h0
    rw [show (91 :: r ++ (if (0 : Int) < 0 then [43] else []) ++ (if (0 : Int) = 0 then [] else t) ++ [93]) = 91 :: r ++ [93] by simp]
    generalize (91 :: r ++ [93]) = out at *
    go_enter Tryz.func114, Tryz.ntmps114
    go_wp2_with (go_at_call 95; refine (hr.out _ (HE.out _ (by (repeat (first | exact Below.refl _ _ | assumption | refine Below.drew ?_ | refine Below.alloc ?_ (by first | exact Nat.le_refl _ | (simp; done) | (simp; omega)) _ | refine Below.call ?_ (by assumption) (by first | exact Nat.le_refl _ | (simp; done) | (simp; omega) | omega)))))).mono ?_; rintro e w1 ⟨rfl, hb⟩; obtain ⟨hc1, hf1⟩ := bcell hb; have hz1 : w.heap.size ≤ w1.heap.size := by { have := hb.size; simp at this; omega })
    go_ret
    exact ⟨by rw [← GT2.out]; rfl, by (repeat (first | exact Below.refl _ _ | assumption | refine Below.drew ?_ | refine Below.alloc ?_ (by first | exact Nat.le_refl _ | (simp; done) | (simp; omega)) _ | refine Below.call ?_ (by assumption) (by first | exact Nat.le_refl _ | (simp; done) | (simp; omega) | omega)))⟩
  · by_cases h1 : 0 < k
    · rw [if_neg h0, if_pos h1]
      generalize (91 :: r ++ [43] ++ t ++ [93]) = out at *
      have hk : (k != 0) = true := by simpa using h0
      clear h0
      go_enter Tryz.func114, Tryz.ntmps114
      go_wp2_with (first
        | (go_at_call 95; refine (hr.out _ (HE.out _ (by (repeat (first | exact Below.refl _ _ | assumption | refine Below.drew ?_ | refine Below.alloc ?_ (by first | exact Nat.le_refl _ | (simp; done) | (simp; omega)) _ | refine Below.call ?_ (by assumption) (by first | exact Nat.le_refl _ | (simp; done) | (simp; omega) | omega)))))).mono ?_; rintro e w1 ⟨rfl, hb⟩; obtain ⟨hc1, hf1⟩ := bcell hb; have hz1 : w.heap.size ≤ w1.heap.size := by { have := hb.size; simp at this; omega })
        | (go_at_call 108; refine (hh.out _ (HE.out _ (by (repeat (first | exact Below.refl _ _ | assumption | refine Below.drew ?_ | refine Below.alloc ?_ (by first | exact Nat.le_refl _ | (simp; done) | (simp; omega)) _ | refine Below.call ?_ (by assumption) (by first | exact Nat.le_refl _ | (simp; done) | (simp; omega) | omega)))))).mono ?_; rintro e w2 ⟨rfl, hb2⟩))
      go_ret
      exact ⟨by rw [← GT4.out]; rfl, by (repeat (first | exact Below.refl _ _ | assumption | refine Below.drew ?_ | refine Below.alloc ?_ (by first | exact Nat.le_refl _ | (simp; done) | (simp; omega)) _ | refine Below.call ?_ (by assumption) (by first | exact Nat.le_refl _ | (simp; done) | (simp; omega) | omega)))⟩
    · rw [if_neg h0, if_neg h1, List.append_nil]
      generalize (91 :: r ++ t ++ [93]) = out at *
      have hk : (k != 0) = true := by simpa using h0
      clear h0
      go_enter Tryz.func114, Tryz.ntmps114
      go_wp2_with (first
        | (go_at_call 95; refine (hr.out _ (HE.out _ (by (repeat (first | exact Below.refl _ _ | assumption | refine Below.drew ?_ | refine Below.alloc ?_ (by first | exact Nat.le_refl _ | (simp; done) | (simp; omega)) _ | refine Below.call ?_ (by assumption) (by first | exact Nat.le_refl _ | (simp; done) | (simp; omega) | omega)))))).mono ?_; rintro e w1 ⟨rfl, hb⟩; obtain ⟨hc1, hf1⟩ := bcell hb; have hz1 : w.heap.size ≤ w1.heap.size := by { have := hb.size; simp at this; omega })
        | (go_at_call 108; refine (hh.out _ (HE.out _ (by (repeat (first | exact Below.refl _ _ | assumption | refine Below.drew ?_ | refine Below.alloc ?_ (by first | exact Nat.le_refl _ | (simp; done) | (simp; omega)) _ | refine Below.call ?_ (by assumption) (by first | exact Nat.le_refl _ | (simp; done) | (simp; omega) | omega)))))).mono ?_; rintro e w2 ⟨rfl, hb2⟩))
      go_ret
      exact ⟨by rw [← GT3.out]; rfl, by (repeat (first | exact Below.refl _ _ | assumption | refine Below.drew ?_ | refine Below.alloc ?_ (by first | exact Nat.le_refl _ | (simp; done) | (simp; omega)) _ | refine Below.call ?_ (by assumption) (by first | exact Nat.le_refl _ | (simp; done) | (simp; omega) | omega)))⟩
end Go.Proofs.YtdkclapinedgiaaGreatDoor
