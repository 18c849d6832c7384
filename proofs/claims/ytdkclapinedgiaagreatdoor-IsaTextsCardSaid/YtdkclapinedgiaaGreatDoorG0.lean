/- What the library's variables hold, as the walks want it; words on strings. -/
import Derived.Test.YtdkclapinedgiaaGreatDoorShelf
import Derived.Test.YtdkclapinedgiaaGreatDoorWords3
import Derived.Lib.AppendIntMem
import Derived.Lib.Hide
namespace Go.Proofs.YtdkclapinedgiaaGreatDoor
open Go.RowKit

/-- The library's variables that the walks read. -/
structure Env (w : World) : Prop where
  size : 12 ≤ w.heap.size
  maxLen : ∃ m, w.cell? ⟨2, 0, none⟩ = some (.int .i64 m)
  space : Lib.TabIs Tryz.prog w "strings.asciiSpace" .u8 Lib.asciiSpaceTab
  pow : Lib.TabIs Tryz.prog w "internal/strconv.uint64pow10" .u64 Lib.pow10Tab
  bruijn : w.cell? ⟨11, 15, none⟩ = some (.int .u8 4)
  synt : ∃ te pe, w.cell? ⟨8, 0, none⟩ = some (.iface te pe)
  rng : ∃ te pe, w.cell? ⟨9, 0, none⟩ = some (.iface te pe)

theorem gSpace : Tryz.prog.globalNamed "strings.asciiSpace" = some 3 := by kernel_rfl
theorem gPow : Tryz.prog.globalNamed "internal/strconv.uint64pow10" = some 5 := by kernel_rfl

theorem TabIs_below {n : String} {g : Nat} {k : IntKind} {zs : List Int} {w w' : World} (hg : Tryz.prog.globalNamed n = some g) (h : Lib.TabIs Tryz.prog w n k zs) (hb : Below w.heap.size w w') : Lib.TabIs Tryz.prog w' n k zs := by
  unfold Lib.TabIs World.var? at h ⊢
  rw [hg] at h ⊢
  simp only [Option.bind_some] at h ⊢
  have hlt : g < w.heap.size := by
    rcases Nat.lt_or_ge g w.heap.size with h' | h'
    · exact h'
    · rw [Array.getElem?_eq_none h'] at h; cases h
  rw [hb.block g hlt]
  exact h

theorem Env.below {w w' : World} (h : Env w) (hb : Below w.heap.size w w') : Env w' where
  size := Nat.le_trans h.size hb.size
  maxLen := by obtain ⟨m, hm⟩ := h.maxLen; exact ⟨m, by rw [hb.cell (p := ⟨2, 0, none⟩) (by have := h.size; simp; omega)]; exact hm⟩
  space := TabIs_below gSpace h.space hb
  pow := TabIs_below gPow h.pow hb
  bruijn := by rw [hb.cell (p := ⟨11, 15, none⟩) (by have := h.size; simp; omega)]; exact h.bruijn
  synt := by obtain ⟨m, x, hm⟩ := h.synt; exact ⟨m, x, by rw [hb.cell (p := ⟨8, 0, none⟩) (by have := h.size; simp; omega)]; exact hm⟩
  rng := by obtain ⟨m, x, hm⟩ := h.rng; exact ⟨m, x, by rw [hb.cell (p := ⟨9, 0, none⟩) (by have := h.size; simp; omega)]; exact hm⟩

theorem ba_app (a b : List UInt8) : (⟨a.toArray⟩ : ByteArray) ++ ⟨b.toArray⟩ = ⟨(a ++ b).toArray⟩ := by
  apply ByteArray.ext; simp

/-- strings.Fields at ASCII. -/
theorem fields_ascii (l : List UInt8) (r : List (List UInt8)) (hr : Lib.fields l = r) (hl : l.length < 1000) (ha : ∀ b ∈ l, b.toNat < 128) (w : World) (he : Env w) :
    Calls Tryz.prog 137 #[.string ⟨l.toArray⟩] w fun e w' => e = .returned (.slice (some ⟨w.heap.size, 0, none⟩) r.length r.length) ∧ w' = w.alloc (.cells (r.map fun l => Value.string ⟨l.toArray⟩).toArray 9) := by
  have h := Tryz.strings_Fields_laid ⟨l.toArray⟩ w (by simp [ByteArray.size]; omega) (by intro j b hb; exact ha b (by simpa using List.mem_of_getElem? hb)) he.space
  rw [show (⟨l.toArray⟩ : ByteArray).data.toList = l by simp, hr] at h
  exact h
/-- strconv.Itoa. -/
theorem itoa_any (n : Int) (h0 : -9223372036854775808 ≤ n) (h1 : n ≤ 9223372036854775807) (w : World) (he : Env w) :
    Calls Tryz.prog 108 #[.int .i64 n] w fun e w' => e = .returned (.string ⟨(Lib.itoa n).toArray⟩) ∧ Below w.heap.size w w' := by
  refine (Tryz.strconv_Itoa n h0 h1 w he.pow).mono ?_
  rintro e w' ⟨rfl, k, os, rfl⟩
  exact ⟨rfl, Lib.below_grow _ _ (Nat.le_refl _) _ _⟩
end Go.Proofs.YtdkclapinedgiaaGreatDoor
