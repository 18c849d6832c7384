/- Contract: Decode of package isa, for every slice of bytes. -/
import Derived.Test.YtdkclapinedgiaaGreatDoorC6
import Derived.Test.YtdkclapinedgiaaGreatDoorC6b
namespace Go.Proofs.YtdkclapinedgiaaGreatDoor
open Go.RowKit

def Bytes (l : List Int) : Prop := ∀ x ∈ l, 0 ≤ x ∧ x < 256
def u8s (l : List Int) : List Value := l.map (.int .u8)

theorem decode_any (A : Option Addr) (n c : Nat) (l : List Int) (w : World) (hr : Reads w w.heap.size 1 A n (u8s l)) (hl : Bytes l) :
    Calls Tryz.prog 29 #[.slice A n c] w (DecPost w l) := by
  have hlen : l.length = n := by have := hr.1; simpa [u8s] using this
  by_cases hn : n < 4
  · exact decode_few A n c l w hn hlen
  obtain ⟨b, off, rfl, hb, hc⟩ := hr.plain (by omega) (by decide)
  match l, hlen with
  | x0 :: x1 :: x2 :: x3 :: r, hlen =>
    have g0 := hc 0 (.int .u8 x0) rfl
    have g1 := hc 1 (.int .u8 x1) rfl
    have g2 := hc 2 (.int .u8 x2) rfl
    have g3 := hc 3 (.int .u8 x3) rfl
    have h0 := hl x0 (by simp)
    have h1 := hl x1 (by simp)
    have h2 := hl x2 (by simp)
    have h3 := hl x3 (by simp)
    by_cases hx : x0 < 64
    · exact decode_short b off n c x0 x1 x2 x3 r w (by omega) ⟨h0.1, hx⟩ h1 h2 h3 g0 g1 g2 g3 hb
    by_cases hn8 : n < 8
    · exact decode_long_few b off n c x0 x1 x2 x3 r w (by omega) hn8 (by simpa using hlen) ⟨by omega, h0.2⟩ h1 h2 h3 g0 g1 g2 g3 hb
    match r, hlen with
    | y0 :: y1 :: y2 :: y3 :: r, hlen =>
      exact decode_long b off n c x0 x1 x2 x3 y0 y1 y2 y3 r w (by omega) ⟨by omega, h0.2⟩ h1 h2 h3 (hl y0 (by simp)) (hl y1 (by simp)) (hl y2 (by simp)) (hl y3 (by simp)) g0 g1 g2 g3
        (hc 4 (.int .u8 y0) rfl) (hc 5 (.int .u8 y1) rfl) (hc 6 (.int .u8 y2) rfl) (hc 7 (.int .u8 y3) rfl) hb
    | [], h => simp at h; omega
    | [_], h => simp at h; omega
    | [_, _], h => simp at h; omega
    | [_, _, _], h => simp at h; omega
  | [], h => simp at h; omega
  | [_], h => simp at h; omega
  | [_, _], h => simp at h; omega
  | [_, _, _], h => simp at h; omega
end Go.Proofs.YtdkclapinedgiaaGreatDoor
