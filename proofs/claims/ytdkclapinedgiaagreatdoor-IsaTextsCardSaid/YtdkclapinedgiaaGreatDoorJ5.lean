/- Plain laws of names and texts: the mnemonics; how an instruction's text is made up. No program in sight. -/
/- Contract: IsaNames of the law's package (function 11): true, whatever the input. -/
import Derived.Test.YtdkclapinedgiaaGreatDoorG6
import Derived.Lib.CountLaws
import Derived.Test.YtdkclapinedgiaaGreatDoorJ3

namespace Go.Proofs.YtdkclapinedgiaaGreatDoor
open Go.RowKit

/-- What is true of an operation's mnemonic. -/
def NameIs (k : Nat) : Prop := (opnd (k : Int)).2 = true → nameOf k ≠ [] ∧ opOf (nameOf k) = ((k : Int), true) ∧ Lib.indexByte (nameOf k) 32 = -1 ∧ Lib.indexByte (nameOf k) 44 = -1
instance (k : Nat) : Decidable (NameIs k) := by unfold NameIs; infer_instance
set_option maxRecDepth 100000 in
theorem names_are : ∀ k, k < 73 → NameIs k := by decide +kernel
theorem name_is {op : Int} (h : (opnd op).2 = true) : nameOf op ≠ [] ∧ opOf (nameOf op) = (op, true) ∧ Lib.indexByte (nameOf op) 32 = -1 ∧ Lib.indexByte (nameOf op) 44 = -1 := by
  have ho := opnd_op op h
  obtain ⟨k, rfl⟩ : ∃ k : Nat, op = k := ⟨op.toNat, by omega⟩
  exact names_are k (by omega) h
theorem name_inj {p q : Int} (hp : (opnd p).2 = true) (hq : (opnd q).2 = true) : nameOf p = nameOf q ↔ p = q := by
  constructor
  · intro h
    have h1 := (name_is hp).2.1
    rw [h, (name_is hq).2.1] at h1
    exact (congrArg Prod.fst h1).symm
  · rintro rfl; rfl

theorem digit_no : ∀ d, d < 10 → UInt8.ofNat (48 + d) ≠ 44 := by decide
theorem hexDig_no : ∀ d, d < 16 → hexDig d ≠ 44 := by decide
theorem dec_no (n : Nat) : ∀ b ∈ Lib.decDigits n, b ≠ 44 := by
  induction n using Nat.strongRecOn with
  | ind n ih =>
    intro b hb
    rw [Lib.decDigits] at hb
    split at hb
    · rename_i h
      simp only [List.mem_singleton] at hb
      subst hb
      exact digit_no n h
    · rename_i h
      rcases List.mem_append.1 hb with h1 | h1
      · exact ih (n / 10) (by omega) b h1
      · simp only [List.mem_singleton] at h1
        subst h1
        exact digit_no (n % 10) (by omega)
theorem itoa_no (n : Int) : ∀ b ∈ Lib.itoa n, b ≠ 44 := by
  intro b hb
  unfold Lib.itoa at hb
  split at hb
  · rcases List.mem_cons.1 hb with rfl | h
    · decide
    · exact dec_no _ b h
  · exact dec_no _ b hb
theorem hexGo_no : ∀ (f n : Nat) (acc : List UInt8), (∀ b ∈ acc, b ≠ 44) → ∀ b ∈ hexGo f n acc, b ≠ 44
  | 0, _, _, h => h
  | f + 1, n, acc, h => by
    unfold hexGo
    split
    · rename_i hn
      intro b hb
      rcases List.mem_cons.1 hb with rfl | h1
      · exact hexDig_no n hn
      · exact h b h1
    · refine hexGo_no f (n / 16) (hexDig (n % 16) :: acc) ?_
      intro b hb
      rcases List.mem_cons.1 hb with rfl | h1
      · exact hexDig_no _ (by omega)
      · exact h b h1
theorem hexL_no (n : Nat) : ∀ b ∈ hexL n, b ≠ 44 := hexGo_no 8 n [] (fun _ h => by cases h)
theorem tab_no (t : List (List UInt8)) (h : ∀ l ∈ t, ∀ b ∈ l, b ≠ 44) (n : Nat) : ∀ b ∈ t.getD n [], b ≠ 44 := by
  rw [List.getD_eq_getElem?_getD]
  cases e : t[n]? with
  | none => intro b hb; cases hb
  | some l => exact h l (List.mem_of_getElem? e)
theorem cons_no {c : UInt8} {l : List UInt8} (hc : c ≠ 44) (h : ∀ b ∈ l, b ≠ 44) : ∀ b ∈ c :: l, b ≠ 44 := by
  intro b hb
  rcases List.mem_cons.1 hb with rfl | h1
  · exact hc
  · exact h b h1
theorem app_no {k l : List UInt8} (hk : ∀ b ∈ k, b ≠ 44) (h : ∀ b ∈ l, b ≠ 44) : ∀ b ∈ k ++ l, b ≠ 44 := by
  intro b hb
  rcases List.mem_append.1 hb with h1 | h1
  · exact hk b h1
  · exact h b h1
theorem opText_no (c : UInt8) (x : Insn) : ∀ b ∈ opText c x, b ≠ 44 := by
  have nil : ∀ b ∈ ([] : List UInt8), b ≠ 44 := fun _ h => by cases h
  unfold opText
  refine ite_P (P := fun l : List UInt8 => ∀ b ∈ l, b ≠ 44) (cons_no (by decide) (itoa_no _)) ?_
  refine ite_P (P := fun l : List UInt8 => ∀ b ∈ l, b ≠ 44) (cons_no (by decide) (itoa_no _)) ?_
  refine ite_P (P := fun l : List UInt8 => ∀ b ∈ l, b ≠ 44) (cons_no (by decide) (itoa_no _)) ?_
  refine ite_P (P := fun l : List UInt8 => ∀ b ∈ l, b ≠ 44) (cons_no (by decide) (itoa_no _)) ?_
  refine ite_P (P := fun l : List UInt8 => ∀ b ∈ l, b ≠ 44) (cons_no (by decide) (itoa_no _)) ?_
  refine ite_P (P := fun l : List UInt8 => ∀ b ∈ l, b ≠ 44) (cons_no (by decide) (itoa_no _)) ?_
  refine ite_P (P := fun l : List UInt8 => ∀ b ∈ l, b ≠ 44) (tab_no _ (by decide) _) ?_
  refine ite_P (P := fun l : List UInt8 => ∀ b ∈ l, b ≠ 44) (tab_no _ (by decide) _) ?_
  refine ite_P (P := fun l : List UInt8 => ∀ b ∈ l, b ≠ 44) (tab_no _ (by decide) _) ?_
  refine ite_P (P := fun l : List UInt8 => ∀ b ∈ l, b ≠ 44) (itoa_no _) ?_
  refine ite_P (P := fun l : List UInt8 => ∀ b ∈ l, b ≠ 44) (itoa_no _) ?_
  refine ite_P (P := fun l : List UInt8 => ∀ b ∈ l, b ≠ 44) (cons_no (by decide) (cons_no (by decide) (hexL_no _))) ?_
  refine ite_P (P := fun l : List UInt8 => ∀ b ∈ l, b ≠ 44) (app_no (app_no (app_no (app_no (by decide) (itoa_no _)) (by decide)) (hexL_no _)) (by decide)) ?_
  exact app_no (app_no (app_no (app_no (by decide) (itoa_no _)) (ite_P (P := fun l : List UInt8 => ∀ b ∈ l, b ≠ 44) (by decide) nil)) (ite_P (P := fun l : List UInt8 => ∀ b ∈ l, b ≠ 44) nil (itoa_no _))) (by decide)

/-- Texts with a comma and a blank between them. -/
def joinT : List (List UInt8) → List UInt8
  | [] => []
  | [t] => t
  | t :: u :: r => t ++ 44 :: 32 :: joinT (u :: r)
theorem joinT_snoc (t u : List UInt8) (r : List (List UInt8)) : joinT ((u :: r) ++ [t]) = joinT (u :: r) ++ [44, 32] ++ t := by
  induction r generalizing u with
  | nil => simp [joinT]
  | cons v r ih =>
    show u ++ 44 :: 32 :: joinT ((v :: r) ++ [t]) = u ++ 44 :: 32 :: joinT (v :: r) ++ [44, 32] ++ t
    rw [ih]
    simp
theorem index_skip (a b : List UInt8) (h : ∀ c ∈ a, c ≠ 44) : Lib.index (a ++ 44 :: 32 :: b) [44, 32] = a.length := by
  induction a with
  | nil => rfl
  | cons c a ih =>
    have hc : (44 : UInt8) ≠ c := fun e => h c (by simp) e.symm
    have i := ih (fun d hd => h d (by simp [hd]))
    show (if ([44, 32] : List UInt8).isPrefixOf (c :: (a ++ 44 :: 32 :: b)) then 0 else if Lib.index (a ++ 44 :: 32 :: b) [44, 32] == -1 then -1 else Lib.index (a ++ 44 :: 32 :: b) [44, 32] + 1) = _
    rw [i, if_neg (by simp [List.isPrefixOf, hc]), if_neg (by simp <;> omega)]
    simp
theorem index_none_ (a : List UInt8) (h : ∀ c ∈ a, c ≠ 44) : Lib.index a [44, 32] = -1 := by
  induction a with
  | nil => rfl
  | cons c a ih =>
    have hc : (44 : UInt8) ≠ c := fun e => h c (by simp) e.symm
    have i := ih (fun d hd => h d (by simp [hd]))
    show (if ([44, 32] : List UInt8).isPrefixOf (c :: a) then 0 else if Lib.index a [44, 32] == -1 then -1 else Lib.index a [44, 32] + 1) = _
    rw [i, if_neg (by simp [List.isPrefixOf, hc])]
    rfl
theorem count_join : ∀ (t : List UInt8) (r : List (List UInt8)), (∀ u ∈ t :: r, ∀ c ∈ u, c ≠ 44) → Lib.count (joinT (t :: r)) [44, 32] = r.length
  | t, [], h => Lib.count_miss (index_none_ t (h t (by simp)))
  | t, u :: r, h => by
    show Lib.count (t ++ 44 :: 32 :: joinT (u :: r)) [44, 32] = _
    rw [Lib.count_hit (by decide) (index_skip t _ (h t (by simp)))]
    have e : (t ++ 44 :: 32 :: joinT (u :: r)).drop (t.length + ([44, 32] : List UInt8).length) = joinT (u :: r) := by simp
    rw [e, count_join u r (fun v hv => h v (by simp [hv]))]
    simp [Nat.add_comm]

def piecesOf (x : Insn) (l : List UInt8) (k : Nat) : List (List UInt8) := (List.range k).map fun j => opText (l.getD j 0) x
theorem piecesOf_succ (x : Insn) (l : List UInt8) (k : Nat) : piecesOf x l (k + 1) = piecesOf x l k ++ [opText (l.getD k 0) x] := by
  simp [piecesOf, List.range_succ]
theorem pieces_first (x : Insn) (l : List UInt8) (k : Nat) : ∃ r, piecesOf x l (k + 1) = opText (l.getD 0 0) x :: r := by
  induction k with
  | zero => exact ⟨[], rfl⟩
  | succ k ih =>
    obtain ⟨r, h⟩ := ih
    exact ⟨_, by rw [piecesOf_succ, h]; rfl⟩
theorem textTo_is (x : Insn) (l : List UInt8) (k : Nat) : textTo x l (k + 1) = nameOf x.op ++ 32 :: joinT (piecesOf x l (k + 1)) := by
  induction k with
  | zero =>
    show (if (0 : Nat) = 0 then nameOf x.op ++ [32] else _) ++ opText (l.getD 0 0) x = _
    rw [if_pos rfl]
    simp [piecesOf, joinT]
  | succ k ih =>
    have e : textTo x l (k + 1 + 1) = (if k + 1 = 0 then nameOf x.op ++ [32] else textTo x l (k + 1) ++ [44, 32]) ++ opText (l.getD (k + 1) 0) x := rfl
    rw [e, if_neg (by omega), ih, piecesOf_succ x l (k + 1)]
    obtain ⟨r, hr⟩ := pieces_first x l k
    rw [hr, joinT_snoc]
    simp
/-- How an instruction's text is made up. -/
theorem text_made (x : Insn) : ((opnd x.op).1.length = 0 → textL x = nameOf x.op) ∧
    (0 < (opnd x.op).1.length → ∃ rest, textL x = nameOf x.op ++ rest ∧ Lib.hasPrefix rest [32] = true ∧ Lib.count rest [44, 32] = (opnd x.op).1.length - 1) := by
  unfold textL
  generalize (opnd x.op).1 = l
  constructor
  · intro h; rw [h]; rfl
  · intro h
    obtain ⟨k, hk⟩ : ∃ k, l.length = k + 1 := ⟨l.length - 1, by omega⟩
    rw [hk, textTo_is]
    refine ⟨_, rfl, by simp [Lib.hasPrefix, List.isPrefixOf], ?_⟩
    obtain ⟨r, hr⟩ := pieces_first x l k
    have hl : r.length = k := by
      have h1 := congrArg List.length hr
      simp [piecesOf] at h1
      omega
    have hno : ∀ u ∈ piecesOf x l (k + 1), ∀ c ∈ u, c ≠ 44 := by
      intro u hu
      unfold piecesOf at hu
      obtain ⟨j, _, rfl⟩ := List.mem_map.1 hu
      exact opText_no _ x
    have ej : 32 :: joinT (opText (l.getD 0 0) x :: r) = joinT ((32 :: opText (l.getD 0 0) x) :: r) := by cases r <;> rfl
    rw [hr] at hno ⊢
    rw [ej, count_join]
    · omega
    · intro u hu
      rcases List.mem_cons.1 hu with rfl | h1
      · exact cons_no (by decide) (hno _ (by simp))
      · exact hno u (by simp [h1])
end Go.Proofs.YtdkclapinedgiaaGreatDoor

namespace Go.Proofs.YtdkclapinedgiaaGreatDoor
open Go.RowKit

/-- What a function answers in every world that goes back to w. -/
def Tells (w : World) (f : Nat) (args : Array Value) (v : Value) : Prop := ∀ W, Below w.heap.size w W → Calls Tryz.prog f args W fun e w' => e = .returned v ∧ Below W.heap.size W w'

set_option maxRecDepth 100000 in
set_option maxHeartbeats 40000000 in
theorem names_walk (x : Insn) (op other : Int) (s t nm all rest : ByteArray) (a b : Bool) (er : Int) (n m : Nat) (w : World)
    (hsane : Tells w 15 #[] (.bool true)) (hN1 : Tells w 38 #[.int .i64 op] (.tuple #[.string s, .bool a])) (hN2 : Tells w 38 #[.int .i64 other] (.tuple #[.string t, .bool b]))
    (ha : a = true → Tells w 40 #[.string s] (.tuple #[.int .i64 op, .bool true]) ∧ s.toList.isEmpty = false ∧ Tells w 47 #[.string s, .string ⟨#[32]⟩] (.bool false) ∧
      Tells w 47 #[.string s, .string ⟨#[44]⟩] (.bool false) ∧ (b = true → (s.toList == t.toList) = (op == other)))
    (hF : ∀ W, Calls Tryz.prog 42 #[.int .i64 op] W fun e w' => (∃ A k, e = .returned (.tuple #[.slice A n k, .bool a])) ∧ Below W.heap.size W w')
    (hT : Tells w 16 #[.agg x.cs] (.tuple #[.string all, .int .i64 er]))
    (he : er = 6 ∧ all = ⟨#[]⟩ ∨ er = 0 ∧ Tells w 38 #[.int .i64 x.op] (.tuple #[.string nm, .bool true]) ∧
      (∀ W, Calls Tryz.prog 42 #[.int .i64 x.op] W fun e w' => (∃ A k, e = .returned (.tuple #[.slice A m k, .bool true])) ∧ Below W.heap.size W w') ∧
      Tells w 48 #[.string all, .string nm] (.tuple #[.string rest, .bool true]) ∧
      (m = 0 ∧ rest.toList.isEmpty = true ∨ 0 < m ∧ Tells w 49 #[.string rest, .string ⟨#[32]⟩] (.bool true) ∧ Tells w 50 #[.string rest, .string ⟨#[44, 32]⟩] (.int .i64 ((m : Int) - 1))))
    (hm : m ≤ 5) :
    Calls Tryz.prog 11 #[.agg x.cs, .int .i64 op, .int .i64 other] w fun e w' => e = .returned (.bool true) ∧ Below w.heap.size w w' := by
  have HS := Lib.hid hsane
  have H1 := Lib.hid hN1
  have H2 := Lib.hid hN2
  have HA := Lib.hid ha
  have HF := Lib.hid hF
  have HT := Lib.hid hT
  have HE := Lib.hid he
  have HM := Lib.hid hm
  clear hsane hN1 hN2 ha hF hT he hm
  unfold Tells at HS H1 H2 HA HT HE
  unfold Insn.cs at HT ⊢
  go_enter Tryz.func11, Tryz.ntmps11
  go_wp2_with fail
  refine (HS.out _ ((Below.refl _ w).alloc (Nat.le_refl _) _)).mono ?_
  rintro e w1 ⟨rfl, hb⟩
  have H : Hid (Una w x w1) := Una.step ⟨(Below.refl _ w).alloc (Nat.le_refl _) _, Blk.new w 24 x.cs⟩ hb
  clear hb HS
  go_wp2_with fail
  refine (H1.out _ H.out.below).mono ?_
  rintro e w2 ⟨rfl, hb⟩
  replace H := Lib.hid (H.out.step hb)
  clear hb H1
  go_wp2_with fail
  refine (H2.out _ H.out.below).mono ?_
  rintro e w3 ⟨rfl, hb⟩
  replace H := Lib.hid (H.out.step hb)
  clear hb H2
  rcases a with _ | _
  · clear HA
    go_wp2_with fail
    refine (HF.out _).mono ?_
    rintro e w5 ⟨⟨A5, k5, rfl⟩, hb⟩
    replace H := Lib.hid (H.out.step hb)
    clear hb HF
    obtain ⟨a0, a1, a2, a3, a4, a5, a6, a7, a8, a9, a10, a11, a12, a13⟩ := H.out.bx.facts7
    clear a7 a8 a9 a10 a11 a12 a13
    go_wp2_with fail
    refine (HT.out _ H.out.below).mono ?_
    rintro e w6 ⟨rfl, hb⟩
    replace H := Lib.hid (H.out.step hb)
    clear hb HT a0 a1 a2 a3 a4 a5 a6
    rcases HE.out with ⟨rfl, rfl⟩ | ⟨rfl, hn, hf, hc, hm⟩
    · clear HE
      go_wp2_with fail
      go_ret
      exact ⟨rfl, H.out.below⟩
    · have Hn := Lib.hid hn
      have Hf := Lib.hid hf
      have Hc := Lib.hid hc
      have Hm := Lib.hid hm
      clear hn hf hc hm HE
      obtain ⟨a0, a1, a2, a3, a4, a5, a6, a7, a8, a9, a10, a11, a12, a13⟩ := H.out.bx.facts7
      clear a1 a2 a3 a4 a5 a6 a7 a8 a9 a10 a11 a12 a13
      go_wp2_with fail
      refine (Hn.out _ H.out.below).mono ?_
      rintro e w7 ⟨rfl, hb⟩
      replace H := Lib.hid (H.out.step hb)
      clear hb Hn a0
      obtain ⟨a0, a1, a2, a3, a4, a5, a6, a7, a8, a9, a10, a11, a12, a13⟩ := H.out.bx.facts7
      clear a1 a2 a3 a4 a5 a6 a7 a8 a9 a10 a11 a12 a13
      go_wp2_with fail
      refine (Hf.out _).mono ?_
      rintro e w8 ⟨⟨A8, k8, rfl⟩, hb⟩
      replace H := Lib.hid (H.out.step hb)
      clear hb Hf a0
      go_wp2_with fail
      refine (Hc.out _ H.out.below).mono ?_
      rintro e w9 ⟨rfl, hb⟩
      replace H := Lib.hid (H.out.step hb)
      clear hb Hc
      rcases Hm.out with ⟨rfl, hr⟩ | ⟨hm0, hp, hcnt⟩
      · clear Hm
        go_wp2_with fail
        go_ret
        exact ⟨rfl, H.out.below⟩
      · have Hp := Lib.hid hp
        have Hq := Lib.hid hcnt
        have hz : ¬ (m : Int) = 0 := by omega
        have hw : wrap64 ((m : Int) - 1) = (m : Int) - 1 := by have := HM.out; unfold wrap64; omega
        clear hp hcnt Hm hm0
        go_wp2_with fail
        refine (Hp.out _ H.out.below).mono ?_
        rintro e wa ⟨rfl, hb⟩
        replace H := Lib.hid (H.out.step hb)
        clear hb Hp
        go_wp2_with fail
        refine (Hq.out _ H.out.below).mono ?_
        rintro e wb ⟨rfl, hb⟩
        replace H := Lib.hid (H.out.step hb)
        clear hb Hq
        go_wp2_with fail
        go_ret
        exact ⟨by simp [hw], H.out.below⟩
  · obtain ⟨h40, hs0, h47, h47', hst⟩ := HA.out rfl
    have H40 := Lib.hid h40
    have H47 := Lib.hid h47
    have H47' := Lib.hid h47'
    have HST := Lib.hid hst
    clear h40 h47 h47' hst HA
    go_wp2_with fail
    refine (H40.out _ H.out.below).mono ?_
    rintro e w4 ⟨rfl, hb⟩
    replace H := Lib.hid (H.out.step hb)
    clear hb H40
    go_wp2_with fail
    refine (H47.out _ H.out.below).mono ?_
    rintro e w4b ⟨rfl, hb⟩
    replace H := Lib.hid (H.out.step hb)
    clear hb H47
    go_wp2_with fail
    refine (H47'.out _ H.out.below).mono ?_
    rintro e w4c ⟨rfl, hb⟩
    replace H := Lib.hid (H.out.step hb)
    clear hb H47'
    rcases b with _ | _
    · clear HST
      go_wp2_with fail
      refine (HF.out _).mono ?_
      rintro e w5 ⟨⟨A5, k5, rfl⟩, hb⟩
      replace H := Lib.hid (H.out.step hb)
      clear hb HF
      obtain ⟨a0, a1, a2, a3, a4, a5, a6, a7, a8, a9, a10, a11, a12, a13⟩ := H.out.bx.facts7
      clear a7 a8 a9 a10 a11 a12 a13
      go_wp2_with fail
      refine (HT.out _ H.out.below).mono ?_
      rintro e w6 ⟨rfl, hb⟩
      replace H := Lib.hid (H.out.step hb)
      clear hb HT a0 a1 a2 a3 a4 a5 a6
      rcases HE.out with ⟨rfl, rfl⟩ | ⟨rfl, hn, hf, hc, hm⟩
      · clear HE
        go_wp2_with fail
        go_ret
        exact ⟨rfl, H.out.below⟩
      · have Hn := Lib.hid hn
        have Hf := Lib.hid hf
        have Hc := Lib.hid hc
        have Hm := Lib.hid hm
        clear hn hf hc hm HE
        obtain ⟨a0, a1, a2, a3, a4, a5, a6, a7, a8, a9, a10, a11, a12, a13⟩ := H.out.bx.facts7
        clear a1 a2 a3 a4 a5 a6 a7 a8 a9 a10 a11 a12 a13
        go_wp2_with fail
        refine (Hn.out _ H.out.below).mono ?_
        rintro e w7 ⟨rfl, hb⟩
        replace H := Lib.hid (H.out.step hb)
        clear hb Hn a0
        obtain ⟨a0, a1, a2, a3, a4, a5, a6, a7, a8, a9, a10, a11, a12, a13⟩ := H.out.bx.facts7
        clear a1 a2 a3 a4 a5 a6 a7 a8 a9 a10 a11 a12 a13
        go_wp2_with fail
        refine (Hf.out _).mono ?_
        rintro e w8 ⟨⟨A8, k8, rfl⟩, hb⟩
        replace H := Lib.hid (H.out.step hb)
        clear hb Hf a0
        go_wp2_with fail
        refine (Hc.out _ H.out.below).mono ?_
        rintro e w9 ⟨rfl, hb⟩
        replace H := Lib.hid (H.out.step hb)
        clear hb Hc
        rcases Hm.out with ⟨rfl, hr⟩ | ⟨hm0, hp, hcnt⟩
        · clear Hm
          go_wp2_with fail
          go_ret
          exact ⟨rfl, H.out.below⟩
        · have Hp := Lib.hid hp
          have Hq := Lib.hid hcnt
          have hz : ¬ (m : Int) = 0 := by omega
          have hw : wrap64 ((m : Int) - 1) = (m : Int) - 1 := by have := HM.out; unfold wrap64; omega
          clear hp hcnt Hm hm0
          go_wp2_with fail
          refine (Hp.out _ H.out.below).mono ?_
          rintro e wa ⟨rfl, hb⟩
          replace H := Lib.hid (H.out.step hb)
          clear hb Hp
          go_wp2_with fail
          refine (Hq.out _ H.out.below).mono ?_
          rintro e wb ⟨rfl, hb⟩
          replace H := Lib.hid (H.out.step hb)
          clear hb Hq
          go_wp2_with fail
          go_ret
          exact ⟨by simp [hw], H.out.below⟩
    · obtain ⟨q, hq⟩ : ∃ q, (op == other) = q := ⟨_, rfl⟩
      have hst := HST.out rfl
      rw [hq] at hst
      clear HST
      go_wp2_with fail
      clear hst hq
      refine (HF.out _).mono ?_
      rintro e w5 ⟨⟨A5, k5, rfl⟩, hb⟩
      replace H := Lib.hid (H.out.step hb)
      clear hb HF
      obtain ⟨a0, a1, a2, a3, a4, a5, a6, a7, a8, a9, a10, a11, a12, a13⟩ := H.out.bx.facts7
      clear a7 a8 a9 a10 a11 a12 a13
      go_wp2_with fail
      refine (HT.out _ H.out.below).mono ?_
      rintro e w6 ⟨rfl, hb⟩
      replace H := Lib.hid (H.out.step hb)
      clear hb HT a0 a1 a2 a3 a4 a5 a6
      rcases HE.out with ⟨rfl, rfl⟩ | ⟨rfl, hn, hf, hc, hm⟩
      · clear HE
        go_wp2_with fail
        go_ret
        exact ⟨rfl, H.out.below⟩
      · have Hn := Lib.hid hn
        have Hf := Lib.hid hf
        have Hc := Lib.hid hc
        have Hm := Lib.hid hm
        clear hn hf hc hm HE
        obtain ⟨a0, a1, a2, a3, a4, a5, a6, a7, a8, a9, a10, a11, a12, a13⟩ := H.out.bx.facts7
        clear a1 a2 a3 a4 a5 a6 a7 a8 a9 a10 a11 a12 a13
        go_wp2_with fail
        refine (Hn.out _ H.out.below).mono ?_
        rintro e w7 ⟨rfl, hb⟩
        replace H := Lib.hid (H.out.step hb)
        clear hb Hn a0
        obtain ⟨a0, a1, a2, a3, a4, a5, a6, a7, a8, a9, a10, a11, a12, a13⟩ := H.out.bx.facts7
        clear a1 a2 a3 a4 a5 a6 a7 a8 a9 a10 a11 a12 a13
        go_wp2_with fail
        refine (Hf.out _).mono ?_
        rintro e w8 ⟨⟨A8, k8, rfl⟩, hb⟩
        replace H := Lib.hid (H.out.step hb)
        clear hb Hf a0
        go_wp2_with fail
        refine (Hc.out _ H.out.below).mono ?_
        rintro e w9 ⟨rfl, hb⟩
        replace H := Lib.hid (H.out.step hb)
        clear hb Hc
        rcases Hm.out with ⟨rfl, hr⟩ | ⟨hm0, hp, hcnt⟩
        · clear Hm
          go_wp2_with fail
          go_ret
          exact ⟨rfl, H.out.below⟩
        · have Hp := Lib.hid hp
          have Hq := Lib.hid hcnt
          have hz : ¬ (m : Int) = 0 := by omega
          have hw : wrap64 ((m : Int) - 1) = (m : Int) - 1 := by have := HM.out; unfold wrap64; omega
          clear hp hcnt Hm hm0
          go_wp2_with fail
          refine (Hp.out _ H.out.below).mono ?_
          rintro e wa ⟨rfl, hb⟩
          replace H := Lib.hid (H.out.step hb)
          clear hb Hp
          go_wp2_with fail
          refine (Hq.out _ H.out.below).mono ?_
          rintro e wb ⟨rfl, hb⟩
          replace H := Lib.hid (H.out.step hb)
          clear hb Hq
          go_wp2_with fail
          go_ret
          exact ⟨by simp [hw], H.out.below⟩

theorem tells_any {w : World} {f : Nat} {args : Array Value} {v : Value} (h : ∀ W, Calls Tryz.prog f args W fun e w' => e = .returned v ∧ Below W.heap.size W w') : Tells w f args v := fun W _ => h W
theorem tells_still {w : World} {f : Nat} {args : Array Value} {v : Value} (h : ∀ W, Below w.heap.size w W → Calls Tryz.prog f args W fun e w' => e = .returned v ∧ w' = W) : Tells w f args v :=
  fun W hW => (h W hW).mono fun _e _w' ⟨h1, h2⟩ => ⟨h1, h2 ▸ Below.refl _ _⟩
theorem ba_list (l : List UInt8) : (⟨l.toArray⟩ : ByteArray).toList = l := by simp

theorem names_of (x : Insn) (hx : x.In) (op other : Int) (w : World) (he : Env w) (hsane : Tells w 15 #[] (.bool true)) :
    Calls Tryz.prog 11 #[.agg x.cs, .int .i64 op, .int .i64 other] w fun e w' => e = .returned (.bool true) ∧ Below w.heap.size w w' := by
  have hE := below_env he
  refine names_walk x op other ⟨(if (opnd op).2 then nameOf op else []).toArray⟩ ⟨(if (opnd other).2 then nameOf other else []).toArray⟩ ⟨(nameOf x.op).toArray⟩ ⟨(if x.valid then textL x else []).toArray⟩
    ⟨((textL x).drop (nameOf x.op).length).toArray⟩ (opnd op).2 (opnd other).2 (if x.valid then 0 else 6) (kindsOf op).length (kindsOf x.op).length w hsane (tells_any fun W => name_any op W) (tells_any fun W => name_any other W) ?_ ?_ ?_ ?_ ?_
  · intro ha
    obtain ⟨n1, n2, n3, n4⟩ := name_is ha
    rw [if_pos ha]
    refine ⟨tells_any fun W => ?_, ?_, tells_still fun W _ => ?_, tells_still fun W _ => ?_, fun hb => ?_⟩
    · have h := op_any (nameOf op) W
      unfold OpPost at h
      rw [n2] at h
      exact h
    · rw [ba_list]
      cases h : nameOf op with
      | nil => exact absurd h n1
      | cons a l => rfl
    · have h := Tryz.strings_Contains_one ⟨(nameOf op).toArray⟩ 32 W
      rw [show (⟨(nameOf op).toArray⟩ : ByteArray).data.toList = nameOf op by simp, n3] at h
      exact h
    · have h := Tryz.strings_Contains_one ⟨(nameOf op).toArray⟩ 44 W
      rw [show (⟨(nameOf op).toArray⟩ : ByteArray).data.toList = nameOf op by simp, n4] at h
      exact h
    · rw [if_pos hb, ba_list, ba_list, Bool.eq_iff_iff, beq_iff_eq, beq_iff_eq]
      exact name_inj ha hb
  · intro W
    refine (Fields_any op W).mono ?_
    rintro e w' ⟨⟨A, k, h1, _, _⟩, h2⟩
    exact ⟨⟨A, k, h1⟩, h2⟩
  · intro W hW
    exact text_any x hx W (hE W hW)
  · by_cases hv : x.valid = true
    · right
      have ho := (Insn.ok hv).is
      have hlen : (kindsOf x.op).length = (opnd x.op).1.length := by unfold kindsOf; simp
      obtain ⟨m0, m1⟩ := text_made x
      rw [if_pos hv, if_pos hv, hlen]
      have hpre : ∀ r : List UInt8, Lib.hasPrefix (nameOf x.op ++ r) (nameOf x.op) = true := fun r => by
        unfold Lib.hasPrefix
        exact List.isPrefixOf_iff_prefix.2 (List.prefix_append _ _)
      have hcut : ∀ r : List UInt8, textL x = nameOf x.op ++ r → Tells w 48 #[.string ⟨(textL x).toArray⟩, .string ⟨(nameOf x.op).toArray⟩] (.tuple #[.string ⟨r.toArray⟩, .bool true]) := fun r hr => tells_still fun W _ => by
        have h := Tryz.strings_CutPrefix ⟨(textL x).toArray⟩ ⟨(nameOf x.op).toArray⟩ W
        rw [show (⟨(textL x).toArray⟩ : ByteArray).data.toList = textL x by simp, show (⟨(nameOf x.op).toArray⟩ : ByteArray).data.toList = nameOf x.op by simp, hr] at h
        unfold Lib.trimPrefix at h
        rw [hpre r, if_pos rfl, List.drop_left] at h
        rw [hr]
        exact h
      refine ⟨rfl, tells_any fun W => ?_, fun W => ?_, ?_, ?_⟩
      · have h := name_any x.op W
        unfold NamePost at h
        rw [ho] at h
        exact h
      · have h := Fields_any x.op W
        unfold FldsPost at h
        rw [ho, hlen] at h
        refine h.mono ?_
        rintro e w' ⟨⟨A, k, h1, _, _⟩, h2⟩
        exact ⟨⟨A, k, h1⟩, h2⟩
      · by_cases h0 : (opnd x.op).1.length = 0
        · have hr := hcut [] (by rw [m0 h0]; simp)
          rw [show (textL x).drop (nameOf x.op).length = [] by rw [m0 h0]; simp]
          exact hr
        · obtain ⟨r, h1, _, _⟩ := m1 (by omega)
          have hr := hcut r h1
          rw [show (textL x).drop (nameOf x.op).length = r by rw [h1]; simp]
          exact hr
      · by_cases h0 : (opnd x.op).1.length = 0
        · left
          refine ⟨h0, ?_⟩
          rw [show (textL x).drop (nameOf x.op).length = [] by rw [m0 h0]; simp, ba_list]
          rfl
        · right
          obtain ⟨r, h1, h2, h3⟩ := m1 (by omega)
          have hrl : r.length ≤ 100 * (5 + 1) := by
            have ht := textTo_length x hx (opnd x.op).1 (opnd x.op).1.length
            have h5 := opnd_len x.op
            unfold textL at h1
            rw [h1] at ht
            simp at ht
            omega
          rw [show (textL x).drop (nameOf x.op).length = r by rw [h1]; simp]
          refine ⟨by omega, tells_still fun W _ => ?_, tells_still fun W hW => ?_⟩
          · have h := Tryz.strings_HasPrefix ⟨r.toArray⟩ ⟨#[32]⟩ W
            rw [show (⟨r.toArray⟩ : ByteArray).data.toList = r by simp, h2] at h
            exact h
          · obtain ⟨mm, hmm⟩ := (hE W hW).maxLen
            have h := Tryz.strings_Count ⟨r.toArray⟩ ⟨#[44, 32]⟩ mm W (by rw [ba_size]; omega) hmm (by decide)
            have hc : (Lib.countB ⟨r.toArray⟩ ⟨#[44, 32]⟩ : Int) = (((opnd x.op).1.length : Nat) : Int) - 1 := by
              show ((Lib.count (⟨r.toArray⟩ : ByteArray).data.toList [44, 32] : Nat) : Int) = _
              rw [show (⟨r.toArray⟩ : ByteArray).data.toList = r by simp, h3]
              omega
            rw [hc] at h
            exact h
    · left
      rw [if_neg hv, if_neg hv]
      exact ⟨rfl, rfl⟩
  · unfold kindsOf
    rw [List.length_map]
    exact opnd_len x.op
end Go.Proofs.YtdkclapinedgiaaGreatDoor
