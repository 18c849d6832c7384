/- Plain law: what is read of the text of an instruction is the instruction. -/
/- Plain law: what the reference reads of the text of an instruction is the instruction; so both readers agree. -/
import Derived.Test.YtdkclapinedgiaaGreatDoorJ5
import Derived.Test.YtdkclapinedgiaaGreatDoorH11

namespace Go.Proofs.YtdkclapinedgiaaGreatDoor
open Go.RowKit

theorem num_114 : ∀ k : Nat, k < 16 → numOf (114 :: Lib.itoa (k : Int)) [114] = some (k : Int) := by decide +kernel
theorem num_118 : ∀ k : Nat, k < 16 → numOf (118 :: Lib.itoa (k : Int)) [118] = some (k : Int) := by decide +kernel
theorem num_bare : ∀ k : Nat, k < 256 → numOf (Lib.itoa ((k : Int) - 128)) [] = some ((k : Int) - 128) := by decide +kernel
theorem num_plus : ∀ k : Nat, k < 128 → numOf (43 :: Lib.itoa (k : Int)) [] = some (k : Int) := by decide +kernel
theorem itoa_sign : ∀ k : Nat, k < 16 → ∀ c ∈ Lib.itoa (k : Int), c ≠ 43 ∧ c ≠ 45 := by decide +kernel
theorem cond_back : ∀ k : Nat, k < 16 → strIdx condTab (condTab.getD k []) = (k : Int) := by decide +kernel
theorem ext_back : ∀ k : Nat, k < 4 → strIdx extTab (extTab.getD k []) = (k : Int) := by decide +kernel
theorem lane_back : ∀ k : Nat, k < 3 → strIdx laneTab (laneTab.getD k []) = (k : Int) := by decide +kernel
theorem hexd_dig : ∀ d : Nat, d < 16 → hexd ((hexDig d).toNat : Int) = some (d : Int) := by decide +kernel

theorem hexNum_go : ∀ (f n : Nat) (acc : List UInt8), n < 16 ^ (f + 1) → n ≤ 4294967295 → hexNum 0 (hexGo (f + 1) n acc) = hexNum n acc
  | f, n, acc, h, hm => by
    rw [hexGo]
    split
    · rename_i h16
      rw [hexNum, hexd_dig n h16]
      dsimp only
      rw [if_neg (by omega), show (0 : Int) * 16 + (n : Int) = (n : Int) from by omega]
    · rename_i h16
      match f, h with
      | 0, h => omega
      | f + 1, h =>
        have h1 : n / 16 < 16 ^ (f + 1) := by rw [Nat.pow_succ] at h; omega
        rw [hexNum_go f (n / 16) _ h1 (by omega), hexNum, hexd_dig (n % 16) (by omega)]
        dsimp only
        rw [if_neg (by omega), show ((n / 16 : Nat) : Int) * 16 + ((n % 16 : Nat) : Int) = (n : Int) from by omega]
theorem hexGo_ne : ∀ (f n : Nat) (acc : List UInt8), hexGo (f + 1) n acc ≠ []
  | f, n, acc => by
    rw [hexGo]
    split
    · simp
    · match f with
      | 0 => simp [hexGo]
      | f + 1 => exact hexGo_ne f _ _
theorem hex_back {i : Int} (h0 : 0 ≤ i) (h1 : i < 4294967296) : unhexOf (48 :: 120 :: hexL i.toNat) = some i := by
  have e : unhexOf (48 :: 120 :: hexL i.toNat) = hexOf (hexL i.toNat) := by
    simp [unhexOf, Lib.hasPrefix, Lib.trimPrefix, List.isPrefixOf]
  rw [e, hexOf, if_neg (by unfold hexL; exact hexGo_ne 7 _ _)]
  unfold hexL
  rw [hexNum_go 7 i.toNat [] (by omega) (by omega), hexNum]
  congr 1
  omega

theorem sign_hit (a t : List UInt8) (c : UInt8) (hc : c = 43 ∨ c = 45) (ha : ∀ b ∈ a, b ≠ 43 ∧ b ≠ 45) : Lib.indexAny (a ++ c :: t) [43, 45] = a.length := by
  refine Lib.indexAny_hit (x := c) ?_ (by simp) (by rcases hc with rfl | rfl <;> decide)
  intro j b hj hb
  rw [List.getElem?_append_left hj] at hb
  have := ha b (List.mem_of_getElem? hb)
  simp [this.1, this.2]
theorem sign_none (a : List UInt8) (ha : ∀ b ∈ a, b ≠ 43 ∧ b ≠ 45) : Lib.indexAny a [43, 45] = -1 := by
  refine Lib.indexAny_none ?_
  intro j b hj hb
  have := ha b (List.mem_of_getElem? hb)
  simp [this.1, this.2]
theorem inner_of (u : List UInt8) : inner (91 :: (u ++ [93])) = u ∧ bracketed (91 :: (u ++ [93])) = true := by
  have e1 : Lib.trimPrefix (91 :: (u ++ [93])) [91] = u ++ [93] := by simp [Lib.trimPrefix, Lib.hasPrefix, List.isPrefixOf]
  have e2 : Lib.hasSuffix (u ++ [93]) [93] = true := by unfold Lib.hasSuffix; rw [List.isSuffixOf_iff_suffix]; exact List.suffix_append _ _
  constructor
  · unfold inner Lib.trimSuffix
    rw [e1, if_pos e2]
    simp
  · unfold bracketed
    rw [e1, e2]
    simp [Lib.hasPrefix, List.isPrefixOf]
/-- What is read of a place in memory. -/
theorem mem_sign (b : Int) (h0 : 0 ≤ b) (h1 : b ≤ 15) (c : UInt8) (t : List UInt8) (hc : c = 43 ∨ c = 45) :
    memAt (91 :: ((114 :: Lib.itoa b ++ c :: t) ++ [93])) (signAt (91 :: ((114 :: Lib.itoa b ++ c :: t) ++ [93]))) = some (b, c :: t) := by
  obtain ⟨k, rfl⟩ : ∃ k : Nat, b = k := ⟨b.toNat, by omega⟩
  obtain ⟨e1, e2⟩ := inner_of (114 :: Lib.itoa (k : Int) ++ c :: t)
  have hs : signAt (91 :: ((114 :: Lib.itoa (k : Int) ++ c :: t) ++ [93])) = ((114 :: Lib.itoa (k : Int)).length : Nat) := by
    unfold signAt
    rw [e1]
    refine sign_hit _ t c hc ?_
    intro x hx
    rcases List.mem_cons.1 hx with rfl | hx
    · decide
    · exact itoa_sign k (by omega) x hx
  unfold memAt
  rw [e2, if_pos rfl, e1, hs]
  have hk : cutAt (114 :: Lib.itoa (k : Int) ++ c :: t) ((114 :: Lib.itoa (k : Int)).length : Nat) = (114 :: Lib.itoa (k : Int)).length := by
    unfold cutAt; rw [if_neg (by omega)]; omega
  rw [hk, List.take_left, List.drop_left, num_114 k (by omega)]
  rfl
theorem mem_none (b : Int) (h0 : 0 ≤ b) (h1 : b ≤ 15) :
    memAt (91 :: ((114 :: Lib.itoa b) ++ [93])) (signAt (91 :: ((114 :: Lib.itoa b) ++ [93]))) = some (b, []) := by
  obtain ⟨k, rfl⟩ : ∃ k : Nat, b = k := ⟨b.toNat, by omega⟩
  obtain ⟨e1, e2⟩ := inner_of (114 :: Lib.itoa (k : Int))
  have hs : signAt (91 :: ((114 :: Lib.itoa (k : Int)) ++ [93])) = -1 := by
    unfold signAt
    rw [e1]
    refine sign_none _ ?_
    intro x hx
    rcases List.mem_cons.1 hx with rfl | hx
    · decide
    · exact itoa_sign k (by omega) x hx
  unfold memAt
  rw [e2, if_pos rfl, e1, hs]
  have hk : cutAt (114 :: Lib.itoa (k : Int)) (-1) = (114 :: Lib.itoa (k : Int)).length := by
    unfold cutAt; rw [if_pos (by omega)]
  rw [hk, List.take_length, List.drop_length, num_114 k (by omega)]
  rfl

/-- An instruction with the fields that an operand has, out of another one. -/
def put1 (x : Insn) (y : Insn) (c : UInt8) : Insn :=
  if c = 97 ∨ c = 65 then { y with a := x.a } else if c = 98 ∨ c = 66 then { y with b := x.b } else if c = 99 ∨ c = 67 then { y with c := x.c } else
  if c = 100 ∨ c = 101 ∨ c = 108 ∨ c = 119 ∨ c = 115 then { y with d := x.d } else if c = 107 then { y with k := x.k } else if c = 105 then { y with i := x.i } else
  if c = 110 then { y with b := x.b, i := x.i } else if x.k = 0 then { y with b := x.b } else { y with b := x.b, k := x.k }

theorem readOp_back (x y : Insn) (c : UInt8) (ok : x.Ok) (hf : Fits c x) (i0 : 0 ≤ x.i) (i1 : x.i < 4294967296) : readOp c (opText c x) y = some (put1 x y c) := by
  obtain ⟨hc, hd, he, hl⟩ := hf
  obtain ⟨_, _, ha, hb, hcc, hdd, hk⟩ := ok
  obtain ⟨na, ea⟩ : ∃ k : Nat, x.a = k := ⟨x.a.toNat, by omega⟩
  obtain ⟨nb, eb⟩ : ∃ k : Nat, x.b = k := ⟨x.b.toNat, by omega⟩
  obtain ⟨nc, ec⟩ : ∃ k : Nat, x.c = k := ⟨x.c.toNat, by omega⟩
  obtain ⟨nd, ed⟩ : ∃ k : Nat, x.d = k := ⟨x.d.toNat, by omega⟩
  have tk : numOf (Lib.itoa x.k) [] = some x.k := by
    have := num_bare (x.k + 128).toNat (by omega)
    rwa [show (((x.k + 128).toNat : Nat) : Int) - 128 = x.k from by omega] at this
  have td : numOf (Lib.itoa x.d) [] = some x.d := by
    have := num_bare (x.d + 128).toNat (by omega)
    rwa [show (((x.d + 128).toNat : Nat) : Int) - 128 = x.d from by omega] at this
  simp only [letters, List.mem_cons, List.mem_nil_iff, or_false] at hc
  rcases hc with rfl | rfl | rfl | rfl | rfl | rfl | rfl | rfl | rfl | rfl | rfl | rfl | rfl | rfl | rfl
  · show (numOf (114 :: Lib.itoa x.a) [114]).map _ = _; rw [ea, num_114 na (by omega), ← ea]; rfl
  · show (numOf (114 :: Lib.itoa x.b) [114]).map _ = _; rw [eb, num_114 nb (by omega), ← eb]; rfl
  · show (numOf (114 :: Lib.itoa x.c) [114]).map _ = _; rw [ec, num_114 nc (by omega), ← ec]; rfl
  · show (numOf (118 :: Lib.itoa x.a) [118]).map _ = _; rw [ea, num_118 na (by omega), ← ea]; rfl
  · show (numOf (118 :: Lib.itoa x.b) [118]).map _ = _; rw [eb, num_118 nb (by omega), ← eb]; rfl
  · show (numOf (118 :: Lib.itoa x.c) [118]).map _ = _; rw [ec, num_118 nc (by omega), ← ec]; rfl
  · show some { y with d := strIdx condTab (condTab.getD x.d.toNat []) } = _
    have := hd rfl
    rw [cond_back x.d.toNat (by omega), show ((x.d.toNat : Nat) : Int) = x.d from by omega]; rfl
  · show some { y with d := strIdx extTab (extTab.getD x.d.toNat []) } = _
    have := he rfl
    rw [ext_back x.d.toNat (by omega), show ((x.d.toNat : Nat) : Int) = x.d from by omega]; rfl
  · show some { y with d := strIdx laneTab (laneTab.getD x.d.toNat []) } = _
    have := hl rfl
    rw [lane_back x.d.toNat (by omega), show ((x.d.toNat : Nat) : Int) = x.d from by omega]; rfl
  · show (numOf (Lib.itoa x.d) []).map _ = _; rw [td]; rfl
  · show (numOf (Lib.itoa x.d) []).map _ = _; rw [td]; rfl
  · show (numOf (Lib.itoa x.k) []).map _ = _; rw [tk]; rfl
  · show (unhexOf (48 :: 120 :: hexL x.i.toNat)).map _ = _; rw [hex_back i0 i1]; rfl
  · have e : opText 110 x = 91 :: ((114 :: Lib.itoa x.b ++ 43 :: (48 :: 120 :: hexL x.i.toNat)) ++ [93]) := by simp [opText]
    show nOp (opText 110 x) (signAt (opText 110 x)) y = _
    rw [e]
    unfold nOp
    rw [mem_sign x.b hb.1 hb.2 43 _ (.inl rfl)]
    dsimp only
    have et : Lib.trimPrefix (43 :: 48 :: 120 :: hexL x.i.toNat) [43] = 48 :: 120 :: hexL x.i.toNat := by simp [Lib.trimPrefix, Lib.hasPrefix, List.isPrefixOf]
    rw [et, hex_back i0 i1]; rfl
  · show mOp (opText 109 x) (signAt (opText 109 x)) y = _
    rcases Int.lt_trichotomy x.k 0 with h | h | h
    · have ei : Lib.itoa x.k = 45 :: Lib.decDigits x.k.natAbs := by unfold Lib.itoa; rw [if_pos h]
      have e : opText 109 x = 91 :: ((114 :: Lib.itoa x.b ++ 45 :: Lib.decDigits x.k.natAbs) ++ [93]) := by
        rw [← ei, opText_m, if_neg (by omega), if_neg (by omega)]; simp
      rw [e]
      unfold mOp
      rw [mem_sign x.b hb.1 hb.2 45 _ (.inr rfl)]
      dsimp only
      rw [if_neg (by simp), ← ei, tk]
      show _ = some (if x.k = 0 then { y with b := x.b } else { y with b := x.b, k := x.k })
      rw [if_neg (by omega)]; rfl
    · have e : opText 109 x = 91 :: ((114 :: Lib.itoa x.b) ++ [93]) := by
        rw [opText_m, if_neg (by omega), if_pos h]; simp
      rw [e]
      unfold mOp
      rw [mem_none x.b hb.1 hb.2]
      dsimp only
      rw [if_pos rfl]
      show _ = some (if x.k = 0 then { y with b := x.b } else { y with b := x.b, k := x.k })
      rw [if_pos h]
    · have e : opText 109 x = 91 :: ((114 :: Lib.itoa x.b ++ 43 :: Lib.itoa x.k) ++ [93]) := by
        rw [opText_m, if_pos h, if_neg (by omega)]; simp
      obtain ⟨nk, ek⟩ : ∃ k : Nat, x.k = k := ⟨x.k.toNat, by omega⟩
      rw [e]
      unfold mOp
      rw [mem_sign x.b hb.1 hb.2 43 _ (.inl rfl)]
      dsimp only
      rw [if_neg (by simp), ek, num_plus nk (by omega), ← ek]
      show _ = some (if x.k = 0 then { y with b := x.b } else { y with b := x.b, k := x.k })
      rw [if_neg (by omega)]; rfl

theorem readAll_back (x : Insn) (ok : x.Ok) (i0 : 0 ≤ x.i) (i1 : x.i < 4294967296) : ∀ (l : List UInt8) (y : Insn), (∀ c ∈ l, Fits c x) → readAll l (l.map fun c => opText c x) y = some (l.foldl (put1 x) y)
  | [], y, _ => by simp [readAll]
  | c :: l, y, h => by
    show (readOp c (opText c x) y).bind (readAll l _) = _
    rw [readOp_back x y c ok (h c (by simp)) i0 i1]
    exact readAll_back x ok i0 i1 l _ (fun d hd => h d (by simp [hd]))

def PutAll (op : Int) (l : List UInt8 × Bool) : Prop := ∀ x : Insn, x.op = op → (l.1.foldl Room.step room0).has x = true → l.1.foldl (put1 x) { insn0 with op := op } = x
set_option maxHeartbeats 4000000 in
theorem put_all (op : Int) : PutAll op (opnd op) := by
  unfold opnd vecs
  repeat' (with_reducible refine ite_P (P := PutAll op) ?_ ?_)
  all_goals
    (rintro ⟨o, a, b, c, d, k, i⟩ rfl h
     unfold Room.has within at h
     simp only [Bool.and_eq_true, Bool.or_eq_true, decide_eq_true_eq, beq_iff_eq] at h
     simp [Room.step, room0] at h
     simp [put1, insn0]
     (try split)
     all_goals first | omega | (simp_all; done) | (simp_all; omega))

theorem index32_skip (a b : List UInt8) (h : ∀ c ∈ a, c ≠ 32) : Lib.index (a ++ 32 :: b) [32] = a.length := by
  induction a with
  | nil => rfl
  | cons c a ih =>
    have hc : (32 : UInt8) ≠ c := fun e => h c (by simp) e.symm
    have i := ih (fun d hd => h d (by simp [hd]))
    show (if ([32] : List UInt8).isPrefixOf (c :: (a ++ 32 :: b)) then 0 else if Lib.index (a ++ 32 :: b) [32] == -1 then -1 else Lib.index (a ++ 32 :: b) [32] + 1) = _
    rw [i, if_neg (by simp [List.isPrefixOf, hc]), if_neg (by simp <;> omega)]
    simp
theorem index32_none (a : List UInt8) (h : ∀ c ∈ a, c ≠ 32) : Lib.index a [32] = -1 := by
  induction a with
  | nil => rfl
  | cons c a ih =>
    have hc : (32 : UInt8) ≠ c := fun e => h c (by simp) e.symm
    have i := ih (fun d hd => h d (by simp [hd]))
    show (if ([32] : List UInt8).isPrefixOf (c :: a) then 0 else if Lib.index a [32] == -1 then -1 else Lib.index a [32] + 1) = _
    rw [i, if_neg (by simp [List.isPrefixOf, hc])]
    rfl
theorem split_join : ∀ (t : List UInt8) (r : List (List UInt8)), (∀ u ∈ t :: r, ∀ c ∈ u, c ≠ 44) → Lib.splitK [44, 32] 0 r.length (joinT (t :: r)) = t :: r
  | t, [], _ => rfl
  | t, u :: r, h => by
    have e : joinT (t :: u :: r) = t ++ 44 :: 32 :: joinT (u :: r) := rfl
    rw [List.length_cons, Lib.splitK, e, index_skip t _ (h t (by simp)), if_neg (by simp <;> omega)]
    have e1 : ((t.length : Int).toNat + 0) = t.length := by omega
    have e2 : (t ++ 44 :: 32 :: joinT (u :: r)).drop ((t.length : Int).toNat + ([44, 32] : List UInt8).length) = joinT (u :: r) := by simp
    rw [e1, e2, List.take_left, split_join u r (fun v hv => h v (by simp [hv]))]
theorem pieces_map (x : Insn) (l : List UInt8) : piecesOf x l l.length = l.map fun c => opText c x := by
  unfold piecesOf
  apply List.ext_getElem
  · simp
  · intro i h1 h2
    simp at h1
    simp [h1]
theorem name_no32 : ∀ k : Nat, k < 73 → ∀ c ∈ nameOf (k : Int), c ≠ 32 := by decide +kernel

/-- What is read of the text of an instruction is the instruction. -/
theorem parsed_text {x : Insn} (hv : x.valid = true) (i0 : 0 ≤ x.i) (i1 : x.i < 4294967296) : parsedOf (textL x) = some x := by
  have ok := Insn.ok hv
  obtain ⟨_, hop, _, _⟩ := name_is ok.is
  have hno : ∀ c ∈ nameOf x.op, c ≠ 32 := by
    have h := name_no32 x.op.toNat (by have := ok.op; omega)
    rwa [show ((x.op.toNat : Nat) : Int) = x.op from by have := ok.op; omega] at h
  have hh : (roomOf x.op).has x = true := by unfold Insn.valid at hv; simp at hv; exact hv.2
  have hput := put_all x.op x rfl hh
  have hfit := Insn.fits hv
  have hall := readAll_back x ok i0 i1 (opnd x.op).1 { insn0 with op := x.op } hfit
  rw [hput] at hall
  have main : ∀ ps, (opOf (nameOf x.op)).1 = x.op → given (textL x) = ps → (Lib.cut (textL x) [32]).1 = nameOf x.op → ps = (opnd x.op).1.map (fun c => opText c x) → parsedOf (textL x) = some x := by
    intro ps _ hg hc hps
    unfold parsedOf
    rw [hg, hc, hop, hps]
    dsimp only
    rw [if_pos ⟨rfl, by simp⟩]
    exact hall
  rcases Nat.eq_zero_or_pos (opnd x.op).1.length with hl | hl
  · have ht := (text_made x).1 hl
    have hc : Lib.cut (textL x) [32] = (nameOf x.op, [], false) := by
      rw [ht]; unfold Lib.cut; rw [index32_none _ hno, if_neg (by omega)]
    refine main [] (by rw [hop]) ?_ (by rw [hc]) ?_
    · unfold given; rw [hc]; rfl
    · rw [List.length_eq_zero_iff.1 hl]; rfl
  · obtain ⟨k, hk⟩ : ∃ k, (opnd x.op).1.length = k + 1 := ⟨(opnd x.op).1.length - 1, by omega⟩
    have ht : textL x = nameOf x.op ++ 32 :: joinT ((opnd x.op).1.map fun c => opText c x) := by
      rw [← pieces_map]; unfold textL; rw [hk, textTo_is]
    have hc : Lib.cut (textL x) [32] = (nameOf x.op, joinT ((opnd x.op).1.map fun c => opText c x), true) := by
      rw [ht]; unfold Lib.cut; rw [index32_skip _ _ hno, if_pos (by omega)]
      simp
    refine main _ (by rw [hop]) rfl (by rw [hc]) ?_
    unfold given
    rw [hc]
    dsimp only
    rw [if_pos rfl, pieces_eq]
    have hno4 : ∀ u ∈ (opnd x.op).1.map (fun c => opText c x), ∀ c ∈ u, c ≠ 44 := by
      intro u hu
      obtain ⟨j, _, rfl⟩ := List.mem_map.1 hu
      exact opText_no _ x
    obtain ⟨t, r, hr⟩ : ∃ t r, (opnd x.op).1.map (fun c => opText c x) = t :: r := by
      cases h : (opnd x.op).1.map (fun c => opText c x) with
      | nil => have := congrArg List.length h; simp at this; rw [this] at hl; simp at hl
      | cons t r => exact ⟨t, r, rfl⟩
    rw [hr] at hno4 ⊢
    have hcount : Lib.countB ⟨(joinT (t :: r)).toArray⟩ ⟨#[44, 32]⟩ = r.length := by
      show Lib.count _ _ = _
      simpa using count_join t r hno4
    rw [hcount, split_join t r hno4]
theorem parse_text {x : Insn} (hv : x.valid = true) (i0 : 0 ≤ x.i) (i1 : x.i < 4294967296) : parseOf (textL x) = (x, 0) := by
  unfold parseOf
  rw [parsed_text hv i0 i1]
  exact if_pos ⟨hv, rfl⟩
end Go.Proofs.YtdkclapinedgiaaGreatDoor

namespace Go.Proofs.YtdkclapinedgiaaGreatDoor
open Go.RowKit

/-- The value of a digit: 99 where it is none. -/
def dgt (c : UInt8) : Int := if 97 ≤ c.toNat ∧ c.toNat ≤ 102 then (c.toNat : Int) - 97 + 10 else if 48 ≤ c.toNat ∧ c.toNat ≤ 57 then (c.toNat : Int) - 48 else 99
def digGo (base n : Int) : List UInt8 → Int × Bool
  | [] => (n, true)
  | c :: l => if base ≤ dgt c then (0, false) else digGo base (n * base + dgt c) l
/-- The number of a text of at most ten digits. -/
def digR (s : List UInt8) (base : Int) : Int × Bool := if s = [] ∨ 10 < s.length then (0, false) else digGo base 0 s
def signedR (s : List UInt8) : Int := if s.head? = some 45 then -(digR s.tail 10).1 else (digR s 10).1
def hexedR (s : List UInt8) : Int := if s.length < 3 ∨ 10 < s.length then 0 else (digR (s.drop 2) 16).1
/-- Where the register's text ends. -/
def memTo : List UInt8 → Nat
  | [] => 0
  | c :: l => if c = 43 ∨ c = 45 ∨ c = 93 then 0 else memTo l + 1
def memR (kind : Int) (s : List UInt8) (x : Insn) : Insn :=
  if memTo s < 2 ∨ memTo s = s.length then x else
  let y := { x with b := (digR ((s.take (memTo s)).drop 2) 10).1 }
  let rest := (s.take (s.length - 1)).drop (memTo s)
  if rest = [] then y else if kind = 15 then { y with i := hexedR (rest.drop 1) } else if rest.head? = some 43 then { y with k := signedR (rest.drop 1) } else { y with k := signedR rest }
def putR (kind : Int) (s : List UInt8) (x : Insn) : Insn :=
  if kind = 7 then { x with d := strIdx condTab s } else if kind = 8 then { x with d := strIdx extTab s } else if kind = 9 then { x with d := strIdx laneTab s } else
  if kind = 10 ∨ kind = 11 then { x with d := (digR s 10).1 } else if kind = 12 then { x with k := signedR s } else if kind = 13 then { x with i := hexedR s } else
  if kind = 14 ∨ kind = 15 then memR kind s x else if s = [] then x else
  if kind = 1 ∨ kind = 4 then { x with a := (digR (s.drop 1) 10).1 } else if kind = 2 ∨ kind = 5 then { x with b := (digR (s.drop 1) 10).1 } else { x with c := (digR (s.drop 1) 10).1 }
def putAll : List Int → List (List UInt8) → Insn → Insn
  | k :: ks, g :: gs, x => putAll ks gs (putR k g x)
  | _, _, x => x
/-- The texts of the mnemonic and of the operands. -/
def pcs (out : List (List UInt8)) (cur : List UInt8) : List UInt8 → List (List UInt8)
  | [] => out ++ [cur]
  | [c] => if c = 32 ∧ out = [] then out ++ [cur] ++ [[]] else out ++ [cur ++ [c]]
  | c :: d :: t => if c = 32 ∧ out = [] then pcs (out ++ [cur]) [] (d :: t) else if c = 44 ∧ d = 32 ∧ out ≠ [] then pcs (out ++ [cur]) [] t else pcs out (cur ++ [c]) (d :: t)
/-- What the reference reads. -/
def readR (s : List UInt8) : Option Insn :=
  let l := pcs [] [] s
  let op := opOf (l.headD [])
  if op.2 = true ∧ l.length = (kindsOf op.1).length + 1 then some (putAll (kindsOf op.1) l.tail { insn0 with op := op.1 }) else none
def parseR (s : List UInt8) : Insn × Int :=
  match readR s with
  | some x => if x.valid = true ∧ textL x = s then (x, 0) else (insn0, 4)
  | none => (insn0, 4)

/-! ### Numbers. -/
theorem dig_dec : ∀ k : Nat, k < 16 → (digR (Lib.itoa (k : Int)) 10).1 = (k : Int) := by decide +kernel
theorem signed_back : ∀ k : Nat, k < 256 → signedR (Lib.itoa ((k : Int) - 128)) = (k : Int) - 128 := by decide +kernel
theorem dig_small : ∀ k : Nat, k < 16 → (digR (Lib.itoa (k : Int)) 10).1 = (k : Int) := dig_dec
theorem dgt_dig : ∀ d : Nat, d < 16 → dgt (hexDig d) = (d : Int) := by decide +kernel
theorem digGo_go : ∀ (f n : Nat) (acc : List UInt8), n < 16 ^ (f + 1) → digGo 16 0 (hexGo (f + 1) n acc) = digGo 16 n acc
  | f, n, acc, h => by
    rw [hexGo]
    split
    · rename_i h16
      rw [digGo, dgt_dig n h16, if_neg (by omega), show (0 : Int) * 16 + (n : Int) = (n : Int) from by omega]
    · rename_i h16
      match f, h with
      | 0, h => omega
      | f + 1, h =>
        have h1 : n / 16 < 16 ^ (f + 1) := by rw [Nat.pow_succ] at h; omega
        rw [digGo_go f (n / 16) _ h1, digGo, dgt_dig (n % 16) (by omega), if_neg (by omega), show ((n / 16 : Nat) : Int) * 16 + ((n % 16 : Nat) : Int) = (n : Int) from by omega]
theorem hexed_back {i : Int} (h0 : 0 ≤ i) (h1 : i < 4294967296) : hexedR (48 :: 120 :: hexL i.toNat) = i := by
  have hl := hexL_length i.toNat
  have hn : hexL i.toNat ≠ [] := by unfold hexL; exact hexGo_ne 7 _ _
  have hp : 0 < (hexL i.toNat).length := List.length_pos_iff.2 hn
  unfold hexedR
  rw [if_neg (by simp; omega)]
  show (digR (hexL i.toNat) 16).1 = i
  unfold digR
  rw [if_neg (by rintro (h | h); exact hn h; omega)]
  unfold hexL
  rw [digGo_go 7 i.toNat [] (by omega), digGo]
  show ((i.toNat : Nat) : Int) = i
  omega

theorem memTo_hit (c : UInt8) (t : List UInt8) (hc : c = 43 ∨ c = 45 ∨ c = 93) : ∀ (a : List UInt8), (∀ b ∈ a, b ≠ 43 ∧ b ≠ 45 ∧ b ≠ 93) → memTo (a ++ c :: t) = a.length
  | [], _ => by simp [memTo, hc]
  | b :: a, h => by
    have hb := h b (by simp)
    show (if b = 43 ∨ b = 45 ∨ b = 93 then 0 else memTo (a ++ c :: t) + 1) = _
    rw [if_neg (by rintro (e | e | e); exact hb.1 e; exact hb.2.1 e; exact hb.2.2 e), memTo_hit c t hc a (fun d hd => h d (by simp [hd]))]
    rfl
theorem itoa_plain : ∀ k : Nat, k < 16 → ∀ c ∈ Lib.itoa (k : Int), c ≠ 43 ∧ c ≠ 45 ∧ c ≠ 93 := by decide +kernel

theorem memR_sign (kind : Int) (x : Insn) (b : Int) (h0 : 0 ≤ b) (h1 : b ≤ 15) (c : UInt8) (t : List UInt8) (hc : c = 43 ∨ c = 45) :
    memR kind (91 :: ((114 :: Lib.itoa b ++ c :: t) ++ [93])) x =
      if kind = 15 then { x with b := b, i := hexedR t } else if c = 43 then { x with b := b, k := signedR t } else { x with b := b, k := signedR (c :: t) } := by
  obtain ⟨n, rfl⟩ : ∃ k : Nat, b = k := ⟨b.toNat, by omega⟩
  have e : (91 :: ((114 :: Lib.itoa (n : Int) ++ c :: t) ++ [93]) : List UInt8) = (91 :: 114 :: Lib.itoa (n : Int)) ++ c :: (t ++ [93]) := by simp
  have hm : memTo ((91 :: 114 :: Lib.itoa (n : Int)) ++ c :: (t ++ [93])) = (91 :: 114 :: Lib.itoa (n : Int)).length := by
    refine memTo_hit c _ (by rcases hc with h | h <;> simp [h]) _ ?_
    intro d hd
    rcases List.mem_cons.1 hd with rfl | hd
    · decide
    · rcases List.mem_cons.1 hd with rfl | hd
      · decide
      · exact itoa_plain n (by omega) d hd
  rw [e]
  unfold memR
  rw [hm, if_neg (by simp <;> omega)]
  have e1 : (((91 :: 114 :: Lib.itoa (n : Int)) ++ c :: (t ++ [93])).take (91 :: 114 :: Lib.itoa (n : Int)).length).drop 2 = Lib.itoa (n : Int) := by rw [List.take_left]; rfl
  have e2 : (((91 :: 114 :: Lib.itoa (n : Int)) ++ c :: (t ++ [93])).take (((91 :: 114 :: Lib.itoa (n : Int)) ++ c :: (t ++ [93])).length - 1)).drop (91 :: 114 :: Lib.itoa (n : Int)).length = c :: t := by
    have : ((91 :: 114 :: Lib.itoa (n : Int)) ++ c :: (t ++ [93])) = ((91 :: 114 :: Lib.itoa (n : Int)) ++ c :: t) ++ [93] := by simp
    rw [this, List.length_append, show ([93] : List UInt8).length = 1 from rfl, Nat.add_sub_cancel, List.take_left, List.drop_left]
  rw [e1, e2, dig_dec n (by omega)]
  simp only [List.drop_succ_cons, List.drop_zero, List.head?_cons, Option.some.injEq]
  rw [if_neg (by simp)]
theorem memR_none (kind : Int) (x : Insn) (b : Int) (h0 : 0 ≤ b) (h1 : b ≤ 15) :
    memR kind (91 :: ((114 :: Lib.itoa b) ++ [93])) x = { x with b := b } := by
  obtain ⟨n, rfl⟩ : ∃ k : Nat, b = k := ⟨b.toNat, by omega⟩
  have e : (91 :: ((114 :: Lib.itoa (n : Int)) ++ [93]) : List UInt8) = (91 :: 114 :: Lib.itoa (n : Int)) ++ 93 :: [] := by simp
  have hm : memTo ((91 :: 114 :: Lib.itoa (n : Int)) ++ 93 :: []) = (91 :: 114 :: Lib.itoa (n : Int)).length := by
    refine memTo_hit 93 _ (by simp) _ ?_
    intro d hd
    rcases List.mem_cons.1 hd with rfl | hd
    · decide
    · rcases List.mem_cons.1 hd with rfl | hd
      · decide
      · exact itoa_plain n (by omega) d hd
  rw [e]
  unfold memR
  rw [hm, if_neg (by simp <;> omega)]
  have e1 : (((91 :: 114 :: Lib.itoa (n : Int)) ++ 93 :: []).take (91 :: 114 :: Lib.itoa (n : Int)).length).drop 2 = Lib.itoa (n : Int) := by rw [List.take_left]; rfl
  have e2 : (((91 :: 114 :: Lib.itoa (n : Int)) ++ 93 :: []).take (((91 :: 114 :: Lib.itoa (n : Int)) ++ 93 :: []).length - 1)).drop (91 :: 114 :: Lib.itoa (n : Int)).length = [] := by
    rw [List.length_append, show ([93] : List UInt8).length = 1 from rfl, Nat.add_sub_cancel, List.take_left, List.drop_length]
  rw [e1, e2, dig_dec n (by omega)]
  rfl

theorem putR_back (x y : Insn) (c : UInt8) (ok : x.Ok) (hf : Fits c x) (i0 : 0 ≤ x.i) (i1 : x.i < 4294967296) : putR (kindOf c) (opText c x) y = put1 x y c := by
  obtain ⟨hc, hd, he, hl⟩ := hf
  obtain ⟨_, _, ha, hb, hcc, hdd, hk⟩ := ok
  obtain ⟨na, ea⟩ : ∃ k : Nat, x.a = k := ⟨x.a.toNat, by omega⟩
  obtain ⟨nb, eb⟩ : ∃ k : Nat, x.b = k := ⟨x.b.toNat, by omega⟩
  obtain ⟨nc, ec⟩ : ∃ k : Nat, x.c = k := ⟨x.c.toNat, by omega⟩
  obtain ⟨nd, ed⟩ : ∃ k : Nat, x.d = k := ⟨x.d.toNat, by omega⟩
  have da : (digR (Lib.itoa x.a) 10).1 = x.a := by rw [ea]; exact dig_dec na (by omega)
  have db : (digR (Lib.itoa x.b) 10).1 = x.b := by rw [eb]; exact dig_dec nb (by omega)
  have dc : (digR (Lib.itoa x.c) 10).1 = x.c := by rw [ec]; exact dig_dec nc (by omega)
  have dd : (digR (Lib.itoa x.d) 10).1 = x.d := by rw [ed]; exact dig_dec nd (by omega)
  have tk : signedR (Lib.itoa x.k) = x.k := by
    have := signed_back (x.k + 128).toNat (by omega)
    rwa [show (((x.k + 128).toNat : Nat) : Int) - 128 = x.k from by omega] at this
  simp only [letters, List.mem_cons, List.mem_nil_iff, or_false] at hc
  rcases hc with rfl | rfl | rfl | rfl | rfl | rfl | rfl | rfl | rfl | rfl | rfl | rfl | rfl | rfl | rfl
  · show ({ y with a := (digR (Lib.itoa x.a) 10).1 } : Insn) = _; rw [da]; rfl
  · show ({ y with b := (digR (Lib.itoa x.b) 10).1 } : Insn) = _; rw [db]; rfl
  · show ({ y with c := (digR (Lib.itoa x.c) 10).1 } : Insn) = _; rw [dc]; rfl
  · show ({ y with a := (digR (Lib.itoa x.a) 10).1 } : Insn) = _; rw [da]; rfl
  · show ({ y with b := (digR (Lib.itoa x.b) 10).1 } : Insn) = _; rw [db]; rfl
  · show ({ y with c := (digR (Lib.itoa x.c) 10).1 } : Insn) = _; rw [dc]; rfl
  · show ({ y with d := strIdx condTab (condTab.getD x.d.toNat []) } : Insn) = _
    have := hd rfl
    rw [cond_back x.d.toNat (by omega), show ((x.d.toNat : Nat) : Int) = x.d from by omega]; rfl
  · show ({ y with d := strIdx extTab (extTab.getD x.d.toNat []) } : Insn) = _
    have := he rfl
    rw [ext_back x.d.toNat (by omega), show ((x.d.toNat : Nat) : Int) = x.d from by omega]; rfl
  · show ({ y with d := strIdx laneTab (laneTab.getD x.d.toNat []) } : Insn) = _
    have := hl rfl
    rw [lane_back x.d.toNat (by omega), show ((x.d.toNat : Nat) : Int) = x.d from by omega]; rfl
  · show ({ y with d := (digR (Lib.itoa x.d) 10).1 } : Insn) = _; rw [dd]; rfl
  · show ({ y with d := (digR (Lib.itoa x.d) 10).1 } : Insn) = _; rw [dd]; rfl
  · show ({ y with k := signedR (Lib.itoa x.k) } : Insn) = _; rw [tk]; rfl
  · show ({ y with i := hexedR (48 :: 120 :: hexL x.i.toNat) } : Insn) = _; rw [hexed_back i0 i1]; rfl
  · have e : opText 110 x = 91 :: ((114 :: Lib.itoa x.b ++ 43 :: (48 :: 120 :: hexL x.i.toNat)) ++ [93]) := by simp [opText]
    show memR 15 (opText 110 x) y = _
    rw [e, memR_sign 15 y x.b hb.1 hb.2 43 _ (.inl rfl), if_pos rfl, hexed_back i0 i1]
    rfl
  · show memR 14 (opText 109 x) y = if x.k = 0 then { y with b := x.b } else { y with b := x.b, k := x.k }
    rcases Int.lt_trichotomy x.k 0 with h | h | h
    · have ei : Lib.itoa x.k = 45 :: Lib.decDigits x.k.natAbs := by unfold Lib.itoa; rw [if_pos h]
      have e : opText 109 x = 91 :: ((114 :: Lib.itoa x.b ++ 45 :: Lib.decDigits x.k.natAbs) ++ [93]) := by
        rw [← ei, opText_m, if_neg (by omega), if_neg (by omega)]; simp
      rw [e, memR_sign 14 y x.b hb.1 hb.2 45 _ (.inr rfl), if_neg (by decide), if_neg (by decide), ← ei, tk, if_neg (by omega)]
    · have e : opText 109 x = 91 :: ((114 :: Lib.itoa x.b) ++ [93]) := by
        rw [opText_m, if_neg (by omega), if_pos h]; simp
      rw [e, memR_none 14 y x.b hb.1 hb.2, if_pos h]
    · have e : opText 109 x = 91 :: ((114 :: Lib.itoa x.b ++ 43 :: Lib.itoa x.k) ++ [93]) := by
        rw [opText_m, if_pos h, if_neg (by omega)]; simp
      rw [e, memR_sign 14 y x.b hb.1 hb.2 43 _ (.inl rfl), if_neg (by decide), if_pos rfl, tk, if_neg (by omega)]
theorem putAll_back (x : Insn) (ok : x.Ok) (i0 : 0 ≤ x.i) (i1 : x.i < 4294967296) : ∀ (l : List UInt8) (y : Insn), (∀ c ∈ l, Fits c x) → putAll (l.map kindOf) (l.map fun c => opText c x) y = l.foldl (put1 x) y
  | [], y, _ => by simp [putAll]
  | c :: l, y, h => by
    show putAll (l.map kindOf) (l.map _) (putR (kindOf c) (opText c x) y) = _
    rw [putR_back x y c ok (h c (by simp)) i0 i1]
    exact putAll_back x ok i0 i1 l _ (fun d hd => h d (by simp [hd]))

/-! ### The pieces of a line. -/
theorem pcs_last (out : List (List UInt8)) (hne : out ≠ []) : ∀ (t cur : List UInt8), (∀ c ∈ t, c ≠ 44) → pcs out cur t = out ++ [cur ++ t]
  | [], cur, _ => by simp [pcs]
  | [c], cur, h => by rw [pcs, if_neg (fun e => hne e.2)]
  | c :: d :: t, cur, h => by
    rw [pcs, if_neg (fun e => hne e.2), if_neg (fun e => h c (by simp) e.1), pcs_last out hne (d :: t) (cur ++ [c]) (fun e he => h e (by simp at he ⊢; exact .inr he))]
    simp
theorem pcs_comma (out : List (List UInt8)) (hne : out ≠ []) (r : List UInt8) : ∀ (t cur : List UInt8), (∀ c ∈ t, c ≠ 44) → pcs out cur (t ++ 44 :: 32 :: r) = pcs (out ++ [cur ++ t]) [] r
  | [], cur, _ => by
    show pcs out cur (44 :: 32 :: r) = _
    rw [pcs, if_neg (fun e => hne e.2), if_pos ⟨rfl, rfl, hne⟩, List.append_nil]
  | c :: t, cur, h => by
    have ih := pcs_comma out hne r t (cur ++ [c]) (fun e he => h e (by simp [he]))
    obtain ⟨d, u, hu⟩ : ∃ d u, t ++ 44 :: 32 :: r = d :: u := by cases t <;> exact ⟨_, _, rfl⟩
    show pcs out cur (c :: (t ++ 44 :: 32 :: r)) = _
    rw [hu] at ih ⊢
    rw [pcs, if_neg (fun e => hne e.2), if_neg (fun e => h c (by simp) e.1), ih]
    simp
theorem pcs_join : ∀ (r : List (List UInt8)) (t : List UInt8) (out : List (List UInt8)), out ≠ [] → (∀ u ∈ t :: r, ∀ c ∈ u, c ≠ 44) → pcs out [] (joinT (t :: r)) = out ++ t :: r
  | [], t, out, hne, h => by
    show pcs out [] t = _
    rw [pcs_last out hne t [] (h t (by simp))]; simp
  | u :: r, t, out, hne, h => by
    show pcs out [] (t ++ 44 :: 32 :: joinT (u :: r)) = _
    rw [pcs_comma out hne _ t [] (h t (by simp)), pcs_join r u _ (by simp) (fun v hv => h v (by simp [hv]))]
    simp
theorem pcs_name (r : List UInt8) : ∀ (t cur : List UInt8), (∀ c ∈ t, c ≠ 32) → pcs [] cur (t ++ 32 :: r) = pcs [cur ++ t] [] r
  | [], cur, _ => by
    cases r with
    | nil => show pcs [] cur [32] = _; simp [pcs]
    | cons d u => show pcs [] cur (32 :: d :: u) = _; rw [pcs, if_pos ⟨rfl, rfl⟩]; simp
  | c :: t, cur, h => by
    have ih := pcs_name r t (cur ++ [c]) (fun e he => h e (by simp [he]))
    obtain ⟨d, u, hu⟩ : ∃ d u, t ++ 32 :: r = d :: u := by cases t <;> exact ⟨_, _, rfl⟩
    show pcs [] cur (c :: (t ++ 32 :: r)) = _
    rw [hu] at ih ⊢
    rw [pcs, if_neg (fun e => h c (by simp) e.1), if_neg (fun e => e.2.2 rfl), ih]
    simp
theorem pcs_bare : ∀ (t cur : List UInt8), (∀ c ∈ t, c ≠ 32) → pcs [] cur t = [cur ++ t]
  | [], cur, _ => by simp [pcs]
  | [c], cur, h => by rw [pcs, if_neg (fun e => h c (by simp) e.1)]; rfl
  | c :: d :: t, cur, h => by
    rw [pcs, if_neg (fun e => h c (by simp) e.1), if_neg (fun e => e.2.2 rfl), pcs_bare (d :: t) (cur ++ [c]) (fun e he => h e (by simp at he ⊢; exact .inr he))]
    simp

/-- What the reference reads of the text of an instruction is the instruction. -/
theorem readR_text {x : Insn} (hv : x.valid = true) (i0 : 0 ≤ x.i) (i1 : x.i < 4294967296) : readR (textL x) = some x := by
  have ok := Insn.ok hv
  obtain ⟨_, hop, _, _⟩ := name_is ok.is
  have hno : ∀ c ∈ nameOf x.op, c ≠ 32 := by
    have h := name_no32 x.op.toNat (by have := ok.op; omega)
    rwa [show ((x.op.toNat : Nat) : Int) = x.op from by have := ok.op; omega] at h
  have hh : (roomOf x.op).has x = true := by unfold Insn.valid at hv; simp at hv; exact hv.2
  have hput := put_all x.op x rfl hh
  have hall := putAll_back x ok i0 i1 (opnd x.op).1 { insn0 with op := x.op } (Insn.fits hv)
  rw [hput] at hall
  have main : pcs [] [] (textL x) = nameOf x.op :: (opnd x.op).1.map (fun c => opText c x) → readR (textL x) = some x := by
    intro hp
    unfold readR
    rw [hp]
    dsimp only [List.headD_cons, List.tail_cons]
    simp only [hop]
    rw [if_pos ⟨trivial, by simp [kindsOf]⟩]
    exact congrArg some hall
  refine main ?_
  rcases Nat.eq_zero_or_pos (opnd x.op).1.length with hl | hl
  · rw [(text_made x).1 hl, pcs_bare _ _ hno, List.length_eq_zero_iff.1 hl]; rfl
  · obtain ⟨k, hk⟩ : ∃ k, (opnd x.op).1.length = k + 1 := ⟨(opnd x.op).1.length - 1, by omega⟩
    have ht : textL x = nameOf x.op ++ 32 :: joinT ((opnd x.op).1.map fun c => opText c x) := by
      rw [← pieces_map]; unfold textL; rw [hk, textTo_is]
    have hno4 : ∀ u ∈ (opnd x.op).1.map (fun c => opText c x), ∀ c ∈ u, c ≠ 44 := by
      intro u hu
      obtain ⟨j, _, rfl⟩ := List.mem_map.1 hu
      exact opText_no _ x
    obtain ⟨t, r, hr⟩ : ∃ t r, (opnd x.op).1.map (fun c => opText c x) = t :: r := by
      cases h : (opnd x.op).1.map (fun c => opText c x) with
      | nil => have := congrArg List.length h; simp at this; rw [this] at hl; simp at hl
      | cons t r => exact ⟨t, r, rfl⟩
    rw [ht, hr, pcs_name _ _ _ hno, List.nil_append]
    rw [hr] at hno4
    rw [pcs_join r t _ (by simp) hno4]
    rfl
theorem parseR_text {x : Insn} (hv : x.valid = true) (i0 : 0 ≤ x.i) (i1 : x.i < 4294967296) : parseR (textL x) = (x, 0) := by
  unfold parseR
  rw [readR_text hv i0 i1]
  exact if_pos ⟨hv, rfl⟩

/-! ### Both readers agree. -/
theorem dgt_in (c : UInt8) : 0 ≤ dgt c ∧ (dgt c < 16 ∨ dgt c = 99) := by
  unfold dgt
  split
  · omega
  · split <;> omega
theorem digGo_in : ∀ (l : List UInt8) (base n : Int) (j : Nat), 0 ≤ n → 1 ≤ base → base ≤ 16 → n < 16 ^ j → 0 ≤ (digGo base n l).1 ∧ (digGo base n l).1 < 16 ^ (j + l.length)
  | [], base, n, j, h0, _, _, h1 => ⟨h0, h1⟩
  | c :: l, base, n, j, h0, hb, hb', h1 => by
    unfold digGo
    split
    · exact ⟨Int.le_refl _, Int.pow_pos (by decide)⟩
    · rename_i h
      have hd := dgt_in c
      have e : j + (c :: l).length = (j + 1) + l.length := by simp; omega
      rw [e]
      have hnn : 0 ≤ n * base := Int.mul_nonneg h0 (by omega)
      refine digGo_in l base _ (j + 1) (by omega) hb hb' ?_
      have : n * base ≤ n * 16 := Int.mul_le_mul_of_nonneg_left hb' h0
      rw [Int.pow_succ]; omega
theorem digR_in (s : List UInt8) (base : Int) (hb : 1 ≤ base) (hb' : base ≤ 16) : 0 ≤ (digR s base).1 ∧ (digR s base).1 < 16 ^ s.length := by
  unfold digR
  split
  · exact ⟨Int.le_refl _, Int.pow_pos (by decide)⟩
  · have := digGo_in s base 0 0 (Int.le_refl _) hb hb' (by decide)
    simpa using this
theorem digR_max (s : List UInt8) (base : Int) (hb : 1 ≤ base) (hb' : base ≤ 16) : 0 ≤ (digR s base).1 ∧ (digR s base).1 < 1099511627776 := by
  by_cases h : s.length ≤ 10
  · have h1 := digR_in s base hb hb'
    have h2 : (16 : Int) ^ s.length ≤ 16 ^ 10 := by
      have := Nat.pow_le_pow_right (show 0 < 16 by decide) h
      exact_mod_cast this
    exact ⟨h1.1, Int.lt_of_lt_of_le h1.2 h2⟩
  · unfold digR
    rw [if_pos (.inr (by omega))]
    decide
theorem hexedR_in (s : List UInt8) : 0 ≤ hexedR s ∧ hexedR s < 4294967296 := by
  unfold hexedR
  split
  · decide
  · have h1 := digR_in (s.drop 2) 16 (by decide) (by decide)
    have h2 : (16 : Int) ^ (s.drop 2).length ≤ 16 ^ 8 := by
      have : (s.drop 2).length ≤ 8 := by simp; omega
      have := Nat.pow_le_pow_right (show 0 < 16 by decide) this
      exact_mod_cast this
    exact ⟨h1.1, Int.lt_of_lt_of_le h1.2 h2⟩
def IIn (x : Insn) : Prop := 0 ≤ x.i ∧ x.i < 4294967296
theorem memR_iin (kind : Int) (s : List UInt8) (x : Insn) (h : IIn x) : IIn (memR kind s x) := by
  unfold memR
  split
  · exact h
  · dsimp only
    split
    · exact h
    · split
      · exact hexedR_in _
      · split <;> exact h
theorem putR_iin (kind : Int) (s : List UInt8) (x : Insn) (h : IIn x) : IIn (putR kind s x) := by
  unfold putR
  repeat' (refine ite_P (P := IIn) ?_ ?_)
  all_goals first | exact h | exact hexedR_in _ | exact memR_iin _ _ _ h
theorem putAll_iin : ∀ (ks : List Int) (gs : List (List UInt8)) (x : Insn), IIn x → IIn (putAll ks gs x)
  | [], _, x, h => by simpa [putAll] using h
  | k :: ks, [], x, h => by simpa [putAll] using h
  | k :: ks, g :: gs, x, h => putAll_iin ks gs _ (putR_iin k g x h)
theorem readR_iin {s : List UInt8} {x : Insn} (h : readR s = some x) : IIn x := by
  unfold readR at h
  dsimp only at h
  split at h
  · injection h with h
    subst h
    exact putAll_iin _ _ _ ⟨Int.le_refl 0, show (0 : Int) < 4294967296 by decide⟩
  · cases h
theorem readOp_iin {c : UInt8} {g : List UInt8} {x y : Insn} (h : IIn x) (hy : readOp c g x = some y) : IIn y := by
  have mp : ∀ (o : Option Int) (f : Int → Insn), (∀ v, IIn (f v)) → o.map f = some y → IIn y := by
    intro o f hf he
    cases o with
    | none => cases he
    | some v => injection he with he; subst he; exact hf v
  revert hy
  unfold readOp
  repeat' (refine ite_P (P := fun o : Option Insn => o = some y → IIn y) ?_ ?_)
  all_goals (intro hy)
  all_goals first
    | (refine mp _ _ ?_ hy; exact fun _ => h)
    | (injection hy with hy; subst hy; exact h)
    | (cases hu : unhexOf g with
       | none => rw [hu] at hy; cases hy
       | some v =>
         rw [hu] at hy; injection hy with hy; subst hy
         have := unhexOf_in hu
         exact ⟨this.1, by show v < _; omega⟩)
    | skip
  · unfold nOp at hy
    split at hy
    · cases hy
    · rename_i p _
      cases hu : unhexOf (Lib.trimPrefix p.2 [43]) with
      | none => rw [hu] at hy; cases hy
      | some v =>
        rw [hu] at hy; injection hy with hy; subst hy
        have := unhexOf_in hu
        exact ⟨this.1, by show v < _; omega⟩
  · unfold mOp at hy
    split at hy
    · cases hy
    · split at hy
      · injection hy with hy; subst hy; exact h
      · refine mp _ _ ?_ hy; exact fun _ => h
theorem readAll_iin : ∀ (l : List UInt8) (gs : List (List UInt8)) (x y : Insn), IIn x → readAll l gs x = some y → IIn y
  | [], _, x, y, h, hy => by simp [readAll] at hy; subst hy; exact h
  | c :: l, [], x, y, h, hy => by simp [readAll] at hy; subst hy; exact h
  | c :: l, g :: gs, x, y, h, hy => by
    change (readOp c g x).bind (readAll l gs) = some y at hy
    cases hr : readOp c g x with
    | none => rw [hr] at hy; cases hy
    | some z => rw [hr] at hy; exact readAll_iin l gs z y (readOp_iin h hr) hy
theorem parsedOf_iin {s : List UInt8} {x : Insn} (h : parsedOf s = some x) : IIn x := by
  unfold parsedOf at h
  dsimp only at h
  split at h
  · exact readAll_iin _ _ _ _ ⟨Int.le_refl 0, show (0 : Int) < 4294967296 by decide⟩ h
  · cases h
/-- Both readers answer alike. -/
theorem parseR_is (s : List UInt8) : parseR s = parseOf s := by
  by_cases h : ∃ x : Insn, x.valid = true ∧ IIn x ∧ textL x = s
  · obtain ⟨x, hv, hi, rfl⟩ := h
    rw [parseR_text hv hi.1 hi.2, parse_text hv hi.1 hi.2]
  · have h1 : parseR s = (insn0, 4) := by
      unfold parseR
      split
      · rename_i x hx
        exact if_neg fun e => h ⟨x, e.1, readR_iin hx, e.2⟩
      · rfl
    have h2 : parseOf s = (insn0, 4) := by
      unfold parseOf
      split
      · rename_i x hx
        exact if_neg fun e => h ⟨x, e.1, parsedOf_iin hx, e.2⟩
      · rfl
    rw [h1, h2]
/-- What a text is, where it is read. -/
theorem parseOf_cases (s : List UInt8) : (∃ x : Insn, parseOf s = (x, 0) ∧ x.valid = true ∧ IIn x ∧ textL x = s) ∨ parseOf s = (insn0, 4) := by
  unfold parseOf
  split
  · rename_i x hx
    split
    · rename_i h
      exact .inl ⟨x, rfl, h.1, parsedOf_iin hx, h.2⟩
    · exact .inr rfl
  · exact .inr rfl
/-- Different instructions have different texts. -/
theorem text_inj {x y : Insn} (hx : x.valid = true) (hy : y.valid = true) (ix : IIn x) (iy : IIn y) : textL x = textL y ↔ x = y := by
  constructor
  · intro h
    have h1 := parse_text hx ix.1 ix.2
    have h2 := parse_text hy iy.1 iy.2
    rw [h, h2] at h1
    injection h1 with h1
    exact h1.symm
  · rintro rfl; rfl
end Go.Proofs.YtdkclapinedgiaaGreatDoor
