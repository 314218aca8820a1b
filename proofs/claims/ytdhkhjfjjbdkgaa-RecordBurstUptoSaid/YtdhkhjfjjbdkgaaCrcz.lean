/- The checksum's register tells two inputs apart that differ in up to 64 bits side by side. Two inputs of one length: their registers' difference is that of their bits' difference. Bytes that end with their own checksum and differ in up to 64 bits side by side are the same. -/
import Derived.Test.YtdhkhjfjjbdkgaaCrc
namespace Go.Proofs.Ytdhkhjfjjbdkgaa.Rec
open Go.RowKit
set_option linter.unusedVariables false
theorem bs_zero (r : BitVec 64) (h : bs r = 0#64) : r = 0#64 := by
  unfold bs at h
  have hm : r.msb = false := by
    cases e : r.msb with
    | false => rfl
    | true =>
      rw [e, if_pos rfl] at h
      have h0 := congrArg (fun x : BitVec 64 => x.getLsbD 0) h
      simp [poly] at h0
  rw [hm, if_neg (by decide), BitVec.xor_zero] at h
  apply BitVec.eq_of_toNat_eq
  have h2 := congrArg BitVec.toNat h
  rw [BitVec.msb_eq_decide] at hm
  simp at hm
  rw [BitVec.toNat_shiftLeft, Nat.shiftLeft_eq] at h2
  simp at h2
  have := r.isLt
  simp
  omega
def bsn : Nat → BitVec 64 → BitVec 64
  | 0, r => r
  | n + 1, r => bsn n (bs r)
theorem bsn_zero : ∀ (n : Nat) (r : BitVec 64), bsn n r = 0#64 → r = 0#64
  | 0, r, h => h
  | n + 1, r, h => bs_zero r (bsn_zero n (bs r) h)
theorem bsn_xor : ∀ (n : Nat) (a b : BitVec 64), bsn n (a ^^^ b) = bsn n a ^^^ bsn n b
  | 0, a, b => rfl
  | n + 1, a, b => by unfold bsn; rw [bs_xor, bsn_xor]
/-- A bit into the register. -/
def fb (r : BitVec 64) (b : Bool) : BitVec 64 := bs (r ^^^ (if b = true then 0x8000000000000000#64 else 0#64))
theorem bsn_zero0 : ∀ n : Nat, bsn n 0#64 = 0#64
  | 0 => rfl
  | n + 1 => by
    unfold bsn
    rw [show bs 0#64 = 0#64 by decide, bsn_zero0 n]
theorem fold_lin : ∀ (l : List Bool) (r : BitVec 64), l.foldl fb r = bsn l.length r ^^^ l.foldl fb 0#64
  | [], r => by simp [bsn]
  | b :: l, r => by
    rw [List.foldl_cons, List.foldl_cons, fold_lin l (fb r b), fold_lin l (fb 0#64 b), List.length_cons, ← BitVec.xor_assoc]
    congr 1
    show bsn l.length (fb r b) = bsn l.length (bs r) ^^^ bsn l.length (fb 0#64 b)
    rw [← bsn_xor]
    congr 1
    unfold fb
    rw [BitVec.zero_xor, bs_xor]
def bitsOf (c : Nat) : List Bool := [c.testBit 7, c.testBit 6, c.testBit 5, c.testBit 4, c.testBit 3, c.testBit 2, c.testBit 1, c.testBit 0]
theorem byte_bits : ∀ c : Fin 256, (bitsOf c.val).foldl fb 0#64 = bs4 (bs4 (BitVec.ofNat 64 c.val <<< 56)) := by decide +kernel
theorem step_bits (r : BitVec 64) (c : Nat) (h : c < 256) : step r (BitVec.ofNat 64 c) = (bitsOf c).foldl fb r := by
  rw [fold_lin, byte_bits ⟨c, h⟩]
  unfold step
  rw [bs4_xor, bs4_xor]
  rfl
/-- Bits at the register's top, the first one highest. -/
def topBits : List Bool → BitVec 64
  | [] => 0#64
  | b :: l => (topBits l >>> 1) ^^^ (if b = true then 0x8000000000000000#64 else 0#64)
theorem top_msb (b : Bool) (l : List Bool) : (topBits (b :: l)).msb = b := by
  unfold topBits
  rw [BitVec.msb_xor]
  cases b
  · simp [BitVec.msb_ushiftRight]
  · simp [BitVec.msb_ushiftRight]; decide
theorem bs_even (s v : BitVec 64) (h : bs s = v) (h0 : v.getLsbD 0 = false) : s = v >>> 1 := by
  subst h
  have hm : s.msb = false := by
    cases e : s.msb with
    | false => rfl
    | true =>
      exfalso
      unfold bs at h0
      rw [e, if_pos rfl] at h0
      simp [poly] at h0
  unfold bs
  rw [hm, if_neg (by decide), BitVec.xor_zero]
  apply BitVec.eq_of_getLsbD_eq
  intro i hi
  rw [BitVec.getLsbD_ushiftRight, BitVec.getLsbD_shiftLeft]
  by_cases h63 : i = 63
  · subst h63
    rw [BitVec.msb_eq_getLsbD_last] at hm
    simpa using hm
  · simp; omega
theorem top_bit : ∀ (l : List Bool) (i : Nat), i + l.length < 64 → (topBits l).getLsbD i = false
  | [], i, _ => by simp [topBits]
  | b :: l, i, h => by
    rw [List.length_cons] at h
    unfold topBits
    rw [BitVec.getLsbD_xor, BitVec.getLsbD_ushiftRight, top_bit l (1 + i) (by omega), Bool.false_xor]
    cases b
    · simp
    · have : ∀ j : Fin 63, (0x8000000000000000#64).getLsbD j.val = false := by decide
      simpa using this ⟨i, by omega⟩
theorem fold_zero : ∀ (W : List Bool) (r : BitVec 64), W.length ≤ 64 → W.foldl fb r = 0#64 → r = topBits W
  | [], r, _, h => h
  | b :: l, r, hl, h => by
    rw [List.length_cons] at hl
    have h1 := fold_zero l (fb r b) (by omega) h
    have h2 := bs_even _ _ h1 (top_bit l 0 (by omega))
    unfold topBits
    rw [← h2, BitVec.xor_assoc, BitVec.xor_self, BitVec.xor_zero]
theorem top_zero : ∀ (W : List Bool), W.length ≤ 64 → topBits W = 0#64 → ∀ b ∈ W, b = false
  | [], _, _, b, hb => by cases hb
  | a :: l, hl, h, b, hb => by
    rw [List.length_cons] at hl
    have ha : a = false := by rw [← top_msb a l, h]; decide
    subst ha
    have h2 : topBits l >>> 1 = 0#64 := by unfold topBits at h; simpa using h
    have h3 : topBits l = 0#64 := by
      apply BitVec.eq_of_getLsbD_eq
      intro i hi
      cases i with
      | zero => rw [top_bit l 0 (by omega)]; simp
      | succ i =>
        have := congrArg (fun x : BitVec 64 => x.getLsbD i) h2
        simp [BitVec.getLsbD_ushiftRight] at this
        rw [Nat.add_comm]; simpa using this
    rcases List.mem_cons.1 hb with rfl | hb
    · rfl
    · exact top_zero l (by omega) h3 b hb
theorem fb_zeros : ∀ (n : Nat), (List.replicate n false).foldl fb 0#64 = 0#64
  | 0 => rfl
  | n + 1 => by
    rw [List.replicate_succ, List.foldl_cons, show fb 0#64 false = 0#64 by decide, fb_zeros n]
end Go.Proofs.Ytdhkhjfjjbdkgaa.Rec
namespace Go.Proofs.Ytdhkhjfjjbdkgaa.Rec
open Go.RowKit
set_option linter.unusedVariables false
def bitsL (l : List Int) : List Bool := l.flatMap (fun c => bitsOf c.toNat)
theorem crcv_bits : ∀ (l : List Int) (r : BitVec 64), Bytes l → crcv r l = (bitsL l).foldl fb r
  | [], r, _ => rfl
  | c :: l, r, h => by
    have hc := h c (by simp)
    have ih := crcv_bits l (step r (BitVec.ofNat 64 c.toNat)) (fun x hx => h x (by simp [hx]))
    unfold crcv at ih ⊢
    rw [List.foldl_cons, ih, step_bits r c.toNat (by omega)]
    unfold bitsL
    rw [List.flatMap_cons, List.foldl_append]
def xorB (a b : List Bool) : List Bool := List.zipWith (fun x y => x ^^ y) a b
theorem fold_xor : ∀ (a b : List Bool) (r s : BitVec 64), a.length = b.length → a.foldl fb r ^^^ b.foldl fb s = (xorB a b).foldl fb (r ^^^ s)
  | [], [], r, s, _ => rfl
  | [], b :: bs, r, s, h => by simp at h
  | a :: as_, [], r, s, h => by simp at h
  | a :: as_, b :: bs_, r, s, h => by
    have := fold_xor as_ bs_ (fb r a) (fb s b) (by simpa using h)
    rw [List.foldl_cons, List.foldl_cons, this]
    unfold xorB
    rw [List.zipWith_cons_cons, List.foldl_cons]
    congr 1
    unfold fb
    rw [← bs_xor, xor_pair]
    cases a <;> cases b <;> simp
theorem fold_top : ∀ (W : List Bool), W.length ≤ 64 → W.foldl fb (topBits W) = 0#64
  | [], _ => rfl
  | b :: l, hl => by
    rw [List.length_cons] at hl
    rw [List.foldl_cons]
    have h0 := top_bit l 0 (by omega)
    have : fb (topBits (b :: l)) b = topBits l := by
      unfold fb
      rw [topBits, BitVec.xor_assoc, BitVec.xor_self, BitVec.xor_zero]
      unfold bs
      have hm : (topBits l >>> 1).msb = false := by simp [BitVec.msb_ushiftRight]
      rw [hm, if_neg (by decide), BitVec.xor_zero]
      apply BitVec.eq_of_getLsbD_eq
      intro i hi
      rw [BitVec.getLsbD_shiftLeft]
      cases i with
      | zero => rw [h0]; simp
      | succ i => simp [BitVec.getLsbD_ushiftRight]; rw [Nat.add_comm, decide_eq_true (by omega), Bool.true_and]
    rw [this]
    exact fold_top l (by omega)
end Go.Proofs.Ytdhkhjfjjbdkgaa.Rec
namespace Go.Proofs.Ytdhkhjfjjbdkgaa.Rec
open Go.RowKit
set_option linter.unusedVariables false
theorem bits_app (a b : List Int) : bitsL (a ++ b) = bitsL a ++ bitsL b := List.flatMap_append
theorem bits_len : ∀ (l : List Int), (bitsL l).length = 8 * l.length
  | [] => rfl
  | c :: l => by
    have ih := bits_len l
    unfold bitsL at ih ⊢
    rw [List.flatMap_cons, List.length_append, ih, List.length_cons]
    simp only [bitsOf, List.length_cons, List.length_nil]
    omega
/-- Bit i of bytes, each byte's highest first. -/
def bitAt (l : List Int) (i : Nat) : Bool := (l.getD (i / 8) 0).toNat.testBit (7 - i % 8)
theorem bitsOf_get (c : Nat) (r : Nat) (h : r < 8) (t : List Bool) : (bitsOf c ++ t).getD r false = c.testBit (7 - r) := by
  have : r = 0 ∨ r = 1 ∨ r = 2 ∨ r = 3 ∨ r = 4 ∨ r = 5 ∨ r = 6 ∨ r = 7 := by omega
  rcases this with rfl | rfl | rfl | rfl | rfl | rfl | rfl | rfl <;> rfl
theorem bits_get : ∀ (l : List Int) (i : Nat), (bitsL l).getD i false = bitAt l i
  | [], i => by simp [bitsL, bitAt]
  | c :: l, i => by
    have e : bitsL (c :: l) = bitsOf c.toNat ++ bitsL l := by unfold bitsL; rw [List.flatMap_cons]
    rw [e]
    by_cases h : i < 8
    · rw [bitsOf_get _ _ h]
      unfold bitAt
      rw [Nat.div_eq_of_lt h, Nat.mod_eq_of_lt h]; rfl
    · have h8 : (bitsOf c.toNat).length = 8 := rfl
      have ih := bits_get l (i - 8)
      rw [List.getD_eq_getElem?_getD, List.getElem?_append_right (by omega), ← List.getD_eq_getElem?_getD, h8, ih]
      unfold bitAt
      have h1 : i / 8 = (i - 8) / 8 + 1 := by omega
      have h2 : i % 8 = (i - 8) % 8 := by omega
      rw [h1, h2, List.getD_cons_succ]
theorem top_get : ∀ (l : List Bool) (i : Nat), (topBits l).getLsbD i = (decide (i < 64) && l.getD (63 - i) false)
  | [], i => by simp [topBits]
  | b :: l, i => by
    unfold topBits
    rw [BitVec.getLsbD_xor, BitVec.getLsbD_ushiftRight, top_get l (1 + i)]
    by_cases h : i < 63
    · have : ∀ j : Fin 63, (0x8000000000000000#64).getLsbD j.val = false := by decide
      have hz := this ⟨i, h⟩
      dsimp only at hz
      rw [decide_eq_true (show 1 + i < 64 by omega), decide_eq_true (show i < 64 by omega), show 63 - i = (63 - (1 + i)) + 1 by omega, List.getD_cons_succ]
      cases b
      · simp
      · rw [if_pos rfl, hz]; simp
    · by_cases h3 : i = 63
      · subst h3
        cases b
        · simp
        · simp
      · rw [decide_eq_false (by omega), decide_eq_false (by omega)]
        cases b
        · simp
        · rw [if_pos rfl, BitVec.getLsbD_of_ge _ _ (by omega)]; simp
theorem be_getD (s n q : Nat) (h : q < s) : (be s n).getD q 0 = (((n / 256 ^ (s - 1 - q) % 256 : Nat)) : Int) := by
  rw [List.getD_eq_getElem?_getD, be_get s n q h]; rfl
theorem top_be (r : BitVec 64) : topBits (bitsL (be 8 r.toNat)) = r := by
  apply BitVec.eq_of_getLsbD_eq
  intro i hi
  rw [top_get, decide_eq_true hi, Bool.true_and, bits_get]
  unfold bitAt
  rw [be_getD 8 _ _ (by omega), Int.toNat_natCast, show (256 : Nat) = 2 ^ 8 from rfl, ← Nat.pow_mul, Nat.testBit_mod_two_pow, Nat.testBit_div_two_pow]
  rw [decide_eq_true (by omega), Bool.true_and, BitVec.getLsbD]
  congr 1
  omega
theorem crcv_app (r : BitVec 64) (a b : List Int) : crcv r (a ++ b) = crcv (crcv r a) b := by unfold crcv; rw [List.foldl_append]
theorem crcv_self (m : List Int) : crcv ones (m ++ be 8 (crc m).toNat) = 0#64 := by
  rw [crcv_app, crcv_bits _ _ (be_bytes _ _), show (crc m).toNat = (crcv ones m).toNat by unfold crc; omega]
  have := fold_top (bitsL (be 8 (crcv ones m).toNat)) (by rw [bits_len, be_len]; omega)
  rwa [top_be] at this
/-- Bytes of one length that differ, if at all, in 64 bits side by side. -/
def Near (a b : List Int) : Prop := a.length = b.length ∧ ∃ p : Int, ∀ i : Nat, ((i : Int) < p ∨ p + 64 ≤ i) → bitAt a i = bitAt b i
theorem bitAt_left (a b : List Int) (i : Nat) (h : i < 8 * a.length) : bitAt (a ++ b) i = bitAt a i := by
  unfold bitAt
  rw [List.getD_eq_getElem?_getD, List.getElem?_append_left (by omega), ← List.getD_eq_getElem?_getD]
theorem bitAt_right (a b : List Int) (i : Nat) : bitAt (a ++ b) (i + 8 * a.length) = bitAt b i := by
  unfold bitAt
  rw [List.getD_eq_getElem?_getD, List.getElem?_append_right (by omega), ← List.getD_eq_getElem?_getD]
  congr 2
  · congr 1; omega
  · omega
theorem bitAt_out (a : List Int) (i : Nat) (h : 8 * a.length ≤ i) : bitAt a i = false := by
  unfold bitAt
  rw [List.getD_eq_getElem?_getD, List.getElem?_eq_none (by omega)]
  simp
theorem Near.left {a b a' b' : List Int} (h : Near (a ++ b) (a' ++ b')) (hl : a.length = a'.length) : Near a a' := by
  obtain ⟨h1, p, hp⟩ := h
  refine ⟨hl, p, fun i hi => ?_⟩
  by_cases hlt : i < 8 * a.length
  · have := hp i hi
    rwa [bitAt_left _ _ _ hlt, bitAt_left _ _ _ (by omega)] at this
  · rw [bitAt_out _ _ (by omega), bitAt_out _ _ (by omega)]
theorem Near.right {a b a' b' : List Int} (h : Near (a ++ b) (a' ++ b')) (hl : a.length = a'.length) : Near b b' := by
  obtain ⟨h1, p, hp⟩ := h
  refine ⟨by rw [List.length_append, List.length_append] at h1; omega, p - 8 * a.length, fun i hi => ?_⟩
  have := hp (i + 8 * a.length) (by omega)
  rw [bitAt_right] at this
  rwa [hl, bitAt_right] at this
theorem bits_eq {a b : List Int} (hl : a.length = b.length) (ha : Bytes a) (hb : Bytes b) (h : ∀ i, bitAt a i = bitAt b i) : a = b := by
  apply List.ext_getElem hl
  intro q h1 h2
  have hA := ha _ (List.getElem_mem h1)
  have hB := hb _ (List.getElem_mem h2)
  have key : (a[q]).toNat = (b[q]).toNat := by
    apply Nat.eq_of_testBit_eq
    intro r
    by_cases hr : r < 8
    · have := h (8 * q + (7 - r))
      unfold bitAt at this
      rw [show (8 * q + (7 - r)) / 8 = q by omega, show 7 - (8 * q + (7 - r)) % 8 = r by omega] at this
      rw [List.getD_eq_getElem?_getD, List.getD_eq_getElem?_getD, List.getElem?_eq_getElem h1, List.getElem?_eq_getElem h2] at this
      exact this
    · have hp : (2 : Nat) ^ 8 ≤ 2 ^ r := Nat.pow_le_pow_right (by decide) (by omega)
      rw [Nat.testBit_lt_two_pow (by omega), Nat.testBit_lt_two_pow (by omega)]
  omega
theorem xorB_get : ∀ (a b : List Bool) (i : Nat), a.length = b.length → (xorB a b).getD i false = (a.getD i false ^^ b.getD i false)
  | [], [], i, _ => by simp [xorB]
  | [], b :: bs, i, h => by simp at h
  | a :: as_, [], i, h => by simp at h
  | a :: as_, b :: bs_, i, h => by
    have ih := fun i => xorB_get as_ bs_ i (by simpa using h)
    unfold xorB at ih ⊢
    rw [List.zipWith_cons_cons]
    cases i with
    | zero => rfl
    | succ i => rw [List.getD_cons_succ, List.getD_cons_succ, List.getD_cons_succ]; exact ih i
theorem all_false : ∀ (l : List Bool), (∀ i, l.getD i false = false) → l = List.replicate l.length false
  | [], _ => rfl
  | b :: l, h => by
    have h0 := h 0
    have ih := all_false l (fun i => h (i + 1))
    rw [List.length_cons, List.replicate_succ, ← ih]
    congr 1
theorem window_zero (D : List Bool) (p : Nat) (hw : ∀ i, (i < p ∨ p + 64 ≤ i) → D.getD i false = false) (h : D.foldl fb 0#64 = 0#64) : ∀ i, D.getD i false = false := by
  have e : D = D.take p ++ ((D.drop p).take 64 ++ (D.drop p).drop 64) := by rw [List.take_append_drop, List.take_append_drop]
  have h1 : D.take p = List.replicate (D.take p).length false := all_false _ (fun i => by
    rw [List.getD_eq_getElem?_getD, List.getElem?_take]
    split
    · rw [← List.getD_eq_getElem?_getD]; exact hw i (.inl (by assumption))
    · rfl)
  have h3 : (D.drop p).drop 64 = List.replicate ((D.drop p).drop 64).length false := all_false _ (fun i => by
    rw [List.getD_eq_getElem?_getD, List.getElem?_drop, List.getElem?_drop, ← List.getD_eq_getElem?_getD]; exact hw _ (.inr (by omega)))
  have h2 : ((D.drop p).take 64).foldl fb 0#64 = 0#64 := by
    rw [e, List.foldl_append, List.foldl_append, h1, fb_zeros, h3, fold_lin, fb_zeros, BitVec.xor_zero] at h
    exact bsn_zero _ _ h
  have h4 := fold_zero _ _ (by rw [List.length_take]; omega) h2
  have h5 := top_zero _ (by rw [List.length_take]; omega) h4.symm
  intro i
  by_cases hi : i < p ∨ p + 64 ≤ i
  · exact hw i hi
  · have hlt : i - p < 64 := by omega
    have : D.getD i false = ((D.drop p).take 64).getD (i - p) false := by
      rw [List.getD_eq_getElem?_getD, List.getD_eq_getElem?_getD, List.getElem?_take, if_pos hlt, List.getElem?_drop, show p + (i - p) = i by omega]
    rw [this]
    by_cases hl : i - p < ((D.drop p).take 64).length
    · rw [List.getD_eq_getElem?_getD, List.getElem?_eq_getElem hl]
      exact h5 _ (List.getElem_mem hl)
    · rw [List.getD_eq_getElem?_getD, List.getElem?_eq_none (by omega)]; rfl
/-- Two messages with their sums behind them that differ in 64 bits side by side are one. -/
theorem near_eq {m m' : List Int} (hm : Bytes m) (hm' : Bytes m') (h : Near (m ++ be 8 (crc m).toNat) (m' ++ be 8 (crc m').toNat)) : m ++ be 8 (crc m).toNat = m' ++ be 8 (crc m').toNat := by
  have hA : Bytes (m ++ be 8 (crc m).toNat) := fun x hx => by
    rcases List.mem_append.1 hx with hx | hx
    · exact hm x hx
    · exact be_bytes _ _ x hx
  have hB : Bytes (m' ++ be 8 (crc m').toNat) := fun x hx => by
    rcases List.mem_append.1 hx with hx | hx
    · exact hm' x hx
    · exact be_bytes _ _ x hx
  have z1 := crcv_self m
  have z2 := crcv_self m'
  revert hA hB h z1 z2
  generalize m ++ be 8 (crc m).toNat = a
  generalize m' ++ be 8 (crc m').toNat = b
  intro h hA hB z1 z2
  obtain ⟨hl, p, hp⟩ := h
  have hbl : (bitsL a).length = (bitsL b).length := by rw [bits_len, bits_len, hl]
  have hf := fold_xor (bitsL a) (bitsL b) ones ones hbl
  rw [← crcv_bits _ _ hA, ← crcv_bits _ _ hB, z1, z2, BitVec.xor_self, BitVec.xor_self] at hf
  have hD : ∀ i, (xorB (bitsL a) (bitsL b)).getD i false = (bitAt a i ^^ bitAt b i) := fun i => by rw [xorB_get _ _ _ hbl, bits_get, bits_get]
  have := window_zero _ p.toNat (fun i hi => by
    rw [hD, hp i (by omega)]; simp) hf.symm
  refine bits_eq hl hA hB (fun i => ?_)
  have h1 := this i
  rw [hD] at h1
  revert h1
  cases bitAt a i <;> cases bitAt b i <;> simp
end Go.Proofs.Ytdhkhjfjjbdkgaa.Rec
