/- The checksum by nibbles and the checksum bit by bit are one. Numbers as bytes, the highest first. -/
import Derived.Test.YtdhkhjfjjbdkgaaSum
import Derived.Test.YtdhkhjfjjbdkgaaRLx4
import Derived.Test.YtdhkhjfjjbdkgaaRdr
import Derived.Test.YtdhkhjfjjbdkgaaRLx2
namespace Go.Proofs.Ytdhkhjfjjbdkgaa.Rec
open Go.RowKit Go.Proofs.YtdhkhjfjjbdkgaaW.PrintWords Go.Proofs.YtdhkhjfjjbdkgaaW.PrintLast Go.Proofs.YtdhkhjfjjbdkgaaW.PrintMore
set_option linter.unusedVariables false
set_option linter.unusedSimpArgs false
def poly : BitVec 64 := 0x42F0E1EBA9EA3693#64
/-- One bit's step of the register. -/
def bs (r : BitVec 64) : BitVec 64 := (r <<< 1) ^^^ (if r.msb = true then poly else 0#64)
theorem xor_pair (a b c d : BitVec 64) : (a ^^^ b) ^^^ (c ^^^ d) = (a ^^^ c) ^^^ (b ^^^ d) := by
  rw [BitVec.xor_assoc, ← BitVec.xor_assoc b c d, BitVec.xor_comm b c, BitVec.xor_assoc c b d, ← BitVec.xor_assoc]
theorem bs_xor (a b : BitVec 64) : bs (a ^^^ b) = bs a ^^^ bs b := by
  unfold bs
  rw [BitVec.shiftLeft_xor_distrib, BitVec.msb_xor, xor_pair]
  congr 1
  cases a.msb <;> cases b.msb <;> simp
def bs4 (r : BitVec 64) : BitVec 64 := bs (bs (bs (bs r)))
theorem bs4_xor (a b : BitVec 64) : bs4 (a ^^^ b) = bs4 a ^^^ bs4 b := by
  unfold bs4; rw [bs_xor, bs_xor, bs_xor, bs_xor]
theorem bs_low (a : BitVec 64) (h : a.toNat < 2 ^ 63) : bs a = a <<< 1 := by
  unfold bs
  rw [if_neg (by rw [BitVec.msb_eq_decide]; simp; omega)]
  simp
theorem shl_nat (a : BitVec 64) (k : Nat) (h : a.toNat * 2 ^ k < 2 ^ 64) : (a <<< k).toNat = a.toNat * 2 ^ k := by
  rw [BitVec.toNat_shiftLeft, Nat.shiftLeft_eq, Nat.mod_eq_of_lt h]
theorem bs4_low (a : BitVec 64) (h : a.toNat < 2 ^ 60) : bs4 a = a <<< 4 := by
  unfold bs4
  have h1 := shl_nat a 1 (by omega)
  have h2 := shl_nat a 2 (by omega)
  have h3 := shl_nat a 3 (by omega)
  have e2 : bs (a <<< 1) = a <<< 2 := by rw [bs_low _ (by omega), ← BitVec.shiftLeft_add]
  have e3 : bs (a <<< 2) = a <<< 3 := by rw [bs_low _ (by omega), ← BitVec.shiftLeft_add]
  have e4 : bs (a <<< 3) = a <<< 4 := by rw [bs_low _ (by omega), ← BitVec.shiftLeft_add]
  rw [bs_low a (by omega), e2, e3, e4]
/-- A row of the table. -/
def tabv (i : Nat) : BitVec 64 := bs4 (BitVec.ofNat 64 i <<< 60)
theorem tab_is : ∀ i : Fin 16, crcTab.getD i.val 0 = ((tabv i.val).toNat : Int) := by decide +kernel
theorem split60 (r : BitVec 64) : r = (BitVec.ofNat 64 (r.toNat / 2 ^ 60) <<< 60) ^^^ BitVec.ofNat 64 (r.toNat % 2 ^ 60) := by
  apply BitVec.eq_of_toNat_eq
  have hr := r.isLt
  have h1 : (BitVec.ofNat 64 (r.toNat / 2 ^ 60)).toNat = r.toNat / 2 ^ 60 := by rw [BitVec.toNat_ofNat]; omega
  rw [BitVec.toNat_xor, shl_nat _ _ (by rw [h1]; omega), h1, BitVec.toNat_ofNat, Nat.mod_eq_of_lt (show r.toNat % 2 ^ 60 < 2 ^ 64 by omega)]
  have h2 : r.toNat = 2 ^ 60 * (r.toNat / 2 ^ 60) + r.toNat % 2 ^ 60 := by omega
  have h3 := Nat.two_pow_add_eq_or_of_lt (i := 60) (b := r.toNat % 2 ^ 60) (Nat.mod_lt _ (by decide)) (r.toNat / 2 ^ 60)
  rw [Nat.mul_comm]
  have h4 : (2 ^ 60 * (r.toNat / 2 ^ 60)) &&& (r.toNat % 2 ^ 60) = 0 := by
    apply Nat.eq_of_testBit_eq
    intro i
    rw [Nat.testBit_and, Nat.testBit_two_pow_mul, Nat.testBit_mod_two_pow, Nat.zero_testBit]
    by_cases h : i < 60
    · rw [decide_eq_false (show ¬ 60 ≤ i by omega), Bool.false_and, Bool.false_and]
    · rw [decide_eq_false h, Bool.false_and, Bool.and_false]
  have h5 : ∀ x y : Nat, x &&& y = 0 → x ^^^ y = x ||| y := by
    intro x y hxy
    apply Nat.eq_of_testBit_eq
    intro i
    have := congrArg (Nat.testBit · i) hxy
    simp only [Nat.testBit_and, Nat.zero_testBit] at this
    rw [Nat.testBit_xor, Nat.testBit_or]
    revert this
    cases x.testBit i <;> cases y.testBit i <;> intro this <;> first | rfl | exact absurd this (by decide)
  rw [h5 _ _ h4, ← h3]
  exact h2
theorem bs4_tab (r : BitVec 64) : bs4 r = (r <<< 4) ^^^ tabv (r.toNat / 2 ^ 60) := by
  have hr := r.isLt
  have hl : (BitVec.ofNat 64 (r.toNat % 2 ^ 60)).toNat < 2 ^ 60 := by rw [BitVec.toNat_ofNat]; omega
  have e : r <<< 4 = (BitVec.ofNat 64 (r.toNat / 2 ^ 60) <<< 60) <<< 4 ^^^ BitVec.ofNat 64 (r.toNat % 2 ^ 60) <<< 4 := by
    rw [← BitVec.shiftLeft_xor_distrib, ← split60]
  have z : (BitVec.ofNat 64 (r.toNat / 2 ^ 60) <<< 60) <<< 4 = 0#64 := by
    rw [← BitVec.shiftLeft_add]; exact BitVec.shiftLeft_eq_zero (by decide)
  rw [e, z, BitVec.zero_xor]
  conv => lhs; rw [split60 r, bs4_xor, bs4_low _ hl]
  rw [BitVec.xor_comm]
  rfl
theorem nib_is (r : BitVec 64) : crcNib (r.toNat : Int) = ((bs4 r).toNat : Int) := by
  unfold crcNib
  have hr := r.isLt
  rw [IntKind.wrap_u64, show ((r.toNat : Int) / 1152921504606846976).toNat = r.toNat / 2 ^ 60 by omega]
  rw [tab_is ⟨r.toNat / 2 ^ 60, by omega⟩]
  rw [show (r.toNat : Int) * (16 : Int) % (18446744073709551616 : Int) = (((r <<< 4).toNat : Nat) : Int) by rw [BitVec.toNat_shiftLeft, Nat.shiftLeft_eq]; omega]
  rw [bits_xor_u64_nat _ _ (r <<< 4).isLt (tabv _).isLt, ← BitVec.toNat_xor, bs4_tab]
/-- A byte's step. -/
def step (r c : BitVec 64) : BitVec 64 := bs4 (bs4 (r ^^^ (c <<< 56)))
theorem step_is (r : BitVec 64) (c : Nat) (hc : c < 256) : crcStep (r.toNat : Int) (c : Int) = ((step r (BitVec.ofNat 64 c)).toNat : Int) := by
  unfold crcStep step
  have h1 : IntKind.u64.wrap (IntKind.u64.wrap (c : Int) * 72057594037927936) = ((((BitVec.ofNat 64 c) <<< 56).toNat : Nat) : Int) := by
    rw [IntKind.wrap_u64, IntKind.wrap_u64, BitVec.toNat_shiftLeft, Nat.shiftLeft_eq, BitVec.toNat_ofNat]; omega
  rw [h1, bits_xor_u64_nat _ _ r.isLt (BitVec.isLt _), ← BitVec.toNat_xor, nib_is, nib_is]
/-- The register behind bytes. -/
def crcv (r : BitVec 64) (l : List Int) : BitVec 64 := l.foldl (fun r c => step r (BitVec.ofNat 64 c.toNat)) r
def Bytes (l : List Int) : Prop := ∀ x ∈ l, 0 ≤ x ∧ x < 256
theorem fold_is : ∀ (l : List Int) (r : BitVec 64), Bytes l → l.foldl crcStep (r.toNat : Int) = ((crcv r l).toNat : Int)
  | [], r, _ => rfl
  | c :: l, r, h => by
    have hc := h c (by simp)
    obtain ⟨n, rfl⟩ := Int.eq_ofNat_of_zero_le hc.1
    rw [List.foldl_cons, step_is r n (by omega), fold_is l _ (fun x hx => h x (by simp [hx]))]
    simp [crcv]
def ones : BitVec 64 := 0xFFFFFFFFFFFFFFFF#64
/-- The checksum. -/
def crc (l : List Int) : Int := ((crcv ones l).toNat : Int)
theorem sum_is (l : List Int) (h : Bytes l) (hl : l.length ≤ 9223372036854775807) : word_Sum.f l = some (crc l) := by
  unfold word_Sum.f
  rw [if_pos hl]
  have := fold_is l ones h
  rw [show ((ones.toNat : Nat) : Int) = 18446744073709551615 from rfl] at this
  rw [this]; rfl
theorem crc_bd (l : List Int) : 0 ≤ crc l ∧ crc l < 18446744073709551616 := by
  have := (crcv ones l).isLt
  unfold crc; omega
/-- One bit of the reference's. -/
def rs (p : BitVec 64 × BitVec 64) : BitVec 64 × BitVec 64 := ((p.1 <<< 1) ^^^ (if (p.1.msb ^^ p.2.getLsbD 7) = true then poly else 0#64), p.2 <<< 1)
theorem rs_inv (p : BitVec 64 × BitVec 64) : (rs p).1 ^^^ ((rs p).2 <<< 56) = bs (p.1 ^^^ (p.2 <<< 56)) := by
  unfold rs bs
  dsimp only
  have hm : (p.2 <<< 56).msb = p.2.getLsbD 7 := by
    rw [BitVec.msb_eq_getLsbD_last, BitVec.getLsbD_shiftLeft]; simp
  rw [BitVec.msb_xor, hm, BitVec.shiftLeft_xor_distrib, ← BitVec.shiftLeft_add, ← BitVec.shiftLeft_add]
  rw [BitVec.xor_assoc, BitVec.xor_assoc, BitVec.xor_comm (p.2 <<< _)]
theorem rs8 (r c : BitVec 64) : (rs (rs (rs (rs (rs (rs (rs (rs (r, c))))))))).1 = step r c := by
  have z : (rs (rs (rs (rs (rs (rs (rs (rs (r, c))))))))).2 <<< 56 = 0#64 := by
    simp only [rs, ← BitVec.shiftLeft_add]
    exact BitVec.shiftLeft_eq_zero (by decide)
  have h := rs_inv (rs (rs (rs (rs (rs (rs (rs (r, c))))))))
  rw [z, BitVec.xor_zero] at h
  rw [h, rs_inv, rs_inv, rs_inv, rs_inv, rs_inv, rs_inv, rs_inv]
  rfl
theorem l1_step (k : Nat) (l : List Int) (p : BitVec 64 × BitVec 64) (x4 : Int) (i : Nat) (hi : i < 8) :
    larderref1_Sum.l1 (k + 1) l (p.1.toNat : Int) x4 (p.2.toNat : Int) (i : Int) = larderref1_Sum.l1 k l ((rs p).1.toNat : Int) x4 ((rs p).2.toNat : Int) ((i + 1 : Nat) : Int) := by
  obtain ⟨X, C⟩ := p
  have hX := X.isLt
  have hC := C.isLt
  have hw : wrap64 ((i : Int) + 1) = ((i + 1 : Nat) : Int) := by unfold wrap64; omega
  have hc2 : IntKind.u64.wrap ((C.toNat : Int) * 2) = (((C <<< 1).toNat : Nat) : Int) := by
    rw [IntKind.wrap_u64, BitVec.toNat_shiftLeft, Nat.shiftLeft_eq]; omega
  have hx2 : IntKind.u64.wrap ((X.toNat : Int) * 2) = (((X <<< 1).toNat : Nat) : Int) := by
    rw [IntKind.wrap_u64, BitVec.toNat_shiftLeft, Nat.shiftLeft_eq]; omega
  have hbx : (X.toNat : Int) / 9223372036854775808 = ((X.msb.toNat : Nat) : Int) := by
    rw [BitVec.msb_eq_decide]
    by_cases h : 2 ^ 63 ≤ X.toNat
    · rw [decide_eq_true (by omega)]; simp; omega
    · rw [decide_eq_false (by omega)]; simp; omega
  have hbc : Go.bits .and .u64 ((C.toNat : Int) / 128) 1 = (((C.getLsbD 7).toNat : Nat) : Int) := by
    rw [show (C.toNat : Int) / 128 = ((C.toNat / 128 : Nat) : Int) by omega, show (1 : Int) = ((1 : Nat) : Int) from rfl]
    rw [(bits_nat .u64 64 (by decide) (fun n h0 h1 => by rw [IntKind.wrap_u64]; omega) (C.toNat / 128) 1 (by omega) (by decide)).1]
    congr 1
    rw [Nat.and_one_is_mod, BitVec.getLsbD, Nat.testBit_eq_decide_div_mod_eq]
    by_cases h : C.toNat / 2 ^ 7 % 2 = 1
    · rw [decide_eq_true h]; simp at h ⊢; omega
    · rw [decide_eq_false h]; simp at h ⊢; omega
  have hcond : (Go.bits .xor .u64 ((X.toNat : Int) / 9223372036854775808) (Go.bits .and .u64 ((C.toNat : Int) / 128) 1) = 1) ↔ ((X.msb ^^ C.getLsbD 7) = true) := by
    rw [hbx, hbc]
    rw [bits_xor_u64_nat _ _ (by cases X.msb <;> simp) (by cases C.getLsbD 7 <;> simp)]
    cases X.msb <;> cases C.getLsbD 7 <;> simp
  conv => lhs; unfold larderref1_Sum.l1
  dsimp only
  rw [if_pos (show (i : Int) < 8 by omega)]
  unfold rs
  dsimp only
  by_cases h : (X.msb ^^ C.getLsbD 7) = true
  · rw [if_pos (hcond.2 h), if_pos h, hw, hc2, hx2]
    rw [show (4823603603198064275 : Int) = ((poly.toNat : Nat) : Int) from rfl, bits_xor_u64_nat _ _ (X <<< 1).isLt poly.isLt, ← BitVec.toNat_xor]
  · rw [if_neg (fun h' => h (hcond.1 h')), if_neg h, hw, hc2, hx2, BitVec.xor_zero]
theorem l1_all (k : Nat) (l : List Int) (r c : BitVec 64) (x4 : Int) : larderref1_Sum.l1 (k + 9) l (r.toNat : Int) x4 (c.toNat : Int) 0 = larderref1_Sum.l0 k l ((step r c).toNat : Int) (wrap64 (x4 + 1)) := by
  rw [show (0 : Int) = ((0 : Nat) : Int) from rfl]
  have e := fun (k : Nat) (p : BitVec 64 × BitVec 64) (i : Nat) (hi : i < 8) => l1_step k l p x4 i hi
  rw [show k + 9 = (k + 8) + 1 from rfl, e _ (r, c) 0 (by decide), show k + 8 = (k + 7) + 1 from rfl, e _ _ 1 (by decide), show k + 7 = (k + 6) + 1 from rfl, e _ _ 2 (by decide), show k + 6 = (k + 5) + 1 from rfl, e _ _ 3 (by decide), show k + 5 = (k + 4) + 1 from rfl, e _ _ 4 (by decide), show k + 4 = (k + 3) + 1 from rfl, e _ _ 5 (by decide), show k + 3 = (k + 2) + 1 from rfl, e _ _ 6 (by decide), show k + 2 = (k + 1) + 1 from rfl, e _ _ 7 (by decide)]
  conv => lhs; unfold larderref1_Sum.l1
  rw [if_neg (by decide), rs8]
/-- The reference's checksum. -/
theorem ref_sum_is (l : List Int) (h : Bytes l) (hl : l.length ≤ 9223372036854775806) : Ev (fun k => larderref1_Sum.f k l) (crc l) := by
  have key : ∀ (d i : Nat) (r : BitVec 64), i + d = l.length → Ev (fun k => larderref1_Sum.l0 k l (r.toNat : Int) (i : Int)) ((crcv r (l.drop i)).toNat : Int) := by
    intro d
    induction d with
    | zero =>
      intro i r hi
      refine Ev.step (f := fun _ => some ((crcv r (l.drop i)).toNat : Int)) (fun k => ?_) (Ev.now _)
      conv => lhs; unfold larderref1_Sum.l0
      rw [if_neg (by omega), List.drop_of_length_le (by omega)]
      rfl
    | succ d ih =>
      intro i r hi
      have hlt : i < l.length := by omega
      have hb := h l[i] (List.getElem_mem hlt)
      obtain ⟨n, hn⟩ := Int.eq_ofNat_of_zero_le hb.1
      have hrd : rd l (i : Int) = (n : Int) := by unfold rd; rw [Int.toNat_natCast, List.getD_eq_getElem?_getD, List.getElem?_eq_getElem hlt]; exact hn
      have hwn : IntKind.u64.wrap (rd l (i : Int)) = ((BitVec.ofNat 64 n).toNat : Int) := by rw [hrd, IntKind.wrap_u64, BitVec.toNat_ofNat]; omega
      have hw : wrap64 ((i : Int) + 1) = ((i + 1 : Nat) : Int) := by unfold wrap64; omega
      have e : crcv r (l.drop i) = crcv (step r (BitVec.ofNat 64 n)) (l.drop (i + 1)) := by
        rw [List.drop_eq_getElem_cons hlt, hn]; rfl
      rw [e]
      obtain ⟨K, hK⟩ := ih (i + 1) (step r (BitVec.ofNat 64 n)) (by omega)
      refine ⟨K + 10, fun k hk => ?_⟩
      obtain ⟨m, rfl⟩ : ∃ m, k = (m + 9) + 1 := ⟨k - 10, by omega⟩
      conv => lhs; unfold larderref1_Sum.l0
      dsimp only
      rw [if_pos (by omega), if_pos (by omega), hwn, l1_all, hw]
      exact hK m (by omega)
  have := key l.length 0 ones (by omega)
  exact this
end Go.Proofs.Ytdhkhjfjjbdkgaa.Rec
namespace Go.Proofs.Ytdhkhjfjjbdkgaa.Rec
open Go.RowKit Go.Proofs.YtdhkhjfjjbdkgaaW.PrintWords Go.Proofs.YtdhkhjfjjbdkgaaW.PrintLast Go.Proofs.YtdhkhjfjjbdkgaaW.PrintMore
set_option linter.unusedVariables false
set_option linter.unusedSimpArgs false
def be : Nat → Nat → List Int
  | 0, _ => []
  | s + 1, n => be s (n / 256) ++ [((n % 256 : Nat) : Int)]
theorem be_len : ∀ (s n : Nat), (be s n).length = s
  | 0, _ => rfl
  | s + 1, n => by simp [be, be_len s]
theorem be_bytes : ∀ (s n : Nat), Bytes (be s n)
  | 0, _ => fun x hx => by cases hx
  | s + 1, n => fun x hx => by
    rcases List.mem_append.1 hx with hx | hx
    · exact be_bytes s _ x hx
    · obtain rfl := List.mem_singleton.1 hx; omega
theorem be_get : ∀ (s n i : Nat), i < s → (be s n)[i]? = some (((n / 256 ^ (s - 1 - i) % 256 : Nat)) : Int)
  | 0, _, _, h => absurd h (by omega)
  | s + 1, n, i, h => by
    unfold be
    by_cases hi : i < s
    · rw [List.getElem?_append_left (by rw [be_len]; exact hi), be_get s (n / 256) i hi, Nat.div_div_eq_div_mul, show s + 1 - 1 - i = (s - 1 - i) + 1 by omega, Nat.pow_succ, Nat.mul_comm]
    · obtain rfl : i = s := by omega
      rw [List.getElem?_append_right (by rw [be_len]; omega), be_len, Nat.sub_self, show i + 1 - 1 - i = 0 by omega]
      simp
theorem be_take (s n i : Nat) (h : i < s) : (be s n).take (i + 1) = (be s n).take i ++ [(((n / 256 ^ (s - 1 - i) % 256 : Nat)) : Int)] := by
  rw [List.take_add_one, be_get s n i h]; rfl
/-- The number that bytes are. -/
def val (l : List Int) : Nat := l.foldl (fun r c => r * 256 + c.toNat) 0
theorem val_snoc (l : List Int) (c : Int) : val (l ++ [c]) = val l * 256 + c.toNat := by simp [val]
theorem snoc_ind {P : List Int → Prop} (h0 : P []) (h1 : ∀ l c, P l → P (l ++ [c])) : ∀ l, P l := by
  intro l
  have : ∀ n (l : List Int), l.length = n → P l := by
    intro n
    induction n with
    | zero => intro l hl; rw [List.length_eq_zero_iff.1 hl]; exact h0
    | succ n ih =>
      intro l hl
      rcases List.eq_nil_or_concat l with rfl | ⟨l', c, rfl⟩
      · exact h0
      · rw [List.concat_eq_append] at hl ⊢
        exact h1 _ _ (ih l' (by simpa using hl))
  exact this _ l rfl
theorem bytes_snoc {l : List Int} {c : Int} (h : Bytes (l ++ [c])) : Bytes l ∧ 0 ≤ c ∧ c < 256 := ⟨fun x hx => h x (by simp [hx]), (h c (by simp)).1, (h c (by simp)).2⟩
theorem val_lt : ∀ l, Bytes l → val l < 256 ^ l.length :=
  snoc_ind (fun _ => by simp [val]) (fun l c ih h => by
    obtain ⟨h1, h2, h3⟩ := bytes_snoc h
    have := ih h1
    rw [val_snoc, List.length_append, List.length_singleton, Nat.pow_succ]
    omega)
theorem be_val : ∀ l, Bytes l → be l.length (val l) = l :=
  snoc_ind (fun _ => rfl) (fun l c ih h => by
    obtain ⟨h1, h2, h3⟩ := bytes_snoc h
    rw [List.length_append, List.length_singleton, val_snoc]
    show be l.length ((val l * 256 + c.toNat) / 256) ++ [(((val l * 256 + c.toNat) % 256 : Nat) : Int)] = _
    rw [show (val l * 256 + c.toNat) / 256 = val l by omega, ih h1, show (((val l * 256 + c.toNat) % 256 : Nat) : Int) = c by omega])
theorem val_be : ∀ (s n : Nat), val (be s n) = n % 256 ^ s
  | 0, n => by simp [be, val, Nat.mod_one]
  | s + 1, n => by
    unfold be
    rw [val_snoc, val_be s, Int.toNat_natCast, Nat.pow_succ, Nat.mul_comm (256 ^ s), Nat.mod_mul]
    omega
theorem val_be_lt (s n : Nat) (h : n < 256 ^ s) : val (be s n) = n := by rw [val_be, Nat.mod_eq_of_lt h]
theorem numStep_is (r : Nat) (c : Int) (hr : r < 72057594037927936) (h0 : 0 ≤ c) (h1 : c < 256) : numStep (r : Int) c = ((r * 256 + c.toNat : Nat) : Int) := by
  unfold numStep
  rw [show IntKind.u64.wrap ((r : Int) * 256) = ((r * 256 : Nat) : Int) by rw [IntKind.wrap_u64]; omega, show IntKind.u64.wrap c = ((c.toNat : Nat) : Int) by rw [IntKind.wrap_u64]; omega]
  rw [bits_join .u64 64 (by decide) (fun n h0 h1 => by rw [IntKind.wrap_u64]; omega) 8 _ _ (by omega) (by omega) (by omega) (by omega) (by omega) (by omega)]
  omega
theorem numOf_val : ∀ l, Bytes l → l.length ≤ 8 → numOf l = (val l : Int) :=
  snoc_ind (fun _ _ => rfl) (fun l c ih h hl => by
    obtain ⟨h1, h2, h3⟩ := bytes_snoc h
    rw [List.length_append, List.length_singleton] at hl
    have e : numOf (l ++ [c]) = numStep (numOf l) c := by simp [numOf]
    have hlt := val_lt l h1
    have hp : 256 ^ l.length ≤ 256 ^ 7 := Nat.pow_le_pow_right (by decide) (by omega)
    rw [e, ih h1 (by omega), val_snoc, numStep_is _ _ (by omega) h2 h3])
theorem Ev.eqv {α : Type} {g f : Nat → Option α} {r : α} (n : Nat) (h : ∀ k, g (k + n) = f k) (k : Ev f r) : Ev g r := by
  obtain ⟨K, hK⟩ := k
  exact ⟨K + n, fun m hm => by obtain ⟨j, rfl⟩ : ∃ j, m = j + n := ⟨m - n, by omega⟩; rw [h, hK j (by omega)]⟩
theorem number_is (s n : Nat) (hs : s ≤ 8) (hn : n < 18446744073709551616) : Ev (fun k => larderref16_number.f k (n : Int) (s : Int)) (be s n) := by
  have key : ∀ (j m : Nat) (t : List Int), j ≤ 8 → m < 18446744073709551616 → Ev (fun k => larderref16_number.l0 k (m : Int) (List.replicate j 0 ++ t) ((j : Int) - 1)) (be j m ++ t) := by
    intro j
    induction j with
    | zero =>
      intro m t _ _
      refine Ev.step (f := fun _ => some t) (fun k => ?_) (Ev.now _)
      conv => lhs; unfold larderref16_number.l0
      rw [if_neg (by omega)]; rfl
    | succ j ih =>
      intro m t hj hm
      refine Ev.step (fun k => ?_) (by
        have := ih (m / 256) ((((m % 256 : Nat)) : Int) :: t) (by omega) (by omega)
        exact (by simpa [be] using this))
      conv => lhs; unfold larderref16_number.l0
      rw [if_pos (by omega), if_pos (by omega), if_pos (by simp; omega)]
      rw [show (((j + 1 : Nat) : Int) - 1).toNat = j by omega, show wrap64 (((j + 1 : Nat) : Int) - 1 - 1) = (j : Int) - 1 by unfold wrap64; omega]
      rw [show IntKind.u64.wrap (Int.tdiv (m : Int) 256) = ((m / 256 : Nat) : Int) by rw [Int.tdiv_eq_ediv_of_nonneg (by omega), IntKind.wrap_u64]; omega]
      rw [show Int.tmod (m : Int) 256 % 256 = ((m % 256 : Nat) : Int) by rw [Int.tmod_eq_emod_of_nonneg (by omega)]; omega]
      congr 1
      rw [List.replicate_succ', List.append_assoc, List.set_append, if_neg (by simp)]
      simp
  refine Ev.congr (fun k => ?_) (by have := key s n [] hs hn; rwa [List.append_nil, List.append_nil] at this)
  unfold larderref16_number.f
  rw [if_pos (by omega), if_pos (by omega), Int.toNat_natCast, show wrap64 ((s : Int) - 1) = (s : Int) - 1 by unfold wrap64; omega]
theorem put64_is (b : List Int) (s n : Nat) (hs : s ≤ 8) (hb : b.length + 8 ≤ 140737488355328) : Ev (fun k => record_put_uint64.f k b (s : Int) (n : Int)) (b ++ be s n) := by
  have key : ∀ (d i : Nat), i + d = s → Ev (fun k => record_put_uint64.l0 k (b ++ (be s n).take i) (s : Int) (n : Int) (s : Int) (i : Int)) (b ++ be s n) := by
    intro d
    induction d with
    | zero =>
      intro i hi
      refine Ev.step (f := fun _ => some (b ++ be s n)) (fun k => ?_) (Ev.now _)
      conv => lhs; unfold record_put_uint64.l0
      rw [if_neg (by omega), List.take_of_length_le (by rw [be_len]; omega)]
    | succ d ih =>
      intro i hi
      refine Ev.step (fun k => ?_) (ih (i + 1) (by omega))
      conv => lhs; unfold record_put_uint64.l0
      have e1 : wrap64 (8 * wrap64 (wrap64 ((s : Int) - 1) - (i : Int))) = ((8 * (s - 1 - i) : Nat) : Int) := by unfold wrap64; omega
      have e2 : shr .u64 (n : Int) ((8 * (s - 1 - i) : Nat) : Int) % 256 = (((n / 256 ^ (s - 1 - i) % 256 : Nat)) : Int) := by
        unfold shr
        rw [Int.toNat_natCast, Nat.min_eq_left (by simp only [IntKind.bits]; omega)]
        have hpw : (2 : Int) ^ (8 * (s - 1 - i)) = ((256 ^ (s - 1 - i) : Nat) : Int) := by rw [Int.pow_mul]; simp
        rw [hpw]
        simp
      have hl : (b ++ (be s n).take i).length < 140737488355328 := by rw [List.length_append, List.length_take, be_len]; omega
      rw [if_pos (by omega), e1, if_pos (by omega), if_pos hl, e2, List.append_assoc, ← be_take s n i (by omega), show wrap64 ((i : Int) + 1) = ((i + 1 : Nat) : Int) by unfold wrap64; omega]
  have := key s 0 (by omega)
  rwa [List.take_zero, List.append_nil] at this
theorem put32_is (b : List Int) (s n : Nat) (hs : s ≤ 4) (hb : b.length + 8 ≤ 140737488355328) : Ev (fun k => record_put_uint32.f k b (s : Int) (n : Int)) (b ++ be s n) := by
  have key : ∀ (d i : Nat), i + d = s → Ev (fun k => record_put_uint32.l0 k (b ++ (be s n).take i) (s : Int) (n : Int) (s : Int) (i : Int)) (b ++ be s n) := by
    intro d
    induction d with
    | zero =>
      intro i hi
      refine Ev.step (f := fun _ => some (b ++ be s n)) (fun k => ?_) (Ev.now _)
      conv => lhs; unfold record_put_uint32.l0
      rw [if_neg (by omega), List.take_of_length_le (by rw [be_len]; omega)]
    | succ d ih =>
      intro i hi
      refine Ev.step (fun k => ?_) (ih (i + 1) (by omega))
      conv => lhs; unfold record_put_uint32.l0
      have e1 : wrap64 (8 * wrap64 (wrap64 ((s : Int) - 1) - (i : Int))) = ((8 * (s - 1 - i) : Nat) : Int) := by unfold wrap64; omega
      have e2 : shr .u32 (n : Int) ((8 * (s - 1 - i) : Nat) : Int) % 256 = (((n / 256 ^ (s - 1 - i) % 256 : Nat)) : Int) := by
        unfold shr
        rw [Int.toNat_natCast, Nat.min_eq_left (by simp only [IntKind.bits]; omega)]
        have hpw : (2 : Int) ^ (8 * (s - 1 - i)) = ((256 ^ (s - 1 - i) : Nat) : Int) := by rw [Int.pow_mul]; simp
        rw [hpw]
        simp
      have hl : (b ++ (be s n).take i).length < 140737488355328 := by rw [List.length_append, List.length_take, be_len]; omega
      rw [if_pos (by omega), e1, if_pos (by omega), if_pos hl, e2, List.append_assoc, ← be_take s n i (by omega), show wrap64 ((i : Int) + 1) = ((i + 1 : Nat) : Int) by unfold wrap64; omega]
  have := key s 0 (by omega)
  rwa [List.take_zero, List.append_nil] at this
theorem put8_is (b : List Int) (n : Nat) (hn : n < 256) (hb : b.length + 8 ≤ 140737488355328) : Ev (fun k => record_put_uint8.f k b 1 (n : Int)) (b ++ be 1 n) := by
  refine Ev.eqv 2 (f := fun _ => some (b ++ be 1 n)) (fun k => ?_) (Ev.now _)
  show record_put_uint8.l0 (k + 2) b 1 (n : Int) 1 0 = _
  conv => lhs; unfold record_put_uint8.l0
  rw [if_pos (by decide), if_pos (by unfold wrap64; decide), if_pos (by omega)]
  have e2 : shr .u8 (n : Int) (wrap64 (8 * wrap64 (wrap64 (1 - 1) - 0))) = (n : Int) := by
    rw [show wrap64 (8 * wrap64 (wrap64 (1 - 1) - 0)) = ((0 : Nat) : Int) by unfold wrap64; decide]
    unfold shr; simp
  rw [e2]
  conv => lhs; unfold record_put_uint8.l0
  rw [if_neg (by unfold wrap64; decide)]
  simp [be, Nat.mod_eq_of_lt hn]
end Go.Proofs.Ytdhkhjfjjbdkgaa.Rec
