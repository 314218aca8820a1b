/- Objects laid one behind the other in a block of words: where each lies, and what a change of one does to the words. Plain lists. -/
import Derived.WalkKit
namespace Go.Proofs.Ythdahjmkkdljbaa.Sp
set_option linter.unusedVariables false
set_option linter.unusedSimpArgs false
/-- An object as it lies in a block: its head word and its fields. -/
abbrev AO := Nat × List Nat
def osize (o : AO) : Nat := 1 + o.2.length
def wordsOf (l : List AO) : List Nat := l.flatMap (fun o => o.1 :: o.2)
/-- Where object k begins (word 0 belongs to none). -/
def posOf : List AO → Nat → Nat
  | _, 0 => 1
  | [], _ + 1 => 1
  | o :: l, k + 1 => osize o + posOf l k
/-- The words in use. -/
def usedOf (l : List AO) : Nat := posOf l l.length
theorem pos_zero (l : List AO) : posOf l 0 = 1 := by cases l <;> rfl
theorem words_len : ∀ (l : List AO), (wordsOf l).length + 1 = usedOf l
  | [] => rfl
  | o :: l => by
    have ih := words_len l
    unfold usedOf at ih ⊢
    unfold wordsOf at ih ⊢
    rw [List.flatMap_cons, List.length_append, List.length_cons, List.length_cons]
    show _ = osize o + posOf l l.length
    unfold osize
    omega
theorem pos_succ : ∀ (l : List AO) (k : Nat) (h : k < l.length), posOf l (k + 1) = posOf l k + osize l[k]
  | [], k, h => by simp at h
  | o :: l, 0, h => by
    show osize o + posOf l 0 = 1 + osize o
    rw [pos_zero]; omega
  | o :: l, k + 1, h => by
    have ih := pos_succ l k (by simpa using h)
    show osize o + posOf l (k + 1) = osize o + posOf l k + osize (l[k]'(by simpa using h))
    omega
theorem pos_pos : ∀ (l : List AO) (k : Nat), 1 ≤ posOf l k
  | l, 0 => by rw [pos_zero]; omega
  | [], k + 1 => Nat.le_refl _
  | o :: l, k + 1 => by
    have := pos_pos l k
    show 1 ≤ osize o + posOf l k
    omega
theorem pos_mono (l : List AO) : ∀ (j k : Nat), j ≤ k → k ≤ l.length → posOf l j ≤ posOf l k := by
  intro j k h hk
  induction k with
  | zero => obtain rfl : j = 0 := by omega
            exact Nat.le_refl _
  | succ k ih =>
    by_cases e : j = k + 1
    · subst e; exact Nat.le_refl _
    · have := ih (by omega) (by omega)
      have := pos_succ l k (by omega)
      omega
theorem pos_lt (l : List AO) (j k : Nat) (h : j < k) (hk : k ≤ l.length) : posOf l j + osize (l[j]'(by omega)) ≤ posOf l k := by
  have := pos_mono l (j + 1) k h hk
  rw [pos_succ l j (by omega)] at this
  exact this
theorem pos_inj (l : List AO) (j k : Nat) (hj : j < l.length) (hk : k < l.length) (h : posOf l j = posOf l k) : j = k := by
  rcases Nat.lt_trichotomy j k with hlt | rfl | hlt
  · have := pos_lt l j k hlt (by omega); unfold osize at this; omega
  · rfl
  · have := pos_lt l k j hlt (by omega); unfold osize at this; omega
theorem pos_used (l : List AO) (k : Nat) (h : k < l.length) : posOf l k + osize l[k] ≤ usedOf l := pos_lt l k l.length h (Nat.le_refl _)
/-- The words of a block: word 0, then the objects. -/
def blockWords (l : List AO) : List Nat := 0 :: wordsOf l
theorem block_len (l : List AO) : (blockWords l).length = usedOf l := by unfold blockWords; rw [List.length_cons]; exact words_len l
theorem block_cons (o : AO) (l : List AO) : blockWords (o :: l) = 0 :: o.1 :: (o.2 ++ wordsOf l) := by
  unfold blockWords wordsOf
  rw [List.flatMap_cons]; rfl
/-- What lies behind an object does not hang on what lies ahead of it. -/
theorem block_shift (o : AO) (l : List AO) (i : Nat) (h : 1 ≤ i) : (blockWords (o :: l))[osize o + i]? = (blockWords l)[i]? := by
  rw [block_cons]
  unfold blockWords osize
  obtain ⟨j, rfl⟩ : ∃ j, i = j + 1 := ⟨i - 1, by omega⟩
  rw [show 1 + o.2.length + (j + 1) = (o.2.length + j) + 2 by omega, List.getElem?_cons_succ, List.getElem?_cons_succ, List.getElem?_cons_succ, List.getElem?_append_right (by omega)]
  congr 1; omega
theorem head_at : ∀ (l : List AO) (k : Nat) (h : k < l.length), (blockWords l)[posOf l k]? = some l[k].1
  | [], k, h => by simp at h
  | o :: l, 0, h => by rw [pos_zero, block_cons]; rfl
  | o :: l, k + 1, h => by
    show (blockWords (o :: l))[osize o + posOf l k]? = _
    rw [block_shift _ _ _ (pos_pos l k), head_at l k (by simpa using h)]; rfl
theorem field_at : ∀ (l : List AO) (k : Nat) (h : k < l.length) (i : Nat) (hi : i < l[k].2.length), (blockWords l)[posOf l k + 1 + i]? = some l[k].2[i]
  | [], k, h, i, hi => by simp at h
  | o :: l, 0, h, i, hi => by
    rw [pos_zero, block_cons]
    have hi2 : i < o.2.length := hi
    rw [show 1 + 1 + i = i + 2 by omega, List.getElem?_cons_succ, List.getElem?_cons_succ, List.getElem?_append_left hi2, List.getElem?_eq_getElem hi2]; rfl
  | o :: l, k + 1, h, i, hi => by
    show (blockWords (o :: l))[osize o + posOf l k + 1 + i]? = _
    rw [show osize o + posOf l k + 1 + i = osize o + (posOf l k + 1 + i) by omega, block_shift _ _ _ (by have := pos_pos l k; omega), field_at l k (by simpa using h) i hi]; rfl
/-- A change of an object that keeps its size moves nothing. -/
theorem pos_set : ∀ (l : List AO) (k : Nat) (o : AO) (h : k < l.length), osize o = osize l[k] → ∀ j, posOf (l.set k o) j = posOf l j
  | [], k, o, h, _, j => by simp at h
  | a :: l, 0, o, h, e, 0 => by rw [pos_zero, pos_zero]
  | a :: l, 0, o, h, e, j + 1 => by
    show osize o + posOf l j = osize a + posOf l j
    rw [e]; rfl
  | a :: l, k + 1, o, h, e, 0 => by rw [pos_zero, pos_zero]
  | a :: l, k + 1, o, h, e, j + 1 => by
    show osize a + posOf (l.set k o) j = osize a + posOf l j
    rw [pos_set l k o (by simpa using h) e j]
theorem used_set (l : List AO) (k : Nat) (o : AO) (h : k < l.length) (e : osize o = osize l[k]) : usedOf (l.set k o) = usedOf l := by
  unfold usedOf; rw [List.length_set, pos_set l k o h e]
theorem block_set_cons (a : AO) (l l' : List AO) (j v : Nat) (hj : 1 ≤ j) (h : blockWords l' = (blockWords l).set j v) : blockWords (a :: l') = (blockWords (a :: l)).set (osize a + j) v := by
  rw [block_cons, block_cons]
  obtain ⟨i, rfl⟩ : ∃ i, j = i + 1 := ⟨j - 1, by omega⟩
  unfold blockWords at h
  rw [List.set_cons_succ] at h
  have h2 := (List.cons.inj h).2
  unfold osize
  rw [show 1 + a.2.length + (i + 1) = (a.2.length + i) + 2 by omega, List.set_cons_succ, List.set_cons_succ, List.set_append, if_neg (by omega), h2, show a.2.length + i - a.2.length = i by omega]
theorem set_field : ∀ (l : List AO) (k : Nat) (h : k < l.length) (i v : Nat) (hi : i < l[k].2.length), blockWords (l.set k (l[k].1, l[k].2.set i v)) = (blockWords l).set (posOf l k + 1 + i) v
  | [], k, h, i, v, hi => by simp at h
  | o :: l, 0, h, i, v, hi => by
    have hi2 : i < o.2.length := hi
    rw [List.set_cons_zero, pos_zero, block_cons, block_cons, show 1 + 1 + i = i + 2 by omega, List.set_cons_succ, List.set_cons_succ, List.set_append, if_pos hi2]; rfl
  | o :: l, k + 1, h, i, v, hi => by
    have ih := set_field l k (by simpa using h) i v hi
    have := block_set_cons o l _ _ v (by have := pos_pos l k; omega) ih
    rw [List.set_cons_succ]
    show _ = (blockWords (o :: l)).set (osize o + posOf l k + 1 + i) v
    rw [show osize o + posOf l k + 1 + i = osize o + (posOf l k + 1 + i) by omega]
    exact this
theorem set_head : ∀ (l : List AO) (k : Nat) (h : k < l.length) (v : Nat), blockWords (l.set k (v, l[k].2)) = (blockWords l).set (posOf l k) v
  | [], k, h, v => by simp at h
  | o :: l, 0, h, v => by rw [List.set_cons_zero, pos_zero, block_cons, block_cons]; rfl
  | o :: l, k + 1, h, v => by
    have ih := set_head l k (by simpa using h) v
    exact block_set_cons o l _ _ v (pos_pos l k) ih
theorem block_snoc (l : List AO) (o : AO) : blockWords (l ++ [o]) = blockWords l ++ o.1 :: o.2 := by
  unfold blockWords wordsOf
  rw [List.flatMap_append]; simp
theorem pos_snoc : ∀ (l : List AO) (o : AO) (k : Nat), k ≤ l.length → posOf (l ++ [o]) k = posOf l k
  | l, o, 0, _ => by rw [pos_zero, pos_zero]
  | [], o, k + 1, h => by simp at h
  | a :: l, o, k + 1, h => by
    show osize a + posOf (l ++ [o]) k = osize a + posOf l k
    rw [pos_snoc l o k (by simpa using h)]
theorem used_snoc (l : List AO) (o : AO) : usedOf (l ++ [o]) = usedOf l + osize o := by
  have h := pos_succ (l ++ [o]) l.length (by simp)
  unfold usedOf
  rw [List.length_append, List.length_singleton, h, pos_snoc l o _ (Nat.le_refl _)]
  simp
/-- Does object begin there? -/
def Starts (l : List AO) (i : Nat) : Prop := ∃ k, k < l.length ∧ posOf l k = i
theorem starts_snoc (l : List AO) (o : AO) (i : Nat) : Starts (l ++ [o]) i ↔ Starts l i ∨ i = usedOf l := by
  constructor
  · rintro ⟨k, hk, rfl⟩
    rw [List.length_append, List.length_singleton] at hk
    by_cases e : k < l.length
    · left; exact ⟨k, e, (pos_snoc l o k (by omega)).symm⟩
    · right
      obtain rfl : k = l.length := by omega
      exact pos_snoc l o _ (Nat.le_refl _)
  · rintro (⟨k, hk, rfl⟩ | rfl)
    · exact ⟨k, by simp; omega, pos_snoc l o k (by omega)⟩
    · exact ⟨l.length, by simp, pos_snoc l o _ (Nat.le_refl _)⟩
theorem starts_set (l : List AO) (k : Nat) (o : AO) (h : k < l.length) (e : osize o = osize l[k]) (i : Nat) : Starts (l.set k o) i ↔ Starts l i := by
  unfold Starts
  simp only [List.length_set, pos_set l k o h e]
theorem starts_bd {l : List AO} {i : Nat} (h : Starts l i) : 1 ≤ i ∧ i < usedOf l := by
  obtain ⟨k, hk, rfl⟩ := h
  have := pos_used l k hk
  have := pos_pos l k
  unfold osize at *
  omega
/-- The bits: one for each word at which an object begins. -/
structure Bits (l : List AO) (bs : List Nat) : Prop where
  lo : usedOf l ≤ 64 * bs.length
  hi : 64 * bs.length < usedOf l + 64
  lt : ∀ b ∈ bs, b < 18446744073709551616
  bit : ∀ i, i < 64 * bs.length → ((bs.getD (i / 64) 0).testBit (i % 64) = true ↔ Starts l i)
theorem bits_new : Bits [] [0] where
  lo := by decide
  hi := by decide
  lt := fun b hb => by rw [List.mem_singleton.1 hb]; decide
  bit := fun i hi => by
    have : i / 64 = 0 := by simp at hi; omega
    rw [this]
    constructor
    · intro h; simp at h
    · rintro ⟨k, hk, _⟩; simp at hk
theorem Bits.set {l : List AO} {bs : List Nat} (h : Bits l bs) (k : Nat) (o : AO) (hk : k < l.length) (e : osize o = osize l[k]) : Bits (l.set k o) bs :=
  ⟨by rw [used_set l k o hk e]; exact h.lo, by rw [used_set l k o hk e]; exact h.hi, h.lt, fun i hi => by rw [starts_set l k o hk e]; exact h.bit i hi⟩
/-- The bits once they are long enough, one bit set. -/
theorem Bits.snoc {l : List AO} {bs : List Nat} (h : Bits l bs) (o : AO) (z : Nat) (hlo : usedOf l + osize o ≤ 64 * (bs.length + z)) (hhi : 64 * (bs.length + z) < usedOf l + osize o + 64) :
    Bits (l ++ [o]) ((bs ++ List.replicate z 0).set (usedOf l / 64) ((bs ++ List.replicate z 0).getD (usedOf l / 64) 0 ||| 2 ^ (usedOf l % 64))) := by
  have hlen : (bs ++ List.replicate z 0).length = bs.length + z := by simp
  have hos : 1 ≤ osize o := by unfold osize; omega
  have hq : usedOf l / 64 < (bs ++ List.replicate z 0).length := by rw [hlen]; omega
  have hlt : ∀ b ∈ bs ++ List.replicate z 0, b < 18446744073709551616 := fun b hb => by
    rcases List.mem_append.1 hb with hb | hb
    · exact h.lt b hb
    · rw [List.eq_of_mem_replicate hb]; decide
  have hold : ∀ i, i < 64 * (bs.length + z) → (((bs ++ List.replicate z 0).getD (i / 64) 0).testBit (i % 64) = true ↔ Starts l i) := fun i hi => by
    by_cases hb : i / 64 < bs.length
    · rw [List.getD_eq_getElem?_getD, List.getElem?_append_left hb, ← List.getD_eq_getElem?_getD]
      exact h.bit i (by omega)
    · have hz : (bs ++ List.replicate z 0).getD (i / 64) 0 = 0 := by
        rw [List.getD_eq_getElem?_getD, List.getElem?_append_right (by omega)]
        rw [List.getElem?_replicate]
        split <;> rfl
      rw [hz]
      constructor
      · intro h; simp at h
      · intro hs
        have := starts_bd hs
        have := h.lo
        omega
  refine ⟨?_, ?_, fun b hb => ?_, fun i hi => ?_⟩
  · rw [List.length_set, hlen, used_snoc]; exact hlo
  · rw [List.length_set, hlen, used_snoc]; exact hhi
  · rcases List.mem_or_eq_of_mem_set hb with hb | rfl
    · exact hlt b hb
    · have h1 : (bs ++ List.replicate z 0).getD (usedOf l / 64) 0 < 2 ^ 64 := by
        rw [List.getD_eq_getElem?_getD, List.getElem?_eq_getElem hq]
        exact hlt _ (List.getElem_mem hq)
      exact Nat.or_lt_two_pow h1 (Nat.pow_lt_pow_right (by decide) (by omega))
  · rw [List.length_set, hlen] at hi
    rw [starts_snoc]
    by_cases e : i / 64 = usedOf l / 64
    · rw [e, List.getD_eq_getElem?_getD, List.getElem?_set_self hq]
      show ((_ ||| _) : Nat).testBit _ = true ↔ _
      rw [Nat.testBit_or, Nat.testBit_two_pow, Bool.or_eq_true, decide_eq_true_iff, ← e, hold i hi]
      constructor
      · rintro (h | h)
        · exact .inl h
        · right; omega
      · rintro (h | h)
        · exact .inl h
        · right; omega
    · rw [List.getD_eq_getElem?_getD, List.getElem?_set_ne (fun h => e h.symm), ← List.getD_eq_getElem?_getD, hold i hi]
      constructor
      · exact .inl
      · rintro (h | h)
        · exact h
        · subst h; exact absurd rfl e
end Go.Proofs.Ythdahjmkkdljbaa.Sp
