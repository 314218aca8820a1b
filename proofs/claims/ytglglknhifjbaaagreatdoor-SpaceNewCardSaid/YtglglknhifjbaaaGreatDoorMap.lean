import Derived.Test.YtglglknhifjbaaaGreatDoorProg
import Derived.Test.YtglglknhifjbaaaGreatDoorWWords
import Derived.Test.YtglglknhifjbaaaGreatDoorWMore
import Derived.WalkKit
import Derived.Below
import Derived.OneCell
import Derived.Laws.OwnMore
import Derived.Deep.AppendLies
import Derived.Lib.Hide
import Derived.Deep.Draws
import Derived.Tactics
import Derived.Maps.AppendAt
import Derived.OwnWalk
import Derived.Laws.BytesArg
import Derived.Laws.MakeOwn
import Derived.Deep.OwnRows
import Derived.Lib.ConvBytes
import Derived.Laws.Slices
import Derived.KernelRfl
import Derived.RowKit3
import Derived.Deep.LoopGhost
import Derived.Deep.QuietTactic
import Derived.BigQuiet
import Derived.WideLaws
import Derived.Deep.DeepCutAuto
import Derived.Deep.CutBlock
import Derived.Deep.RegionHeld3
import Derived.Laws.Rows
import Derived.Lib.AppendStr
import Derived.ArgAppend
import Derived.Laws.IdiomCopy
import Derived.OrdersHeld
import Derived.Laws.BitsLemmas
import Derived.RowKit
import Derived.Outline
import Derived.Deep.DeepFit
import Derived.IntWalk
import Derived.Lib.EndianBits
import Derived.Maps.RangeWalk
import Derived.Maps.OwnOps
import Derived.Maps.OwnSet
import Derived.Laws.IdiomStrings
import GoSem.Builtin.Clear
import Derived.Great.BuildSlice
namespace Go.Proofs.YtglglknhifjbaaaGreatDoor.Sp
set_option linter.unusedVariables false
set_option linter.unusedSimpArgs false
abbrev AO := Nat × List Nat
def osize (o : AO) : Nat := 1 + o.2.length
def wordsOf (l : List AO) : List Nat := l.flatMap (fun o => o.1 :: o.2)
def posOf : List AO → Nat → Nat
  | _, 0 => 1
  | [], _ + 1 => 1
  | o :: l, k + 1 => osize o + posOf l k
def usedOf (l : List AO) : Nat := posOf l l.length
theorem pos_zero (l : List AO) : posOf l 0 = 1 := by cases l <;> rfl
theorem words_len : ∀ (l : List AO), (wordsOf l).length + 1 = usedOf l
  | [] => rfl
  | o :: l => by
    have ih := words_len l
    unfold usedOf at ih ⊢
    unfold wordsOf at ih ⊢
    rw [List.flatMap_cons, List.length_append, List.length_cons, List.length_cons]
    show _ = osize o + posOf l l.length
    unfold osize
    omega
theorem pos_succ : ∀ (l : List AO) (k : Nat) (h : k < l.length), posOf l (k + 1) = posOf l k + osize l[k]
  | [], k, h => by simp at h
  | o :: l, 0, h => by
    show osize o + posOf l 0 = 1 + osize o
    rw [pos_zero]; omega
  | o :: l, k + 1, h => by
    have ih := pos_succ l k (by simpa using h)
    show osize o + posOf l (k + 1) = osize o + posOf l k + osize (l[k]'(by simpa using h))
    omega
theorem pos_pos : ∀ (l : List AO) (k : Nat), 1 ≤ posOf l k
  | l, 0 => by rw [pos_zero]; omega
  | [], k + 1 => Nat.le_refl _
  | o :: l, k + 1 => by
    have := pos_pos l k
    show 1 ≤ osize o + posOf l k
    omega
theorem pos_mono (l : List AO) : ∀ (j k : Nat), j ≤ k → k ≤ l.length → posOf l j ≤ posOf l k := by
  intro j k h hk
  induction k with
  | zero => obtain rfl : j = 0 := by omega
            exact Nat.le_refl _
  | succ k ih =>
    by_cases e : j = k + 1
    · subst e; exact Nat.le_refl _
    · have := ih (by omega) (by omega)
      have := pos_succ l k (by omega)
      omega
theorem pos_lt (l : List AO) (j k : Nat) (h : j < k) (hk : k ≤ l.length) : posOf l j + osize (l[j]'(by omega)) ≤ posOf l k := by
  have := pos_mono l (j + 1) k h hk
  rw [pos_succ l j (by omega)] at this
  exact this
theorem pos_used (l : List AO) (k : Nat) (h : k < l.length) : posOf l k + osize l[k] ≤ usedOf l := pos_lt l k l.length h (Nat.le_refl _)
def blockWords (l : List AO) : List Nat := 0 :: wordsOf l
theorem block_len (l : List AO) : (blockWords l).length = usedOf l := by unfold blockWords; rw [List.length_cons]; exact words_len l
theorem block_cons (o : AO) (l : List AO) : blockWords (o :: l) = 0 :: o.1 :: (o.2 ++ wordsOf l) := by
  unfold blockWords wordsOf
  rw [List.flatMap_cons]; rfl
theorem block_shift (o : AO) (l : List AO) (i : Nat) (h : 1 ≤ i) : (blockWords (o :: l))[osize o + i]? = (blockWords l)[i]? := by
  rw [block_cons]
  unfold blockWords osize
  obtain ⟨j, rfl⟩ : ∃ j, i = j + 1 := ⟨i - 1, by omega⟩
  rw [show 1 + o.2.length + (j + 1) = (o.2.length + j) + 2 by omega, List.getElem?_cons_succ, List.getElem?_cons_succ, List.getElem?_cons_succ, List.getElem?_append_right (by omega)]
  congr 1; omega
theorem head_at : ∀ (l : List AO) (k : Nat) (h : k < l.length), (blockWords l)[posOf l k]? = some l[k].1
  | [], k, h => by simp at h
  | o :: l, 0, h => by rw [pos_zero, block_cons]; rfl
  | o :: l, k + 1, h => by
    show (blockWords (o :: l))[osize o + posOf l k]? = _
    rw [block_shift _ _ _ (pos_pos l k), head_at l k (by simpa using h)]; rfl
theorem field_at : ∀ (l : List AO) (k : Nat) (h : k < l.length) (i : Nat) (hi : i < l[k].2.length), (blockWords l)[posOf l k + 1 + i]? = some l[k].2[i]
  | [], k, h, i, hi => by simp at h
  | o :: l, 0, h, i, hi => by
    rw [pos_zero, block_cons]
    have hi2 : i < o.2.length := hi
    rw [show 1 + 1 + i = i + 2 by omega, List.getElem?_cons_succ, List.getElem?_cons_succ, List.getElem?_append_left hi2, List.getElem?_eq_getElem hi2]; rfl
  | o :: l, k + 1, h, i, hi => by
    show (blockWords (o :: l))[osize o + posOf l k + 1 + i]? = _
    rw [show osize o + posOf l k + 1 + i = osize o + (posOf l k + 1 + i) by omega, block_shift _ _ _ (by have := pos_pos l k; omega), field_at l k (by simpa using h) i hi]; rfl
theorem pos_set : ∀ (l : List AO) (k : Nat) (o : AO) (h : k < l.length), osize o = osize l[k] → ∀ j, posOf (l.set k o) j = posOf l j
  | [], k, o, h, _, j => by simp at h
  | a :: l, 0, o, h, e, 0 => by rw [pos_zero, pos_zero]
  | a :: l, 0, o, h, e, j + 1 => by
    show osize o + posOf l j = osize a + posOf l j
    rw [e]; rfl
  | a :: l, k + 1, o, h, e, 0 => by rw [pos_zero, pos_zero]
  | a :: l, k + 1, o, h, e, j + 1 => by
    show osize a + posOf (l.set k o) j = osize a + posOf l j
    rw [pos_set l k o (by simpa using h) e j]
theorem used_set (l : List AO) (k : Nat) (o : AO) (h : k < l.length) (e : osize o = osize l[k]) : usedOf (l.set k o) = usedOf l := by
  unfold usedOf; rw [List.length_set, pos_set l k o h e]
theorem block_set_cons (a : AO) (l l' : List AO) (j v : Nat) (hj : 1 ≤ j) (h : blockWords l' = (blockWords l).set j v) : blockWords (a :: l') = (blockWords (a :: l)).set (osize a + j) v := by
  rw [block_cons, block_cons]
  obtain ⟨i, rfl⟩ : ∃ i, j = i + 1 := ⟨j - 1, by omega⟩
  unfold blockWords at h
  rw [List.set_cons_succ] at h
  have h2 := (List.cons.inj h).2
  unfold osize
  rw [show 1 + a.2.length + (i + 1) = (a.2.length + i) + 2 by omega, List.set_cons_succ, List.set_cons_succ, List.set_append, if_neg (by omega), h2, show a.2.length + i - a.2.length = i by omega]
theorem set_field : ∀ (l : List AO) (k : Nat) (h : k < l.length) (i v : Nat) (hi : i < l[k].2.length), blockWords (l.set k (l[k].1, l[k].2.set i v)) = (blockWords l).set (posOf l k + 1 + i) v
  | [], k, h, i, v, hi => by simp at h
  | o :: l, 0, h, i, v, hi => by
    have hi2 : i < o.2.length := hi
    rw [List.set_cons_zero, pos_zero, block_cons, block_cons, show 1 + 1 + i = i + 2 by omega, List.set_cons_succ, List.set_cons_succ, List.set_append, if_pos hi2]; rfl
  | o :: l, k + 1, h, i, v, hi => by
    have ih := set_field l k (by simpa using h) i v hi
    have := block_set_cons o l _ _ v (by have := pos_pos l k; omega) ih
    rw [List.set_cons_succ]
    show _ = (blockWords (o :: l)).set (osize o + posOf l k + 1 + i) v
    rw [show osize o + posOf l k + 1 + i = osize o + (posOf l k + 1 + i) by omega]
    exact this
theorem set_head : ∀ (l : List AO) (k : Nat) (h : k < l.length) (v : Nat), blockWords (l.set k (v, l[k].2)) = (blockWords l).set (posOf l k) v
  | [], k, h, v => by simp at h
  | o :: l, 0, h, v => by rw [List.set_cons_zero, pos_zero, block_cons, block_cons]; rfl
  | o :: l, k + 1, h, v => by
    have ih := set_head l k (by simpa using h) v
    exact block_set_cons o l _ _ v (pos_pos l k) ih
theorem block_snoc (l : List AO) (o : AO) : blockWords (l ++ [o]) = blockWords l ++ o.1 :: o.2 := by
  unfold blockWords wordsOf
  rw [List.flatMap_append]; simp
theorem pos_snoc : ∀ (l : List AO) (o : AO) (k : Nat), k ≤ l.length → posOf (l ++ [o]) k = posOf l k
  | l, o, 0, _ => by rw [pos_zero, pos_zero]
  | [], o, k + 1, h => by simp at h
  | a :: l, o, k + 1, h => by
    show osize a + posOf (l ++ [o]) k = osize a + posOf l k
    rw [pos_snoc l o k (by simpa using h)]
theorem used_snoc (l : List AO) (o : AO) : usedOf (l ++ [o]) = usedOf l + osize o := by
  have h := pos_succ (l ++ [o]) l.length (by simp)
  unfold usedOf
  rw [List.length_append, List.length_singleton, h, pos_snoc l o _ (Nat.le_refl _)]
  simp
def Starts (l : List AO) (i : Nat) : Prop := ∃ k, k < l.length ∧ posOf l k = i
theorem starts_snoc (l : List AO) (o : AO) (i : Nat) : Starts (l ++ [o]) i ↔ Starts l i ∨ i = usedOf l := by
  constructor
  · rintro ⟨k, hk, rfl⟩
    rw [List.length_append, List.length_singleton] at hk
    by_cases e : k < l.length
    · left; exact ⟨k, e, (pos_snoc l o k (by omega)).symm⟩
    · right
      obtain rfl : k = l.length := by omega
      exact pos_snoc l o _ (Nat.le_refl _)
  · rintro (⟨k, hk, rfl⟩ | rfl)
    · exact ⟨k, by simp; omega, pos_snoc l o k (by omega)⟩
    · exact ⟨l.length, by simp, pos_snoc l o _ (Nat.le_refl _)⟩
theorem starts_set (l : List AO) (k : Nat) (o : AO) (h : k < l.length) (e : osize o = osize l[k]) (i : Nat) : Starts (l.set k o) i ↔ Starts l i := by
  unfold Starts
  simp only [List.length_set, pos_set l k o h e]
theorem starts_bd {l : List AO} {i : Nat} (h : Starts l i) : 1 ≤ i ∧ i < usedOf l := by
  obtain ⟨k, hk, rfl⟩ := h
  have := pos_used l k hk
  have := pos_pos l k
  unfold osize at *
  omega
structure Bits (l : List AO) (bs : List Nat) : Prop where
  lo : usedOf l ≤ 64 * bs.length
  hi : 64 * bs.length < usedOf l + 64
  lt : ∀ b ∈ bs, b < 18446744073709551616
  bit : ∀ i, i < 64 * bs.length → ((bs.getD (i / 64) 0).testBit (i % 64) = true ↔ Starts l i)
theorem bits_new : Bits [] [0] where
  lo := by decide
  hi := by decide
  lt := fun b hb => by rw [List.mem_singleton.1 hb]; decide
  bit := fun i hi => by
    have : i / 64 = 0 := by simp at hi; omega
    rw [this]
    constructor
    · intro h; simp at h
    · rintro ⟨k, hk, _⟩; simp at hk
theorem Bits.set {l : List AO} {bs : List Nat} (h : Bits l bs) (k : Nat) (o : AO) (hk : k < l.length) (e : osize o = osize l[k]) : Bits (l.set k o) bs :=
  ⟨by rw [used_set l k o hk e]; exact h.lo, by rw [used_set l k o hk e]; exact h.hi, h.lt, fun i hi => by rw [starts_set l k o hk e]; exact h.bit i hi⟩
theorem Bits.snoc {l : List AO} {bs : List Nat} (h : Bits l bs) (o : AO) (z : Nat) (hlo : usedOf l + osize o ≤ 64 * (bs.length + z)) (hhi : 64 * (bs.length + z) < usedOf l + osize o + 64) :
    Bits (l ++ [o]) ((bs ++ List.replicate z 0).set (usedOf l / 64) ((bs ++ List.replicate z 0).getD (usedOf l / 64) 0 ||| 2 ^ (usedOf l % 64))) := by
  have hlen : (bs ++ List.replicate z 0).length = bs.length + z := by simp
  have hos : 1 ≤ osize o := by unfold osize; omega
  have hq : usedOf l / 64 < (bs ++ List.replicate z 0).length := by rw [hlen]; omega
  have hlt : ∀ b ∈ bs ++ List.replicate z 0, b < 18446744073709551616 := fun b hb => by
    rcases List.mem_append.1 hb with hb | hb
    · exact h.lt b hb
    · rw [List.eq_of_mem_replicate hb]; decide
  have hold : ∀ i, i < 64 * (bs.length + z) → (((bs ++ List.replicate z 0).getD (i / 64) 0).testBit (i % 64) = true ↔ Starts l i) := fun i hi => by
    by_cases hb : i / 64 < bs.length
    · rw [List.getD_eq_getElem?_getD, List.getElem?_append_left hb, ← List.getD_eq_getElem?_getD]
      exact h.bit i (by omega)
    · have hz : (bs ++ List.replicate z 0).getD (i / 64) 0 = 0 := by
        rw [List.getD_eq_getElem?_getD, List.getElem?_append_right (by omega)]
        rw [List.getElem?_replicate]
        split <;> rfl
      rw [hz]
      constructor
      · intro h; simp at h
      · intro hs
        have := starts_bd hs
        have := h.lo
        omega
  refine ⟨?_, ?_, fun b hb => ?_, fun i hi => ?_⟩
  · rw [List.length_set, hlen, used_snoc]; exact hlo
  · rw [List.length_set, hlen, used_snoc]; exact hhi
  · rcases List.mem_or_eq_of_mem_set hb with hb | rfl
    · exact hlt b hb
    · have h1 : (bs ++ List.replicate z 0).getD (usedOf l / 64) 0 < 2 ^ 64 := by
        rw [List.getD_eq_getElem?_getD, List.getElem?_eq_getElem hq]
        exact hlt _ (List.getElem_mem hq)
      exact Nat.or_lt_two_pow h1 (Nat.pow_lt_pow_right (by decide) (by omega))
  · rw [List.length_set, hlen] at hi
    rw [starts_snoc]
    by_cases e : i / 64 = usedOf l / 64
    · rw [e, List.getD_eq_getElem?_getD, List.getElem?_set_self hq]
      show ((_ ||| _) : Nat).testBit _ = true ↔ _
      rw [Nat.testBit_or, Nat.testBit_two_pow, Bool.or_eq_true, decide_eq_true_iff, ← e, hold i hi]
      constructor
      · rintro (h | h)
        · exact .inl h
        · right; omega
      · rintro (h | h)
        · exact .inl h
        · right; omega
    · rw [List.getD_eq_getElem?_getD, List.getElem?_set_ne (fun h => e h.symm), ← List.getD_eq_getElem?_getD, hold i hi]
      constructor
      · exact .inl
      · rintro (h | h)
        · exact h
        · subst h; exact absurd rfl e
def headW (k r x : Nat) : Nat := k + 256 * r + 4294967296 * x
structure Shape (k r x : Nat) : Prop where
  k1 : 1 ≤ k
  k2 : k ≤ 255
  r2 : r ≤ 1048576
  x2 : x ≤ 1048576
theorem Shape.lt {k r x : Nat} (h : Shape k r x) : headW k r x < 4611686018427387904 := by
  have := h.k2; have := h.r2; have := h.x2; unfold headW; omega
structure AM where
  size : Nat
  objs : List AO
structure HM where
  limit : Nat
  half : AM
  spare : AM
  blocks : List (Option AM)
  reached : List Bool
  large : Nat
  since : Nat
  kept : Nat
  roots : List (Bool × Nat)
  nroots : Nat
  ncoll : Int
  nres : Int
  moved : Int
def rootsAt (l : List (Bool × Nat)) (i v : Nat) : List (Bool × Nat) := if i < l.length then l.set i (true, v) else l ++ [(true, v)]
end Go.Proofs.YtglglknhifjbaaaGreatDoor.Sp
namespace Go.Proofs.YtglglknhifjbaaaGreatDoor.Sp
open Go.RowKit
set_option linter.unusedVariables false
set_option linter.unusedSimpArgs false
theorem results_tmp4 {fn : Func} {t u v x : Tmp} (h : fn.results = #[.tmp t, .tmp u, .tmp v, .tmp x]) (tmps : Array Value) (P : Program) (w : World) :
    (results fn tmps).run P w = .ok (.tuple #[tmps.getD t undef, tmps.getD u undef, tmps.getD v undef, tmps.getD x undef]) w := by simp [results, h]
structure Fr (P : Nat → Prop) (w w' : World) : Prop where
  os : w'.os = w.os
  tape : w'.tape = w.tape
  output : w'.output = w.output
  size : w.heap.size ≤ w'.heap.size
  block : ∀ i, i < w.heap.size → ¬ P i → w'.heap[i]? = w.heap[i]?
theorem Fr.refl (P : Nat → Prop) (w : World) : Fr P w w := ⟨rfl, rfl, rfl, Nat.le_refl _, fun _ _ _ => rfl⟩
theorem Fr.trans {P P1 : Nat → Prop} {a b c : World} (h : Fr P a b) (k : Fr P1 b c) (hP : ∀ i, i < a.heap.size → P1 i → P i) : Fr P a c :=
  ⟨k.os.trans h.os, k.tape.trans h.tape, k.output.trans h.output, Nat.le_trans h.size k.size, fun i hi hn => (k.block i (Nat.lt_of_lt_of_le hi h.size) (fun h1 => hn (hP i hi h1))).trans (h.block i hi hn)⟩
theorem Fr.mono {P P1 : Nat → Prop} {w w' : World} (h : Fr P w w') (hP : ∀ i, i < w.heap.size → P i → P1 i) : Fr P1 w w' :=
  ⟨h.os, h.tape, h.output, h.size, fun i hi hn => h.block i hi (fun h1 => hn (hP i hi h1))⟩
theorem Fr.alloc {P : Nat → Prop} {a w : World} (h : Fr P a w) (o : Obj) : Fr P a (w.alloc o) :=
  ⟨h.os, h.tape, h.output, Nat.le_trans h.size (by simp), fun i hi hn => (Below.heap_alloc w o i (Nat.lt_of_lt_of_le hi h.size)).trans (h.block i hi hn)⟩
theorem Fr.drew {P : Nat → Prop} {a w : World} (h : Fr P a w) : Fr P a w.drew := ⟨h.os, h.tape, h.output, h.size, h.block⟩
theorem Fr.drewN {P : Nat → Prop} {a w : World} (h : Fr P a w) (n : Nat) : Fr P a (w.drewN n) := ⟨h.os, h.tape, h.output, h.size, h.block⟩
theorem Fr.setCell {P : Nat → Prop} {a w : World} (h : Fr P a w) {p : Addr} (hp : P p.block ∨ a.heap.size ≤ p.block) (u : Value) : Fr P a (w.setCell p u) :=
  ⟨h.os, h.tape, h.output, by simpa [World.setCell] using h.size, fun i hi hn => (Below.heap_setCell w p u i (by
    rintro rfl
    rcases hp with hp | hp
    · exact hn hp
    · omega)).trans (h.block i hi hn)⟩
theorem Fr.grown {P : Nat → Prop} {a w w' : World} {row : Option Nat} (h : Fr P a w) (hg : w.grownBy w' row) (hr : ∀ k, row = some k → P k ∨ a.heap.size ≤ k) : Fr P a w' :=
  ⟨hg.os.trans h.os, hg.tape.trans h.tape, hg.output.trans h.output, Nat.le_trans h.size hg.size, fun i hi hn => (hg.block i (Nat.lt_of_lt_of_le hi h.size) (by
    rintro rfl
    rcases hr i rfl with h1 | h1
    · exact hn h1
    · omega)).trans (h.block i hi hn)⟩
theorem Fr.below {P : Nat → Prop} {w w' : World} (h : Below w.heap.size w w') : Fr P w w' := ⟨h.os, h.tape, h.output, h.size, fun i hi _ => h.block i hi⟩
theorem Fr.cell {P : Nat → Prop} {w w' : World} (h : Fr P w w') {p : Addr} (hp : p.block < w.heap.size) (hn : ¬ P p.block) : w'.cell? p = w.cell? p := World.cell?_of_block (w := w) (h.block p.block hp hn)
theorem blk_lt {w : World} {b : Nat} {o : Obj} (h : w.heap[b]? = some o) : b < w.heap.size := (Array.getElem?_eq_some_iff.1 h).1
theorem alloc_at (w : World) (o : Obj) (n : Nat) : (w.alloc o).heap[n]? = if n = w.heap.size then some o else w.heap[n]? := by
  have e : (w.alloc o).heap = w.heap.push o := rfl
  rw [e, Array.getElem?_push]
theorem drew_heap (w : World) : w.drew.heap = w.heap := rfl
def wv (n : Nat) : Value := .int .u64 (n : Int)
def Row (w : World) (g cap : Nat) (e : TypeId) (xs : List Value) : Prop := w.ownsRow 0 e 1 (.slice (some ⟨g, 0, none⟩) xs.length cap) xs.length xs
theorem Row.mk {w : World} {g cap : Nat} {e : TypeId} {n : Nat} {xs : List Value} (h : w.ownsRow 0 e 1 (.slice (some ⟨g, 0, none⟩) n cap) n xs) : Row w g cap e xs := by
  have : xs.length = n := by have := h.1; omega
  unfold Row; rw [this]; exact h
theorem Row.open {w : World} {g cap : Nat} {e : TypeId} {xs : List Value} (h : Row w g cap e xs) : ∃ cur, w.heap[g]? = some (.cells cur e (0, 0)) ∧ xs.length ≤ cap ∧ cap ≤ maxLen ∧ cur.size = cap ∧ cur.toList.take xs.length = xs := by
  rcases h.2 with ⟨h1, _⟩ | ⟨g', cap', cur, hv, _, hh, h1, h2, h3, h4⟩
  · cases h1
  · injection hv with ha hb hc
    injection ha with ha
    injection ha with ha
    subst ha hc
    exact ⟨cur, hh, h1, h2, by omega, by simpa using h4⟩
theorem Row.close {w : World} {g cap : Nat} {e : TypeId} {xs : List Value} {cur : Array Value} (hh : w.heap[g]? = some (.cells cur e (0, 0))) (h1 : xs.length ≤ cap) (h2 : cap ≤ maxLen) (h3 : cur.size = cap) (h4 : cur.toList.take xs.length = xs) : Row w g cap e xs :=
  ⟨by omega, .inr ⟨g, cap, cur, rfl, Nat.zero_le _, hh, h1, h2, by omega, by simpa using h4⟩⟩
theorem Row.lt {w : World} {g cap : Nat} {e : TypeId} {xs : List Value} (h : Row w g cap e xs) : g < w.heap.size := by
  obtain ⟨cur, hh, _⟩ := h.open
  exact blk_lt hh
theorem Row.same {w w' : World} {g cap : Nat} {e : TypeId} {xs : List Value} (h : Row w g cap e xs) (hb : w'.heap[g]? = w.heap[g]?) : Row w' g cap e xs := by
  obtain ⟨cur, hh, h1, h2, h3, h4⟩ := h.open
  exact Row.close (hb.trans hh) h1 h2 h3 h4
theorem Row.fr {w w' : World} {P : Nat → Prop} {g cap : Nat} {e : TypeId} {xs : List Value} (h : Row w g cap e xs) (hf : Fr P w w') (hn : ¬ P g) : Row w' g cap e xs := h.same (hf.block g h.lt hn)
theorem Row.cell {w : World} {g cap : Nat} {e : TypeId} {xs : List Value} (h : Row w g cap e xs) (i : Nat) (hi : i < xs.length) (ho : xs[i].oneCell' = true) : w.cell? ⟨g, i, none⟩ = some xs[i] := by
  obtain ⟨cur, hh, h1, h2, h3, h4⟩ := h.open
  have hlt : i < cur.size := by omega
  have e : cur[i] = xs[i] := by
    have : cur.toList[i]? = xs[i]? := by
      conv => rhs; rw [← h4]
      rw [List.getElem?_take_of_lt hi]
    rw [List.getElem?_eq_getElem hi, List.getElem?_eq_getElem (by simpa using hlt)] at this
    simpa using this
  simp [World.cell?, hh, hlt, e]
theorem Row.free {w : World} {g cap : Nat} {e : TypeId} {xs : List Value} (h : Row w g cap e xs) (i : Nat) : w.frozen? ⟨g, i, none⟩ = false := by
  obtain ⟨cur, hh, _⟩ := h.open
  simp [World.frozen?, hh]
theorem Row.set {w : World} {g cap : Nat} {e : TypeId} {xs : List Value} (h : Row w g cap e xs) (i : Nat) (u : Value) : Row (w.setCell ⟨g, i, none⟩ u) g cap e (xs.set i u) := by
  obtain ⟨cur, hh, h1, h2, h3, h4⟩ := h.open
  refine Row.close (cur := cur.setIfInBounds i u) ?_ (by simpa using h1) h2 (by simpa using h3) ?_
  · have e : (w.setCell ⟨g, i, none⟩ u).heap = w.heap.modify g (fun o => match o with | .cells c t f => .cells (c.setIfInBounds i u) t f | o => o) := rfl
    rw [e, Array.getElem?_modify, if_pos rfl, hh]
    rfl
  · rw [List.length_set]
    conv => rhs; rw [← h4]
    simp [List.take_set]
abbrev Own := Nat → Nat
def Ow (own own' : Own) (w : World) : Prop := ∀ b, b < w.heap.size → own' b = own b
theorem Ow.refl (own : Own) (w : World) : Ow own own w := fun _ _ => rfl
theorem Ow.trans {o1 o2 o3 : Own} {w w' : World} (h : Ow o1 o2 w) (k : Ow o2 o3 w') (hs : w.heap.size ≤ w'.heap.size) : Ow o1 o3 w := fun b hb => (k b (Nat.lt_of_lt_of_le hb hs)).trans (h b hb)
structure IsAr (w : World) (own : Own) (a p : Nat) (size : Nat) (l : List AO) : Prop where
  out : ∃ gw gf cw cf bs, w.heap[p]? = some (.cells #[.int .i64 (size : Int), .slice (some ⟨gw, 0, none⟩) (usedOf l) cw, .slice (some ⟨gf, 0, none⟩) bs.length cf] 145 (0, 0)) ∧
    Row w gw cw 22 ((blockWords l).map wv) ∧ Row w gf cf 22 (bs.map wv) ∧ Bits l bs ∧ own p = 3 * a + 10 ∧ own gw = 3 * a + 11 ∧ own gf = 3 * a + 12
  s1 : 1 ≤ size
  s2 : size ≤ 1048576
  fit : usedOf l ≤ size
  lt : ∀ o ∈ l, o.1 < 18446744073709551616 ∧ ∀ x ∈ o.2, x < 18446744073709551616
theorem words_map_len (l : List AO) : ((blockWords l).map wv).length = usedOf l := by rw [List.length_map, block_len]
theorem IsAr.fr {w w' : World} {own own' : Own} {a p size : Nat} {l : List AO} {P : Nat → Prop} (h : IsAr w own a p size l) (hf : Fr P w w') (ho : Ow own own' w) (hP : ∀ b, P b → own b ≠ 3 * a + 10 ∧ own b ≠ 3 * a + 11 ∧ own b ≠ 3 * a + 12) : IsAr w' own' a p size l := by
  obtain ⟨gw, gf, cw, cf, bs, h1, h2, h3, h4, h5, h6, h7⟩ := h.out
  exact ⟨⟨gw, gf, cw, cf, bs, (hf.block p (blk_lt h1) (fun hp => (hP p hp).1 h5)).trans h1, h2.fr hf (fun hp => (hP gw hp).2.1 h6), h3.fr hf (fun hp => (hP gf hp).2.2 h7), h4, (ho p (blk_lt h1)).trans h5, (ho gw h2.lt).trans h6, (ho gf h3.lt).trans h7⟩, h.s1, h.s2, h.fit, h.lt⟩
theorem IsAr.below {w w' : World} {own : Own} {a p size : Nat} {l : List AO} (h : IsAr w own a p size l) (hf : Below w.heap.size w w') : IsAr w' own a p size l :=
  h.fr (Fr.below (P := fun _ => False) hf) (Ow.refl own w) (fun b hb => hb.elim)
theorem IsAr.drewN {w : World} {own : Own} {a p size : Nat} {l : List AO} (h : IsAr w own a p size l) (n : Nat) : IsAr (w.drewN n) own a p size l :=
  h.fr ((Fr.refl (fun _ => False) w).drewN n) (Ow.refl own w) (fun b hb => hb.elim)
theorem IsAr.cells {w : World} {own : Own} {a p size : Nat} {l : List AO} (h : IsAr w own a p size l) : ∃ gw gf cw cf bs,
    w.heap[p]? = some (.cells #[.int .i64 (size : Int), .slice (some ⟨gw, 0, none⟩) (usedOf l) cw, .slice (some ⟨gf, 0, none⟩) bs.length cf] 145 (0, 0)) ∧
    w.cell? ⟨p, 0, none⟩ = some (.int .i64 (size : Int)) ∧ w.cell? ⟨p, 1, none⟩ = some (.slice (some ⟨gw, 0, none⟩) (usedOf l) cw) ∧ w.cell? ⟨p, 2, none⟩ = some (.slice (some ⟨gf, 0, none⟩) bs.length cf) ∧
    (∀ i, w.frozen? ⟨p, i, none⟩ = false) ∧ usedOf l ≤ cw ∧ bs.length ≤ cf ∧
    (∀ i (hi : i < (blockWords l).length), w.cell? ⟨gw, i, none⟩ = some (wv (blockWords l)[i])) ∧ (∀ i (hi : i < bs.length), w.cell? ⟨gf, i, none⟩ = some (wv bs[i])) ∧ (∀ i, w.frozen? ⟨gw, i, none⟩ = false) ∧ (∀ i, w.frozen? ⟨gf, i, none⟩ = false) ∧
    Row w gw cw 22 ((blockWords l).map wv) ∧ Row w gf cf 22 (bs.map wv) ∧ Bits l bs ∧ own p = 3 * a + 10 ∧ own gw = 3 * a + 11 ∧ own gf = 3 * a + 12 := by
  obtain ⟨gw, gf, cw, cf, bs, h1, h2, h3, h4, h5, h6, h7⟩ := h.out
  refine ⟨gw, gf, cw, cf, bs, h1, by simp [World.cell?, h1], by simp [World.cell?, h1], by simp [World.cell?, h1], fun i => by simp [World.frozen?, h1], ?_, ?_, fun i hi => ?_, fun i hi => ?_, fun i => h2.free i, fun i => h3.free i, h2, h3, h4, h5, h6, h7⟩
  · obtain ⟨cur, _, hc, _⟩ := h2.open; rw [words_map_len] at hc; exact hc
  · obtain ⟨cur, _, hc, _⟩ := h3.open; rw [List.length_map] at hc; exact hc
  · have := h2.cell i (by rw [List.length_map]; exact hi) (by rw [List.getElem_map]; rfl)
    rwa [List.getElem_map] at this
  · have := h3.cell i (by rw [List.length_map]; exact hi) (by rw [List.getElem_map]; rfl)
    rwa [List.getElem_map] at this
end Go.Proofs.YtglglknhifjbaaaGreatDoor.Sp
namespace Go.Proofs.YtglglknhifjbaaaGreatDoor.Sp
set_option linter.unusedVariables false
set_option linter.unusedSimpArgs false
open Go.ChangeMaps (setBlock)
open Go.RowKit
section
variable {P : Program} {w : World} {K ti ts : TypeId} {f0 f1 : Field}
def plK (db : Int) (k : ByteArray) : Value := .agg #[.int .i64 db, .string k]
structure PlT (P : Program) (K : TypeId) : Prop where
  str : ∃ f0 f1 ti ts, P.underlying K = some (.struct #[f0, f1]) ∧ f0.name ≠ "_" ∧ f1.name ≠ "_" ∧ f0.offset = 0 ∧ f1.offset = 1 ∧ f0.type = ti ∧ f1.type = ts ∧ P.underlying ti = some (.int .i64) ∧ P.underlying ts = some .string
  held : P.stoodInHeld K = false
theorem run_check_n (h : PlT P K) (em : Bool) (db : Int) (k : ByteArray) (n : Nat) : (Instr.checkKey em (n + 1 + 1) K (plK db k)).run P w = .ok () w := by
  obtain ⟨⟨f0, f1, ti, ts, hu, n0, n1, o0, o1, t0, t1, u0, u1⟩, hh⟩ := h
  unfold plK
  simp [Instr.checkKey, run_underlying hu, n0, n1, o0, o1, t0, t1, part, isAgg, run_underlying u0, run_underlying u1]
theorem run_check (h : PlT P K) (em : Bool) (db : Int) (k : ByteArray) : (Instr.checkKey em 10000 K (plK db k)).run P w = .ok () w := run_check_n h em db k 9998
theorem PlT.wide (h : PlT P K) : (match P.underlying K with | some (.array _ _) | some (.struct _) => true | _ => false) = true := by
  obtain ⟨⟨f0, f1, ti, ts, hu, -⟩, hh⟩ := h
  rw [hu]
theorem run_find_nil (h : PlT P K) (x : Value) : (Instr.findKey K x []).run P w = .ok none w := by
  rw [run_findKey_eq w h.wide]
  simp [Instr.findAsking]
section
variable {T E : TypeId} {mb ck born : Nat} {v z : Value} {db db' : Int} {k k' : ByteArray}
theorem run_lookup_nil (h : PlT P K) (hT : P.underlying T = some (.map K E)) (hz : (zeroValue E).run P w = .ok z w) (hb : w.heap[mb]? = some (.map #[] ck)) :
    (Instr.lookup T (.map (some mb)) (plK db k) true).run P w = .ok (.tuple #[z, .bool false]) w := by
  simp [Instr.lookup, run_underlying hT, MapKept.run_getObj_map hb, run_check h, run_find_nil h, hz, Result.andThen]
theorem run_update_nil (h : PlT P K) (hT : P.underlying T = some (.map K E)) (hb : w.heap[mb]? = some (.map #[] ck)) (v : Value) :
    (Instr.mapUpdate T (.map (some mb)) (plK db k) v).run P w = .ok () (setBlock w mb (.map #[⟨plK db k, v, ck⟩] (ck + 1))) := by
  simp [Instr.mapUpdate, run_underlying hT, MapKept.run_getObj_map hb, run_check h, run_find_nil h, MapKept.run_setObj_map _ hb, Result.andThen, setBlock]
theorem run_range_one {es : Array MapEntry} (hT : P.underlying T = some (.map K E)) (hb : w.heap[mb]? = some (.map es ck)) :
    (Instr.range T (.map (some mb))).run P w = .ok (.pointer (some ⟨w.heap.size, 0, none⟩)) (w.alloc (.mapIter (some mb) ck #[] ck)) := run_range_map w T K E mb es ck hT hb
theorem run_next_first {r : Nat} (ty : TypeId) (hr : w.heap[r]? = some (.mapIter (some mb) ck #[] ck)) (hb : w.heap[mb]? = some (.map #[⟨plK db k, v, born⟩] ck)) (hbo : born < ck) :
    (Instr.next (.pointer (some ⟨r, 0, none⟩)) false ty).run P w = .ok (.tuple #[.bool true, plK db k, v]) (setBlock w r (.mapIter (some mb) ck #[born] ck)) := by
  simp [Instr.next, getObj, Sem.run, hr, hb, Result.andThen, choose, Question.forced, run_setObj_at hr, hbo, Nat.not_le.2 hbo]
theorem run_next_nil {r : Nat} (ty : TypeId) (hr : w.heap[r]? = some (.mapIter (some mb) ck #[] ck)) (hb : w.heap[mb]? = some (.map #[] ck)) :
    (Instr.next (.pointer (some ⟨r, 0, none⟩)) false ty).run P w = .ok (.tuple #[.bool false]) w := by
  simp [Instr.next, getObj, Sem.run, hr, hb, Result.andThen, choose, Question.forced]
theorem run_next_last {r : Nat} (ty : TypeId) (hr : w.heap[r]? = some (.mapIter (some mb) ck #[born] ck)) (hb : w.heap[mb]? = some (.map #[⟨plK db k, v, born⟩] ck)) (hbo : born < ck) :
    (Instr.next (.pointer (some ⟨r, 0, none⟩)) false ty).run P w = .ok (.tuple #[.bool false]) w := by
  simp [Instr.next, getObj, Sem.run, hr, hb, Result.andThen, choose, Question.forced, hbo, Nat.not_le.2 hbo]
theorem run_entry_one {r : Nat} (hr : w.heap[r]? = some (.mapIter (some mb) ck #[born] ck)) (hb : w.heap[mb]? = some (.map #[⟨plK db k, v, born⟩] ck)) :
    (Instr.entry (.pointer (some ⟨r, 0, none⟩))).run P w = .ok (.tuple #[plK db k, v]) w := by
  simp [Instr.entry, getObj, Sem.run, hr, hb, Result.andThen]
theorem run_clear {es : Array MapEntry} (ty : TypeId) (hT : P.underlying T = some (.map K E)) (hb : w.heap[mb]? = some (.map es ck)) :
    (Builtin.clear_ #[T] ty #[.map (some mb)]).run P w = .ok (.tuple #[]) (setBlock w mb (.map #[] ck)) := by
  simp [Builtin.clear_, run_underlying hT, MapKept.run_getObj_map hb, MapKept.run_setObj_map _ hb, Result.andThen, setBlock]
end
end
section
variable {P : Program} (w : World) {w1 : World} {ops : Array Oper} {rest : List Oper} {o : Oper} {a : Act} {Q : Exit → Act → World → Prop} {mv xv vv v : Value} {t : TypeId}
theorem wp_mapUpdate (hg : o.guard = none) (m x y : Operand) (t : TypeId) (hop : o.op = Op.mapUpdate t m x y) (hm : a.eval m = mv) (hx : a.eval x = xv) (hv : a.eval y = vv) (hr : (Instr.mapUpdate t mv xv vv).run P w = .ok () w1) (hK : wpList P ops Q rest (a.put o.dst undef) w1) : wpList P ops Q (o :: rest) a w := by
  refine wpList_plain hg fun K' hK' => ?_
  unfold Oper.wp
  simp [execOp, hop, hm, hx, hv, hr, Result.andThen]
  exact hK' _ _ hK
theorem wp_range (hg : o.guard = none) (m : Operand) (t : TypeId) (hop : o.op = Op.range t m) (hm : a.eval m = mv) (hr : (Instr.range t mv).run P w = .ok v w1) (hK : wpList P ops Q rest (a.put o.dst v) w1) : wpList P ops Q (o :: rest) a w := by
  refine wpList_plain hg fun K' hK' => ?_
  unfold Oper.wp
  simp [execOp, hop, hm, hr, Result.andThen]
  exact hK' _ _ hK
theorem wp_next (hg : o.guard = none) (it : Operand) (hop : o.op = Op.next it false) (hm : a.eval it = mv) (hr : (Instr.next mv false o.type).run P w = .ok v w1) (hK : wpList P ops Q rest (a.put o.dst v) w1) : wpList P ops Q (o :: rest) a w := by
  refine wpList_plain hg fun K' hK' => ?_
  unfold Oper.wp
  simp [execOp, hop, hm, hr, Result.andThen]
  exact hK' _ _ hK
theorem wp_clear (hg : o.guard = none) (m : Operand) (t : TypeId) (hop : o.op = Op.call { callee := Callee.builtin Builtin.clear, args := #[m], argTypes := #[t] }) (hm : a.eval m = mv) (hr : (Builtin.clear_ #[t] o.type #[mv]).run P w = .ok v w1) (hK : wpList P ops Q rest (a.put o.dst v) w1) : wpList P ops Q (o :: rest) a w := by
  refine wpList_plain hg fun K' hK' => ?_
  unfold Oper.wp
  simp [execOp, hop, resolve, invoke, builtin, hm, hr, Result.andThen]
  exact hK' _ _ hK
end
end Go.Proofs.YtglglknhifjbaaaGreatDoor.Sp
