/- Blocks of memory, who owns them, and what a step leaves as it was; rows of words; an arena's blocks. -/
import Derived.Test.YthdahjmkkdljbaaAo
import Derived.Below
import Derived.OneCell
import Derived.Laws.OwnMore
import Derived.Deep.AppendLies
import Derived.Lib.Hide
import Derived.Deep.Draws
import Derived.Tactics
namespace Go.Proofs.Ythdahjmkkdljbaa.Sp
open Go.RowKit
set_option linter.unusedVariables false
set_option linter.unusedSimpArgs false
theorem results_tmp4 {fn : Func} {t u v x : Tmp} (h : fn.results = #[.tmp t, .tmp u, .tmp v, .tmp x]) (tmps : Array Value) (P : Program) (w : World) :
    (results fn tmps).run P w = .ok (.tuple #[tmps.getD t undef, tmps.getD u undef, tmps.getD v undef, tmps.getD x undef]) w := by simp [results, h]
/-- Outside P, and what is new, nothing has changed. -/
structure Fr (P : Nat → Prop) (w w' : World) : Prop where
  os : w'.os = w.os
  tape : w'.tape = w.tape
  output : w'.output = w.output
  size : w.heap.size ≤ w'.heap.size
  block : ∀ i, i < w.heap.size → ¬ P i → w'.heap[i]? = w.heap[i]?
theorem Fr.refl (P : Nat → Prop) (w : World) : Fr P w w := ⟨rfl, rfl, rfl, Nat.le_refl _, fun _ _ _ => rfl⟩
theorem Fr.trans {P P1 : Nat → Prop} {a b c : World} (h : Fr P a b) (k : Fr P1 b c) (hP : ∀ i, i < a.heap.size → P1 i → P i) : Fr P a c :=
  ⟨k.os.trans h.os, k.tape.trans h.tape, k.output.trans h.output, Nat.le_trans h.size k.size, fun i hi hn => (k.block i (Nat.lt_of_lt_of_le hi h.size) (fun h1 => hn (hP i hi h1))).trans (h.block i hi hn)⟩
theorem Fr.mono {P P1 : Nat → Prop} {w w' : World} (h : Fr P w w') (hP : ∀ i, i < w.heap.size → P i → P1 i) : Fr P1 w w' :=
  ⟨h.os, h.tape, h.output, h.size, fun i hi hn => h.block i hi (fun h1 => hn (hP i hi h1))⟩
theorem Fr.alloc {P : Nat → Prop} {a w : World} (h : Fr P a w) (o : Obj) : Fr P a (w.alloc o) :=
  ⟨h.os, h.tape, h.output, Nat.le_trans h.size (by simp), fun i hi hn => (Below.heap_alloc w o i (Nat.lt_of_lt_of_le hi h.size)).trans (h.block i hi hn)⟩
theorem Fr.drew {P : Nat → Prop} {a w : World} (h : Fr P a w) : Fr P a w.drew := ⟨h.os, h.tape, h.output, h.size, h.block⟩
theorem Fr.drewN {P : Nat → Prop} {a w : World} (h : Fr P a w) (n : Nat) : Fr P a (w.drewN n) := ⟨h.os, h.tape, h.output, h.size, h.block⟩
theorem Fr.setCell {P : Nat → Prop} {a w : World} (h : Fr P a w) {p : Addr} (hp : P p.block ∨ a.heap.size ≤ p.block) (u : Value) : Fr P a (w.setCell p u) :=
  ⟨h.os, h.tape, h.output, by simpa [World.setCell] using h.size, fun i hi hn => (Below.heap_setCell w p u i (by
    rintro rfl
    rcases hp with hp | hp
    · exact hn hp
    · omega)).trans (h.block i hi hn)⟩
theorem Fr.grown {P : Nat → Prop} {a w w' : World} {row : Option Nat} (h : Fr P a w) (hg : w.grownBy w' row) (hr : ∀ k, row = some k → P k ∨ a.heap.size ≤ k) : Fr P a w' :=
  ⟨hg.os.trans h.os, hg.tape.trans h.tape, hg.output.trans h.output, Nat.le_trans h.size hg.size, fun i hi hn => (hg.block i (Nat.lt_of_lt_of_le hi h.size) (by
    rintro rfl
    rcases hr i rfl with h1 | h1
    · exact hn h1
    · omega)).trans (h.block i hi hn)⟩
theorem Fr.below {P : Nat → Prop} {w w' : World} (h : Below w.heap.size w w') : Fr P w w' := ⟨h.os, h.tape, h.output, h.size, fun i hi _ => h.block i hi⟩
theorem Fr.cell {P : Nat → Prop} {w w' : World} (h : Fr P w w') {p : Addr} (hp : p.block < w.heap.size) (hn : ¬ P p.block) : w'.cell? p = w.cell? p := World.cell?_of_block (w := w) (h.block p.block hp hn)
theorem Fr.frozen {P : Nat → Prop} {w w' : World} (h : Fr P w w') {p : Addr} (hp : p.block < w.heap.size) (hn : ¬ P p.block) : w'.frozen? p = w.frozen? p := World.frozen?_of_block (w := w) (h.block p.block hp hn)
theorem blk_lt {w : World} {b : Nat} {o : Obj} (h : w.heap[b]? = some o) : b < w.heap.size := (Array.getElem?_eq_some_iff.1 h).1
theorem alloc_at (w : World) (o : Obj) (n : Nat) : (w.alloc o).heap[n]? = if n = w.heap.size then some o else w.heap[n]? := by
  have e : (w.alloc o).heap = w.heap.push o := rfl
  rw [e, Array.getElem?_push]
theorem drew_heap (w : World) : w.drew.heap = w.heap := rfl
theorem drewN_heap (w : World) (n : Nat) : (w.drewN n).heap = w.heap := rfl
/-- A row of whole numbers in a block of its own. -/
def wv (n : Nat) : Value := .int .u64 (n : Int)
def Row (w : World) (g cap : Nat) (e : TypeId) (xs : List Value) : Prop := w.ownsRow 0 e 1 (.slice (some ⟨g, 0, none⟩) xs.length cap) xs.length xs
theorem Row.mk {w : World} {g cap : Nat} {e : TypeId} {n : Nat} {xs : List Value} (h : w.ownsRow 0 e 1 (.slice (some ⟨g, 0, none⟩) n cap) n xs) : Row w g cap e xs := by
  have : xs.length = n := by have := h.1; omega
  unfold Row; rw [this]; exact h
theorem Row.open {w : World} {g cap : Nat} {e : TypeId} {xs : List Value} (h : Row w g cap e xs) : ∃ cur, w.heap[g]? = some (.cells cur e (0, 0)) ∧ xs.length ≤ cap ∧ cap ≤ maxLen ∧ cur.size = cap ∧ cur.toList.take xs.length = xs := by
  rcases h.2 with ⟨h1, _⟩ | ⟨g', cap', cur, hv, _, hh, h1, h2, h3, h4⟩
  · cases h1
  · injection hv with ha hb hc
    injection ha with ha
    injection ha with ha
    subst ha hc
    exact ⟨cur, hh, h1, h2, by omega, by simpa using h4⟩
theorem Row.close {w : World} {g cap : Nat} {e : TypeId} {xs : List Value} {cur : Array Value} (hh : w.heap[g]? = some (.cells cur e (0, 0))) (h1 : xs.length ≤ cap) (h2 : cap ≤ maxLen) (h3 : cur.size = cap) (h4 : cur.toList.take xs.length = xs) : Row w g cap e xs :=
  ⟨by omega, .inr ⟨g, cap, cur, rfl, Nat.zero_le _, hh, h1, h2, by omega, by simpa using h4⟩⟩
theorem Row.lt {w : World} {g cap : Nat} {e : TypeId} {xs : List Value} (h : Row w g cap e xs) : g < w.heap.size := by
  obtain ⟨cur, hh, _⟩ := h.open
  exact blk_lt hh
theorem Row.same {w w' : World} {g cap : Nat} {e : TypeId} {xs : List Value} (h : Row w g cap e xs) (hb : w'.heap[g]? = w.heap[g]?) : Row w' g cap e xs := by
  obtain ⟨cur, hh, h1, h2, h3, h4⟩ := h.open
  exact Row.close (hb.trans hh) h1 h2 h3 h4
theorem Row.fr {w w' : World} {P : Nat → Prop} {g cap : Nat} {e : TypeId} {xs : List Value} (h : Row w g cap e xs) (hf : Fr P w w') (hn : ¬ P g) : Row w' g cap e xs := h.same (hf.block g h.lt hn)
theorem Row.cell {w : World} {g cap : Nat} {e : TypeId} {xs : List Value} (h : Row w g cap e xs) (i : Nat) (hi : i < xs.length) (ho : xs[i].oneCell' = true) : w.cell? ⟨g, i, none⟩ = some xs[i] := by
  obtain ⟨cur, hh, h1, h2, h3, h4⟩ := h.open
  have hlt : i < cur.size := by omega
  have e : cur[i] = xs[i] := by
    have : cur.toList[i]? = xs[i]? := by
      conv => rhs; rw [← h4]
      rw [List.getElem?_take_of_lt hi]
    rw [List.getElem?_eq_getElem hi, List.getElem?_eq_getElem (by simpa using hlt)] at this
    simpa using this
  simp [World.cell?, hh, hlt, e]
theorem Row.free {w : World} {g cap : Nat} {e : TypeId} {xs : List Value} (h : Row w g cap e xs) (i : Nat) : w.frozen? ⟨g, i, none⟩ = false := by
  obtain ⟨cur, hh, _⟩ := h.open
  simp [World.frozen?, hh]
theorem Row.set {w : World} {g cap : Nat} {e : TypeId} {xs : List Value} (h : Row w g cap e xs) (i : Nat) (u : Value) : Row (w.setCell ⟨g, i, none⟩ u) g cap e (xs.set i u) := by
  obtain ⟨cur, hh, h1, h2, h3, h4⟩ := h.open
  refine Row.close (cur := cur.setIfInBounds i u) ?_ (by simpa using h1) h2 (by simpa using h3) ?_
  · have e : (w.setCell ⟨g, i, none⟩ u).heap = w.heap.modify g (fun o => match o with | .cells c t f => .cells (c.setIfInBounds i u) t f | o => o) := rfl
    rw [e, Array.getElem?_modify, if_pos rfl, hh]
    rfl
  · rw [List.length_set]
    conv => rhs; rw [← h4]
    simp [List.take_set]
/-- Whose a block is: 0: none of the heap's; below 10: the heap's own; an arena numbered a has 3a+10 (itself), 3a+11 (its words), 3a+12 (its bits). -/
abbrev Own := Nat → Nat
/-- The owners of what was there are as they were. -/
def Ow (own own' : Own) (w : World) : Prop := ∀ b, b < w.heap.size → own' b = own b
theorem Ow.refl (own : Own) (w : World) : Ow own own w := fun _ _ => rfl
theorem Ow.trans {o1 o2 o3 : Own} {w w' : World} (h : Ow o1 o2 w) (k : Ow o2 o3 w') (hs : w.heap.size ≤ w'.heap.size) : Ow o1 o3 w := fun b hb => (k b (Nat.lt_of_lt_of_le hb hs)).trans (h b hb)
/-- An arena: its block p, its words, its bits. -/
structure IsAr (w : World) (own : Own) (a p : Nat) (size : Nat) (l : List AO) : Prop where
  out : ∃ gw gf cw cf bs, w.heap[p]? = some (.cells #[.int .i64 (size : Int), .slice (some ⟨gw, 0, none⟩) (usedOf l) cw, .slice (some ⟨gf, 0, none⟩) bs.length cf] 99 (0, 0)) ∧
    Row w gw cw 22 ((blockWords l).map wv) ∧ Row w gf cf 22 (bs.map wv) ∧ Bits l bs ∧ own p = 3 * a + 10 ∧ own gw = 3 * a + 11 ∧ own gf = 3 * a + 12
  s1 : 1 ≤ size
  s2 : size ≤ 1048576
  fit : usedOf l ≤ size
  lt : ∀ o ∈ l, o.1 < 18446744073709551616 ∧ ∀ x ∈ o.2, x < 18446744073709551616
theorem words_map_len (l : List AO) : ((blockWords l).map wv).length = usedOf l := by rw [List.length_map, block_len]
theorem words_lt {l : List AO} (h : ∀ o ∈ l, o.1 < 18446744073709551616 ∧ ∀ x ∈ o.2, x < 18446744073709551616) : ∀ x ∈ blockWords l, x < 18446744073709551616 := fun x hx => by
  unfold blockWords wordsOf at hx
  rcases List.mem_cons.1 hx with rfl | hx
  · decide
  · obtain ⟨o, ho, hx⟩ := List.mem_flatMap.1 hx
    rcases List.mem_cons.1 hx with rfl | hx
    · exact (h o ho).1
    · exact (h o ho).2 x hx
/-- An arena is as it was where nothing of its own has changed. -/
theorem IsAr.fr {w w' : World} {own own' : Own} {a p size : Nat} {l : List AO} {P : Nat → Prop} (h : IsAr w own a p size l) (hf : Fr P w w') (ho : Ow own own' w) (hP : ∀ b, P b → own b ≠ 3 * a + 10 ∧ own b ≠ 3 * a + 11 ∧ own b ≠ 3 * a + 12) : IsAr w' own' a p size l := by
  obtain ⟨gw, gf, cw, cf, bs, h1, h2, h3, h4, h5, h6, h7⟩ := h.out
  exact ⟨⟨gw, gf, cw, cf, bs, (hf.block p (blk_lt h1) (fun hp => (hP p hp).1 h5)).trans h1, h2.fr hf (fun hp => (hP gw hp).2.1 h6), h3.fr hf (fun hp => (hP gf hp).2.2 h7), h4, (ho p (blk_lt h1)).trans h5, (ho gw h2.lt).trans h6, (ho gf h3.lt).trans h7⟩, h.s1, h.s2, h.fit, h.lt⟩
theorem IsAr.below {w w' : World} {own : Own} {a p size : Nat} {l : List AO} (h : IsAr w own a p size l) (hf : Below w.heap.size w w') : IsAr w' own a p size l :=
  h.fr (Fr.below (P := fun _ => False) hf) (Ow.refl own w) (fun b hb => hb.elim)
theorem IsAr.drewN {w : World} {own : Own} {a p size : Nat} {l : List AO} (h : IsAr w own a p size l) (n : Nat) : IsAr (w.drewN n) own a p size l :=
  h.fr ((Fr.refl (fun _ => False) w).drewN n) (Ow.refl own w) (fun b hb => hb.elim)
/-- What the walk reads of an arena. -/
theorem IsAr.cells {w : World} {own : Own} {a p size : Nat} {l : List AO} (h : IsAr w own a p size l) : ∃ gw gf cw cf bs,
    w.heap[p]? = some (.cells #[.int .i64 (size : Int), .slice (some ⟨gw, 0, none⟩) (usedOf l) cw, .slice (some ⟨gf, 0, none⟩) bs.length cf] 99 (0, 0)) ∧
    w.cell? ⟨p, 0, none⟩ = some (.int .i64 (size : Int)) ∧ w.cell? ⟨p, 1, none⟩ = some (.slice (some ⟨gw, 0, none⟩) (usedOf l) cw) ∧ w.cell? ⟨p, 2, none⟩ = some (.slice (some ⟨gf, 0, none⟩) bs.length cf) ∧
    (∀ i, w.frozen? ⟨p, i, none⟩ = false) ∧ usedOf l ≤ cw ∧ bs.length ≤ cf ∧
    (∀ i (hi : i < (blockWords l).length), w.cell? ⟨gw, i, none⟩ = some (wv (blockWords l)[i])) ∧ (∀ i (hi : i < bs.length), w.cell? ⟨gf, i, none⟩ = some (wv bs[i])) ∧ (∀ i, w.frozen? ⟨gw, i, none⟩ = false) ∧ (∀ i, w.frozen? ⟨gf, i, none⟩ = false) ∧
    Row w gw cw 22 ((blockWords l).map wv) ∧ Row w gf cf 22 (bs.map wv) ∧ Bits l bs ∧ own p = 3 * a + 10 ∧ own gw = 3 * a + 11 ∧ own gf = 3 * a + 12 := by
  obtain ⟨gw, gf, cw, cf, bs, h1, h2, h3, h4, h5, h6, h7⟩ := h.out
  refine ⟨gw, gf, cw, cf, bs, h1, by simp [World.cell?, h1], by simp [World.cell?, h1], by simp [World.cell?, h1], fun i => by simp [World.frozen?, h1], ?_, ?_, fun i hi => ?_, fun i hi => ?_, fun i => h2.free i, fun i => h3.free i, h2, h3, h4, h5, h6, h7⟩
  · obtain ⟨cur, _, hc, _⟩ := h2.open; rw [words_map_len] at hc; exact hc
  · obtain ⟨cur, _, hc, _⟩ := h3.open; rw [List.length_map] at hc; exact hc
  · have := h2.cell i (by rw [List.length_map]; exact hi) (by rw [List.getElem_map]; rfl)
    rwa [List.getElem_map] at this
  · have := h3.cell i (by rw [List.length_map]; exact hi) (by rw [List.getElem_map]; rfl)
    rwa [List.getElem_map] at this
end Go.Proofs.Ythdahjmkkdljbaa.Sp
