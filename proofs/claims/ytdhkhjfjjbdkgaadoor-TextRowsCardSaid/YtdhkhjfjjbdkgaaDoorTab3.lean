/- larderlaw3.Table: what its loops hold. -/
import Derived.Test.YtdhkhjfjjbdkgaaDoorTab2
import Derived.Laws.BitsLemmas
namespace Go.Proofs.YtdhkhjfjjbdkgaaDoor.Tab
open Go.RowKit
set_option linter.unusedVariables false
set_option linter.unusedSimpArgs false
theorem at_store {P : Program} {ops : Array Oper} {rest : List Oper} {o : Oper} {a : Act} {Q : Exit → Act → World → Prop} {W : World} {t : TypeId} {p : Tmp} {v : Operand} (_ho : o.op = .store t (.tmp p) v) (h : wpList P ops Q (o :: rest) a W) : wpList P ops Q (o :: rest) a W := h
theorem and1023 (n : Int) : ∃ m : Nat, m ≤ 1023 ∧ bits .and .i64 n 1023 = (m : Int) := by
  refine ⟨(BitVec.ofInt 64 n &&& BitVec.ofInt 64 1023).toNat, ?_, ?_⟩
  · rw [BitVec.toNat_and]
    exact Nat.le_trans Nat.and_le_right (by decide)
  · have h : (BitVec.ofInt 64 n &&& BitVec.ofInt 64 1023).toNat ≤ 1023 := by
      rw [BitVec.toNat_and]
      exact Nat.le_trans Nat.and_le_right (by decide)
    unfold bits
    show IntKind.i64.wrap ((BitVec.ofInt 64 n &&& BitVec.ofInt 64 1023).toNat : Int) = _
    rw [IntKind.wrap_i64]
    omega
theorem count_of (n : Int) : ∃ M : Nat, 2 ≤ M ∧ M ≤ 1025 ∧ wrap64 (2 + bits .and .i64 n 1023) = (M : Int) := by
  obtain ⟨m, hm, e⟩ := and1023 n
  exact ⟨2 + m, by omega, by omega, by rw [e]; unfold wrap64; omega⟩
/-- The rows that a slice holds. -/
def Rows_ (w : World) (xs : List Cmd) (p : Sl) : Prop := Reads w p.1 xs
theorem Reads_grown {w w' : World} {row : Option Nat} (hg : w.grownBy w' row) {b : Nat} {xs : List Cmd} (hb : b < w.heap.size) (hne : some b ≠ row) (h : Reads w b xs) : Reads w' b xs :=
  fun i j u hi hu => by rw [cell_grown hg hb hne]; exact h i j u hi hu
theorem below_grown {w w' : World} (h : Below w.heap.size w w') : w.grownBy w' none := ⟨h.os, h.tape, h.output, h.size, fun k hk _ => h.block k hk⟩
theorem grown_none {w w' : World} (h : w.grownBy w' none) (row : Option Nat) : w.grownBy w' row := ⟨h.os, h.tape, h.output, h.size, fun k hk _ => h.block k hk (by simp)⟩
theorem Slc_below {w w' : World} (h : Below w.heap.size w w') {p : Sl} (hs : Slc w p) : Slc w' p := Slc_grown (below_grown h) hs (by simp)
theorem Part_below {w w' : World} (h : Below w.heap.size w w') {mk : List Value} {k : Nat} {p : Sl} (hs : Part w mk k p) : Part w' mk k p := Part_grown (below_grown h) hs (by simp)
theorem Reads_below {w w' : World} (h : Below w.heap.size w w') {b : Nat} (hb : b < w.heap.size) {xs : List Cmd} (hs : Reads w b xs) : Reads w' b xs := Reads_grown (below_grown h) hb (by simp) hs
theorem cell_below {w w' : World} (h : Below w.heap.size w w') {b j : Nat} (hb : b < w.heap.size) : w'.cell? ⟨b, j, none⟩ = w.cell? ⟨b, j, none⟩ := cell_grown (below_grown h) hb (by simp)
theorem cells_flat (xs : List Cmd) : ∀ i j u, i < xs.length → ((xs.getD i zc).cells)[j]? = some u → (xs.flatMap Cmd.cells)[i * 7 + j]? = some u := by
  induction xs with
  | nil => intro i j u hi; simp at hi
  | cons x r ih =>
    intro i j u hi hu
    have hl : x.cells.length = 7 := rfl
    rw [List.flatMap_cons]
    have hj : j < 7 := by
      have := (List.getElem?_eq_some_iff.1 hu).1
      have e : ((x :: r).getD i zc).cells.length = 7 := rfl
      omega
    cases i with
    | zero =>
      rw [List.getElem?_append_left (by omega)]
      simpa using hu
    | succ i =>
      rw [List.getElem?_append_right (by omega), hl, show (i + 1) * 7 + j - 7 = i * 7 + j from by omega]
      exact ih i j u (by simpa using hi) (by simpa using hu)
theorem flat_length (xs : List Cmd) : (xs.flatMap Cmd.cells).length = xs.length * 7 := by
  induction xs with
  | nil => rfl
  | cons x r ih => rw [List.flatMap_cons, List.length_append, ih]; show 7 + _ = _; simp; omega
theorem grownBy_alloc_trans {w w' : World} {o : Obj} {row : Option Nat} (h : (w.alloc o).grownBy w' row) : w.grownBy w' row :=
  grownBy_trans (World.grownBy_alloc w o row) h
/-- Behind k rounds of the first loop. -/
structure L1 (w wr : World) (xs : List Cmd) (v : Value) (k : Nat) (ls : List Sl) : Prop where
  len : ls.length = k
  own : wr.ownsRow w.heap.size 23 1 v k (ls.map val)
  each : ∀ p ∈ ls, p.2.1 = xs.length ∧ Slc wr p ∧ Rows_ wr xs p ∧ w.heap.size ≤ p.1 ∧ some p.1 ≠ v.ownBlock
  apart : ls.Pairwise (fun a b => a.1 ≠ b.1)
  below : Below w.heap.size w wr
theorem L1.zero (w : World) (xs : List Cmd) : L1 w w xs (.slice none 0 0) 0 [] :=
  ⟨rfl, w.ownsRow_nil _ _ _, fun p hp => by simp at hp, List.Pairwise.nil, Below.refl _ _⟩
theorem L1.same {w wr w1 : World} {xs : List Cmd} {v : Value} {k : Nat} {ls : List Sl} (h : L1 w wr xs v k ls) (hb : Below wr.heap.size wr w1) : L1 w w1 xs v k ls where
  len := h.len
  own := h.own.kept (grown_none (below_grown hb) none) (by
    cases hv : v.ownBlock with
    | none => exact .inl rfl
    | some g => exact .inr (by simp))
  each := fun p hp => by
    obtain ⟨h1, h2, h3, h4, h5⟩ := h.each p hp
    exact ⟨h1, Slc_below hb h2, Reads_below hb h2.2.2.1 h3, h4, h5⟩
  apart := h.apart
  below := h.below.trans (hb.mono h.below.size)
theorem L1.next {w wr w1 w2 : World} {xs : List Cmd} {v : Value} {k g cap : Nat} {ls : List Sl} (h : L1 w w1 xs v k ls) {p : Sl} (hw : w.heap.size ≤ wr.heap.size) (hold : ∀ q ∈ ls, q.1 < wr.heap.size) (hvo : ∀ b, v.ownBlock = some b → b < wr.heap.size)
    (hp1 : p.2.1 = xs.length) (hp2 : Slc w1 p) (hp3 : wr.heap.size ≤ p.1) (hp4 : ∀ j, j < xs.length * 7 → w1.cell? ⟨p.1, j, none⟩ = (xs.flatMap Cmd.cells)[j]?)
    (ho : w2.ownsRow w.heap.size 23 1 (.slice (some ⟨g, 0, none⟩) (k + 1) cap) (k + 1) (ls.map val ++ [val p])) (hg : w1.grownBy w2 v.ownBlock) (hv : v.ownBlock = some g ∨ w1.heap.size ≤ g) (hvb : ∀ b, v.ownBlock = some b → w.heap.size ≤ b) :
    L1 w w2 xs (.slice (some ⟨g, 0, none⟩) (k + 1) cap) (k + 1) (ls ++ [p]) where
  len := by simp [h.len]
  own := by simpa using ho
  each := fun q hq => by
    have hne : ∀ b, b < w1.heap.size → some b ≠ v.ownBlock → some b ≠ (Value.slice (some ⟨g, 0, none⟩) (k + 1) cap).ownBlock := fun b hb hne e => by
      have e1 : b = g := by simpa [Value.ownBlock] using e
      rcases hv with hv | hv
      · exact hne (by rw [hv, e1])
      · omega
    rcases List.mem_append.1 hq with hq | hq
    · obtain ⟨h1, h2, h3, h4, h5⟩ := h.each q hq
      exact ⟨h1, Slc_grown hg h2 h5, Reads_grown hg h2.2.2.1 h5 h3, h4, hne _ h2.2.2.1 h5⟩
    · obtain rfl : q = p := by simpa using hq
      have h5 : some q.1 ≠ v.ownBlock := fun e => by have := hvo q.1 e.symm; omega
      refine ⟨hp1, Slc_grown hg hp2 h5, Reads_grown hg hp2.2.2.1 h5 (fun i j u hi hu => ?_), by omega, hne _ hp2.2.2.1 h5⟩
      have hj : j < 7 := by
        have := (List.getElem?_eq_some_iff.1 hu).1
        have e : ((xs.getD i zc).cells).length = 7 := rfl
        omega
      rw [hp4 _ (by omega)]
      exact cells_flat xs i j u hi hu
  apart := by
    rw [List.pairwise_append]
    refine ⟨h.apart, by simp, fun a ha b hb => ?_⟩
    obtain rfl : b = p := by simpa using hb
    have := hold a ha
    omega
  below := h.below.grown hg h.below.size hvb
/-- The list of lists, as it lies. -/
structure Lay (w wr : World) (M N g7 : Nat) (P : Nat → Sl) : Prop where
  row : ∀ i, i < M → wr.cell? ⟨g7, i, none⟩ = some (val (P i))
  lt : g7 < wr.heap.size
  sl : ∀ i, i < M → (P i).2.1 = N ∧ Slc wr (P i) ∧ w.heap.size ≤ (P i).1 ∧ (P i).1 ≠ g7
  apart : ∀ i j, i < M → j < M → i ≠ j → (P i).1 ≠ (P j).1
  base : w.heap.size ≤ g7
  below : Below w.heap.size w wr
theorem L1.lay {w wr : World} {xs : List Cmd} {v : Value} {M : Nat} {ls : List Sl} (h : L1 w wr xs v M ls) (hM : 0 < M) :
    ∃ g7 c7, ∃ P : Nat → Sl, v = .slice (some ⟨g7, 0, none⟩) M c7 ∧ Lay w wr M xs.length g7 P ∧ ∀ i, i < M → Rows_ wr xs (P i) := by
  obtain ⟨hl, ho, he, ha, hb⟩ := h
  obtain ⟨h1, h2 | ⟨g, cap, cur, rfl, hg, hh, h3, h4, h5, h6⟩⟩ := ho
  · omega
  · have hmem : ∀ i, i < M → ls.getD i (0, 0, 0) ∈ ls := fun i hi => by
      rw [List.getD_eq_getElem?_getD, List.getElem?_eq_getElem (by omega)]; exact List.getElem_mem _
    refine ⟨g, cap, fun i => ls.getD i (0, 0, 0), rfl, ⟨fun i hi => ?_, (Array.getElem?_eq_some_iff.1 hh).1, fun i hi => ?_, fun i j hi hj hne => ?_, hg, hb⟩, fun i hi => (he _ (hmem i hi)).2.2.1⟩
    · simp only [World.cell?, hh]
      have : (ls.map val)[i]? = some (val (ls.getD i (0, 0, 0))) := by
        rw [List.getElem?_map, List.getD_eq_getElem?_getD, List.getElem?_eq_getElem (by omega)]; rfl
      rw [← this, ← h6, List.getElem?_take_of_lt (by omega)]
      simp
    · obtain ⟨a1, a2, a3, a4, a5⟩ := he _ (hmem i hi)
      exact ⟨a1, a2, a4, fun e => a5 (by show some _ = some g; rw [e])⟩
    · have key : ∀ a b, a < M → b < M → a < b → (ls.getD a (0, 0, 0)).1 ≠ (ls.getD b (0, 0, 0)).1 := fun a b h1 h2 hab => by
        have := List.pairwise_iff_getElem.1 ha a b (by omega) (by omega) hab
        rw [List.getD_eq_getElem?_getD, List.getD_eq_getElem?_getD, List.getElem?_eq_getElem (by omega), List.getElem?_eq_getElem (by omega)]
        exact this
      rcases Nat.lt_or_ge i j with h | h
      · exact key i j hi hj h
      · exact (key j i hj hi (by omega)).symm
theorem Lay.same {w wr w1 : World} {M N g7 : Nat} {P : Nat → Sl} (h : Lay w wr M N g7 P) (hb : Below wr.heap.size wr w1) : Lay w w1 M N g7 P where
  row := fun i hi => by rw [cell_below hb h.lt]; exact h.row i hi
  lt := Nat.lt_of_lt_of_le h.lt hb.size
  sl := fun i hi => ⟨(h.sl i hi).1, Slc_below hb (h.sl i hi).2.1, (h.sl i hi).2.2⟩
  apart := h.apart
  base := h.base
  below := h.below.trans (hb.mono h.below.size)
/-- The mark of list i. -/
def mark (i : Nat) : List Value := (Cmd.mk ⟨#[]⟩ (1000 + (i : Int)) false 0 0 0 0).cells
theorem mark_len (i : Nat) : (mark i).length = 7 := rfl
theorem mark_one (i : Nat) : ∀ u ∈ mark i, u.oneCell' = true := by intro u hu; simp [mark, Cmd.cells] at hu; rcases hu with rfl | rfl | rfl | rfl | rfl | rfl | rfl <;> rfl
/-- Painting one list leaves the lists as they lie. -/
theorem Lay.paints {w wr w1 : World} {M N g7 : Nat} {P : Nat → Sl} (h : Lay w wr M N g7 P) {i g : Nat} (hp : Paints wr w1 (mark i) g) (hg : g ≠ g7) (hw : w.heap.size ≤ g) : Lay w w1 M N g7 P where
  row := fun j hj => by rw [cell_grown hp.1 h.lt (fun e => hg (Option.some.inj e).symm)]; exact h.row j hj
  lt := Nat.lt_of_lt_of_le h.lt hp.1.size
  sl := fun j hj => ⟨(h.sl j hj).1, (Part_paints (k := 0) (mark_len i) hp ⟨(h.sl j hj).2.1, fun a ha => by omega⟩).1, (h.sl j hj).2.2⟩
  apart := h.apart
  base := h.base
  below := h.below.grown hp.1 h.below.size (fun k e => by rw [← Option.some.inj e]; exact hw)
/-- The lists below k bear their marks; of list k the first j rows do. -/
structure Pt (w wr : World) (M N g7 : Nat) (P : Nat → Sl) (k j : Nat) : Prop where
  lay : Lay w wr M N g7 P
  done : ∀ i, i < k → i < M → Mono wr (mark i) (P i)
  now : k < M → Part wr (mark k) j (P k)
theorem part_zero {w : World} {mk : List Value} {p : Sl} (h : Slc w p) : Part w mk 0 p := ⟨h, fun j hj => by omega⟩
theorem Lay.pt {w wr : World} {M N g7 : Nat} {P : Nat → Sl} (h : Lay w wr M N g7 P) : Pt w wr M N g7 P 0 0 :=
  ⟨h, fun i hi => by omega, fun hk => part_zero (h.sl 0 hk).2.1⟩
theorem Pt.up {w wr : World} {M N g7 : Nat} {P : Nat → Sl} {k : Nat} (h : Pt w wr M N g7 P k N) (hk : k < M) : Pt w wr M N g7 P (k + 1) 0 :=
  ⟨h.lay, fun i hi hM => by
    by_cases e : i = k
    · subst e; have := h.now hk; unfold Mono; rw [(h.lay.sl i hk).1]; exact this
    · exact h.done i (by omega) hM, fun hk1 => part_zero (h.lay.sl _ hk1).2.1⟩
theorem Pt.store {w wr : World} {M N g7 : Nat} {P : Nat → Sl} {k j : Nat} (h : Pt w wr M N g7 P k j) (hk : k < M) (hj : j < N) : Pt w (wr.setCells (P k).1 (j * 7) (mark k)) M N g7 P k (j + 1) := by
  have hs := h.lay.sl k hk
  have hN : N ≤ (P k).2.2 := by rw [← hs.1]; exact hs.2.1.1
  have hP := Paints.setCells wr (mark k) (mark_len k) (P k).1 j (fun i hi => (hs.2.1.2.2.2 (j * 7 + i) (by omega)).1)
  refine ⟨h.lay.paints hP hs.2.2.2 hs.2.2.1, fun i hi hM => ?_, fun _ => part_setCells (mark_len k) (h.now hk) (by omega)⟩
  exact Part_grown hP.1 (h.done i hi hM) (fun e => h.lay.apart i k hM hk (by omega) (Option.some.inj e))
theorem Lay.there {w wr : World} {M N g7 : Nat} {P : Nat → Sl} (h : Lay w wr M N g7 P) {k j : Nat} (hk : k < M) (hj : j < N) : wr.there (P k).1 (j * 7) 7 := fun i hi => by
  have hs := h.sl k hk
  have hN : N ≤ (P k).2.2 := by rw [← hs.1]; exact hs.2.1.1
  exact hs.2.1.2.2.2 (j * 7 + i) (by omega)
/-- Behind k rounds of the loop that keeps. -/
structure Kp (w wr : World) (M N g7 : Nat) (P : Nat → Sl) (v : Value) (k : Nat) (ks : List Sl) : Prop where
  lay : Lay w wr M N g7 P
  mono : ∀ i, i < M → Mono wr (mark i) (P i)
  len : ks.length = 3 * k
  own : wr.ownsRow w.heap.size 23 1 v (3 * k) (ks.map val)
  each : ∀ q p, ks[q]? = some p → Mono wr (mark (q / 3)) p ∧ some p.1 ≠ v.ownBlock ∧ p.1 ≠ g7 ∧ w.heap.size ≤ p.1 ∧ ∀ i, k ≤ i → i < M → p.1 ≠ (P i).1
  far : (∀ i, i < M → some (P i).1 ≠ v.ownBlock) ∧ some g7 ≠ v.ownBlock
theorem Pt.kp {w wr : World} {M N g7 : Nat} {P : Nat → Sl} (h : Pt w wr M N g7 P M 0) : Kp w wr M N g7 P (.slice none 0 0) 0 [] :=
  ⟨h.lay, fun i hi => h.done i hi hi, rfl, wr.ownsRow_nil _ _ _, fun q p hq => by simp at hq, fun i hi => by simp [Value.ownBlock], by simp [Value.ownBlock]⟩
/-- Within round k: what has been appended to is list k's, or new. -/
structure Ap (wk wr : World) (k : Nat) (p : Sl) (g n : Nat) : Prop where
  mono : Mono wr (mark k) p
  len : p.2.1 = n
  paints : Paints wk wr (mark k) g
  lies : p.1 = g ∨ wk.heap.size ≤ p.1
theorem Paints.alloc {wk wr : World} {mk : List Value} {g : Nat} (h : Paints wk wr mk g) (hg : g < wk.heap.size) (o : Obj) : Paints wk (wr.alloc o) mk g :=
  h.trans (Paints.of_new (World.grownBy_alloc wr o none) mk (Nat.lt_of_lt_of_le hg h.1.size))
theorem Paints.far {wk wr w1 : World} {mk : List Value} {g g' : Nat} (h : Paints wk wr mk g) (k : Paints wr w1 mk g') (hg : g < wk.heap.size) (hg' : g' = g ∨ wk.heap.size ≤ g') : Paints wk w1 mk g := by
  rcases hg' with rfl | hg'
  · exact h.trans k
  · refine ⟨⟨k.1.os.trans h.1.os, k.1.tape.trans h.1.tape, k.1.output.trans h.1.output, Nat.le_trans h.1.size k.1.size, fun i hi hne => ?_⟩, fun j => ?_⟩
    · rw [k.1.block i (Nat.lt_of_lt_of_le hi h.1.size) (fun e => by have := Option.some.inj e; omega)]; exact h.1.block i hi hne
    · have hlt : g < wr.heap.size := Nat.lt_of_lt_of_le hg h.1.size
      have hne : some g ≠ some g' := fun e => by have := Option.some.inj e; omega
      rw [frozen_grown k.1 hlt hne, cell_grown k.1 hlt hne]
      exact h.2 j
theorem Part_alloc {w : World} {mk : List Value} {k : Nat} {p : Sl} (h : Part w mk k p) (o : Obj) : Part (w.alloc o) mk k p := Part_grown (World.grownBy_alloc w o none) h (by simp)
theorem news_new (w : World) (d : Nat) : ∀ j u, (mark d)[j]? = some u → (w.alloc (.cells #[.string ⟨#[]⟩, .int .i64 (1000 + (d : Int)), .bool false, .int .i64 0, .int .i64 0, .int .i64 0, .int .i64 0] 28)).cell? ((⟨w.heap.size, 0, none⟩ : Addr).add j) = some u := by
  intro j u hj
  rw [add0, World.cell?, heap_alloc_new]
  have e : (#[.string ⟨#[]⟩, .int .i64 (1000 + (d : Int)), .bool false, .int .i64 0, .int .i64 0, .int .i64 0, .int .i64 0] : Array Value) = (mark d).toArray := rfl
  rw [e]
  simpa using hj
theorem Ap.next {wk wr w1 : World} {k g n : Nat} {p p' : Sl} {o : Obj} (h : Ap wk wr k p g n) (hg : g < wk.heap.size) (h1 : Mono w1 (mark k) p') (h2 : p'.2.1 = p.2.1 + 1) (h3 : Paints (wr.alloc o) w1 (mark k) p.1) (h4 : p'.1 = p.1 ∨ (wr.alloc o).heap.size ≤ p'.1) :
    Ap wk w1 k p' g (n + 1) where
  mono := h1
  len := by rw [h2, h.len]
  paints := (h.paints.alloc hg o).far h3 hg h.lies
  lies := by
    rcases h4 with e | e
    · rw [e]; exact h.lies
    · right; have := h.paints.1.size; simp at e; omega
/-- Round d of the loop that keeps. -/
theorem Kp.next {w wk w7 w8 : World} {M N g7 g cap : Nat} {P : Nat → Sl} {v : Value} {d : Nat} {ks : List Sl} {X : Obj} {pA pB pC : Sl} (h : Kp w wk M N g7 P v d ks) (hd : d < M) (h7 : Paints wk w7 (mark d) (P d).1)
    (hp : ∀ p, p = pA ∨ p = pB ∨ p = pC → Mono w7 (mark d) p ∧ (p.1 = (P d).1 ∨ wk.heap.size ≤ p.1))
    (ho : w8.ownsRow w.heap.size 23 1 (.slice (some ⟨g, 0, none⟩) (3 * d + 3) cap) (3 * d + 3) (ks.map val ++ [val pA, val pB, val pC])) (hg : (w7.alloc X).grownBy w8 v.ownBlock) (hl : v.ownBlock = some g ∨ g = w7.heap.size + 1) :
    Kp w w8 M N g7 P (.slice (some ⟨g, 0, none⟩) (3 * d + 3) cap) (d + 1) (ks ++ [pA, pB, pC]) := by
  have hg8 : w7.grownBy w8 v.ownBlock := grownBy_alloc_trans hg
  have hs := h.lay.sl d hd
  have hvlt : ∀ b, v.ownBlock = some b → b < wk.heap.size ∧ w.heap.size ≤ b := fun b hb => ⟨(h.own.lt b hb).2, (h.own.lt b hb).1⟩
  have hnew : ∀ b, b < w7.heap.size → some b ≠ v.ownBlock → some b ≠ (Value.slice (some ⟨g, 0, none⟩) (3 * d + 3) cap).ownBlock := fun b hb hne e => by
    have e1 : b = g := by simpa [Value.ownBlock] using e
    rcases hl with hl | hl
    · exact hne (by rw [hl, e1])
    · omega
  have hPd : (P d).1 < wk.heap.size := hs.2.1.2.2.1
  have hlay7 := h.lay.paints h7 hs.2.2.2 hs.2.2.1
  have hPi : ∀ i, i < M → (P i).1 < wk.heap.size := fun i hi => (h.lay.sl i hi).2.1.2.2.1
  have lay8 : Lay w w8 M N g7 P := by
    refine ⟨fun i hi => ?_, Nat.lt_of_lt_of_le hlay7.lt hg8.size, fun i hi => ?_, h.lay.apart, h.lay.base, hlay7.below.grown hg8 hlay7.below.size (fun b hb => (hvlt b hb).2)⟩
    · rw [cell_grown hg8 hlay7.lt h.far.2]; exact hlay7.row i hi
    · have := hlay7.sl i hi
      exact ⟨this.1, Slc_grown hg8 this.2.1 (h.far.1 i hi), this.2.2⟩
  refine ⟨lay8, fun i hi => ?_, by simp [h.len]; omega, by rw [show 3 * (d + 1) = 3 * d + 3 from by omega]; simpa using ho, fun q p hq => ?_, fun i hi => hnew _ (Nat.lt_of_lt_of_le (hPi i hi) h7.1.size) (h.far.1 i hi), hnew _ hlay7.lt h.far.2⟩
  · refine Part_grown hg8 ?_ (h.far.1 i hi)
    by_cases e : i = d
    · subst e; exact Part_paints (mark_len _) h7 (h.mono _ hi)
    · exact Part_grown h7.1 (h.mono i hi) (fun e2 => h.lay.apart i d hi hd e (Option.some.inj e2))
  · rcases Nat.lt_or_ge q ks.length with hlt | hge
    · rw [List.getElem?_append_left hlt] at hq
      obtain ⟨a1, a2, a3, a4, a5⟩ := h.each q p hq
      have hplt := a1.1.2.2.1
      have ne1 : some p.1 ≠ some (P d).1 := fun e => a5 d (Nat.le_refl _) hd (Option.some.inj e)
      exact ⟨Part_grown hg8 (Part_grown h7.1 a1 ne1) a2, hnew _ (Nat.lt_of_lt_of_le hplt h7.1.size) a2, a3, a4, fun i h1 h2 => a5 i (by omega) h2⟩
    · rw [List.getElem?_append_right hge] at hq
      have hq3 : q - ks.length < 3 := by have := (List.getElem?_eq_some_iff.1 hq).1; simpa using this
      have hmem : p = pA ∨ p = pB ∨ p = pC := by
        have : p ∈ [pA, pB, pC] := List.mem_of_getElem? hq
        simpa using this
      have hl3 := h.len
      have hqd : q / 3 = d := by omega
      obtain ⟨b1, b2⟩ := hp p hmem
      have hnv : some p.1 ≠ v.ownBlock := fun e => by
        rcases b2 with b2 | b2
        · exact h.far.1 d hd (by rw [← b2]; exact e)
        · have := (hvlt _ e.symm).1; omega
      rw [hqd]
      refine ⟨Part_grown hg8 b1 hnv, hnew _ b1.1.2.2.1 hnv, ?_, ?_, fun i h1 h2 e => ?_⟩
      · rcases b2 with b2 | b2
        · rw [b2]; exact hs.2.2.2
        · have := h.lay.lt; omega
      · rcases b2 with b2 | b2
        · rw [b2]; exact hs.2.2.1
        · have := h.lay.below.size; omega
      · rcases b2 with b2 | b2
        · exact h.lay.apart d i hd h2 (by omega) (by rw [← b2]; exact e)
        · have := hPi i h2; omega
theorem keep_cell {wr w7 : World} {o : Obj} {mk : List Value} {g g7 d : Nat} (m3 : Paints (wr.alloc o).drew w7 mk g) (hlt : g7 < wr.heap.size) (hne : g ≠ g7) : w7.cell? ⟨g7, d, none⟩ = wr.cell? ⟨g7, d, none⟩ := by
  have h1 : (wr.alloc o).drew.cell? ⟨g7, d, none⟩ = wr.cell? ⟨g7, d, none⟩ := by
    show (wr.alloc o).cell? _ = _
    exact cell_grown (World.grownBy_alloc wr o none) hlt (by simp)
  rw [← h1]
  exact cell_grown m3.1 (by show g7 < (wr.alloc o).heap.size; simp; omega) (fun e => hne (Option.some.inj e).symm)
theorem Paints.over {wk wr w7 : World} {o : Obj} {mk : List Value} {g : Nat} (h : Paints wk wr mk g) (hg : g < wk.heap.size) (m3 : Paints (wr.alloc o).drew w7 mk g) : Paints wk w7 mk g :=
  (h.alloc hg o).trans ⟨⟨m3.1.os, m3.1.tape, m3.1.output, m3.1.size, m3.1.block⟩, m3.2⟩
theorem Kp.own7 {w wk wr w7 : World} {M N g7 : Nat} {P : Nat → Sl} {v : Value} {d : Nat} {ks : List Sl} {o : Obj} {p : Sl} (h : Kp w wk M N g7 P v d ks) (hd : d < M) (hp : P d = p) (ha : Paints wk wr (mark d) p.1) (m3 : Paints (wr.alloc o).drew w7 (mark d) p.1) (X : Obj) :
    (w7.alloc X).ownsRow w.heap.size 23 1 v (3 * d) (ks.map val) := by
  have hlt : p.1 < wk.heap.size := by rw [← hp]; exact (h.lay.sl d hd).2.1.2.2.1
  refine World.ownsRow.alloc (h.own.kept (ha.over hlt m3).1 (.inr (fun e => ?_))) X
  exact h.far.1 d hd (by rw [hp]; exact e.symm)
theorem news_of (w : World) (xs : List Value) (t : TypeId) : ∀ j u, xs[j]? = some u → (w.alloc (.cells xs.toArray t)).cell? ((⟨w.heap.size, 0, none⟩ : Addr).add j) = some u := by
  intro j u hj
  rw [add0, World.cell?, heap_alloc_new]
  simpa using hj
theorem lt_of_drew {wr w7 : World} {o : Obj} {g : Nat} (h : g < wr.heap.size) (k : (wr.alloc o).drew.heap.size ≤ w7.heap.size) : g < w7.heap.size := by
  have : wr.heap.size ≤ (wr.alloc o).drew.heap.size := by show wr.heap.size ≤ (wr.alloc o).heap.size; simp
  omega
theorem Part_drew_paints {wr w7 : World} {o : Obj} {mk : List Value} (hm : mk.length = 7) {k g : Nat} {p : Sl} (h : Part wr mk k p) (m3 : Paints (wr.alloc o).drew w7 mk g) : Part w7 mk k p :=
  Part_paints hm (g := g) (w := wr.alloc o) ⟨⟨m3.1.os, m3.1.tape, m3.1.output, m3.1.size, m3.1.block⟩, m3.2⟩ (Part_alloc h o)
theorem Kp.out {w wk : World} {M N g7 : Nat} {P : Nat → Sl} {v : Value} {ks : List Sl} {d : Nat} (h : Kp w wk M N g7 P v d ks) (hd : 0 < d) :
    ∃ g12 c12, ∃ R : Nat → Sl, v = .slice (some ⟨g12, 0, none⟩) (3 * d) c12 ∧ ∀ q, q < 3 * d → wk.cell? ⟨g12, q, none⟩ = some (val (R q)) ∧ Mono wk (mark (q / 3)) (R q) := by
  obtain ⟨h1, h2 | ⟨g, cap, cur, rfl, hg, hh, h3, h4, h5, h6⟩⟩ := h.own
  · omega
  · refine ⟨g, cap, fun i => ks.getD i (0, 0, 0), rfl, fun i hi => ?_⟩
    have hl := h.len
    have hi2 : ks[i]? = some (ks.getD i (0, 0, 0)) := by
      rw [List.getD_eq_getElem?_getD, List.getElem?_eq_getElem (by omega)]; rfl
    refine ⟨?_, (h.each i _ hi2).1⟩
    simp only [World.cell?, hh]
    have : (ks.map val)[i]? = some (val (ks.getD i (0, 0, 0))) := by rw [List.getElem?_map, hi2]; rfl
    rw [← this, ← h6, List.getElem?_take_of_lt (by omega)]
    simp
theorem Mono.at {w : World} {e : Nat} {p : Sl} (h : Mono w (mark e) p) {b : Nat} (hb : b < p.2.1) (i : Nat) (u : Value) (hu : (mark e)[i]? = some u) : w.cell? ⟨p.1, b * 7 + i, none⟩ = some u := by
  have hi : i < 7 := (List.getElem?_eq_some_iff.1 hu).1
  rw [h.2 _ (by omega), show (b * 7 + i) % 7 = i from by omega, hu]
theorem news_two (w : World) (o : Obj) (xs : List Value) (t : TypeId) : ∀ j x, xs[j]? = some x → ((w.alloc o).alloc (.cells xs.toArray t)).cell? ((⟨w.heap.size + 1, 0, none⟩ : Addr).add j) = some x := by
  have := news_of (w.alloc o) xs t
  simpa using this
end Go.Proofs.YtdhkhjfjjbdkgaaDoor.Tab
