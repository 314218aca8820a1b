/- Lists of slices of rows, each tinted with its own mark: appends and kept lists. -/
import Derived.Test.YtdhkhjfjjbdkgaaDoorTab3
import Derived.Test.YtdhkhjfjjbdkgaaDoorTab11
namespace Go.Proofs.YtdhkhjfjjbdkgaaDoor.Tab
open Go.RowKit
set_option linter.unusedVariables false
set_option linter.unusedSimpArgs false
/-- The mark of list i. -/
def tmk (i : Nat) : List Value := (Cmd.mk (ms i) 0 false 0 0 0 0).cells
theorem tmk_len (i : Nat) : (tmk i).length = 7 := rfl
theorem tmk_one (i : Nat) : ∀ u ∈ tmk i, u.oneCell' = true := by intro u hu; simp [tmk, Cmd.cells] at hu; rcases hu with rfl | rfl | rfl | rfl | rfl | rfl | rfl <;> rfl
/-- Blocks are tinted; each slice that is kept count of lies in a block of its tint, and all its rows bear that mark. -/
structure St (w wr : World) (c : Nat → Nat) (S : Sl → Nat → Prop) : Prop where
  reg : ∀ p q, S p q → c p.1 = q ∧ q < 40 ∧ Mono wr (tmk q) p ∧ w.heap.size ≤ p.1
  below : Below w.heap.size w wr
/-- A list of slices, in a block of its own tint. -/
structure Lst (w wr : World) (c : Nat → Nat) (S : Sl → Nat → Prop) (col : Nat) (v : Value) (k : Nat) (ps : List Sl) : Prop where
  own : wr.ownsRow w.heap.size 23 1 v k (ps.map val)
  tint : 40 ≤ col
  colr : ∀ b, v.ownBlock = some b → c b = col
  regs : ∀ q p, ps[q]? = some p → S p q
theorem St.below_ {w wr w1 : World} {c : Nat → Nat} {S : Sl → Nat → Prop} (h : St w wr c S) (hb : Below wr.heap.size wr w1) : St w w1 c S :=
  ⟨fun p q hs => ⟨(h.reg p q hs).1, (h.reg p q hs).2.1, Part_below hb (h.reg p q hs).2.2.1, (h.reg p q hs).2.2.2⟩, h.below.trans (hb.mono h.below.size)⟩
theorem Lst.below_ {w wr w1 : World} {c : Nat → Nat} {S : Sl → Nat → Prop} {col k : Nat} {v : Value} {ps : List Sl} (h : Lst w wr c S col v k ps) (hb : Below wr.heap.size wr w1) : Lst w w1 c S col v k ps :=
  ⟨h.own.kept (grown_none (below_grown hb) none) (by
    cases hv : v.ownBlock with
    | none => exact .inl rfl
    | some g => exact .inr (by simp)), h.tint, h.colr, h.regs⟩
/-- The blocks' tints behind a new block of tint d (or none new). -/
def ctint (c : Nat → Nat) (b d : Nat) : Nat → Nat := fun x => if x = b then d else c x
def addS (S : Sl → Nat → Prop) (p : Sl) (d : Nat) : Sl → Nat → Prop := fun x q => S x q ∨ (x = p ∧ q = d)
theorem Lst.lt {w wr : World} {c : Nat → Nat} {S : Sl → Nat → Prop} {col k : Nat} {v : Value} {ps : List Sl} (h : Lst w wr c S col v k ps) {b : Nat} (hb : v.ownBlock = some b) : b < wr.heap.size ∧ w.heap.size ≤ b := ⟨(h.own.lt b hb).2, (h.own.lt b hb).1⟩
/-- An append of the mark to a slice of its tint. -/
theorem St.paint {w wr w1 : World} {c : Nat → Nat} {S : Sl → Nat → Prop} {p p' : Sl} {d : Nat} (h : St w wr c S) (hs : S p d) (h1 : Mono w1 (tmk d) p') (h3 : Paints wr w1 (tmk d) p.1) (h4 : p'.1 = p.1 ∨ wr.heap.size ≤ p'.1) :
    St w w1 (ctint c p'.1 d) (addS S p' d) := by
  obtain ⟨r1, r2, r3, r4⟩ := h.reg p d hs
  have hw := h.below.size
  refine ⟨fun x q hx => ?_, h.below.grown h3.1 hw (fun b hb => by rw [← Option.some.inj hb]; exact r4)⟩
  rcases hx with hx | ⟨rfl, rfl⟩
  · obtain ⟨a1, a2, a3, a4⟩ := h.reg x q hx
    refine ⟨?_, a2, ?_, a4⟩
    · unfold ctint
      split
      · rename_i e
        rcases h4 with h4 | h4
        · rw [← a1, e, h4, r1]
        · have := a3.1.2.2.1; omega
      · exact a1
    · by_cases e : q = d
      · subst e; exact Part_paints (tmk_len _) h3 a3
      · exact Part_grown h3.1 a3 (fun e2 => e (by rw [← a1, ← r1, Option.some.inj e2]))
  · refine ⟨by simp [ctint], r2, h1, ?_⟩
    rcases h4 with h4 | h4
    · rw [h4]; exact r4
    · omega
theorem Lst.paint {w wr w1 : World} {c : Nat → Nat} {S : Sl → Nat → Prop} {p p' : Sl} {d col k : Nat} {v : Value} {ps : List Sl} (l : Lst w wr c S col v k ps) (h : St w wr c S) (hs : S p d) (h3 : Paints wr w1 (tmk d) p.1) (h4 : p'.1 = p.1 ∨ wr.heap.size ≤ p'.1) :
    Lst w w1 (ctint c p'.1 d) (addS S p' d) col v k ps := by
  obtain ⟨r1, r2, r3, r4⟩ := h.reg p d hs
  have key : ∀ b, v.ownBlock = some b → b ≠ p.1 := fun b hb e => by
    have h1 := l.colr b hb
    have h2 := l.tint
    rw [e, r1] at h1
    omega
  refine ⟨l.own.kept h3.1 (.inr (fun e => key p.1 e rfl)), l.tint, fun b hb => ?_, fun q x hx => .inl (l.regs q x hx)⟩
  unfold ctint
  split
  · rename_i e
    rcases h4 with h4 | h4
    · exact absurd (e.trans h4) (key b hb)
    · have := (l.lt hb).1; omega
  · exact l.colr b hb
/-- A list grows by a slice that is kept count of. -/
theorem St.grow {w wr w1 : World} {c : Nat → Nat} {S : Sl → Nat → Prop} {col k g : Nat} {v : Value} {ps : List Sl} (h : St w wr c S) (l : Lst w wr c S col v k ps) (hg : wr.grownBy w1 v.ownBlock) (hv : v.ownBlock = some g ∨ wr.heap.size ≤ g) : St w w1 (ctint c g col) S := by
  refine ⟨fun x q hx => ?_, h.below.grown hg h.below.size (fun b hb => (l.lt hb).2)⟩
  obtain ⟨a1, a2, a3, a4⟩ := h.reg x q hx
  have ht := l.tint
  have hne : some x.1 ≠ v.ownBlock := fun e => by have := l.colr x.1 e.symm; omega
  refine ⟨?_, a2, Part_grown hg a3 hne, a4⟩
  unfold ctint
  split
  · rename_i e
    rcases hv with hv | hv
    · exact absurd (by rw [hv, e]) hne
    · have := a3.1.2.2.1; omega
  · exact a1
theorem Lst.grow {w wr w1 : World} {c : Nat → Nat} {S : Sl → Nat → Prop} {col col' k k' g : Nat} {v v' : Value} {ps ps' : List Sl} (h : Lst w wr c S col' v' k' ps') (l : Lst w wr c S col v k ps) (hne : col' ≠ col) (hg : wr.grownBy w1 v.ownBlock) (hv : v.ownBlock = some g ∨ wr.heap.size ≤ g) : Lst w w1 (ctint c g col) S col' v' k' ps' := by
  have key : ∀ b, v'.ownBlock = some b → some b ≠ v.ownBlock := fun b hb e => hne (by rw [← h.colr b hb, ← l.colr b e.symm])
  refine ⟨h.own.kept hg (by
    cases hb : v'.ownBlock with
    | none => exact .inl rfl
    | some b => exact .inr (key b hb)), h.tint, fun b hb => ?_, h.regs⟩
  unfold ctint
  split
  · rename_i e
    rcases hv with hv | hv
    · exact absurd (by rw [hv, e]) (key b hb)
    · have := (h.lt hb).1; omega
  · exact h.colr b hb
theorem Lst.push {w wr w1 : World} {c : Nat → Nat} {S : Sl → Nat → Prop} {col k g cap : Nat} {v : Value} {ps : List Sl} {p : Sl} (l : Lst w wr c S col v k ps) (hl : ps.length = k) (hp : S p k) (ho : w1.ownsRow w.heap.size 23 1 (.slice (some ⟨g, 0, none⟩) (k + 1) cap) (k + 1) (ps.map val ++ [val p])) :
    Lst w w1 (ctint c g col) S col (.slice (some ⟨g, 0, none⟩) (k + 1) cap) (k + 1) (ps ++ [p]) := by
  refine ⟨by simpa using ho, l.tint, fun b hb => ?_, fun q x hx => ?_⟩
  · have : b = g := by simpa [Value.ownBlock] using hb.symm
    simp [ctint, this]
  · rcases Nat.lt_or_ge q ps.length with hlt | hge
    · rw [List.getElem?_append_left hlt] at hx; exact l.regs q x hx
    · rw [List.getElem?_append_right hge] at hx
      have h1 : q - ps.length < 1 := by have := (List.getElem?_eq_some_iff.1 hx).1; simpa using this
      have h2 : q - ps.length = 0 := by omega
      rw [h2] at hx
      obtain rfl : p = x := by simpa using hx
      rw [show q = k from by omega]; exact hp
/-- Painting one list leaves the lists as they lie. -/
theorem Lay.tpaints {w wr w1 : World} {M N g7 : Nat} {P : Nat → Sl} (h : Lay w wr M N g7 P) {i g : Nat} (hp : Paints wr w1 (tmk i) g) (hg : g ≠ g7) (hw : w.heap.size ≤ g) : Lay w w1 M N g7 P where
  row := fun j hj => by rw [cell_grown hp.1 h.lt (fun e => hg (Option.some.inj e).symm)]; exact h.row j hj
  lt := Nat.lt_of_lt_of_le h.lt hp.1.size
  sl := fun j hj => ⟨(h.sl j hj).1, (Part_paints (k := 0) (tmk_len i) hp ⟨(h.sl j hj).2.1, fun a ha => by omega⟩).1, (h.sl j hj).2.2⟩
  apart := h.apart
  base := h.base
  below := h.below.grown hp.1 h.below.size (fun k e => by rw [← Option.some.inj e]; exact hw)
/-- The lists below k bear their marks; of list k the first j rows do. -/
structure Tp (w wr : World) (M N g7 : Nat) (P : Nat → Sl) (k j : Nat) : Prop where
  lay : Lay w wr M N g7 P
  done : ∀ i, i < k → i < M → Mono wr (tmk i) (P i)
  now : k < M → Part wr (tmk k) j (P k)
theorem Lay.tp {w wr : World} {M N g7 : Nat} {P : Nat → Sl} (h : Lay w wr M N g7 P) : Tp w wr M N g7 P 0 0 :=
  ⟨h, fun i hi => by omega, fun hk => part_zero (h.sl 0 hk).2.1⟩
theorem Tp.up {w wr : World} {M N g7 : Nat} {P : Nat → Sl} {k : Nat} (h : Tp w wr M N g7 P k N) (hk : k < M) : Tp w wr M N g7 P (k + 1) 0 :=
  ⟨h.lay, fun i hi hM => by
    by_cases e : i = k
    · subst e; have := h.now hk; unfold Mono; rw [(h.lay.sl i hk).1]; exact this
    · exact h.done i (by omega) hM, fun hk1 => part_zero (h.lay.sl _ hk1).2.1⟩
theorem Tp.store {w wr : World} {M N g7 : Nat} {P : Nat → Sl} {k j : Nat} (h : Tp w wr M N g7 P k j) (hk : k < M) (hj : j < N) : Tp w (wr.setCells (P k).1 (j * 7) (tmk k)) M N g7 P k (j + 1) := by
  have hs := h.lay.sl k hk
  have hN : N ≤ (P k).2.2 := by rw [← hs.1]; exact hs.2.1.1
  have hP := Paints.setCells wr (tmk k) (tmk_len k) (P k).1 j (fun i hi => (hs.2.1.2.2.2 (j * 7 + i) (by omega)).1)
  refine ⟨h.lay.tpaints hP hs.2.2.2 hs.2.2.1, fun i hi hM => ?_, fun _ => part_setCells (tmk_len k) (h.now hk) (by omega)⟩
  exact Part_grown hP.1 (h.done i hi hM) (fun e => h.lay.apart i k hM hk (by omega) (Option.some.inj e))
/-- The lists that are painted through, as tinted slices. -/
theorem Tp.st {w wr : World} {N g7 : Nat} {P : Nat → Sl} (h : Tp w wr 40 N g7 P 40 0) (hg : ∀ i, i < 40 → (P i).1 ≠ g7) : ∃ c : Nat → Nat, c g7 = 1001 ∧ St w wr c (fun p q => q < 40 ∧ p = P q) := by
  classical
  refine ⟨fun b => if hb : ∃ i, i < 40 ∧ (P i).1 = b then Classical.choose hb else if b = g7 then 1001 else 2000, ?_, ⟨fun p q hq => ?_, h.lay.below⟩⟩
  · have hno : ¬ ∃ i, i < 40 ∧ (P i).1 = g7 := fun ⟨i, hi, e⟩ => hg i hi e
    simp [hno]
  · obtain ⟨hq1, rfl⟩ := hq
    have hex : ∃ i, i < 40 ∧ (P i).1 = (P q).1 := ⟨q, hq1, rfl⟩
    refine ⟨?_, hq1, h.done q hq1 hq1, (h.lay.sl q hq1).2.2.1⟩
    simp only [hex, dif_pos]
    have hs := Classical.choose_spec hex
    by_cases e : Classical.choose hex = q
    · exact e
    · exact absurd hs.2 (h.lay.apart _ q hs.1 hq1 e)
end Go.Proofs.YtdhkhjfjjbdkgaaDoor.Tab
