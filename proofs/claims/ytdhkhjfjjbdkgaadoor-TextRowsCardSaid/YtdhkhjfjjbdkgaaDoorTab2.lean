/- Lists of rows that are painted with one mark: what an append and a store of the mark leave. -/
import Derived.Test.YtdhkhjfjjbdkgaaDoorTab1
import Derived.ArgAppend
import Derived.Deep.MidRow
import Derived.Deep.RegionLaw
import Derived.Deep.AppendLies
import Derived.Deep.Upon
namespace Go.Proofs.YtdhkhjfjjbdkgaaDoor.Tab
open Go.RowKit
set_option linter.unusedVariables false
set_option linter.unusedSimpArgs false
/-- A slice of rows: its block, its length, its capacity. -/
abbrev Sl := Nat × Nat × Nat
def val (p : Sl) : Value := .slice (some ⟨p.1, 0, none⟩) p.2.1 p.2.2
def Slc (w : World) (p : Sl) : Prop := p.2.1 ≤ p.2.2 ∧ p.2.2 ≤ maxLen ∧ p.1 < w.heap.size ∧ ∀ j, j < p.2.2 * 7 → (w.cell? ⟨p.1, j, none⟩).isSome = true ∧ w.frozen? ⟨p.1, j, none⟩ = false
/-- The first k rows bear the mark. -/
def Part (w : World) (mk : List Value) (k : Nat) (p : Sl) : Prop := Slc w p ∧ ∀ j, j < k * 7 → w.cell? ⟨p.1, j, none⟩ = mk[j % 7]?
def Mono (w : World) (mk : List Value) (p : Sl) : Prop := Part w mk p.2.1 p
/-- From w to w' one block of the old ones alone has been touched, and there each cell is as it was or bears the mark. -/
def Paints (w w' : World) (mk : List Value) (g : Nat) : Prop :=
  w.grownBy w' (some g) ∧ ∀ j, w'.frozen? ⟨g, j, none⟩ = w.frozen? ⟨g, j, none⟩ ∧ (w'.cell? ⟨g, j, none⟩ = w.cell? ⟨g, j, none⟩ ∨ (w'.cell? ⟨g, j, none⟩ = mk[j % 7]? ∧ (w.cell? ⟨g, j, none⟩).isSome = true))
theorem cell_grown {w w' : World} {row : Option Nat} (hg : w.grownBy w' row) {b j : Nat} (hb : b < w.heap.size) (hne : some b ≠ row) : w'.cell? ⟨b, j, none⟩ = w.cell? ⟨b, j, none⟩ := World.cell?_of_block (w := w) (hg.block b hb hne)
theorem frozen_grown {w w' : World} {row : Option Nat} (hg : w.grownBy w' row) {b j : Nat} (hb : b < w.heap.size) (hne : some b ≠ row) : w'.frozen? ⟨b, j, none⟩ = w.frozen? ⟨b, j, none⟩ := World.frozen?_of_block (w := w) (hg.block b hb hne)
theorem Slc_grown {w w' : World} {row : Option Nat} (hg : w.grownBy w' row) {p : Sl} (h : Slc w p) (hne : some p.1 ≠ row) : Slc w' p := by
  obtain ⟨h1, h2, h3, h4⟩ := h
  refine ⟨h1, h2, Nat.lt_of_lt_of_le h3 hg.size, fun j hj => ?_⟩
  rw [cell_grown hg h3 hne, frozen_grown hg h3 hne]; exact h4 j hj
theorem Part_grown {w w' : World} {row : Option Nat} (hg : w.grownBy w' row) {mk : List Value} {k : Nat} {p : Sl} (h : Part w mk k p) (hne : some p.1 ≠ row) : Part w' mk k p :=
  ⟨Slc_grown hg h.1 hne, fun j hj => by rw [cell_grown hg h.1.2.2.1 hne]; exact h.2 j hj⟩
theorem mk_some {mk : List Value} (hm : mk.length = 7) (j : Nat) : (mk[j % 7]?).isSome = true := by
  have := Nat.mod_lt j (show 0 < 7 by omega)
  simp; omega
theorem Part_paints {w w' : World} {mk : List Value} {g : Nat} (hm : mk.length = 7) (hp : Paints w w' mk g) {k : Nat} {p : Sl} (h : Part w mk k p) : Part w' mk k p := by
  by_cases e : p.1 = g
  · obtain ⟨⟨h1, h2, h3, h4⟩, h5⟩ := h
    refine ⟨⟨h1, h2, Nat.lt_of_lt_of_le h3 hp.1.size, fun j hj => ?_⟩, fun j hj => ?_⟩
    · rw [e] at h4 ⊢
      obtain ⟨hf, hc⟩ := hp.2 j
      rw [hf]
      refine ⟨?_, (h4 j hj).2⟩
      rcases hc with hc | hc
      · rw [hc]; exact (h4 j hj).1
      · rw [hc.1]; exact mk_some hm j
    · rw [e] at h5 ⊢
      rcases (hp.2 j).2 with hc | hc
      · rw [hc]; exact h5 j hj
      · exact hc.1
  · exact Part_grown hp.1 h (fun he => e (Option.some.inj he))
theorem Paints.refl (w : World) (mk : List Value) (g : Nat) : Paints w w mk g := ⟨⟨rfl, rfl, rfl, Nat.le_refl _, fun _ _ _ => rfl⟩, fun j => ⟨rfl, .inl rfl⟩⟩
theorem grownBy_trans {a b c : World} {row : Option Nat} (h : a.grownBy b row) (k : b.grownBy c row) : a.grownBy c row :=
  ⟨k.os.trans h.os, k.tape.trans h.tape, k.output.trans h.output, Nat.le_trans h.size k.size, fun i hi hne => (k.block i (Nat.lt_of_lt_of_le hi h.size) hne).trans (h.block i hi hne)⟩
theorem Paints.trans {a b c : World} {mk : List Value} {g : Nat} (h : Paints a b mk g) (k : Paints b c mk g) : Paints a c mk g :=
  ⟨grownBy_trans h.1 k.1, fun j => ⟨(k.2 j).1.trans (h.2 j).1, by
    rcases (k.2 j).2 with e | e
    · rw [e]; exact (h.2 j).2
    · refine .inr ⟨e.1, ?_⟩
      rcases (h.2 j).2 with f | f
      · rw [← f]; exact e.2
      · exact f.2⟩⟩
/-- A change that touches no old block paints nothing. -/
theorem Paints.of_new {w w' : World} (h : w.grownBy w' none) (mk : List Value) {g : Nat} (hg : g < w.heap.size) : Paints w w' mk g :=
  ⟨⟨h.os, h.tape, h.output, h.size, fun i hi _ => h.block i hi (by simp)⟩, fun j => ⟨frozen_grown h hg (by simp), .inl (cell_grown h hg (by simp))⟩⟩
/-- The mark is laid at row k. -/
theorem Paints.setCells (w : World) (mk : List Value) (hm : mk.length = 7) (g k : Nat) (ht : ∀ j, j < 7 → (w.cell? ⟨g, k * 7 + j, none⟩).isSome = true) : Paints w (w.setCells g (k * 7) mk) mk g := by
  have hsz : ∀ (vs : List Value) (o : Nat) (w : World), (w.setCells g o vs).heap.size = w.heap.size ∧ (w.setCells g o vs).tape = w.tape := by
    intro vs
    induction vs with
    | nil => intro o w; exact ⟨rfl, rfl⟩
    | cons v r ih => intro o w; obtain ⟨h1, h2⟩ := ih (o + 1) (w.setCell ⟨g, o, none⟩ v); exact ⟨by rw [World.setCells, h1]; simp [World.setCell], by rw [World.setCells, h2]; rfl⟩
  refine ⟨⟨World.os_setCells _ _ _ _, (hsz _ _ _).2, World.output_setCells _ _ _ _, by rw [(hsz _ _ _).1]; exact Nat.le_refl _, fun i hi hne => World.heap_setCells_other _ _ _ _ hi (fun e => hne (by rw [e]))⟩, fun j => ⟨World.frozen?_setCells _ _ _ _ _, ?_⟩⟩
  by_cases hj : k * 7 ≤ j ∧ j < k * 7 + 7
  · right
    obtain ⟨i, rfl⟩ : ∃ i, j = k * 7 + i := ⟨j - k * 7, by omega⟩
    have hi : i < 7 := by omega
    rw [World.cell?_setCells_in g mk (k * 7) w (fun j hj => ht j (by omega)) i (by omega)]
    refine ⟨?_, ht i hi⟩
    rw [show (k * 7 + i) % 7 = i from by omega, List.getElem?_eq_getElem (by omega)]
  · left
    exact World.cell?_setCells_out g mk (k * 7) w _ (fun _ _ => by show j < _ ∨ _ ≤ j; omega)
theorem part_setCells {w : World} {mk : List Value} (hm : mk.length = 7) {p : Sl} {k : Nat} (h : Part w mk k p) (hk : k < p.2.2) : Part (w.setCells p.1 (k * 7) mk) mk (k + 1) p := by
  have hP := Paints.setCells w mk hm p.1 k (fun j hj => (h.1.2.2.2 (k * 7 + j) (by omega)).1)
  have h2 := Part_paints hm hP h
  refine ⟨h2.1, fun j hj => ?_⟩
  by_cases hj2 : j < k * 7
  · exact h2.2 j hj2
  · obtain ⟨i, rfl⟩ : ∃ i, j = k * 7 + i := ⟨j - k * 7, by omega⟩
    rw [World.cell?_setCells_in p.1 mk (k * 7) w (fun j hj => (h.1.2.2.2 (k * 7 + j) (by omega)).1) i (by omega), show (k * 7 + i) % 7 = i from by omega, List.getElem?_eq_getElem (by omega)]
theorem add0 (b j : Nat) : (⟨b, 0, none⟩ : Addr).add j = ⟨b, j, none⟩ := by unfold Addr.add; split <;> simp_all
/-- The slice of a row of the call's own. -/
theorem own_sl {w : World} {base n : Nat} {v : Value} {xs : List Value} (h : w.ownsRow base 28 7 v n xs) (hn : 0 < n) : ∃ p : Sl, v = val p ∧ p.2.1 = n ∧ Slc w p ∧ base ≤ p.1 ∧ ∀ j, j < n * 7 → w.cell? ⟨p.1, j, none⟩ = xs[j]? := by
  obtain ⟨h1, h2 | ⟨g, cap, cur, rfl, hg, hh, h3, h4, h5, h6⟩⟩ := h
  · omega
  · refine ⟨(g, n, cap), rfl, rfl, ⟨h3, h4, (Array.getElem?_eq_some_iff.1 hh).1, fun j hj => ?_⟩, hg, fun j hj => ?_⟩
    · have hlt : j < cur.size := by rw [h5]; exact hj
      simp only [World.cell?, World.frozen?, hh]
      simp [hlt]
    · have hlt : j < cur.size := by rw [h5]; exact Nat.lt_of_lt_of_le hj (Nat.mul_le_mul_right 7 h3)
      simp only [World.cell?, hh]
      rw [← h6, List.getElem?_take_of_lt hj]
      simp
/-- APPEND OF THE MARK to a slice of painted rows: the new slice is painted; nothing else has been touched than its block, which is only painted on. -/
theorem wp_append_paints {P : Program} (w : World) {o : Oper} {a : Act} {K : Act → World → Prop} {Q : Exit → Act → World → Prop} (s x : Operand) (t : TypeId)
    (ho : o.op = .call { callee := .builtin .append, args := #[s, x], argTypes := #[t, t] })
    (i : TypeInfo) (z : Value) (bytes : Nat) (ht : P.underlying t = some (.slice 28)) (hi : P.info? 28 = some i) (hz : i.zero = some z) (hsize : i.size = 7) (hby : i.bytes = bytes) (hzs : z.cells.size = 7)
    (mk : List Value) (hm : mk.length = 7) (h1 : ∀ u ∈ mk, u.oneCell' = true) (p : Sl) (hs : a.eval s = val p) (hown : Mono w mk p)
    (ad : Addr) (c : Nat) (hx : a.eval x = .slice (some ad) 1 c) (hnews : ∀ j u, mk[j]? = some u → w.cell? (ad.add j) = some u)
    (h63 : p.2.1 + 1 ≤ maxLen) (hbytes : (p.2.1 + 1) * bytes ≤ 140737488355328)
    (h : ∀ p' : Sl, ∀ w', Mono w' mk p' → p'.2.1 = p.2.1 + 1 → Paints w w' mk p.1 → (p'.1 = p.1 ∨ w.heap.size ≤ p'.1) → K (a.put o.dst (val p')) w') : o.wp P a w K Q := by
  obtain ⟨b, n, cap⟩ := p
  simp only [val] at hs
  have hS : Slc w (b, n, cap) := hown.1
  have hM : ∀ j, j < n * 7 → w.cell? ⟨b, j, none⟩ = mk[j % 7]? := hown.2
  by_cases hr : n + 1 ≤ cap
  · have hrun := run_append_room_cells (P := P) w t o.type 28 i ht hi b 0 n cap ad 1 c mk (by rw [hsize, hm]) hnews h1 hr (fun j hj => by rw [hsize, Nat.zero_add]; exact (hS.2.2.2 (n * 7 + j) (by simp only; omega)).1) (fun j hj => by rw [hsize, Nat.zero_add]; exact (hS.2.2.2 (n * 7 + j) (by simp only; omega)).2)
    unfold Oper.wp
    simp [execOp, ho, resolve, invoke, builtin, hs, hx, hrun, Result.andThen]
    rw [hsize]
    have hp := part_setCells hm hown (show n < cap by omega)
    exact h (b, n + 1, cap) _ ⟨⟨hr, hp.1.2.1, hp.1.2.2.1, hp.1.2.2.2⟩, hp.2⟩ rfl (Paints.setCells w mk hm b n (fun j hj => (hS.2.2.2 (n * 7 + j) (by simp only; omega)).1)) (.inl rfl)
  · obtain ⟨olds, holen, hol⟩ : ∃ olds : List Value, olds.length = n * 7 ∧ ∀ j, j < n * 7 → olds[j]? = mk[j % 7]? := by
      refine ⟨(List.range (n * 7)).map (fun j => (mk[j % 7]?).getD undef), by simp, fun j hj => ?_⟩
      have := mk_some hm j
      obtain ⟨u, hu⟩ := Option.isSome_iff_exists.1 this
      simp [hj, hu]
    obtain ⟨v', w', hrun, r1, r2⟩ := run_append_arg_grows (P := P) w t o.type 28 i z 7 bytes ht hi hz hsize hby hzs (by omega) ⟨b, 0, none⟩ n cap olds holen (fun j u hj => by
      have hlt : j < n * 7 := by rw [← holen]; exact (List.getElem?_eq_some_iff.1 hj).1
      rw [add0, hM j hlt, ← hol j hlt]; exact hj) ad 1 c mk (by rw [hm]) hnews (by omega) h63 hbytes
    unfold Oper.wp
    simp [execOp, ho, resolve, invoke, builtin, hs, hx, hrun, Result.andThen]
    obtain ⟨p', rfl, hp1, hp2, hp3, hp4⟩ := own_sl r1 (by omega)
    refine h p' w' ⟨hp2, fun j hj => ?_⟩ hp1 (Paints.of_new r2 mk hS.2.2.1) (.inr hp3)
    rw [hp1] at hj
    rw [hp4 j hj, List.getElem?_append]
    split
    · rename_i hlt; exact hol j (by omega)
    · rename_i hlt
      rw [show j - olds.length = j % 7 from by omega]
theorem wpList_append_paints {P : Program} (w : World) {ops : Array Oper} {rest : List Oper} {o : Oper} {a : Act} {Q : Exit → Act → World → Prop} (hgd : o.guard = none) (s x : Operand) (t : TypeId)
    (ho : o.op = .call { callee := .builtin .append, args := #[s, x], argTypes := #[t, t] })
    (i : TypeInfo) (z : Value) (bytes : Nat) (ht : P.underlying t = some (.slice 28)) (hi : P.info? 28 = some i) (hz : i.zero = some z) (hsize : i.size = 7) (hby : i.bytes = bytes) (hzs : z.cells.size = 7)
    (mk : List Value) (hm : mk.length = 7) (h1 : ∀ u ∈ mk, u.oneCell' = true) (p : Sl) (hs : a.eval s = val p) (hown : Mono w mk p)
    (ad : Addr) (c : Nat) (hx : a.eval x = .slice (some ad) 1 c) (hnews : ∀ j u, mk[j]? = some u → w.cell? (ad.add j) = some u)
    (h63 : p.2.1 + 1 ≤ maxLen) (hbytes : (p.2.1 + 1) * bytes ≤ 140737488355328)
    (h : ∀ p' : Sl, ∀ w', Mono w' mk p' → p'.2.1 = p.2.1 + 1 → Paints w w' mk p.1 → (p'.1 = p.1 ∨ w.heap.size ≤ p'.1) → wpList P ops Q rest (a.put o.dst (val p')) w') : wpList P ops Q (o :: rest) a w :=
  wpList_plain hgd fun _ hK => wp_append_paints w s x t ho i z bytes ht hi hz hsize hby hzs mk hm h1 p hs hown ad c hx hnews h63 hbytes fun p' w' a1 a2 a3 a4 => hK _ _ (h p' w' a1 a2 a3 a4)
theorem step_append_paints {P : Program} {w : World} {ops : Array Oper} {o : Oper} {a : Act} {K : Act → World → Prop} {Q : Exit → Act → World → Prop} {E : Prop} (hgd : o.guard = none) (s x : Operand) (t : TypeId)
    (ho : o.op = .call { callee := .builtin .append, args := #[s, x], argTypes := #[t, t] })
    (i : TypeInfo) (z : Value) (bytes : Nat) (ht : P.underlying t = some (.slice 28)) (hi : P.info? 28 = some i) (hz : i.zero = some z) (hsize : i.size = 7) (hby : i.bytes = bytes) (hzs : z.cells.size = 7)
    (mk : List Value) (hm : mk.length = 7) (h1 : ∀ u ∈ mk, u.oneCell' = true) (p : Sl) (hs : a.eval s = val p) (hown : Mono w mk p)
    (ad : Addr) (c : Nat) (hx : a.eval x = .slice (some ad) 1 c) (hnews : ∀ j u, mk[j]? = some u → w.cell? (ad.add j) = some u)
    (h63 : p.2.1 + 1 ≤ maxLen) (hbytes : (p.2.1 + 1) * bytes ≤ 140737488355328)
    (h : ∀ p' : Sl, ∀ w', Mono w' mk p' → p'.2.1 = p.2.1 + 1 → Paints w w' mk p.1 → (p'.1 = p.1 ∨ w.heap.size ≤ p'.1) → K (a.put o.dst (val p')) w') :
    if Region.wanted o (yielded ops a.tmps) = true then Oper.wp P o a w K Q else E := by
  have hw : Region.wanted o (yielded ops a.tmps) = true := by simp [Region.wanted, hgd]
  rw [if_pos hw]
  exact wp_append_paints w s x t ho i z bytes ht hi hz hsize hby hzs mk hm h1 p hs hown ad c hx hnews h63 hbytes h
end Go.Proofs.YtdhkhjfjjbdkgaaDoor.Tab
