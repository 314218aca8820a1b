/- What TextRows' loops hold. -/
import Derived.Test.YtdhkhjfjjbdkgaaDoorTab12
namespace Go.Proofs.YtdhkhjfjjbdkgaaDoor.Tab
open Go.RowKit
set_option linter.unusedVariables false
set_option linter.unusedSimpArgs false
/-- The list of lists, the two lists that keep, and a slice that grows. -/
def Main (w wx : World) (g7 : Nat) (P : Nat → Sl) (v6 v7 : Value) (d6 d7 : Nat) (pa : Sl) (d : Nat) : Prop :=
  ∃ c S fs ms, St w wx c S ∧ (∀ q, q < 40 → S (P q) q) ∧ S pa d ∧ Lst w wx c S 1006 v6 d6 fs ∧ fs.length = d6 ∧ Lst w wx c S 1007 v7 d7 ms ∧ ms.length = d7 ∧ c g7 = 1001 ∧ g7 < wx.heap.size ∧ w.heap.size ≤ g7 ∧ ∀ i, i < 40 → wx.cell? ⟨g7, i, none⟩ = some (val (P i))
theorem Main.start {w wx : World} {N g7 : Nat} {P : Nat → Sl} (h : Tp w wx 40 N g7 P 40 0) : Main w wx g7 P (.slice none 0 0) (.slice none 0 0) 0 0 (P 0) 0 := by
  obtain ⟨c, hc, hs⟩ := h.st (fun i hi => (h.lay.sl i hi).2.2.2)
  exact ⟨c, _, [], [], hs, fun q hq => ⟨hq, rfl⟩, ⟨by omega, rfl⟩, ⟨wx.ownsRow_nil _ _ _, by omega, fun b hb => by simp [Value.ownBlock] at hb, fun q p hq => by simp at hq⟩, rfl, ⟨wx.ownsRow_nil _ _ _, by omega, fun b hb => by simp [Value.ownBlock] at hb, fun q p hq => by simp at hq⟩, rfl, hc, h.lay.lt, h.lay.base, h.lay.row⟩
theorem Main.switch {w wx : World} {g7 : Nat} {P : Nat → Sl} {v6 v7 : Value} {d6 d7 d e : Nat} {pa : Sl} (h : Main w wx g7 P v6 v7 d6 d7 pa d) (he : e < 40) : Main w wx g7 P v6 v7 d6 d7 (P e) e := by
  obtain ⟨c, S, fs, ms, h1, h2, h3, h4⟩ := h
  exact ⟨c, S, fs, ms, h1, h2, h2 e he, h4⟩
theorem Main.below_ {w wx w1 : World} {g7 : Nat} {P : Nat → Sl} {v6 v7 : Value} {d6 d7 d : Nat} {pa : Sl} (h : Main w wx g7 P v6 v7 d6 d7 pa d) (hb : Below wx.heap.size wx w1) : Main w w1 g7 P v6 v7 d6 d7 pa d := by
  obtain ⟨c, S, fs, ms, h1, h2, h3, h4, h5, h6, h7, h8, h9, h10, h11⟩ := h
  exact ⟨c, S, fs, ms, h1.below_ hb, h2, h3, h4.below_ hb, h5, h6.below_ hb, h7, h8, Nat.lt_of_lt_of_le h9 hb.size, h10, fun i hi => by rw [cell_below hb h9]; exact h11 i hi⟩
theorem below_alloc' (w : World) (o : Obj) : Below w.heap.size w (w.alloc o) := (Below.refl _ _).alloc (Nat.le_refl _) o
theorem Main.mono {w wx : World} {g7 : Nat} {P : Nat → Sl} {v6 v7 : Value} {d6 d7 d : Nat} {pa : Sl} (h : Main w wx g7 P v6 v7 d6 d7 pa d) : Mono wx (tmk d) pa ∧ Below w.heap.size w wx ∧ g7 < wx.heap.size := by
  obtain ⟨c, S, fs, ms, h1, h2, h3, h4, h5, h6, h7, h8, h9, h10, h11⟩ := h
  exact ⟨(h1.reg pa d h3).2.2.1, h1.below, h9⟩
theorem Main.row {w wx : World} {g7 : Nat} {P : Nat → Sl} {v6 v7 : Value} {d6 d7 d : Nat} {pa : Sl} (h : Main w wx g7 P v6 v7 d6 d7 pa d) {i : Nat} (hi : i < 40) : wx.cell? ⟨g7, i, none⟩ = some (val (P i)) := by
  obtain ⟨c, S, fs, ms, h1, h2, h3, h4, h5, h6, h7, h8, h9, h10, h11⟩ := h
  exact h11 i hi
theorem Main.paint {w wx w1 : World} {g7 : Nat} {P : Nat → Sl} {v6 v7 : Value} {d6 d7 d : Nat} {pa p' : Sl} (h : Main w wx g7 P v6 v7 d6 d7 pa d) (m1 : Mono w1 (tmk d) p') (m3 : Paints wx w1 (tmk d) pa.1) (m4 : p'.1 = pa.1 ∨ wx.heap.size ≤ p'.1) : Main w w1 g7 P v6 v7 d6 d7 p' d := by
  obtain ⟨c, S, fs, ms, h1, h2, h3, h4, h5, h6, h7, h8, h9, h10, h11⟩ := h
  obtain ⟨r1, r2, r3, r4⟩ := h1.reg pa d h3
  have hne : g7 ≠ pa.1 := fun e => by rw [e, r1] at h8; omega
  refine ⟨_, _, fs, ms, h1.paint h3 m1 m3 m4, fun q hq => .inl (h2 q hq), .inr ⟨rfl, rfl⟩, h4.paint h1 h3 m3 m4, h5, h6.paint h1 h3 m3 m4, h7, ?_, Nat.lt_of_lt_of_le h9 m3.1.size, h10, fun i hi => ?_⟩
  · unfold ctint
    split
    · rename_i e
      rcases m4 with m4 | m4
      · exact absurd (e.trans m4) hne
      · omega
    · exact h8
  · rw [cell_grown m3.1 h9 (fun e => hne (Option.some.inj e))]; exact h11 i hi
theorem Main.own6 {w wx : World} {g7 : Nat} {P : Nat → Sl} {v6 v7 : Value} {d6 d7 d : Nat} {pa : Sl} (h : Main w wx g7 P v6 v7 d6 d7 pa d) : ∃ fs : List Sl, wx.ownsRow w.heap.size 23 1 v6 d6 (fs.map val) ∧ ∀ g cap w1, wx.grownBy w1 v6.ownBlock → (v6.ownBlock = some g ∨ wx.heap.size ≤ g) → d6 = d → w1.ownsRow w.heap.size 23 1 (.slice (some ⟨g, 0, none⟩) (d6 + 1) cap) (d6 + 1) (fs.map val ++ [val pa]) →
    Main w w1 g7 P (.slice (some ⟨g, 0, none⟩) (d6 + 1) cap) v7 (d6 + 1) d7 pa d := by
  obtain ⟨c, S, fs, ms, h1, h2, h3, h4, h5, h6, h7, h8, h9, h10, h11⟩ := h
  refine ⟨fs, h4.own, fun g cap w1 hg hv hd ho => ?_⟩
  have hne : some g7 ≠ v6.ownBlock := fun e => by have := h4.colr g7 e.symm; omega
  refine ⟨_, S, fs ++ [pa], ms, h1.grow h4 hg hv, h2, h3, h4.push h5 (by rw [hd]; exact h3) ho, by simp [h5], h6.grow h4 (by omega) hg hv, h7, ?_, Nat.lt_of_lt_of_le h9 hg.size, h10, fun i hi => by rw [cell_grown hg h9 hne]; exact h11 i hi⟩
  unfold ctint
  split
  · rename_i e
    rcases hv with hv | hv
    · exact absurd (by rw [hv, e]) hne
    · omega
  · exact h8
theorem Main.own7 {w wx : World} {g7 : Nat} {P : Nat → Sl} {v6 v7 : Value} {d6 d7 d : Nat} {pa : Sl} (h : Main w wx g7 P v6 v7 d6 d7 pa d) : ∃ ms : List Sl, wx.ownsRow w.heap.size 23 1 v7 d7 (ms.map val) ∧ ∀ g cap w1, wx.grownBy w1 v7.ownBlock → (v7.ownBlock = some g ∨ wx.heap.size ≤ g) → d7 = d → w1.ownsRow w.heap.size 23 1 (.slice (some ⟨g, 0, none⟩) (d7 + 1) cap) (d7 + 1) (ms.map val ++ [val pa]) →
    Main w w1 g7 P v6 (.slice (some ⟨g, 0, none⟩) (d7 + 1) cap) d6 (d7 + 1) pa d := by
  obtain ⟨c, S, fs, ms, h1, h2, h3, h4, h5, h6, h7, h8, h9, h10, h11⟩ := h
  refine ⟨ms, h6.own, fun g cap w1 hg hv hd ho => ?_⟩
  have hne : some g7 ≠ v7.ownBlock := fun e => by have := h6.colr g7 e.symm; omega
  refine ⟨_, S, fs, ms ++ [pa], h1.grow h6 hg hv, h2, h3, h4.grow h6 (by omega) hg hv, h5, h6.push h7 (by rw [hd]; exact h3) ho, by simp [h7], ?_, Nat.lt_of_lt_of_le h9 hg.size, h10, fun i hi => by rw [cell_grown hg h9 hne]; exact h11 i hi⟩
  unfold ctint
  split
  · rename_i e
    rcases hv with hv | hv
    · exact absurd (by rw [hv, e]) hne
    · omega
  · exact h8
theorem own_val {w : World} {base d : Nat} {v : Value} {ps : List Sl} (h : w.ownsRow base 23 1 v d (ps.map val)) (hd : 0 < d) (hl : ps.length = d) : ∃ g cap, v = .slice (some ⟨g, 0, none⟩) d cap ∧ g < w.heap.size ∧ ∀ q p, ps[q]? = some p → w.cell? ⟨g, q, none⟩ = some (val p) := by
  obtain ⟨h1, h2 | ⟨g, cap, cur, rfl, hg, hh, h3, h4, h5, h6⟩⟩ := h
  · omega
  · refine ⟨g, cap, rfl, (Array.getElem?_eq_some_iff.1 hh).1, fun q p hq => ?_⟩
    have hlt := (List.getElem?_eq_some_iff.1 hq).1
    simp only [World.cell?, hh]
    have : (ps.map val)[q]? = some (val p) := by rw [List.getElem?_map, hq]; rfl
    rw [← this, ← h6, List.getElem?_take_of_lt (by omega)]
    simp
theorem name_at {w : World} {d : Nat} {p : Sl} (h : Mono w (tmk d) p) : ∀ k, k < p.2.1 → w.cell? ⟨p.1, k * 7, none⟩ = some (.string (ms d)) := fun k hk => by
  rw [h.2 (k * 7) (by omega), show k * 7 % 7 = 0 from by omega]; rfl
/-- What stands behind the loop that keeps: the three lists, row by row. -/
theorem Main.out {w wx : World} {g7 : Nat} {P : Nat → Sl} {v6 v7 : Value} {pa : Sl} {d : Nat} (h : Main w wx g7 P v6 v7 40 40 pa d) :
    ∃ g6 c6 gm cm, ∃ R6 R7 : Nat → Sl, v6 = .slice (some ⟨g6, 0, none⟩) 40 c6 ∧ v7 = .slice (some ⟨gm, 0, none⟩) 40 cm ∧ g6 < wx.heap.size ∧ gm < wx.heap.size ∧ g7 < wx.heap.size ∧
      ∀ i, i < 40 → wx.cell? ⟨g7, i, none⟩ = some (val (P i)) ∧ wx.cell? ⟨g6, i, none⟩ = some (val (R6 i)) ∧ wx.cell? ⟨gm, i, none⟩ = some (val (R7 i)) ∧ Mono wx (tmk i) (P i) ∧ Mono wx (tmk i) (R6 i) ∧ Mono wx (tmk i) (R7 i) := by
  obtain ⟨c, S, fs, ms, h1, h2, h3, h4, h5, h6, h7, h8, h9, h10, h11⟩ := h
  obtain ⟨g6, c6, rfl, a1, a2⟩ := own_val h4.own (by omega) h5
  obtain ⟨gm, cm, rfl, b1, b2⟩ := own_val h6.own (by omega) h7
  refine ⟨g6, c6, gm, cm, fun i => fs.getD i (0, 0, 0), fun i => ms.getD i (0, 0, 0), rfl, rfl, a1, b1, h9, fun i hi => ?_⟩
  have e1 : fs[i]? = some (fs.getD i (0, 0, 0)) := by rw [List.getD_eq_getElem?_getD, List.getElem?_eq_getElem (by omega)]; rfl
  have e2 : ms[i]? = some (ms.getD i (0, 0, 0)) := by rw [List.getD_eq_getElem?_getD, List.getElem?_eq_getElem (by omega)]; rfl
  exact ⟨h11 i hi, a2 i _ e1, b2 i _ e2, (h1.reg _ _ (h2 i hi)).2.2.1, (h1.reg _ _ (h4.regs i _ e1)).2.2.1, (h1.reg _ _ (h6.regs i _ e2)).2.2.1⟩
theorem there7 {w wr : World} {M N g7 : Nat} {P : Nat → Sl} (h : Lay w wr M N g7 P) {k j : Nat} (hk : k < M) (hj : j < N) : ∀ i, i < 7 → ∃ v, wr.cell? ⟨(P k).1, j * 7 + i, none⟩ = some v ∧ wr.frozen? ⟨(P k).1, j * 7 + i, none⟩ = false := fun i hi => by
  obtain ⟨h1, h2⟩ := h.there hk hj i hi
  obtain ⟨v, hv⟩ := Option.isSome_iff_exists.1 h1
  exact ⟨v, hv, h2⟩
theorem Tp.below_ {w wr w1 : World} {M N g7 : Nat} {P : Nat → Sl} {k j : Nat} (h : Tp w wr M N g7 P k j) (hb : Below wr.drew.heap.size wr.drew w1) : Tp w w1 M N g7 P k j :=
  have hb' : Below wr.heap.size wr w1 := ⟨hb.os, hb.tape, hb.output, hb.size, hb.block⟩
  ⟨h.lay.same hb', fun i hi hM => Part_below hb' (h.done i hi hM), fun hk => Part_below hb' (h.now hk)⟩
theorem Tp.cell7 {w wr : World} {M N g7 : Nat} {P : Nat → Sl} {k j : Nat} {p : Sl} (h : Tp w wr M N g7 P k j) (hk : k < M) (hj : j < N) (hp : P k = p) :
    (∃ v, wr.cell? ⟨p.1, j * 7, none⟩ = some v ∧ wr.frozen? ⟨p.1, j * 7, none⟩ = false) ∧ (∃ v, wr.cell? ⟨p.1, j * 7 + 1, none⟩ = some v ∧ wr.frozen? ⟨p.1, j * 7 + 1, none⟩ = false) ∧ (∃ v, wr.cell? ⟨p.1, j * 7 + 2, none⟩ = some v ∧ wr.frozen? ⟨p.1, j * 7 + 2, none⟩ = false) ∧
    (∃ v, wr.cell? ⟨p.1, j * 7 + 3, none⟩ = some v ∧ wr.frozen? ⟨p.1, j * 7 + 3, none⟩ = false) ∧ (∃ v, wr.cell? ⟨p.1, j * 7 + 4, none⟩ = some v ∧ wr.frozen? ⟨p.1, j * 7 + 4, none⟩ = false) ∧ (∃ v, wr.cell? ⟨p.1, j * 7 + 5, none⟩ = some v ∧ wr.frozen? ⟨p.1, j * 7 + 5, none⟩ = false) ∧
    (∃ v, wr.cell? ⟨p.1, j * 7 + 6, none⟩ = some v ∧ wr.frozen? ⟨p.1, j * 7 + 6, none⟩ = false) := by
  have f := there7 h.lay hk hj
  rw [hp] at f
  exact ⟨f 0 (by omega), f 1 (by omega), f 2 (by omega), f 3 (by omega), f 4 (by omega), f 5 (by omega), f 6 (by omega)⟩
theorem Tp.drawn {w wr : World} {M N g7 : Nat} {P : Nat → Sl} {k j : Nat} {p : Sl} {v : Value} (h : Tp w wr M N g7 P k j) (hk : k < M) (hj : j < N) (hp : P k = p) (hc : wr.cell? ⟨g7, k, none⟩ = some v) (w5 : World) (hb : Below wr.drew.heap.size wr.drew w5) :
    w5.cell? ⟨g7, k, none⟩ = some v ∧ (∃ v0 v1 v2 v3 v4 v5 v6, w5.cell? ⟨p.1, j * 7, none⟩ = some v0 ∧ w5.cell? ⟨p.1, j * 7 + 1, none⟩ = some v1 ∧ w5.cell? ⟨p.1, j * 7 + 2, none⟩ = some v2 ∧ w5.cell? ⟨p.1, j * 7 + 3, none⟩ = some v3 ∧ w5.cell? ⟨p.1, j * 7 + 4, none⟩ = some v4 ∧ w5.cell? ⟨p.1, j * 7 + 5, none⟩ = some v5 ∧ w5.cell? ⟨p.1, j * 7 + 6, none⟩ = some v6 ∧ w5.frozen? ⟨p.1, j * 7, none⟩ = false ∧ w5.frozen? ⟨p.1, j * 7 + 1, none⟩ = false ∧ w5.frozen? ⟨p.1, j * 7 + 2, none⟩ = false ∧ w5.frozen? ⟨p.1, j * 7 + 3, none⟩ = false ∧ w5.frozen? ⟨p.1, j * 7 + 4, none⟩ = false ∧ w5.frozen? ⟨p.1, j * 7 + 5, none⟩ = false ∧ w5.frozen? ⟨p.1, j * 7 + 6, none⟩ = false) ∧ Tp w (w5.setCells p.1 (j * 7) (tmk k)) M N g7 P k (j + 1) := by
  have hb' : Below wr.heap.size wr w5 := ⟨hb.os, hb.tape, hb.output, hb.size, hb.block⟩
  have h5 := h.below_ hb
  obtain ⟨⟨v0, a0, b0⟩, ⟨v1, a1, b1⟩, ⟨v2, a2, b2⟩, ⟨v3, a3, b3⟩, ⟨v4, a4, b4⟩, ⟨v5, a5, b5⟩, ⟨v6, a6, b6⟩⟩ := h5.cell7 hk hj hp
  refine ⟨by rw [cell_below hb' h.lay.lt]; exact hc, ⟨v0, v1, v2, v3, v4, v5, v6, a0, a1, a2, a3, a4, a5, a6, b0, b1, b2, b3, b4, b5, b6⟩, by rw [← hp]; exact h5.store hk hj⟩
theorem step_store_mid {P : Program} {ops : Array Oper} {o : Oper} {a : Act} {w : World} {K : Act → World → Prop} {Q : Exit → Act → World → Prop} {E : Prop} (hg : o.guard = none) (ty : TypeId) (x y : Operand) (ho : o.op = .store ty x y)
    (b off : Nat) (cells : Array Value) (hx : a.eval x = .pointer (some ⟨b, off, none⟩)) (hy : a.eval y = .agg cells)
    (ht : w.there b off cells.size) (hi : (P.info? ty).map (·.size) = some cells.size) (h1 : cells.all (·.oneCell') = true)
    (h : K (a.put o.dst undef) (w.setCells b off cells.toList)) :
    if Region.wanted o (yielded ops a.tmps) = true then Oper.wp P o a w K Q else E := by
  have hw : Region.wanted o (yielded ops a.tmps) = true := by simp [Region.wanted, hg]
  rw [if_pos hw]
  exact wp_store_mid ty x y ho b off cells hx hy ht hi h1 h
theorem news_txt (w : World) (d : Nat) : ∀ j u, (tmk d)[j]? = some u → (w.alloc (.cells #[.string (ms d), .int .i64 0, .bool false, .int .i64 0, .int .i64 0, .int .i64 0, .int .i64 0] 28)).cell? ((⟨w.heap.size, 0, none⟩ : Addr).add j) = some u :=
  news_of w (tmk d) 28
end Go.Proofs.YtdhkhjfjjbdkgaaDoor.Tab
