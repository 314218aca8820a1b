/- What the laid tables are in memory. -/
import Derived.Test.YtdhkhjfjjbdkgaaDoorTab8
namespace Go.Proofs.YtdhkhjfjjbdkgaaDoor.Tab
open Go.RowKit
set_option linter.unusedVariables false
set_option linter.unusedSimpArgs false
/-- A row, as data. -/
def Cmd.data {H : Type} (c : Cmd) : DataW H := .agg [.lit (.string c.name.data.toList), .lit (.int .i64 c.arity), .lit (.bool c.write), .lit (.int .i64 c.first), .lit (.int .i64 c.last), .lit (.int .i64 c.step), .lit (.int .i64 c.count)]
theorem cells28 : Tryd.prog.cellsOf 28 = 7 := by kernel_rfl
theorem cells9 : Tryd.prog.cellsOf 9 = 1 := by kernel_rfl
theorem cells3 : Tryd.prog.cellsOf 3 = 1 := by kernel_rfl
theorem cells4 : Tryd.prog.cellsOf 4 = 1 := by kernel_rfl
theorem one_of {l : List Value} {i : Nat} {v : Value} (h : (l.drop i).take 1 = [v]) : l[i]? = some v := by
  have := congrArg (·[0]?) h
  simpa using this
theorem bytes_inj {a b : ByteArray} (h : a.data.toList = b.data.toList) : a = b := by
  cases a; cases b
  congr
  exact Array.ext' h
theorem cmd_of_trod {H : Type} {enc : TypeId × Value → H} {w : World} {base : Nat} {sp : Nat → Bool} {held : Bool} {fuel : Nat} {cs : List Value} {c : Cmd} {p : List MemPlace}
    (h : DataW.trod enc Tryd.prog w base sp held fuel 28 cs = some (c.data, p)) : cs = c.cells := by
  obtain ⟨xs, m, rfl, hx, hl, hn, hel⟩ := DataW.trod_struct Tryd.underlying28 h
  rw [cells28] at hl
  have hn7 : xs.length = 7 := hn
  match xs, hn7 with
  | [x0, x1, x2, x3, x4, x5, x6], _ =>
    have g0 : DataW.trod enc Tryd.prog w base sp held m 9 ((cs.drop 0).take 1) = some x0 := by
      have h := hel 0 _ rfl
      have e : (Tryd.prog.cellsOf 9) = 1 := cells9
      rw [← e]; exact h
    have g1 : DataW.trod enc Tryd.prog w base sp held m 3 ((cs.drop 1).take 1) = some x1 := by
      have h := hel 1 _ rfl
      have e : (Tryd.prog.cellsOf 3) = 1 := cells3
      rw [← e]; exact h
    have g2 : DataW.trod enc Tryd.prog w base sp held m 4 ((cs.drop 2).take 1) = some x2 := by
      have h := hel 2 _ rfl
      have e : (Tryd.prog.cellsOf 4) = 1 := cells4
      rw [← e]; exact h
    have g3 : DataW.trod enc Tryd.prog w base sp held m 3 ((cs.drop 3).take 1) = some x3 := by
      have h := hel 3 _ rfl
      have e : (Tryd.prog.cellsOf 3) = 1 := cells3
      rw [← e]; exact h
    have g4 : DataW.trod enc Tryd.prog w base sp held m 3 ((cs.drop 4).take 1) = some x4 := by
      have h := hel 4 _ rfl
      have e : (Tryd.prog.cellsOf 3) = 1 := cells3
      rw [← e]; exact h
    have g5 : DataW.trod enc Tryd.prog w base sp held m 3 ((cs.drop 5).take 1) = some x5 := by
      have h := hel 5 _ rfl
      have e : (Tryd.prog.cellsOf 3) = 1 := cells3
      rw [← e]; exact h
    have g6 : DataW.trod enc Tryd.prog w base sp held m 3 ((cs.drop 6).take 1) = some x6 := by
      have h := hel 6 _ rfl
      have e : (Tryd.prog.cellsOf 3) = 1 := cells3
      rw [← e]; exact h
    obtain ⟨s0, a0, b0, _⟩ := DataW.trod_string Tryd.underlying9 (x := x0) g0
    obtain ⟨s1, a1, b1, _⟩ := DataW.trod_int Tryd.underlying3 (x := x1) g1
    obtain ⟨s2, a2, b2⟩ := DataW.trod_bool Tryd.underlying4 (x := x2) g2
    obtain ⟨s3, a3, b3, _⟩ := DataW.trod_int Tryd.underlying3 (x := x3) g3
    obtain ⟨s4, a4, b4, _⟩ := DataW.trod_int Tryd.underlying3 (x := x4) g4
    obtain ⟨s5, a5, b5, _⟩ := DataW.trod_int Tryd.underlying3 (x := x5) g5
    obtain ⟨s6, a6, b6, _⟩ := DataW.trod_int Tryd.underlying3 (x := x6) g6
    subst b0 b1 b2 b3 b4 b5 b6
    simp only [Cmd.data, Prod.mk.injEq, DataW.agg.injEq, List.map_cons, List.map_nil, List.cons.injEq, DataW.lit.injEq, Lit.string.injEq, Lit.int.injEq, Lit.bool.injEq, true_and, and_true] at hx
    obtain ⟨⟨e0, e1, e2, e3, e4, e5, e6⟩, _⟩ := hx
    have := bytes_inj e0
    subst this e1 e2 e3 e4 e5 e6
    have f0 := one_of a0; have f1 := one_of a1; have f2 := one_of a2; have f3 := one_of a3; have f4 := one_of a4; have f5 := one_of a5; have f6 := one_of a6
    match cs, hl with
    | [c0, c1, c2, c3, c4, c5, c6], _ =>
      simp at f0 f1 f2 f3 f4 f5 f6
      subst f0 f1 f2 f3 f4 f5 f6
      rfl
theorem flat_of_chunks (xs : List Cmd) (l : List Value) (hl : l.length = xs.length * 7) (h : ∀ i, i < xs.length → (l.drop (i * 7)).take 7 = (xs.getD i zc).cells) : l = xs.flatMap Cmd.cells := by
  apply List.ext_getElem?
  intro j
  by_cases hj : j < xs.length * 7
  · have hi : j / 7 < xs.length := by omega
    have h1 := h (j / 7) hi
    have h2 := cells_flat xs (j / 7) (j % 7)
    have e : j / 7 * 7 + j % 7 = j := by omega
    have h3 := congrArg (·[j % 7]?) h1
    simp only [List.getElem?_take, List.getElem?_drop, e] at h3
    rw [if_pos (by omega)] at h3
    have hs : (((xs.getD (j / 7) zc).cells)[j % 7]?).isSome = true := by
      have el : ((xs.getD (j / 7) zc).cells).length = 7 := rfl
      simp only [isSome_getElem?, el]
      simp; omega
    obtain ⟨u, hu⟩ := Option.isSome_iff_exists.1 hs
    have h4 := h2 u hi hu
    rw [e] at h4
    rw [h3, hu, h4]
  · rw [List.getElem?_eq_none (by omega), List.getElem?_eq_none (by rw [flat_length]; omega)]
theorem tab_of_trod {H : Type} {enc : TypeId × Value → H} {w : World} {base : Nat} {sp : Nat → Bool} {held : Bool} {fuel T : Nat} {cs : List Value} {xs : List Cmd} {p : List MemPlace} (ht : Tryd.prog.underlying T = some (.array xs.length 28)) (hc : Tryd.prog.cellsOf T = xs.length * 7)
    (h : DataW.trod enc Tryd.prog w base sp held fuel T cs = some (.agg (xs.map Cmd.data), p)) : cs = xs.flatMap Cmd.cells := by
  obtain ⟨ys, m, rfl, hx, hl, hn, hel⟩ := DataW.trod_array ht h
  rw [hc] at hl
  refine flat_of_chunks xs cs hl (fun i hi => ?_)
  have h1 := hel i hi
  rw [cells28] at h1
  simp only [Prod.mk.injEq, DataW.agg.injEq] at hx
  have h2 : ys[i]? = some (ys[i]'(by omega)) := List.getElem?_eq_getElem _
  have h3 : (ys[i]'(by omega)).1 = (xs.getD i zc).data := by
    have := congrArg (·[i]?) hx.1
    simp only [List.getElem?_map, h2, Option.map_some] at this
    rw [List.getElem?_eq_getElem hi, Option.map_some] at this
    rw [List.getD_eq_getElem?_getD, List.getElem?_eq_getElem hi]
    exact (Option.some.inj this).symm
  rw [h2] at h1
  exact cmd_of_trod (p := (ys[i]'(by omega)).2) (by rw [h1, ← h3])
theorem heap_of_var {W : World} {n : String} {g : Nat} {cs : Array Value} (hg : Tryd.prog.globalNamed n = some g) (h : W.var? Tryd.prog n = some cs) : ∃ t fr, W.heap[g]? = some (.cells cs t fr) := by
  simp only [World.var?, hg, Option.bind_some] at h
  split at h
  · rename_i hh; obtain rfl := Option.some.inj h; exact ⟨_, _, hh⟩
  · cases h
end Go.Proofs.YtdhkhjfjjbdkgaaDoor.Tab
