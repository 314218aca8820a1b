/- Entries that are good; small arithmetic of Read; the same entries. -/
import Derived.Test.YtdhkhjfjjbdkgaaDec
import Derived.Test.YtdhkhjfjjbdkgaaRefl
import Derived.Test.YtdhkhjfjjbdkgaaRLx3
import Derived.Test.YtdhkhjfjjbdkgaaRLx9
namespace Go.Proofs.Ytdhkhjfjjbdkgaa.Rec
open Go.RowKit Go.Proofs.YtdhkhjfjjbdkgaaW.PrintWords Go.Proofs.YtdhkhjfjjbdkgaaW.PrintLast Go.Proofs.YtdhkhjfjjbdkgaaW.PrintMore
set_option linter.unusedVariables false
set_option linter.unusedSimpArgs false
def GoodE (e : S33) : Prop := Good e.f0 e.f1 e.f2
theorem small_from {l : List Int} (h : small l) (i : Nat) : small (l.drop i) := ⟨fun x hx => h.1 x (List.mem_of_mem_drop hx), by rw [List.length_drop]; have := h.2; omega⟩
theorem rd_T33_get (g : List S33) (i : Nat) (h : i < g.length) : rd_T33 g (i : Int) = g[i] := by
  unfold rd_T33; rw [Int.toNat_natCast, List.getD_eq_getElem?_getD, List.getElem?_eq_getElem h]; rfl
theorem meas {a p L d r : Nat} (hd : d = a - p) (h : a - p = L + 26 + r) : a - (p + (L + 26)) < d := by omega
theorem meas2 {a p L r : Nat} (h : a - p = L + 26 + r) : p + (L + 26) ≤ a := by omega
theorem meas3 {x p L : Nat} (h : x * 40 ≤ p) (h2 : 20 ≤ L) : (x + 1) * 40 ≤ p + (L + 26) := by omega
theorem pos_fact {n : Nat} (h : ¬ n = 0) : (n : Int) > 0 := by omega
theorem zero_fact {n : Nat} (h : n = 0) : ¬ (n : Int) > 0 := by omega
theorem last_fact {n : Nat} (h : ¬ n = 0) (h2 : n * 40 ≤ 140737488351232) : wrap64 ((n : Int) - 1) = ((n - 1 : Nat) : Int) ∧ (0 : Int) ≤ ((n - 1 : Nat) : Int) ∧ ((n - 1 : Nat) : Int) < (n : Int) ∧ n - 1 < n := by
  unfold wrap64; omega
theorem next_fact {p L a r : Nat} (h : a - p = L + 26 + r) (ha : a ≤ 140737488351232) : wrap64 ((p : Int) + ((L : Int) + 26)) = ((p + (L + 26) : Nat) : Int) := by unfold wrap64; omega
theorem len_fact {p n a : Nat} (h : n * 40 ≤ p) (hp : p ≤ a) (ha : a ≤ 140737488351232) : n < 3518437208883 ∧ n < 17592186044416 ∧ n * 40 ≤ 140737488351232 := by omega
theorem near_fact {s q : Int} (h1 : 1 ≤ s) (h2 : s < 9223372036854775808) (h3 : 1 ≤ q) (h4 : q < 9223372036854775808) : (wrap64 (s - 1) = q) ↔ (wrap64 (q + 1) = s) := by unfold wrap64; omega
theorem ne_fact (L : Nat) : ¬ (L : Int) + 26 = 0 := by omega
theorem entries_refl (x : List S33) (hl : x.length ≤ 4611686018427387904) (hg : ∀ e ∈ x, GoodE e) : Ev (fun k => larderlaw16_sameEntries.f k x x) true := by
  have key : ∀ d i : Nat, i + d = x.length → Ev (fun k => larderlaw16_sameEntries.l0 k x x (i : Int)) true := by
    intro d
    induction d with
    | zero =>
      intro i hi
      refine Ev.step (f := fun _ => some true) (fun k => ?_) (Ev.now _)
      conv => lhs; unfold larderlaw16_sameEntries.l0
      rw [if_neg (by omega)]
    | succ d ih =>
      intro i hi
      have hlt : i < x.length := by omega
      obtain ⟨_, _, _, m4, m5⟩ := may_acts (hg x[i] (List.getElem_mem hlt)).may
      have m4' : x[i].f2.length ≤ 4611686018427387904 := Nat.le_trans m4 (by decide)
      refine Ev.step (f := fun k => (larderlaw16_sameEntry.f k x[i].f0 x[i].f1 x[i].f2 x[i].f0 x[i].f1 x[i].f2).bind fun t392 => (if t392 = true then (larderlaw16_sameEntries.l0 k x x ((i + 1 : Nat) : Int)) else (some false))) (fun k => ?_) (Ev.bind (entry_refl _ _ _ m4' (fun a ha => ⟨Nat.le_trans (m5 a ha).2.2.2.1 (by decide), fun t ht => Nat.le_trans ((m5 a ha).2.2.2.2 t ht) (by decide)⟩)) (Ev.congr (fun k => by rw [if_pos rfl]) (ih (i + 1) (by omega))))
      conv => lhs; unfold larderlaw16_sameEntries.l0
      rw [if_pos (by omega), if_pos (by omega), if_pos (by omega), rd_T33_get x i hlt, wr64 i (by omega)]
  unfold larderlaw16_sameEntries.f
  exact Ev.congr (fun k => by rw [if_pos rfl]; rfl) (key x.length 0 (by omega))
end Go.Proofs.Ytdhkhjfjjbdkgaa.Rec
