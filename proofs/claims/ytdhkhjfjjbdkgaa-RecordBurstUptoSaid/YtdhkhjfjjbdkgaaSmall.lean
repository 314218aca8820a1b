/- Two lists of bytes compared; what is small enough. -/
import Derived.Test.YtdhkhjfjjbdkgaaLin
import Derived.Test.YtdhkhjfjjbdkgaaRLx7
namespace Go.Proofs.Ytdhkhjfjjbdkgaa.Rec
open Go.RowKit Go.Proofs.YtdhkhjfjjbdkgaaW.PrintWords Go.Proofs.YtdhkhjfjjbdkgaaW.PrintLast Go.Proofs.YtdhkhjfjjbdkgaaW.PrintMore
set_option linter.unusedVariables false
set_option linter.unusedSimpArgs false
theorem rd_get (l : List Int) (i : Nat) (h : i < l.length) : rd l (i : Int) = l[i] := by
  unfold rd; rw [Int.toNat_natCast, List.getD_eq_getElem?_getD, List.getElem?_eq_getElem h]; rfl
theorem cmp_is (a b : List Int) (hl : a.length ≤ 4611686018427387904) : ∀ d i : Nat, i + d = a.length → i ≤ b.length → ∃ c, Ev (fun k => larderref0_Cmp.l0 k a b (i : Int)) c ∧ (c = 0 ↔ a.drop i = b.drop i) := by
  have j1f : ∀ i : Nat, Ev (fun k => larderref0_Cmp.j1 k a b (i : Int) false) (if (a.length : Int) < (b.length : Int) then -1 else if (a.length : Int) > (b.length : Int) then 1 else 0) := fun i => by
    refine Ev.step (f := fun _ => some (if (a.length : Int) < (b.length : Int) then -1 else if (a.length : Int) > (b.length : Int) then 1 else 0)) (fun k => ?_) (Ev.now _)
    simp only [larderref0_Cmp.j1, Bool.false_eq_true, if_false]
    repeat' split
    all_goals rfl
  intro d
  induction d with
  | zero =>
    intro i hi hib
    refine ⟨_, Ev.step (fun k => ?_) (j1f i), ?_⟩
    · conv => lhs; unfold larderref0_Cmp.l0
      rw [if_neg (by omega)]
    · rw [List.drop_of_length_le (show a.length ≤ i by omega)]
      by_cases h1 : (a.length : Int) < (b.length : Int)
      · rw [if_pos h1]
        exact ⟨(fun h => by cases h), fun h => by have := congrArg List.length h; simp at this; omega⟩
      · rw [if_neg h1, if_neg (by omega), List.drop_of_length_le (by omega)]; simp
  | succ d ih =>
    intro i hi hib
    have hlt : i < a.length := by omega
    by_cases hb : i < b.length
    · have st : ∀ k, larderref0_Cmp.l0 (k + 2) a b (i : Int) = (if a[i] < b[i] then (some (-1)) else (if a[i] > b[i] then (some 1) else (larderref0_Cmp.l0 k a b ((i + 1 : Nat) : Int)))) := fun k => by
        conv => lhs; unfold larderref0_Cmp.l0
        rw [if_pos (by omega), decide_eq_true (by omega)]
        simp only [larderref0_Cmp.j1, if_true]
        rw [if_pos (by omega), if_pos (by omega), if_pos (by omega), rd_get a i hlt, rd_get b i hb, wr64 i (by omega)]
      rw [List.drop_eq_getElem_cons hlt, List.drop_eq_getElem_cons hb]
      by_cases h1 : a[i] < b[i]
      · exact ⟨-1, Ev.eqv 2 (f := fun _ => some (-1)) (fun k => by rw [st, if_pos h1]) (Ev.now _), (fun h => by cases h), fun h => by have := (List.cons.inj h).1; omega⟩
      by_cases h2 : a[i] > b[i]
      · exact ⟨1, Ev.eqv 2 (f := fun _ => some 1) (fun k => by rw [st, if_neg h1, if_pos h2]) (Ev.now _), (fun h => by cases h), fun h => by have := (List.cons.inj h).1; omega⟩
      obtain ⟨c, hc, hc2⟩ := ih (i + 1) (by omega) (by omega)
      refine ⟨c, Ev.eqv 2 (fun k => by rw [st, if_neg h1, if_neg h2]) hc, ?_⟩
      rw [hc2]
      exact ⟨fun h => by rw [h, show a[i] = b[i] by omega], fun h => (List.cons.inj h).2⟩
    · refine ⟨_, Ev.step (fun k => ?_) (j1f i), ?_⟩
      · conv => lhs; unfold larderref0_Cmp.l0
        rw [if_pos (by omega), decide_eq_false (by omega)]
      · rw [if_neg (by omega), if_pos (by omega), List.drop_eq_getElem_cons hlt, List.drop_of_length_le (show b.length ≤ i by omega)]
        simp
        try omega
theorem eq_is (a b : List Int) (hl : a.length ≤ 4611686018427387904) : Ev (fun k => larderref0_Eq.f k a b) (decide (a = b)) := by
  obtain ⟨c, hc, hc2⟩ := cmp_is a b hl a.length 0 (by omega) (by omega)
  unfold larderref0_Eq.f
  refine Ev.bind (a := c) hc (Ev.congr (f := fun _ => some (decide (a = b))) (fun k => ?_) (Ev.now _))
  rw [List.drop_zero, List.drop_zero] at hc2
  by_cases h : a = b
  · rw [decide_eq_true h, show c = 0 from hc2.2 h]; rfl
  · have h0 : c ≠ 0 := fun e => h (hc2.1 e)
    rw [decide_eq_false h, beq_eq_false_iff_ne.2 h0]
def small (B : List Int) : Prop := Bytes B ∧ B.length ≤ 140737488351232
end Go.Proofs.Ytdhkhjfjjbdkgaa.Rec
