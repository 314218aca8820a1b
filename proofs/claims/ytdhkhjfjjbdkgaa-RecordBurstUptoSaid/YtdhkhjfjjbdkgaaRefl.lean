/- What is the same, and Other. -/
import Derived.Test.YtdhkhjfjjbdkgaaSmall
import Derived.Test.YtdhkhjfjjbdkgaaRLx6
import Derived.Test.YtdhkhjfjjbdkgaaRLx7
namespace Go.Proofs.Ytdhkhjfjjbdkgaa.Rec
open Go.RowKit Go.Proofs.YtdhkhjfjjbdkgaaW.PrintWords Go.Proofs.YtdhkhjfjjbdkgaaW.PrintLast Go.Proofs.YtdhkhjfjjbdkgaaW.PrintMore
set_option linter.unusedVariables false
set_option linter.unusedSimpArgs false
/-! what is the same -/
theorem eqlists_refl (a : List (List Int)) (hl : a.length ≤ 4611686018427387904) (ht : ∀ t ∈ a, t.length ≤ 4611686018427387904) : Ev (fun k => larderref0_EqLists.f k a a) true := by
  have key : ∀ d i : Nat, i + d = a.length → Ev (fun k => larderref0_EqLists.l0 k a a (i : Int)) true := by
    intro d
    induction d with
    | zero =>
      intro i hi
      refine Ev.step (f := fun _ => some true) (fun k => ?_) (Ev.now _)
      conv => lhs; unfold larderref0_EqLists.l0
      rw [if_neg (by omega)]
    | succ d ih =>
      intro i hi
      have hlt : i < a.length := by omega
      obtain ⟨c, hc, hc2⟩ := cmp_is a[i] a[i] (ht _ (List.getElem_mem hlt)) a[i].length 0 (by omega) (by omega)
      obtain rfl := hc2.2 rfl
      refine Ev.step (f := fun k => (larderref0_Cmp.f k a[i] a[i]).bind fun t298 => (if t298 = 0 then (larderref0_EqLists.l0 k a a ((i + 1 : Nat) : Int)) else (some false))) (fun k => ?_) (Ev.bind (a := 0) hc (Ev.congr (fun k => by rw [if_pos rfl]) (ih (i + 1) (by omega))))
      conv => lhs; unfold larderref0_EqLists.l0
      rw [if_pos (by omega), if_pos (by omega), if_pos (by omega), rd_L2_get a i hlt, wr64 i (by omega)]
  unfold larderref0_EqLists.f
  exact Ev.congr (fun k => by rw [if_pos rfl]; rfl) (key a.length 0 (by omega))
theorem entry_refl (s n : Int) (g : List S76) (hl : g.length ≤ 4611686018427387904) (ht : ∀ a ∈ g, a.f1.length ≤ 4611686018427387904 ∧ ∀ t ∈ a.f1, t.length ≤ 4611686018427387904) : Ev (fun k => larderlaw16_sameEntry.f k s n g s n g) true := by
  have key : ∀ d i : Nat, i + d = g.length → Ev (fun k => larderlaw16_sameEntry.l0 k (i : Int) s n g s n g) true := by
    intro d
    induction d with
    | zero =>
      intro i hi
      refine Ev.step (f := fun _ => some true) (fun k => ?_) (Ev.now _)
      simp only [larderlaw16_sameEntry.l0]
      rw [if_neg (by omega)]
    | succ d ih =>
      intro i hi
      have hlt : i < g.length := by omega
      obtain ⟨q1, q2⟩ := ht g[i] (List.getElem_mem hlt)
      refine Ev.step (f := fun k => (larderref0_EqLists.f k g[i].f1 g[i].f1).bind fun t305 => (if t305 = true then (larderlaw16_sameEntry.l0 k ((i + 1 : Nat) : Int) s n g s n g) else (some false))) (fun k => ?_) (Ev.bind (eqlists_refl g[i].f1 q1 q2) (Ev.congr (fun k => by rw [if_pos rfl]) (ih (i + 1) (by omega))))
      simp only [larderlaw16_sameEntry.l0]
      rw [if_pos (by omega), if_pos (by omega), if_pos (by omega), rd_T76_get g i hlt, if_pos trivial, wr64 i (by omega)]
  unfold larderlaw16_sameEntry.f
  refine Ev.congr (fun k => by rw [if_pos rfl, if_pos rfl]) (Ev.step (fun k => ?_) (key g.length 0 (by omega)))
  simp only [larderlaw16_sameEntry.j0]
  rw [if_neg (by simp)]; rfl
/-! Other -/
theorem other_is (l : List Int) (hl : small l) : ∃ o, Ev (fun k => larderlaw1_Other.f k l) o ∧ o.length = l.length ∧ Bytes o := by
  have hlen := hl.2
  have key : ∀ (j : Nat) (acc : List Int), j + acc.length = l.length → Bytes acc → ∃ o, Ev (fun k => larderlaw1_Other.l0 k l acc ((j : Int) - 1)) o ∧ o.length = l.length ∧ Bytes o := by
    intro j
    induction j with
    | zero =>
      intro acc ha hb
      rw [Nat.zero_add] at ha
      have st : ∀ k, larderlaw1_Other.l0 (k + 1) l acc (((0 : Nat) : Int) - 1) = (if (l.length : Int) > 0 then (if (strOfNums acc).toList = (strOfNums l).toList then (if 0 ≤ (wrap64 ((acc.length : Int) - 1)) then (if (wrap64 ((acc.length : Int) - 1)) < (acc.length : Int) then (some (acc.set ((wrap64 ((acc.length : Int) - 1)) : Int).toNat (Go.bits .xor .u8 (rd acc (wrap64 ((acc.length : Int) - 1))) 1))) else (none)) else (none)) else (some acc)) else (some acc)) := fun k => by
        conv => lhs; unfold larderlaw1_Other.l0
        rw [if_neg (by omega)]
      by_cases h0 : (l.length : Int) > 0
      case neg => exact ⟨acc, Ev.step (f := fun _ => some acc) (fun k => by rw [st, if_neg h0]) (Ev.now _), ha, hb⟩
      by_cases hs : (strOfNums acc).toList = (strOfNums l).toList
      case neg => exact ⟨acc, Ev.step (f := fun _ => some acc) (fun k => by rw [st, if_pos h0, if_neg hs]) (Ev.now _), ha, hb⟩
      have hw : wrap64 ((acc.length : Int) - 1) = ((acc.length - 1 : Nat) : Int) := by unfold wrap64; omega
      refine ⟨acc.set (acc.length - 1) (Go.bits .xor .u8 (rd acc ((acc.length - 1 : Nat) : Int)) 1), Ev.step (f := fun _ => some (acc.set (acc.length - 1) (Go.bits .xor .u8 (rd acc ((acc.length - 1 : Nat) : Int)) 1))) (fun k => by rw [st, if_pos h0, if_pos hs, hw, if_pos (by omega), if_pos (by omega), Int.toNat_natCast]) (Ev.now _), by rw [List.length_set]; exact ha, fun x hx => ?_⟩
      rcases List.mem_or_eq_of_mem_set hx with hx | rfl
      · exact hb x hx
      · show 0 ≤ IntKind.u8.wrap _ ∧ IntKind.u8.wrap _ < _
        rw [IntKind.wrap_u8]; omega
    | succ j ih =>
      intro acc ha hb
      have hlt : j < l.length := by omega
      obtain ⟨o, h1, h2, h3⟩ := ih (acc ++ [l[j]]) (by rw [List.length_append]; simp; omega) (bytes_app hb (fun x hx => by rw [List.mem_singleton.1 hx]; exact hl.1 _ (List.getElem_mem hlt)))
      refine ⟨o, Ev.step (fun k => ?_) h1, h2, h3⟩
      conv => lhs; unfold larderlaw1_Other.l0
      rw [show ((j + 1 : Nat) : Int) - 1 = (j : Int) by omega, if_pos (by omega), if_pos (by omega), if_pos (by omega), if_pos (by omega), rd_get l j hlt, show wrap64 ((j : Int) - 1) = (j : Int) - 1 by unfold wrap64; omega]
  obtain ⟨o, h1, h2, h3⟩ := key l.length [] (by simp) (fun x hx => by cases hx)
  refine ⟨o, ?_, h2, h3⟩
  unfold larderlaw1_Other.f
  rw [show wrap64 ((l.length : Int) - 1) = (l.length : Int) - 1 by unfold wrap64; omega]
  exact h1
theorem Ev.and {α β : Type} {f : Nat → Option α} {g : Nat → Option β} {a : α} {b : β} (h : Ev f a) (k : Ev g b) : ∃ K, ∀ k, K ≤ k → f k = some a ∧ g k = some b := by
  obtain ⟨K, hK⟩ := h
  obtain ⟨L, hL⟩ := k
  exact ⟨max K L, fun k hk => ⟨hK k (by omega), hL k (by omega)⟩⟩
end Go.Proofs.Ytdhkhjfjjbdkgaa.Rec
