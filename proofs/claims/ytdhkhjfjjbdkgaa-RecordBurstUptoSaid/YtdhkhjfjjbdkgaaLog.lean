/- Read of a log: frames one behind the other, and a rest that is no record. -/
import Derived.Test.YtdhkhjfjjbdkgaaRdsA
namespace Go.Proofs.Ytdhkhjfjjbdkgaa.Rec
open Go.RowKit Go.Proofs.YtdhkhjfjjbdkgaaW.PrintWords Go.Proofs.YtdhkhjfjjbdkgaaW.PrintLast Go.Proofs.YtdhkhjfjjbdkgaaW.PrintMore
set_option linter.unusedVariables false
set_option linter.unusedSimpArgs false
def frameE (e : S33) : List Int := frameP (bodyP e.f0 e.f1 e.f2)
def frames (L : List S33) : List Int := L.flatMap frameE
theorem frames_take (L : List S33) (i : Nat) (h : i < L.length) : frames (L.take (i + 1)) = frames (L.take i) ++ frameE L[i] := by
  unfold frames
  rw [List.take_add_one, List.getElem?_eq_getElem h, List.flatMap_append]
  simp
theorem frames_split (L : List S33) (i : Nat) : frames L = frames (L.take i) ++ frames (L.drop i) := by
  unfold frames
  rw [← List.flatMap_append, List.take_append_drop]
theorem frames_drop (L : List S33) (i : Nat) (h : i < L.length) : frames (L.drop i) = frameE L[i] ++ frames (L.drop (i + 1)) := by
  unfold frames
  rw [List.drop_eq_getElem_cons h, List.flatMap_cons]
/-- No record stands at the beginning. -/
def NoRec (l : List Int) : Prop := ∀ s n g r, Good s n g → l ≠ frameP (bodyP s n g) ++ r
theorem seq_fact {f : Int} {i : Nat} (hf : 1 ≤ f) (hf2 : f ≤ 1099511627776) (hi : 1 ≤ i) (h40 : i ≤ 40) : wrap64 (f + (i : Int) - 1) = f + ((i - 1 : Nat) : Int) := by unfold wrap64; omega
theorem now_fact {st : Int} {i : Nat} (hst : 0 ≤ st) : ¬ (i : Int) * st < ((i - 1 : Nat) : Int) * st := by
  have : ((i - 1 : Nat) : Int) * st ≤ (i : Int) * st := Int.mul_le_mul_of_nonneg_right (by omega) hst
  omega
theorem few_fact {i : Nat} (h : i ≤ 40) : i < 3518437208883 ∧ i * 40 ≤ 140737488351232 := by omega
theorem read_log (f st : Int) (hf : 1 ≤ f) (hf2 : f ≤ 1099511627776) (hst : 0 ≤ st) (L : List S33) (h40 : L.length ≤ 40) (hG : ∀ e ∈ L, GoodE e) (hL : ∀ (i : Nat) (h : i < L.length), L[i].f0 = f + i ∧ L[i].f1 = i * st) (rest : List Int) (hl : small (frames L ++ rest)) (hrest : NoRec rest) :
    Ev (fun k => record_Read.f k (frames L ++ rest)) (L, ((frames L).length : Int)) := by
  obtain ⟨l, hldef⟩ : ∃ l, frames L ++ rest = l := ⟨_, rfl⟩
  rw [hldef] at hl ⊢
  have hlen := hl.2
  have stA : ∀ (acc : List S33) (pos : Nat), pos ≤ l.length → ∀ k, record_Read.l0 (k + 1) l acc (pos : Int) = (record_first.f k (l.drop pos)).bind fun bt170 => (if bt170.2.2.2 = 0 then (some (acc, (pos : Int))) else (if (acc.length : Int) > 0 then (if 0 ≤ (wrap64 ((acc.length : Int) - 1)) then (if (wrap64 ((acc.length : Int) - 1)) < (acc.length : Int) then (if (wrap64 (bt170.1 - 1)) = ((rd_T33 acc (wrap64 ((acc.length : Int) - 1))).f0) then (if bt170.2.1 < ((rd_T33 acc (wrap64 ((acc.length : Int) - 1))).f1) then (some (acc, (pos : Int))) else (if acc.length < 3518437208883 then (record_Read.l0 k l (acc ++ [(⟨bt170.1, bt170.2.1, bt170.2.2.1⟩ : S33)]) (wrap64 ((pos : Int) + bt170.2.2.2))) else (none))) else (some (acc, (pos : Int)))) else (none)) else (none)) else (if acc.length < 3518437208883 then (record_Read.l0 k l (acc ++ [(⟨bt170.1, bt170.2.1, bt170.2.2.1⟩ : S33)]) (wrap64 ((pos : Int) + bt170.2.2.2))) else (none)))) := fun acc pos hp k => by
    conv => lhs; unfold record_Read.l0
    rw [if_pos (by omega), if_pos (by omega), Int.toNat_natCast]
  have key : ∀ d i : Nat, i + d = L.length → Ev (fun k => record_Read.l0 k l (L.take i) ((frames (L.take i)).length : Int)) (L, ((frames L).length : Int)) := by
    intro d
    induction d with
    | zero =>
      intro i hi
      obtain rfl : i = L.length := by omega
      rw [List.take_length]
      have hdrop : l.drop (frames L).length = rest := by rw [← hldef, List.drop_left]
      obtain ⟨r, h1, R1⟩ := first_is (l.drop (frames L).length) (small_from hl _).1 (small_from hl _).2
      have hr : r = (0, 0, [], 0) := by
        rcases R1 with ⟨s, n, g, r', hg, e, _⟩ | ⟨_, e⟩
        · rw [hdrop] at e; exact absurd e (hrest s n g r' hg)
        · exact e
      subst hr
      have hple : (frames L).length ≤ l.length := by rw [← hldef, List.length_append]; omega
      exact Ev.step (stA L _ hple) (Ev.bind h1 (Ev.congr (f := fun _ => some (L, ((frames L).length : Int))) (fun k => by dsimp only; rw [if_pos rfl]) (Ev.now _)))
    | succ d ih =>
      intro i hi
      have hlt : i < L.length := by omega
      have hi40 : i ≤ 40 := by omega
      have hsp : l = frames (L.take i) ++ (frameE L[i] ++ (frames (L.drop (i + 1)) ++ rest)) := by
        rw [← hldef]
        conv => lhs; rw [frames_split L i, frames_drop L i hlt]
        simp only [List.append_assoc]
      have hdrop : l.drop (frames (L.take i)).length = frameP (bodyP L[i].f0 L[i].f1 L[i].f2) ++ (frames (L.drop (i + 1)) ++ rest) := by rw [hsp, List.drop_left]; rfl
      have hple : (frames (L.take i)).length + (frameE L[i]).length ≤ l.length := by
        conv => rhs; rw [hsp]
        simp only [List.length_append]; omega
      have hgood := hG L[i] (List.getElem_mem hlt)
      obtain ⟨hf0, hf1⟩ := hL i hlt
      obtain ⟨r, h1, R1⟩ := first_is (l.drop (frames (L.take i)).length) (small_from hl _).1 (small_from hl _).2
      have R2 : Res (l.drop (frames (L.take i)).length) (L[i].f0, L[i].f1, L[i].f2, ((bodyP L[i].f0 L[i].f1 L[i].f2).length : Int) + 26) := .inl ⟨_, _, _, _, hgood, hdrop, rfl⟩
      obtain rfl := R1.uniq R2
      have hfl : (frameE L[i]).length = (bodyP L[i].f0 L[i].f1 L[i].f2).length + 26 := frameP_len _
      have hnext : wrap64 (((frames (L.take i)).length : Int) + (((bodyP L[i].f0 L[i].f1 L[i].f2).length : Int) + 26)) = ((frames (L.take (i + 1))).length : Int) := by
        rw [frames_take L i hlt, List.length_append, hfl]
        unfold wrap64; omega
      have htk : L.take i ++ [(⟨L[i].f0, L[i].f1, L[i].f2⟩ : S33)] = L.take (i + 1) := by
        rw [List.take_add_one, List.getElem?_eq_getElem hlt]; rfl
      have hih := ih (i + 1) (by omega)
      have hacc : (L.take i).length = i := by rw [List.length_take]; omega
      have hne := ne_fact (bodyP L[i].f0 L[i].f1 L[i].f2).length
      obtain ⟨hA3, hA40⟩ := few_fact hi40
      refine Ev.step (stA (L.take i) _ (by omega)) (Ev.bind h1 (Ev.congr (fun k => ?_) hih))
      dsimp only
      rw [if_neg hne, htk, hnext]
      by_cases h0 : i = 0
      · rw [if_neg (by rw [hacc]; exact zero_fact h0), if_pos (by rw [hacc]; exact hA3)]
      · obtain ⟨hlast, q0, q1, q2⟩ := last_fact h0 hA40
        have hget : rd_T33 (L.take i) (((i - 1 : Nat) : Int)) = L[i - 1] := by
          rw [rd_T33_get _ _ (by rw [hacc]; exact q2), List.getElem_take]
        obtain ⟨hg0, hg1⟩ := hL (i - 1) (by omega)
        rw [if_pos (by rw [hacc]; exact pos_fact h0)]
        simp only [hacc, hlast]
        rw [if_pos q0, if_pos q1, hget, if_pos (by rw [hf0, hg0]; exact seq_fact hf hf2 (by omega) hi40), if_neg (by rw [hf1, hg1]; exact now_fact hst), if_pos hA3]
  exact key L.length 0 (by omega)
end Go.Proofs.Ytdhkhjfjjbdkgaa.Rec
