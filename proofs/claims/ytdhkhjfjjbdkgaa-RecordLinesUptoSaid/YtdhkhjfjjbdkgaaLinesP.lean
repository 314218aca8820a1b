/- What RecordLines asks of each entry holds. -/
import Derived.Test.YtdhkhjfjjbdkgaaLines
import Derived.Test.YtdhkhjfjjbdkgaaRefl
namespace Go.Proofs.Ytdhkhjfjjbdkgaa.Rec
open Go.RowKit Go.Proofs.YtdhkhjfjjbdkgaaW.PrintWords Go.Proofs.YtdhkhjfjjbdkgaaW.PrintLast Go.Proofs.YtdhkhjfjjbdkgaaW.PrintMore
set_option linter.unusedVariables false
set_option linter.unusedSimpArgs false
open Classical in
noncomputable def otherOf (t : List Int) : List Int := if h : small t then (other_is t h).choose else t
theorem otherOf_is (t : List Int) (h : small t) : Ev (fun k => larderlaw1_Other.f k t) (otherOf t) ∧ (otherOf t).length = t.length ∧ Bytes (otherOf t) := by
  unfold otherOf
  rw [dif_pos h]
  exact (other_is t h).choose_spec
theorem eq_refl (b : List Int) (h : b.length ≤ 4611686018427387904) : Ev (fun k => larderref0_Eq.f k b b) true := by
  have := eq_is b b h
  rwa [decide_eq_true rfl] at this
theorem frame_len_le {s n : Int} {g : List S76} (h : mayB s n g = true) : (frameP (bodyP s n g)).length ≤ 4611686018427387904 := by
  rw [frameP_len]
  have := bodyP_len h
  omega
theorem law_line_is (s n : Int) (g : List S76) (hs : s < 9223372036854775808) (hn : 0 ≤ n) (hg : BytesG g) : Ev (fun k => larderlaw16_line.f k s n g) true := by
  have h1 := line_is s n g hs hn hg
  have h2 := ref_line_is s n g hs hn hg
  have h3 : ∀ er b, b.length ≤ 4611686018427387904 → Ev (fun k => record_Line.f k s n g) (b, er) → Ev (fun k => larderref16_Line.f k s n g) (b, er) → Ev (fun k => larderlaw16_line.f k s n g) true := fun er b hb e1 e2 => by
    unfold larderlaw16_line.f
    refine Ev.bind e1 (Ev.bind e2 (Ev.congr (fun k => ?_) (eq_refl b hb)))
    simp [larderlaw16_num.f]
  cases h : mayB s n g with
  | true =>
    rw [h, if_pos rfl] at h1 h2
    exact h3 _ _ (frame_len_le h) h1 h2
  | false =>
    rw [h, if_neg (by decide)] at h1 h2
    exact h3 _ _ (by simp) h1 h2
/-- What an entry that came in is like. -/
structure EntOk (e : S33) : Prop where
  s : e.f0 < 9223372036854775808
  n : 0 ≤ e.f1
  byt : BytesG e.f2
  sum : (e.f2.map (fun a => a.f1.length)).sum ≤ 1048576
  len : e.f2.length ≤ 1048576
  txt : ∀ a ∈ e.f2, ∀ t ∈ a.f1, t.length ≤ 1048576
theorem ev_all {α : Type} (l : List α) (p : Nat → α → Prop) (h : ∀ x ∈ l, ∃ K, ∀ k, K ≤ k → p k x) : ∃ K, ∀ k, K ≤ k → ∀ x ∈ l, p k x := by
  induction l with
  | nil => exact ⟨0, fun k _ x hx => by cases hx⟩
  | cons x l ih =>
    obtain ⟨K1, h1⟩ := h x (by simp)
    obtain ⟨K2, h2⟩ := ih (fun y hy => h y (by simp [hy]))
    refine ⟨max K1 K2, fun k hk y hy => ?_⟩
    rcases List.mem_cons.1 hy with rfl | hy
    · exact h1 k (by omega)
    · exact h2 k (by omega) y hy
theorem sum_mem {α : Type} (f : α → Nat) (l : List α) (x : α) (h : x ∈ l) : f x ≤ (l.map f).sum := by
  induction l with
  | nil => cases h
  | cons y l ih =>
    rw [List.map_cons, List.sum_cons]
    rcases List.mem_cons.1 h with rfl | h
    · omega
    · have := ih h; omega
theorem entry_line (e : S33) (h : EntOk e) : ∃ K, ∀ k, K ≤ k → ∃ b er, LineOk k otherOf e b er := by
  have hsm : ∀ a ∈ e.f2, ∀ t ∈ a.f1, small t := fun a ha t ht => ⟨h.byt a ha t ht, by have := h.txt a ha t ht; omega⟩
  obtain ⟨b, er, hb, e1, e2⟩ : ∃ b er, b.length ≤ 4611686018427387904 ∧ Ev (fun k => record_Line.f k e.f0 e.f1 e.f2) (b, er) ∧ Ev (fun k => larderref16_Line.f k e.f0 e.f1 e.f2) (b, er) := by
    have h1 := line_is e.f0 e.f1 e.f2 h.s h.n h.byt
    have h2 := ref_line_is e.f0 e.f1 e.f2 h.s h.n h.byt
    cases hm : mayB e.f0 e.f1 e.f2 with
    | true => rw [hm, if_pos rfl] at h1 h2; exact ⟨_, _, frame_len_le hm, h1, h2⟩
    | false => rw [hm, if_neg (by decide)] at h1 h2; exact ⟨_, _, by simp, h1, h2⟩
  obtain ⟨K1, h1⟩ := e1
  obtain ⟨K2, h2⟩ := e2
  obtain ⟨K3, h3⟩ := eq_refl b hb
  have hl : ∀ a ∈ e.f2, a.f1.length ≤ 1048576 := fun a ha => Nat.le_trans (sum_mem (fun a : S76 => a.f1.length) e.f2 a ha) h.sum
  obtain ⟨K4, h4⟩ := entry_refl e.f0 e.f1 e.f2 (by have := h.len; omega) (fun a ha => ⟨by have := hl a ha; omega, fun t ht => by have := h.txt a ha t ht; omega⟩)
  obtain ⟨K5, h5⟩ := ev_all e.f2 (fun k a => ∀ t ∈ a.f1, larderlaw1_Other.f k t = some (otherOf t)) (fun a ha => ev_all a.f1 _ (fun t ht => (otherOf_is t (hsm a ha t ht)).1))
  obtain ⟨K6, h6⟩ := law_line_is e.f0 e.f1 (e.f2.map fun a => ⟨a.f0, a.f1.map otherOf⟩) h.s h.n (fun a ha t ht => by
    obtain ⟨a', ha', rfl⟩ := List.mem_map.1 ha
    obtain ⟨t', ht', rfl⟩ := List.mem_map.1 ht
    exact (otherOf_is t' (hsm a' ha' t' ht')).2.2)
  refine ⟨K1 + K2 + K3 + K4 + K5 + K6, fun k hk => ⟨b, er, h1 k (by omega), h2 k (by omega), h3 k (by omega), h4 k (by omega), fun a ha t ht => ⟨h5 k (by omega) a ha t ht, (otherOf_is t (hsm a ha t ht)).2.1⟩, h6 k (by omega), h.sum, h.len, h.txt⟩⟩
theorem entries_line (L : List S33) (h : ∀ e ∈ L, EntOk e) : ∃ k, ∀ e ∈ L, ∃ b er, LineOk k otherOf e b er := by
  obtain ⟨K, hK⟩ := ev_all L (fun k e => ∃ b er, LineOk k otherOf e b er) (fun e he => entry_line e (h e he))
  exact ⟨K, hK K (Nat.le_refl _)⟩
end Go.Proofs.Ytdhkhjfjjbdkgaa.Rec
