/- Entries that came in: what they read as, and of what bulk. -/
import Derived.Test.YtdhkhjfjjbdkgaaOpens
import Derived.Test.YtdhkhjfjjbdkgaaRLx0
namespace Go.Proofs.Ytdhkhjfjjbdkgaa.Rec
open Go.RowKit Go.Proofs.YtdhkhjfjjbdkgaaW.PrintWords
set_option linter.unusedVariables false
theorem ev_all {α : Type} (l : List α) (p : Nat → α → Prop) (h : ∀ x ∈ l, ∃ K, ∀ k, K ≤ k → p k x) : ∃ K, ∀ k, K ≤ k → ∀ x ∈ l, p k x := by
  induction l with
  | nil => exact ⟨0, fun k _ x hx => by cases hx⟩
  | cons x l ih =>
    obtain ⟨K1, h1⟩ := h x (by simp)
    obtain ⟨K2, h2⟩ := ih (fun y hy => h y (by simp [hy]))
    refine ⟨max K1 K2, fun k hk y hy => ?_⟩
    rcases List.mem_cons.1 hy with rfl | hy
    · exact h1 k (by omega)
    · exact h2 k (by omega) y hy
theorem sum_mem {α : Type} (f : α → Nat) (l : List α) (x : α) (h : x ∈ l) : f x ≤ (l.map f).sum := by
  induction l with
  | nil => cases h
  | cons y l ih =>
    rw [List.map_cons, List.sum_cons]
    rcases List.mem_cons.1 h with rfl | h
    · omega
    · have := ih h; omega
def wfB (n : Int) : Prop := (Lit.int .u8 n).wf = true
def bT (t : List Int) : Nat := (t.map (fun _ => 1)).sum + 1
def b2 (l : List (List Int)) : Nat := (l.map bT).sum + 1
def b76 (x : S76) : Nat := (1 + b2 x.f1) + 1
def bG (l : List S76) : Nat := (l.map b76).sum + 1
def b33 (x : S33) : Nat := (1 + (1 + bG x.f2)) + 1
def b29 (l : List S33) : Nat := (l.map b33).sum + 1
def g76 (x : S76) : Prop := (Lit.int .i64 x.f0).wf = true ∧ ∀ t ∈ x.f1, ∀ n ∈ t, wfB n
def g33 (x : S33) : Prop := (Lit.int .i64 x.f0).wf = true ∧ (Lit.int .u64 x.f1).wf = true ∧ ∀ a ∈ x.f2, g76 a
theorem opens_T : Opens (Kd.slice 5 (Kd.int .u8)) 37 (fun t => ∀ n ∈ t, wfB n) bT := opens_slice Try.underlying37 (by kernel_rfl) (opens_int Try.underlying5)
theorem opens_L2 : Opens (Kd.slice 37 (Kd.slice 5 (Kd.int .u8))) 34 (fun l => ∀ t ∈ l, ∀ n ∈ t, wfB n) b2 := opens_slice Try.underlying34 (by kernel_rfl) opens_T
set_option maxRecDepth 100000 in
theorem opens_76 : Opens k76 76 g76 b76 := by
  refine opens_struct (d := Kd.pair (Kd.int .i64) (Kd.slice 37 (Kd.slice 5 (Kd.int .u8)))) (G := fun x => (Lit.int .i64 x.1).wf = true ∧ ∀ t ∈ x.2, ∀ n ∈ t, wfB n) (b := fun x => 1 + b2 x.2) Try.underlying76 (by kernel_rfl) ?_ (fun x : S76 => (x.f0, x.f1)) (fun x => ⟨x.1, x.2⟩) (fun _ => rfl)
  refine opensAt_cons (d := Kd.int .i64) (G := fun n => (Lit.int .i64 n).wf = true) (b := fun _ => 1) (G2 := fun (x : List (List Int)) => ∀ t ∈ x, ∀ n ∈ t, wfB n) (b2 := b2) (off := 0) ?_ ?_ ?_ (opensAt_last ?_ ?_ ?_)
  · rfl
  · kernel_rfl
  · exact opens_int Try.underlying3
  · rfl
  · kernel_rfl
  · exact opens_L2
theorem opens_G : Opens (Kd.slice 76 k76) 31 (fun l => ∀ a ∈ l, g76 a) bG := opens_slice Try.underlying31 (by kernel_rfl) opens_76
set_option maxRecDepth 100000 in
theorem opens_33 : Opens k33 33 g33 b33 := by
  refine opens_struct (d := Kd.pair (Kd.int .i64) (Kd.pair (Kd.int .u64) (Kd.slice 76 k76))) (G := fun x => (Lit.int .i64 x.1).wf = true ∧ (Lit.int .u64 x.2.1).wf = true ∧ ∀ a ∈ x.2.2, g76 a) (b := fun x => 1 + (1 + bG x.2.2)) Try.underlying33 (by kernel_rfl) ?_ (fun x : S33 => (x.f0, x.f1, x.f2)) (fun x => ⟨x.1, x.2.1, x.2.2⟩) (fun _ => rfl)
  refine opensAt_cons (d := Kd.int .i64) (G := fun n => (Lit.int .i64 n).wf = true) (b := fun _ => 1) (G2 := fun (x : Int × List S76) => (Lit.int .u64 x.1).wf = true ∧ ∀ a ∈ x.2, g76 a) (b2 := fun (x : Int × List S76) => 1 + bG x.2) (off := 0) ?_ ?_ ?_
    (opensAt_cons (d := Kd.int .u64) (G := fun n => (Lit.int .u64 n).wf = true) (b := fun _ => 1) (G2 := fun (x : List S76) => ∀ a ∈ x, g76 a) (b2 := bG) ?_ ?_ ?_ (opensAt_last ?_ ?_ ?_))
  · rfl
  · kernel_rfl
  · exact opens_int Try.underlying3
  · rfl
  · kernel_rfl
  · exact opens_int (by kernel_rfl)
  · rfl
  · kernel_rfl
  · exact opens_G
theorem opens_29 : Opens (Kd.slice 33 k33) 29 (fun l => ∀ e ∈ l, g33 e) b29 := opens_slice Try.underlying29 (by kernel_rfl) opens_33
/-! the bulk bounds what is in it -/
theorem sum_le {α : Type} (f g : α → Nat) (l : List α) (h : ∀ x ∈ l, f x ≤ g x) : (l.map f).sum ≤ (l.map g).sum := by
  induction l with
  | nil => exact Nat.le_refl _
  | cons x l ih =>
    have h1 := h x (by simp)
    have h2 := ih (fun y hy => h y (by simp [hy]))
    simp only [List.map_cons, List.sum_cons]; omega
theorem ones_sum {α : Type} (l : List α) : (l.map (fun _ => 1)).sum = l.length := by
  induction l with
  | nil => rfl
  | cons x l ih => rw [List.map_cons, List.sum_cons, ih, List.length_cons]; omega
theorem len_sum {α : Type} (g : α → Nat) (l : List α) (h : ∀ x ∈ l, 1 ≤ g x) : l.length ≤ (l.map g).sum := by
  have := sum_le (fun _ => 1) g l h
  rwa [ones_sum] at this
theorem bT_len (t : List Int) : t.length < bT t := by unfold bT; rw [ones_sum]; omega
theorem b2_len (l : List (List Int)) : l.length < b2 l := by
  have := len_sum bT l (fun t _ => by unfold bT; omega)
  unfold b2; omega
theorem b2_mem {l : List (List Int)} {t : List Int} (h : t ∈ l) : t.length < b2 l := by
  have h1 := sum_mem bT l t h
  have h2 := bT_len t
  unfold b2; omega
theorem bG_len (l : List S76) : l.length < bG l := by
  have := len_sum b76 l (fun t _ => by unfold b76; omega)
  unfold bG; omega
theorem bG_sum (l : List S76) : (l.map (fun a => a.f1.length)).sum < bG l := by
  have := sum_le (fun a : S76 => a.f1.length) b76 l (fun a _ => by have := b2_len a.f1; unfold b76; omega)
  unfold bG; omega
theorem bG_txt {l : List S76} {a : S76} (ha : a ∈ l) {t : List Int} (ht : t ∈ a.f1) : t.length < bG l := by
  have h1 := sum_mem b76 l a ha
  have h2 := b2_mem ht
  unfold b76 at h1
  unfold bG; unfold b76; omega
theorem b29_len (l : List S33) : l.length < b29 l := by
  have := len_sum b33 l (fun t _ => by unfold b33; omega)
  unfold b29; omega
theorem b29_mem {l : List S33} {e : S33} (h : e ∈ l) : bG e.f2 < b29 l := by
  have h1 := sum_mem b33 l e h
  unfold b33 at h1
  unfold b29; unfold b33; omega
theorem wf_s {n : Int} (h : (Lit.int .i64 n).wf = true) : n < 9223372036854775808 := by
  simp only [Lit.wf, IntKind.min, IntKind.max, IntKind.signed, IntKind.bits, Bool.and_eq_true] at h
  simp at h
  omega
theorem wf_n {n : Int} (h : (Lit.int .u64 n).wf = true) : 0 ≤ n := by
  simp only [Lit.wf, IntKind.min, IntKind.max, IntKind.signed, IntKind.bits, Bool.and_eq_true] at h
  simp at h
  omega
theorem wf_b {n : Int} (h : wfB n) : 0 ≤ n ∧ n < 256 := by
  unfold wfB at h
  simp only [Lit.wf, IntKind.min, IntKind.max, IntKind.signed, IntKind.bits, Bool.and_eq_true] at h
  simp at h
  omega
end Go.Proofs.Ytdhkhjfjjbdkgaa.Rec
