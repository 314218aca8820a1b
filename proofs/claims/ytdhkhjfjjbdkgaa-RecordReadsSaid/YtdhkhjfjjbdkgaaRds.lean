/- Read of the program and of the reference are one. -/
import Derived.Test.YtdhkhjfjjbdkgaaEyes
import Derived.Test.YtdhkhjfjjbdkgaaRLx3
import Derived.Test.YtdhkhjfjjbdkgaaRLx8b
import Derived.Test.YtdhkhjfjjbdkgaaRLx9
namespace Go.Proofs.Ytdhkhjfjjbdkgaa.Rec
open Go.RowKit Go.Proofs.YtdhkhjfjjbdkgaaW.PrintWords Go.Proofs.YtdhkhjfjjbdkgaaW.PrintLast Go.Proofs.YtdhkhjfjjbdkgaaW.PrintMore
set_option linter.unusedVariables false
set_option linter.unusedSimpArgs false
def GoodE (e : S33) : Prop := Good e.f0 e.f1 e.f2
theorem small_from {l : List Int} (h : small l) (i : Nat) : small (l.drop i) := ⟨fun x hx => h.1 x (List.mem_of_mem_drop hx), by rw [List.length_drop]; have := h.2; omega⟩
theorem rd_T33_get (g : List S33) (i : Nat) (h : i < g.length) : rd_T33 g (i : Int) = g[i] := by
  unfold rd_T33; rw [Int.toNat_natCast, List.getD_eq_getElem?_getD, List.getElem?_eq_getElem h]; rfl
theorem meas {a p L d r : Nat} (hd : d = a - p) (h : a - p = L + 26 + r) : a - (p + (L + 26)) < d := by omega
theorem meas2 {a p L r : Nat} (h : a - p = L + 26 + r) : p + (L + 26) ≤ a := by omega
theorem meas3 {x p L : Nat} (h : x * 40 ≤ p) (h2 : 20 ≤ L) : (x + 1) * 40 ≤ p + (L + 26) := by omega
theorem pos_fact {n : Nat} (h : ¬ n = 0) : (n : Int) > 0 := by omega
theorem zero_fact {n : Nat} (h : n = 0) : ¬ (n : Int) > 0 := by omega
theorem last_fact {n : Nat} (h : ¬ n = 0) (h2 : n * 40 ≤ 140737488351232) : wrap64 ((n : Int) - 1) = ((n - 1 : Nat) : Int) ∧ (0 : Int) ≤ ((n - 1 : Nat) : Int) ∧ ((n - 1 : Nat) : Int) < (n : Int) ∧ n - 1 < n := by
  unfold wrap64; omega
theorem next_fact {p L a r : Nat} (h : a - p = L + 26 + r) (ha : a ≤ 140737488351232) : wrap64 ((p : Int) + ((L : Int) + 26)) = ((p + (L + 26) : Nat) : Int) := by unfold wrap64; omega
theorem len_fact {p n a : Nat} (h : n * 40 ≤ p) (hp : p ≤ a) (ha : a ≤ 140737488351232) : n < 3518437208883 ∧ n < 17592186044416 ∧ n * 40 ≤ 140737488351232 := by omega
theorem near_fact {s q : Int} (h1 : 1 ≤ s) (h2 : s < 9223372036854775808) (h3 : 1 ≤ q) (h4 : q < 9223372036854775808) : (wrap64 (s - 1) = q) ↔ (wrap64 (q + 1) = s) := by unfold wrap64; omega
theorem ne_fact (L : Nat) : ¬ (L : Int) + 26 = 0 := by omega
theorem read_steps (l : List Int) (hl : small l) : ∀ d pos : Nat, ∀ (acc : List S33) (sz : List Int), d = l.length - pos → pos ≤ l.length → acc.length * 40 ≤ pos → sz.length * 40 ≤ pos → (∀ e ∈ acc, GoodE e) →
    ∃ (x : List S33) (y : Nat) (z : List Int), Ev (fun k => record_Read.l0 k l acc (pos : Int)) (x, (y : Int)) ∧ Ev (fun k => larderref16_Read.l0 k l acc sz (pos : Int)) (x, (y : Int), z) ∧ (∀ e ∈ x, GoodE e) ∧ y ≤ l.length ∧ x.length * 40 ≤ y := by
  have hlen := hl.2
  intro d
  induction d using Nat.strongRecOn with
  | _ d ih =>
  intro pos acc sz hd hp ha hz hg
  obtain ⟨r, h1, R1⟩ := first_is (l.drop pos) (small_from hl pos).1 (small_from hl pos).2
  obtain ⟨r', h2, R2⟩ := one_is l pos hl hp
  obtain rfl := R1.uniq R2
  have stA : ∀ k, record_Read.l0 (k + 1) l acc (pos : Int) = (record_first.f k (l.drop pos)).bind fun bt170 => (if bt170.2.2.2 = 0 then (some (acc, (pos : Int))) else (if (acc.length : Int) > 0 then (if 0 ≤ (wrap64 ((acc.length : Int) - 1)) then (if (wrap64 ((acc.length : Int) - 1)) < (acc.length : Int) then (if (wrap64 (bt170.1 - 1)) = ((rd_T33 acc (wrap64 ((acc.length : Int) - 1))).f0) then (if bt170.2.1 < ((rd_T33 acc (wrap64 ((acc.length : Int) - 1))).f1) then (some (acc, (pos : Int))) else (if acc.length < 3518437208883 then (record_Read.l0 k l (acc ++ [(⟨bt170.1, bt170.2.1, bt170.2.2.1⟩ : S33)]) (wrap64 ((pos : Int) + bt170.2.2.2))) else (none))) else (some (acc, (pos : Int)))) else (none)) else (none)) else (if acc.length < 3518437208883 then (record_Read.l0 k l (acc ++ [(⟨bt170.1, bt170.2.1, bt170.2.2.1⟩ : S33)]) (wrap64 ((pos : Int) + bt170.2.2.2))) else (none)))) := fun k => by
    conv => lhs; unfold record_Read.l0
    rw [if_pos (by omega), if_pos (by omega), Int.toNat_natCast]
  by_cases hpos : pos < l.length
  case neg =>
    have hnil : l.drop pos = [] := List.drop_of_length_le (by omega)
    have hr : r = (0, 0, [], 0) := by
      rcases R1 with ⟨s, n, g, rest, hgood, e, rfl⟩ | ⟨_, rfl⟩
      · rw [hnil] at e
        have := congrArg List.length e
        rw [List.length_append, frameP_len] at this
        simp at this
        omega
      · rfl
    subst hr
    refine ⟨acc, pos, sz, Ev.step stA (Ev.bind h1 (Ev.congr (f := fun _ => some (acc, (pos : Int))) (fun k => by dsimp only; rw [if_pos rfl]) (Ev.now _))), Ev.step (f := fun _ => some (acc, (pos : Int), sz)) (fun k => ?_) (Ev.now _), hg, hp, ha⟩
    conv => lhs; unfold larderref16_Read.l0
    rw [if_neg (by omega)]
  have stB : ∀ k, larderref16_Read.l0 (k + 1) l acc sz (pos : Int) = (larderref16_one.f k l (pos : Int)).bind fun bt369 => (if bt369.2.2.2 = 0 then (some (acc, (pos : Int), sz)) else (if (acc.length : Int) > 0 then (if 0 ≤ (wrap64 ((acc.length : Int) - 1)) then (if (wrap64 ((acc.length : Int) - 1)) < (acc.length : Int) then (if (wrap64 (((rd_T33 acc (wrap64 ((acc.length : Int) - 1))).f0) + 1)) = bt369.1 then (if bt369.2.1 < ((rd_T33 acc (wrap64 ((acc.length : Int) - 1))).f1) then (some (acc, (pos : Int), sz)) else (if acc.length < 3518437208883 then (if sz.length < 17592186044416 then (larderref16_Read.l0 k l (acc ++ [(⟨bt369.1, bt369.2.1, bt369.2.2.1⟩ : S33)]) (sz ++ [bt369.2.2.2]) (wrap64 ((pos : Int) + bt369.2.2.2))) else (none)) else (none))) else (some (acc, (pos : Int), sz))) else (none)) else (none)) else (if acc.length < 3518437208883 then (if sz.length < 17592186044416 then (larderref16_Read.l0 k l (acc ++ [(⟨bt369.1, bt369.2.1, bt369.2.2.1⟩ : S33)]) (sz ++ [bt369.2.2.2]) (wrap64 ((pos : Int) + bt369.2.2.2))) else (none)) else (none)))) := fun k => by
    conv => lhs; unfold larderref16_Read.l0
    rw [if_pos (by omega)]
  rcases R1 with ⟨s, n, g, rest, hgood, e, rfl⟩ | ⟨_, rfl⟩
  case inr =>
    exact ⟨acc, pos, sz, Ev.step stA (Ev.bind h1 (Ev.congr (f := fun _ => some (acc, (pos : Int))) (fun k => by dsimp only; rw [if_pos rfl]) (Ev.now _))), Ev.step stB (Ev.bind h2 (Ev.congr (f := fun _ => some (acc, (pos : Int), sz)) (fun k => by dsimp only; rw [if_pos rfl]) (Ev.now _))), hg, hp, ha⟩
  have hl2 := congrArg List.length e
  rw [List.length_drop, List.length_append, frameP_len] at hl2
  have hbl := good_len hgood
  have hb20 : 20 ≤ (bodyP s n g).length := by unfold bodyP; simp only [List.length_append, be_len]; omega
  obtain ⟨m1, _, _, _, _⟩ := may_acts hgood.may
  have hs1 := hgood.s1
  obtain ⟨L, hL⟩ : ∃ L, (bodyP s n g).length = L := ⟨_, rfl⟩
  rw [hL] at hl2 hbl hb20 h1 h2
  have hne := ne_fact L
  obtain ⟨hA3, _, hA40⟩ := len_fact ha hp hlen
  obtain ⟨_, hZ3, _⟩ := len_fact hz hp hlen
  have hw := next_fact hl2 hlen
  obtain ⟨x, y, z, i1, i2, i3, i4, i5⟩ := ih (l.length - (pos + (L + 26))) (meas hd hl2) (pos + (L + 26)) (acc ++ [⟨s, n, g⟩]) (sz ++ [(L : Int) + 26]) rfl (meas2 hl2) (by rw [List.length_append]; exact meas3 ha hb20) (by rw [List.length_append]; exact meas3 hz hb20) (fun e' he => by
    rcases List.mem_append.1 he with he | he
    · exact hg e' he
    · rw [List.mem_singleton.1 he]; exact hgood)
  by_cases h0 : acc.length = 0
  · refine ⟨x, y, z, Ev.step stA (Ev.bind h1 (Ev.congr (fun k => ?_) i1)), Ev.step stB (Ev.bind h2 (Ev.congr (fun k => ?_) i2)), i3, i4, i5⟩
    · dsimp only; rw [if_neg hne, if_neg (zero_fact h0), if_pos hA3, hw]
    · dsimp only; rw [if_neg hne, if_neg (zero_fact h0), if_pos hA3, if_pos hZ3, hw]
  obtain ⟨hlast, l0_, l1_, l2_⟩ := last_fact h0 hA40
  have hgl := hg acc[acc.length - 1] (List.getElem_mem l2_)
  have hp0 := pos_fact h0
  obtain ⟨n1, _, _, _, _⟩ := may_acts hgl.may
  have hs2 := hgl.s1
  have hiff := near_fact m1 hs1 n1 hs2
  by_cases hq : wrap64 (s - 1) = acc[acc.length - 1].f0
  case neg =>
    have hq2 := fun h => hq (hiff.2 h)
    refine ⟨acc, pos, sz, Ev.step stA (Ev.bind h1 (Ev.congr (f := fun _ => some (acc, (pos : Int))) (fun k => ?_) (Ev.now _))), Ev.step stB (Ev.bind h2 (Ev.congr (f := fun _ => some (acc, (pos : Int), sz)) (fun k => ?_) (Ev.now _))), hg, hp, ha⟩
    · dsimp only; rw [if_neg hne, if_pos hp0, hlast, if_pos l0_, if_pos l1_, rd_T33_get acc _ l2_, if_neg hq]
    · dsimp only; rw [if_neg hne, if_pos hp0, hlast, if_pos l0_, if_pos l1_, rd_T33_get acc _ l2_, if_neg hq2]
  by_cases ht : n < acc[acc.length - 1].f1
  · refine ⟨acc, pos, sz, Ev.step stA (Ev.bind h1 (Ev.congr (f := fun _ => some (acc, (pos : Int))) (fun k => ?_) (Ev.now _))), Ev.step stB (Ev.bind h2 (Ev.congr (f := fun _ => some (acc, (pos : Int), sz)) (fun k => ?_) (Ev.now _))), hg, hp, ha⟩
    · dsimp only; rw [if_neg hne, if_pos hp0, hlast, if_pos l0_, if_pos l1_, rd_T33_get acc _ l2_, if_pos hq, if_pos ht]
    · dsimp only; rw [if_neg hne, if_pos hp0, hlast, if_pos l0_, if_pos l1_, rd_T33_get acc _ l2_, if_pos (hiff.1 hq), if_pos ht]
  · refine ⟨x, y, z, Ev.step stA (Ev.bind h1 (Ev.congr (fun k => ?_) i1)), Ev.step stB (Ev.bind h2 (Ev.congr (fun k => ?_) i2)), i3, i4, i5⟩
    · dsimp only; rw [if_neg hne, if_pos hp0, hlast, if_pos l0_, if_pos l1_, rd_T33_get acc _ l2_, if_pos hq, if_neg ht, if_pos hA3, hw]
    · dsimp only; rw [if_neg hne, if_pos hp0, hlast, if_pos l0_, if_pos l1_, rd_T33_get acc _ l2_, if_pos (hiff.1 hq), if_neg ht, if_pos hA3, if_pos hZ3, hw]
theorem read_is (l : List Int) (hl : small l) : ∃ (x : List S33) (y : Nat) (z : List Int), Ev (fun k => record_Read.f k l) (x, (y : Int)) ∧ Ev (fun k => larderref16_Read.f k l) (x, (y : Int), z) ∧ (∀ e ∈ x, GoodE e) ∧ y ≤ l.length ∧ x.length * 40 ≤ y :=
  read_steps l hl _ 0 [] [] rfl (by omega) (by simp) (by simp) (fun e he => by cases he)
/-! what is the same -/
theorem eqlists_refl (a : List (List Int)) (hl : a.length ≤ 4611686018427387904) (ht : ∀ t ∈ a, t.length ≤ 4611686018427387904) : Ev (fun k => larderref0_EqLists.f k a a) true := by
  have key : ∀ d i : Nat, i + d = a.length → Ev (fun k => larderref0_EqLists.l0 k a a (i : Int)) true := by
    intro d
    induction d with
    | zero =>
      intro i hi
      refine Ev.step (f := fun _ => some true) (fun k => ?_) (Ev.now _)
      conv => lhs; unfold larderref0_EqLists.l0
      rw [if_neg (by omega)]
    | succ d ih =>
      intro i hi
      have hlt : i < a.length := by omega
      obtain ⟨c, hc, hc2⟩ := cmp_is a[i] a[i] (ht _ (List.getElem_mem hlt)) a[i].length 0 (by omega) (by omega)
      obtain rfl := hc2.2 rfl
      refine Ev.step (f := fun k => (larderref0_Cmp.f k a[i] a[i]).bind fun t298 => (if t298 = 0 then (larderref0_EqLists.l0 k a a ((i + 1 : Nat) : Int)) else (some false))) (fun k => ?_) (Ev.bind (a := 0) hc (Ev.congr (fun k => by rw [if_pos rfl]) (ih (i + 1) (by omega))))
      conv => lhs; unfold larderref0_EqLists.l0
      rw [if_pos (by omega), if_pos (by omega), if_pos (by omega), rd_L2_get a i hlt, wr64 i (by omega)]
  unfold larderref0_EqLists.f
  exact Ev.congr (fun k => by rw [if_pos rfl]; rfl) (key a.length 0 (by omega))
theorem entry_refl (s n : Int) (g : List S76) (hl : g.length ≤ 4611686018427387904) (ht : ∀ a ∈ g, a.f1.length ≤ 4611686018427387904 ∧ ∀ t ∈ a.f1, t.length ≤ 4611686018427387904) : Ev (fun k => larderlaw16_sameEntry.f k s n g s n g) true := by
  have key : ∀ d i : Nat, i + d = g.length → Ev (fun k => larderlaw16_sameEntry.l0 k (i : Int) s n g s n g) true := by
    intro d
    induction d with
    | zero =>
      intro i hi
      refine Ev.step (f := fun _ => some true) (fun k => ?_) (Ev.now _)
      simp only [larderlaw16_sameEntry.l0]
      rw [if_neg (by omega)]
    | succ d ih =>
      intro i hi
      have hlt : i < g.length := by omega
      obtain ⟨q1, q2⟩ := ht g[i] (List.getElem_mem hlt)
      refine Ev.step (f := fun k => (larderref0_EqLists.f k g[i].f1 g[i].f1).bind fun t305 => (if t305 = true then (larderlaw16_sameEntry.l0 k ((i + 1 : Nat) : Int) s n g s n g) else (some false))) (fun k => ?_) (Ev.bind (eqlists_refl g[i].f1 q1 q2) (Ev.congr (fun k => by rw [if_pos rfl]) (ih (i + 1) (by omega))))
      simp only [larderlaw16_sameEntry.l0]
      rw [if_pos (by omega), if_pos (by omega), if_pos (by omega), rd_T76_get g i hlt, if_pos trivial, wr64 i (by omega)]
  unfold larderlaw16_sameEntry.f
  refine Ev.congr (fun k => by rw [if_pos rfl, if_pos rfl]) (Ev.step (fun k => ?_) (key g.length 0 (by omega)))
  simp only [larderlaw16_sameEntry.j0]
  rw [if_neg (by simp)]; rfl
theorem entries_refl (x : List S33) (hl : x.length ≤ 4611686018427387904) (hg : ∀ e ∈ x, GoodE e) : Ev (fun k => larderlaw16_sameEntries.f k x x) true := by
  have key : ∀ d i : Nat, i + d = x.length → Ev (fun k => larderlaw16_sameEntries.l0 k x x (i : Int)) true := by
    intro d
    induction d with
    | zero =>
      intro i hi
      refine Ev.step (f := fun _ => some true) (fun k => ?_) (Ev.now _)
      conv => lhs; unfold larderlaw16_sameEntries.l0
      rw [if_neg (by omega)]
    | succ d ih =>
      intro i hi
      have hlt : i < x.length := by omega
      obtain ⟨_, _, _, m4, m5⟩ := may_acts (hg x[i] (List.getElem_mem hlt)).may
      have m4' : x[i].f2.length ≤ 4611686018427387904 := Nat.le_trans m4 (by decide)
      refine Ev.step (f := fun k => (larderlaw16_sameEntry.f k x[i].f0 x[i].f1 x[i].f2 x[i].f0 x[i].f1 x[i].f2).bind fun t392 => (if t392 = true then (larderlaw16_sameEntries.l0 k x x ((i + 1 : Nat) : Int)) else (some false))) (fun k => ?_) (Ev.bind (entry_refl _ _ _ m4' (fun a ha => ⟨Nat.le_trans (m5 a ha).2.2.2.1 (by decide), fun t ht => Nat.le_trans ((m5 a ha).2.2.2.2 t ht) (by decide)⟩)) (Ev.congr (fun k => by rw [if_pos rfl]) (ih (i + 1) (by omega))))
      conv => lhs; unfold larderlaw16_sameEntries.l0
      rw [if_pos (by omega), if_pos (by omega), if_pos (by omega), rd_T33_get x i hlt, wr64 i (by omega)]
  unfold larderlaw16_sameEntries.f
  exact Ev.congr (fun k => by rw [if_pos rfl]; rfl) (key x.length 0 (by omega))
/-! Other -/
theorem other_is (l : List Int) (hl : small l) : ∃ o, Ev (fun k => larderlaw1_Other.f k l) o ∧ o.length = l.length ∧ Bytes o := by
  have hlen := hl.2
  have key : ∀ (j : Nat) (acc : List Int), j + acc.length = l.length → Bytes acc → ∃ o, Ev (fun k => larderlaw1_Other.l0 k l acc ((j : Int) - 1)) o ∧ o.length = l.length ∧ Bytes o := by
    intro j
    induction j with
    | zero =>
      intro acc ha hb
      rw [Nat.zero_add] at ha
      have st : ∀ k, larderlaw1_Other.l0 (k + 1) l acc (((0 : Nat) : Int) - 1) = (if (l.length : Int) > 0 then (if (strOfNums acc).toList = (strOfNums l).toList then (if 0 ≤ (wrap64 ((acc.length : Int) - 1)) then (if (wrap64 ((acc.length : Int) - 1)) < (acc.length : Int) then (some (acc.set ((wrap64 ((acc.length : Int) - 1)) : Int).toNat (Go.bits .xor .u8 (rd acc (wrap64 ((acc.length : Int) - 1))) 1))) else (none)) else (none)) else (some acc)) else (some acc)) := fun k => by
        conv => lhs; unfold larderlaw1_Other.l0
        rw [if_neg (by omega)]
      by_cases h0 : (l.length : Int) > 0
      case neg => exact ⟨acc, Ev.step (f := fun _ => some acc) (fun k => by rw [st, if_neg h0]) (Ev.now _), ha, hb⟩
      by_cases hs : (strOfNums acc).toList = (strOfNums l).toList
      case neg => exact ⟨acc, Ev.step (f := fun _ => some acc) (fun k => by rw [st, if_pos h0, if_neg hs]) (Ev.now _), ha, hb⟩
      have hw : wrap64 ((acc.length : Int) - 1) = ((acc.length - 1 : Nat) : Int) := by unfold wrap64; omega
      refine ⟨acc.set (acc.length - 1) (Go.bits .xor .u8 (rd acc ((acc.length - 1 : Nat) : Int)) 1), Ev.step (f := fun _ => some (acc.set (acc.length - 1) (Go.bits .xor .u8 (rd acc ((acc.length - 1 : Nat) : Int)) 1))) (fun k => by rw [st, if_pos h0, if_pos hs, hw, if_pos (by omega), if_pos (by omega), Int.toNat_natCast]) (Ev.now _), by rw [List.length_set]; exact ha, fun x hx => ?_⟩
      rcases List.mem_or_eq_of_mem_set hx with hx | rfl
      · exact hb x hx
      · show 0 ≤ IntKind.u8.wrap _ ∧ IntKind.u8.wrap _ < _
        rw [IntKind.wrap_u8]; omega
    | succ j ih =>
      intro acc ha hb
      have hlt : j < l.length := by omega
      obtain ⟨o, h1, h2, h3⟩ := ih (acc ++ [l[j]]) (by rw [List.length_append]; simp; omega) (bytes_app hb (fun x hx => by rw [List.mem_singleton.1 hx]; exact hl.1 _ (List.getElem_mem hlt)))
      refine ⟨o, Ev.step (fun k => ?_) h1, h2, h3⟩
      conv => lhs; unfold larderlaw1_Other.l0
      rw [show ((j + 1 : Nat) : Int) - 1 = (j : Int) by omega, if_pos (by omega), if_pos (by omega), if_pos (by omega), if_pos (by omega), rd_get l j hlt, show wrap64 ((j : Int) - 1) = (j : Int) - 1 by unfold wrap64; omega]
  obtain ⟨o, h1, h2, h3⟩ := key l.length [] (by simp) (fun x hx => by cases hx)
  refine ⟨o, ?_, h2, h3⟩
  unfold larderlaw1_Other.f
  rw [show wrap64 ((l.length : Int) - 1) = (l.length : Int) - 1 by unfold wrap64; omega]
  exact h1
theorem Ev.and {α β : Type} {f : Nat → Option α} {g : Nat → Option β} {a : α} {b : β} (h : Ev f a) (k : Ev g b) : ∃ K, ∀ k, K ≤ k → f k = some a ∧ g k = some b := by
  obtain ⟨K, hK⟩ := h
  obtain ⟨L, hL⟩ := k
  exact ⟨max K L, fun k hk => ⟨hK k (by omega), hL k (by omega)⟩⟩
end Go.Proofs.Ytdhkhjfjjbdkgaa.Rec
