/- What the reference's one tells: the record at a place, or nothing. What the reference's one tells: the record at a place, or nothing. -/
import Derived.Test.YtdhkhjfjjbdkgaaDec
import Derived.Test.YtdhkhjfjjbdkgaaOne
namespace Go.Proofs.Ytdhkhjfjjbdkgaa.Rec
open Go.RowKit Go.Proofs.YtdhkhjfjjbdkgaaW.PrintWords Go.Proofs.YtdhkhjfjjbdkgaaW.PrintLast Go.Proofs.YtdhkhjfjjbdkgaaW.PrintMore
set_option linter.unusedVariables false
set_option linter.unusedSimpArgs false
theorem rd_get (l : List Int) (i : Nat) (h : i < l.length) : rd l (i : Int) = l[i] := by
  unfold rd; rw [Int.toNat_natCast, List.getD_eq_getElem?_getD, List.getElem?_eq_getElem h]; rfl
theorem cmp_is (a b : List Int) (hl : a.length ≤ 4611686018427387904) : ∀ d i : Nat, i + d = a.length → i ≤ b.length → ∃ c, Ev (fun k => larderref0_Cmp.l0 k a b (i : Int)) c ∧ (c = 0 ↔ a.drop i = b.drop i) := by
  have j1f : ∀ i : Nat, Ev (fun k => larderref0_Cmp.j1 k a b (i : Int) false) (if (a.length : Int) < (b.length : Int) then -1 else if (a.length : Int) > (b.length : Int) then 1 else 0) := fun i => by
    refine Ev.step (f := fun _ => some (if (a.length : Int) < (b.length : Int) then -1 else if (a.length : Int) > (b.length : Int) then 1 else 0)) (fun k => ?_) (Ev.now _)
    simp only [larderref0_Cmp.j1, Bool.false_eq_true, if_false]
    repeat' split
    all_goals rfl
  intro d
  induction d with
  | zero =>
    intro i hi hib
    refine ⟨_, Ev.step (fun k => ?_) (j1f i), ?_⟩
    · conv => lhs; unfold larderref0_Cmp.l0
      rw [if_neg (by omega)]
    · rw [List.drop_of_length_le (show a.length ≤ i by omega)]
      by_cases h1 : (a.length : Int) < (b.length : Int)
      · rw [if_pos h1]
        exact ⟨(fun h => by cases h), fun h => by have := congrArg List.length h; simp at this; omega⟩
      · rw [if_neg h1, if_neg (by omega), List.drop_of_length_le (by omega)]; simp
  | succ d ih =>
    intro i hi hib
    have hlt : i < a.length := by omega
    by_cases hb : i < b.length
    · have st : ∀ k, larderref0_Cmp.l0 (k + 2) a b (i : Int) = (if a[i] < b[i] then (some (-1)) else (if a[i] > b[i] then (some 1) else (larderref0_Cmp.l0 k a b ((i + 1 : Nat) : Int)))) := fun k => by
        conv => lhs; unfold larderref0_Cmp.l0
        rw [if_pos (by omega), decide_eq_true (by omega)]
        simp only [larderref0_Cmp.j1, if_true]
        rw [if_pos (by omega), if_pos (by omega), if_pos (by omega), rd_get a i hlt, rd_get b i hb, wr64 i (by omega)]
      rw [List.drop_eq_getElem_cons hlt, List.drop_eq_getElem_cons hb]
      by_cases h1 : a[i] < b[i]
      · exact ⟨-1, Ev.eqv 2 (f := fun _ => some (-1)) (fun k => by rw [st, if_pos h1]) (Ev.now _), (fun h => by cases h), fun h => by have := (List.cons.inj h).1; omega⟩
      by_cases h2 : a[i] > b[i]
      · exact ⟨1, Ev.eqv 2 (f := fun _ => some 1) (fun k => by rw [st, if_neg h1, if_pos h2]) (Ev.now _), (fun h => by cases h), fun h => by have := (List.cons.inj h).1; omega⟩
      obtain ⟨c, hc, hc2⟩ := ih (i + 1) (by omega) (by omega)
      refine ⟨c, Ev.eqv 2 (fun k => by rw [st, if_neg h1, if_neg h2]) hc, ?_⟩
      rw [hc2]
      exact ⟨fun h => by rw [h, show a[i] = b[i] by omega], fun h => (List.cons.inj h).2⟩
    · refine ⟨_, Ev.step (fun k => ?_) (j1f i), ?_⟩
      · conv => lhs; unfold larderref0_Cmp.l0
        rw [if_pos (by omega), decide_eq_false (by omega)]
      · rw [if_neg (by omega), if_pos (by omega), List.drop_eq_getElem_cons hlt, List.drop_of_length_le (show b.length ≤ i by omega)]
        simp
        try omega
theorem eq_is (a b : List Int) (hl : a.length ≤ 4611686018427387904) : Ev (fun k => larderref0_Eq.f k a b) (decide (a = b)) := by
  obtain ⟨c, hc, hc2⟩ := cmp_is a b hl a.length 0 (by omega) (by omega)
  unfold larderref0_Eq.f
  refine Ev.bind (a := c) hc (Ev.congr (f := fun _ => some (decide (a = b))) (fun k => ?_) (Ev.now _))
  rw [List.drop_zero, List.drop_zero] at hc2
  by_cases h : a = b
  · rw [decide_eq_true h, show c = 0 from hc2.2 h]; rfl
  · have h0 : c ≠ 0 := fun e => h (hc2.1 e)
    rw [decide_eq_false h, beq_eq_false_iff_ne.2 h0]
def small (B : List Int) : Prop := Bytes B ∧ B.length ≤ 140737488351232
theorem eye_num (B : List Int) (at_ s : Nat) (bad : Bool) (hB : small B) (hat : at_ ≤ B.length) (hs : s ≤ 8) :
    Ev (fun k => larderref16_Eye_num.f k B (at_ : Int) bad (s : Int)) (if at_ + s ≤ B.length then ((val ((B.drop at_).take s) : Int), ((at_ + s : Nat) : Int), bad) else (0, (B.length : Int), true)) := by
  have hl := hB.2
  have key : ∀ d i : Nat, i + d = s → at_ + i ≤ B.length → Ev (fun k => larderref16_Eye_num.l0 k (s : Int) (val ((B.drop at_).take i) : Int) (i : Int) B ((at_ + i : Nat) : Int) bad) (if at_ + s ≤ B.length then ((val ((B.drop at_).take s) : Int), ((at_ + s : Nat) : Int), bad) else (0, (B.length : Int), true)) := by
    intro d
    induction d with
    | zero =>
      intro i hi hle
      obtain rfl : i = s := by omega
      rw [if_pos hle]
      refine Ev.step (f := fun _ => some ((val ((B.drop at_).take i) : Int), ((at_ + i : Nat) : Int), bad)) (fun k => ?_) (Ev.now _)
      conv => lhs; unfold larderref16_Eye_num.l0
      rw [if_neg (by omega)]
    | succ d ih =>
      intro i hi hle
      by_cases hlt : at_ + i < B.length
      · refine Ev.step (fun k => ?_) (ih (i + 1) (by omega) (by omega))
        have hx := hB.1 B[at_ + i] (List.getElem_mem hlt)
        have ht : (B.drop at_).take (i + 1) = (B.drop at_).take i ++ [B[at_ + i]] := by
          rw [List.take_succ_eq_append_getElem (by simp; omega)]; simp
        have hv := val_lt ((B.drop at_).take i) (fun x hx => hB.1 x (List.mem_of_mem_drop (List.mem_of_mem_take hx)))
        have hp : 256 ^ ((B.drop at_).take i).length ≤ 256 ^ 7 := Nat.pow_le_pow_right (by decide) (by rw [List.length_take]; omega)
        conv => lhs; unfold larderref16_Eye_num.l0
        rw [if_pos (by omega), if_neg (by omega), if_pos (by omega), if_pos (by omega), rd_get B _ hlt, ht, val_snoc, wr64 i (by omega), wr64 (at_ + i) (by omega)]
        congr 1
        rw [show IntKind.u64.wrap B[at_ + i] = B[at_ + i] by rw [IntKind.wrap_u64]; omega]
        rw [IntKind.wrap_u64, IntKind.wrap_u64]; omega
      · rw [if_neg (by omega)]
        refine Ev.step (f := fun _ => some (0, (B.length : Int), true)) (fun k => ?_) (Ev.now _)
        conv => lhs; unfold larderref16_Eye_num.l0
        rw [if_pos (by omega), if_pos (by omega), show ((at_ + i : Nat) : Int) = (B.length : Int) by omega]
  exact key s 0 (by omega) (by omega)
theorem eye_bytes (B : List Int) (at_ n : Nat) (bad : Bool) (hB : small B) (hat : at_ ≤ B.length) :
    larderref16_Eye_bytes.f B (at_ : Int) bad (n : Int) = some (if B.length < at_ + n then ([], (at_ : Int), true) else ((B.drop at_).take n, ((at_ + n : Nat) : Int), bad)) := by
  have hl := hB.2
  unfold larderref16_Eye_bytes.f
  rw [if_pos ⟨by omega, by omega, by omega, by omega⟩]
  by_cases h : B.length < at_ + n
  · rw [if_pos h, if_pos (by omega)]
  · rw [if_neg h, if_neg (by omega), Int.toNat_natCast, Int.toNat_natCast, Int.natCast_add]
theorem small_drop {B : List Int} (hB : small B) (i j : Nat) : Bytes ((B.drop i).take j) := fun x hx => hB.1 x (List.mem_of_mem_drop (List.mem_of_mem_take hx))
theorem eye_text (B : List Int) (at_ : Nat) (bad : Bool) (hB : small B) (hat : at_ ≤ B.length) :
    ∃ t at2 bad2, Ev (fun k => larderref16_Eye_text.f k B (at_ : Int) bad) (t, ((at2 : Nat) : Int), bad2) ∧ at_ ≤ at2 ∧ at2 ≤ B.length ∧ Bytes t ∧ (bad = true → bad2 = true) ∧ (bad2 = false → at_ + 4 ≤ at2) := by
  have h1 := eye_num B at_ 4 bad hB hat (by decide)
  unfold larderref16_Eye_text.f
  by_cases h4 : at_ + 4 ≤ B.length
  · rw [if_pos h4] at h1
    have h2 := eye_bytes B (at_ + 4) (val ((B.drop at_).take 4)) bad hB h4
    by_cases h5 : B.length < at_ + 4 + val ((B.drop at_).take 4)
    · rw [if_pos h5] at h2
      exact ⟨[], at_ + 4, true, Ev.bind h1 (Ev.congr (f := fun _ => some ([], ((at_ + 4 : Nat) : Int), true)) (fun k => by dsimp only; rw [h2]; rfl) (Ev.now _)), by omega, h4, fun x hx => (by cases hx), fun _ => rfl, (fun h => by cases h)⟩
    · rw [if_neg h5] at h2
      exact ⟨(B.drop (at_ + 4)).take (val ((B.drop at_).take 4)), at_ + 4 + val ((B.drop at_).take 4), bad, Ev.bind h1 (Ev.congr (f := fun _ => some ((B.drop (at_ + 4)).take (val ((B.drop at_).take 4)), ((at_ + 4 + val ((B.drop at_).take 4) : Nat) : Int), bad)) (fun k => by dsimp only; rw [h2]; rfl) (Ev.now _)), by omega, by omega, small_drop hB _ _, id, fun _ => by omega⟩
  · rw [if_neg h4] at h1
    have h2 := eye_bytes B B.length 0 true hB (Nat.le_refl _)
    rw [if_neg (by omega)] at h2
    refine ⟨[], B.length, true, Ev.bind h1 (Ev.congr (f := fun _ => some ([], ((B.length : Nat) : Int), true)) (fun k => ?_) (Ev.now _)), hat, Nat.le_refl _, fun x hx => (by cases hx), fun _ => rfl, (fun h => by cases h)⟩
    dsimp only
    rw [show (0 : Int) = ((0 : Nat) : Int) from rfl, h2]
    simp
theorem eye_text_app (B : List Int) (at_ : Nat) (t rest : List Int) (hB : small B) (hat : at_ ≤ B.length) (e : B.drop at_ = textP t ++ rest) (ht : t.length ≤ 4096) :
    Ev (fun k => larderref16_Eye_text.f k B (at_ : Int) false) (t, ((at_ + (4 + t.length) : Nat) : Int), false) := by
  have hlen := congrArg List.length e
  rw [List.length_drop, List.length_append, textP_len] at hlen
  have h1 := eye_num B at_ 4 false hB hat (by decide)
  rw [if_pos (by omega)] at h1
  have hv : (B.drop at_).take 4 = be 4 t.length := by
    rw [e]; unfold textP
    rw [List.append_assoc, List.take_append_of_le_length (by rw [be_len]; decide), List.take_of_length_le (by rw [be_len]; decide)]
  rw [hv, val_be_lt 4 _ (by omega)] at h1
  have h2 := eye_bytes B (at_ + 4) t.length false hB (by omega)
  rw [if_neg (by omega)] at h2
  have hd : (B.drop (at_ + 4)).take t.length = t := by
    rw [← List.drop_drop, e]; unfold textP
    rw [List.append_assoc, List.drop_append_of_le_length (by rw [be_len]; decide), List.drop_of_length_le (by rw [be_len]; decide), List.nil_append]
    simp
  rw [hd] at h2
  unfold larderref16_Eye_text.f
  refine Ev.bind h1 (Ev.congr (f := fun _ => some (t, ((at_ + (4 + t.length) : Nat) : Int), false)) (fun k => ?_) (Ev.now _))
  dsimp only
  rw [h2, Nat.add_assoc]; rfl
def room (B : List Int) (at_ : Nat) (bad : Bool) : Nat := (B.length - at_) + if bad = true then 0 else 1
theorem wrU (i : Nat) (h : i < 18446744073709551615) : IntKind.u64.wrap ((i : Int) + 1) = ((i + 1 : Nat) : Int) := by rw [IntKind.wrap_u64]; omega
theorem eye_args (B : List Int) (hB : small B) (x4 x5 : Int) (m : Nat) (hm : m < 4294967296) (s n db : Int) (g : List S76) (hg : g.length < 4398046511104) :
    ∀ M j at_ : Nat, ∀ (bad : Bool) (args : List (List Int)), room B at_ bad ≤ M → at_ ≤ B.length → j ≤ m → args.length ≤ j → (∀ t ∈ args, Bytes t) → ∃ args2 at2 bad2, (∀ t ∈ args2, Bytes t) ∧ at_ ≤ at2 ∧ at2 ≤ B.length ∧ (bad = true → bad2 = true) ∧ ∀ r, Ev (fun k => larderref16_Eye_entry.l0 k x4 (IntKind.u64.wrap (x5 + 1)) B ((at2 : Nat) : Int) bad2 s n (g ++ [⟨db, args2⟩])) r → Ev (fun k => larderref16_Eye_entry.l1 k x4 x5 (m : Int) (j : Int) B (at_ : Int) bad s n g db args) r := by
  intro M
  induction M with
  | zero =>
    intro j at_ bad args hM hat hj ha hab
    cases bad with
    | false => unfold room at hM; simp at hM
    | true =>
      refine ⟨args, at_, true, hab, Nat.le_refl _, hat, id, fun r hr => Ev.step (fun k => ?_) hr⟩
      simp only [larderref16_Eye_entry.l1, if_true]
      rw [if_pos (show g.length < 4398046511104 from hg)]
      split <;> rfl
  | succ M ih =>
    intro j at_ bad args hM hat hj ha hab
    by_cases hlt : j < m
    · cases bad with
      | true =>
        refine ⟨args, at_, true, hab, Nat.le_refl _, hat, id, fun r hr => Ev.step (fun k => ?_) hr⟩
        simp only [larderref16_Eye_entry.l1, if_true]
        rw [if_pos (show g.length < 4398046511104 from hg)]
        split <;> rfl
      | false =>
        obtain ⟨t, at2, bad2, h1, h2, h3, h4, h5, h6⟩ := eye_text B at_ false hB hat
        have hroom : room B at2 bad2 ≤ M := by
          unfold room at hM ⊢
          simp only [Bool.false_eq_true, if_false] at hM
          cases bad2 with
          | true => simp; omega
          | false => have := h6 rfl; simp; omega
        obtain ⟨args2, at3, bad3, k1, k2, k3, k4, k5⟩ := ih (j + 1) at2 bad2 (args ++ [t]) hroom h3 (by omega) (by rw [List.length_append]; simp; omega) (fun u hu => by
          rcases List.mem_append.1 hu with hu | hu
          · exact hab u hu
          · rw [List.mem_singleton.1 hu]; exact h4)
        refine ⟨args2, at3, bad3, k1, by omega, k3, (fun h => by cases h), fun r hr => ?_⟩
        refine Ev.step (f := fun k => (larderref16_Eye_text.f k B (at_ : Int) false).bind fun bt358 => (larderref16_Eye_entry.l1 k x4 x5 (m : Int) ((j + 1 : Nat) : Int) B bt358.2.1 bt358.2.2 s n g db (args ++ [bt358.1]))) (fun k => ?_) (Ev.bind h1 (k5 r hr))
        simp only [larderref16_Eye_entry.l1, Bool.false_eq_true, if_false]
        rw [if_pos (by omega), wrU j (by omega)]
        congr 1
        funext q
        rw [if_pos (by omega)]
    · refine ⟨args, at_, bad, hab, Nat.le_refl _, hat, id, fun r hr => Ev.step (fun k => ?_) hr⟩
      simp only [larderref16_Eye_entry.l1]
      rw [if_neg (by omega), if_pos hg]
theorem eye_group (B : List Int) (hB : small B) (N : Nat) (hN : N < 4294967296) (s n : Int) :
    ∀ M i at_ : Nat, ∀ (bad : Bool) (g : List S76), room B at_ bad ≤ M → at_ ≤ B.length → i ≤ N → g.length = i → BytesG g → ∃ (g2 : List S76) (at2 : Int) (bad2 : Bool), BytesG g2 ∧ Ev (fun k => larderref16_Eye_entry.l0 k (N : Int) (i : Int) B (at_ : Int) bad s n g) (s, n, g2, at2, bad2) := by
  have stop : ∀ (i at_ : Nat) (bad : Bool) (g : List S76), Ev (fun k => larderref16_Eye_entry.j1 k (N : Int) (i : Int) false B (at_ : Int) bad s n g) (s, n, g, (at_ : Int), bad) := fun i at_ bad g =>
    Ev.step (f := fun _ => some (s, n, g, (at_ : Int), bad)) (fun k => by simp only [larderref16_Eye_entry.j1, Bool.false_eq_true, if_false]) (Ev.now _)
  have halt_ : ∀ (i at_ : Nat) (bad : Bool) (g : List S76), (¬ i < N ∨ bad = true) → Ev (fun k => larderref16_Eye_entry.l0 k (N : Int) (i : Int) B (at_ : Int) bad s n g) (s, n, g, (at_ : Int), bad) := fun i at_ bad g h => by
    refine Ev.step (fun k => ?_) (stop i at_ bad g)
    simp only [larderref16_Eye_entry.l0]
    rcases h with h | h
    · rw [if_neg (by omega)]
    · subst h; simp
  intro M
  induction M with
  | zero =>
    intro i at_ bad g hM hat hi hgl hgb
    cases bad with
    | false => unfold room at hM; simp at hM
    | true => exact ⟨g, _, _, hgb, halt_ i at_ true g (.inr rfl)⟩
  | succ M ih =>
    intro i at_ bad g hM hat hi hgl hgb
    by_cases hlt : i < N
    · cases bad with
      | true => exact ⟨g, _, _, hgb, halt_ i at_ true g (.inr rfl)⟩
      | false =>
        have h1 := eye_num B at_ 1 false hB hat (by decide)
        obtain ⟨v1, a1, b1, e1, l1, l2, l3⟩ : ∃ (v1 : Int) (a1 : Nat) (b1 : Bool), (if at_ + 1 ≤ B.length then ((val ((B.drop at_).take 1) : Int), ((at_ + 1 : Nat) : Int), false) else (0, (B.length : Int), true)) = (v1, ((a1 : Nat) : Int), b1) ∧ at_ ≤ a1 ∧ a1 ≤ B.length ∧ (b1 = false → at_ + 1 ≤ a1) := by
          by_cases h : at_ + 1 ≤ B.length
          · rw [if_pos h]; exact ⟨_, at_ + 1, _, rfl, by omega, h, fun _ => Nat.le_refl _⟩
          · rw [if_neg h]; exact ⟨_, B.length, _, rfl, hat, Nat.le_refl _, (fun h => by cases h)⟩
        rw [e1] at h1
        have h2 := eye_num B a1 4 b1 hB l2 (by decide)
        obtain ⟨m, a2, b2, e2, j0, j1, j2, j3⟩ : ∃ (m : Nat) (a2 : Nat) (b2 : Bool), (if a1 + 4 ≤ B.length then ((val ((B.drop a1).take 4) : Int), ((a1 + 4 : Nat) : Int), b1) else (0, (B.length : Int), true)) = ((m : Int), ((a2 : Nat) : Int), b2) ∧ m < 4294967296 ∧ a1 ≤ a2 ∧ a2 ≤ B.length ∧ (b2 = false → b1 = false) := by
          by_cases h : a1 + 4 ≤ B.length
          · rw [if_pos h]
            have hv := val_lt ((B.drop a1).take 4) (small_drop hB _ _)
            have hp : 256 ^ ((B.drop a1).take 4).length ≤ 256 ^ 4 := Nat.pow_le_pow_right (by decide) (by rw [List.length_take]; omega)
            exact ⟨_, a1 + 4, _, rfl, by omega, by omega, h, id⟩
          · rw [if_neg h]; exact ⟨0, B.length, _, rfl, by decide, l2, Nat.le_refl _, (fun h => by cases h)⟩
        rw [e2] at h2
        obtain ⟨args2, a3, b3, k1, k2, k3, k4, k5⟩ := eye_args B hB (N : Int) (i : Int) m j0 s n (wrap64 v1) g (by omega) (room B a2 b2) 0 a2 b2 [] (Nat.le_refl _) j2 (by omega) (by simp) (by simp)
        have hroom : room B a3 b3 ≤ M := by
          unfold room at hM ⊢
          simp only [Bool.false_eq_true, if_false] at hM
          cases b3 with
          | true => simp; omega
          | false =>
            have hb2 : b2 = false := by cases b2 with | false => rfl | true => exact absurd (k4 rfl) (by decide)
            have := l3 (j3 hb2); simp; omega
        obtain ⟨g2, at2, bad2, q1, q2⟩ := ih (i + 1) a3 b3 (g ++ [⟨wrap64 v1, args2⟩]) hroom k3 (by omega) (by rw [List.length_append]; simp; omega) (fun a ha => by
          rcases List.mem_append.1 ha with ha | ha
          · exact hgb a ha
          · rw [List.mem_singleton.1 ha]; exact k1)
        refine ⟨g2, at2, bad2, q1, ?_⟩
        rw [← wrU i (by omega)] at q2
        refine Ev.step (fun k => ?_) (Ev.step (f := fun k => (larderref16_Eye_num.f k B (at_ : Int) false 1).bind fun bt349 => ((larderref16_Eye_num.f k B bt349.2.1 bt349.2.2 4).bind fun bt352 => (larderref16_Eye_entry.l1 k (N : Int) (i : Int) bt352.1 0 B bt352.2.1 bt352.2.2 s n g (wrap64 (bt349.1)) ([] : List (List Int))))) (g := fun k => larderref16_Eye_entry.j1 k (N : Int) (i : Int) true B (at_ : Int) false s n g) (fun k => by simp only [larderref16_Eye_entry.j1, if_true]) (Ev.bind h1 (Ev.bind h2 (k5 _ q2))))
        simp only [larderref16_Eye_entry.l0]
        rw [if_pos (by omega)]; rfl
    · exact ⟨g, _, _, hgb, halt_ i at_ bad g (.inl hlt)⟩
theorem eye_entry (B : List Int) (hB : small B) : ∃ (s n : Int) (g : List S76) (at2 : Int) (bad : Bool), Ev (fun k => larderref16_Eye_entry.f k B 0 false) (s, n, g, at2, bad) ∧ BytesG g ∧ 0 ≤ n ∧ s < 9223372036854775808 := by
  have step : ∀ (a : Nat) (b : Bool) (z : Nat), a ≤ B.length → z ≤ 8 → ∃ (v : Nat) (a2 : Nat) (b2 : Bool), Ev (fun k => larderref16_Eye_num.f k B (a : Int) b (z : Int)) ((v : Int), ((a2 : Nat) : Int), b2) ∧ v < 256 ^ z ∧ a2 ≤ B.length := fun a b z ha hz => by
    have h := eye_num B a z b hB ha hz
    by_cases hc : a + z ≤ B.length
    · rw [if_pos hc] at h
      have hv := val_lt ((B.drop a).take z) (small_drop hB _ _)
      have hp : 256 ^ ((B.drop a).take z).length ≤ 256 ^ z := Nat.pow_le_pow_right (by decide) (by rw [List.length_take]; omega)
      exact ⟨_, _, _, h, by omega, hc⟩
    · rw [if_neg hc] at h
      exact ⟨0, B.length, true, h, Nat.pos_of_ne_zero (by simp), Nat.le_refl _⟩
  obtain ⟨v1, a1, b1, h1, p1, q1⟩ := step 0 false 8 (by omega) (by decide)
  obtain ⟨v2, a2, b2, h2, p2, q2⟩ := step a1 b1 8 q1 (by decide)
  obtain ⟨v3, a3, b3, h3, p3, q3⟩ := step a2 b2 4 q2 (by decide)
  obtain ⟨g, at2, bad, hg, he⟩ := eye_group B hB v3 (by omega) (wrap64 (v1 : Int)) (v2 : Int) (room B a3 b3) 0 a3 b3 [] (Nat.le_refl _) q3 (by omega) rfl (fun a ha => by cases ha)
  refine ⟨wrap64 (v1 : Int), (v2 : Int), g, at2, bad, ?_, hg, by omega, by unfold wrap64; omega⟩
  unfold larderref16_Eye_entry.f
  exact Ev.bind h1 (Ev.bind h2 (Ev.bind h3 he))
end Go.Proofs.Ytdhkhjfjjbdkgaa.Rec
namespace Go.Proofs.Ytdhkhjfjjbdkgaa.Rec
open Go.RowKit Go.Proofs.YtdhkhjfjjbdkgaaW.PrintWords Go.Proofs.YtdhkhjfjjbdkgaaW.PrintLast Go.Proofs.YtdhkhjfjjbdkgaaW.PrintMore
set_option linter.unusedVariables false
set_option linter.unusedSimpArgs false
theorem eye_num_app (B : List Int) (at_ s v : Nat) (rest : List Int) (bad : Bool) (hB : small B) (hat : at_ ≤ B.length) (hs : s ≤ 8) (hv : v < 256 ^ s) (e : B.drop at_ = be s v ++ rest) :
    Ev (fun k => larderref16_Eye_num.f k B (at_ : Int) bad (s : Int)) ((v : Int), ((at_ + s : Nat) : Int), bad) := by
  have hlen := congrArg List.length e
  rw [List.length_drop, List.length_append, be_len] at hlen
  have h := eye_num B at_ s bad hB hat hs
  rw [if_pos (by omega), e, List.take_append_of_le_length (by rw [be_len]; exact Nat.le_refl _), List.take_of_length_le (by rw [be_len]; exact Nat.le_refl _), val_be_lt s v hv] at h
  exact h
theorem drop_more {B x rest : List Int} {at_ n : Nat} (e : B.drop at_ = x ++ rest) (hn : x.length = n) : B.drop (at_ + n) = rest := by
  subst hn; rw [← List.drop_drop, e, List.drop_left]
theorem eye_args_app (B : List Int) (hB : small B) (x4 x5 : Int) (s n db : Int) (g : List S76) (hg : g.length < 4398046511104) (ts : List (List Int)) (hts : ts.length ≤ 128) (ht : ∀ t ∈ ts, t.length ≤ 4096) (rest : List Int) (r : Int × Int × List S76 × Int × Bool) :
    ∀ d j at_ : Nat, j + d = ts.length → at_ ≤ B.length → B.drop at_ = (ts.drop j).flatMap textP ++ rest → Ev (fun k => larderref16_Eye_entry.l0 k x4 (IntKind.u64.wrap (x5 + 1)) B ((at_ + ((ts.drop j).flatMap textP).length : Nat) : Int) false s n (g ++ [⟨db, ts⟩])) r → Ev (fun k => larderref16_Eye_entry.l1 k x4 x5 (ts.length : Int) (j : Int) B (at_ : Int) false s n g db (ts.take j)) r := by
  intro d
  induction d with
  | zero =>
    intro j at_ hj hat e hr
    rw [List.drop_of_length_le (show ts.length ≤ j by omega), List.flatMap_nil, List.length_nil, Nat.add_zero] at hr
    rw [List.take_of_length_le (show ts.length ≤ j by omega)]
    refine Ev.step (fun k => ?_) hr
    simp only [larderref16_Eye_entry.l1]
    rw [if_neg (by omega), if_pos hg]
  | succ d ih =>
    intro j at_ hj hat e hr
    have hlt : j < ts.length := by omega
    rw [List.drop_eq_getElem_cons hlt, List.flatMap_cons] at e hr
    rw [List.append_assoc] at e
    have htj := ht ts[j] (List.getElem_mem hlt)
    have h1 := eye_text_app B at_ ts[j] _ hB hat e htj
    have hlen := congrArg List.length e
    rw [List.length_drop, List.length_append, textP_len] at hlen
    have e2 := drop_more e (textP_len ts[j])
    rw [List.length_append, textP_len, ← Nat.add_assoc] at hr
    have h2 := ih (j + 1) (at_ + (4 + ts[j].length)) (by omega) (by omega) e2 hr
    rw [List.take_succ_eq_append_getElem hlt] at h2
    refine Ev.step (f := fun k => (larderref16_Eye_text.f k B (at_ : Int) false).bind fun bt358 => (larderref16_Eye_entry.l1 k x4 x5 (ts.length : Int) ((j + 1 : Nat) : Int) B bt358.2.1 bt358.2.2 s n g db (ts.take j ++ [bt358.1]))) (fun k => ?_) (Ev.bind h1 h2)
    simp only [larderref16_Eye_entry.l1, Bool.false_eq_true, if_false]
    rw [if_pos (by omega), wrU j (by omega)]
    congr 1
    funext q
    rw [if_pos (by rw [List.length_take]; omega)]
theorem eye_group_app (B : List Int) (hB : small B) (s n : Int) (g : List S76) (hg : g.length ≤ 64) (ha : ∀ a ∈ g, 0 ≤ a.f0 ∧ a.f0 < 4 ∧ 1 ≤ a.f1.length ∧ a.f1.length ≤ 128 ∧ ∀ t ∈ a.f1, t.length ≤ 4096) :
    ∀ d i at_ : Nat, i + d = g.length → at_ ≤ B.length → B.drop at_ = (g.drop i).flatMap actP → Ev (fun k => larderref16_Eye_entry.l0 k (g.length : Int) (i : Int) B (at_ : Int) false s n (g.take i)) (s, n, g, ((at_ + ((g.drop i).flatMap actP).length : Nat) : Int), false) := by
  intro d
  induction d with
  | zero =>
    intro i at_ hi hat e
    rw [List.drop_of_length_le (show g.length ≤ i by omega), List.flatMap_nil, List.length_nil, Nat.add_zero, List.take_of_length_le (show g.length ≤ i by omega)]
    refine Ev.eqv 2 (f := fun _ => some (s, n, g, (at_ : Int), false)) (fun k => ?_) (Ev.now _)
    simp only [larderref16_Eye_entry.l0]
    rw [if_neg (by omega)]
    simp only [larderref16_Eye_entry.j1, Bool.false_eq_true, if_false]
  | succ d ih =>
    intro i at_ hi hat e
    have hlt : i < g.length := by omega
    obtain ⟨q1, q2, q3, q4, q5⟩ := ha g[i] (List.getElem_mem hlt)
    obtain ⟨m, hm⟩ := Int.eq_ofNat_of_zero_le q1
    rw [List.drop_eq_getElem_cons hlt, List.flatMap_cons] at e ⊢
    have e0 : B.drop at_ = be 1 m ++ (be 4 g[i].f1.length ++ (g[i].f1.flatMap textP ++ (g.drop (i + 1)).flatMap actP)) := by
      rw [e]; unfold actP; rw [hm, Int.toNat_natCast]; simp only [List.append_assoc]
    have hal : (actP g[i]).length = 5 + (g[i].f1.flatMap textP).length := by unfold actP; rw [List.length_append, List.length_append, be_len, be_len]; omega
    have hlen := congrArg List.length e
    rw [List.length_drop, List.length_append, hal] at hlen
    have h1 := eye_num_app B at_ 1 m _ false hB hat (by decide) (by omega) e0
    have e1 := drop_more e0 (be_len 1 m)
    have h2 := eye_num_app B (at_ + 1) 4 g[i].f1.length _ false hB (by omega) (by decide) (by omega) e1
    have e2 := drop_more e1 (be_len 4 _)
    have e3 := drop_more e2 rfl
    have h4 := ih (i + 1) (at_ + 1 + 4 + (g[i].f1.flatMap textP).length) (by omega) (by omega) e3
    rw [← wrU i (by omega), List.take_succ_eq_append_getElem hlt] at h4
    have hmk : g[i] = ⟨wrap64 (m : Int), g[i].f1⟩ := by
      rw [show wrap64 (m : Int) = (m : Int) by unfold wrap64; omega, ← hm]
    have h5 := eye_args_app B hB (g.length : Int) (i : Int) s n (wrap64 (m : Int)) (g.take i) (by rw [List.length_take]; omega) g[i].f1 q4 q5 _ (s, n, g, ((at_ + (actP g[i] ++ (g.drop (i + 1)).flatMap actP).length : Nat) : Int), false) g[i].f1.length 0 (at_ + 1 + 4) (by omega) (by omega) (by rw [List.drop_zero]; exact e2) (by
      rw [List.drop_zero, ← hmk]
      rw [show at_ + (actP g[i] ++ (g.drop (i + 1)).flatMap actP).length = at_ + 1 + 4 + (g[i].f1.flatMap textP).length + ((g.drop (i + 1)).flatMap actP).length by rw [List.length_append, hal]; omega]
      exact h4)
    refine Ev.step (fun k => ?_) (Ev.step (f := fun k => (larderref16_Eye_num.f k B (at_ : Int) false 1).bind fun bt349 => ((larderref16_Eye_num.f k B bt349.2.1 bt349.2.2 4).bind fun bt352 => (larderref16_Eye_entry.l1 k (g.length : Int) (i : Int) bt352.1 0 B bt352.2.1 bt352.2.2 s n (g.take i) (wrap64 (bt349.1)) ([] : List (List Int))))) (g := fun k => larderref16_Eye_entry.j1 k (g.length : Int) (i : Int) true B (at_ : Int) false s n (g.take i)) (fun k => by simp only [larderref16_Eye_entry.j1, if_true]) (Ev.bind h1 (Ev.bind h2 h5)))
    simp only [larderref16_Eye_entry.l0]
    rw [if_pos (by omega)]; rfl
theorem eye_entry_app (s n : Int) (g : List S76) (h : Good s n g) : ∃ a : Int, Ev (fun k => larderref16_Eye_entry.f k (bodyP s n g) 0 false) (s, n, g, a, false) := by
  obtain ⟨m1, m2, m3, m4, m5⟩ := may_acts h.may
  have hs := h.s1
  have hlen := good_len h
  have hB : small (bodyP s n g) := ⟨bodyP_bytes s n h.byt, by omega⟩
  obtain ⟨s', rfl⟩ := Int.eq_ofNat_of_zero_le (show 0 ≤ s by omega)
  obtain ⟨n', rfl⟩ := Int.eq_ofNat_of_zero_le h.n0
  have e0 : (bodyP (s' : Int) (n' : Int) g).drop 0 = be 8 s' ++ (be 8 n' ++ (be 4 g.length ++ g.flatMap actP)) := by
    rw [List.drop_zero]; unfold bodyP; rw [Int.toNat_natCast, Int.toNat_natCast]
  have hl2 := congrArg List.length e0
  simp only [List.length_drop, List.length_append, be_len] at hl2
  generalize bodyP (s' : Int) (n' : Int) g = B at *
  have h1 := eye_num_app B 0 8 s' _ false hB (by omega) (by decide) (by omega) e0
  have e1 := drop_more e0 (be_len 8 s')
  have h2 := eye_num_app B (0 + 8) 8 n' _ false hB (by omega) (by decide) (by omega) e1
  have e2 := drop_more e1 (be_len 8 n')
  have h3 := eye_num_app B (0 + 8 + 8) 4 g.length _ false hB (by omega) (by decide) (by omega) e2
  have e3 := drop_more e2 (be_len 4 _)
  have h4 := eye_group_app B hB (wrap64 (s' : Int)) (n' : Int) g m4 m5 g.length 0 (0 + 8 + 8 + 4) (by omega) (by omega) e3
  rw [show wrap64 (s' : Int) = (s' : Int) by unfold wrap64; omega] at h4
  refine ⟨((0 + 8 + 8 + 4 + ((g.drop 0).flatMap actP).length : Nat) : Int), ?_⟩
  unfold larderref16_Eye_entry.f
  refine Ev.bind h1 (Ev.bind h2 (Ev.bind h3 ?_))
  dsimp only
  rw [show wrap64 (s' : Int) = (s' : Int) by unfold wrap64; omega]
  exact h4
theorem one_unf (k : Nat) (l : List Int) (a1 : Int) (h : 0 ≤ a1 ∧ a1 ≤ (l.length : Int)) : larderref16_one.f k l a1 = (larderref16_Eye_num.f k l a1 false 1).bind fun x1 =>
    (larderref16_Eye_num.f k l x1.2.1 x1.2.2 8).bind fun x2 =>
    (larderref16_Eye_num.f k l x2.2.1 x2.2.2 8).bind fun x3 =>
    (larderref16_Eye_bytes.f l x3.2.1 x3.2.2 x2.1).bind fun b =>
    if b.2.2 = true then some (0, 0, [], 0) else
    (larderref16_Eye_entry.f k b.1 0 false).bind fun x => larderref16_one.g k l a1 x := by
  unfold larderref16_one.f; rw [if_pos h]
theorem one_is (l : List Int) (at_ : Nat) (hl : small l) (hat : at_ ≤ l.length) : ∃ r, Ev (fun k => larderref16_one.f k l (at_ : Int)) r ∧ Res (l.drop at_) r := by
  have zer : ∀ {g : Nat → Option (Int × Int × List S76 × Int)}, (∀ k, g k = some (0, 0, [], 0)) → Ev g (0, 0, [], 0) := fun h => Ev.congr (f := fun _ => some (0, 0, [], 0)) h (Ev.now _)
  by_cases hrec : ∃ s n g rest, Good s n g ∧ l.drop at_ = frameP (bodyP s n g) ++ rest
  · obtain ⟨s, n, g, rest, hg, e⟩ := hrec
    refine ⟨_, ?_, .inl ⟨s, n, g, rest, hg, e, rfl⟩⟩
    have hlen := good_len hg
    obtain ⟨a, hent⟩ := eye_entry_app s n g hg
    have hmay := may_is s n g
    rw [hg.may] at hmay
    have hline := ref_line_is s n g hg.s1 hg.n0 hg.byt
    rw [if_pos hg.may] at hline
    generalize bodyP s n g = b at *
    have c1 := crc_bd (headP b.length); have c2 := crc_bd b
    have hfl := frameP_len b
    have hfe := e
    rw [frame_app] at e
    have e0 : l.drop at_ = be 1 170 ++ (be 8 b.length ++ (be 8 (crc (headP b.length)).toNat ++ (b ++ (be 8 (crc b).toNat ++ (85 :: rest))))) := e
    have hll := congrArg List.length e0
    simp only [List.length_drop, List.length_append, be_len, List.length_cons] at hll
    have h1 := eye_num_app l at_ 1 170 _ false hl hat (by decide) (by decide) e0
    have e1 := drop_more e0 (be_len 1 170)
    have h2 := eye_num_app l (at_ + 1) 8 b.length _ false hl (by omega) (by decide) (by omega) e1
    have e2 := drop_more e1 (be_len 8 _)
    have h3 := eye_num_app l (at_ + 1 + 8) 8 (crc (headP b.length)).toNat _ false hl (by omega) (by decide) (by omega) e2
    have e3 := drop_more e2 (be_len 8 _)
    have h4 := eye_bytes l (at_ + 1 + 8 + 8) b.length false hl (by omega)
    rw [if_neg (by omega), e3, List.take_left] at h4
    refine Ev.congr (fun k => one_unf k l (at_ : Int) ⟨by omega, by omega⟩) (Ev.bind h1 (Ev.bind h2 (Ev.bind h3 ?_)))
    refine Ev.congr (f := fun k => (larderref16_Eye_entry.f k b 0 false).bind fun x => larderref16_one.g k l (at_ : Int) x) (fun k => ?_) (Ev.bind hent ?_)
    · dsimp only; rw [h4, Option.bind_some]; dsimp only; rw [if_neg (by decide)]
    · unfold larderref16_one.g
      refine Ev.congr (fun k => by dsimp only; rw [if_neg (by decide)]) (Ev.bind hmay (Ev.congr (fun k => by rw [if_neg (by decide)]) (Ev.bind hline ?_)))
      dsimp only
      have heq := eq_is (frameP b) ((l.drop (at_ : Int).toNat).take (frameP b).length) (by omega)
      rw [Int.toNat_natCast, hfe, List.take_left, decide_eq_true rfl] at heq
      refine Ev.congr (fun k => by rw [if_neg (by omega), if_neg (by omega), Int.toNat_natCast, hfe, List.take_left]) (Ev.bind heq (Ev.congr (f := fun _ => some (s, n, g, (b.length : Int) + 26)) (fun k => ?_) (Ev.now _)))
      rw [if_pos rfl, hfl]; rfl
  · refine ⟨(0, 0, [], 0), ?_, .inr ⟨fun s n g rest hg e => hrec ⟨s, n, g, rest, hg, e⟩, rfl⟩⟩
    have step : ∀ (a : Nat) (b : Bool) (z : Nat), a ≤ l.length → z ≤ 8 → ∃ (v : Nat) (a2 : Nat) (b2 : Bool), Ev (fun k => larderref16_Eye_num.f k l (a : Int) b (z : Int)) ((v : Int), ((a2 : Nat) : Int), b2) ∧ a2 ≤ l.length := fun a b z ha hz => by
      have h := eye_num l a z b hl ha hz
      by_cases hc : a + z ≤ l.length
      · rw [if_pos hc] at h; exact ⟨_, _, _, h, hc⟩
      · rw [if_neg hc] at h; exact ⟨0, l.length, true, h, Nat.le_refl _⟩
    obtain ⟨v1, a1, b1, h1, q1⟩ := step at_ false 1 hat (by decide)
    obtain ⟨v2, a2, b2, h2, q2⟩ := step a1 b1 8 q1 (by decide)
    obtain ⟨v3, a3, b3, h3, q3⟩ := step a2 b2 8 q2 (by decide)
    have h4 := eye_bytes l a3 v2 b3 hl q3
    obtain ⟨b, a4, b4, e4, hbb⟩ : ∃ (b : List Int) (a4 : Int) (b4 : Bool), (if l.length < a3 + v2 then ([], (a3 : Int), true) else ((l.drop a3).take v2, ((a3 + v2 : Nat) : Int), b3)) = (b, a4, b4) ∧ small b := by
      by_cases h : l.length < a3 + v2
      · rw [if_pos h]; exact ⟨_, _, _, rfl, fun x hx => (by cases hx), by simp⟩
      · rw [if_neg h]; exact ⟨_, _, _, rfl, small_drop hl _ _, by rw [List.length_take, List.length_drop]; have := hl.2; omega⟩
    rw [e4] at h4
    refine Ev.congr (fun k => one_unf k l (at_ : Int) ⟨by omega, by omega⟩) (Ev.bind h1 (Ev.bind h2 (Ev.bind h3 ?_)))
    cases b4 with
    | true => exact zer (fun k => by dsimp only; rw [h4, Option.bind_some]; dsimp only; rw [if_pos rfl])
    | false =>
      obtain ⟨s, n, g, at2, bad, hent, hgb, hn0, hs1⟩ := eye_entry b hbb
      refine Ev.congr (f := fun k => (larderref16_Eye_entry.f k b 0 false).bind fun x => larderref16_one.g k l (at_ : Int) x) (fun k => by dsimp only; rw [h4, Option.bind_some]; dsimp only; rw [if_neg (by decide)]) (Ev.bind hent ?_)
      unfold larderref16_one.g
      cases bad with
      | true => exact zer (fun k => by dsimp only; rw [if_pos rfl])
      | false =>
        refine Ev.congr (fun k => by dsimp only; rw [if_neg (by decide)]) (Ev.bind (may_is s n g) ?_)
        cases hm : mayB s n g with
        | false => exact zer (fun k => by rw [if_pos rfl])
        | true =>
          have hline := ref_line_is s n g hs1 hn0 hgb
          rw [if_pos hm] at hline
          have hgood : Good s n g := ⟨hm, hgb, hn0, hs1⟩
          have hlen := good_len hgood
          have hfl := frameP_len (bodyP s n g)
          refine Ev.congr (fun k => by rw [if_neg (by decide)]) (Ev.bind hline ?_)
          dsimp only
          by_cases hlt : (l.length : Int) - (at_ : Int) < ((frameP (bodyP s n g)).length : Int)
          · exact zer (fun k => by rw [if_neg (by omega), if_pos hlt])
          · have hne : ¬ frameP (bodyP s n g) = (l.drop (at_ : Int).toNat).take (frameP (bodyP s n g)).length := fun e => by
              rw [Int.toNat_natCast] at e
              refine hrec ⟨s, n, g, (l.drop at_).drop (frameP (bodyP s n g)).length, hgood, ?_⟩
              conv => rhs; lhs; rw [e]
              exact (List.take_append_drop _ _).symm
            have heq := eq_is (frameP (bodyP s n g)) ((l.drop (at_ : Int).toNat).take (frameP (bodyP s n g)).length) (by omega)
            rw [decide_eq_false hne] at heq
            exact Ev.congr (fun k => by rw [if_neg (by omega), if_neg hlt]) (Ev.bind heq (zer (fun k => by rw [if_neg (by decide)])))
end Go.Proofs.Ytdhkhjfjjbdkgaa.Rec
