/- Entries: what may be written, and their bytes, by the program and by the reference. An entry's bytes and its record: Line of the program and of the reference are one. -/
import Derived.Test.YtdhkhjfjjbdkgaaCrc
import Derived.Test.YtdhkhjfjjbdkgaaRLx1
import Derived.Test.YtdhkhjfjjbdkgaaRLx2b
namespace Go.Proofs.Ytdhkhjfjjbdkgaa.Rec
open Go.RowKit Go.Proofs.YtdhkhjfjjbdkgaaW.PrintWords Go.Proofs.YtdhkhjfjjbdkgaaW.PrintLast Go.Proofs.YtdhkhjfjjbdkgaaW.PrintMore
set_option linter.unusedVariables false
set_option linter.unusedSimpArgs false
def textB (t : List Int) : Bool := decide (t.length ≤ 4096)
def actB (a : S76) : Bool := decide (0 ≤ a.f0) && (decide (a.f0 < 4) && (decide (1 ≤ a.f1.length) && (decide (a.f1.length ≤ 128) && a.f1.all textB)))
def mayB (s n : Int) (g : List S76) : Bool := decide (1 ≤ s) && (decide (n ≤ 4503599627370496) && (decide (1 ≤ g.length) && (decide (g.length ≤ 64) && g.all actB)))
theorem rd_T76_get (g : List S76) (i : Nat) (h : i < g.length) : rd_T76 g (i : Int) = g[i] := by
  unfold rd_T76; rw [Int.toNat_natCast, List.getD_eq_getElem?_getD, List.getElem?_eq_getElem h]; rfl
theorem rd_L2_get (g : List (List Int)) (i : Nat) (h : i < g.length) : rd_L2 g (i : Int) = g[i] := by
  unfold rd_L2; rw [Int.toNat_natCast, List.getD_eq_getElem?_getD, List.getElem?_eq_getElem h]; rfl
theorem all_drop {α : Type} (p : α → Bool) (l : List α) (i : Nat) (h : i < l.length) : (l.drop i).all p = (p l[i] && (l.drop (i + 1)).all p) := by
  rw [List.drop_eq_getElem_cons h, List.all_cons]
theorem wr64 (i : Nat) (h : i < 9223372036854775807) : wrap64 ((i : Int) + 1) = ((i + 1 : Nat) : Int) := by unfold wrap64; omega
theorem w_texts (g : List S76) (glen x30 : Int) (ts : List (List Int)) (hl : ts.length ≤ 128) (R : Bool) (hR : Ev (fun k => record_writable.l0 k g glen (wrap64 (x30 + 1))) R) :
    ∀ d j : Nat, j + d = ts.length → Ev (fun k => record_writable.l1 k g glen x30 ts (ts.length : Int) (j : Int)) ((ts.drop j).all textB && R) := by
  intro d
  induction d with
  | zero =>
    intro j hj
    rw [List.drop_of_length_le (by omega)]
    refine Ev.step (fun k => ?_) hR
    conv => lhs; unfold record_writable.l1
    rw [if_neg (by omega)]
  | succ d ih =>
    intro j hj
    have hlt : j < ts.length := by omega
    rw [all_drop textB ts j hlt]
    by_cases hb : ts[j].length ≤ 4096
    · have e : textB ts[j] = true := by unfold textB; exact decide_eq_true hb
      rw [e, Bool.true_and]
      refine Ev.step (fun k => ?_) (ih (j + 1) (by omega))
      conv => lhs; unfold record_writable.l1
      rw [if_pos (by omega), if_pos (by omega), if_pos (by omega), rd_L2_get ts j hlt, if_neg (by omega), wr64 j (by omega)]
    · have e : textB ts[j] = false := by unfold textB; exact decide_eq_false hb
      rw [e, Bool.false_and, Bool.false_and]
      refine Ev.step (f := fun _ => some false) (fun k => ?_) (Ev.now _)
      conv => lhs; unfold record_writable.l1
      rw [if_pos (by omega), if_pos (by omega), if_pos (by omega), rd_L2_get ts j hlt, if_pos (by omega)]
theorem w_acts (g : List S76) (hl : g.length ≤ 64) :
    ∀ d i : Nat, i + d = g.length → Ev (fun k => record_writable.l0 k g (g.length : Int) (i : Int)) ((g.drop i).all actB) := by
  intro d
  induction d with
  | zero =>
    intro i hi
    rw [List.drop_of_length_le (by omega)]
    refine Ev.step (f := fun _ => some true) (fun k => ?_) (Ev.now _)
    conv => lhs; unfold record_writable.l0
    rw [if_neg (by omega)]
  | succ d ih =>
    intro i hi
    have hlt : i < g.length := by omega
    have hR := ih (i + 1) (by omega)
    rw [← wr64 i (by omega)] at hR
    rw [all_drop actB g i hlt]
    have st : ∀ k, record_writable.l0 (k + 1) g (g.length : Int) (i : Int) = (if g[i].f0 < 0 then (record_writable.j2 k g (g.length : Int) (i : Int) true g[i].f0 g[i].f1) else (if g[i].f0 ≥ 4 then (record_writable.j2 k g (g.length : Int) (i : Int) true g[i].f0 g[i].f1) else (if (g[i].f1.length : Int) < 1 then (record_writable.j2 k g (g.length : Int) (i : Int) true g[i].f0 g[i].f1) else (record_writable.j2 k g (g.length : Int) (i : Int) (decide ((g[i].f1.length : Int) > 128)) g[i].f0 g[i].f1)))) := fun k => by
      conv => lhs; unfold record_writable.l0
      rw [if_pos (by omega), if_pos (by omega), if_pos (by omega), rd_T76_get g i hlt]
    have bad : Ev (fun k => record_writable.j2 k g (g.length : Int) (i : Int) true g[i].f0 g[i].f1) false :=
      Ev.step (f := fun _ => some false) (fun k => by simp only [record_writable.j2, if_true]) (Ev.now _)
    have no : actB g[i] = false → (actB g[i] && (g.drop (i + 1)).all actB) = false := fun h => by rw [h, Bool.false_and]
    by_cases h1 : g[i].f0 < 0
    · rw [no (by unfold actB; rw [decide_eq_false (by omega)]; rfl)]
      exact Ev.step (fun k => by rw [st, if_pos h1]) bad
    by_cases h2 : g[i].f0 ≥ 4
    · rw [no (by unfold actB; rw [decide_eq_false (show ¬ g[i].f0 < 4 by omega)]; simp)]
      exact Ev.step (fun k => by rw [st, if_neg h1, if_pos h2]) bad
    by_cases h3 : (g[i].f1.length : Int) < 1
    · rw [no (by unfold actB; rw [decide_eq_false (show ¬ 1 ≤ g[i].f1.length by omega)]; simp)]
      exact Ev.step (fun k => by rw [st, if_neg h1, if_neg h2, if_pos h3]) bad
    by_cases h4 : (g[i].f1.length : Int) > 128
    · rw [no (by unfold actB; rw [decide_eq_false (show ¬ g[i].f1.length ≤ 128 by omega)]; simp)]
      exact Ev.step (fun k => by rw [st, if_neg h1, if_neg h2, if_neg h3, decide_eq_true h4]) bad
    · have e : actB g[i] = g[i].f1.all textB := by
        unfold actB
        rw [decide_eq_true (show 0 ≤ g[i].f0 by omega), decide_eq_true (show g[i].f0 < 4 by omega), decide_eq_true (show 1 ≤ g[i].f1.length by omega), decide_eq_true (show g[i].f1.length ≤ 128 by omega)]
        simp
      rw [e]
      refine Ev.step (fun k => by rw [st, if_neg h1, if_neg h2, if_neg h3, decide_eq_false h4]) ?_
      refine Ev.step (fun k => ?_) (w_texts g (g.length : Int) (i : Int) g[i].f1 (by omega) _ hR g[i].f1.length 0 (by omega))
      simp only [record_writable.j2, Bool.false_eq_true, if_false]; rfl
theorem writable_is (s n : Int) (g : List S76) : Ev (fun k => record_writable.f k s n g) (mayB s n g) := by
  have bad : Ev (fun k => record_writable.j0 k true s n g) false :=
    Ev.step (f := fun _ => some false) (fun k => by simp only [record_writable.j0, if_true]) (Ev.now _)
  unfold record_writable.f mayB
  by_cases h1 : s < 1
  · rw [decide_eq_false (show ¬ 1 ≤ s by omega), Bool.false_and]; exact Ev.congr (fun k => by rw [if_pos h1]) bad
  by_cases h2 : n > 4503599627370496
  · rw [decide_eq_false (show ¬ n ≤ 4503599627370496 by omega), Bool.false_and, Bool.and_false]; exact Ev.congr (fun k => by rw [if_neg h1, if_pos h2]) bad
  by_cases h3 : (g.length : Int) < 1
  · rw [decide_eq_false (show ¬ 1 ≤ g.length by omega), Bool.false_and, Bool.and_false, Bool.and_false]; exact Ev.congr (fun k => by rw [if_neg h1, if_neg h2, if_pos h3]) bad
  by_cases h4 : (g.length : Int) > 64
  · rw [decide_eq_false (show ¬ g.length ≤ 64 by omega), Bool.false_and, Bool.and_false, Bool.and_false, Bool.and_false]; exact Ev.congr (fun k => by rw [if_neg h1, if_neg h2, if_neg h3, decide_eq_true h4]) bad
  · rw [decide_eq_true (show 1 ≤ s by omega), decide_eq_true (show n ≤ 4503599627370496 by omega), decide_eq_true (show 1 ≤ g.length by omega), decide_eq_true (show g.length ≤ 64 by omega)]
    simp only [Bool.true_and]
    refine Ev.congr (fun k => by rw [if_neg h1, if_neg h2, if_neg h3, decide_eq_false h4]) ?_
    refine Ev.step (fun k => ?_) (w_acts g (by omega) g.length 0 (by omega))
    simp only [record_writable.j0, Bool.false_eq_true, if_false]; rfl
end Go.Proofs.Ytdhkhjfjjbdkgaa.Rec
namespace Go.Proofs.Ytdhkhjfjjbdkgaa.Rec
open Go.RowKit Go.Proofs.YtdhkhjfjjbdkgaaW.PrintWords Go.Proofs.YtdhkhjfjjbdkgaaW.PrintLast Go.Proofs.YtdhkhjfjjbdkgaaW.PrintMore
set_option linter.unusedVariables false
set_option linter.unusedSimpArgs false
def textP (t : List Int) : List Int := be 4 t.length ++ t
def actP (a : S76) : List Int := be 1 a.f0.toNat ++ (be 4 a.f1.length ++ a.f1.flatMap textP)
def bodyP (s n : Int) (g : List S76) : List Int := be 8 s.toNat ++ (be 8 n.toNat ++ (be 4 g.length ++ g.flatMap actP))
def headP (n : Nat) : List Int := 170 :: be 8 n
def frameP (b : List Int) : List Int := headP b.length ++ (be 8 (crc (headP b.length)).toNat ++ (b ++ (be 8 (crc b).toNat ++ [85])))
def BytesG (g : List S76) : Prop := ∀ a ∈ g, ∀ t ∈ a.f1, Bytes t
theorem flat_len_le {α β : Type} (f : α → List β) (M : Nat) : ∀ (l : List α), (∀ x ∈ l, (f x).length ≤ M) → (l.flatMap f).length ≤ l.length * M
  | [], _ => by simp
  | x :: l, h => by
    rw [List.flatMap_cons, List.length_append, List.length_cons, Nat.succ_mul]
    have h1 := h x (by simp); have h2 := flat_len_le f M l (fun y hy => h y (by simp [hy]))
    omega
theorem textP_len (t : List Int) : (textP t).length = 4 + t.length := by unfold textP; rw [List.length_append, be_len]
theorem may_acts {s n : Int} {g : List S76} (h : mayB s n g = true) : 1 ≤ s ∧ n ≤ 4503599627370496 ∧ 1 ≤ g.length ∧ g.length ≤ 64 ∧ ∀ a ∈ g, 0 ≤ a.f0 ∧ a.f0 < 4 ∧ 1 ≤ a.f1.length ∧ a.f1.length ≤ 128 ∧ ∀ t ∈ a.f1, t.length ≤ 4096 := by
  unfold mayB at h
  simp only [Bool.and_eq_true, decide_eq_true_eq, List.all_eq_true] at h
  obtain ⟨h1, h2, h3, h4, h5⟩ := h
  refine ⟨h1, h2, h3, h4, fun a ha => ?_⟩
  have := h5 a ha
  unfold actB at this
  simp only [Bool.and_eq_true, decide_eq_true_eq, List.all_eq_true] at this
  obtain ⟨q1, q2, q3, q4, q5⟩ := this
  exact ⟨q1, q2, q3, q4, fun t ht => by have := q5 t ht; unfold textB at this; exact of_decide_eq_true this⟩
theorem actP_len {a : S76} (h4 : a.f1.length ≤ 128) (h5 : ∀ t ∈ a.f1, t.length ≤ 4096) : (actP a).length ≤ 524805 := by
  unfold actP
  rw [List.length_append, List.length_append, be_len, be_len]
  have := flat_len_le textP 4100 a.f1 (fun t ht => by rw [textP_len]; have := h5 t ht; omega)
  omega
theorem acts_len {g : List S76} (hl : g.length ≤ 64) (h : ∀ a ∈ g, 0 ≤ a.f0 ∧ a.f0 < 4 ∧ 1 ≤ a.f1.length ∧ a.f1.length ≤ 128 ∧ ∀ t ∈ a.f1, t.length ≤ 4096) : (g.flatMap actP).length ≤ 33587520 := by
  have := flat_len_le actP 524805 g (fun a ha => actP_len (h a ha).2.2.2.1 (h a ha).2.2.2.2)
  omega
theorem bodyP_len {s n : Int} {g : List S76} (h : mayB s n g = true) : (bodyP s n g).length ≤ 33587540 := by
  obtain ⟨h1, h2, h3, h4, h5⟩ := may_acts h
  unfold bodyP
  rw [List.length_append, List.length_append, List.length_append, be_len, be_len, be_len]
  have := acts_len h4 h5
  omega
theorem bytes_app {a b : List Int} (ha : Bytes a) (hb : Bytes b) : Bytes (a ++ b) := fun x hx => by
  rcases List.mem_append.1 hx with h | h
  · exact ha x h
  · exact hb x h
theorem bytes_flat {α : Type} (f : α → List Int) (l : List α) (h : ∀ x ∈ l, Bytes (f x)) : Bytes (l.flatMap f) := fun x hx => by
  obtain ⟨a, ha, hx⟩ := List.mem_flatMap.1 hx
  exact h a ha x hx
theorem bodyP_bytes (s n : Int) {g : List S76} (h : BytesG g) : Bytes (bodyP s n g) :=
  bytes_app (be_bytes _ _) (bytes_app (be_bytes _ _) (bytes_app (be_bytes _ _) (bytes_flat _ _ (fun a ha => bytes_app (be_bytes _ _) (bytes_app (be_bytes _ _) (bytes_flat _ _ (fun t ht => bytes_app (be_bytes _ _) (h a ha t ht))))))))
theorem headP_bytes (n : Nat) : Bytes (headP n) := fun x hx => by
  rcases List.mem_cons.1 hx with rfl | hx
  · omega
  · exact be_bytes _ _ x hx
theorem headP_len (n : Nat) : (headP n).length = 9 := by unfold headP; rw [List.length_cons, be_len]
theorem frameP_len (b : List Int) : (frameP b).length = b.length + 26 := by
  unfold frameP
  simp only [List.length_append, headP_len, be_len, List.length_cons, List.length_nil]
  omega
theorem mod32 (n : Nat) (h : n < 4294967296) : (n : Int) % 4294967296 = (n : Int) := by omega
theorem putText_is (b t : List Int) (hb : b.length ≤ 1000000000) (ht : t.length ≤ 4096) : Ev (fun k => record_putText.f k b t) (b ++ textP t) := by
  unfold record_putText.f
  refine Ev.bind (a := b ++ be 4 t.length) ?_ ?_
  · rw [mod32 _ (by omega)]; exact put32_is b 4 t.length (by decide) (by omega)
  · refine Ev.congr (f := fun _ => some (b ++ textP t)) (fun k => ?_) (Ev.now _)
    rw [if_pos (by rw [List.length_append, be_len]; omega), List.append_assoc]; rfl
theorem b_texts (g : List S76) (glen x25 : Int) (ts : List (List Int)) (hl : ts.length ≤ 128) (ht : ∀ t ∈ ts, t.length ≤ 4096) (R : List Int) :
    ∀ d j : Nat, ∀ b : List Int, j + d = ts.length → b.length + ((ts.drop j).flatMap textP).length ≤ 1000000000 → Ev (fun k => record_body.l0 k (b ++ (ts.drop j).flatMap textP) g glen (wrap64 (x25 + 1))) R → Ev (fun k => record_body.l1 k b g glen x25 ts (ts.length : Int) (j : Int)) R := by
  intro d
  induction d with
  | zero =>
    intro j b hj _ hR
    rw [List.drop_of_length_le (by omega), List.flatMap_nil, List.append_nil] at hR
    refine Ev.step (fun k => ?_) hR
    conv => lhs; unfold record_body.l1
    rw [if_neg (by omega)]
  | succ d ih =>
    intro j b hj hb hR
    have hlt : j < ts.length := by omega
    rw [List.drop_eq_getElem_cons hlt, List.flatMap_cons] at hR hb
    rw [← List.append_assoc] at hR
    rw [List.length_append] at hb
    have htj := ht ts[j] (List.getElem_mem hlt)
    refine Ev.step (f := fun k => (record_putText.f k b ts[j]).bind fun t139 => (record_body.l1 k t139 g glen x25 ts (ts.length : Int) ((j + 1 : Nat) : Int))) (fun k => ?_) (Ev.bind (putText_is b ts[j] (by omega) htj) (ih (j + 1) (b ++ textP ts[j]) (by omega) (by rw [List.length_append]; omega) hR))
    conv => lhs; unfold record_body.l1
    rw [if_pos (by omega), if_pos (by omega), if_pos (by omega), rd_L2_get ts j hlt, wr64 j (by omega)]
theorem be1 (m : Nat) (h : m < 256) : be 1 m = [(m : Int)] := by simp [be, Nat.mod_eq_of_lt h]
theorem b_acts (g : List S76) (hl : g.length ≤ 64) (ha : ∀ a ∈ g, 0 ≤ a.f0 ∧ a.f0 < 4 ∧ 1 ≤ a.f1.length ∧ a.f1.length ≤ 128 ∧ ∀ t ∈ a.f1, t.length ≤ 4096) :
    ∀ d i : Nat, ∀ b : List Int, i + d = g.length → b.length + ((g.drop i).flatMap actP).length ≤ 1000000000 → Ev (fun k => record_body.l0 k b g (g.length : Int) (i : Int)) (b ++ (g.drop i).flatMap actP) := by
  intro d
  induction d with
  | zero =>
    intro i b hi _
    rw [List.drop_of_length_le (by omega), List.flatMap_nil, List.append_nil]
    refine Ev.step (f := fun _ => some b) (fun k => ?_) (Ev.now _)
    conv => lhs; unfold record_body.l0
    rw [if_neg (by omega)]
  | succ d ih =>
    intro i b hi hb
    have hlt : i < g.length := by omega
    rw [List.drop_eq_getElem_cons hlt, List.flatMap_cons] at hb ⊢
    rw [List.length_append] at hb
    obtain ⟨q1, q2, q3, q4, q5⟩ := ha g[i] (List.getElem_mem hlt)
    obtain ⟨m, hm⟩ := Int.eq_ofNat_of_zero_le q1
    have hm4 : m < 4 := by omega
    have hal : (actP g[i]).length = 5 + (g[i].f1.flatMap textP).length := by unfold actP; rw [List.length_append, List.length_append, be_len, be_len]; omega
    have e : b ++ (actP g[i] ++ (g.drop (i + 1)).flatMap actP) = (b ++ be 1 m ++ be 4 g[i].f1.length ++ (g[i].f1.drop 0).flatMap textP) ++ (g.drop (i + 1)).flatMap actP := by
      unfold actP
      rw [List.drop_zero, hm, Int.toNat_natCast]
      simp only [List.append_assoc]
    have hR := ih (i + 1) (b ++ be 1 m ++ be 4 g[i].f1.length ++ (g[i].f1.drop 0).flatMap textP) (by omega) (by simp only [List.length_append, be_len, List.drop_zero]; omega)
    rw [← e] at hR
    rw [← wr64 i (by omega)] at hR
    have h1 := b_texts g (g.length : Int) (i : Int) g[i].f1 q4 q5 _ g[i].f1.length 0 (b ++ be 1 m ++ be 4 g[i].f1.length) (by omega) (by simp only [List.length_append, be_len, List.drop_zero]; omega) hR
    refine Ev.step (f := fun k => (record_put_uint8.f k b 1 (m : Int)).bind fun t132 => ((record_put_uint32.f k t132 4 (g[i].f1.length : Int)).bind fun t135 => (record_body.l1 k t135 g (g.length : Int) (i : Int) g[i].f1 (g[i].f1.length : Int) 0))) (fun k => ?_) (Ev.bind (put8_is b m (by omega) (by omega)) (Ev.bind (put32_is (b ++ be 1 m) 4 g[i].f1.length (by decide) (by rw [List.length_append, be_len]; omega)) h1))
    conv => lhs; unfold record_body.l0
    rw [if_pos (by omega), if_pos (by omega), if_pos (by omega), rd_T76_get g i hlt, mod32 _ (by omega), show g[i].f0 % 256 = (m : Int) by omega]
theorem body_is (s n : Int) (g : List S76) (h : mayB s n g = true) (hs : s < 9223372036854775808) (hn : 0 ≤ n) : Ev (fun k => record_body.f k s n g) (bodyP s n g) := by
  obtain ⟨h1, h2, h3, h4, h5⟩ := may_acts h
  have hal := acts_len h4 h5
  obtain ⟨s', rfl⟩ := Int.eq_ofNat_of_zero_le (show 0 ≤ s by omega)
  obtain ⟨n', rfl⟩ := Int.eq_ofNat_of_zero_le hn
  have e1 := put64_is [] 8 s' (by decide) (by simp)
  rw [List.nil_append] at e1
  have e2 := put64_is (be 8 s') 8 n' (by decide) (by rw [be_len]; omega)
  have e3 := put32_is (be 8 s' ++ be 8 n') 4 g.length (by decide) (by simp only [List.length_append, be_len]; omega)
  have e4 := b_acts g h4 h5 g.length 0 (be 8 s' ++ be 8 n' ++ be 4 g.length) (by omega) (by simp only [List.length_append, be_len, List.drop_zero]; omega)
  unfold record_body.f
  rw [show IntKind.u64.wrap (s' : Int) = (s' : Int) by rw [IntKind.wrap_u64]; omega, mod32 _ (by omega)]
  have := Ev.bind e1 (f := fun k t121 => (record_put_uint64.f k t121 8 (n' : Int)).bind fun t124 => ((record_put_uint32.f k t124 4 (g.length : Int)).bind fun t127 => (record_body.l0 k t127 g (g.length : Int) 0))) (Ev.bind e2 (Ev.bind e3 e4))
  rw [show be 8 s' ++ be 8 n' ++ be 4 g.length ++ (g.drop 0).flatMap actP = bodyP (s' : Int) (n' : Int) g by unfold bodyP; rw [List.drop_zero, Int.toNat_natCast, Int.toNat_natCast]; simp only [List.append_assoc]] at this
  exact this
theorem line_is (s n : Int) (g : List S76) (hs : s < 9223372036854775808) (hn : 0 ≤ n) (hg : BytesG g) : Ev (fun k => record_Line.f k s n g) (if mayB s n g = true then (frameP (bodyP s n g), 0) else ([], 162)) := by
  unfold record_Line.f
  refine Ev.bind (writable_is s n g) ?_
  cases h : mayB s n g with
  | false => exact Ev.congr (f := fun _ => some ([], 162)) (fun k => by rw [if_neg (by decide)]) (Ev.now _)
  | true =>
    rw [if_pos rfl]
    refine Ev.congr (fun k => by rw [if_pos rfl]) (Ev.bind (body_is s n g h hs hn) ?_)
    have hb := bodyP_len h
    have hbb := bodyP_bytes s n hg
    generalize bodyP s n g = b at hb hbb
    have hc1 := crc_bd (headP b.length)
    have hc2 := crc_bd b
    have e1 := put64_is [170] 8 b.length (by decide) (by simp)
    have eh : [170] ++ be 8 b.length = headP b.length := rfl
    rw [eh] at e1
    have es : word_Sum.f (headP b.length) = some (crc (headP b.length)) := sum_is _ (headP_bytes _) (by rw [headP_len]; decide)
    have es2 : word_Sum.f b = some (crc b) := sum_is _ hbb (by omega)
    obtain ⟨c1, hc1'⟩ := Int.eq_ofNat_of_zero_le hc1.1
    obtain ⟨c2, hc2'⟩ := Int.eq_ofNat_of_zero_le hc2.1
    have e2 := put64_is (headP b.length) 8 c1 (by decide) (by rw [headP_len]; omega)
    have e3 := put64_is (headP b.length ++ be 8 c1 ++ b) 8 c2 (by decide) (by simp only [List.length_append, be_len, headP_len]; omega)
    rw [show IntKind.u64.wrap (b.length : Int) = (b.length : Int) by rw [IntKind.wrap_u64]; omega]
    refine Ev.bind e1 ?_
    refine Ev.congr (fun k => by rw [es, Option.bind_some, hc1']; rfl) (Ev.bind e2 ?_)
    refine Ev.congr (fun k => by rw [if_pos (by simp only [List.length_append, be_len, headP_len]; omega), es2, Option.bind_some, hc2']; rfl) (Ev.bind e3 ?_)
    refine Ev.congr (f := fun _ => some (frameP b, 0)) (fun k => ?_) (Ev.now _)
    rw [if_pos (by simp only [List.length_append, be_len, headP_len]; omega)]
    unfold frameP
    rw [hc1', hc2', Int.toNat_natCast, Int.toNat_natCast]
    simp only [List.append_assoc]
end Go.Proofs.Ytdhkhjfjjbdkgaa.Rec
