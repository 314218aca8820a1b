/- What parse makes of bytes: an entry's own bytes, or nothing. What first tells: the record at the front, or nothing. -/
import Derived.Test.YtdhkhjfjjbdkgaaLin
import Derived.Test.YtdhkhjfjjbdkgaaFirst
namespace Go.Proofs.Ytdhkhjfjjbdkgaa.Rec
open Go.RowKit Go.Proofs.YtdhkhjfjjbdkgaaW.PrintWords Go.Proofs.YtdhkhjfjjbdkgaaW.PrintLast Go.Proofs.YtdhkhjfjjbdkgaaW.PrintMore
set_option linter.unusedVariables false
set_option linter.unusedSimpArgs false
theorem bytes_left {a b : List Int} (h : Bytes (a ++ b)) : Bytes a := fun x hx => h x (by simp [hx])
theorem bytes_right {a b : List Int} (h : Bytes (a ++ b)) : Bytes b := fun x hx => h x (by simp [hx])
theorem rcut_inv {l x l' : List Int} {b : Bool} {n : Nat} (h : rcut l b n = (x, l', false)) : b = false ∧ l = x ++ l' ∧ x.length = n := by
  unfold rcut at h
  split at h
  · simp at h
  · rename_i hc
    simp only [Prod.mk.injEq] at h
    obtain ⟨rfl, rfl, _⟩ := h
    refine ⟨by cases b <;> simp_all, (List.take_append_drop n l).symm, ?_⟩
    rw [List.length_take]
    have : ¬ l.length < n := fun h => hc (.inr h)
    omega
theorem rcut_app (x l' : List Int) : rcut (x ++ l') false x.length = (x, l', false) := by
  unfold rcut
  rw [if_neg (by simp)]
  simp
theorem numOf_be (s n : Nat) (hs : s ≤ 8) (hn : n < 256 ^ s) : numOf (be s n) = (n : Int) := by
  rw [numOf_val _ (be_bytes s n) (by rw [be_len]; exact hs), val_be_lt s n hn]
theorem be_numOf {x : List Int} {s : Nat} (hx : Bytes x) (hl : x.length = s) (hs : s ≤ 8) : x = be s (numOf x).toNat := by
  subst hl
  rw [numOf_val x hx hs, Int.toNat_natCast, be_val x hx]
theorem numOf_lt {x : List Int} {s : Nat} (hx : Bytes x) (hl : x.length = s) (hs : s ≤ 8) : (numOf x).toNat < 256 ^ s := by
  subst hl
  rw [numOf_val x hx hs, Int.toNat_natCast]; exact val_lt x hx
theorem rtext_inv {l x l' : List Int} {b : Bool} (hb : Bytes l) (h : rtext l b = (x, l', false)) : b = false ∧ l = textP x ++ l' ∧ x.length ≤ 4096 := by
  unfold rtext at h
  obtain ⟨h1, h2, h3⟩ := rcut_inv h
  rw [Bool.or_eq_false_iff] at h1
  have hq : rcut l b 4 = ((rcut l b 4).1, (rcut l b 4).2.1, false) := by rw [← h1.1]
  obtain ⟨k1, k2, k3⟩ := rcut_inv hq
  generalize (rcut l b 4).1 = y at *
  generalize (rcut l b 4).2.1 = l1 at *
  have hy : Bytes y := bytes_left (by rw [← k2]; exact hb)
  have hlt := numOf_lt hy k3 (by decide)
  have hbd := numOf_bd y
  have h4 : ¬ (4096 < numOf y % 4294967296) := of_decide_eq_false h1.2
  have e : (numOf y % 4294967296).toNat = (numOf y).toNat := by omega
  rw [e] at h3
  refine ⟨k1, ?_, by omega⟩
  rw [k2, h2]
  unfold textP
  rw [h3, ← be_numOf hy k3 (by decide), List.append_assoc]
theorem pArgs_inv : ∀ (n : Nat) (acc as_ : List (List Int)) (l l' : List Int) (b : Bool), Bytes l → pArgs n acc l b = (as_, l', false) → ∃ new, as_ = acc ++ new ∧ new.length = n ∧ b = false ∧ l = new.flatMap textP ++ l' ∧ ∀ t ∈ new, t.length ≤ 4096
  | 0, acc, as_, l, l', b, hb, h => by
    unfold pArgs at h
    simp only [Prod.mk.injEq] at h
    obtain ⟨rfl, rfl, rfl⟩ := h
    exact ⟨[], by simp, rfl, rfl, by simp, by simp⟩
  | n + 1, acc, as_, l, l', b, hb, h => by
    unfold pArgs at h
    have hb2 : Bytes (rtext l b).2.1 := by
      unfold rtext rcut
      repeat' split
      all_goals first | exact hb | exact fun x hx => hb x (List.mem_of_mem_drop hx) | exact fun x hx => hb x (List.mem_of_mem_drop (List.mem_of_mem_drop hx)) | exact fun x hx => hb x (by simp only at hx; first | exact hx | exact List.mem_of_mem_drop hx | exact List.mem_of_mem_drop (List.mem_of_mem_drop hx))
    obtain ⟨new, h1, h2, h3, h4, h5⟩ := pArgs_inv n _ as_ _ l' _ hb2 h
    have hq : rtext l b = ((rtext l b).1, (rtext l b).2.1, false) := by rw [← h3]
    obtain ⟨k1, k2, k3⟩ := rtext_inv hb hq
    refine ⟨(rtext l b).1 :: new, by rw [h1]; simp, by simp [h2], k1, ?_, ?_⟩
    · rw [List.flatMap_cons, List.append_assoc, ← h4]; exact k2
    · intro t ht
      rcases List.mem_cons.1 ht with rfl | ht
      · exact k3
      · exact h5 t ht
theorem pAct_inv {l l' : List Int} {b : Bool} {a : S76} (hb : Bytes l) (h : pAct l b = (a, l', false)) (ha : a.f1.length ≤ 128) : b = false ∧ l = actP a ++ l' ∧ 0 ≤ a.f0 ∧ a.f0 < 256 := by
  unfold pAct at h
  simp only [Prod.mk.injEq] at h
  obtain ⟨hA, hL, hB⟩ := h
  generalize hd : rcut l b 1 = d at *
  obtain ⟨x, l1, b1⟩ := d
  generalize hm : rcut l1 b1 4 = m at *
  obtain ⟨y, l2, b2⟩ := m
  dsimp only at hA hL hB
  generalize hp : pArgs (pMany y 129) [] l2 b2 = p at *
  obtain ⟨as_, l3, b3⟩ := p
  dsimp only at hA hL hB
  subst hL; subst hB
  have by1 : Bytes l1 := by
    unfold rcut at hd; split at hd
    · simp only [Prod.mk.injEq] at hd; rw [← hd.2.1]; exact hb
    · simp only [Prod.mk.injEq] at hd; rw [← hd.2.1]; exact fun x hx => hb x (List.mem_of_mem_drop hx)
  have by2 : Bytes l2 := by
    unfold rcut at hm; split at hm
    · simp only [Prod.mk.injEq] at hm; rw [← hm.2.1]; exact by1
    · simp only [Prod.mk.injEq] at hm; rw [← hm.2.1]; exact fun x hx => by1 x (List.mem_of_mem_drop hx)
  obtain ⟨new, h1, h2, h3, h4, h5⟩ := pArgs_inv _ _ _ _ _ _ by2 hp
  rw [List.nil_append] at h1
  subst h1; subst h3
  obtain ⟨k1, k2, k3⟩ := rcut_inv hm
  subst k1
  obtain ⟨j1, j2, j3⟩ := rcut_inv hd
  subst j1
  have hx : Bytes x := bytes_left (by rw [← j2]; exact hb)
  have hy : Bytes y := bytes_left (by rw [← k2]; exact by1)
  have hylt := numOf_lt hy k3 (by decide)
  have hxlt := numOf_lt hx j3 (by decide)
  have hybd := numOf_bd y
  have hxbd := numOf_bd x
  subst hA
  dsimp only at ha ⊢
  have hmany := pMany_is y 129 (by decide)
  have hy2 : as_.length = (numOf y).toNat := by
    unfold mn at hmany
    have hle := hmany.1
    rw [h2] at ha
    split at hle <;> omega
  refine ⟨rfl, ?_, by omega, by omega⟩
  unfold actP
  dsimp only
  rw [show (numOf x % 256).toNat = (numOf x).toNat by omega, ← be_numOf hx j3 (by decide), hy2, ← be_numOf hy k3 (by decide), j2, k2, h4]
  simp only [List.append_assoc]
theorem rcut_bytes {l : List Int} {b : Bool} {n : Nat} (h : Bytes l) : Bytes (rcut l b n).2.1 ∧ Bytes (rcut l b n).1 := by
  unfold rcut
  split
  · exact ⟨h, fun x hx => by cases hx⟩
  · exact ⟨fun x hx => h x (List.mem_of_mem_drop hx), fun x hx => h x (List.mem_of_mem_take hx)⟩
theorem rtext_bytes {l : List Int} {b : Bool} (h : Bytes l) : Bytes (rtext l b).2.1 ∧ Bytes (rtext l b).1 := by
  unfold rtext; exact rcut_bytes (rcut_bytes h).1
theorem pArgs_bytes : ∀ (n : Nat) (acc : List (List Int)) (l : List Int) (b : Bool), Bytes l → (∀ t ∈ acc, Bytes t) → Bytes (pArgs n acc l b).2.1 ∧ ∀ t ∈ (pArgs n acc l b).1, Bytes t
  | 0, acc, l, b, h, ha => ⟨h, ha⟩
  | n + 1, acc, l, b, h, ha => by
    unfold pArgs
    refine pArgs_bytes n _ _ _ (rtext_bytes h).1 (fun t ht => ?_)
    rcases List.mem_append.1 ht with ht | ht
    · exact ha t ht
    · rw [List.mem_singleton.1 ht]; exact (rtext_bytes h).2
theorem pAct_bytes {l : List Int} {b : Bool} (h : Bytes l) : Bytes (pAct l b).2.1 ∧ ∀ t ∈ (pAct l b).1.f1, Bytes t := by
  unfold pAct
  exact pArgs_bytes _ _ _ _ (rcut_bytes (rcut_bytes h).1).1 (by simp)
theorem pGroup_bytes : ∀ (n : Nat) (acc : List S76) (l : List Int) (b : Bool), Bytes l → BytesG acc → BytesG (pGroup n acc l b).1
  | 0, acc, l, b, h, ha => ha
  | n + 1, acc, l, b, h, ha => by
    unfold pGroup
    refine pGroup_bytes n _ _ _ (pAct_bytes h).1 (fun a ha' => ?_)
    rcases List.mem_append.1 ha' with ha' | ha'
    · exact ha a ha'
    · rw [List.mem_singleton.1 ha']; exact (pAct_bytes h).2
theorem pGroup_inv : ∀ (n : Nat) (acc gs : List S76) (l l' : List Int) (b : Bool), Bytes l → pGroup n acc l b = (gs, l', false) → (∀ a ∈ gs, a.f1.length ≤ 128) → ∃ new, gs = acc ++ new ∧ new.length = n ∧ b = false ∧ l = new.flatMap actP ++ l'
  | 0, acc, gs, l, l', b, hb, h, _ => by
    unfold pGroup at h
    simp only [Prod.mk.injEq] at h
    obtain ⟨rfl, rfl, rfl⟩ := h
    exact ⟨[], by simp, rfl, rfl, by simp⟩
  | n + 1, acc, gs, l, l', b, hb, h, hg => by
    unfold pGroup at h
    obtain ⟨new, h1, h2, h3, h4⟩ := pGroup_inv n _ gs _ l' _ (pAct_bytes hb).1 h hg
    have hq : pAct l b = ((pAct l b).1, (pAct l b).2.1, false) := by rw [← h3]
    obtain ⟨k1, k2, _⟩ := pAct_inv hb hq (hg _ (by rw [h1]; simp))
    refine ⟨(pAct l b).1 :: new, by rw [h1]; simp, by simp [h2], k1, ?_⟩
    rw [List.flatMap_cons, List.append_assoc, ← h4]; exact k2
theorem parse_inv {l : List Int} {s n : Int} {g : List S76} (hb : Bytes l) (h : record_parse.g l = (s, n, g, [], false)) (hm : mayB s n g = true) : l = bodyP s n g ∧ BytesG g ∧ 0 ≤ n ∧ s < 9223372036854775808 := by
  obtain ⟨m1, m2, m3, m4, m5⟩ := may_acts hm
  unfold record_parse.g at h
  simp only [Prod.mk.injEq] at h
  obtain ⟨hs, hn, hG, hL, hB⟩ := h
  have B1 := (rcut_bytes (b := false) (n := 8) hb)
  generalize h1 : rcut l false 8 = q1 at *
  obtain ⟨x1, l1, b1⟩ := q1
  dsimp only at *
  have B2 := (rcut_bytes (b := b1) (n := 8) B1.1)
  generalize h2 : rcut l1 b1 8 = q2 at *
  obtain ⟨x2, l2, b2⟩ := q2
  dsimp only at *
  have B3 := (rcut_bytes (b := b2) (n := 4) B2.1)
  generalize h3 : rcut l2 b2 4 = q3 at *
  obtain ⟨x3, l3, b3⟩ := q3
  dsimp only at *
  have hgb := pGroup_bytes (pMany x3 65) [] l3 b3 B3.1 (by intro a ha; cases ha)
  generalize hp : pGroup (pMany x3 65) [] l3 b3 = p at *
  obtain ⟨gs, l4, b4⟩ := p
  dsimp only at *
  subst hG; subst hL; subst hB
  obtain ⟨new, e1, e2, e3, e4⟩ := pGroup_inv _ _ _ _ _ _ B3.1 hp (fun a ha => (m5 a ha).2.2.2.1)
  rw [List.nil_append] at e1
  subst e1; subst e3
  obtain ⟨k1, k2, k3⟩ := rcut_inv h3
  subst k1
  obtain ⟨j1, j2, j3⟩ := rcut_inv h2
  subst j1
  obtain ⟨_, i2, i3⟩ := rcut_inv h1
  have lt1 := numOf_lt B1.2 i3 (by decide)
  have lt2 := numOf_lt B2.2 j3 (by decide)
  have lt3 := numOf_lt B3.2 k3 (by decide)
  have bd1 := numOf_bd x1
  have bd2 := numOf_bd x2
  have bd3 := numOf_bd x3
  have hmany := (pMany_is x3 65 (by decide)).1
  have hy2 : gs.length = (numOf x3).toNat := by
    unfold mn at hmany
    split at hmany <;> omega
  refine ⟨?_, hgb, by omega, by rw [← hs]; unfold wrap64; omega⟩
  unfold bodyP
  have es : s.toNat = (numOf x1).toNat := by rw [← hs] at m1 ⊢; unfold wrap64 at m1 ⊢; omega
  rw [es, ← be_numOf B1.2 i3 (by decide), ← hn, ← be_numOf B2.2 j3 (by decide), hy2, ← be_numOf B3.2 k3 (by decide), i2, j2, k2, e4, List.append_nil]
theorem rtext_app (t l' : List Int) (ht : t.length ≤ 4096) : rtext (textP t ++ l') false = (t, l', false) := by
  unfold rtext
  have h4 : rcut (textP t ++ l') false 4 = (be 4 t.length, t ++ l', false) := by
    unfold textP
    rw [List.append_assoc]
    have := rcut_app (be 4 t.length) (t ++ l')
    rwa [be_len] at this
  rw [h4]
  dsimp only
  rw [numOf_be 4 t.length (by decide) (by omega), show (t.length : Int) % 4294967296 = (t.length : Int) by omega, decide_eq_false (by omega), Int.toNat_natCast, Bool.or_false]
  exact rcut_app t l'
theorem pArgs_app : ∀ (new acc : List (List Int)) (l' : List Int), (∀ t ∈ new, t.length ≤ 4096) → pArgs new.length acc (new.flatMap textP ++ l') false = (acc ++ new, l', false)
  | [], acc, l', _ => by simp [pArgs]
  | t :: new, acc, l', h => by
    rw [List.length_cons, List.flatMap_cons, List.append_assoc]
    unfold pArgs
    rw [rtext_app t _ (h t (by simp))]
    dsimp only
    rw [pArgs_app new _ l' (fun u hu => h u (by simp [hu]))]
    simp
theorem pAct_app (a : S76) (l' : List Int) (h0 : 0 ≤ a.f0) (h1 : a.f0 < 4) (h2 : a.f1.length ≤ 128) (h3 : ∀ t ∈ a.f1, t.length ≤ 4096) : pAct (actP a ++ l') false = (a, l', false) := by
  obtain ⟨m, hm⟩ := Int.eq_ofNat_of_zero_le h0
  have e1 : rcut (actP a ++ l') false 1 = (be 1 m, be 4 a.f1.length ++ (a.f1.flatMap textP ++ l'), false) := by
    unfold actP
    rw [hm, Int.toNat_natCast, List.append_assoc, List.append_assoc]
    have := rcut_app (be 1 m) (be 4 a.f1.length ++ (a.f1.flatMap textP ++ l'))
    rwa [be_len] at this
  have e2 : rcut (be 4 a.f1.length ++ (a.f1.flatMap textP ++ l')) false 4 = (be 4 a.f1.length, a.f1.flatMap textP ++ l', false) := by
    have := rcut_app (be 4 a.f1.length) (a.f1.flatMap textP ++ l')
    rwa [be_len] at this
  have e3 : pMany (be 4 a.f1.length) 129 = a.f1.length := by
    unfold pMany mn
    rw [numOf_be 4 _ (by decide) (by omega)]
    split <;> omega
  unfold pAct
  dsimp only
  rw [e1]
  dsimp only
  rw [e2]
  dsimp only
  rw [e3, pArgs_app a.f1 [] l' h3, numOf_be 1 m (by decide) (by omega)]
  dsimp only
  rw [List.nil_append, show (m : Int) % 256 = a.f0 by omega]
theorem pGroup_app : ∀ (new acc : List S76) (l' : List Int), (∀ a ∈ new, 0 ≤ a.f0 ∧ a.f0 < 4 ∧ 1 ≤ a.f1.length ∧ a.f1.length ≤ 128 ∧ ∀ t ∈ a.f1, t.length ≤ 4096) → pGroup new.length acc (new.flatMap actP ++ l') false = (acc ++ new, l', false)
  | [], acc, l', _ => by simp [pGroup]
  | a :: new, acc, l', h => by
    rw [List.length_cons, List.flatMap_cons, List.append_assoc]
    unfold pGroup
    obtain ⟨q1, q2, q3, q4, q5⟩ := h a (by simp)
    rw [pAct_app a _ q1 q2 q4 q5]
    dsimp only
    rw [pGroup_app new _ l' (fun u hu => h u (by simp [hu]))]
    simp
theorem parse_app (s n : Int) (g : List S76) (h : mayB s n g = true) (hs : s < 9223372036854775808) (hn : 0 ≤ n) : record_parse.g (bodyP s n g) = (s, n, g, [], false) := by
  obtain ⟨m1, m2, m3, m4, m5⟩ := may_acts h
  obtain ⟨s', rfl⟩ := Int.eq_ofNat_of_zero_le (show 0 ≤ s by omega)
  obtain ⟨n', rfl⟩ := Int.eq_ofNat_of_zero_le hn
  have e1 : rcut (bodyP (s' : Int) (n' : Int) g) false 8 = (be 8 s', be 8 n' ++ (be 4 g.length ++ g.flatMap actP), false) := by
    unfold bodyP
    rw [Int.toNat_natCast, Int.toNat_natCast]
    have := rcut_app (be 8 s') (be 8 n' ++ (be 4 g.length ++ g.flatMap actP))
    rwa [be_len] at this
  have e2 : rcut (be 8 n' ++ (be 4 g.length ++ g.flatMap actP)) false 8 = (be 8 n', be 4 g.length ++ g.flatMap actP, false) := by
    have := rcut_app (be 8 n') (be 4 g.length ++ g.flatMap actP)
    rwa [be_len] at this
  have e3 : rcut (be 4 g.length ++ g.flatMap actP) false 4 = (be 4 g.length, g.flatMap actP, false) := by
    have := rcut_app (be 4 g.length) (g.flatMap actP)
    rwa [be_len] at this
  have e4 : pMany (be 4 g.length) 65 = g.length := by
    unfold pMany mn
    rw [numOf_be 4 _ (by decide) (by omega)]
    split <;> omega
  have e5 := pGroup_app g [] [] m5
  rw [List.append_nil, List.nil_append] at e5
  unfold record_parse.g
  dsimp only
  rw [e1]; dsimp only
  rw [e2]; dsimp only
  rw [e3]; dsimp only
  rw [e4, e5, numOf_be 8 s' (by decide) (by omega), numOf_be 8 n' (by decide) (by omega)]
  dsimp only
  rw [show wrap64 (s' : Int) = (s' : Int) by unfold wrap64; omega]
end Go.Proofs.Ytdhkhjfjjbdkgaa.Rec
namespace Go.Proofs.Ytdhkhjfjjbdkgaa.Rec
open Go.RowKit Go.Proofs.YtdhkhjfjjbdkgaaW.PrintWords Go.Proofs.YtdhkhjfjjbdkgaaW.PrintLast Go.Proofs.YtdhkhjfjjbdkgaaW.PrintMore
set_option linter.unusedVariables false
set_option linter.unusedSimpArgs false
structure Good (s n : Int) (g : List S76) : Prop where
  may : mayB s n g = true
  byt : BytesG g
  n0 : 0 ≤ n
  s1 : s < 9223372036854775808
def Res (l : List Int) (r : Int × Int × List S76 × Int) : Prop :=
  (∃ s n g rest, Good s n g ∧ l = frameP (bodyP s n g) ++ rest ∧ r = (s, n, g, ((bodyP s n g).length : Int) + 26)) ∨ ((∀ s n g rest, Good s n g → l ≠ frameP (bodyP s n g) ++ rest) ∧ r = (0, 0, [], 0))
theorem frame_app (b rest : List Int) : frameP b ++ rest = 170 :: (be 8 b.length ++ (be 8 (crc (headP b.length)).toNat ++ (b ++ (be 8 (crc b).toNat ++ (85 :: rest))))) := by
  unfold frameP headP
  simp only [List.cons_append, List.append_assoc, List.nil_append]
theorem be_inj {s m n : Nat} (hm : m < 256 ^ s) (hn : n < 256 ^ s) (h : be s m = be s n) : m = n := by
  rw [← val_be_lt s m hm, ← val_be_lt s n hn, h]
theorem body_inj {s n s' n' : Int} {g g' : List S76} (h : Good s n g) (h' : Good s' n' g') (e : bodyP s n g = bodyP s' n' g') : s = s' ∧ n = n' ∧ g = g' := by
  have h1 := parse_app s n g h.may h.s1 h.n0
  rw [e, parse_app s' n' g' h'.may h'.s1 h'.n0] at h1
  simp only [Prod.mk.injEq, and_true] at h1
  exact ⟨h1.1.symm, h1.2.1.symm, h1.2.2.symm⟩
theorem frame_inj {b b' rest rest' : List Int} (hb : b.length < 256 ^ 8) (hb' : b'.length < 256 ^ 8) (e : frameP b ++ rest = frameP b' ++ rest') : b = b' := by
  rw [frame_app, frame_app] at e
  have e1 := List.append_inj (List.cons.inj e).2 (by rw [be_len, be_len])
  have hl := be_inj hb hb' e1.1
  have e2 := List.append_inj e1.2 (by rw [be_len, be_len])
  exact (List.append_inj e2.2 hl).1
theorem good_len {s n : Int} {g : List S76} (h : Good s n g) : (bodyP s n g).length ≤ 33587540 := bodyP_len h.may
theorem Res.uniq {l : List Int} {r r' : Int × Int × List S76 × Int} (h : Res l r) (h' : Res l r') : r = r' := by
  rcases h with ⟨s, n, g, rest, hg, e, rfl⟩ | ⟨h, rfl⟩
  · rcases h' with ⟨s', n', g', rest', hg', e', rfl⟩ | ⟨h', rfl⟩
    · rw [e] at e'
      have l1 := good_len hg; have l2 := good_len hg'
      obtain ⟨rfl, rfl, rfl⟩ := body_inj hg hg' (frame_inj (by omega) (by omega) e')
      rfl
    · exact absurd e (h' _ _ _ _ hg)
  · rcases h' with ⟨s', n', g', rest', hg', e', rfl⟩ | ⟨h', rfl⟩
    · exact absurd e' (h _ _ _ _ hg')
    · rfl
theorem parse_res (b : List Int) (hb : Bytes b) : ∃ r, Ev (fun k => record_parse.f k b) r ∧ (r.2.2.2 = true → b = bodyP r.1 r.2.1 r.2.2.1 ∧ Good r.1 r.2.1 r.2.2.1) := by
  obtain ⟨⟨s, n, g, l, bad⟩, hg⟩ : ∃ q, record_parse.g b = q := ⟨_, rfl⟩
  cases bad with
  | true => exact ⟨(s, n, g, false), Ev.congr (f := fun _ => some (s, n, g, false)) (fun k => by rw [record_parse.f_is hg, if_pos rfl]) (Ev.now _), fun h => by cases h⟩
  | false =>
    by_cases hl : l.length = 0
    · refine ⟨(s, n, g, mayB s n g), Ev.congr (f := fun k => (record_writable.f k s n g).bind fun t => some (s, n, g, t)) (fun k => by rw [record_parse.f_is hg, if_neg (by decide), if_pos hl]) (Ev.bind (writable_is s n g) (Ev.now _)), fun h => ?_⟩
      obtain rfl := List.length_eq_zero_iff.1 hl
      obtain ⟨e, h2, h3, h4⟩ := parse_inv hb hg h
      exact ⟨e, h, h2, h3, h4⟩
    · exact ⟨(s, n, g, false), Ev.congr (f := fun _ => some (s, n, g, false)) (fun k => by rw [record_parse.f_is hg, if_neg (by decide), if_neg hl]) (Ev.now _), fun h => by cases h⟩
theorem rcut_ok (l : List Int) (n : Nat) (h : n ≤ l.length) : rcut l false n = (l.take n, l.drop n, false) := by
  unfold rcut; rw [if_neg (by simp; omega)]
theorem first_is (l : List Int) (hb : Bytes l) (hl : l.length ≤ 140737488351232) : ∃ r, Ev (fun k => record_first.f k l) r ∧ Res l r := by
  by_cases hrec : ∃ s n g rest, Good s n g ∧ l = frameP (bodyP s n g) ++ rest
  · obtain ⟨s, n, g, rest, hg, e⟩ := hrec
    refine ⟨_, ?_, .inl ⟨s, n, g, rest, hg, e, rfl⟩⟩
    have hlen := good_len hg
    have hpa := parse_app s n g hg.may hg.s1 hg.n0
    have hpf : Ev (fun k => record_parse.f k (bodyP s n g)) (s, n, g, true) :=
      Ev.congr (f := fun k => (record_writable.f k s n g).bind fun t => some (s, n, g, t)) (fun k => by rw [record_parse.f_is hpa, if_neg (by decide), if_pos (List.length_nil)]) (Ev.bind (by have := writable_is s n g; rwa [hg.may] at this) (Ev.now _))
    have hbb := bodyP_bytes s n hg.byt
    generalize bodyP s n g = b at *
    rw [frame_app] at e
    have c1 := crc_bd (headP b.length); have c2 := crc_bd b
    have hll : l.length = b.length + 26 + rest.length := by rw [e]; simp only [List.length_cons, List.length_append, be_len]; omega
    have q1 : rcut (l.drop 1) false 8 = (be 8 b.length, be 8 (crc (headP b.length)).toNat ++ (b ++ (be 8 (crc b).toNat ++ (85 :: rest))), false) := by
      rw [e, List.drop_one, List.tail_cons]
      have := rcut_app (be 8 b.length) (be 8 (crc (headP b.length)).toNat ++ (b ++ (be 8 (crc b).toNat ++ (85 :: rest))))
      rwa [be_len] at this
    have q2 : rcut (be 8 (crc (headP b.length)).toNat ++ (b ++ (be 8 (crc b).toNat ++ (85 :: rest)))) false 8 = (be 8 (crc (headP b.length)).toNat, b ++ (be 8 (crc b).toNat ++ (85 :: rest)), false) := by
      have := rcut_app (be 8 (crc (headP b.length)).toNat) (b ++ (be 8 (crc b).toNat ++ (85 :: rest)))
      rwa [be_len] at this
    have q3 : rcut (b ++ (be 8 (crc b).toNat ++ (85 :: rest))) false b.length = (b, be 8 (crc b).toNat ++ (85 :: rest), false) := rcut_app b _
    have q4 : rcut (be 8 (crc b).toNat ++ (85 :: rest)) false 8 = (be 8 (crc b).toNat, 85 :: rest, false) := by
      have := rcut_app (be 8 (crc b).toNat) (85 :: rest)
      rwa [be_len] at this
    have q5 : rcut (85 :: rest) false 1 = ([85], rest, false) := rcut_app [85] rest
    have n1 : numOf (be 8 b.length) = (b.length : Int) := numOf_be 8 _ (by decide) (by omega)
    have n2 : numOf (be 8 (crc (headP b.length)).toNat) = crc (headP b.length) := by rw [numOf_be 8 _ (by decide) (by omega)]; omega
    have n4 : numOf (be 8 (crc b).toNat) = crc b := by rw [numOf_be 8 _ (by decide) (by omega)]; omega
    have n5 : numOf [85] = 85 := by decide
    have ht : l.take 9 = headP b.length := by
      rw [e, List.take_succ_cons, List.take_append_of_le_length (by rw [be_len]; decide), List.take_of_length_le (by rw [be_len]; decide)]; rfl
    have h0 : l.getD 0 0 = 170 := by rw [e]; rfl
    refine Ev.congr (f := fun k => (record_parse.f k b).bind fun e => if e.2.2.2 = true then some (e.1, e.2.1, e.2.2.1, (b.length : Int) + 26) else some (0, 0, [], 0)) (fun k => ?_) (Ev.bind hpf ?_)
    · unfold record_first.f
      rw [if_neg (by omega), if_neg (by rw [h0]; simp)]
      dsimp only
      rw [q1]; dsimp only
      rw [q2]; dsimp only
      rw [n1, n2, Int.toNat_natCast, q3]; dsimp only
      rw [q4]; dsimp only
      rw [q5]; dsimp only
      rw [ht, sum_is _ (headP_bytes _) (by rw [headP_len]; decide), sum_is b hbb (by omega), n4, n5]
      rw [Option.bind_some, if_neg (by simp), if_neg (by omega), if_neg (by omega), Option.bind_some, if_neg (by simp), if_neg (by decide)]
    · exact Ev.congr (fun k => by dsimp only; rw [if_pos rfl]) (Ev.now _)
  · refine ⟨(0, 0, [], 0), ?_, .inr ⟨fun s n g rest hg e => hrec ⟨s, n, g, rest, hg, e⟩, rfl⟩⟩
    unfold record_first.f
    by_cases h17 : l.length < 17
    · exact Ev.congr (f := fun _ => some (0, 0, [], 0)) (fun k => by rw [if_pos h17]) (Ev.now _)
    by_cases h170 : l.getD 0 0 = 170
    case neg => exact Ev.congr (f := fun _ => some (0, 0, [], 0)) (fun k => by rw [if_neg h17, if_pos h170]) (Ev.now _)
    obtain ⟨l1, rfl⟩ : ∃ l1, l = 170 :: l1 := by
      cases l with
      | nil => simp at h17
      | cons a l1 => exact ⟨l1, by simp at h170; rw [h170]⟩
    rw [List.length_cons] at h17 hl
    have hb1 : Bytes l1 := fun x hx => hb x (by simp [hx])
    obtain ⟨x1, l2, e1, k1⟩ : ∃ x1 l2, l1 = x1 ++ l2 ∧ x1.length = 8 := ⟨l1.take 8, l1.drop 8, (List.take_append_drop _ _).symm, by rw [List.length_take]; omega⟩
    subst e1
    rw [List.length_append] at h17 hl
    obtain ⟨x2, l3, e2, k2⟩ : ∃ x2 l3, l2 = x2 ++ l3 ∧ x2.length = 8 := ⟨l2.take 8, l2.drop 8, (List.take_append_drop _ _).symm, by rw [List.length_take]; omega⟩
    subst e2
    rw [List.length_append] at h17 hl
    have y1 : Bytes x1 := bytes_left hb1
    have y2 : Bytes x2 := bytes_left (bytes_right hb1)
    have y3 : Bytes l3 := bytes_right (bytes_right hb1)
    have q1 : rcut ((170 :: (x1 ++ (x2 ++ l3))).drop 1) false 8 = (x1, x2 ++ l3, false) := by
      rw [List.drop_one, List.tail_cons]
      have := rcut_app x1 (x2 ++ l3)
      rwa [k1] at this
    have q2 : rcut (x2 ++ l3) false 8 = (x2, l3, false) := by
      have := rcut_app x2 l3
      rwa [k2] at this
    have bd1 := numOf_bd x1
    have lt1 := numOf_lt y1 k1 (by decide)
    have bx1 := be_numOf y1 k1 (by decide)
    have bx2 := be_numOf y2 k2 (by decide)
    obtain ⟨N, hN⟩ := Int.eq_ofNat_of_zero_le bd1.1
    rw [hN, Int.toNat_natCast] at bx1 lt1
    have ht : (170 :: (x1 ++ (x2 ++ l3))).take 9 = headP N := by
      rw [List.take_succ_cons, List.take_append_of_le_length (by omega), List.take_of_length_le (by omega), bx1]; rfl
    rw [ht, sum_is _ (headP_bytes _) (by rw [headP_len]; decide)]
    dsimp only
    rw [q1]; dsimp only
    rw [q2]; dsimp only
    rw [hN, Int.toNat_natCast]
    have hlen : (170 :: (x1 ++ (x2 ++ l3))).length = l3.length + 17 := by simp only [List.length_cons, List.length_append]; omega
    by_cases hs : numOf x2 = crc (headP N)
    case neg => exact Ev.congr (f := fun _ => some (0, 0, [], 0)) (fun k => by rw [if_neg (by omega), if_neg (by simp), Option.bind_some, if_pos hs]) (Ev.now _)
    by_cases h1 : (l3.length : Int) < (N : Int)
    · exact Ev.congr (f := fun _ => some (0, 0, [], 0)) (fun k => by rw [if_neg (by omega), if_neg (by simp), Option.bind_some, if_neg (by simpa using hs), if_pos (by omega)]) (Ev.now _)
    by_cases h2 : (l3.length : Int) - (N : Int) < 9
    · exact Ev.congr (f := fun _ => some (0, 0, [], 0)) (fun k => by rw [if_neg (by omega), if_neg (by simp), Option.bind_some, if_neg (by simpa using hs), if_neg (by omega), if_pos (by omega)]) (Ev.now _)
    obtain ⟨b, l4, e3, k3⟩ : ∃ b l4, l3 = b ++ l4 ∧ b.length = N := ⟨l3.take N, l3.drop N, (List.take_append_drop _ _).symm, by rw [List.length_take]; omega⟩
    subst e3
    simp only [List.length_append] at h2 h1 hlen hl
    obtain ⟨x4, l5, e4, k4⟩ : ∃ x4 l5, l4 = x4 ++ l5 ∧ x4.length = 8 := ⟨l4.take 8, l4.drop 8, (List.take_append_drop _ _).symm, by rw [List.length_take]; omega⟩
    subst e4
    simp only [List.length_append] at h2 h1 hlen hl
    obtain ⟨z, l6, rfl⟩ : ∃ z l6, l5 = z :: l6 := by
      cases l5 with
      | nil => simp at h2; omega
      | cons z l6 => exact ⟨z, l6, rfl⟩
    have yb : Bytes b := bytes_left y3
    have y4 : Bytes x4 := bytes_left (bytes_right y3)
    have yz : 0 ≤ z ∧ z < 256 := bytes_right (bytes_right y3) z (by simp)
    have bx4 := be_numOf y4 k4 (by decide)
    have q3 : rcut (b ++ (x4 ++ z :: l6)) false N = (b, x4 ++ z :: l6, false) := by
      have := rcut_app b (x4 ++ z :: l6)
      rwa [k3] at this
    have q4 : rcut (x4 ++ z :: l6) false 8 = (x4, z :: l6, false) := by
      have := rcut_app x4 (z :: l6)
      rwa [k4] at this
    have q5 : rcut (z :: l6) false 1 = ([z], l6, false) := rcut_app [z] l6
    rw [q3]; dsimp only
    rw [q4]; dsimp only
    rw [q5]; dsimp only
    rw [sum_is b yb (by omega)]
    have nz : numOf [z] % 256 = z := by
      rw [numOf_val [z] (fun x hx => by rw [List.mem_singleton.1 hx]; exact yz) (by simp)]
      simp [val]; omega
    rw [nz]
    by_cases hs4 : numOf x4 = crc b
    case neg => exact Ev.congr (f := fun _ => some (0, 0, [], 0)) (fun k => by rw [if_neg (by omega), if_neg (by simp), Option.bind_some, if_neg (by simpa using hs), if_neg (by omega), if_neg (by omega), Option.bind_some, if_pos hs4]) (Ev.now _)
    by_cases h85 : z = 85
    case neg => exact Ev.congr (f := fun _ => some (0, 0, [], 0)) (fun k => by rw [if_neg (by omega), if_neg (by simp), Option.bind_some, if_neg (by simpa using hs), if_neg (by omega), if_neg (by omega), Option.bind_some, if_neg (by simpa using hs4), if_pos h85]) (Ev.now _)
    subst h85
    obtain ⟨⟨s, n, g, ok⟩, hp, hok⟩ := parse_res b yb
    have st : Ev (fun k => (record_parse.f k b).bind fun e => if e.2.2.2 = true then some (e.1, e.2.1, e.2.2.1, (N : Int) + 26) else some (0, 0, [], 0)) (0, 0, [], 0) := by
      cases ok with
      | false => exact Ev.bind hp (Ev.congr (fun k => by dsimp only; rw [if_neg (by decide)]) (Ev.now _))
      | true =>
        exfalso
        obtain ⟨hbody, hgood⟩ := hok rfl
        dsimp only at hbody hgood
        refine hrec ⟨s, n, g, l6, hgood, ?_⟩
        rw [← hbody, frame_app, k3, ← bx1, ← hs, ← bx2, ← hs4, ← bx4]
    exact Ev.congr (fun k => by rw [if_neg (by omega), if_neg (by simp), Option.bind_some, if_neg (by simpa using hs), if_neg (by omega), if_neg (by omega), Option.bind_some, if_neg (by simpa using hs4), if_neg (by decide)]) st
end Go.Proofs.Ytdhkhjfjjbdkgaa.Rec
