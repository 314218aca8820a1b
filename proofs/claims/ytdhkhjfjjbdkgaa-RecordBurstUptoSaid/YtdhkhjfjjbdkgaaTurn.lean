/- What turned computes: bits in a window of 64 are turned, and the first byte that differs is told. -/
import Derived.Test.YtdhkhjfjjbdkgaaCrcz
import Derived.Test.YtdhkhjfjjbdkgaaRLx11
import Derived.Test.YtdhkhjfjjbdkgaaTornS
namespace Go.Proofs.Ytdhkhjfjjbdkgaa.Rec
open Go.RowKit Go.Proofs.YtdhkhjfjjbdkgaaW.PrintWords Go.Proofs.YtdhkhjfjjbdkgaaW.PrintLast Go.Proofs.YtdhkhjfjjbdkgaaW.PrintMore
set_option linter.unusedVariables false
set_option linter.unusedSimpArgs false
def flip (c : Int) (r : Nat) : Int := Go.bits .xor .u8 c (shr .u8 128 (r : Int))
theorem flip_all : ∀ (a : Fin 256) (r : Fin 8), 0 ≤ flip (a.val : Int) r.val ∧ flip (a.val : Int) r.val < 256 ∧ (List.range 8).all (fun s => (flip (a.val : Int) r.val).toNat.testBit (7 - s) == (if r.val = s then ! a.val.testBit (7 - s) else a.val.testBit (7 - s))) = true := by decide +kernel
theorem flip_is (c : Int) (h0 : 0 ≤ c) (h1 : c < 256) (r : Nat) (hr : r < 8) : 0 ≤ flip c r ∧ flip c r < 256 ∧ ∀ s, s < 8 → (flip c r).toNat.testBit (7 - s) = (if r = s then ! c.toNat.testBit (7 - s) else c.toNat.testBit (7 - s)) := by
  obtain ⟨n, rfl⟩ := Int.eq_ofNat_of_zero_le h0
  have := flip_all ⟨n, by omega⟩ ⟨r, hr⟩
  refine ⟨this.1, this.2.1, fun s hs => ?_⟩
  have h2 := List.all_eq_true.1 this.2.2 s (List.mem_range.2 hs)
  exact beq_iff_eq.1 h2
theorem bitAt_set (c : List Int) (hc : Bytes c) (i : Nat) (h : i / 8 < c.length) (j : Nat) : bitAt (c.set (i / 8) (flip c[i / 8] (i % 8))) j = if i = j then ! bitAt c j else bitAt c j := by
  unfold bitAt
  have hb := hc _ (List.getElem_mem h)
  have hf := flip_is c[i / 8] hb.1 hb.2 (i % 8) (by omega)
  by_cases e : i / 8 = j / 8
  · have h1 : (c.set (i / 8) (flip c[i / 8] (i % 8))).getD (j / 8) 0 = flip c[i / 8] (i % 8) := by
      rw [← e, List.getD_eq_getElem?_getD, List.getElem?_set_self h]; rfl
    have h2 : c.getD (j / 8) 0 = c[i / 8] := by
      rw [← e, List.getD_eq_getElem?_getD, List.getElem?_eq_getElem h]; rfl
    rw [h1, h2, hf.2.2 (j % 8) (by omega)]
    by_cases e2 : i = j
    · rw [if_pos (by rw [e2]), if_pos e2]
    · rw [if_neg (by omega), if_neg e2]
  · rw [if_neg (by intro e2; rw [e2] at e; exact e rfl)]
    congr 2
    rw [List.getD_eq_getElem?_getD, List.getElem?_set_ne e, ← List.getD_eq_getElem?_getD]
theorem bytes_set {c : List Int} (hc : Bytes c) (q : Nat) (v : Int) (h0 : 0 ≤ v) (h1 : v < 256) : Bytes (c.set q v) := fun x hx => by
  rcases List.mem_or_eq_of_mem_set hx with h | rfl
  · exact hc x h
  · exact ⟨h0, h1⟩
/-- Behind k bits: what has been turned lies in the window; which bit was the first. -/
structure Tur (log : List Int) (at_ k : Nat) (c : List Int) (fb : Int) : Prop where
  len : c.length = log.length
  byt : Bytes c
  win : ∀ i, bitAt c i ≠ bitAt log i → at_ ≤ i ∧ i < at_ + k
  fst : (fb = -1 ∧ c = log) ∨ ∃ p, p / 8 < log.length ∧ fb = ((p / 8 : Nat) : Int) ∧ bitAt c p ≠ bitAt log p ∧ ∀ i, bitAt c i ≠ bitAt log i → p ≤ i
theorem turn_step {log : List Int} {at_ k : Nat} {c : List Int} {fb : Int} (h : Tur log at_ k c fb) (hi : (at_ + k) / 8 < c.length) :
    Tur log at_ (k + 1) (c.set ((at_ + k) / 8) (flip c[(at_ + k) / 8] ((at_ + k) % 8))) (if fb < 0 then (((at_ + k) / 8 : Nat) : Int) else fb) := by
  have hb := h.byt _ (List.getElem_mem hi)
  have hf := flip_is c[(at_ + k) / 8] hb.1 hb.2 ((at_ + k) % 8) (by omega)
  have hS := bitAt_set c h.byt (at_ + k) hi
  have same : bitAt c (at_ + k) = bitAt log (at_ + k) := by
    by_cases e : bitAt c (at_ + k) = bitAt log (at_ + k)
    · exact e
    · have := h.win _ e; omega
  have hne : bitAt (c.set ((at_ + k) / 8) (flip c[(at_ + k) / 8] ((at_ + k) % 8))) (at_ + k) ≠ bitAt log (at_ + k) := by
    rw [hS, if_pos rfl, same]; cases bitAt log (at_ + k) <;> simp
  refine ⟨by rw [List.length_set, h.len], bytes_set h.byt _ _ hf.1 hf.2.1, fun i hi2 => ?_, ?_⟩
  · rw [hS] at hi2
    by_cases e : at_ + k = i
    · omega
    · rw [if_neg e] at hi2
      have := h.win i hi2; omega
  · right
    rcases h.fst with ⟨rfl, rfl⟩ | ⟨p, h1, h2, h3, h4⟩
    · refine ⟨at_ + k, hi, by rw [if_pos (by omega)], hne, fun i hi2 => ?_⟩
      rw [hS] at hi2
      by_cases e : at_ + k = i
      · omega
      · rw [if_neg e] at hi2; exact absurd rfl hi2
    · refine ⟨p, h1, by rw [if_neg (by omega), h2], ?_, fun i hi2 => ?_⟩
      · have hp := h.win p h3
        rw [hS, if_neg (by omega)]; exact h3
      · rw [hS] at hi2
        by_cases e : at_ + k = i
        · have := h.win p h3; omega
        · rw [if_neg e] at hi2; exact h4 i hi2
theorem turn_skip {log : List Int} {at_ k : Nat} {c : List Int} {fb : Int} (h : Tur log at_ k c fb) : Tur log at_ (k + 1) c fb :=
  ⟨h.len, h.byt, fun i hi => by have := h.win i hi; omega, h.fst⟩
theorem w64n (n : Nat) (h : n < 9223372036854775808) : wrap64 (n : Int) = (n : Int) := by unfold wrap64; omega
theorem w64a (a b : Nat) (h : a + b < 9223372036854775808) : wrap64 ((a : Int) + (b : Int)) = ((a + b : Nat) : Int) := by unfold wrap64; omega
theorem w64s (i : Nat) (h : i ≤ 63) : wrap64 (63 - (i : Int)) = ((63 - i : Nat) : Int) := by unfold wrap64; omega
theorem w64m (n : Nat) (h : n < 1343502650) : wrap64 (8 * (n : Int)) = ((8 * n : Nat) : Int) := by unfold wrap64; omega
theorem td8 (n : Nat) : Int.tdiv (n : Int) 8 = ((n / 8 : Nat) : Int) := by rw [Int.tdiv_eq_ediv_of_nonneg (by omega)]; omega
theorem tm8 (n : Nat) : Int.tmod (n : Int) 8 = ((n % 8 : Nat) : Int) := by rw [Int.tmod_eq_emod_of_nonneg (by omega)]; omega
set_option maxHeartbeats 1000000 in
theorem turned_is (log : List Int) (hl : log.length ≤ 1343502640) (hb : Bytes log) (hcp : larderref0_Copy.f log = some log) (at_ : Nat) (hat : at_ ≤ 8 * log.length) (x : Int) :
    ∃ c fb, Ev (fun k => larderlaw16_turned.f k log (at_ : Int) x) (c, fb) ∧ Tur log at_ 64 c fb := by
  have key : ∀ d i : Nat, i + d = 64 → ∀ c fb, Tur log at_ i c fb → ∃ c' fb', Ev (fun k => larderlaw16_turned.l0 k (at_ : Int) x c fb (i : Int)) (c', fb') ∧ Tur log at_ 64 c' fb' := by
    intro d
    induction d with
    | zero =>
      intro i hi c fb h
      obtain rfl : i = 64 := by omega
      refine ⟨c, fb, Ev.step (f := fun _ => some (c, fb)) (fun k => ?_) (Ev.now _), h⟩
      conv => lhs; unfold larderlaw16_turned.l0
      rw [if_neg (by omega)]
    | succ d ih =>
      intro i hi c fb h
      have h64 : (i : Int) < 64 := by omega
      have hlen := h.len
      have hltq : ((at_ + i) / 8 < c.length) ↔ (((at_ + i : Nat) : Int) < ((8 * c.length : Nat) : Int)) := by omega
      have hw1 : wrap64 (63 - (i : Int)) = ((63 - i : Nat) : Int) := w64s i (by omega)
      have hw2 : wrap64 ((at_ : Int) + (i : Int)) = ((at_ + i : Nat) : Int) := w64a at_ i (by omega)
      have hw3 : wrap64 (8 * (c.length : Int)) = ((8 * c.length : Nat) : Int) := w64m _ (by have := h.len; omega)
      have hw4 : wrap64 ((i : Int) + 1) = ((i + 1 : Nat) : Int) := wr64 i (by omega)
      have hskip : ∃ c' fb', Ev (fun k => larderlaw16_turned.j1 k (at_ : Int) x c fb (i : Int) ((at_ + i : Nat) : Int) false) (c', fb') ∧ Tur log at_ 64 c' fb' := by
        obtain ⟨c', fb', h1, h2⟩ := ih (i + 1) (by omega) c fb (turn_skip h)
        refine ⟨c', fb', Ev.step (fun k => ?_) h1, h2⟩
        conv => lhs; unfold larderlaw16_turned.j1
        rw [if_neg (by decide), hw4]
      have hflip : (hq : (at_ + i) / 8 < c.length) → ∃ c' fb', Ev (fun k => larderlaw16_turned.j1 k (at_ : Int) x c fb (i : Int) ((at_ + i : Nat) : Int) true) (c', fb') ∧ Tur log at_ 64 c' fb' := fun hq => by
        obtain ⟨c', fb', h1, h2⟩ := ih (i + 1) (by omega) _ _ (turn_step h hq)
        refine ⟨c', fb', Ev.step (fun k => ?_) h1, h2⟩
        have hd : Int.tdiv ((at_ + i : Nat) : Int) 8 = (((at_ + i) / 8 : Nat) : Int) := td8 _
        have hm : Int.tmod ((at_ + i : Nat) : Int) 8 = (((at_ + i) % 8 : Nat) : Int) := tm8 _
        have hdw : wrap64 (((at_ + i) / 8 : Nat) : Int) = (((at_ + i) / 8 : Nat) : Int) := w64n _ (by have := h.len; omega)
        conv => lhs; unfold larderlaw16_turned.j1
        rw [if_pos rfl, hd, hm, hdw, if_pos (Int.natCast_nonneg _), if_pos (Int.ofNat_lt.2 hq), if_pos (Int.natCast_nonneg _), hw4, Int.toNat_natCast, rd_get c _ hq]
        show (if fb < 0 then larderlaw16_turned.l0 k (at_ : Int) x (c.set ((at_ + i) / 8) (flip c[(at_ + i) / 8] ((at_ + i) % 8))) (((at_ + i) / 8 : Nat) : Int) ((i + 1 : Nat) : Int) else larderlaw16_turned.l0 k (at_ : Int) x (c.set ((at_ + i) / 8) (flip c[(at_ + i) / 8] ((at_ + i) % 8))) fb ((i + 1 : Nat) : Int)) = _
        by_cases hn : fb < 0
        · rw [if_pos hn, if_pos hn]
        · rw [if_neg hn, if_neg hn]
      have hj : ∃ c' fb' b, Ev (fun k => larderlaw16_turned.j1 k (at_ : Int) x c fb (i : Int) ((at_ + i : Nat) : Int) b) (c', fb') ∧ Tur log at_ 64 c' fb' ∧ b = decide (((at_ + i : Nat) : Int) < ((8 * c.length : Nat) : Int)) := by
        by_cases hq : (at_ + i) / 8 < c.length
        · obtain ⟨c', fb', h1, h2⟩ := hflip hq
          exact ⟨c', fb', true, h1, h2, (decide_eq_true (hltq.1 hq)).symm⟩
        · obtain ⟨c', fb', h1, h2⟩ := hskip
          exact ⟨c', fb', false, h1, h2, (decide_eq_false (fun h => hq (hltq.2 h))).symm⟩
      by_cases hx : Go.bits .and .u64 (shr .u64 x ((63 - i : Nat) : Int)) 1 = 1
      · obtain ⟨c', fb', b, h1, h2, hbd⟩ := hj
        subst hbd
        refine ⟨c', fb', Ev.step (fun k => ?_) h1, h2⟩
        conv => lhs; unfold larderlaw16_turned.l0
        rw [if_pos h64, hw1, if_pos (Int.natCast_nonneg _), if_pos hx, hw2, if_pos (Int.natCast_nonneg _), hw3]
      · obtain ⟨c', fb', h1, h2⟩ := hskip
        refine ⟨c', fb', Ev.step (fun k => ?_) h1, h2⟩
        conv => lhs; unfold larderlaw16_turned.l0
        rw [if_pos h64, hw1, if_pos (Int.natCast_nonneg _), if_neg hx, hw2]
  obtain ⟨c, fb, h1, h2⟩ := key 64 0 (by omega) log (-1) ⟨rfl, hb, fun i hi => absurd rfl hi, .inl ⟨rfl, rfl⟩⟩
  refine ⟨c, fb, ?_, h2⟩
  unfold larderlaw16_turned.f
  refine Ev.congr (fun k => ?_) h1
  rw [hcp]; rfl
/-- The law: bytes that differ from frames in such a window, with the first difference in record i: i whole records, then none. -/
theorem burst_none (b r rest : List Int) (hb : b.length < 256 ^ 8) (hbb : Bytes b) (hr : Bytes rest) (hN : Near rest (frameP b ++ r)) (hd : ∃ p, p / 8 < (frameP b).length ∧ bitAt rest p ≠ bitAt (frameP b ++ r) p) : NoRec rest := by
  intro s n g r' hg e
  have hgl := good_len hg
  obtain ⟨b', hb'⟩ : ∃ b', bodyP s n g = b' := ⟨_, rfl⟩
  rw [hb'] at e hgl
  have hbb' : Bytes b' := by
    intro x hx
    refine hr x ?_
    rw [e, frame_app]
    simp [hx]
  subst e
  have hl : ∀ n : Nat, (headP n ++ be 8 (crc (headP n)).toNat).length = 17 := fun n => by simp [headP, be_len]
  have e1 : ∀ b r : List Int, frameP b ++ r = (headP b.length ++ be 8 (crc (headP b.length)).toNat) ++ ((b ++ be 8 (crc b).toNat) ++ (85 :: r)) := fun b r => by
    unfold frameP; simp only [List.append_assoc, List.cons_append, List.nil_append]
  have hN' := hN
  rw [e1, e1] at hN'
  have hh := near_eq (headP_bytes _) (headP_bytes _) (hN'.left (by rw [hl, hl]))
  have hlen : b'.length = b.length := by
    have h1 := List.append_inj_left hh (by simp [headP, be_len])
    have h2 : be 8 b'.length = be 8 b.length := (List.cons.inj h1).2
    have h3 := congrArg val h2
    rwa [val_be_lt _ _ (by omega), val_be_lt _ _ hb] at h3
  have hbod := near_eq hbb' hbb ((hN'.right (by rw [hl, hl])).left (by rw [List.length_append, List.length_append, be_len, be_len, hlen]))
  have hbe : b' = b := List.append_inj_left hbod hlen
  subst hbe
  obtain ⟨p, h1, h2⟩ := hd
  rw [bitAt_left _ _ _ (by omega), bitAt_left _ _ _ (by omega)] at h2
  exact h2 rfl
end Go.Proofs.Ytdhkhjfjjbdkgaa.Rec
