/- What SpaceDraws keeps: the space and the State side by side. -/
import Derived.Test.YthdahjmkkdljbaaBegin
namespace Go.Proofs.Ythdahjmkkdljbaa.Sp
open Go.RowKit Go.Proofs.YthdahjmkkdljbaaW.PrintWords Go.Proofs.YthdahjmkkdljbaaW.PrintLast Go.Proofs.YthdahjmkkdljbaaW.PrintMore
set_option linter.unusedVariables false
set_option linter.unusedSimpArgs false
structure Core (wN wr : World) (t s rs : Nat) (C1 C2 : Array Value) (v v' : Value) (D E : List Int) : Prop where
  F : Fr (fun k => k = t ∨ k = s ∨ k = rs) wN wr
  sp : SpQ wr s C1 v D
  rf : StQ wr rs C2 v' E
  vN : ∀ k, v.ownBlock = some k → wN.heap.size ≤ k
  vN' : ∀ k, v'.ownBlock = some k → wN.heap.size ≤ k
  dis : ∀ k, v.ownBlock = some k → v'.ownBlock ≠ some k
  ts : t < s
  sr : s < rs
  rN : rs < wN.heap.size
section
variable {wN wr w' : World} {t s rs : Nat} {C1 C2 : Array Value} {v v' v1 : Value} {D E D1 : List Int}
theorem Core.vlt (h : Core wN wr t s rs C1 C2 v v' D E) (k : Nat) (hk : v.ownBlock = some k) : k < wr.heap.size := by
  obtain ⟨_, cells, hc⟩ := q_typed h.sp.q k hk
  exact blk_lt hc
theorem Core.vlt' (h : Core wN wr t s rs C1 C2 v v' D E) (k : Nat) (hk : v'.ownBlock = some k) : k < wr.heap.size := by
  obtain ⟨_, cells, hc⟩ := q_typed h.rf.q k hk
  exact blk_lt hc
theorem Core.keep {P : Nat → Prop} (h : Core wN wr t s rs C1 C2 v v' D E) (hf : Fr P wr w') (hP : ∀ k, P k → k = t ∨ (wN.heap.size ≤ k ∧ v.ownBlock ≠ some k ∧ v'.ownBlock ≠ some k)) : Core wN w' t s rs C1 C2 v v' D E where
  F := h.F.trans hf (fun i hi hp => (hP i hp).elim .inl (fun e => absurd e.1 (by omega)))
  sp := by
    have hs := h.sp.hs; have := h.ts; have := h.sr; have := h.rN
    refine ⟨(hf.block s (blk_lt hs) (fun hp => by rcases hP s hp with e | e <;> omega)).trans hs, h.sp.size, qfr h.sp.q hf (fun k hk hp => ?_)⟩
    rcases hP k hp with e | e
    · have := h.vN k hk; omega
    · exact e.2.1 hk
  rf := by
    have hs := h.rf.hs; have := h.ts; have := h.sr; have := h.rN
    refine ⟨(hf.block rs (blk_lt hs) (fun hp => by rcases hP rs hp with e | e <;> omega)).trans hs, h.rf.size, qfr h.rf.q hf (fun k hk hp => ?_)⟩
    rcases hP k hp with e | e
    · have := h.vN' k hk; omega
    · exact e.2.2 hk
  vN := h.vN
  vN' := h.vN'
  dis := h.dis
  ts := h.ts
  sr := h.sr
  rN := h.rN
theorem Core.draw (h : Core wN wr t s rs C1 C2 v v' D E) (hq : SpQ w' s C1 v1 D1) (hs : SpStep wr w' s v v1) : Core wN w' t s rs C1 C2 v1 v' D1 E where
  F := h.F.trans hs.fr (fun i hi hp => hp.elim (fun e => .inr (.inl e)) (fun e => absurd (h.vN i e) (by omega)))
  sp := hq
  rf := by
    have hr := h.rf.hs; have := h.ts; have := h.sr; have := h.rN
    refine ⟨(hs.fr.block rs (blk_lt hr) (fun hp => ?_)).trans hr, h.rf.size, qfr h.rf.q hs.fr (fun k hk hp => ?_)⟩
    · rcases hp with e | e
      · omega
      · have := h.vN rs e; omega
    · rcases hp with e | e
      · have := h.vN' k hk; omega
      · exact h.dis k e hk
  vN := fun k hk => by
    rcases hs.at_ k hk with e | e
    · exact h.vN k e
    · exact Nat.le_trans h.F.size e
  vN' := h.vN'
  dis := fun k hk hk' => by
    rcases hs.at_ k hk with e | e
    · exact h.dis k e hk'
    · have := h.vlt' k hk'; omega
  ts := h.ts
  sr := h.sr
  rN := h.rN
theorem Core.rdraw (h : Core wN wr t s rs C1 C2 v v' D E) (hq : StQ w' rs C2 v1 D1) (hs : SpStep wr w' rs v' v1) : Core wN w' t s rs C1 C2 v v1 D D1 where
  F := h.F.trans hs.fr (fun i hi hp => hp.elim (fun e => .inr (.inr e)) (fun e => absurd (h.vN' i e) (by omega)))
  rf := hq
  sp := by
    have hr := h.sp.hs; have := h.ts; have := h.sr; have := h.rN
    refine ⟨(hs.fr.block s (blk_lt hr) (fun hp => ?_)).trans hr, h.sp.size, qfr h.sp.q hs.fr (fun k hk hp => ?_)⟩
    · rcases hp with e | e
      · omega
      · have := h.vN' s e; omega
    · rcases hp with e | e
      · have := h.vN k hk; omega
      · exact h.dis k hk e
  vN := h.vN
  vN' := fun k hk => by
    rcases hs.at_ k hk with e | e
    · exact h.vN' k e
    · exact Nat.le_trans h.F.size e
  dis := fun k hk hk' => by
    rcases hs.at_ k hk' with e | e
    · exact h.dis k hk e
    · have := h.vlt k hk; omega
  ts := h.ts
  sr := h.sr
  rN := h.rN
end
/-- The bytes of a list. -/
def By (D : List Int) : Prop := ∀ d ∈ D, 0 ≤ d ∧ d < 256
theorem By.app {D b : List Int} {m : Nat} (h : By D) (k : By b) : By (D ++ b.take m) := fun d hd => by
  rcases List.mem_append.1 hd with e | e
  · exact h d e
  · exact k d (List.mem_of_mem_take e)
theorem By.tail {D : List Int} (h : By D) : By D.tail := fun d hd => h d (List.mem_of_mem_tail hd)
theorem level_any (w : World) (s : Nat) (C : Array Value) (v : Value) (D : List Int) (h : SpQ w s C v D) (hb : By D) (hm : D.length ≤ 4096) :
    Calls Try.prog 10 #[.pointer (some ⟨s, 0, none⟩)] w (LevelPost w s C v D) := by
  cases D with
  | nil => exact level_none w s C v h
  | cons d D' =>
    have := hb d (List.mem_cons_self ..)
    obtain ⟨n, rfl⟩ := Int.eq_ofNat_of_zero_le this.1
    exact level_some w s C v _ h n (by omega) D' rfl hm
theorem rlevel_any (w : World) (s : Nat) (C : Array Value) (v : Value) (D : List Int) (h : StQ w s C v D) (hb : By D) (hm : D.length ≤ 4096) :
    Calls Try.prog 11 #[.pointer (some ⟨s, 0, none⟩)] w (RLevelPost w s C v D) := by
  cases D with
  | nil => exact rlevel_none w s C v h
  | cons d D' =>
    have := hb d (List.mem_cons_self ..)
    obtain ⟨n, rfl⟩ := Int.eq_ofNat_of_zero_le this.1
    exact rlevel_some w s C v _ h n (by omega) D' rfl hm
/-- A list of bytes to read, that lies apart from what changes. -/
structure Src (wN : World) (t s rs : Nat) (A : Option Addr) (m c : Nat) (b : List Int) : Prop where
  C : Kd.C (Kd.int .u8) wN A b.length b
  len : b.length = m
  cap : m ≤ c
  lt : m ≤ 3000
  by_ : By b
  ne : 0 < b.length → ∀ ad, A = some ad → ad.block < wN.heap.size ∧ ad.block ≠ t ∧ ad.block ≠ s ∧ ad.block ≠ rs
theorem Src.at_ {wN wr : World} {t s rs m c : Nat} {A : Option Addr} {b : List Int} (h : Src wN t s rs A m c b) (hf : Fr (fun k => k = t ∨ k = s ∨ k = rs) wN wr) : Kd.C (Kd.int .u8) wr A b.length b :=
  kd_fr h.C hf (fun ad ha h0 hp => by have := h.ne h0 ad ha; omega)
structure Lp (wN wr : World) (t s rs : Nat) (C1 C2 : Array Value) (v v' : Value) (D E : List Int) : Prop where
  core : Core wN wr t s rs C1 C2 v v' D E
  lD : D.length ≤ 4096
  lE : E.length ≤ 4096
  bD : By D
  bE : By E
section
variable {wN wr w' : World} {t s rs m c : Nat} {C C1 C2 : Array Value} {v v' v1 : Value} {D E D1 b : List Int} {A : Option Addr}
theorem Lp.keep {P : Nat → Prop} (h : Lp wN wr t s rs C1 C2 v v' D E) (hf : Fr P wr w') (hP : ∀ k, P k → k = t ∨ (wN.heap.size ≤ k ∧ v.ownBlock ≠ some k ∧ v'.ownBlock ≠ some k)) : Lp wN w' t s rs C1 C2 v v' D E := ⟨h.core.keep hf hP, h.lD, h.lE, h.bD, h.bE⟩
theorem Lp.st_s {vG vW : Value} (h : Lp wN wr t s rs C1 C2 v v' D E) (hs : SpStep wr w' s v v1) (S : StG wr t C vG vW) : StG w' t C vG vW :=
  S.fr hs.fr (fun hp => by have := h.core.ts; have := h.core.sr; have := h.core.rN; rcases hp with e | e; omega; have := h.core.vN t e; omega)
theorem Lp.st_r {vG vW : Value} (h : Lp wN wr t s rs C1 C2 v v' D E) (hs : SpStep wr w' rs v' v1) (S : StG wr t C vG vW) : StG w' t C vG vW :=
  S.fr hs.fr (fun hp => by have := h.core.ts; have := h.core.sr; have := h.core.rN; rcases hp with e | e; omega; have := h.core.vN' t e; omega)
theorem sd_level (h : Lp wN wr t s rs C1 C2 v v' D E) : Calls Try.prog 10 #[.pointer (some ⟨s, 0, none⟩)] wr fun e w' => e = .returned (.int .i64 (levelOf D)) ∧ ∃ v1, Lp wN w' t s rs C1 C2 v1 v' D.tail E ∧ SpStep wr w' s v v1 :=
  (level_any wr s C1 v D h.core.sp h.bD h.lD).mono fun e w' ⟨he, v1, hq, hs⟩ => ⟨he, v1, ⟨h.core.draw hq hs, by have := h.lD; simp; omega, h.lE, h.bD.tail, h.bE⟩, hs⟩
theorem sd_rlevel (h : Lp wN wr t s rs C1 C2 v v' D E) : Calls Try.prog 11 #[.pointer (some ⟨rs, 0, none⟩)] wr fun e w' => e = .returned (.int .i64 (levelOf E)) ∧ ∃ v1, Lp wN w' t s rs C1 C2 v v1 D E.tail ∧ SpStep wr w' rs v' v1 :=
  (rlevel_any wr rs C2 v' E h.core.rf h.bE h.lE).mono fun e w' ⟨he, v1, hq, hs⟩ => ⟨he, v1, ⟨h.core.rdraw hq hs, h.lD, by have := h.lE; simp; omega, h.bD, h.bE.tail⟩, hs⟩
theorem sd_draw (h : Lp wN wr t s rs C1 C2 v v' D E) (hC : Kd.C (Kd.int .u8) wr A b.length b) (hl : b.length = m) (hc : m ≤ c) (hm : m ≤ 3000) (hb : By b) : Calls Try.prog 5 #[.pointer (some ⟨s, 0, none⟩), .slice A m c] wr fun e w' => e = .returned (.tuple #[]) ∧ ∃ v1, Lp wN w' t s rs C1 C2 v1 v' (D ++ b.take (4096 - D.length)) E ∧ SpStep wr w' s v v1 := by
  subst hl
  exact (draw_walk wr s C1 v D h.core.sp h.lD A c b hC hc (by omega)).mono fun e w' ⟨he, v1, hq, hs⟩ => ⟨he, v1, ⟨h.core.draw hq hs, by have := h.lD; simp; omega, h.lE, h.bD.app hb, h.bE⟩, hs⟩
theorem sd_rdraw (h : Lp wN wr t s rs C1 C2 v v' D E) (X : Src wN t s rs A m c b) : Calls Try.prog 7 #[.pointer (some ⟨rs, 0, none⟩), .slice A m c] wr fun e w' => e = .returned (.tuple #[]) ∧ ∃ v1, Lp wN w' t s rs C1 C2 v v1 D (E ++ b.take (4096 - E.length)) ∧ SpStep wr w' rs v' v1 := by
  have hl := X.len
  subst hl
  exact (rdraw_walk wr rs C2 v' E h.core.rf h.lE A c b (X.at_ h.core.F) X.cap (by have := X.lt; omega) (fun h0 ad ha => by
    have h1 := X.ne h0 ad ha
    exact ⟨h1.2.2.2, fun k hk => by have := h.core.vN' k hk; omega⟩)).mono fun e w' ⟨he, v1, hq, hs⟩ => ⟨he, v1, ⟨h.core.rdraw hq hs, h.lD, by have := h.lE; simp; omega, h.bD, h.bE.app X.by_⟩, hs⟩
/-- Between a lend and its back. -/
structure Mid (w2 : World) (t : Nat) (C : Array Value) (b : List Int) (n0 g c1 : Nat) (vG vW v v' : Value) (p q : Nat → Prop) : Prop where
  lq : LentQ w2 t C b n0 g c1 vG vW
  vo : ∀ k, v.ownBlock = some k → p k
  vo' : ∀ k, v'.ownBlock = some k → q k
theorem sd_lend (h : Lp wN wr t s rs C1 C2 v v' D E) (S : StG wr t C (.slice none 0 0) (.slice none 0 0)) (X : Src wN t s rs A m c b) : Calls Try.prog 6 #[.pointer (some ⟨t, 0, none⟩), .slice A m c] wr fun e w2 => ∃ g c1 vG vW, e = .returned (.slice (some ⟨g, 0, none⟩) m c1) ∧ m ≤ c1 ∧ Lp wN w2 t s rs C1 C2 v v' D E ∧ Mid w2 t C b wr.heap.size g c1 vG vW v v' (· < wr.heap.size) (· < wr.heap.size) := by
  have hl := X.len
  subst hl
  exact (lendq_walk wr t C S A c b (X.at_ h.core.F) X.cap (by have := X.lt; omega) (fun h0 ad ha => (X.ne h0 ad ha).2.1)).mono fun e w2 ⟨g, c1, vG, vW, he, hq, hf⟩ =>
    ⟨g, c1, vG, vW, he, by have := hq.lent.cap; omega, h.keep hf (fun k hk => .inl hk), hq, h.core.vlt, h.core.vlt'⟩
theorem sd_mid_s {n0 g c1 : Nat} {vG vW : Value} {q : Nat → Prop} (h : Lp wN wr t s rs C1 C2 v v' D E) (hs : SpStep wr w' s v v1) (hn : wN.heap.size ≤ n0) (M : Mid wr t C b n0 g c1 vG vW v v' (· < n0) q) : Mid w' t C b n0 g c1 vG vW v1 v' (· ≠ g) q := by
  have h1 := h.core.ts; have h2 := h.core.sr; have h3 := h.core.rN
  refine ⟨M.lq.fr hs.fr (fun hp => ?_) (fun k hk hlt hp => ?_), fun k hk => ?_, M.vo'⟩
  · rcases hp with e | e
    · omega
    · have := h.core.vN t e; omega
  · rcases hp with e | e
    · omega
    · have := M.vo k e; omega
  · rcases hs.at_ k hk with e | e
    · have := M.vo k e; have := M.lq.hg; show k ≠ g; omega
    · have := M.lq.lent.lt; show k ≠ g; omega
theorem sd_mid_r {n0 g c1 : Nat} {vG vW : Value} {p : Nat → Prop} (h : Lp wN wr t s rs C1 C2 v v' D E) (hs : SpStep wr w' rs v' v1) (hn : wN.heap.size ≤ n0) (M : Mid wr t C b n0 g c1 vG vW v v' p (· < n0)) : Mid w' t C b n0 g c1 vG vW v v1 p (· ≠ g) := by
  have h1 := h.core.ts; have h2 := h.core.sr; have h3 := h.core.rN
  refine ⟨M.lq.fr hs.fr (fun hp => ?_) (fun k hk hlt hp => ?_), M.vo, fun k hk => ?_⟩
  · rcases hp with e | e
    · omega
    · have := h.core.vN' t e; omega
  · rcases hp with e | e
    · omega
    · have := M.vo' k e; omega
  · rcases hs.at_ k hk with e | e
    · have := M.vo' k e; have := M.lq.hg; show k ≠ g; omega
    · have := M.lq.lent.lt; show k ≠ g; omega
theorem sd_back {n0 g c1 : Nat} {vG vW : Value} (h : Lp wN wr t s rs C1 C2 v v' D E) (hn : wN.heap.size ≤ n0) (hm : b.length ≤ 3000) (M : Mid wr t C b n0 g c1 vG vW v v' (· ≠ g) (· ≠ g)) : Calls Try.prog 8 #[.pointer (some ⟨t, 0, none⟩)] wr fun e w' => e = .returned (.bool true) ∧ Lp wN w' t s rs C1 C2 v v' D E ∧ StG w' t C (.slice none 0 0) (.slice none 0 0) := by
  have h1 := h.core.ts; have h2 := h.core.sr; have h3 := h.core.rN
  refine (backq_walk wr t n0 g c1 C b vG vW M.lq (by omega) (by omega)).mono fun e w' ⟨he, hs, hf⟩ => ⟨he, h.keep hf (fun k hk => ?_), hs⟩
  rcases hk with e | e
  · exact .inl e
  · have hg := M.lq.hg
    exact .inr ⟨by omega, fun e2 => M.vo k e2 e, fun e2 => M.vo' k e2 e⟩
end
theorem kd_take {w : World} {A : Option Addr} {b : List Int} (h : Kd.C (Kd.int .u8) w A b.length b) (m : Nat) (hm : m ≤ b.length) : Kd.C (Kd.int .u8) w A (b.take m).length (b.take m) := by
  obtain ⟨h1, h2, h3⟩ := Kd.reads_of_C (d := (0 : Int)) h
  refine Kd.C_of_reads (d := (0 : Int)) (h1 := fun _ => rfl) ⟨rfl, by simp; omega, fun h0 => ?_⟩
  simp at h0
  obtain ⟨ad, rfl, hc⟩ := h3 (by omega)
  refine ⟨ad, rfl, fun j hj => ?_⟩
  simp at hj
  rw [hc j (by omega)]
  simp only [List.getD_eq_getElem?_getD, List.getElem?_take, if_pos (show j < m by omega)]
end Go.Proofs.Ythdahjmkkdljbaa.Sp
