import Derived.Test.YtglglknhifjbaaaGreatDoorQ
import Derived.Test.YtglglknhifjbaaaGreatDoorRep
namespace Go.Proofs.YtglglknhifjbaaaGreatDoor.Sp
open Go.RowKit Go.Proofs.YtglglknhifjbaaaGreatDoorW.PrintWords Go.Proofs.YtglglknhifjbaaaGreatDoorW.PrintLast Go.Proofs.YtglglknhifjbaaaGreatDoorW.PrintMore
set_option linter.unusedVariables false
set_option linter.unusedSimpArgs false
def iv (n : Nat) : Value := .int .i64 (n : Int)
def hdV (M : HM) (x : HX) (vg : Value) : Array Value := #[.int .i64 (M.limit : Int), .pointer (some ⟨x.ph, 0, none⟩), .pointer (some ⟨x.ps, 0, none⟩), x.vb, x.vr, vg, .int .i64 (M.large : Int), .int .i64 (M.since : Int), .int .i64 (M.kept : Int), x.vt,
    .int .i64 0, .int .i64 0, .int .i64 0, .int .i64 0, .int .i64 0, .int .i64 (M.nroots : Int), .int .i64 M.ncoll, .int .i64 M.nres, .int .i64 M.moved]
structure HRest (w : World) (own : Own) (hp : Nat) (M : HM) (x : HX) (vg : Value) (gs : List Nat) : Prop where
  hlt : hp < w.heap.size
  ohd : own hp = 1
  half : IsAr w own x.ah x.ph M.half.size M.half.objs
  spare : IsAr w own x.as_ x.ps M.spare.size M.spare.objs
  rb : RowV w own 2 89 1 x.vb x.bl.length (x.bl.map ptrV)
  blk : BlkOk w own x.bl M.blocks
  none_ : ∀ s : Nat, M.blocks[s]? = some none ↔ x.bl[s]? = some none
  rr : RowV w own 3 4 1 x.vr M.reached.length (M.reached.map Value.bool)
  rt : RowV w own 5 147 2 x.vt M.roots.length (rootV M.roots)
  rg : QRow w 0 3 1 vg gs.length (gs.map iv)
  og : ∀ k, vg.ownBlock = some k → own k = 4
  nums : (x.ah :: x.as_ :: x.bl.filterMap (fun o : Option (Nat × Nat) => o.map (fun q => q.2))).Nodup
  top : ∀ b, w.heap.size ≤ b → own b = 0
structure HMid (w : World) (own : Own) (hp : Nat) (M : HM) (x : HX) (vg : Value) (gs : List Nat) : Prop extends HRest w own hp M x vg gs where
  hd : w.heap[hp]? = some (.cells (hdV M x vg) 95 (0, 0))
theorem HMem.mid {w : World} {own : Own} {hp : Nat} {M : HM} {x : HX} (h : HMem w own hp M x) : HMid w own hp M x (.slice none 0 0) [] :=
  ⟨⟨blk_lt h.hd, h.ohd, h.half, h.spare, h.rb, h.blk, h.none_, h.rr, h.rt, ⟨rfl, .inl ⟨rfl, none, rfl, fun a ha => by cases ha⟩⟩, fun k hk => by (cases hk), h.nums, h.top⟩, h.hd⟩
theorem HMid.mem {w : World} {own : Own} {hp : Nat} {M : HM} {x : HX} (h : HMid w own hp M x (.slice none 0 0) []) : HMem w own hp M x :=
  ⟨h.hd, h.ohd, h.half, h.spare, h.rb, h.blk, h.none_, h.rr, h.rt, h.nums, h.top⟩
section
variable {w w' : World} {own own' : Own} {hp : Nat} {M M' : HM} {x x' : HX} {vg : Value} {gs : List Nat}
theorem HRest.core (h : HRest w own hp M x vg gs) (T : Nat → Prop) (hT : ∀ t, T t → t < 10) (hf : Fr (fun b => T (own b)) w w') (ow : Ow own own' w) :
    hp < w'.heap.size ∧ own' hp = 1 ∧ IsAr w' own' x.ah x.ph M.half.size M.half.objs ∧ IsAr w' own' x.as_ x.ps M.spare.size M.spare.objs ∧ BlkOk w' own' x.bl M.blocks ∧
    (¬ T 2 → RowV w' own' 2 89 1 x.vb x.bl.length (x.bl.map ptrV)) ∧ (¬ T 3 → RowV w' own' 3 4 1 x.vr M.reached.length (M.reached.map Value.bool)) ∧
    (¬ T 5 → RowV w' own' 5 147 2 x.vt M.roots.length (rootV M.roots)) ∧ (¬ T 4 → QRow w' 0 3 1 vg gs.length (gs.map iv) ∧ ∀ k, vg.ownBlock = some k → own' k = 4) := by
  have ar : ∀ {a p size : Nat} {l : List AO}, IsAr w own a p size l → IsAr w' own' a p size l := fun hA => hA.fr hf ow (fun b hb => by have := hT _ hb; omega)
  refine ⟨Nat.lt_of_lt_of_le h.hlt hf.size, (ow hp h.hlt).trans h.ohd, ar h.half, ar h.spare, ⟨h.blk.1, fun s p a hs => ?_⟩, fun h2 => h.rb.fr hf ow (fun b hb e => h2 (e ▸ hb)), fun h2 => h.rr.fr hf ow (fun b hb e => h2 (e ▸ hb)), fun h2 => h.rt.fr hf ow (fun b hb e => h2 (e ▸ hb)), fun h2 => ⟨?_, fun k hk => ?_⟩⟩
  · obtain ⟨A, h1, h2⟩ := h.blk.2 s p a hs
    exact ⟨A, h1, ar h2⟩
  · have hlt : ∀ k, vg.ownBlock = some k → k < w.heap.size := fun k hk => by
      obtain ⟨_, cells, hc⟩ := q_typed h.rg k hk
      exact blk_lt hc
    exact q_move h.rg (fun k hk => hf.block k (hlt k hk) (fun hb => h2 (by have := h.og k hk; rw [this] at hb; exact hb)))
  · have hlt : k < w.heap.size := by
      obtain ⟨_, cells, hc⟩ := q_typed h.rg k hk
      exact blk_lt hc
    rw [ow k hlt]; exact h.og k hk
theorem HRest.setHd (h : HRest w own hp M x vg gs) (j : Nat) (u : Value) : HRest (w.setCell ⟨hp, j, none⟩ u) own hp M x vg gs := by
  obtain ⟨a, b, c, d, e, f2, f3, f5, f4⟩ := h.core (T := fun t => t = 1) (by rintro t rfl; decide) ((Fr.refl (fun b => own b = 1) w).setCell (p := ⟨hp, j, none⟩) (.inl h.ohd) u) (Ow.refl _ _)
  exact ⟨a, b, c, d, f2 (by decide), e, h.none_, f3 (by decide), f5 (by decide), (f4 (by decide)).1, (f4 (by decide)).2, h.nums, fun b hb => h.top b (by simpa [World.setCell] using hb)⟩
theorem hd_set {C : Array Value} (h : w.heap[hp]? = some (.cells C 95 (0, 0))) (j : Nat) (u : Value) : (w.setCell ⟨hp, j, none⟩ u).heap[hp]? = some (.cells (C.setIfInBounds j u) 95 (0, 0)) := by
  rw [setCell_at, if_pos rfl, h]
theorem HRest.arena (h : HRest w own hp M x vg gs) {a : Nat} (hs : ArStep w own w' own' a) :
    hp < w'.heap.size ∧ own' hp = 1 ∧ (x.ah ≠ a → IsAr w' own' x.ah x.ph M.half.size M.half.objs) ∧ (x.as_ ≠ a → IsAr w' own' x.as_ x.ps M.spare.size M.spare.objs) ∧
    (∀ (s p b : Nat), x.bl[s]? = some (some (p, b)) → b ≠ a → ∃ A : AM, M.blocks[s]? = some (some A) ∧ IsAr w' own' b p A.size A.objs) ∧
    RowV w' own' 2 89 1 x.vb x.bl.length (x.bl.map ptrV) ∧ RowV w' own' 3 4 1 x.vr M.reached.length (M.reached.map Value.bool) ∧
    RowV w' own' 5 147 2 x.vt M.roots.length (rootV M.roots) ∧ QRow w' 0 3 1 vg gs.length (gs.map iv) ∧ (∀ k, vg.ownBlock = some k → own' k = 4) := by
  have out : ∀ b, Of own a b → ∀ t, t < 10 → own b ≠ t := fun b hb t ht => by rcases hb with hb | hb | hb <;> omega
  have hlt : ∀ k, vg.ownBlock = some k → k < w.heap.size := fun k hk => by
    obtain ⟨_, cells, hc⟩ := q_typed h.rg k hk
    exact blk_lt hc
  refine ⟨Nat.lt_of_lt_of_le h.hlt hs.fr.size, (hs.ow hp h.hlt).trans h.ohd, fun hne => h.half.fr hs.fr hs.ow (fun b hb => by rcases hb with hb | hb | hb <;> omega), fun hne => h.spare.fr hs.fr hs.ow (fun b hb => by rcases hb with hb | hb | hb <;> omega), fun s p b hsl hne => ?_,
    h.rb.fr hs.fr hs.ow (fun b hb => out b hb 2 (by decide)), h.rr.fr hs.fr hs.ow (fun b hb => out b hb 3 (by decide)), h.rt.fr hs.fr hs.ow (fun b hb => out b hb 5 (by decide)), ?_, fun k hk => ?_⟩
  · obtain ⟨A, h1, h2⟩ := h.blk.2 s p b hsl
    exact ⟨A, h1, h2.fr hs.fr hs.ow (fun c hc => by rcases hc with hc | hc | hc <;> omega)⟩
  · exact q_move h.rg (fun k hk => hs.fr.block k (hlt k hk) (fun hb => out k hb 4 (by decide) (h.og k hk)))
  · rw [hs.ow k (hlt k hk)]; exact h.og k hk
theorem HRest.num_hs (h : HRest w own hp M x vg gs) : x.ah ≠ x.as_ := fun e => by have := h.nums; rw [e] at this; simp at this
theorem HRest.num_hb (h : HRest w own hp M x vg gs) {s p a : Nat} (hs : x.bl[s]? = some (some (p, a))) : x.ah ≠ a ∧ x.as_ ≠ a := by
  have hm : a ∈ x.bl.filterMap (fun o : Option (Nat × Nat) => o.map (fun q => q.2)) := List.mem_filterMap.2 ⟨some (p, a), List.mem_of_getElem? hs, rfl⟩
  have n1 := List.nodup_cons.1 h.nums
  have n2 := List.nodup_cons.1 n1.2
  exact ⟨fun e => n1.1 (List.mem_cons_of_mem _ (e ▸ hm)), fun e => n2.1 (e ▸ hm)⟩
theorem nodup_fm {α β : Type} (f : α → Option β) : ∀ (l : List α), (l.filterMap f).Nodup → ∀ (s t : Nat) (a b : α) (y : β), l[s]? = some a → l[t]? = some b → f a = some y → f b = some y → s = t
  | [], _, s, t, a, b, y, h1, _, _, _ => by simp at h1
  | c :: l, nd, s, t, a, b, y, h1, h2, h3, h4 => by
    have nd' : (l.filterMap f).Nodup := by
      cases hc : f c with
      | none => rwa [List.filterMap_cons_none hc] at nd
      | some z => rw [List.filterMap_cons_some hc] at nd; exact (List.nodup_cons.1 nd).2
    cases s with
    | zero =>
      cases t with
      | zero => rfl
      | succ t =>
        simp at h1 h2
        subst h1
        rw [List.filterMap_cons_some h3] at nd
        exact absurd (List.mem_filterMap.2 ⟨b, List.mem_of_getElem? h2, h4⟩) (List.nodup_cons.1 nd).1
    | succ s =>
      cases t with
      | zero =>
        simp at h1 h2
        subst h2
        rw [List.filterMap_cons_some h4] at nd
        exact absurd (List.mem_filterMap.2 ⟨a, List.mem_of_getElem? h1, h3⟩) (List.nodup_cons.1 nd).1
      | succ t => rw [nodup_fm f l nd' s t a b y (by simpa using h1) (by simpa using h2) h3 h4]
theorem HRest.num_bb (h : HRest w own hp M x vg gs) {s t p q a : Nat} (hs : x.bl[s]? = some (some (p, a))) (ht : x.bl[t]? = some (some (q, a))) : s = t :=
  nodup_fm _ x.bl (List.nodup_cons.1 (List.nodup_cons.1 h.nums).2).2 s t _ _ a hs ht rfl rfl
theorem HMid.stepHalf (h : HMid w own hp M x vg gs) (hs : ArStep w own w' own' x.ah) {A : AM} (hA : IsAr w' own' x.ah x.ph A.size A.objs) : HMid w' own' hp { M with half := A } x vg gs := by
  obtain ⟨a, b, _, d, e, f2, f3, f5, f4, f6⟩ := h.arena hs
  refine ⟨⟨a, b, hA, d (fun e => h.num_hs e.symm), f2, ⟨h.blk.1, fun s p q hq => e s p q hq (h.num_hb hq).1.symm⟩, h.none_, f3, f5, f4, f6, h.nums, hs.top⟩, ?_⟩
  exact (hs.fr.block hp h.hlt (fun hq => by have := h.ohd; rcases hq with hq | hq | hq <;> omega)).trans h.hd
theorem HMid.stepSpare (h : HMid w own hp M x vg gs) (hs : ArStep w own w' own' x.as_) {A : AM} (hA : IsAr w' own' x.as_ x.ps A.size A.objs) : HMid w' own' hp { M with spare := A } x vg gs := by
  obtain ⟨a, b, c, _, e, f2, f3, f5, f4, f6⟩ := h.arena hs
  refine ⟨⟨a, b, c h.num_hs, hA, f2, ⟨h.blk.1, fun s p q hq => e s p q hq (h.num_hb hq).2.symm⟩, h.none_, f3, f5, f4, f6, h.nums, hs.top⟩, ?_⟩
  exact (hs.fr.block hp h.hlt (fun hq => by have := h.ohd; rcases hq with hq | hq | hq <;> omega)).trans h.hd
theorem HMid.stepBlk (h : HMid w own hp M x vg gs) {s p n : Nat} (hsl : x.bl[s]? = some (some (p, n))) (hs : ArStep w own w' own' n) {A : AM} (hA : IsAr w' own' n p A.size A.objs) : HMid w' own' hp { M with blocks := M.blocks.set s (some A) } x vg gs := by
  obtain ⟨a, b, c, d, e, f2, f3, f5, f4, f6⟩ := h.arena hs
  have hlen := h.blk.1
  have hlt : s < x.bl.length := (List.getElem?_eq_some_iff.1 hsl).1
  refine ⟨⟨a, b, c (h.num_hb hsl).1, d (h.num_hb hsl).2, f2, ⟨by show x.bl.length = (M.blocks.set s (some A)).length; rw [List.length_set]; exact hlen, fun t q k hq => ?_⟩, fun t => ?_, f3, f5, f4, f6, h.nums, hs.top⟩, ?_⟩
  · show ∃ A' : AM, (M.blocks.set s (some A))[t]? = _ ∧ _
    by_cases e2 : s = t
    · subst e2
      rw [hsl] at hq
      injection hq with hq; injection hq with hq; injection hq with h1 h2
      subst h1 h2
      exact ⟨A, by rw [List.getElem?_set, if_pos rfl, if_pos (by omega)], hA⟩
    · obtain ⟨A', k1, k2⟩ := e t q k hq (fun e3 => e2 (h.num_bb hsl (e3 ▸ hq)))
      exact ⟨A', by rw [List.getElem?_set, if_neg e2]; exact k1, k2⟩
  · show (M.blocks.set s (some A))[t]? = _ ↔ _
    rw [List.getElem?_set]
    by_cases e2 : s = t
    · subst e2
      rw [if_pos rfl, if_pos (by omega), hsl]
      constructor
      · intro h; cases h
      · intro h; cases h
    · rw [if_neg e2]; exact h.none_ t
  · exact (hs.fr.block hp h.hlt (fun hq => by have := h.ohd; rcases hq with hq | hq | hq <;> omega)).trans h.hd
theorem HRest.slot (h : HRest w own hp M x vg gs) {s : Nat} {A : AM} (hs : M.blocks[s]? = some (some A)) : ∃ p a, x.bl[s]? = some (some (p, a)) ∧ IsAr w own a p A.size A.objs := by
  have hlt : s < M.blocks.length := (List.getElem?_eq_some_iff.1 hs).1
  have hlen := h.blk.1
  have e := List.getElem?_eq_getElem (l := x.bl) (i := s) (by omega)
  cases hb : x.bl[s]'(by omega) with
  | none =>
    rw [hb] at e
    rw [(h.none_ s).2 e] at hs
    cases hs
  | some q =>
    obtain ⟨p, a⟩ := q
    rw [hb] at e
    obtain ⟨A', k1, k2⟩ := h.blk.2 s p a e
    rw [hs] at k1
    injection k1 with k1; injection k1 with k1
    subst k1
    exact ⟨p, a, e, k2⟩
end
section
variable {w : World} {own : Own} {hp : Nat} {M : HM} {x : HX} {vg : Value} {gs : List Nat}
theorem HMid.cell (h : HMid w own hp M x vg gs) (j : Nat) : w.cell? ⟨hp, j, none⟩ = (hdV M x vg)[j]? := by simp [World.cell?, h.hd]
theorem HMid.fz (h : HMid w own hp M x vg gs) (i : Nat) : w.frozen? ⟨hp, i, none⟩ = false := by simp [World.frozen?, h.hd]
theorem HMid.c1 (h : HMid w own hp M x vg gs) : w.cell? ⟨hp, 1, none⟩ = some (.pointer (some ⟨x.ph, 0, none⟩)) := h.cell 1
theorem HMid.c2 (h : HMid w own hp M x vg gs) : w.cell? ⟨hp, 2, none⟩ = some (.pointer (some ⟨x.ps, 0, none⟩)) := h.cell 2
theorem HMid.c3 (h : HMid w own hp M x vg gs) : w.cell? ⟨hp, 3, none⟩ = some x.vb := h.cell 3
theorem HMid.c4 (h : HMid w own hp M x vg gs) : w.cell? ⟨hp, 4, none⟩ = some x.vr := h.cell 4
theorem HMid.c5 (h : HMid w own hp M x vg gs) : w.cell? ⟨hp, 5, none⟩ = some vg := h.cell 5
theorem HMid.c6 (h : HMid w own hp M x vg gs) : w.cell? ⟨hp, 6, none⟩ = some (.int .i64 (M.large : Int)) := h.cell 6
theorem HMid.c9 (h : HMid w own hp M x vg gs) : w.cell? ⟨hp, 9, none⟩ = some x.vt := h.cell 9
end
end Go.Proofs.YtglglknhifjbaaaGreatDoor.Sp
