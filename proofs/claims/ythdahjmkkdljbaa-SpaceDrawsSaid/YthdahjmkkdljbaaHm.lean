/- The heap in memory: what its struct, its arenas and its rows hold. -/
import Derived.Test.YthdahjmkkdljbaaArm
namespace Go.Proofs.Ythdahjmkkdljbaa.Sp
open Go.RowKit Go.Proofs.YthdahjmkkdljbaaW.PrintWords Go.Proofs.YthdahjmkkdljbaaW.PrintLast Go.Proofs.YthdahjmkkdljbaaW.PrintMore
set_option linter.unusedVariables false
set_option linter.unusedSimpArgs false
/-- A block of words. -/
structure AM where
  size : Nat
  objs : List AO
/-- What a heap holds, as plain data. -/
structure HM where
  limit : Nat
  half : AM
  spare : AM
  blocks : List (Option AM)
  reached : List Bool
  large : Nat
  since : Nat
  kept : Nat
  roots : List (Bool × Nat)
  nroots : Nat
  ncoll : Nat
  nres : Nat
  moved : Nat
/-- Where it holds it: the two arenas (block, number), the rows, the large blocks' arenas. -/
structure HX where
  ph : Nat
  ah : Nat
  ps : Nat
  as_ : Nat
  vb : Value
  vr : Value
  vt : Value
  bl : List (Option (Nat × Nat))
def ptrV : Option (Nat × Nat) → Value
  | none => .pointer none
  | some (p, _) => .pointer (some ⟨p, 0, none⟩)
def rootV (l : List (Bool × Nat)) : List Value := l.flatMap fun r => [.bool r.1, wv r.2]
/-- A row that is owned: nil, or a block with that tag. -/
def RowV (w : World) (own : Own) (tag : Nat) (e : TypeId) (size : Nat) (v : Value) (n : Nat) (xs : List Value) : Prop :=
  w.ownsRow 0 e size v n xs ∧ ∀ g, v.ownBlock = some g → own g = tag
theorem RowV.fr {w w' : World} {own own' : Own} {tag n size : Nat} {e : TypeId} {v : Value} {xs : List Value} {P : Nat → Prop} (h : RowV w own tag e size v n xs) (hf : Fr P w w') (ho : Ow own own' w) (hP : ∀ b, P b → own b ≠ tag) : RowV w' own' tag e size v n xs := by
  have hlt : ∀ g, v.ownBlock = some g → g < w.heap.size := fun g hg => by
    obtain ⟨cells, hc⟩ := own_typed h.1 g hg
    exact blk_lt hc
  refine ⟨own_move h.1 (fun k hk => hf.block k (hlt k hk) (fun hp => hP k hp (h.2 k hk))), fun g hg => ?_⟩
  rw [ho g (hlt g hg)]; exact h.2 g hg
/-- The large blocks' arenas. -/
def BlkOk (w : World) (own : Own) (bl : List (Option (Nat × Nat))) (bs : List (Option AM)) : Prop :=
  bl.length = bs.length ∧ ∀ s p a : Nat, bl[s]? = some (some (p, a)) → ∃ A : AM, bs[s]? = some (some A) ∧ IsAr w own a p A.size A.objs
structure HMem (w : World) (own : Own) (hp : Nat) (M : HM) (x : HX) : Prop where
  hd : w.heap[hp]? = some (.cells #[.int .i64 (M.limit : Int), .pointer (some ⟨x.ph, 0, none⟩), .pointer (some ⟨x.ps, 0, none⟩), x.vb, x.vr, .slice none 0 0, .int .i64 (M.large : Int), .int .i64 (M.since : Int), .int .i64 (M.kept : Int), x.vt,
    .int .i64 0, .int .i64 0, .int .i64 0, .int .i64 0, .int .i64 0, .int .i64 (M.nroots : Int), .int .i64 (M.ncoll : Int), .int .i64 (M.nres : Int), .int .i64 (M.moved : Int)] 85 (0, 0))
  ohd : own hp = 1
  half : IsAr w own x.ah x.ph M.half.size M.half.objs
  spare : IsAr w own x.as_ x.ps M.spare.size M.spare.objs
  rb : RowV w own 2 80 1 x.vb x.bl.length (x.bl.map ptrV)
  blk : BlkOk w own x.bl M.blocks
  none_ : ∀ s : Nat, M.blocks[s]? = some none → x.bl[s]? = some none
  rr : RowV w own 3 4 1 x.vr M.reached.length (M.reached.map Value.bool)
  rt : RowV w own 5 112 2 x.vt M.roots.length (rootV M.roots)
  nums : (x.ah :: x.as_ :: x.bl.filterMap (fun o : Option (Nat × Nat) => o.map (fun q => q.2))).Nodup
  top : ∀ b, w.heap.size ≤ b → own b = 0
/-- What a call that changes the heap alone leaves. -/
structure HStep (w : World) (own : Own) (w' : World) (own' : Own) : Prop where
  fr : Fr (fun b => own b ≠ 0) w w'
  ow : Ow own own' w
theorem HStep.refl (w : World) (own : Own) : HStep w own w own := ⟨Fr.refl _ w, Ow.refl own w⟩
theorem HStep.trans {w w1 w2 : World} {o o1 o2 : Own} (h : HStep w o w1 o1) (k : HStep w1 o1 w2 o2) : HStep w o w2 o2 :=
  ⟨h.fr.trans k.fr (fun i hi h1 => by rw [h.ow i hi] at h1; exact h1), h.ow.trans k.ow h.fr.size⟩
theorem HStep.drewN {w : World} {o : Own} (n : Nat) : HStep w o (w.drewN n) o := ⟨(Fr.refl _ w).drewN n, Ow.refl o w⟩
theorem HStep.alloc {w : World} {o : Own} (x : Obj) : HStep w o (w.alloc x) o := ⟨(Fr.refl _ w).alloc x, Ow.refl o w⟩
/-- The heap is as it was where nothing of its own has changed. -/
theorem HMem.fr {w w' : World} {own : Own} {hp : Nat} {M : HM} {x : HX} {P : Nat → Prop} (h : HMem w own hp M x) (hf : Fr P w w') (hP : ∀ b, P b → own b = 0) : HMem w' own hp M x where
  hd := (hf.block hp (blk_lt h.hd) (fun hq => by have := hP hp hq; rw [h.ohd] at this; exact absurd this (by decide))).trans h.hd
  ohd := h.ohd
  half := h.half.fr hf (Ow.refl _ _) (fun b hb => by rw [hP b hb]; omega)
  spare := h.spare.fr hf (Ow.refl _ _) (fun b hb => by rw [hP b hb]; omega)
  rb := h.rb.fr hf (Ow.refl _ _) (fun b hb => by rw [hP b hb]; omega)
  blk := ⟨h.blk.1, fun s p a hs => by
    obtain ⟨A, h1, h2⟩ := h.blk.2 s p a hs
    exact ⟨A, h1, h2.fr hf (Ow.refl _ _) (fun b hb => by rw [hP b hb]; omega)⟩⟩
  none_ := h.none_
  rr := h.rr.fr hf (Ow.refl _ _) (fun b hb => by rw [hP b hb]; omega)
  rt := h.rt.fr hf (Ow.refl _ _) (fun b hb => by rw [hP b hb]; omega)
  nums := h.nums
  top := fun b hb => h.top b (Nat.le_trans hf.size hb)
theorem HMem.drewN {w : World} {own : Own} {hp : Nat} {M : HM} {x : HX} (h : HMem w own hp M x) (n : Nat) : HMem (w.drewN n) own hp M x := h.fr ((Fr.refl (fun _ => False) w).drewN n) (fun b hb => hb.elim)
theorem HMem.alloc {w : World} {own : Own} {hp : Nat} {M : HM} {x : HX} (h : HMem w own hp M x) (o : Obj) : HMem (w.alloc o) own hp M x := h.fr ((Fr.refl (fun _ => False) w).alloc o) (fun b hb => hb.elim)
/-- A block that is none of the heap's. -/
theorem HMem.out {w : World} {own : Own} {hp : Nat} {M : HM} {x : HX} (h : HMem w own hp M x) {b : Nat} (hb : own b = 0) (i : Nat) (u : Value) : HMem (w.setCell ⟨b, i, none⟩ u) own hp M x :=
  h.fr ((Fr.refl (fun c => c = b) w).setCell (.inl rfl) u) (fun c hc => by rw [hc]; exact hb)
/-- An arena of the heap's takes a step. -/
theorem HMem.stepHalf {w w' : World} {own own' : Own} {hp : Nat} {M : HM} {x : HX} (h : HMem w own hp M x) (hs : ArStep w own w' own' x.ah) {A : AM} (hA : IsAr w' own' x.ah x.ph A.size A.objs) : HMem w' own' hp { M with half := A } x := by
  have hne : x.ah ≠ x.as_ := fun e => by have := h.nums; rw [e] at this; simp at this
  have hnb : ∀ (s p a : Nat), x.bl[s]? = some (some (p, a)) → x.ah ≠ a := fun s p a hs e => by
    have h1 := (List.nodup_cons.1 h.nums).1
    apply h1
    refine List.mem_cons_of_mem _ (List.mem_filterMap.2 ⟨some (p, a), List.mem_of_getElem? hs, by rw [e]; rfl⟩)
  have out : ∀ b, Of own x.ah b → ∀ t, t < 10 → own b ≠ t := fun b hb t ht => by rcases hb with hb | hb | hb <;> omega
  exact
  { hd := (hs.fr.block hp (blk_lt h.hd) (fun hq => out hp hq 1 (by decide) h.ohd)).trans h.hd
    ohd := (hs.ow hp (blk_lt h.hd)).trans h.ohd
    half := hA
    spare := h.spare.fr hs.fr hs.ow (fun b hb => by rcases hb with hb | hb | hb <;> omega)
    rb := h.rb.fr hs.fr hs.ow (fun b hb => out b hb 2 (by decide))
    blk := ⟨h.blk.1, fun s p a hsl => by
      obtain ⟨A', h1, h2⟩ := h.blk.2 s p a hsl
      have := hnb s p a hsl
      exact ⟨A', h1, h2.fr hs.fr hs.ow (fun b hb => by rcases hb with hb | hb | hb <;> omega)⟩⟩
    none_ := h.none_
    rr := h.rr.fr hs.fr hs.ow (fun b hb => out b hb 3 (by decide))
    rt := h.rt.fr hs.fr hs.ow (fun b hb => out b hb 5 (by decide))
    nums := h.nums
    top := hs.top }
theorem ArStep.h {w w' : World} {own own' : Own} {a : Nat} (hs : ArStep w own w' own' a) : HStep w own w' own' :=
  ⟨hs.fr.mono (fun b _ hb => by rcases hb with hb | hb | hb <;> omega), hs.ow⟩
section
variable {w : World} {own : Own} {hp : Nat} {M : HM} {x : HX}
theorem HMem.c0 (h : HMem w own hp M x) : w.cell? ⟨hp, 0, none⟩ = some (.int .i64 (M.limit : Int)) := by simp [World.cell?, h.hd]
theorem HMem.c1 (h : HMem w own hp M x) : w.cell? ⟨hp, 1, none⟩ = some (.pointer (some ⟨x.ph, 0, none⟩)) := by simp [World.cell?, h.hd]
theorem HMem.c2 (h : HMem w own hp M x) : w.cell? ⟨hp, 2, none⟩ = some (.pointer (some ⟨x.ps, 0, none⟩)) := by simp [World.cell?, h.hd]
theorem HMem.c3 (h : HMem w own hp M x) : w.cell? ⟨hp, 3, none⟩ = some x.vb := by simp [World.cell?, h.hd]
theorem HMem.c4 (h : HMem w own hp M x) : w.cell? ⟨hp, 4, none⟩ = some x.vr := by simp [World.cell?, h.hd]
theorem HMem.c5 (h : HMem w own hp M x) : w.cell? ⟨hp, 5, none⟩ = some (.slice none 0 0) := by simp [World.cell?, h.hd]
theorem HMem.c6 (h : HMem w own hp M x) : w.cell? ⟨hp, 6, none⟩ = some (.int .i64 (M.large : Int)) := by simp [World.cell?, h.hd]
theorem HMem.c7 (h : HMem w own hp M x) : w.cell? ⟨hp, 7, none⟩ = some (.int .i64 (M.since : Int)) := by simp [World.cell?, h.hd]
theorem HMem.c8 (h : HMem w own hp M x) : w.cell? ⟨hp, 8, none⟩ = some (.int .i64 (M.kept : Int)) := by simp [World.cell?, h.hd]
theorem HMem.c9 (h : HMem w own hp M x) : w.cell? ⟨hp, 9, none⟩ = some x.vt := by simp [World.cell?, h.hd]
theorem HMem.c15 (h : HMem w own hp M x) : w.cell? ⟨hp, 15, none⟩ = some (.int .i64 (M.nroots : Int)) := by simp [World.cell?, h.hd]
theorem HMem.fz (h : HMem w own hp M x) (i : Nat) : w.frozen? ⟨hp, i, none⟩ = false := by simp [World.frozen?, h.hd]
end
end Go.Proofs.Ythdahjmkkdljbaa.Sp
