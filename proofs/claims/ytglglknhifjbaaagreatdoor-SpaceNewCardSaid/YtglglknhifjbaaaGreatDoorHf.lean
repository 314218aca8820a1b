import Derived.Test.YtglglknhifjbaaaGreatDoorExt
namespace Go.Proofs.YtglglknhifjbaaaGreatDoor.Sp
open Go.RowKit Go.Proofs.YtglglknhifjbaaaGreatDoorW.PrintWords Go.Proofs.YtglglknhifjbaaaGreatDoorW.PrintLast Go.Proofs.YtglglknhifjbaaaGreatDoorW.PrintMore
set_option linter.unusedVariables false
set_option linter.unusedSimpArgs false
def AllocPost (w : World) (own : Own) (a p size : Nat) (l : List AO) (k r x : Nat) (e : Ending) (w' : World) : Prop :=
  ∃ own', e = .returned (.tuple #[.int .i64 (usedOf l : Int), .int .i64 0]) ∧ IsAr w' own' a p size (l ++ [(headW k r x, List.replicate (r + x) 0)]) ∧ ArStep w own w' own' a
set_option maxHeartbeats 4000000 in
theorem arAlloc_walk (w : World) (own : Own) (a p size : Nat) (l : List AO) (H : IsAr w own a p size l) (k r x : Nat) (hs : Shape k r x) (hr : usedOf l + (1 + r + x) ≤ size) (ho : ∀ b, w.heap.size ≤ b → own b = 0) :
    Calls Tryz.prog 116 #[.pointer (some ⟨p, 0, none⟩), .int .i64 (k : Int), .int .i64 (r : Int), .int .i64 (x : Int)] w (AllocPost w own a p size l k r x) := by
  obtain ⟨gw, gf, cw, cf, bs, -, c0, c1, c2, -, -⟩ := H.cells
  have hs2 := H.s2
  have HH := Lib.hid H; have HS := Lib.hid hs; have HO := Lib.hid ho
  obtain ⟨_, _, hr2, hx2⟩ := hs
  clear H ho
  go_enter Tryz.func116, Tryz.ntmps116
  go_wp2_with fail
  refine (head_walk k r x HS.out w).mono ?_
  rintro e w' ⟨rfl, rfl⟩
  have hsub : IntKind.i64.wrap ((size : Int) - (usedOf l : Int)) = (size : Int) - (usedOf l : Int) := Go.IntWalk.i64_in _ (by omega)
  have hd : decide ((size : Int) - (usedOf l : Int) < 1 + (r : Int) + (x : Int)) = false := decide_eq_false (by omega)
  go_wp2_with fail
  go_quiet (fail)
  go_wp2_with fail
  rw [show (1 : Int) + (r : Int) + (x : Int) = ((1 + r + x : Nat) : Int) by omega]
  refine (extend_walk _ own a p size l (HH.out.drewN _) (headW k r x) (1 + r + x) (by have := HS.out.lt; omega) (by omega) hr HO.out).mono ?_
  rintro e w' ⟨own', rfl, h1, h2⟩
  have H1 := Lib.hid h1; have H2 := Lib.hid h2
  clear h1 h2
  go_wp2_with fail
  go_ret2
  refine ⟨own', rfl, ?_, ?_⟩
  · have := H1.out
    rwa [show 1 + r + x - 1 = r + x by omega] at this
  · exact ⟨⟨H2.out.fr.os, H2.out.fr.tape, H2.out.fr.output, H2.out.fr.size, H2.out.fr.block⟩, H2.out.ow, H2.out.nw, H2.out.top⟩
def FullPost (w : World) (e : Ending) (w' : World) : Prop := e = .returned (.tuple #[.int .i64 0, .int .i64 22]) ∧ ∃ n, w' = w.drewN n
set_option maxHeartbeats 4000000 in
theorem arAlloc_full (w : World) (own : Own) (a p size : Nat) (l : List AO) (H : IsAr w own a p size l) (k r x : Nat) (hs : Shape k r x) (hr : size < usedOf l + (1 + r + x)) :
    Calls Tryz.prog 116 #[.pointer (some ⟨p, 0, none⟩), .int .i64 (k : Int), .int .i64 (r : Int), .int .i64 (x : Int)] w (FullPost w) := by
  obtain ⟨gw, gf, cw, cf, bs, -, c0, c1, c2, -, -⟩ := H.cells
  have hs2 := H.s2
  have hfit := H.fit
  have HH := Lib.hid H; have HS := Lib.hid hs
  obtain ⟨_, _, hr2, hx2⟩ := hs
  clear H
  go_enter Tryz.func116, Tryz.ntmps116
  go_wp2_with fail
  refine (head_walk k r x HS.out w).mono ?_
  rintro e w' ⟨rfl, rfl⟩
  have hsub : IntKind.i64.wrap ((size : Int) - (usedOf l : Int)) = (size : Int) - (usedOf l : Int) := Go.IntWalk.i64_in _ (by omega)
  have hd : decide ((size : Int) - (usedOf l : Int) < 1 + (r : Int) + (x : Int)) = true := decide_eq_true (by omega)
  go_wp2_with fail
  go_quiet (fail)
  go_wp2_with fail
  go_ret2
  exact ⟨rfl, _, rfl⟩
theorem slice_inj {g g' n n' c c' : Nat} (h : Value.slice (some ⟨g, 0, none⟩) n c = .slice (some ⟨g', 0, none⟩) n' c') : g = g' := by
  injection h with h _ _; injection h with h; injection h with h
set_option maxHeartbeats 4000000 in
theorem arGet_walk (w : World) (own : Own) (a p size : Nat) (l : List AO) (H : IsAr w own a p size l) (i : Nat) (hi : i < l.length) (k r x : Nat) (hs : Shape k r x) (hh : l[i].1 = headW k r x) (hf : l[i].2.length = r + x) (at_ : Int) (hat : at_ = (posOf l i : Int)) (j : Nat) (hj : j < r + x) :
    Calls Tryz.prog 280 #[.pointer (some ⟨p, 0, none⟩), .int .i64 at_, .int .i64 (j : Int)] w fun e w' => e = .returned (.tuple #[.int .u64 (l[i].2[j] : Int), .int .i64 0]) ∧ w = w' := by
  obtain ⟨gw, gf, cw, cf, bs, -, c0, c1, c2, -, -, -, cW, -⟩ := H.cells
  have hpos := pos_used l i hi
  have hlen := block_len l
  have hos : osize l[i] = 1 + (r + x) := by unfold osize; omega
  have hc := cW (posOf l i + 1 + j) (by omega)
  have e := field_at l i hi j (by omega)
  rw [List.getElem?_eq_getElem (by omega)] at e
  rw [Option.some.inj e] at hc
  unfold wv at hc
  have C1 := Lib.hid c1
  obtain ⟨v, hv⟩ : ∃ v, l[i].2[j] = v := ⟨_, rfl⟩
  rw [hv] at hc ⊢
  have HH := Lib.hid H; have HS := Lib.hid hs; have HHd := Lib.hid hh; have HF := Lib.hid hf; have HA := Lib.hid hat
  clear H hs hh hf hat cW hlen e hv c0 c1 c2
  go_enter Tryz.func280, Tryz.ntmps280
  go_wp2_with fail
  refine (fields_walk w own a p size l HH.out i hi k r x HS.out HHd.out HF.out at_ HA.out).mono ?_
  rintro e w' ⟨A, rfl, rfl, hA⟩
  obtain ⟨gw', cw', rfl, -, hA2⟩ := hA (by omega)
  have hg : gw = gw' := slice_inj (Option.some.inj (C1.out.symm.trans hA2))
  subst hg
  clear hA2 hA
  obtain ⟨q, hq⟩ : ∃ q, posOf l i = q := ⟨_, rfl⟩
  rw [hq] at hc hpos
  rw [hq]
  have hs2 := HH.out.s2
  have hfit := HH.out.fit
  rw [hos] at hpos
  clear hq hos
  have hd : decide ((r : Int) + (x : Int) ≤ (j : Int)) = false := decide_eq_false (by omega)
  go_wp2_with fail
  go_ret2
  exact ⟨rfl, rfl⟩
def SetPost (w : World) (own : Own) (a p size : Nat) (l : List AO) (i j v : Nat) (e : Ending) (w' : World) : Prop :=
  e = .returned (.int .i64 0) ∧ (∃ h : i < l.length, IsAr w' own a p size (l.set i (l[i].1, l[i].2.set j v))) ∧ ArStep w own w' own a
theorem set_fin {w : World} {own : Own} {a p size : Nat} {l : List AO} (H : IsAr w own a p size l) (i : Nat) (hi : i < l.length) (j v gw cw n : Nat) (hj : j < l[i].2.length) (hv : v < 18446744073709551616) (ho : ∀ b, w.heap.size ≤ b → own b = 0) (hc : w.cell? ⟨p, 1, none⟩ = some (.slice (some ⟨gw, 0, none⟩) n cw)) :
    SetPost w own a p size l i j v (.returned (.int .i64 0)) (w.setCell ⟨gw, posOf l i + 1 + j, none⟩ (.int .u64 (v : Int))) := by
  obtain ⟨gw', gf, cw', cf, bs, h1, h2, h3, h4, h5, h6, h7⟩ := H.out
  have hcell : w.cell? ⟨p, 1, none⟩ = some (.slice (some ⟨gw', 0, none⟩) (usedOf l) cw') := by simp [World.cell?, h1]
  have hg : gw = gw' := slice_inj (Option.some.inj (hc.symm.trans hcell))
  subst hg
  have hne : gw ≠ gf := by rintro rfl; omega
  have hR : Rw w p size gw cw' gf cf (blockWords l) bs := ⟨by rw [block_len]; exact h1, h2, h3, hne⟩
  have hS := hR.setw (posOf l i + 1 + j) v
  rw [← set_field l i hi j v hj] at hS
  have hos : osize (l[i].1, l[i].2.set j v) = osize l[i] := by unfold osize; rw [List.length_set]
  refine ⟨rfl, ⟨hi, ⟨gw, gf, cw', cf, bs, ?_, hS.rw, hS.rf, h4.set i _ hi hos, h5, h6, h7⟩, H.s1, H.s2, by rw [used_set l i _ hi hos]; exact H.fit, fun o hm => ?_⟩, ⟨?_, Ow.refl _ _, fun b hb => .inl (ho b hb), fun b hb => ho b (by simpa [World.setCell] using hb)⟩⟩
  · have := hS.hp
    rw [block_len] at this
    exact this
  · rcases List.mem_or_eq_of_mem_set hm with hm | rfl
    · exact H.lt o hm
    · refine ⟨(H.lt _ (List.getElem_mem hi)).1, fun y hy => ?_⟩
      rcases List.mem_or_eq_of_mem_set hy with hy | rfl
      · exact (H.lt _ (List.getElem_mem hi)).2 y hy
      · exact hv
  · exact (Fr.refl _ w).setCell (.inl (.inr (.inl h6))) _
set_option maxHeartbeats 4000000 in
theorem arSet_walk (w : World) (own : Own) (a p size : Nat) (l : List AO) (H : IsAr w own a p size l) (i : Nat) (hi : i < l.length) (k r x : Nat) (hs : Shape k r x) (hh : l[i].1 = headW k r x) (hf : l[i].2.length = r + x) (at_ : Int) (hat : at_ = (posOf l i : Int)) (j v : Nat) (hj : j < r + x) (hv : v < 18446744073709551616) (ho : ∀ b, w.heap.size ≤ b → own b = 0) :
    Calls Tryz.prog 281 #[.pointer (some ⟨p, 0, none⟩), .int .i64 at_, .int .i64 (j : Int), .int .u64 (v : Int)] w (SetPost w own a p size l i j v) := by
  obtain ⟨gw, gf, cw, cf, bs, -, c0, c1, c2, -, -, -, cW, -, fW, -⟩ := H.cells
  have hpos := pos_used l i hi
  have hlen := block_len l
  have hos : osize l[i] = 1 + (r + x) := by unfold osize; omega
  have hc := cW (posOf l i + 1 + j) (by omega)
  unfold wv at hc
  have hfz := fW (posOf l i + 1 + j)
  have C1 := Lib.hid c1
  obtain ⟨y, hy⟩ : ∃ y, (blockWords l)[posOf l i + 1 + j]'(by omega) = y := ⟨_, rfl⟩
  rw [hy] at hc
  have HH := Lib.hid H; have HS := Lib.hid hs; have HHd := Lib.hid hh; have HF := Lib.hid hf; have HA := Lib.hid hat; have HO := Lib.hid ho
  clear H hs hh hf hat cW hlen hy c0 c1 c2 fW ho
  go_enter Tryz.func281, Tryz.ntmps281
  go_wp2_with fail
  refine (fields_walk w own a p size l HH.out i hi k r x HS.out HHd.out HF.out at_ HA.out).mono ?_
  rintro e w' ⟨A, rfl, rfl, hA⟩
  obtain ⟨gw', cw', rfl, -, hA2⟩ := hA (by omega)
  have hg : gw = gw' := slice_inj (Option.some.inj (C1.out.symm.trans hA2))
  subst hg
  clear hA2 hA
  have hfin := set_fin HH.out i hi j v gw cw (usedOf l) (by rw [HF.out]; exact hj) hv HO.out C1.out
  have HFin := Lib.hid hfin
  clear hfin
  obtain ⟨q, hq⟩ : ∃ q, posOf l i = q := ⟨_, rfl⟩
  rw [hq] at hc hpos hfz HFin
  rw [hq]
  have hs2 := HH.out.s2
  have hfit := HH.out.fit
  rw [hos] at hpos
  clear hq hos
  have hd : decide ((r : Int) + (x : Int) ≤ (j : Int)) = false := decide_eq_false (by omega)
  go_wp2_with fail
  go_ret
  exact HFin.out
end Go.Proofs.YtglglknhifjbaaaGreatDoor.Sp
namespace Go.Proofs.YtglglknhifjbaaaGreatDoor.Sp
open Go.RowKit Go.Proofs.YtglglknhifjbaaaGreatDoorW.PrintWords Go.Proofs.YtglglknhifjbaaaGreatDoorW.PrintLast Go.Proofs.YtglglknhifjbaaaGreatDoorW.PrintMore
set_option linter.unusedVariables false
set_option linter.unusedSimpArgs false
structure HX where
  ph : Nat
  ah : Nat
  ps : Nat
  as_ : Nat
  vb : Value
  vr : Value
  vt : Value
  bl : List (Option (Nat × Nat))
def ptrV : Option (Nat × Nat) → Value
  | none => .pointer none
  | some (p, _) => .pointer (some ⟨p, 0, none⟩)
def rootV (l : List (Bool × Nat)) : List Value := l.flatMap fun r => [.bool r.1, wv r.2]
def RowV (w : World) (own : Own) (tag : Nat) (e : TypeId) (size : Nat) (v : Value) (n : Nat) (xs : List Value) : Prop :=
  w.ownsRow 0 e size v n xs ∧ ∀ g, v.ownBlock = some g → own g = tag
theorem RowV.fr {w w' : World} {own own' : Own} {tag n size : Nat} {e : TypeId} {v : Value} {xs : List Value} {P : Nat → Prop} (h : RowV w own tag e size v n xs) (hf : Fr P w w') (ho : Ow own own' w) (hP : ∀ b, P b → own b ≠ tag) : RowV w' own' tag e size v n xs := by
  have hlt : ∀ g, v.ownBlock = some g → g < w.heap.size := fun g hg => by
    obtain ⟨cells, hc⟩ := own_typed h.1 g hg
    exact blk_lt hc
  refine ⟨own_move h.1 (fun k hk => hf.block k (hlt k hk) (fun hp => hP k hp (h.2 k hk))), fun g hg => ?_⟩
  rw [ho g (hlt g hg)]; exact h.2 g hg
def BlkOk (w : World) (own : Own) (bl : List (Option (Nat × Nat))) (bs : List (Option AM)) : Prop :=
  bl.length = bs.length ∧ ∀ s p a : Nat, bl[s]? = some (some (p, a)) → ∃ A : AM, bs[s]? = some (some A) ∧ IsAr w own a p A.size A.objs
structure HMem (w : World) (own : Own) (hp : Nat) (M : HM) (x : HX) : Prop where
  hd : w.heap[hp]? = some (.cells #[.int .i64 (M.limit : Int), .pointer (some ⟨x.ph, 0, none⟩), .pointer (some ⟨x.ps, 0, none⟩), x.vb, x.vr, .slice none 0 0, .int .i64 (M.large : Int), .int .i64 (M.since : Int), .int .i64 (M.kept : Int), x.vt,
    .int .i64 0, .int .i64 0, .int .i64 0, .int .i64 0, .int .i64 0, .int .i64 (M.nroots : Int), .int .i64 M.ncoll, .int .i64 M.nres, .int .i64 M.moved] 95 (0, 0))
  ohd : own hp = 1
  half : IsAr w own x.ah x.ph M.half.size M.half.objs
  spare : IsAr w own x.as_ x.ps M.spare.size M.spare.objs
  rb : RowV w own 2 89 1 x.vb x.bl.length (x.bl.map ptrV)
  blk : BlkOk w own x.bl M.blocks
  none_ : ∀ s : Nat, M.blocks[s]? = some none ↔ x.bl[s]? = some none
  rr : RowV w own 3 4 1 x.vr M.reached.length (M.reached.map Value.bool)
  rt : RowV w own 5 147 2 x.vt M.roots.length (rootV M.roots)
  nums : (x.ah :: x.as_ :: x.bl.filterMap (fun o : Option (Nat × Nat) => o.map (fun q => q.2))).Nodup
  top : ∀ b, w.heap.size ≤ b → own b = 0
structure HStep (w : World) (own : Own) (w' : World) (own' : Own) : Prop where
  fr : Fr (fun b => own b ≠ 0) w w'
  ow : Ow own own' w
theorem HStep.refl (w : World) (own : Own) : HStep w own w own := ⟨Fr.refl _ w, Ow.refl own w⟩
theorem HStep.trans {w w1 w2 : World} {o o1 o2 : Own} (h : HStep w o w1 o1) (k : HStep w1 o1 w2 o2) : HStep w o w2 o2 :=
  ⟨h.fr.trans k.fr (fun i hi h1 => by rw [h.ow i hi] at h1; exact h1), h.ow.trans k.ow h.fr.size⟩
theorem HStep.drewN {w : World} {o : Own} (n : Nat) : HStep w o (w.drewN n) o := ⟨(Fr.refl _ w).drewN n, Ow.refl o w⟩
theorem HStep.alloc {w : World} {o : Own} (x : Obj) : HStep w o (w.alloc x) o := ⟨(Fr.refl _ w).alloc x, Ow.refl o w⟩
theorem HMem.fr {w w' : World} {own : Own} {hp : Nat} {M : HM} {x : HX} {P : Nat → Prop} (h : HMem w own hp M x) (hf : Fr P w w') (hP : ∀ b, P b → own b = 0) : HMem w' own hp M x where
  hd := (hf.block hp (blk_lt h.hd) (fun hq => by have := hP hp hq; rw [h.ohd] at this; exact absurd this (by decide))).trans h.hd
  ohd := h.ohd
  half := h.half.fr hf (Ow.refl _ _) (fun b hb => by rw [hP b hb]; omega)
  spare := h.spare.fr hf (Ow.refl _ _) (fun b hb => by rw [hP b hb]; omega)
  rb := h.rb.fr hf (Ow.refl _ _) (fun b hb => by rw [hP b hb]; omega)
  blk := ⟨h.blk.1, fun s p a hs => by
    obtain ⟨A, h1, h2⟩ := h.blk.2 s p a hs
    exact ⟨A, h1, h2.fr hf (Ow.refl _ _) (fun b hb => by rw [hP b hb]; omega)⟩⟩
  none_ := h.none_
  rr := h.rr.fr hf (Ow.refl _ _) (fun b hb => by rw [hP b hb]; omega)
  rt := h.rt.fr hf (Ow.refl _ _) (fun b hb => by rw [hP b hb]; omega)
  nums := h.nums
  top := fun b hb => h.top b (Nat.le_trans hf.size hb)
theorem HMem.drewN {w : World} {own : Own} {hp : Nat} {M : HM} {x : HX} (h : HMem w own hp M x) (n : Nat) : HMem (w.drewN n) own hp M x := h.fr ((Fr.refl (fun _ => False) w).drewN n) (fun b hb => hb.elim)
theorem HMem.alloc {w : World} {own : Own} {hp : Nat} {M : HM} {x : HX} (h : HMem w own hp M x) (o : Obj) : HMem (w.alloc o) own hp M x := h.fr ((Fr.refl (fun _ => False) w).alloc o) (fun b hb => hb.elim)
theorem HMem.out {w : World} {own : Own} {hp : Nat} {M : HM} {x : HX} (h : HMem w own hp M x) {b : Nat} (hb : own b = 0) (i : Nat) (u : Value) : HMem (w.setCell ⟨b, i, none⟩ u) own hp M x :=
  h.fr ((Fr.refl (fun c => c = b) w).setCell (.inl rfl) u) (fun c hc => by rw [hc]; exact hb)
theorem HMem.stepHalf {w w' : World} {own own' : Own} {hp : Nat} {M : HM} {x : HX} (h : HMem w own hp M x) (hs : ArStep w own w' own' x.ah) {A : AM} (hA : IsAr w' own' x.ah x.ph A.size A.objs) : HMem w' own' hp { M with half := A } x := by
  have hne : x.ah ≠ x.as_ := fun e => by have := h.nums; rw [e] at this; simp at this
  have hnb : ∀ (s p a : Nat), x.bl[s]? = some (some (p, a)) → x.ah ≠ a := fun s p a hs e => by
    have h1 := (List.nodup_cons.1 h.nums).1
    apply h1
    refine List.mem_cons_of_mem _ (List.mem_filterMap.2 ⟨some (p, a), List.mem_of_getElem? hs, by rw [e]; rfl⟩)
  have out : ∀ b, Of own x.ah b → ∀ t, t < 10 → own b ≠ t := fun b hb t ht => by rcases hb with hb | hb | hb <;> omega
  exact
  { hd := (hs.fr.block hp (blk_lt h.hd) (fun hq => out hp hq 1 (by decide) h.ohd)).trans h.hd
    ohd := (hs.ow hp (blk_lt h.hd)).trans h.ohd
    half := hA
    spare := h.spare.fr hs.fr hs.ow (fun b hb => by rcases hb with hb | hb | hb <;> omega)
    rb := h.rb.fr hs.fr hs.ow (fun b hb => out b hb 2 (by decide))
    blk := ⟨h.blk.1, fun s p a hsl => by
      obtain ⟨A', h1, h2⟩ := h.blk.2 s p a hsl
      have := hnb s p a hsl
      exact ⟨A', h1, h2.fr hs.fr hs.ow (fun b hb => by rcases hb with hb | hb | hb <;> omega)⟩⟩
    none_ := h.none_
    rr := h.rr.fr hs.fr hs.ow (fun b hb => out b hb 3 (by decide))
    rt := h.rt.fr hs.fr hs.ow (fun b hb => out b hb 5 (by decide))
    nums := h.nums
    top := hs.top }
theorem ArStep.h {w w' : World} {own own' : Own} {a : Nat} (hs : ArStep w own w' own' a) : HStep w own w' own' :=
  ⟨hs.fr.mono (fun b _ hb => by rcases hb with hb | hb | hb <;> omega), hs.ow⟩
section
variable {w : World} {own : Own} {hp : Nat} {M : HM} {x : HX}
theorem HMem.c0 (h : HMem w own hp M x) : w.cell? ⟨hp, 0, none⟩ = some (.int .i64 (M.limit : Int)) := by simp [World.cell?, h.hd]
theorem HMem.c1 (h : HMem w own hp M x) : w.cell? ⟨hp, 1, none⟩ = some (.pointer (some ⟨x.ph, 0, none⟩)) := by simp [World.cell?, h.hd]
theorem HMem.c2 (h : HMem w own hp M x) : w.cell? ⟨hp, 2, none⟩ = some (.pointer (some ⟨x.ps, 0, none⟩)) := by simp [World.cell?, h.hd]
theorem HMem.c3 (h : HMem w own hp M x) : w.cell? ⟨hp, 3, none⟩ = some x.vb := by simp [World.cell?, h.hd]
theorem HMem.c4 (h : HMem w own hp M x) : w.cell? ⟨hp, 4, none⟩ = some x.vr := by simp [World.cell?, h.hd]
theorem HMem.c5 (h : HMem w own hp M x) : w.cell? ⟨hp, 5, none⟩ = some (.slice none 0 0) := by simp [World.cell?, h.hd]
theorem HMem.c6 (h : HMem w own hp M x) : w.cell? ⟨hp, 6, none⟩ = some (.int .i64 (M.large : Int)) := by simp [World.cell?, h.hd]
theorem HMem.c7 (h : HMem w own hp M x) : w.cell? ⟨hp, 7, none⟩ = some (.int .i64 (M.since : Int)) := by simp [World.cell?, h.hd]
theorem HMem.c8 (h : HMem w own hp M x) : w.cell? ⟨hp, 8, none⟩ = some (.int .i64 (M.kept : Int)) := by simp [World.cell?, h.hd]
theorem HMem.c9 (h : HMem w own hp M x) : w.cell? ⟨hp, 9, none⟩ = some x.vt := by simp [World.cell?, h.hd]
theorem HMem.c15 (h : HMem w own hp M x) : w.cell? ⟨hp, 15, none⟩ = some (.int .i64 (M.nroots : Int)) := by simp [World.cell?, h.hd]
theorem HMem.fz (h : HMem w own hp M x) (i : Nat) : w.frozen? ⟨hp, i, none⟩ = false := by simp [World.frozen?, h.hd]
end
end Go.Proofs.YtglglknhifjbaaaGreatDoor.Sp
namespace Go.Proofs.YtglglknhifjbaaaGreatDoor.Sp
open Go.RowKit Go.Proofs.YtglglknhifjbaaaGreatDoorW.PrintWords Go.Proofs.YtglglknhifjbaaaGreatDoorW.PrintLast Go.Proofs.YtglglknhifjbaaaGreatDoorW.PrintMore
set_option linter.unusedVariables false
set_option linter.unusedSimpArgs false
theorem IsAr.own {w : World} {own own' : Own} {a p size : Nat} {l : List AO} (h : IsAr w own a p size l) (ho : ∀ b, own b ≠ 0 → own' b = own b) : IsAr w own' a p size l := by
  obtain ⟨gw, gf, cw, cf, bs, h1, h2, h3, h4, h5, h6, h7⟩ := h.out
  exact ⟨⟨gw, gf, cw, cf, bs, h1, h2, h3, h4, by rw [ho p (by omega)]; exact h5, by rw [ho gw (by omega)]; exact h6, by rw [ho gf (by omega)]; exact h7⟩, h.s1, h.s2, h.fit, h.lt⟩
def HM.new (limit : Nat) : HM := ⟨limit, ⟨64, []⟩, ⟨64, []⟩, [], [], 0, 0, 0, [], 0, 0, 0, 0⟩
def HNewPost (w : World) (limit : Nat) (e : Ending) (w' : World) : Prop :=
  ∃ hp own x, e = .returned (.tuple #[.pointer (some ⟨hp, 0, none⟩), .int .i64 0]) ∧ HMem w' own hp (HM.new limit) x ∧ Below w.heap.size w w' ∧ ∀ b, b < w.heap.size → own b = 0
theorem hnew_fin {w w1 w2 : World} {limit p1 p2 : Nat} {own1 own2 : Own}
    (b1 : Below (w.heap.size + 1) (w.alloc (.cells #[.int .i64 (limit : Int), .pointer none, .pointer none, .slice none 0 0, .slice none 0 0, .slice none 0 0, .int .i64 0, .int .i64 0, .int .i64 0, .slice none 0 0, .int .i64 0, .int .i64 0, .int .i64 0, .int .i64 0, .int .i64 0, .int .i64 0, .int .i64 0, .int .i64 0, .int .i64 0] 95)) w1)
    (o1 : Ow (fun _ => 0) own1 (w.alloc (.cells #[.int .i64 (limit : Int), .pointer none, .pointer none, .slice none 0 0, .slice none 0 0, .slice none 0 0, .int .i64 0, .int .i64 0, .int .i64 0, .slice none 0 0, .int .i64 0, .int .i64 0, .int .i64 0, .int .i64 0, .int .i64 0, .int .i64 0, .int .i64 0, .int .i64 0, .int .i64 0] 95)))
    (i1 : IsAr w1 own1 0 p1 64 []) (b2 : Below w1.heap.size (w1.setCell ⟨w.heap.size, 1, none⟩ (.pointer (some ⟨p1, 0, none⟩))) w2) (o2 : Ow own1 own2 (w1.setCell ⟨w.heap.size, 1, none⟩ (.pointer (some ⟨p1, 0, none⟩)))) (i2 : IsAr w2 own2 1 p2 64 []) (t2 : ∀ b, w2.heap.size ≤ b → own2 b = 0) :
    HNewPost w limit (.returned (.tuple #[.pointer (some ⟨w.heap.size, 0, none⟩), .int .i64 0])) (w2.setCell ⟨w.heap.size, 2, none⟩ (.pointer (some ⟨p2, 0, none⟩))) := by
  obtain ⟨A, hA⟩ : ∃ A, w.alloc (.cells #[.int .i64 (limit : Int), .pointer none, .pointer none, .slice none 0 0, .slice none 0 0, .slice none 0 0, .int .i64 0, .int .i64 0, .int .i64 0, .slice none 0 0, .int .i64 0, .int .i64 0, .int .i64 0, .int .i64 0, .int .i64 0, .int .i64 0, .int .i64 0, .int .i64 0, .int .i64 0] 95) = A := ⟨_, rfl⟩
  have hAs : A.heap.size = w.heap.size + 1 := by rw [← hA]; simp
  have hAh : A.heap[w.heap.size]? = some (.cells #[.int .i64 (limit : Int), .pointer none, .pointer none, .slice none 0 0, .slice none 0 0, .slice none 0 0, .int .i64 0, .int .i64 0, .int .i64 0, .slice none 0 0, .int .i64 0, .int .i64 0, .int .i64 0, .int .i64 0, .int .i64 0, .int .i64 0, .int .i64 0, .int .i64 0, .int .i64 0] 95 (0, 0)) := by rw [← hA, alloc_at, if_pos rfl]
  have hbA : Below w.heap.size w A := by rw [← hA]; exact (Below.refl _ w).alloc (Nat.le_refl _) _
  rw [hA] at b1 o1
  have hs1 := b1.size
  have h1 : w1.heap[w.heap.size]? = _ := (b1.block w.heap.size (by omega)).trans hAh
  have hsz : (w1.setCell ⟨w.heap.size, 1, none⟩ (.pointer (some ⟨p1, 0, none⟩))).heap.size = w1.heap.size := by simp [World.setCell]
  have hs2 := b2.size
  rw [hsz] at hs2
  have h2 : w2.heap[w.heap.size]? = some (.cells #[.int .i64 (limit : Int), .pointer (some ⟨p1, 0, none⟩), .pointer none, .slice none 0 0, .slice none 0 0, .slice none 0 0, .int .i64 0, .int .i64 0, .int .i64 0, .slice none 0 0, .int .i64 0, .int .i64 0, .int .i64 0, .int .i64 0, .int .i64 0, .int .i64 0, .int .i64 0, .int .i64 0, .int .i64 0] 95 (0, 0)) := by
    rw [b2.block w.heap.size (by omega), setCell_at, if_pos rfl, h1]; rfl
  have z1 : own1 w.heap.size = 0 := o1 _ (by omega)
  have z2 : own2 w.heap.size = 0 := (o2 _ (by omega)).trans z1
  have i1a : IsAr (w1.setCell ⟨w.heap.size, 1, none⟩ (.pointer (some ⟨p1, 0, none⟩))) own1 0 p1 64 [] := i1.fr ((Fr.refl (fun c => c = w.heap.size) w1).setCell (.inl rfl) _) (Ow.refl _ _) (fun b hb => by rw [hb, z1]; decide)
  have i1b : IsAr w2 own2 0 p1 64 [] := i1a.fr (Fr.below (P := fun _ => False) (by rw [hsz]; exact b2)) o2 (fun b hb => hb.elim)
  have i1c : IsAr (w2.setCell ⟨w.heap.size, 2, none⟩ (.pointer (some ⟨p2, 0, none⟩))) own2 0 p1 64 [] := i1b.fr ((Fr.refl (fun c => c = w.heap.size) w2).setCell (.inl rfl) _) (Ow.refl _ _) (fun b hb => by rw [hb, z2]; decide)
  have i2c : IsAr (w2.setCell ⟨w.heap.size, 2, none⟩ (.pointer (some ⟨p2, 0, none⟩))) own2 1 p2 64 [] := i2.fr ((Fr.refl (fun c => c = w.heap.size) w2).setCell (.inl rfl) _) (Ow.refl _ _) (fun b hb => by rw [hb, z2]; decide)
  have hown : ∀ b, own2 b ≠ 0 → (fun b => if b = w.heap.size then 1 else own2 b) b = own2 b := fun b hb => by
    dsimp only
    rw [if_neg (by rintro rfl; exact hb z2)]
  have nil : ∀ (W : World) (o : Own) (t : Nat) (e : TypeId) (s : Nat), RowV W o t e s (.slice none 0 0) 0 [] := fun W o t e s => ⟨⟨by simp, .inl ⟨rfl, rfl⟩⟩, fun g hg => by cases hg⟩
  refine ⟨w.heap.size, fun b => if b = w.heap.size then 1 else own2 b, ⟨p1, 0, p2, 1, .slice none 0 0, .slice none 0 0, .slice none 0 0, []⟩, rfl, ⟨?_, if_pos rfl, i1c.own hown, i2c.own hown, nil _ _ _ _ _, ⟨rfl, fun s p a h => by simp at h⟩, fun s => by simp [HM.new], nil _ _ _ _ _, nil _ _ _ _ _, by simp, fun b hb => ?_⟩, ?_, fun b hb => ?_⟩
  · rw [setCell_at, if_pos rfl, h2]; rfl
  · have hb' : w2.heap.size ≤ b := by simpa [World.setCell] using hb
    show (if b = w.heap.size then 1 else own2 b) = 0
    rw [if_neg (by omega)]; exact t2 b hb'
  · have e1 := (hbA.trans (b1.mono (by omega))).setCell (p := ⟨w.heap.size, 1, none⟩) (Nat.le_refl _) (.pointer (some ⟨p1, 0, none⟩))
    exact (e1.trans (b2.mono (by omega))).setCell (Nat.le_refl _) _
  · show (if b = w.heap.size then 1 else own2 b) = 0
    rw [if_neg (by omega)]
    exact (o2 b (by omega)).trans (o1 b (by omega))
set_option maxHeartbeats 4000000 in
set_option maxRecDepth 100000 in
theorem heapNew_walk (w : World) (limit : Nat) (h1 : 128 ≤ limit) (h2 : limit ≤ 1048576) : Calls Tryz.prog 37 #[.int .i64 (limit : Int)] w (HNewPost w limit) := by
  go_enter Tryz.func37, Tryz.ntmps37
  go_wp2_with fail
  refine (arNew_walk _ (fun _ => 0) 0 64 (by decide) (by decide) (fun b hb => rfl)).mono ?_
  rintro e w1 ⟨p1, own1, rfl, hp1, hb1, ho1, hi1, ht1⟩
  have hb1' : Below (w.heap.size + 1) _ w1 := hb1.mono (by simp)
  have hX : w1.heap[w.heap.size]? = some (.cells #[.int .i64 (limit : Int), .pointer none, .pointer none, .slice none 0 0, .slice none 0 0, .slice none 0 0, .int .i64 0, .int .i64 0, .int .i64 0, .slice none 0 0, .int .i64 0, .int .i64 0, .int .i64 0, .int .i64 0, .int .i64 0, .int .i64 0, .int .i64 0, .int .i64 0, .int .i64 0] 95 (0, 0)) := by
    rw [hb1'.block w.heap.size (by omega), alloc_at, if_pos rfl]
  have x1 : w1.cell? ⟨w.heap.size, 1, none⟩ = some (.pointer none) := by simp [World.cell?, hX]
  have x2 : w1.frozen? ⟨w.heap.size, 1, none⟩ = false := by simp [World.frozen?, hX]
  have HB1 := Lib.hid hb1'; have HO1 := Lib.hid ho1; have HI1 := Lib.hid hi1; have HT1 := Lib.hid ht1; have HX := Lib.hid hX
  have hsz1 := hb1'.size
  clear hb1' hb1 ho1 hi1 ht1 hX hp1
  go_wp2_with fail
  refine (arNew_walk _ own1 1 64 (by decide) (by decide) (fun b hb => HT1.out b (by simpa [World.setCell] using hb))).mono ?_
  rintro e w2 ⟨p2, own2, rfl, hp2, hb2, ho2, hi2, ht2⟩
  have hb2' : Below w1.heap.size (w1.setCell ⟨w.heap.size, 1, none⟩ (.pointer (some ⟨p1, 0, none⟩))) w2 := by
    have e1 : (w1.setCell ⟨w.heap.size, 1, none⟩ (.pointer (some ⟨p1, 0, none⟩))).heap.size = w1.heap.size := by simp [World.setCell]
    rwa [e1] at hb2
  have hlt1 : w.heap.size < w1.heap.size := by
    have : (w.alloc (.cells #[.int .i64 (limit : Int), .pointer none, .pointer none, .slice none 0 0, .slice none 0 0, .slice none 0 0, .int .i64 0, .int .i64 0, .int .i64 0, .slice none 0 0, .int .i64 0, .int .i64 0, .int .i64 0, .int .i64 0, .int .i64 0, .int .i64 0, .int .i64 0, .int .i64 0, .int .i64 0] 95)).heap.size = w.heap.size + 1 := by simp
    omega
  have hX2 : w2.heap[w.heap.size]? = some (.cells #[.int .i64 (limit : Int), .pointer (some ⟨p1, 0, none⟩), .pointer none, .slice none 0 0, .slice none 0 0, .slice none 0 0, .int .i64 0, .int .i64 0, .int .i64 0, .slice none 0 0, .int .i64 0, .int .i64 0, .int .i64 0, .int .i64 0, .int .i64 0, .int .i64 0, .int .i64 0, .int .i64 0, .int .i64 0] 95 (0, 0)) := by
    rw [hb2'.block w.heap.size hlt1, setCell_at, if_pos rfl, HX.out]; rfl
  have y1 : w2.cell? ⟨w.heap.size, 2, none⟩ = some (.pointer none) := by simp [World.cell?, hX2]
  have y2 : w2.frozen? ⟨w.heap.size, 2, none⟩ = false := by simp [World.frozen?, hX2]
  have HF := Lib.hid (hnew_fin HB1.out HO1.out HI1.out hb2' ho2 hi2 ht2)
  clear hb2 hb2' ho2 hi2 ht2 hp2 hX2 x1 x2
  go_wp2_with fail
  go_ret2
  exact HF.out
end Go.Proofs.YtglglknhifjbaaaGreatDoor.Sp
namespace Go.Proofs.YtglglknhifjbaaaGreatDoor.Sp
open Go.RowKit Go.Proofs.YtglglknhifjbaaaGreatDoorW.PrintWords Go.Proofs.YtglglknhifjbaaaGreatDoorW.PrintLast Go.Proofs.YtglglknhifjbaaaGreatDoorW.PrintMore
set_option linter.unusedVariables false
set_option linter.unusedSimpArgs false
theorem gone_and (n : Nat) (h : n < 9223372036854775808) : bits .and .u64 (n : Int) 9223372036854775808 = 0 := by
  have := (bits_nat .u64 64 (by decide) (fun n h0 h1 => by rw [IntKind.wrap_u64]; omega) n 9223372036854775808 (by omega) (by decide)).1
  rw [show ((9223372036854775808 : Nat) : Int) = 9223372036854775808 from rfl] at this
  rw [this]
  have : n &&& 9223372036854775808 = 0 := by
    apply Nat.eq_of_testBit_eq
    intro j
    rw [Nat.testBit_and, Nat.zero_testBit, show (9223372036854775808 : Nat) = 2 ^ 63 from rfl, Nat.testBit_two_pow]
    by_cases e : 63 = j
    · subst e
      rw [Nat.testBit_lt_two_pow (by omega), Bool.false_and]
    · rw [decide_eq_false e, Bool.and_false]
  rw [this]; rfl
set_option maxHeartbeats 4000000 in
set_option maxRecDepth 100000 in
theorem find_small (w : World) (own : Own) (hp : Nat) (M : HM) (x : HX) (H : HMem w own hp M x) (i : Nat) (hi : i < M.half.objs.length) (k r y : Nat) (hs : Shape k r y) (hh : M.half.objs[i].1 = headW k r y) (n : Nat) (hn : n = posOf M.half.objs i) :
    Calls Tryz.prog 117 #[.pointer (some ⟨hp, 0, none⟩), .int .u64 (n : Int)] w fun e w' => e = .returned (.tuple #[.iface 89 (.pointer (some ⟨x.ph, 0, none⟩)), .int .i64 (n : Int), .bool true]) ∧ w = w' := by
  have c1 := H.c1
  have hfit := H.half.fit
  have hs2 := H.half.s2
  have hpos := pos_used M.half.objs i hi
  have hp1 := pos_pos M.half.objs i
  have hos : 1 ≤ osize M.half.objs[i] := by unfold osize; omega
  rw [← hn] at hpos hp1
  have hgone := gone_and n (by omega)
  have e0 : ((n : Int) == 0) = false := by rw [beq_eq_false_iff_ne]; omega
  have hd : decide (usedOf M.half.objs ≤ n) = false := decide_eq_false (by omega)
  have HH := Lib.hid H; have HS := Lib.hid hs; have HHd := Lib.hid hh; have HN := Lib.hid hn
  clear H hs hh hn hos
  go_enter Tryz.func117, Tryz.ntmps117
  go_wp2_with fail
  refine (used_walk w own x.ah x.ph M.half.size M.half.objs HH.out.half).mono ?_
  rintro e w' ⟨rfl, rfl⟩
  go_wp2_with fail
  refine (object_walk w own x.ah x.ph M.half.size M.half.objs HH.out.half i hi k r y HS.out HHd.out (n : Int) (by rw [HN.out])).mono ?_
  rintro e w' ⟨rfl, rfl⟩
  go_wp2_with fail
  go_ret3
  exact ⟨rfl, rfl⟩
set_option maxHeartbeats 4000000 in
theorem good_zero (w : World) (hp : Nat) : Calls Tryz.prog 118 #[.pointer (some ⟨hp, 0, none⟩), .int .u64 0] w fun e w' => e = .returned (.bool true) ∧ w = w' := by
  go_enter Tryz.func118, Tryz.ntmps118
  go_wp2_with fail
  go_ret
  exact ⟨rfl, rfl⟩
theorem big_and (s : Nat) (h : s < 9223372036854775808) : bits .and .u64 ((9223372036854775808 + s : Nat) : Int) 9223372036854775808 = 9223372036854775808 := by
  have := (bits_nat .u64 64 (by decide) (fun n h0 h1 => by rw [IntKind.wrap_u64]; omega) (9223372036854775808 + s) 9223372036854775808 (by omega) (by decide)).1
  rw [show ((9223372036854775808 : Nat) : Int) = 9223372036854775808 from rfl] at this
  rw [this]
  have : (9223372036854775808 + s) &&& 9223372036854775808 = 9223372036854775808 := by
    apply Nat.eq_of_testBit_eq
    intro j
    rw [Nat.testBit_and, show (9223372036854775808 : Nat) = 2 ^ 63 from rfl, Nat.testBit_two_pow]
    by_cases e : 63 = j
    · subst e
      rw [decide_eq_true rfl, Bool.and_true, Nat.testBit_two_pow_add_eq, Nat.testBit_lt_two_pow h]; rfl
    · rw [decide_eq_false e, Bool.and_false]
  rw [this]; rfl
theorem big_andNot (s : Nat) (h : s < 9223372036854775808) : bits .andNot .u64 ((9223372036854775808 + s : Nat) : Int) 9223372036854775808 = (s : Int) := by
  have := u64_andNot_nat (9223372036854775808 + s) 9223372036854775808 (by omega) (by decide)
  rw [show ((9223372036854775808 : Nat) : Int) = 9223372036854775808 from rfl] at this
  rw [this]
  have : (9223372036854775808 + s) &&& (18446744073709551615 - 9223372036854775808) = s := by
    rw [show 18446744073709551615 - 9223372036854775808 = 2 ^ 63 - 1 from rfl, Nat.and_two_pow_sub_one_eq_mod]
    omega
  rw [this]
def HSetPost (w : World) (own : Own) (hp : Nat) (M : HM) (x : HX) (i j v : Nat) (e : Ending) (w' : World) : Prop :=
  e = .returned (.int .i64 0) ∧ (∃ h : i < M.half.objs.length, HMem w' own hp { M with half := ⟨M.half.size, M.half.objs.set i (M.half.objs[i].1, M.half.objs[i].2.set j v)⟩ } x) ∧ HStep w own w' own
end Go.Proofs.YtglglknhifjbaaaGreatDoor.Sp
