/- stage.lend and stage.back, walked, for a stage that has lent nothing yet. -/
import Derived.Test.YthdahjmkkdljbaaOver
namespace Go.Proofs.Ythdahjmkkdljbaa.Sp
open Go.RowKit Go.Proofs.YthdahjmkkdljbaaW.PrintWords Go.Proofs.YthdahjmkkdljbaaW.PrintLast Go.Proofs.YthdahjmkkdljbaaW.PrintMore
set_option linter.unusedVariables false
set_option linter.unusedSimpArgs false
theorem infoSl : (Try.prog.info? 42).map (fun i => (i.zero, i.size, i.bytes)) = some (some (.slice none 0 0), 1, 24) := by kernel_rfl
/-- A stage's struct: what it has lent, and what was in it. -/
def StC (C : Array Value) (vG vW : Value) : Array Value := (C.setIfInBounds 8 vG).setIfInBounds 9 vW
structure StG (w : World) (t : Nat) (C : Array Value) (vG vW : Value) : Prop where
  hs : w.heap[t]? = some (.cells (StC C vG vW) 47 (0, 0))
  size : C.size = 12
theorem StG.c8 {w : World} {t : Nat} {C : Array Value} {vG vW : Value} (h : StG w t C vG vW) : w.cell? ⟨t, 8, none⟩ = some vG := by
  have := h.size
  simp [World.cell?, h.hs, this, StC]
theorem StG.c9 {w : World} {t : Nat} {C : Array Value} {vG vW : Value} (h : StG w t C vG vW) : w.cell? ⟨t, 9, none⟩ = some vW := by
  have := h.size
  simp [World.cell?, h.hs, this, StC]
theorem StG.fz {w : World} {t o : Nat} {C : Array Value} {vG vW : Value} (h : StG w t C vG vW) : w.frozen? ⟨t, o, none⟩ = false := by simp [World.frozen?, h.hs]
theorem StG.set8 {w : World} {t : Nat} {C : Array Value} {vG vW : Value} (h : StG w t C vG vW) (v : Value) : StG (w.setCell ⟨t, 8, none⟩ v) t C v vW := by
  have := h.size
  refine ⟨?_, h.size⟩
  rw [setCell_at, if_pos rfl, h.hs]
  show some (Obj.cells ((StC C vG vW).setIfInBounds 8 v) _ _) = _
  unfold StC
  rw [Array.setIfInBounds_comm _ _ (by decide : 9 ≠ 8)]
  simp
theorem StG.set9 {w : World} {t : Nat} {C : Array Value} {vG vW : Value} (h : StG w t C vG vW) (v : Value) : StG (w.setCell ⟨t, 9, none⟩ v) t C vG v := by
  have := h.size
  refine ⟨?_, h.size⟩
  rw [setCell_at, if_pos rfl, h.hs]
  simp [StC]
theorem StG.fr {w w' : World} {P : Nat → Prop} {t : Nat} {C : Array Value} {vG vW : Value} (h : StG w t C vG vW) (hf : Fr P w w') (hp : ¬ P t) : StG w' t C vG vW :=
  ⟨(hf.block t (blk_lt h.hs) hp).trans h.hs, h.size⟩
/-- What lend has made: the list with its marks, and what was in it. -/
structure LentQ (w : World) (t : Nat) (C : Array Value) (b : List Int) (n0 g c : Nat) (vG vW : Value) : Prop where
  st : StG w t C vG vW
  lent : Lent w g c b
  hg : n0 ≤ g
  rG : QRow w n0 42 1 vG 1 [.slice (some ⟨g, 0, none⟩) b.length c]
  rW : ∃ A cA, QRow w n0 42 1 vW 1 [.slice A b.length cA] ∧ Kd.C (Kd.int .u8) w A b.length b ∧ ∀ ad, A = some ad → n0 ≤ ad.block
def LendPost (w : World) (t : Nat) (C : Array Value) (b : List Int) (e : Ending) (w' : World) : Prop := ∃ g c vG vW, e = .returned (.slice (some ⟨g, 0, none⟩) b.length c) ∧ LentQ w' t C b w.heap.size g c vG vW ∧ Fr (fun k => k = t) w w'
theorem qnil (w : World) (base : Nat) (e : TypeId) : QRow w base e 1 (.slice none 0 0) 0 [] := ⟨rfl, .inl ⟨rfl, none, rfl, fun a ha => by cases ha⟩⟩
theorem src_gen (w : World) (u : Value) (e : TypeId) : ∃ ad, (some ⟨w.heap.size, 0, none⟩ : Option Addr) = some ad ∧ ∀ j x, [u][j]? = some x → (w.alloc (.cells #[u] e)).cell? (ad.add j) = some x := by
  refine ⟨_, rfl, fun j x hj => ?_⟩
  cases j with
  | zero =>
    injection hj with hj
    subst hj
    have e1 : (w.alloc (.cells #[u] e)).heap[w.heap.size]? = some (.cells #[u] e (0, 0)) := by rw [alloc_at, if_pos rfl]
    unfold World.cell? Addr.add
    simp only [if_true]
    rw [e1]; rfl
  | succ j => simp at hj
theorem r_C {w : World} {base : Nat} {A : Option Addr} {n c : Nat} {l : List Int} (h : Kd.R (Kd.int .u8) 5 w base (fun _ => True) (.slice A n c) l) (hm : l.length ≤ 140737488351232) : Kd.C (Kd.int .u8) w A l.length l ∧ n = l.length ∧ ∀ ad, A = some ad → base ≤ ad.block ∧ ad.block < w.heap.size := by
  have ho := Kd.own_of_R h
  rw [encs_u8] at ho
  have hq := q_of_own ho
  obtain ⟨B', cap', hv', -⟩ := q_slice hq
  injection hv' with hA hn hc
  subst hA; subst hc
  refine ⟨?_, hn, fun ad ha => by obtain ⟨h1, cells, h2⟩ := q_typed hq ad.block (by rw [ha]; rfl); exact ⟨h1, blk_lt h2⟩⟩
  refine Kd.C_of_reads (d := (0 : Int)) (h1 := fun _ => rfl) ⟨rfl, by omega, fun h0 => ?_⟩
  rw [hn] at hq
  obtain ⟨ad, e, hcell⟩ := q_cells hq h0
  refine ⟨ad, e, fun j hj => hcell j _ ?_⟩
  simp [u8s, hj, List.getD_eq_getElem?_getD]
/-- A row that has grown behind one new object. -/
theorem lend_grow {w1 w2 : World} {o : Obj} {B : Option Addr} {c2 : Nat} {t : Nat} {C : Array Value} {vG vW : Value} (S : StG w1 t C vG vW) (hgr : (w1.alloc o).grownBy w2 (Value.slice none 0 0).ownBlock) (hat : (Value.slice B 1 c2).ownBlock = (Value.slice none 0 0).ownBlock ∨ ∃ b, (Value.slice B 1 c2).ownBlock = some b ∧ (w1.alloc o).heap.size ≤ b) :
    StG w2 t C vG vW ∧ Below w1.heap.size w1 w2 ∧ ∀ k, (Value.slice B 1 c2).ownBlock = some k → k ≠ t := by
  have hb : Below w1.heap.size w1 w2 := ⟨hgr.os, hgr.tape, hgr.output, Nat.le_trans (by simp) hgr.size, fun i hi => (hgr.block i (by simp; omega) (by simp [Value.ownBlock])).trans (Below.heap_alloc w1 o i hi)⟩
  refine ⟨S.fr (Fr.below (P := fun _ => False) hb) (fun h => h), hb, fun k hk => ?_⟩
  have := blk_lt S.hs
  rcases hat with e | ⟨q, hq, hle⟩
  · rw [e] at hk; simp [Value.ownBlock] at hk
  · rw [hq] at hk; injection hk with hk; simp at hle; omega
theorem Lent.fr {w w' : World} {P : Nat → Prop} {g c : Nat} {l : List Int} (h : Lent w g c l) (hf : Fr P w w') (hp : ¬ P g) : Lent w' g c l := by
  have hlt := h.lt
  obtain ⟨rest, hc⟩ := h.heap
  exact ⟨⟨rest, (hf.block _ hlt hp).trans hc⟩, h.cap, h.cmax⟩
theorem qfr {w w' : World} {P : Nat → Prop} {base size n : Nat} {e : TypeId} {v : Value} {xs : List Value} (h : QRow w base e size v n xs) (hf : Fr P w w') (hp : ∀ k, v.ownBlock = some k → ¬ P k) : QRow w' base e size v n xs :=
  q_move h (fun k hk => by obtain ⟨_, cells, hc⟩ := q_typed h k hk; exact hf.block k (blk_lt hc) (hp k hk))
theorem lend_set {w w1 w2 : World} {t g c1 c2 : Nat} {C : Array Value} {b : List Int} {B2 : Option Addr} (S1 : StG w1 t C (.slice none 0 0) (.slice none 0 0)) (ht : t < w.heap.size) (L1 : Lent w1 g c1 b) (G1 : w.heap.size ≤ g) (B1 : Below w.heap.size w w1) (S2 : StG w2 t C (.slice none 0 0) (.slice none 0 0)) (B2' : Below w1.heap.size w1 w2) (N2 : ∀ k, (Value.slice B2 1 c2).ownBlock = some k → k ≠ t) (Q2 : QRow w2 w.heap.size 42 1 (.slice B2 1 c2) 1 [.slice (some ⟨g, 0, none⟩) b.length c1]) :
    Hid (StG (w2.setCell ⟨t, 8, none⟩ (.slice B2 1 c2)) t C (.slice B2 1 c2) (.slice none 0 0)) ∧ Hid (Lent (w2.setCell ⟨t, 8, none⟩ (.slice B2 1 c2)) g c1 b) ∧ Hid (Fr (fun k => k = t) w (w2.setCell ⟨t, 8, none⟩ (.slice B2 1 c2))) ∧ Hid (QRow (w2.setCell ⟨t, 8, none⟩ (.slice B2 1 c2)) w.heap.size 42 1 (.slice B2 1 c2) 1 [.slice (some ⟨g, 0, none⟩) b.length c1]) := by
  have f2 : Fr (fun k => k = t) w2 (w2.setCell ⟨t, 8, none⟩ (.slice B2 1 c2)) := Fr.setCell (P := fun k => k = t) (p := ⟨t, 8, none⟩) (Fr.refl _ w2) (.inl rfl) _
  exact ⟨S2.set8 _, (L1.fr (Fr.below (P := fun _ => False) B2') (fun h => h)).fr f2 (by omega), ((Fr.below B1).trans (Fr.below (P := fun _ => False) B2') (fun _ _ h => h.elim)).trans f2 (fun _ _ h => h), qfr Q2 f2 N2⟩
theorem lend_end {w w3 w4 w5 : World} {t g c1 c5 cA : Nat} {C : Array Value} {b : List Int} {vG : Value} {B5 A' : Option Addr} (ht : t < w.heap.size) (S3 : StG w3 t C vG (.slice none 0 0)) (L3 : Lent w3 g c1 b) (G1 : w.heap.size ≤ g) (F3 : Fr (fun k => k = t) w w3) (Q3 : QRow w3 w.heap.size 42 1 vG 1 [.slice (some ⟨g, 0, none⟩) b.length c1]) (S5 : StG w5 t C vG (.slice none 0 0)) (B4 : Below w3.heap.size w3 w4) (B5' : Below w4.heap.size w4 w5) (KC : Kd.C (Kd.int .u8) w4 A' b.length b) (KA : ∀ ad, A' = some ad → w3.heap.size ≤ ad.block ∧ ad.block < w4.heap.size) (N5 : ∀ k, (Value.slice B5 1 c5).ownBlock = some k → k ≠ t) (Q5 : QRow w5 w3.heap.size 42 1 (.slice B5 1 c5) 1 [.slice A' b.length cA]) :
    Hid (LendPost w t C b (.returned (.slice (some ⟨g, 0, none⟩) b.length c1)) (w5.setCell ⟨t, 9, none⟩ (.slice B5 1 c5))) := by
  have f5 : Fr (fun k => k = t) w5 (w5.setCell ⟨t, 9, none⟩ (.slice B5 1 c5)) := Fr.setCell (P := fun k => k = t) (p := ⟨t, 9, none⟩) (Fr.refl _ w5) (.inl rfl) _
  have f35 : Fr (fun _ => False) w3 w5 := (Fr.below B4).trans (Fr.below (P := fun _ => False) B5') (fun _ _ h => h)
  have f3 : Fr (fun k => k = t) w3 (w5.setCell ⟨t, 9, none⟩ (.slice B5 1 c5)) := (f35.mono (fun _ _ h => h.elim)).trans f5 (fun _ _ h => h)
  have hsz := F3.size
  refine ⟨g, c1, vG, _, rfl, ⟨S5.set9 _, L3.fr f3 (by omega), G1, qfr Q3 f3 (fun k hk => ?_), A', cA, ?_, ?_, fun ad ha => by have := (KA ad ha).1; omega⟩, F3.trans f3 (fun _ _ h => h)⟩
  · have := (q_typed Q3 k hk).1; omega
  · have q := qfr Q5 f5 N5
    obtain ⟨h1, h2⟩ := q
    refine ⟨h1, ?_⟩
    rcases h2 with ⟨h0, A, hv, hA⟩ | ⟨g', off, cap, cur, hv, hg, r⟩
    · exact .inl ⟨h0, A, hv, fun a ha => ⟨by have := (hA a ha).1; omega, (hA a ha).2⟩⟩
    · exact .inr ⟨g', off, cap, cur, hv, by omega, r⟩
  · refine kd_fr (kd_fr KC (Fr.below (P := fun _ => False) B5') (fun _ _ _ h => h)) f5 (fun ad ha _ h => ?_)
    have := (KA ad ha).1
    omega
set_option maxHeartbeats 1000000 in
set_option maxRecDepth 100000 in
theorem lendq_walk (w : World) (t : Nat) (C : Array Value) (h : StG w t C (.slice none 0 0) (.slice none 0 0)) (A : Option Addr) (c : Nat) (b : List Int) (hb : Kd.C (Kd.int .u8) w A b.length b) (hc : b.length ≤ c) (hm : b.length ≤ 140737488351232) (hne : 0 < b.length → ∀ ad, A = some ad → ad.block ≠ t) :
    Calls Try.prog 6 #[.pointer (some ⟨t, 0, none⟩), .slice A b.length c] w (LendPost w t C b) := by
  have HH := Lib.hid h; have HB := Lib.hid hb; have HNE := Lib.hid hne
  clear h hb hne
  go_enter Try.func6, Try.ntmps6
  go_wp2_with fail
  refine (lend_walk _ A c b HB.out hc hm).mono ?_
  rintro e w1 ⟨g, c1, rfl, hl, hg, hb1⟩
  have S1 := Lib.hid (HH.out.fr (Fr.below (P := fun _ => False) hb1) (fun h => h))
  have k8 := S1.out.c8
  have L1 := Lib.hid hl; have G1 := Lib.hid hg; have B1 := Lib.hid hb1
  clear hl hg hb1
  go_wp2_with (at_builtin; refine wpList_q _ rfl _ _ 23 rfl w.heap.size 42 (.slice none 0 0) 24 Try.underlying23 infoSl rfl (.slice none 0 0) 0 [] rfl (qnil _ _ _) _ 1 1 [.slice (some ⟨g, 0, none⟩) b.length c1] rfl rfl (fun _ => src_gen w1 _ 42) (fun u hu => by rw [List.mem_singleton.1 hu]; rfl) (by decide) (by decide) (by have := B1.out.size; simp; omega) ?_; intro v2 w2 hq hgr hat; obtain ⟨B2, c2, hv2, -⟩ := q_slice hq; subst hv2; obtain ⟨s2, b2, n2⟩ := lend_grow S1.out hgr hat; have S2 := Lib.hid s2; have B2' := Lib.hid b2; have N2 := Lib.hid n2; have Q2 := Lib.hid hq; have l8 := S2.out.c8; have f8 := S2.out.fz (o := 8); clear hq hgr hat s2 b2 n2)
  obtain ⟨S3, L3, F3, Q3⟩ := lend_set S1.out (blk_lt HH.out.hs) L1.out G1.out B1.out S2.out B2'.out N2.out Q2.out
  have HB3 := Lib.hid (kd_fr HB.out F3.out (fun ad ha h0 h => HNE.out h0 ad ha h))
  generalize w2.setCell ⟨t, 8, none⟩ (.slice B2 1 c2) = w3 at S3 L3 F3 Q3 HB3 ⊢
  have D3 := (Fr.refl (fun _ => False) w3).drew
  replace S3 := Lib.hid (S3.out.fr D3 (fun h => h)); replace L3 := Lib.hid (L3.out.fr D3 (fun h => h)); replace F3 := Lib.hid (F3.out.drew); replace Q3 := Lib.hid (qfr Q3.out D3 (fun _ _ h => h)); replace HB3 := Lib.hid (kd_fr HB3.out D3 (fun _ _ _ h => h))
  clear D3
  have k9 : w3.drew.cell? ⟨t, 9, none⟩ = some (.slice none 0 0) := S3.out.c9
  clear S2 B2' N2 Q2 l8 f8 k8 S1 L1 B1
  refine wp_region_held_drew (S := fun _ => True) (by kernel_rfl) trivial (fun hHeld => ?_)
  generalize w3.drew = w3 at S3 L3 F3 Q3 HB3 k9 hHeld ⊢
  refine tk (i := 0) (v := ?v101) rfl (by kernel_rfl) (fun _ _ _ h => h) ⟨by rfl, ?y101⟩ trivial ?r101
  case y101 => (intro w_ hSw; (try dsimp only at hSw); simp only [List.getElem_toArray, List.getElem_cons_zero, List.getElem_cons_succ]; go_simp; try with_reducible rfl)
  (try simp only [List.getElem_toArray, List.getElem_cons_zero, List.getElem_cons_succ, Act.put, List.setIfInBounds_toArray, List.set_cons_zero, List.set_cons_succ])
  refine tk (i := 1) (v := ?v102) rfl (by kernel_rfl) (fun _ _ _ h => h) ⟨by rfl, ?y102⟩ trivial ?r102
  case y102 => (intro w_ hSw; (try dsimp only at hSw); simp only [List.getElem_toArray, List.getElem_cons_zero, List.getElem_cons_succ]; go_simp; try with_reducible rfl)
  (try simp only [List.getElem_toArray, List.getElem_cons_zero, List.getElem_cons_succ, Act.put, List.setIfInBounds_toArray, List.set_cons_zero, List.set_cons_succ])
  refine tk (i := 2) (v := ?v103) rfl (by kernel_rfl) (fun _ _ _ h => h) ⟨by rfl, ?y103⟩ trivial ?r103
  case y103 => (intro w_ hSw; (try dsimp only at hSw); simp only [List.getElem_toArray, List.getElem_cons_zero, List.getElem_cons_succ]; go_simp; try with_reducible rfl)
  (try simp only [List.getElem_toArray, List.getElem_cons_zero, List.getElem_cons_succ, Act.put, List.setIfInBounds_toArray, List.set_cons_zero, List.set_cons_succ])
  refine tk (i := 3) (v := ?v104) rfl (by kernel_rfl) (fun _ _ _ h => h) ⟨by rfl, ?y104⟩ trivial ?r104
  case y104 => (intro w_ hSw; (try dsimp only at hSw); simp only [List.getElem_toArray, List.getElem_cons_zero, List.getElem_cons_succ]; go_simp; try with_reducible rfl)
  (try simp only [List.getElem_toArray, List.getElem_cons_zero, List.getElem_cons_succ, Act.put, List.setIfInBounds_toArray, List.set_cons_zero, List.set_cons_succ])
  refine tk (i := 5) (v := ?v105) rfl (by kernel_rfl) (fun _ _ _ h => h) ⟨by rfl, ?y105⟩ trivial ?r105
  case y105 => (intro w_ hSw; (try dsimp only at hSw); simp only [List.getElem_toArray, List.getElem_cons_zero, List.getElem_cons_succ]; go_simp; try with_reducible rfl)
  (try simp only [List.getElem_toArray, List.getElem_cons_zero, List.getElem_cons_succ, Act.put, List.setIfInBounds_toArray, List.set_cons_zero, List.set_cons_succ])
  refine wpAnyH_ready (rs := [4, 6]) (by kernel_rfl) (by simp) ?_
  refine AllReadyH.cons (o := _) rfl (fun K hK => ?_) (AllReadyH.cons (o := _) rfl (fun K hK => ?_) AllReadyH.nil)
  · (try simp only [List.getElem_toArray, List.getElem_cons_zero, List.getElem_cons_succ])
    go_simp
    refine hK.out _ _ trivial (fun hHeld => ?_)
    clear hK K
    (try simp only [List.getElem_toArray, List.getElem_cons_zero, List.getElem_cons_succ, Act.put, List.setIfInBounds_toArray, List.set_cons_zero, List.set_cons_succ])
    refine wpAnyH_ready (rs := [6]) (by kernel_rfl) (by simp) ?_
    refine AllReadyH.cons (o := _) rfl (fun K hK => ?_) AllReadyH.nil
    (try simp only [List.getElem_toArray, List.getElem_cons_zero, List.getElem_cons_succ])
    go_simp
    go_at_call 19
    refine (copy_walk _ c b _ (HB3.out) hc (by omega)).mono ?_
    rintro e w4 ⟨va, rfl, hR, hb4⟩
    obtain ⟨A', cA, hva, -⟩ := q_slice (q_of_own (Kd.own_of_R hR))
    subst hva
    obtain ⟨KC, -, KA⟩ := r_C hR hm
    have KCh := Lib.hid KC; have KAh := Lib.hid KA; have B4 := Lib.hid hb4
    have S4 := Lib.hid (S3.out.fr (Fr.below (P := fun _ => False) hb4) (fun h => h))
    have k9a := S4.out.c9
    have k9b : (w4.alloc (.cells #[.slice A' b.length cA] 42)).cell? ⟨t, 9, none⟩ = some (.slice none 0 0) := (World.cell?_alloc_lt w4 _ _ (blk_lt S4.out.hs)).trans S4.out.c9
    clear hR KC KA hb4
    go_wp2_with fail
    refine hK.out _ _ trivial (fun hHeld => ?_)
    clear hK K
    (try simp only [List.getElem_toArray, List.getElem_cons_zero, List.getElem_cons_succ, Act.put, List.setIfInBounds_toArray, List.set_cons_zero, List.set_cons_succ])
    refine wpAnyH_ready (rs := [7]) (by kernel_rfl) (by simp) ?_
    refine AllReadyH.cons (o := _) rfl (fun K hK => ?_) AllReadyH.nil
    (try simp only [List.getElem_toArray, List.getElem_cons_zero, List.getElem_cons_succ])
    go_simp
    refine hK.out _ _ trivial (fun hHeld => ?_)
    clear hK K
    (try simp only [List.getElem_toArray, List.getElem_cons_zero, List.getElem_cons_succ, Act.put, List.setIfInBounds_toArray, List.set_cons_zero, List.set_cons_succ])
    refine wpAnyH_ready (rs := [8]) (by kernel_rfl) (by simp) ?_
    refine AllReadyH.cons (o := _) rfl (fun K hK => ?_) AllReadyH.nil
    refine step_q (w4.alloc (.cells #[.slice A' b.length cA] 42)) (by rfl) _ _ 23 (by rfl) w3.heap.size 42 (.slice none 0 0) 24 Try.underlying23 infoSl rfl (.slice none 0 0) 0 [] (by rfl) (qnil _ _ _) (some ⟨w4.heap.size, 0, none⟩) 1 1 [.slice A' b.length cA] (by rfl) rfl (fun _ => src_gen w4 _ 42) (fun u hu => by rw [List.mem_singleton.1 hu]; rfl) (by decide) (by decide) (by have := B4.out.size; simp; omega) ?_
    intro v5 w5 hq5 hgr5 hat5
    obtain ⟨B5, c5, hv5, -⟩ := q_slice hq5
    subst hv5
    obtain ⟨s5, b5, n5⟩ := lend_grow S4.out hgr5 hat5
    have HF := lend_end (blk_lt HH.out.hs) S3.out L3.out G1.out F3.out Q3.out s5 B4.out b5 KCh.out KAh.out n5 hq5
    have l9 := s5.c9
    have f9 := s5.fz (o := 9)
    clear hq5 hgr5 hat5 s5 b5 n5 k9a k9b
    refine hK.out _ _ trivial (fun hHeld => ?_)
    clear hK K
    (try simp only [List.getElem_toArray, List.getElem_cons_zero, List.getElem_cons_succ, Act.put, List.setIfInBounds_toArray, List.set_cons_zero, List.set_cons_succ])
    refine tk (i := 9) (v := ?v106) rfl (by kernel_rfl) (fun _ _ _ h => h) ⟨by rfl, ?y106⟩ trivial ?r106
    case y106 => (intro w_ hSw; (try dsimp only at hSw); simp only [List.getElem_toArray, List.getElem_cons_zero, List.getElem_cons_succ]; go_simp; try with_reducible rfl)
    (try simp only [List.getElem_toArray, List.getElem_cons_zero, List.getElem_cons_succ, Act.put, List.setIfInBounds_toArray, List.set_cons_zero, List.set_cons_succ])
    refine tk (i := 10) (v := ?v107) rfl (by kernel_rfl) (fun _ _ _ h => h) ⟨by rfl, ?y107⟩ trivial ?r107
    case y107 => (intro w_ hSw; (try dsimp only at hSw); simp only [List.getElem_toArray, List.getElem_cons_zero, List.getElem_cons_succ]; go_simp; try with_reducible rfl)
    (try simp only [List.getElem_toArray, List.getElem_cons_zero, List.getElem_cons_succ, Act.put, List.setIfInBounds_toArray, List.set_cons_zero, List.set_cons_succ])
    refine wpAnyH_ready (rs := [11]) (by kernel_rfl) (by simp) ?_
    refine AllReadyH.cons (o := _) rfl (fun K hK => ?_) AllReadyH.nil
    (try simp only [List.getElem_toArray, List.getElem_cons_zero, List.getElem_cons_succ])
    go_simp
    refine hK.out _ _ trivial (fun hHeld => ?_)
    clear hK K
    (try simp only [List.getElem_toArray, List.getElem_cons_zero, List.getElem_cons_succ, Act.put, List.setIfInBounds_toArray, List.set_cons_zero, List.set_cons_succ])
    refine wpAnyH_done (by kernel_rfl) ?_ _
    go_wp2_with fail
    go_ret
    exact HF.out
  · (try simp only [List.getElem_toArray, List.getElem_cons_zero, List.getElem_cons_succ])
    go_simp
    go_at_call 19
    refine (copy_walk _ c b _ (HB3.out) hc (by omega)).mono ?_
    rintro e w4 ⟨va, rfl, hR, hb4⟩
    obtain ⟨A', cA, hva, -⟩ := q_slice (q_of_own (Kd.own_of_R hR))
    subst hva
    obtain ⟨KC, -, KA⟩ := r_C hR hm
    have KCh := Lib.hid KC; have KAh := Lib.hid KA; have B4 := Lib.hid hb4
    have S4 := Lib.hid (S3.out.fr (Fr.below (P := fun _ => False) hb4) (fun h => h))
    have k9a := S4.out.c9
    have k9b : (w4.alloc (.cells #[.slice A' b.length cA] 42)).cell? ⟨t, 9, none⟩ = some (.slice none 0 0) := (World.cell?_alloc_lt w4 _ _ (blk_lt S4.out.hs)).trans S4.out.c9
    clear hR KC KA hb4
    go_wp2_with fail
    refine hK.out _ _ trivial (fun hHeld => ?_)
    clear hK K
    (try simp only [List.getElem_toArray, List.getElem_cons_zero, List.getElem_cons_succ, Act.put, List.setIfInBounds_toArray, List.set_cons_zero, List.set_cons_succ])
    refine wpAnyH_ready (rs := [4, 7]) (by kernel_rfl) (by simp) ?_
    refine AllReadyH.cons (o := _) rfl (fun K hK => ?_) (AllReadyH.cons (o := _) rfl (fun K hK => ?_) AllReadyH.nil)
    · (try simp only [List.getElem_toArray, List.getElem_cons_zero, List.getElem_cons_succ])
      go_simp
      refine hK.out _ _ trivial (fun hHeld => ?_)
      clear hK K
      (try simp only [List.getElem_toArray, List.getElem_cons_zero, List.getElem_cons_succ, Act.put, List.setIfInBounds_toArray, List.set_cons_zero, List.set_cons_succ])
      refine wpAnyH_ready (rs := [7]) (by kernel_rfl) (by simp) ?_
      refine AllReadyH.cons (o := _) rfl (fun K hK => ?_) AllReadyH.nil
      (try simp only [List.getElem_toArray, List.getElem_cons_zero, List.getElem_cons_succ])
      go_simp
      refine hK.out _ _ trivial (fun hHeld => ?_)
      clear hK K
      (try simp only [List.getElem_toArray, List.getElem_cons_zero, List.getElem_cons_succ, Act.put, List.setIfInBounds_toArray, List.set_cons_zero, List.set_cons_succ])
      refine wpAnyH_ready (rs := [8]) (by kernel_rfl) (by simp) ?_
      refine AllReadyH.cons (o := _) rfl (fun K hK => ?_) AllReadyH.nil
      refine step_q (w4.alloc (.cells #[.slice A' b.length cA] 42)) (by rfl) _ _ 23 (by rfl) w3.heap.size 42 (.slice none 0 0) 24 Try.underlying23 infoSl rfl (.slice none 0 0) 0 [] (by rfl) (qnil _ _ _) (some ⟨w4.heap.size, 0, none⟩) 1 1 [.slice A' b.length cA] (by rfl) rfl (fun _ => src_gen w4 _ 42) (fun u hu => by rw [List.mem_singleton.1 hu]; rfl) (by decide) (by decide) (by have := B4.out.size; simp; omega) ?_
      intro v5 w5 hq5 hgr5 hat5
      obtain ⟨B5, c5, hv5, -⟩ := q_slice hq5
      subst hv5
      obtain ⟨s5, b5, n5⟩ := lend_grow S4.out hgr5 hat5
      have HF := lend_end (blk_lt HH.out.hs) S3.out L3.out G1.out F3.out Q3.out s5 B4.out b5 KCh.out KAh.out n5 hq5
      have l9 := s5.c9
      have f9 := s5.fz (o := 9)
      clear hq5 hgr5 hat5 s5 b5 n5 k9a k9b
      refine hK.out _ _ trivial (fun hHeld => ?_)
      clear hK K
      (try simp only [List.getElem_toArray, List.getElem_cons_zero, List.getElem_cons_succ, Act.put, List.setIfInBounds_toArray, List.set_cons_zero, List.set_cons_succ])
      refine tk (i := 9) (v := ?v108) rfl (by kernel_rfl) (fun _ _ _ h => h) ⟨by rfl, ?y108⟩ trivial ?r108
      case y108 => (intro w_ hSw; (try dsimp only at hSw); simp only [List.getElem_toArray, List.getElem_cons_zero, List.getElem_cons_succ]; go_simp; try with_reducible rfl)
      (try simp only [List.getElem_toArray, List.getElem_cons_zero, List.getElem_cons_succ, Act.put, List.setIfInBounds_toArray, List.set_cons_zero, List.set_cons_succ])
      refine tk (i := 10) (v := ?v109) rfl (by kernel_rfl) (fun _ _ _ h => h) ⟨by rfl, ?y109⟩ trivial ?r109
      case y109 => (intro w_ hSw; (try dsimp only at hSw); simp only [List.getElem_toArray, List.getElem_cons_zero, List.getElem_cons_succ]; go_simp; try with_reducible rfl)
      (try simp only [List.getElem_toArray, List.getElem_cons_zero, List.getElem_cons_succ, Act.put, List.setIfInBounds_toArray, List.set_cons_zero, List.set_cons_succ])
      refine wpAnyH_ready (rs := [11]) (by kernel_rfl) (by simp) ?_
      refine AllReadyH.cons (o := _) rfl (fun K hK => ?_) AllReadyH.nil
      (try simp only [List.getElem_toArray, List.getElem_cons_zero, List.getElem_cons_succ])
      go_simp
      refine hK.out _ _ trivial (fun hHeld => ?_)
      clear hK K
      (try simp only [List.getElem_toArray, List.getElem_cons_zero, List.getElem_cons_succ, Act.put, List.setIfInBounds_toArray, List.set_cons_zero, List.set_cons_succ])
      refine wpAnyH_done (by kernel_rfl) ?_ _
      go_wp2_with fail
      go_ret
      exact HF.out
    · (try simp only [List.getElem_toArray, List.getElem_cons_zero, List.getElem_cons_succ])
      go_simp
      refine hK.out _ _ trivial (fun hHeld => ?_)
      clear hK K
      (try simp only [List.getElem_toArray, List.getElem_cons_zero, List.getElem_cons_succ, Act.put, List.setIfInBounds_toArray, List.set_cons_zero, List.set_cons_succ])
      refine wpAnyH_ready (rs := [4]) (by kernel_rfl) (by simp) ?_
      refine AllReadyH.cons (o := _) rfl (fun K hK => ?_) AllReadyH.nil
      (try simp only [List.getElem_toArray, List.getElem_cons_zero, List.getElem_cons_succ])
      go_simp
      refine hK.out _ _ trivial (fun hHeld => ?_)
      clear hK K
      (try simp only [List.getElem_toArray, List.getElem_cons_zero, List.getElem_cons_succ, Act.put, List.setIfInBounds_toArray, List.set_cons_zero, List.set_cons_succ])
      refine wpAnyH_ready (rs := [8]) (by kernel_rfl) (by simp) ?_
      refine AllReadyH.cons (o := _) rfl (fun K hK => ?_) AllReadyH.nil
      refine step_q (w4.alloc (.cells #[.slice A' b.length cA] 42)) (by rfl) _ _ 23 (by rfl) w3.heap.size 42 (.slice none 0 0) 24 Try.underlying23 infoSl rfl (.slice none 0 0) 0 [] (by rfl) (qnil _ _ _) (some ⟨w4.heap.size, 0, none⟩) 1 1 [.slice A' b.length cA] (by rfl) rfl (fun _ => src_gen w4 _ 42) (fun u hu => by rw [List.mem_singleton.1 hu]; rfl) (by decide) (by decide) (by have := B4.out.size; simp; omega) ?_
      intro v5 w5 hq5 hgr5 hat5
      obtain ⟨B5, c5, hv5, -⟩ := q_slice hq5
      subst hv5
      obtain ⟨s5, b5, n5⟩ := lend_grow S4.out hgr5 hat5
      have HF := lend_end (blk_lt HH.out.hs) S3.out L3.out G1.out F3.out Q3.out s5 B4.out b5 KCh.out KAh.out n5 hq5
      have l9 := s5.c9
      have f9 := s5.fz (o := 9)
      clear hq5 hgr5 hat5 s5 b5 n5 k9a k9b
      refine hK.out _ _ trivial (fun hHeld => ?_)
      clear hK K
      (try simp only [List.getElem_toArray, List.getElem_cons_zero, List.getElem_cons_succ, Act.put, List.setIfInBounds_toArray, List.set_cons_zero, List.set_cons_succ])
      refine tk (i := 9) (v := ?v110) rfl (by kernel_rfl) (fun _ _ _ h => h) ⟨by rfl, ?y110⟩ trivial ?r110
      case y110 => (intro w_ hSw; (try dsimp only at hSw); simp only [List.getElem_toArray, List.getElem_cons_zero, List.getElem_cons_succ]; go_simp; try with_reducible rfl)
      (try simp only [List.getElem_toArray, List.getElem_cons_zero, List.getElem_cons_succ, Act.put, List.setIfInBounds_toArray, List.set_cons_zero, List.set_cons_succ])
      refine tk (i := 10) (v := ?v111) rfl (by kernel_rfl) (fun _ _ _ h => h) ⟨by rfl, ?y111⟩ trivial ?r111
      case y111 => (intro w_ hSw; (try dsimp only at hSw); simp only [List.getElem_toArray, List.getElem_cons_zero, List.getElem_cons_succ]; go_simp; try with_reducible rfl)
      (try simp only [List.getElem_toArray, List.getElem_cons_zero, List.getElem_cons_succ, Act.put, List.setIfInBounds_toArray, List.set_cons_zero, List.set_cons_succ])
      refine wpAnyH_ready (rs := [11]) (by kernel_rfl) (by simp) ?_
      refine AllReadyH.cons (o := _) rfl (fun K hK => ?_) AllReadyH.nil
      (try simp only [List.getElem_toArray, List.getElem_cons_zero, List.getElem_cons_succ])
      go_simp
      refine hK.out _ _ trivial (fun hHeld => ?_)
      clear hK K
      (try simp only [List.getElem_toArray, List.getElem_cons_zero, List.getElem_cons_succ, Act.put, List.setIfInBounds_toArray, List.set_cons_zero, List.set_cons_succ])
      refine wpAnyH_done (by kernel_rfl) ?_ _
      go_wp2_with fail
      go_ret
      exact HF.out
end Go.Proofs.Ythdahjmkkdljbaa.Sp
