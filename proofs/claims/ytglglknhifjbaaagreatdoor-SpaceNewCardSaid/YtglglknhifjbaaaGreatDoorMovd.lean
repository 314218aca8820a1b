import Derived.Test.YtglglknhifjbaaaGreatDoorClear
namespace Go.Proofs.YtglglknhifjbaaaGreatDoor.Sp
open Go.RowKit Go.Proofs.YtglglknhifjbaaaGreatDoorW.PrintWords Go.Proofs.YtglglknhifjbaaaGreatDoorW.PrintLast Go.Proofs.YtglglknhifjbaaaGreatDoorW.PrintMore
set_option linter.unusedVariables false
set_option linter.unusedSimpArgs false
structure MSame (M M' : HM) : Prop where
  limit : M'.limit = M.limit
  hsize : M'.half.size = M.half.size
  ssize : M'.spare.size = M.spare.size
  large : M'.large = M.large
  since : M'.since = M.since
  kept : M'.kept = M.kept
  nroots : M'.nroots = M.nroots
  ncoll : M'.ncoll = M.ncoll
  nres : M'.nres = M.nres
  moved : M'.moved = M.moved
  rlen : M'.roots.length = M.roots.length
  blen : M'.blocks.length = M.blocks.length
theorem MSame.refl (M : HM) : MSame M M := ⟨rfl, rfl, rfl, rfl, rfl, rfl, rfl, rfl, rfl, rfl, rfl, rfl⟩
theorem MSame.trans {A B C : HM} (h : MSame A B) (k : MSame B C) : MSame A C :=
  ⟨k.limit.trans h.limit, k.hsize.trans h.hsize, k.ssize.trans h.ssize, k.large.trans h.large, k.since.trans h.since, k.kept.trans h.kept, k.nroots.trans h.nroots, k.ncoll.trans h.ncoll, k.nres.trans h.nres, k.moved.trans h.moved, k.rlen.trans h.rlen, k.blen.trans h.blen⟩
def MovedPost (w : World) (own : Own) (hp : Nat) (M : HM) (x : HX) (G : Gr) (hs : List Nat) (bs : List (Option Nat)) (P : List Nat) (n : Nat) (rs gs : List Nat) (c : Nat → Nat) (cur q j : Nat) (e : Ending) (w' : World) : Prop :=
  ∃ own' M' vg' gs' r rr, e = .returned (.int .u64 (plOf G (P ++ r) bs j : Int)) ∧ HMid w' own' hp M' x vg' gs' ∧ Mid G hs bs (P ++ r) n (rs ++ rr) gs' c cur q M' ∧ New (P ++ r) (rs ++ rr) j ∧ HStep w own w' own' ∧ MSame M M' ∧ M'.roots = M.roots ∧ gs'.length = gs.length + rr.length
set_option maxHeartbeats 4000000 in
set_option maxRecDepth 100000 in
theorem moved_zero (w : World) (hp : Nat) : Calls Tryz.prog 75 #[.pointer (some ⟨hp, 0, none⟩), .int .u64 0] w fun e w' => e = .returned (.int .u64 0) ∧ w = w' := by
  go_enter Tryz.func75, Tryz.ntmps75
  go_wp2_with fail
  go_ret
  exact ⟨rfl, rfl⟩
set_option maxHeartbeats 4000000 in
set_option maxRecDepth 100000 in
theorem moved_small (w : World) (hp ph ps : Nat) (p : Nat) (h0 : 1 ≤ p) (h1 : p ≤ 1048576) (c1 : w.cell? ⟨hp, 1, none⟩ = some (.pointer (some ⟨ph, 0, none⟩))) (c2 : w.cell? ⟨hp, 2, none⟩ = some (.pointer (some ⟨ps, 0, none⟩))) (u : Nat) (hu : u ≤ 1048576) (R : World → Prop) (hst : ∀ w', R w' → w'.cell? ⟨hp, 1, none⟩ = some (.pointer (some ⟨ph, 0, none⟩)) ∧ w'.cell? ⟨hp, 2, none⟩ = some (.pointer (some ⟨ps, 0, none⟩)))
    (HT : ∀ m, Calls Tryz.prog 121 #[.pointer (some ⟨ps, 0, none⟩), .pointer (some ⟨ph, 0, none⟩), .int .i64 (p : Int)] (w.drewN m) fun e w' => e = .returned (.tuple #[.int .i64 (u : Int), .int .i64 0]) ∧ R w') :
    Calls Tryz.prog 75 #[.pointer (some ⟨hp, 0, none⟩), .int .u64 (p : Int)] w fun e w' => e = .returned (.int .u64 (u : Int)) ∧ R w' := by
  have hg := gone_and p (by omega)
  have e0 : ((p : Int) == 0) = false := by rw [beq_eq_false_iff_ne]; omega
  have hw : IntKind.i64.wrap (p : Int) = (p : Int) := Go.IntWalk.i64_in _ (by omega)
  have hw2 : IntKind.u64.wrap (u : Int) = (u : Int) := by rw [IntKind.wrap_u64]; omega
  have HH := Lib.hid HT; have HSt := Lib.hid hst
  clear HT hst
  go_enter Tryz.func75, Tryz.ntmps75
  go_wp2_with fail
  go_region_held3 (fun W => W.cell? ⟨hp, 1, none⟩ = some (.pointer (some ⟨ph, 0, none⟩)) ∧ W.cell? ⟨hp, 2, none⟩ = some (.pointer (some ⟨ps, 0, none⟩))) (first | exact ⟨c1, c2⟩ | exact ⟨k1, k2⟩) ((go_at_call 121; refine (HH.out _).mono ?_; rintro e w' ⟨rfl, hR⟩; obtain ⟨k1, k2⟩ := HSt.out w' hR; have HR := Lib.hid hR; clear hR))
  go_wp2_with fail
  go_ret
  exact ⟨rfl, HR.out⟩
theorem src_one (w : World) (u : Value) (e : TypeId) (n : Nat) (hn : w.heap.size = n) : ∃ ad, (some ⟨n, 0, none⟩ : Option Addr) = some ad ∧ ∀ j x, [u][j]? = some x → (w.alloc (.cells #[u] e)).cell? (ad.add j) = some x := by
  subst hn
  refine ⟨_, rfl, fun j x hj => ?_⟩
  cases j with
  | zero =>
    injection hj with hj
    subst hj
    have e1 : (w.alloc (.cells #[u] e)).heap[w.heap.size]? = some (.cells #[u] e (0, 0)) := by rw [alloc_at, if_pos rfl]
    unfold World.cell? Addr.add
    simp only [if_true]
    rw [e1]; rfl
  | succ j => simp at hj
theorem infoInt : (Tryz.prog.info? 3).map (fun i => (i.zero, i.size, i.bytes)) = some (some (.int .i64 0), 1, 8) := by kernel_rfl
section
variable {w w' : World} {own own' : Own} {hp : Nat} {M : HM} {x : HX} {vg : Value} {gs : List Nat}
theorem HMid.mark (H : HMid w own hp M x vg gs) {s : Nat} {b : Bool} (hs : M.reached[s]? = some b) : ∃ g cap, x.vr = .slice (some ⟨g, 0, none⟩) M.reached.length cap ∧ s < M.reached.length ∧ M.reached.length ≤ cap ∧ own g = 3 ∧ w.cell? ⟨g, s, none⟩ = some (.bool b) ∧ w.frozen? ⟨g, s, none⟩ = false := by
  obtain ⟨hlt, e⟩ := List.getElem?_eq_some_iff.1 hs
  obtain ⟨g, cap, hv, hc, _, hcell, hf⟩ := own_cells H.rr.1 (by omega)
  have := hcell s (by rw [List.length_map]; exact hlt)
  rw [List.getElem_map, e] at this
  exact ⟨g, cap, hv, hlt, hc, H.rr.2 g (by rw [hv]; rfl), this, hf s⟩
theorem HMid.setMark (H : HMid w own hp M x vg gs) {s g cap : Nat} (hv : x.vr = .slice (some ⟨g, 0, none⟩) M.reached.length cap) (b : Bool) : HMid (w.setCell ⟨g, s, none⟩ (.bool b)) own hp { M with reached := M.reached.set s b } x vg gs ∧ HStep w own (w.setCell ⟨g, s, none⟩ (.bool b)) own := by
  have og : own g = 3 := H.rr.2 g (by rw [hv]; rfl)
  have hfr : Fr (fun b => own b = 3) w (w.setCell ⟨g, s, none⟩ (.bool b)) := (Fr.refl (fun b => own b = 3) w).setCell (p := ⟨g, s, none⟩) (.inl og) _
  obtain ⟨a, b', c, d, e, f2, f3, f5, f4⟩ := H.core (T := fun t => t = 3) (by rintro t rfl; decide) hfr (Ow.refl _ _)
  refine ⟨⟨⟨a, b', c, d, f2 (by decide), e, H.none_, ?_, f5 (by decide), (f4 (by decide)).1, (f4 (by decide)).2, H.nums, fun b hb => H.top b (by simpa [World.setCell] using hb)⟩, ?_⟩, ⟨hfr.mono (fun b _ hb => by omega), Ow.refl _ _⟩⟩
  · show RowV _ own 3 _ 1 x.vr (M.reached.set s b).length ((M.reached.set s b).map Value.bool)
    have hr := H.rr
    rw [hv] at hr ⊢
    rw [List.length_set, List.map_set]
    refine ⟨own_set hr.1 s _, hr.2⟩
  · rw [setCell_at, if_neg (by rintro rfl; have := H.ohd; omega)]
    exact H.hd
theorem HMid.push {w3 : World} {v3 : Value} (H : HMid w own hp M x vg gs) (s : Nat) (o : Obj) (hq : QRow w3 0 3 1 v3 (gs.length + 1) (gs.map iv ++ [iv s])) (hg : (w.alloc o).grownBy w3 vg.ownBlock) (hat : v3.ownBlock = vg.ownBlock ∨ ∃ b, v3.ownBlock = some b ∧ (w.alloc o).heap.size ≤ b) :
    w3.cell? ⟨hp, 5, none⟩ = some vg ∧ w3.frozen? ⟨hp, 5, none⟩ = false ∧ ∃ own', Hid (HMid (w3.setCell ⟨hp, 5, none⟩ v3) own' hp M x v3 (gs ++ [s])) ∧ HStep w own (w3.setCell ⟨hp, 5, none⟩ v3) own' := by
  have hne : ∀ k, vg.ownBlock = some k → k ≠ hp := fun k hk e => by have := H.og k hk; have := H.ohd; rw [e] at *; omega
  have hbig : (w.alloc o).heap.size = w.heap.size + 1 := by simp
  have hd3 : w3.heap[hp]? = some (.cells (hdV M x vg) 95 (0, 0)) := by
    rw [hg.block hp (by rw [hbig]; have := H.hlt; omega) (fun e => hne hp e.symm rfl), alloc_at, if_neg (by have := H.hlt; omega)]
    exact H.hd
  have h3 : ∀ k, v3.ownBlock = some k → vg.ownBlock = some k ∨ w.heap.size < k := fun k hk => by
    rcases hat with e | ⟨b, hb, hle⟩
    · exact .inl (e ▸ hk)
    · rw [hb] at hk; injection hk with hk; right; rw [← hk]; omega
  have hne3 : ∀ k, v3.ownBlock = some k → k ≠ hp := fun k hk => by
    rcases h3 k hk with h | h
    · exact hne k h
    · have := H.hlt; omega
  have hlt3 : ∀ k, v3.ownBlock = some k → k < w3.heap.size := fun k hk => by
    obtain ⟨_, cells, hc⟩ := q_typed hq k hk
    exact blk_lt hc
  have hfr3 : Fr (fun b => own b = 4) w w3 := ((Fr.refl (fun b => own b = 4) w).alloc o).grown hg (fun k hk => .inl (H.og k hk))
  have hfr : Fr (fun b => own b = 4 ∨ own b = 1) w (w3.setCell ⟨hp, 5, none⟩ v3) := (hfr3.mono (fun b _ hb => .inl hb)).setCell (.inl (.inr H.ohd)) _
  have ow : Ow own (fun b => if v3.ownBlock = some b then 4 else own b) w := fun b hb => by
    dsimp only
    by_cases e : v3.ownBlock = some b
    · rw [if_pos e]
      rcases h3 b e with h | h
      · exact (H.og b h).symm
      · omega
    · rw [if_neg e]
  refine ⟨by simp [World.cell?, hd3, hdV], by simp [World.frozen?, hd3], fun b => if v3.ownBlock = some b then 4 else own b, ?_, ⟨hfr.mono (fun b _ hb => by omega), ow⟩⟩
  obtain ⟨a, b', c, d, e, f2, f3, f5, f4⟩ := H.core (T := fun t => t = 4 ∨ t = 1) (by rintro t (rfl | rfl) <;> decide) hfr ow
  refine ⟨⟨a, b', c, d, f2 (by decide), e, H.none_, f3 (by decide), f5 (by decide), ?_, fun k hk => if_pos hk, H.nums, fun b hb => ?_⟩, ?_⟩
  · rw [List.length_append, List.length_singleton, List.map_append]
    refine q_move hq (fun k hk => ?_)
    rw [setCell_at, if_neg (hne3 k hk)]
  · have hb' : w3.heap.size ≤ b := by simpa [World.setCell] using hb
    show (if v3.ownBlock = some b then 4 else own b) = 0
    rw [if_neg (fun e => by have := hlt3 b e; omega)]
    exact H.top b (by have := hg.size; omega)
  · rw [setCell_at, if_pos rfl, hd3]
    rfl
end
set_option maxHeartbeats 4000000 in
set_option maxRecDepth 100000 in
theorem moved_bigOld (w : World) (own : Own) (hp : Nat) (M : HM) (x : HX) (vg : Value) (gs : List Nat) (H : HMid w own hp M x vg gs) (s : Nat) (hs : M.reached[s]? = some true) (hb : M.reached.length ≤ 1048576) :
    Calls Tryz.prog 75 #[.pointer (some ⟨hp, 0, none⟩), .int .u64 ((9223372036854775808 + s : Nat) : Int)] w fun e w' => e = .returned (.int .u64 ((9223372036854775808 + s : Nat) : Int)) ∧ w = w' := by
  obtain ⟨g, cap, hv, hlt, hc, -, k0, k1⟩ := H.mark hs
  have c4 := H.c4
  rw [hv] at c4
  have hg := big_and s (by omega)
  have hg2 := big_andNot s (by omega)
  obtain ⟨n, hn⟩ : ∃ n, 9223372036854775808 + s = n := ⟨_, rfl⟩
  rw [hn] at hg hg2 ⊢
  have hg3 : (bits .and .u64 (n : Int) 9223372036854775808 != 0) = true := by rw [hg]; decide
  have hw : IntKind.i64.wrap (s : Int) = (s : Int) := Go.IntWalk.i64_in _ (by omega)
  have e0 : ((n : Int) == 0) = false := by rw [beq_eq_false_iff_ne]; omega
  have hb2 : ((n : Int)) ≤ 18446744073709551615 := by omega
  clear hn H hv hg
  go_enter Tryz.func75, Tryz.ntmps75
  go_wp2_with fail
  go_ret
  exact ⟨rfl, rfl⟩
def BigPost (w : World) (own : Own) (hp : Nat) (M : HM) (x : HX) (gs : List Nat) (s : Nat) (e : Ending) (w' : World) : Prop :=
  ∃ own' vg', e = .returned (.int .u64 ((9223372036854775808 + s : Nat) : Int)) ∧ HMid w' own' hp { M with reached := M.reached.set s true } x vg' (gs ++ [s]) ∧ HStep w own w' own'
set_option maxHeartbeats 4000000 in
set_option maxRecDepth 100000 in
theorem moved_bigNew (w : World) (own : Own) (hp : Nat) (M : HM) (x : HX) (vg : Value) (gs : List Nat) (H : HMid w own hp M x vg gs) (s : Nat) (hs : M.reached[s]? = some false) (hb : M.reached.length ≤ 1048576) (hgl : gs.length ≤ 1048576) :
    Calls Tryz.prog 75 #[.pointer (some ⟨hp, 0, none⟩), .int .u64 ((9223372036854775808 + s : Nat) : Int)] w (BigPost w own hp M x gs s) := by
  obtain ⟨g, cap, hv, hlt, hc, og, k0, k1⟩ := H.mark hs
  have c4 := H.c4
  rw [hv] at c4
  obtain ⟨h1, h2⟩ := H.setMark (s := s) hv true
  have hgne : g ≠ hp := by rintro rfl; have := H.ohd; omega
  obtain ⟨B, cg, hvg, -⟩ := q_slice H.rg
  subst hvg
  have d5 := h1.c5
  have hg := big_and s (by omega)
  have hg2 := big_andNot s (by omega)
  have H1 := Lib.hid h1; have H2 := Lib.hid h2
  obtain ⟨n, hn⟩ : ∃ n, 9223372036854775808 + s = n := ⟨_, rfl⟩
  have HN := Lib.hid hn
  rw [hn] at hg hg2 ⊢
  have hg3 : (bits .and .u64 (n : Int) 9223372036854775808 != 0) = true := by rw [hg]; decide
  have hw : IntKind.i64.wrap (s : Int) = (s : Int) := Go.IntWalk.i64_in _ (by omega)
  have e0 : ((n : Int) == 0) = false := by rw [beq_eq_false_iff_ne]; omega
  have hb2 : ((n : Int)) ≤ 18446744073709551615 := by omega
  clear hn H hv hg h1 h2
  go_enter Tryz.func75, Tryz.ntmps75
  go_wp2_with ((with_reducible refine gate_dst (N := 37) rfl ?_); refine halt ?_)
  refine unhalt ?_
  (refine wpList_q _ rfl _ _ 92 rfl 0 3 (.int .i64 0) 8 Tryz.underlying92 infoInt rfl (.slice B gs.length cg) gs.length (gs.map iv) rfl (q_move H1.out.rg (fun k hk => by obtain ⟨_, cells, hc⟩ := q_typed H1.out.rg k hk; exact Below.heap_alloc _ _ _ (blk_lt hc))) _ 1 1 [iv s] rfl rfl (fun _ => src_one _ _ 3 _ (by simp [World.setCell])) (fun u hu => by rw [List.mem_singleton.1 hu]; rfl) (by unfold maxLen; omega) (by omega) (Nat.zero_le _) ?_; intro v3 w3 hq hgr hat; obtain ⟨B3, c3, hv3, -⟩ := q_slice hq; subst hv3; obtain ⟨l0, l1, own', HQ, hst⟩ := H1.out.push s _ hq hgr hat; have HS := Lib.hid (H2.out.trans hst); clear hq hgr hat hst)
  go_wp2_with fail
  go_ret
  exact ⟨own', _, (by rw [HN.out]; rfl), HQ.out, HS.out⟩
end Go.Proofs.YtglglknhifjbaaaGreatDoor.Sp
namespace Go.Proofs.YtglglknhifjbaaaGreatDoor.Sp
open Go.RowKit Go.Proofs.YtglglknhifjbaaaGreatDoorW.PrintWords Go.Proofs.YtglglknhifjbaaaGreatDoorW.PrintLast Go.Proofs.YtglglknhifjbaaaGreatDoorW.PrintMore
set_option linter.unusedVariables false
set_option linter.unusedSimpArgs false
section
variable {w w' : World} {own own' : Own} {hp : Nat} {M : HM} {x : HX} {vg : Value} {gs : List Nat}
theorem HMid.take (H : HMid w own hp M x vg gs) {i : Nat} {e : Ending} (hT : TakePost w own x.ah x.ph M.half.size M.half.objs i x.as_ x.ps M.spare.size M.spare.objs e w') :
    ∃ own' o, M.half.objs[i]? = some o ∧ HMid w' own' hp { M with half := ⟨M.half.size, M.half.objs.set i (9223372036854775808 + usedOf M.spare.objs, o.2)⟩, spare := ⟨M.spare.size, M.spare.objs ++ [o]⟩ } x vg gs ∧ HStep w own w' own' ∧ e = .returned (.tuple #[.int .i64 (usedOf M.spare.objs : Int), .int .i64 0]) := by
  obtain ⟨own', hi, he, h1, h2, hf, ow, nw, top⟩ := hT
  have out : ∀ b, Of own x.ah b ∨ Of own x.as_ b → ∀ t, t < 10 → own b ≠ t := fun b hb t ht => by rcases hb with (hb | hb | hb) | (hb | hb | hb) <;> omega
  have hlt : ∀ k, vg.ownBlock = some k → k < w.heap.size := fun k hk => by
    obtain ⟨_, cells, hc⟩ := q_typed H.rg k hk
    exact blk_lt hc
  refine ⟨own', M.half.objs[i], List.getElem?_eq_getElem hi, ⟨⟨Nat.lt_of_lt_of_le H.hlt hf.size, (ow hp H.hlt).trans H.ohd, h2, h1, H.rb.fr hf ow (fun b hb => out b hb 2 (by decide)), ⟨H.blk.1, fun s p b hsl => ?_⟩, H.none_, H.rr.fr hf ow (fun b hb => out b hb 3 (by decide)), H.rt.fr hf ow (fun b hb => out b hb 5 (by decide)), ?_, fun k hk => ?_, H.nums, top⟩, ?_⟩, ⟨hf.mono (fun b _ hb => by rcases hb with (hb | hb | hb) | (hb | hb | hb) <;> omega), ow⟩, he⟩
  · obtain ⟨A, k1, k2⟩ := H.blk.2 s p b hsl
    have := H.num_hb hsl
    exact ⟨A, k1, k2.fr hf ow (fun c hc => by rcases hc with (hc | hc | hc) | (hc | hc | hc) <;> omega)⟩
  · exact q_move H.rg (fun k hk => hf.block k (hlt k hk) (fun hb => out k hb 4 (by decide) (H.og k hk)))
  · rw [ow k (hlt k hk)]; exact H.og k hk
  · exact (hf.block hp H.hlt (fun hq => out hp hq 1 (by decide) H.ohd)).trans H.hd
theorem HMid.drewN (H : HMid w own hp M x vg gs) (n : Nat) : HMid (w.drewN n) own hp M x vg gs := by
  obtain ⟨a, b, c, d, e, f2, f3, f5, f4⟩ := H.core (T := fun _ => False) (fun _ h => h.elim) ((Fr.refl (fun _ => False) w).drewN n) (Ow.refl _ _)
  exact ⟨⟨a, b, c, d, f2 id, e, H.none_, f3 id, f5 id, (f4 id).1, (f4 id).2, H.nums, H.top⟩, H.hd⟩
end
section
variable {G : Gr} {hs : List Nat} {bs : List (Option Nat)} {P : List Nat} {n : Nat} {rs gs : List Nat} {c : Nat → Nat} {cur q : Nat} {M : HM}
theorem Mid.zero (m : Mid G hs bs P n rs gs c cur q M) : plOf G P bs 0 = 0 := by
  refine pl_none (fun h => ?_) (fun h => ?_)
  · have := m.lo 0 (.inl (m.psub 0 h)); omega
  · have := m.lo 0 (.inr h); omega
theorem Mid.halfPos (m : Mid G hs bs P n rs gs c cur q M) (k : Nat) (hk : k < hs.length) : plOf G hs bs hs[k] = posOf M.half.objs k := by
  rw [pl_small m.hnd k hk, m.half, posOf_eq, List.map_map]
  congr 1
  exact map_congr' (fun i _ => by simp [encH, osize, Gr.sz, Node.size, Function.comp]; omega)
theorem Mid.sparePos (m : Mid G hs bs P n rs gs c cur q M) (k : Nat) (hk : k < P.length) : plOf G P bs P[k] = posOf M.spare.objs k := by
  rw [pl_small m.pnd k hk, m.spare, posOf_eq, List.map_map]
  congr 1
  exact map_congr' (fun i _ => by simp [encC, osize, Gr.sz, Node.size, Function.comp]; omega)
theorem get_map {α β : Type} {l : List α} {f : α → β} {m : List β} (e : m = l.map f) (k : Nat) (hk : k < l.length) : ∃ h : k < m.length, m[k] = f l[k] := by
  subst e
  exact ⟨by simpa using hk, by simp⟩
end
set_option maxHeartbeats 4000000 in
set_option maxRecDepth 100000 in
theorem moved_walk (w : World) (own : Own) (hp : Nat) (M : HM) (x : HX) (vg : Value) (gs : List Nat) (H : HMid w own hp M x vg gs) (G : Gr) (hs : List Nat) (bs : List (Option Nat)) (P : List Nat) (n : Nat) (rs : List Nat) (c : Nat → Nat) (cur q : Nat) (m : Mid G hs bs P n rs gs c cur q M)
    (hc : New P rs cur) (j : Nat) (hj : j = 0 ∨ Live hs bs j) (hr : j ≠ 0 → Reach G j) (hbl : bs.length ≤ 1048576) (p : Nat) (hp0 : p = plOf G hs bs j) :
    Calls Tryz.prog 75 #[.pointer (some ⟨hp, 0, none⟩), .int .u64 (p : Int)] w (MovedPost w own hp M x G hs bs P n rs gs c cur q j) := by
  subst hp0
  rcases hj with rfl | hj
  · rw [m.toLay.zero]
    refine (moved_zero w hp).mono ?_
    rintro e w' ⟨rfl, rfl⟩
    refine ⟨own, M, vg, gs, [], [], ?_, H, by rw [List.append_nil, List.append_nil]; exact m, .inl rfl, HStep.refl w own, MSame.refl M, rfl, rfl⟩
    rw [List.append_nil, m.zero]; rfl
  · have hr := hr (fun e => by have := m.lo j hj; omega)
    by_cases hb : some j ∈ bs
    · obtain ⟨s, hs1, es⟩ := mem_get hb
      have e' : bs[s]? = some (some j) := by rw [List.getElem?_eq_getElem hs1, es]
      obtain ⟨p1, p2⟩ := m.bigAt s j e'
      rw [p1]
      have hrl : M.reached.length = bs.length := by rw [m.reached, List.length_map]
      have hmk : M.reached[s]? = some (decide (j ∈ rs)) := by rw [m.reached, List.getElem?_map, e']; rfl
      by_cases hjr : j ∈ rs
      · rw [decide_eq_true hjr] at hmk
        refine (moved_bigOld w own hp M x vg gs H s hmk (by omega)).mono ?_
        rintro e w' ⟨rfl, rfl⟩
        refine ⟨own, M, vg, gs, [], [], ?_, H, by rw [List.append_nil, List.append_nil]; exact m, by rw [List.append_nil, List.append_nil]; exact .inr (.inr hjr), HStep.refl w own, MSame.refl M, rfl, rfl⟩
        rw [List.append_nil, p2]
      · rw [decide_eq_false hjr] at hmk
        have hgl := m.count
        have hrs : rs.length ≤ bs.length := by
          have := sum_sub (fun _ => 1) rs (bs.filterMap id) m.rnd (fun i hi => List.mem_filterMap.2 ⟨some i, m.rsub i hi, rfl⟩)
          have h3 := List.length_filterMap_le id bs
          have e : ∀ l : List Nat, (l.map fun _ => 1).sum = l.length := fun l => by induction l with
            | nil => rfl
            | cons a l ih => simp only [List.map_cons, List.sum_cons, ih, List.length_cons]; omega
          rw [e, e] at this
          omega
        refine (moved_bigNew w own hp M x vg gs H s hmk (by omega) (by omega)).mono ?_
        rintro e w' ⟨own', vg', rfl, h1, h2⟩
        have hcur : j ≠ cur := fun e => by
          rcases hc with h | h | h
          · have := m.lo j hj; omega
          · exact m.dis cur (m.psub cur h) (e ▸ hb)
          · exact hjr (e ▸ h)
        have hm := m.touch s j e' hjr hr hcur
        refine ⟨own', _, vg', gs ++ [s], [], [j], ?_, h1, by rw [List.append_nil]; exact hm, .inr (.inr (by simp)), h2, ⟨rfl, rfl, rfl, rfl, rfl, rfl, rfl, rfl, rfl, rfl, rfl, rfl⟩, rfl, by simp⟩
        rw [List.append_nil, p2]
    · have hj : j ∈ hs := hj.resolve_right hb
      obtain ⟨k, hk, ek⟩ := mem_get hj
      have hpos := m.halfPos k hk
      rw [ek] at hpos
      obtain ⟨hk2, hobj⟩ := get_map m.half k hk
      rw [ek] at hobj
      have hpl := pos_used M.half.objs k hk2
      have hfit := H.half.fit; have hs2 := H.half.s2
      have hp1 := pos_pos M.half.objs k
      have hos : 1 ≤ osize M.half.objs[k] := by unfold osize; omega
      have c1 := H.c1; have c2 := H.c2
      by_cases hjP : j ∈ P
      · obtain ⟨k', hk', ek'⟩ := mem_get hjP
        have hpos' := m.sparePos k' hk'
        rw [ek'] at hpos'
        have hk2' : k' < M.spare.objs.length := by rw [m.spare, List.length_map]; exact hk'
        have hpl' := pos_used M.spare.objs k' hk2'
        have hos' : 1 ≤ osize M.spare.objs[k'] := by unfold osize; omega
        have hfit' := H.spare.fit; have hs2' := H.spare.s2
        have hhd : M.half.objs[k].1 = 9223372036854775808 + plOf G P bs j := by rw [hobj]; unfold encH; rw [if_pos hjP]
        refine (moved_small w hp x.ph x.ps (plOf G hs bs j) (by omega) (by omega) c1 c2 (plOf G P bs j) (by omega) (fun w' => ∃ m, w' = w.drewN m) (fun w' ⟨m, e⟩ => by rw [e]; exact ⟨c1, c2⟩) (fun m' => ?_)).mono ?_
        · refine (take_old _ own x.ah x.ph M.half.size M.half.objs (H.half.drewN m') k hk2 (plOf G P bs j) (by omega) hhd (plOf G hs bs j) hpos x.ps).mono ?_
          rintro e w' ⟨rfl, rfl⟩
          exact ⟨rfl, m', rfl⟩
        · rintro e w' ⟨rfl, n', rfl⟩
          refine ⟨own, M, vg, gs, [], [], ?_, H.drewN n', by rw [List.append_nil, List.append_nil]; exact m, by rw [List.append_nil, List.append_nil]; exact .inr (.inl hjP), HStep.drewN n', MSame.refl M, rfl, rfl⟩
          rw [List.append_nil]
      · obtain ⟨hm, hpn⟩ := m.copy k hk (by rw [ek]; exact hjP) (by rw [ek]; exact hr)
        rw [ek] at hm hpn
        have hok := m.ok j (.inl hj)
        have hroom := m.roomy j hj hjP
        have hfit' := H.spare.fit; have hs2' := H.spare.s2; have hsz := m.fit
        have hhd : M.half.objs[k].1 = headW (G.node j).kind (G.node j).refs.length (G.node j).raws.length := by rw [hobj]; unfold encH; rw [if_neg hjP]; rfl
        have hfl : M.half.objs[k].2.length = (G.node j).refs.length + (G.node j).raws.length := by rw [hobj]; simp [encH]
        have hsj : G.sz j = 1 + ((G.node j).refs.length + (G.node j).raws.length) := by unfold Gr.sz Node.size; omega
        refine (moved_small w hp x.ph x.ps (plOf G hs bs j) (by omega) (by omega) c1 c2 (usedOf M.spare.objs) (by omega) (fun w' => ∃ own', HMid w' own' hp { M with half := ⟨M.half.size, M.half.objs.set k (9223372036854775808 + usedOf M.spare.objs, (G.node j).refs.map (plOf G hs bs) ++ (G.node j).raws)⟩, spare := ⟨M.spare.size, M.spare.objs ++ [((G.node j).head, (G.node j).refs.map (plOf G hs bs) ++ (G.node j).raws)]⟩ } x vg gs ∧ HStep w own w' own') (fun w' ⟨own', h1, _⟩ => ⟨h1.c1, h1.c2⟩) (fun m' => ?_)).mono ?_
        rotate_left
        · rintro e w' ⟨rfl, own', h1, h2⟩
          refine ⟨own', _, vg, gs, [j], [], by rw [hpn], h1, by rw [List.append_nil]; exact hm, .inr (.inl (by simp)), h2, ⟨rfl, rfl, rfl, rfl, rfl, rfl, rfl, rfl, rfl, rfl, rfl, rfl⟩, rfl, rfl⟩
        · refine (take_new _ own x.ah x.ph M.half.size M.half.objs (H.half.drewN m') k hk2 _ _ _ hok.sh hhd hfl (plOf G hs bs j) hpos x.as_ x.ps M.spare.size M.spare.objs (H.spare.drewN m') H.num_hs (by omega) H.top).mono ?_
          intro e w' hT
          obtain ⟨own', o, ho, h1, h2, rfl⟩ := (H.drewN m').take hT
          refine ⟨rfl, own', ?_, (HStep.drewN m').trans h2⟩
          have : o = (M.half.objs[k]) := by rw [List.getElem?_eq_getElem hk2] at ho; exact (Option.some.inj ho).symm
          rw [this, hobj] at h1
          have e3 : encH G P bs (plOf G hs bs) j = ((G.node j).head, (G.node j).refs.map (plOf G hs bs) ++ (G.node j).raws) := by unfold encH; rw [if_neg hjP]
          rw [e3] at h1
          exact h1
end Go.Proofs.YtglglknhifjbaaaGreatDoor.Sp
