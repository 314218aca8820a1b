import Derived.Test.YtglglknhifjbaaaGreatDoorColl
namespace Go.Proofs.YtglglknhifjbaaaGreatDoor.Sp
open Go.RowKit Go.Proofs.YtglglknhifjbaaaGreatDoorW.PrintWords Go.Proofs.YtglglknhifjbaaaGreatDoorW.PrintLast Go.Proofs.YtglglknhifjbaaaGreatDoorW.PrintMore
set_option linter.unusedVariables false
set_option linter.unusedSimpArgs false
theorem colst_start {w w' : World} {own : Own} {hp : Nat} {M : HM} {x : HX} {vg : Value} {G : Gr} {hs : List Nat} {bs : List (Option Nat)} (H : HMid w own hp M x vg []) (R : Rep G hs bs M) {e : Ending} (hc : ClearPost w own x.as_ x.ps M.spare.size e w') :
    e = .returned (.tuple #[]) ∧ ∃ own', ColSt w own hp M x G hs bs w' own' { M with spare := ⟨M.spare.size, []⟩ } vg [] [] 0 [] (fun _ => 0) 0 := by
  obtain ⟨own', he, hA, hst⟩ := hc
  exact ⟨he, own', H.stepSpare (A := ⟨M.spare.size, []⟩) hst hA, R.start, hst.h, ⟨rfl, rfl, rfl, rfl, rfl, rfl, rfl, rfl, rfl, rfl, rfl, rfl⟩⟩
section
variable {w : World} {own : Own} {hp : Nat} {M : HM} {x : HX} {G : Gr} {hs : List Nat} {bs : List (Option Nat)} {wr : World} {own' : Own} {M' : HM} {vg' : Value} {gs' P : List Nat} {n : Nat} {rs : List Nat} {c : Nat → Nat} {q : Nat}
theorem Mid.spareUsed {cur : Nat} {M : HM} (m : Mid G hs bs P n rs gs' c cur q M) : usedOf M.spare.objs = posN (P.map G.sz) P.length := by
  rw [m.spare]
  unfold usedOf
  rw [posOf_eq, List.map_map, List.length_map]
  congr 1
  exact map_congr' (fun i _ => by simp [encC, osize, Gr.sz, Node.size, Function.comp]; omega)
theorem Mid.rlen {cur : Nat} {M : HM} (m : Mid G hs bs P n rs gs' c cur q M) : rs.length ≤ bs.length := by
  have := sum_sub (fun _ => 1) rs (bs.filterMap id) m.rnd (fun i hi => List.mem_filterMap.2 ⟨some i, m.rsub i hi, rfl⟩)
  have h3 := List.length_filterMap_le id bs
  have e : ∀ l : List Nat, (l.map fun _ => 1).sum = l.length := fun l => by induction l with
    | nil => rfl
    | cons a l ih => simp only [List.map_cons, List.sum_cons, ih, List.length_cons]; omega
  rw [e, e] at this
  omega
def LookedPost (w : World) (own : Own) (hp : Nat) (M : HM) (x : HX) (G : Gr) (hs : List Nat) (bs : List (Option Nat)) (P : List Nat) (n : Nat) (rs gs : List Nat) (q sz : Nat) (e : Ending) (w' : World) : Prop :=
  ∃ own2 M2 vg2 gs2 r rr c2, e = .returned (.int .i64 (sz : Int)) ∧ ColSt w own hp M x G hs bs w' own2 M2 vg2 gs2 (P ++ r) n (rs ++ rr) c2 q ∧ gs2.length = gs.length + rr.length
theorem ColSt.look1 (h : ColSt w own hp M x G hs bs wr own' M' vg' gs' P n rs c q) (hn : n < P.length) (hbl : bs.length ≤ 1048576) :
    Calls Tryz.prog 76 #[.pointer (some ⟨hp, 0, none⟩), .iface 89 (.pointer (some ⟨x.ps, 0, none⟩)), .int .i64 (posN (P.map G.sz) n : Int)] wr (LookedPost w own hp M x G hs bs P (n + 1) rs gs' q (G.sz P[n])) := by
  obtain ⟨m1, m2⟩ := h.mid.begin hn
  have hpl := pl_small (G := G) (bs := bs) h.mid.pnd n hn
  refine (look_walk wr own' hp M' x vg' gs' h.mem G hs bs P n rs c P[n] q m1 m2 x.ps (posN (P.map G.sz) n) (.small (List.getElem_mem hn) rfl hpl.symm) hbl).mono ?_
  rintro e w' ⟨own2, M2, vg2, gs2, r, rr, c2, he, hs2⟩
  exact ⟨own2, M2, vg2, gs2, r, rr, c2, he, ⟨hs2.mem, hs2.mid.done (by rw [List.length_append]; omega) (by rw [List.getElem_append_left hn]) hs2.ct, h.step.trans hs2.step, h.same.trans hs2.same⟩, hs2.glen⟩
theorem iv_cell {g o : Nat} {l : List Nat} {s n cap : Nat} {w : World} (h : QRow w 0 3 1 (.slice (some ⟨g, o, none⟩) n cap) n ((s :: l).map iv)) (hn : n = l.length + 1) : w.cell? ⟨g, o, none⟩ = some (.int .i64 (s : Int)) := by
  obtain ⟨ad, e, hcell⟩ := q_cells h (by omega)
  injection e with e
  subst e
  have := hcell 0 (iv s) rfl
  have ea : (⟨g, o, none⟩ : Addr).add 0 = ⟨g, o, none⟩ := by unfold Addr.add; simp
  rw [ea] at this
  exact this
theorem ColSt.front {s : Nat} {gt : List Nat} (h : ColSt w own hp M x G hs bs wr own' M' vg' (s :: gt) P n rs c q) :
    ∃ g o cap, vg' = .slice (some ⟨g, o, none⟩) (gt.length + 1) cap ∧ gt.length + 1 ≤ cap ∧ wr.cell? ⟨g, o, none⟩ = some (.int .i64 (s : Int)) ∧
      ∀ v', v' = .slice (if cap = 1 then some ⟨g, o, none⟩ else some ⟨g, o + 1, none⟩) gt.length (cap - 1) → HMid (wr.setCell ⟨hp, 5, none⟩ v') own' hp M' x v' gt ∧ HStep wr own' (wr.setCell ⟨hp, 5, none⟩ v') own' := by
  have hq := h.mem.rg
  obtain ⟨B, cap, hv, hle⟩ := q_slice hq
  subst hv
  obtain ⟨⟨g, o, i⟩, rfl, hcell⟩ := q_cells hq (by simp)
  have hi : i = none := by
    rcases hq.2 with ⟨hz, _⟩ | ⟨g', off, cap', cur, hv, _⟩
    · simp at hz
    · injection hv with ha _ _
      injection ha with ha
      injection ha
  subst hi
  have hlen : (s :: gt).length = gt.length + 1 := rfl
  refine ⟨g, o, cap, rfl, hle, iv_cell hq rfl, ?_⟩
  rintro v' rfl
  have hd := q_drop (k := 1) hq (by simp)
  have e : (if cap = 1 then (some ⟨g, o, none⟩ : Option Addr) else (some ⟨g, o, none⟩ : Option Addr).map (·.add (1 * 1))) = (if cap = 1 then some ⟨g, o, none⟩ else some ⟨g, o + 1, none⟩) := by
    split
    · rfl
    · simp [Addr.add]
  rw [e] at hd
  exact h.mem.line _ gt (by simpa using hd) (fun k hk => by
    have : g = k := by
      split at hk <;> simpa [Value.ownBlock] using hk
    rw [← this]; rfl)
theorem ColSt.look2 {s : Nat} {gt : List Nat} (h : ColSt w own hp M x G hs bs wr own' M' vg' (s :: gt) P n rs c q) {w2 : World} {v2 : Value} (h1 : HMid w2 own' hp M' x v2 gt) (h2 : HStep wr own' w2 own') (hbl : bs.length ≤ 1048576) :
    ∃ p a, x.bl[s]? = some (some (p, a)) ∧ ∃ sz, Calls Tryz.prog 76 #[.pointer (some ⟨hp, 0, none⟩), .iface 89 (.pointer (some ⟨p, 0, none⟩)), .int .i64 1] w2 (LookedPost w own hp M x G hs bs P n rs gt q sz) := by
  obtain ⟨i, k1, k2, k3, m⟩ := h.mid.beginBig
  have hb : M'.blocks[s]? = some (some ⟨G.sz i + 1, [encC G (plOf G P bs) (plOf G hs bs) c i]⟩) := by rw [m.blocks, List.getElem?_map, k1]; rfl
  obtain ⟨p, a, e, _⟩ := h1.slot hb
  refine ⟨p, a, e, G.sz i, ?_⟩
  refine (look_walk w2 own' hp M' x v2 gt h1 G hs bs P n rs c i q m k3 p 1 (.big s a k1 k2 e rfl) hbl).mono ?_
  rintro e w' ⟨own2, M2, vg2, gs2, r, rr, c2, he, hs2⟩
  exact ⟨own2, M2, vg2, gs2, r, rr, c2, he, ⟨hs2.mem, hs2.mid.doneBig (List.mem_of_getElem? k1) hs2.ct, h.step.trans (h2.trans hs2.step), h.same.trans hs2.same⟩, hs2.glen⟩
end
theorem set_same {α : Type} (l : List α) (i : Nat) (c : α) (h : l[i]? = some c) : l.set i c = l := by
  obtain ⟨hi, e⟩ := List.getElem?_eq_some_iff.1 h
  rw [← e, List.set_getElem_self]
def swept (rs : List Nat) (bs : List (Option Nat)) (k : Nat) : List (Option Nat) := (keepB rs bs).take k ++ bs.drop k
theorem keepB_len (rs : List Nat) (bs : List (Option Nat)) : (keepB rs bs).length = bs.length := by simp [keepB]
theorem swept_succ (rs : List Nat) (bs : List (Option Nat)) (k : Nat) (hk : k < bs.length) : swept rs bs (k + 1) = (swept rs bs k).set k ((keepB rs bs)[k]'(by rw [keepB_len]; exact hk)) := by
  have hl := keepB_len rs bs
  apply List.ext_getElem?
  intro t
  unfold swept
  rw [List.getElem?_set]
  by_cases e : k = t
  · subst e
    rw [if_pos rfl, if_pos (by simp; omega), List.getElem?_append_left (by simp; omega), List.getElem?_take_of_lt (by omega), List.getElem?_eq_getElem (by omega)]
  · rw [if_neg e]
    rcases Nat.lt_or_ge t k with h | h
    · rw [List.getElem?_append_left (by simp; omega), List.getElem?_append_left (by simp; omega), List.getElem?_take_of_lt (by omega), List.getElem?_take_of_lt h]
    · rw [List.getElem?_append_right (by simp; omega), List.getElem?_append_right (by simp; omega), List.getElem?_drop, List.getElem?_drop]
      congr 1
      simp; omega
theorem swept_at (rs : List Nat) (bs : List (Option Nat)) (k : Nat) (hk : k < bs.length) : (swept rs bs k)[k]? = bs[k]? := by
  unfold swept
  have hl := keepB_len rs bs
  rw [List.getElem?_append_right (by simp; omega), List.getElem?_drop]
  congr 1
  simp; omega
theorem bsum_take (G : Gr) (l : List (Option Nat)) (k : Nat) (hk : k < l.length) : bsum G (l.take (k + 1)) = bsum G (l.take k) + match l[k] with | some i => G.sz i + 1 | none => 0 := by
  rw [take_succ' l k hk, bsum_app]
  congr 1
theorem bsum_part (G : Gr) (l : List (Option Nat)) (k : Nat) : bsum G (l.take k) ≤ bsum G l := by
  conv => rhs; rw [← List.take_append_drop k l, bsum_app]
  omega
structure Sweep (w : World) (own : Own) (hp : Nat) (x : HX) (G : Gr) (hs : List Nat) (bs : List (Option Nat)) (M' : HM) (vg' : Value) (P rs : List Nat) (c : Nat → Nat) (own' : Own) (wr : World) (k : Nat) (M2 : HM) (x2 : HX) : Prop where
  mem : HMid wr own' hp M2 x2 vg' []
  step : HStep w own wr own'
  eh : M2.half = M'.spare
  es : M2.spare = M'.half
  er : M2.reached = M'.reached
  et : M2.roots = M'.roots
  el : M2.large = bsum G ((keepB rs bs).take k)
  eb : M2.blocks = (swept rs bs k).map (Option.map fun i => ⟨G.sz i + 1, [encC G (plOf G P bs) (plOf G hs bs) c i]⟩)
  e1 : M2.limit = M'.limit
  e2 : M2.nroots = M'.nroots
  xb : x2.vb = x.vb
  xr : x2.vr = x.vr
  xl : x2.bl.length = bs.length
section
variable {w : World} {own : Own} {hp : Nat} {x : HX} {G : Gr} {hs : List Nat} {bs : List (Option Nat)} {M' : HM} {vg' : Value} {P rs : List Nat} {c : Nat → Nat} {own' : Own} {wr : World} {k : Nat} {M2 : HM} {x2 : HX}
theorem Sweep.drop (h : Sweep w own hp x G hs bs M' vg' P rs c own' wr k M2 x2) (hk : k < bs.length) (hr : (keepB rs bs)[k]? = some none) :
    ∃ g cap v, x.vb = .slice (some ⟨g, 0, none⟩) bs.length cap ∧ bs.length ≤ cap ∧ wr.cell? ⟨g, k, none⟩ = some v ∧ wr.frozen? ⟨g, k, none⟩ = false ∧ ∃ M3 x3, Sweep w own hp x G hs bs M' vg' P rs c own' (wr.setCell ⟨g, k, none⟩ (.pointer none)) (k + 1) M3 x3 := by
  have hk2 : k < x2.bl.length := by rw [h.xl]; exact hk
  obtain ⟨g, cap, hv, hc, _, k0, k1⟩ := h.mem.slotAt hk2
  obtain ⟨h1, h2⟩ := h.mem.dropBlk hk2 hv
  have hl := keepB_len rs bs
  have hr2 : (keepB rs bs)[k]'(by omega) = none := by rw [List.getElem?_eq_getElem (by omega)] at hr; exact Option.some.inj hr
  refine ⟨g, cap, _, by rw [← h.xb, hv, h.xl], by rw [← h.xl]; exact hc, k0, k1, _, _, h1, h.step.trans h2, h.eh, h.es, h.er, h.et, ?_, ?_, h.e1, h.e2, h.xb, h.xr, by show (x2.bl.set k none).length = _; rw [List.length_set]; exact h.xl⟩
  · show M2.large = _
    rw [h.el, bsum_take _ _ _ (by omega), hr2]; rfl
  · show M2.blocks.set k none = _
    rw [h.eb, swept_succ rs bs k hk, hr2, List.map_set]; rfl
theorem Sweep.keep (h : Sweep w own hp x G hs bs M' vg' P rs c own' wr k M2 x2) (hk : k < bs.length) (i : Nat) (hi : bs[k]? = some (some i)) (hir : i ∈ rs) :
    ∃ g cap p a l, x.vb = .slice (some ⟨g, 0, none⟩) bs.length cap ∧ bs.length ≤ cap ∧ wr.cell? ⟨g, k, none⟩ = some (.pointer (some ⟨p, 0, none⟩)) ∧ wr.cell? ⟨hp, 6, none⟩ = some (.int .i64 (M2.large : Int)) ∧ wr.frozen? ⟨hp, 6, none⟩ = false ∧ IsAr wr own' a p (G.sz i + 1) l ∧
      ∃ M3 x3, Sweep w own hp x G hs bs M' vg' P rs c own' (wr.drew.setCell ⟨hp, 6, none⟩ (.int .i64 ((M2.large + (G.sz i + 1) : Nat) : Int))) (k + 1) M3 x3 := by
  have hk2 : k < x2.bl.length := by rw [h.xl]; exact hk
  obtain ⟨g, cap, hv, hc, _, k0, k1⟩ := h.mem.slotAt hk2
  have hl := keepB_len rs bs
  have hb : M2.blocks[k]? = some (some ⟨G.sz i + 1, [encC G (plOf G P bs) (plOf G hs bs) c i]⟩) := by rw [h.eb, List.getElem?_map, swept_at rs bs k hk, hi]; rfl
  obtain ⟨p, a, e, hA⟩ := h.mem.slot hb
  rw [List.getElem?_eq_getElem hk2] at e
  have e := Option.some.inj e
  rw [e] at k0
  have hr2 : (keepB rs bs)[k]'(by omega) = some i := by
    have := keepB_at.2 ⟨hi, hir⟩
    rw [List.getElem?_eq_getElem (by omega)] at this; exact Option.some.inj this
  have hm := h.mem.drew.num 6 (.int .i64 ((M2.large + (G.sz i + 1) : Nat) : Int)) { M2 with large := M2.large + (G.sz i + 1) } rfl rfl rfl rfl rfl rfl
  refine ⟨g, cap, p, a, _, by rw [← h.xb, hv, h.xl], by rw [← h.xl]; exact hc, k0, h.mem.c6, h.mem.fz 6, hA, _, _, hm, h.step.trans ((HStep.drew wr own').trans (HStep.hd h.mem.ohd 6 _)), h.eh, h.es, h.er, h.et, ?_, ?_, h.e1, h.e2, h.xb, h.xr, h.xl⟩
  · show M2.large + _ = _
    rw [h.el, bsum_take _ _ _ (by omega), hr2]
  · show M2.blocks = _
    rw [h.eb, swept_succ rs bs k hk, hr2, set_same _ _ _ (by rw [swept_at rs bs k hk, hi])]
end
def ColPost (w : World) (own : Own) (hp : Nat) (G : Gr) (M : HM) (e : Ending) (w' : World) : Prop :=
  ∃ own' M' x' P bs', e = .returned (.tuple #[]) ∧ HMem w' own' hp M' x' ∧ Rep G P bs' M' ∧ (∀ i, Live P bs' i ↔ Reach G i) ∧ HStep w own w' own' ∧ M'.half.size = M.half.size ∧ M'.since = 0 ∧ M'.kept = M'.large
theorem clear_none (w : World) (A : Option Addr) (c : Nat) (ty : TypeId) : (Builtin.clear_ #[91] ty #[.slice A 0 c]).run Tryz.prog w = .ok (.tuple #[]) w := by
  cases A <;> simp [Builtin.clear_, run_underlying Tryz.underlying91, Sem.run_bind, Sem.run_pure, Result.andThen]
theorem col_fin {w : World} {own : Own} {hp : Nat} {M : HM} {x : HX} {G : Gr} {hs : List Nat} {bs : List (Option Nat)} {wr0 wr W1 : World} {own' : Own} {M' M2 : HM} {vg' : Value} {P rs : List Nat} {n : Nat} {c : Nat → Nat} {x2 : HX}
    (HS : ColSt w own hp M x G hs bs wr0 own' M' vg' [] P n rs c M.roots.length) (hn : n = P.length) (R : Rep G hs bs M) (HW : Sweep w own hp x G hs bs M' vg' P rs c own' wr bs.length M2 x2) (hM1 : HMid W1 own' hp { M2 with reached := List.replicate bs.length false } x2 vg' []) (hst1 : HStep wr own' W1 own') (nc mv : Int) :
    ColPost w own hp G M (.returned (.tuple #[])) (((((W1.setCell ⟨hp, 7, none⟩ (.int .i64 0)).setCell ⟨hp, 8, none⟩ (.int .i64 (M2.large : Int))).setCell ⟨hp, 5, none⟩ (.slice none 0 0)).setCell ⟨hp, 16, none⟩ (.int .i64 nc)).setCell ⟨hp, 18, none⟩ (.int .i64 mv)) := by
  subst hn
  obtain ⟨h1, h2⟩ := hM1.closing nc
  have h3 := h1.num 18 (.int .i64 mv) { M2 with reached := List.replicate bs.length false, since := 0, kept := M2.large, ncoll := nc, moved := mv } rfl rfl rfl rfl rfl rfl
  have hl : (keepB rs bs).take bs.length = keepB rs bs := List.take_of_length_le (by rw [keepB_len]; exact Nat.le_refl _)
  have hsw : swept rs bs bs.length = keepB rs bs := by unfold swept; rw [hl, List.drop_length, List.append_nil]
  have hel : M2.large = bsum G (keepB rs bs) := by rw [HW.el, hl]
  have hss : M'.spare.size = M.half.size := by rw [HS.same.ssize, R.s2]
  obtain ⟨f1, f2⟩ := HS.mid.finish (M' := { M2 with reached := List.replicate bs.length false, since := 0, kept := M2.large, ncoll := nc, moved := mv }) R (by rw [HS.same.rlen]; exact Nat.le_refl _) HW.eh (by show M2.spare.size = _; rw [HW.es, HS.same.hsize]) (by show M2.blocks = _; rw [HW.eb, hsw]) rfl HW.et (by show M2.nroots = _; rw [HW.e2, HS.same.nroots]) hel rfl hel (by show M2.limit = _; rw [HW.e1, HS.same.limit]) hss
  exact ⟨own', _, x2, P, _, rfl, h3.mem, f1, f2, HW.step.trans (hst1.trans (h2.trans (HStep.hd hM1.ohd 18 _))), by show M2.half.size = _; rw [HW.eh, hss], rfl, rfl⟩
set_option maxHeartbeats 16000000 in
set_option maxRecDepth 100000 in
theorem collect_walk (w : World) (own : Own) (hp : Nat) (M : HM) (x : HX) (H0 : HMem w own hp M x) (G : Gr) (hs : List Nat) (bs : List (Option Nat)) (R : Rep G hs bs M) (hbl : bs.length ≤ 1048576) :
    Calls Tryz.prog 41 #[.pointer (some ⟨hp, 0, none⟩)] w (ColPost w own hp G M) := by
  have H := H0.mid
  have c2 := H.c2
  have c9 := H.c9
  have hcl := Lib.hid (clear_walk w own x.as_ x.ps M.spare.size M.spare.objs H.spare H.top)
  obtain ⟨A9, cap9, hvt⟩ := own_slice H.rt.1
  rw [hvt] at c9
  have hle9 : M.roots.length ≤ cap9 := by have := H.rt.1; rw [hvt] at this; exact own_le this
  have hrl := R.roots.len
  have HH := Lib.hid H; have HR := Lib.hid R; have HVT := Lib.hid hvt
  clear H H0 R hvt
  go_enter Tryz.func41, Tryz.ntmps41
  go_wp2_with fail
  refine hcl.out.mono ?_
  intro e w1 hc1
  obtain ⟨rfl, own1, hs1⟩ := colst_start HH.out HR.out hc1
  have HS1 := Lib.hid hs1
  have d9 : w1.cell? ⟨hp, 9, none⟩ = some (.slice A9 M.roots.length cap9) := by have := HS1.out.mem.c9; rw [HVT.out] at this; exact this
  clear hc1 hs1 c2 c9
  go_wp2_with fail
  go_loopw [16] (fun v16 wr => ∃ (k : Nat) (own' : Own) (M' : HM) (vg' : Value) (gs' P : List Nat) (rs : List Nat) (c : Nat → Nat), k ≤ M.roots.length ∧ v16 = .int .i64 (k : Int) ∧ Hid (ColSt w own hp M x G hs bs wr own' M' vg' gs' P 0 rs c k)) (fun v16 _ => M.roots.length - (intOf v16).toNat)
  case atStart => exact ⟨0, own1, _, _, _, _, _, _, by omega, rfl, HS1⟩
  case round =>
    obtain ⟨k, own', M', vg', gs', P, rs, c, hk, rfl, HS⟩ := hrel
    by_cases hlt : k < M.roots.length
    · have hrl' : M'.roots.length = M.roots.length := HS.out.same.rlen
      obtain ⟨g, cap, hv, hcp, og, r0, r1, rf⟩ := HS.out.mem.root k (by omega)
      have hA := HVT.out.symm.trans hv
      rw [hrl'] at hA
      injection hA with hA1 hA2 hA3
      subst hA1 hA3
      have e9 : wr.cell? ⟨hp, 9, none⟩ = some (.slice (some ⟨g, 0, none⟩) M.roots.length cap9) := by have := HS.out.mem.c9; rw [HVT.out] at this; exact this
      cases hu : M'.roots[k].1 with
      | false =>
        have hn := HS.out.passed (by omega) hu
        have HN := Lib.hid hn
        rw [hu] at r0
        clear hn hu hv rf r1 hrl' hA2
        go_wp2_with fail
        exact ⟨⟨k + 1, own', M', vg', gs', P, rs, c, by omega, by go_num, HN⟩, by simp [intOf]; omega⟩
      | true =>
        obtain ⟨i, hi, hmv⟩ := HS.out.drew.hand (q := k) (by omega) hu hbl
        rw [hu] at r0
        have HMv := Lib.hid hmv; have HI := Lib.hid hi; have HU := Lib.hid hu; have HRL := Lib.hid hrl'; have HV := Lib.hid hv
        obtain ⟨y, hy⟩ : ∃ y, M'.roots[k].2 = y := ⟨_, rfl⟩
        rw [hy] at r1 HMv
        have rf1 := rf (k * 2 + 1)
        clear hmv hi hu hv rf hy hA2
        go_wp2_with fail
        go_region_law (first | (go_simp; go_at_call 75; refine HMv.out.mono ?_; rintro e w2 ⟨own2, M2, vg2, gs2, r, rr, he, h1, h2, h3, h4, h5, h6, h7⟩; obtain ⟨⟨y2, q1⟩, q2, M3, hF⟩ := HS.out.drew.handed (by omega) HU.out HI.out h1 h2 h3 h4 h5 h6 g _ HV.out; have q3 : w2.cell? ⟨hp, 9, none⟩ = some (.slice (some ⟨g, 0, none⟩) M.roots.length cap9) := (by have := h1.c9; rw [HVT.out] at this; exact this); have HF := Lib.hid hF; obtain ⟨vN, hvN⟩ : ∃ v, plOf G (P ++ r) bs i = v := ⟨_, rfl⟩; rw [hvN] at he HF; subst he; clear h1 h2 h3 h4 h5 h6 h7 hF hvN))
        all_goals (go_wp2_with fail)
        all_goals exact ⟨⟨k + 1, own2, M3, vg2, gs2, P ++ r, rs ++ rr, c, by omega, by go_num, HF⟩, by simp [intOf]; omega⟩
    · obtain rfl : k = M.roots.length := by omega
      have hus := HS.out.mid.spareUsed
      go_wp2_with fail
      go_loopg [3] (hs.length + bs.length + gs'.length - rs.length) (fun kq v3 wr => ∃ (own' : Own) (M' : HM) (vg' : Value) (gs' P : List Nat) (n : Nat) (rs : List Nat) (c : Nat → Nat), v3 = .int .i64 (posN (P.map G.sz) n : Int) ∧ Hid (ColSt w own hp M x G hs bs wr own' M' vg' gs' P n rs c M.roots.length) ∧ Hid (kq + n + rs.length = hs.length + bs.length + gs'.length))
      case atStart =>
        have hcn := HS.out.mid.count
        exact ⟨own', M', vg', gs', P, 0, rs, c, rfl, HS, by show _ = _; omega⟩
      case round =>
        obtain ⟨own', M', vg', gs', P, n, rs, c, rfl, HS, HK⟩ := hrel
        have hus := HS.out.mid.spareUsed
        have k2 := HS.out.mem.c2
        have k5 := HS.out.mem.c5
        have k3 := HS.out.mem.c3
        have hfit := HS.out.mem.spare.fit
        have hs2 := HS.out.mem.spare.s2
        have hnle := HS.out.mid.nle
        have hcnt := HS.out.mid.count
        have hU := used_walk wr own' x.as_ x.ps M'.spare.size M'.spare.objs HS.out.mem.spare
        have HU := Lib.hid hU
        clear hU
        by_cases hn : n < P.length
        · have hlk := HS.out.look1 hn hbl
          have h1 := posN_succ (P.map G.sz) n (by rw [List.length_map]; exact hn)
          have h2 := posN_mono (P.map G.sz) (n + 1) P.length hn
          have hsm := HS.out.mid.small P[n] (HS.out.mid.psub _ (List.getElem_mem hn))
          have hsp := sz_pos G P[n]
          rw [List.getElem_map] at h1
          obtain ⟨us, hus2⟩ : ∃ us, usedOf M'.spare.objs = us := ⟨_, rfl⟩
          rw [hus2] at hus HU hfit
          rw [← hus] at h2
          obtain ⟨sc, hsc⟩ : ∃ sc, posN (P.map G.sz) n = sc := ⟨_, rfl⟩
          obtain ⟨sz, hsz⟩ : ∃ sz, G.sz P[n] = sz := ⟨_, rfl⟩
          obtain ⟨sn, hsn⟩ : ∃ sn, posN (P.map G.sz) (n + 1) = sn := ⟨_, rfl⟩
          rw [hsc, hsz] at hlk
          rw [hsc, hsz, hsn] at h1
          rw [hsn] at h2
          rw [hsz] at hsm hsp
          rw [hsc]
          have HLk := Lib.hid hlk; have HSn := Lib.hid hsn; have HN1 := Lib.hid h1
          have hlt : sc < us := by omega
          have hb1 : sc ≤ 1048576 := by omega
          clear hlk hsn hsc hsz hus hus2 h1 h2
          go_wp2_with fail
          refine HU.out.mono ?_
          rintro e w' ⟨rfl, rfl⟩
          go_wp2_with fail
          refine HU.out.mono ?_
          rintro e w' ⟨rfl, rfl⟩
          go_wp2_with fail
          refine HLk.out.mono ?_
          rintro e w2 ⟨own2, M2, vg2, gs2, r, rr, c2, rfl, hs3, hgl⟩
          have HS3 := Lib.hid hs3; have HGl := Lib.hid hgl
          have hcnt2 := hs3.mid.count
          clear hs3 hgl
          go_wp2_with fail
          go_roundg (hs.length + bs.length + gs2.length - (n + 1) - (rs ++ rr).length)
          case measure =>
            have h5 := HK.out
            have h6 := HGl.out
            have h7 : (rs ++ rr).length = rs.length + rr.length := List.length_append
            omega
          case rel =>
            refine ⟨own2, M2, vg2, gs2, P ++ r, n + 1, rs ++ rr, c2, ?_, HS3, ?_⟩
            · rw [List.map_append, posN_app _ _ _ (by rw [List.length_map]; omega), HSn.out, HN1.out]; go_num
            · show _ = _
              have h5 := HK.out
              have h6 := HGl.out
              have h7 : (rs ++ rr).length = rs.length + rr.length := List.length_append
              omega
        · have hnp : n = P.length := by omega
          have hsc : posN (P.map G.sz) n = usedOf M'.spare.objs := by rw [hus, hnp]
          rw [hsc]
          obtain ⟨us, hus2⟩ : ∃ us, usedOf M'.spare.objs = us := ⟨_, rfl⟩
          rw [hus2] at HU hfit hsc ⊢
          have HSc := Lib.hid hsc
          have hd : decide (us < us) = false := decide_eq_false (by omega)
          have HNP := Lib.hid hnp
          clear hus hsc hus2 hnp
          cases gs' with
          | nil =>
            obtain ⟨B, cg, hvg, -⟩ := q_slice HS.out.mem.rg
            have hvg : vg' = .slice B 0 cg := hvg
            rw [hvg] at k5
            have HVG := Lib.hid hvg
            clear hvg
            go_wp2_with fail
            refine HU.out.mono ?_
            rintro e w' ⟨rfl, rfl⟩
            go_wp2_with fail
            have k1 := HS.out.mem.c1
            have f1 := HS.out.mem.fz 1
            have f2 := HS.out.mem.fz 2
            go_region
            have hsw := HS.out.mem.swapped
            have hst0 := HS.out.step.trans (((HStep.hd HS.out.mem.ohd 1 (.pointer (some ⟨x.ps, 0, none⟩))).trans (HStep.hd HS.out.mem.ohd 2 (.pointer (some ⟨x.ph, 0, none⟩)))).trans (HStep.drew _ own'))
            obtain ⟨W0, hW0⟩ : ∃ W0, ((wr.setCell ⟨hp, 1, none⟩ (.pointer (some ⟨x.ps, 0, none⟩))).setCell ⟨hp, 2, none⟩ (.pointer (some ⟨x.ph, 0, none⟩))).drew = W0 := ⟨_, rfl⟩
            rw [hW0] at hsw hst0 ⊢
            have HSw := Lib.hid hsw; have HSt0 := Lib.hid hst0
            have s6 := HSw.out.c6
            have f6 := HSw.out.fz 6
            have HS1 := Lib.hid (HSw.out.num 6 (.int .i64 0) { M' with half := M'.spare, spare := M'.half, large := 0 } rfl rfl rfl rfl rfl rfl)
            have s3 := HS1.out.c3
            obtain ⟨B3, cap3, hvb⟩ := own_slice HS1.out.rb.1
            have hvb : x.vb = .slice B3 x.bl.length cap3 := hvb
            have s3 : (W0.setCell ⟨hp, 6, none⟩ (.int .i64 0)).cell? ⟨hp, 3, none⟩ = some (.slice B3 x.bl.length cap3) := by rw [← hvb]; exact s3
            have hblen : x.bl.length = bs.length := by
              have h1 := HS.out.mem.blk.1
              have h2 := HS.out.same.blen
              have h3 : M.blocks.length = bs.length := by rw [HR.out.blocks, List.length_map]
              omega
            have HVB := Lib.hid hvb
            clear hsw hst0 hW0 hvb
            have hsw0 : Sweep w own hp x G hs bs M' vg' P rs c own' (W0.setCell ⟨hp, 6, none⟩ (.int .i64 0)) 0 { M' with half := M'.spare, spare := M'.half, large := 0 } { x with ph := x.ps, ah := x.as_, ps := x.ph, as_ := x.ah } :=
              ⟨HS1.out, HSt0.out.trans (HStep.hd HS.out.mem.ohd 6 _), rfl, rfl, rfl, rfl, rfl, by show M'.blocks = _; rw [HS.out.mid.blocks]; rfl, rfl, rfl, rfl, rfl, hblen⟩
            have HSw0 := Lib.hid hsw0
            clear hsw0
            go_wp2_with fail
            go_loopw [123] (fun v123 wr => ∃ (k : Nat) (M2 : HM) (x2 : HX), k ≤ bs.length ∧ v123 = .int .i64 (k : Int) ∧ Hid (Sweep w own hp x G hs bs M' vg' P rs c own' wr k M2 x2)) (fun v123 _ => bs.length - (intOf v123).toNat)
            case atStart => exact ⟨0, _, _, by omega, rfl, HSw0⟩
            case round =>
              obtain ⟨k, M2, x2, hk, rfl, HW⟩ := hrel
              by_cases hlt : k < bs.length
              · have hrlen : M2.reached.length = bs.length := by rw [HW.out.er, HS.out.mid.reached, List.length_map]
                have w4 := HW.out.mem.c4
                have w3 := HW.out.mem.c3
                rw [HW.out.xb] at w3
                have main : ∀ b : Bool, M2.reached[k]? = some b → ∃ gr cr, wr.cell? ⟨hp, 4, none⟩ = some (.slice (some ⟨gr, 0, none⟩) bs.length cr) ∧ bs.length ≤ cr ∧ wr.cell? ⟨gr, k, none⟩ = some (.bool b) := fun b hb => by
                  obtain ⟨gr, cr, e1, _, e3, _, e5, _⟩ := HW.out.mem.mark hb
                  rw [hrlen] at e1 e3
                  exact ⟨gr, cr, by rw [w4, e1], e3, e5⟩
                have HMain := Lib.hid main
                clear main w4
                by_cases hkeep : ∃ i, bs[k]? = some (some i) ∧ i ∈ rs
                · obtain ⟨i, hi, hir⟩ := hkeep
                  obtain ⟨gr, cr, w4, hcr, r0⟩ := HMain.out true (by rw [HW.out.er, HS.out.mid.reached, List.getElem?_map, hi]; simp [hir])
                  obtain ⟨gb, cb, pb, ab, lb, e1, e2, e3, e4, e5, hA, M3, x3, hN⟩ := HW.out.keep hlt i hi hir
                  rw [e1] at w3
                  have hsz := size_walk wr.drew own' ab pb (G.sz i + 1) lb hA.drew
                  have HSz := Lib.hid hsz; have HN := Lib.hid hN
                  have hln : M2.large ≤ 1048576 := by
                    rw [HW.out.el]
                    have h1 := bsum_part G (keepB rs bs) k
                    have h2 := bsum_keep G rs bs
                    have h3 := HR.out.s3
                    have h4 := HR.out.s4
                    rw [HR.out.large] at h3
                    omega
                  have hsi := hA.s2
                  obtain ⟨s1, hs1⟩ : ∃ s1, G.sz i + 1 = s1 := ⟨_, rfl⟩
                  obtain ⟨ln, hln2⟩ : ∃ ln, M2.large = ln := ⟨_, rfl⟩
                  rw [hs1] at HSz HN hsi
                  rw [hln2] at HN e4 hln
                  rw [Int.natCast_add] at HN
                  have ew : IntKind.i64.wrap ((ln : Int) + (s1 : Int)) = (ln : Int) + (s1 : Int) := Go.IntWalk.i64_in _ (by omega)
                  clear hsz hN e1 hA hi hir hs1 hln2
                  go_wp2_with fail
                  refine wp_region_still_tail 15 (by kernel_rfl) (by kernel_rfl) ?_
                  simp only [List.take_succ_cons, List.take_zero, List.drop_succ_cons, List.drop_zero]
                  change wpStill _ _ wr.drew (fun a' => wpList _ _ _ _ a' wr.drew) _ _
                  repeat still_step
                  still_call (HSz.out.mono (fun _ _ h => ⟨h.1, h.2.symm⟩))
                  repeat still_step
                  refine wpStill_nil ?_
                  go_wp2_with fail
                  exact ⟨⟨k + 1, M3, x3, by omega, by go_num, HN⟩, by simp [intOf]; omega⟩
                · have hf : M2.reached[k]? = some false := by
                    rw [HW.out.er, HS.out.mid.reached, List.getElem?_map, List.getElem?_eq_getElem hlt]
                    cases hb : bs[k] with
                    | none => rfl
                    | some i =>
                      have : i ∉ rs := fun h => hkeep ⟨i, by rw [List.getElem?_eq_getElem hlt, hb], h⟩
                      simp [this]
                  have hkn : (keepB rs bs)[k]? = some none := by
                    unfold keepB
                    rw [List.getElem?_map, List.getElem?_eq_getElem hlt]
                    cases hb : bs[k] with
                    | none => rfl
                    | some i =>
                      have : i ∉ rs := fun h => hkeep ⟨i, by rw [List.getElem?_eq_getElem hlt, hb], h⟩
                      simp [this]
                  obtain ⟨gr, cr, w4, hcr, r0⟩ := HMain.out false hf
                  obtain ⟨gb, cb, v, e1, e2, e3, e4, M3, x3, hN⟩ := HW.out.drop hlt hkn
                  rw [e1] at w3
                  have HN := Lib.hid hN
                  clear hN e1 hkn hf hkeep
                  go_wp2_with fail
                  exact ⟨⟨k + 1, M3, x3, by omega, by go_num, HN⟩, by simp [intOf]; omega⟩
              · obtain rfl : k = bs.length := by omega
                have hrlen : M2.reached.length = bs.length := by rw [HW.out.er, HS.out.mid.reached, List.length_map]
                have w4 := HW.out.mem.c4
                by_cases hb0 : bs.length = 0
                · obtain ⟨A4, c4, e1⟩ := own_slice HW.out.mem.rr.1
                  rw [e1, hrlen, hb0] at w4
                  have hre : M2.reached = [] := List.eq_nil_of_length_eq_zero (by omega)
                  have hM1 : HMid wr own' hp { M2 with reached := List.replicate bs.length false } x2 vg' [] := by
                    have : ({ M2 with reached := List.replicate bs.length false } : HM) = M2 := by rw [hb0]; show ({ M2 with reached := [] } : HM) = M2; rw [← hre]
                    rw [this]; exact HW.out.mem
                  have HM1 := Lib.hid hM1
                  have a6 := HM1.out.c6
                  have a1 := HM1.out.c1
                  have a5 := HM1.out.c5
                  have a7 : wr.cell? ⟨hp, 7, none⟩ = some (.int .i64 (M2.since : Int)) := HM1.out.cell 7
                  have a8 : wr.cell? ⟨hp, 8, none⟩ = some (.int .i64 (M2.kept : Int)) := HM1.out.cell 8
                  have a16 : wr.cell? ⟨hp, 16, none⟩ = some (.int .i64 M2.ncoll) := HM1.out.cell 16
                  have a18 : wr.cell? ⟨hp, 18, none⟩ = some (.int .i64 M2.moved) := HM1.out.cell 18
                  have b5 := HM1.out.fz 5
                  have b7 := HM1.out.fz 7
                  have b8 := HM1.out.fz 8
                  have b16 := HM1.out.fz 16
                  have b18 := HM1.out.fz 18
                  have hcl := (HM1.out.closing (wrap64 (M2.ncoll + 1))).1.half
                  have HCl := Lib.hid (used_walk _ own' x2.ah x2.ph M2.half.size M2.half.objs hcl)
                  clear hcl hM1 hre e1 hrlen hb0
                  have hclr := clear_none wr A4 c4
                  go_wp2_with fail
                  refine HCl.out.mono ?_
                  rintro e w' ⟨rfl, rfl⟩
                  go_wp2_with fail
                  go_end0
                  exact col_fin HS.out HNP.out HR.out HW.out HM1.out (HStep.refl _ _) _ _
                · obtain ⟨gr, cr, e1, W1, hrun, hM1, hst1⟩ := HW.out.mem.clear (by omega)
                  rw [e1, hrlen] at w4
                  rw [hrlen] at hrun hM1
                  have hclr : ∀ ty : TypeId, (Builtin.clear_ #[91] ty #[.slice (some ⟨gr, 0, none⟩) bs.length cr]).run Tryz.prog wr = .ok (.tuple #[]) W1 := fun ty => hrun _ _ ty rfl rfl
                  have HM1 := Lib.hid hM1; have HSt1 := Lib.hid hst1
                  have a6 := HM1.out.c6
                  have a1 := HM1.out.c1
                  have a5 := HM1.out.c5
                  have a7 : W1.cell? ⟨hp, 7, none⟩ = some (.int .i64 (M2.since : Int)) := HM1.out.cell 7
                  have a8 : W1.cell? ⟨hp, 8, none⟩ = some (.int .i64 (M2.kept : Int)) := HM1.out.cell 8
                  have a16 : W1.cell? ⟨hp, 16, none⟩ = some (.int .i64 M2.ncoll) := HM1.out.cell 16
                  have a18 : W1.cell? ⟨hp, 18, none⟩ = some (.int .i64 M2.moved) := HM1.out.cell 18
                  have b5 := HM1.out.fz 5
                  have b7 := HM1.out.fz 7
                  have b8 := HM1.out.fz 8
                  have b16 := HM1.out.fz 16
                  have b18 := HM1.out.fz 18
                  clear hrun hM1 hst1 e1
                  have hcl := (HM1.out.closing (wrap64 (M2.ncoll + 1))).1.half
                  have HCl := Lib.hid (used_walk _ own' x2.ah x2.ph M2.half.size M2.half.objs hcl)
                  clear hcl
                  go_wp2_with fail
                  refine HCl.out.mono ?_
                  rintro e w' ⟨rfl, rfl⟩
                  go_wp2_with fail
                  go_end0
                  exact col_fin HS.out HNP.out HR.out HW.out HM1.out HSt1.out _ _
          | cons s gt =>
            obtain ⟨g, o, cap, hvg, hcap, hcell, hline⟩ := HS.out.front
            rw [hvg] at k5
            have f5 := HS.out.mem.fz 5
            have hb1 : (0 : Int) < (gt.length : Int) + 1 := by omega
            obtain ⟨v', hv', hst⟩ : ∃ v', v' = .slice (if cap = 1 then some ⟨g, o, none⟩ else some ⟨g, o + 1, none⟩) gt.length (cap - 1) ∧ HMid (wr.setCell ⟨hp, 5, none⟩ v') own' hp M' x v' gt ∧ HStep wr own' (wr.setCell ⟨hp, 5, none⟩ v') own' := ⟨_, rfl, hline _ rfl⟩
            obtain ⟨pb, ab, hb2, sz, hlk⟩ := HS.out.look2 hst.1 hst.2 hbl
            have hsl : s < x.bl.length := (List.getElem?_eq_some_iff.1 hb2).1
            obtain ⟨g2, cap2, hvb, hcp2, og2, r0, rf0⟩ := HS.out.mem.slotAt hsl
            have hbs : x.bl[s] = some (pb, ab) := by rw [List.getElem?_eq_getElem hsl] at hb2; exact Option.some.inj hb2
            rw [hbs] at r0
            replace r0 : wr.cell? ⟨g2, s, none⟩ = some (.pointer (some ⟨pb, 0, none⟩)) := r0
            rw [hvb] at k3
            have hg2 : ¬ g2 = hp := by rintro rfl; have := HS.out.mem.ohd; omega
            have hgl : gt.length ≤ 1048576 := by
              have h1 := hcnt.2
              rw [List.length_cons] at h1
              have := HS.out.mid.rlen
              omega
            have hslb : x.bl.length ≤ 1048576 := by
              have h1 := HS.out.mem.blk.1
              have h2 := HS.out.same.blen
              have h3 : M.blocks.length = bs.length := by rw [HR.out.blocks, List.length_map]
              omega
            have HLk := Lib.hid hlk
            clear hvg hline hst hlk hb2 hvb hbs
            by_cases hc1 : cap = 1
            · subst hc1
              obtain rfl : gt = [] := List.eq_nil_of_length_eq_zero (by omega)
              obtain rfl : v' = .slice (some ⟨g, o, none⟩) 0 0 := by rw [hv', if_pos rfl]; rfl
              clear hv'
              go_wp2_with fail
              refine HU.out.mono ?_
              rintro e w' ⟨rfl, rfl⟩
              go_wp2_with fail
              refine HU.out.mono ?_
              rintro e w' ⟨rfl, rfl⟩
              go_wp2_with fail
              refine HLk.out.mono ?_
              rintro e w2 ⟨own2, M2, vg2, gs2, r, rr, c2, rfl, hs3, hgl3⟩
              have HS3 := Lib.hid hs3; have HGl := Lib.hid hgl3
              have hcnt2 := hs3.mid.count
              clear hs3 hgl3
              go_wp2_with fail
              go_roundg (hs.length + bs.length + gs2.length - n - (rs ++ rr).length)
              case measure =>
                have h5 := HK.out
                have h6 := HGl.out
                have h7 : (rs ++ rr).length = rs.length + rr.length := List.length_append
                simp only [List.length_cons, List.length_nil] at h5 h6
                omega
              case rel =>
                refine ⟨own2, M2, vg2, gs2, P ++ r, n, rs ++ rr, c2, ?_, HS3, ?_⟩
                · rw [List.map_append, posN_app _ _ _ (by rw [List.length_map]; omega), HSc.out]
                · show _ = _
                  omega
            · rw [if_neg hc1] at hv'
              subst hv'
              go_wp2_with fail
              refine HU.out.mono ?_
              rintro e w' ⟨rfl, rfl⟩
              go_wp2_with fail
              refine HU.out.mono ?_
              rintro e w' ⟨rfl, rfl⟩
              go_wp2_with fail
              refine HLk.out.mono ?_
              rintro e w2 ⟨own2, M2, vg2, gs2, r, rr, c2, rfl, hs3, hgl3⟩
              have HS3 := Lib.hid hs3; have HGl := Lib.hid hgl3
              have hcnt2 := hs3.mid.count
              clear hs3 hgl3
              go_wp2_with fail
              go_roundg (hs.length + bs.length + gs2.length - n - (rs ++ rr).length)
              case measure =>
                have h5 := HK.out
                have h6 := HGl.out
                have h7 : (rs ++ rr).length = rs.length + rr.length := List.length_append
                simp only [List.length_cons, List.length_nil] at h5 h6
                omega
              case rel =>
                refine ⟨own2, M2, vg2, gs2, P ++ r, n, rs ++ rr, c2, ?_, HS3, ?_⟩
                · rw [List.map_append, posN_app _ _ _ (by rw [List.length_map]; omega), HSc.out]
                · show _ = _
                  omega
end Go.Proofs.YtglglknhifjbaaaGreatDoor.Sp
