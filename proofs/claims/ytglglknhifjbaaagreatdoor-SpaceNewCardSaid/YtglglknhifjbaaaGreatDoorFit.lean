import Derived.Test.YtglglknhifjbaaaGreatDoorCol
namespace Go.Proofs.YtglglknhifjbaaaGreatDoor.Sp
open Go.RowKit Go.Proofs.YtglglknhifjbaaaGreatDoorW.PrintWords Go.Proofs.YtglglknhifjbaaaGreatDoorW.PrintLast Go.Proofs.YtglglknhifjbaaaGreatDoorW.PrintMore
set_option linter.unusedVariables false
set_option linter.unusedSimpArgs false
def WantPost (w : World) (u : Nat) (e : Ending) (w' : World) : Prop := ∃ n : Nat, e = .returned (.int .i64 (n : Int)) ∧ w = w' ∧ 64 ≤ n ∧ 4 * u ≤ 3 * n ∧ (n = 64 ∨ 3 * n < 8 * u)
theorem fresh_num (l : List Nat) : ∃ a, a ∉ l := by
  refine ⟨l.sum + 1, fun h => ?_⟩
  have : ∀ (l : List Nat) (x : Nat), x ∈ l → x ≤ l.sum := fun l => by
    induction l with
    | nil => intro x h; simp at h
    | cons a l ih =>
      intro x h
      rw [List.sum_cons]
      rcases List.mem_cons.1 h with rfl | h
      · omega
      · have := ih x h; omega
  have := this l _ h
  omega
section
variable {w w' : World} {own own' : Own} {hp : Nat} {M : HM} {x : HX} {vg : Value} {gs : List Nat}
theorem HRest.new (h : HRest w own hp M x vg gs) (hb : Below w.heap.size w w') (ow : Ow own own' w) (top : ∀ b, w'.heap.size ≤ b → own' b = 0) : HRest w' own' hp M x vg gs := by
  obtain ⟨a, b, c, d, e, f2, f3, f5, f4⟩ := h.core (T := fun _ => False) (fun _ h => h.elim) (Fr.below (P := fun _ => False) hb) ow
  exact ⟨a, b, c, d, f2 id, e, h.none_, f3 id, f5 id, (f4 id).1, (f4 id).2, h.nums, top⟩
theorem HRest.renew (h : HRest w own hp M x vg gs) {a p size : Nat} (ha : a ∉ x.ah :: x.as_ :: x.bl.filterMap (fun o : Option (Nat × Nat) => o.map (fun q => q.2))) (hb : Below w.heap.size w w') (ow : Ow own own' w) (top : ∀ b, w'.heap.size ≤ b → own' b = 0) (hA : IsAr w' own' a p size []) :
    HRest w' own' hp { M with half := ⟨size, []⟩, spare := M.half } { x with ph := p, ah := a, ps := x.ph, as_ := x.ah } vg gs := by
  have h := h.new hb ow top
  have n1 := List.nodup_cons.1 h.nums
  have n2 := List.nodup_cons.1 n1.2
  refine { h with half := hA, spare := h.half, nums := List.nodup_cons.2 ⟨fun hm => ?_, List.nodup_cons.2 ⟨fun hm => n1.1 (List.mem_cons_of_mem _ hm), n2.2⟩⟩ }
  rcases List.mem_cons.1 hm with e | hm
  · have e : a = x.ah := e
    exact ha (by rw [e]; exact List.mem_cons_self)
  · exact ha (List.mem_cons_of_mem _ (List.mem_cons_of_mem _ hm))
theorem HRest.respare (h : HRest w own hp M x vg gs) {a p size : Nat} (ha : a ∉ x.ah :: x.as_ :: x.bl.filterMap (fun o : Option (Nat × Nat) => o.map (fun q => q.2))) (hb : Below w.heap.size w w') (ow : Ow own own' w) (top : ∀ b, w'.heap.size ≤ b → own' b = 0) (hA : IsAr w' own' a p size []) :
    HRest w' own' hp { M with spare := ⟨size, []⟩ } { x with ps := p, as_ := a } vg gs := by
  have h := h.new hb ow top
  have n1 := List.nodup_cons.1 h.nums
  have n2 := List.nodup_cons.1 n1.2
  refine { h with spare := hA, nums := List.nodup_cons.2 ⟨fun hm => ?_, List.nodup_cons.2 ⟨fun hm => ha (List.mem_cons_of_mem _ (List.mem_cons_of_mem _ hm)), n2.2⟩⟩ }
  rcases List.mem_cons.1 hm with e | hm
  · have e : x.ah = a := e
    exact ha (by rw [← e]; exact List.mem_cons_self)
  · exact n1.1 (List.mem_cons_of_mem _ hm)
theorem HRest.takeBack (H : HRest w own hp M x vg gs) {i : Nat} {e : Ending} (hT : TakePost w own x.as_ x.ps M.spare.size M.spare.objs i x.ah x.ph M.half.size M.half.objs e w') :
    ∃ own' o, M.spare.objs[i]? = some o ∧ HRest w' own' hp { M with spare := ⟨M.spare.size, M.spare.objs.set i (9223372036854775808 + usedOf M.half.objs, o.2)⟩, half := ⟨M.half.size, M.half.objs ++ [o]⟩ } x vg gs ∧ w'.heap[hp]? = w.heap[hp]? ∧ HStep w own w' own' ∧ e = .returned (.tuple #[.int .i64 (usedOf M.half.objs : Int), .int .i64 0]) := by
  obtain ⟨own', hi, he, h1, h2, hf, ow, nw, top⟩ := hT
  have out : ∀ b, Of own x.as_ b ∨ Of own x.ah b → ∀ t, t < 10 → own b ≠ t := fun b hb t ht => by rcases hb with (hb | hb | hb) | (hb | hb | hb) <;> omega
  have hlt : ∀ k, vg.ownBlock = some k → k < w.heap.size := fun k hk => by
    obtain ⟨_, cells, hc⟩ := q_typed H.rg k hk
    exact blk_lt hc
  refine ⟨own', M.spare.objs[i], List.getElem?_eq_getElem hi, ⟨Nat.lt_of_lt_of_le H.hlt hf.size, (ow hp H.hlt).trans H.ohd, h1, h2, H.rb.fr hf ow (fun b hb => out b hb 2 (by decide)), ⟨H.blk.1, fun s p b hsl => ?_⟩, H.none_, H.rr.fr hf ow (fun b hb => out b hb 3 (by decide)), H.rt.fr hf ow (fun b hb => out b hb 5 (by decide)), ?_, fun k hk => ?_, H.nums, top⟩, hf.block hp H.hlt (fun hq => out hp hq 1 (by decide) H.ohd), ⟨hf.mono (fun b _ hb => by rcases hb with (hb | hb | hb) | (hb | hb | hb) <;> omega), ow⟩, he⟩
  · obtain ⟨A, k1, k2⟩ := H.blk.2 s p b hsl
    have := H.num_hb hsl
    exact ⟨A, k1, k2.fr hf ow (fun c hc => by rcases hc with (hc | hc | hc) | (hc | hc | hc) <;> omega)⟩
  · exact q_move H.rg (fun k hk => hf.block k (hlt k hk) (fun hb => out k hb 4 (by decide) (H.og k hk)))
  · rw [ow k (hlt k hk)]; exact H.og k hk
end
def GoodO (o : AO) : Prop := ∃ k r y, Shape k r y ∧ o.1 = headW k r y ∧ o.2.length = r + y
structure BecSt (w : World) (own : Own) (hp : Nat) (M : HM) (x : HX) (vg : Value) (C : Array Value) (n : Nat) (old pn : Nat) (wr : World) (own' : Own) (k : Nat) (M' : HM) (x' : HX) : Prop where
  rest : HRest wr own' hp M' x' vg []
  hd : wr.heap[hp]? = some (.cells C 95 (0, 0))
  step : HStep w own wr own'
  xs : x' = { x with ph := pn, ah := x'.ah, ps := old, as_ := x'.as_ }
  hs : M'.half.size = n
  ho : M'.half.objs = M.half.objs.take k
  sl : M'.spare.objs.map osize = M.half.objs.map osize
  sg : ∀ i, k ≤ i → M'.spare.objs[i]? = M.half.objs[i]?
  same : M' = { M with half := M'.half, spare := M'.spare }
theorem posOf_map {l m : List AO} (h : l.map osize = m.map osize) (k : Nat) : posOf l k = posOf m k := by rw [posOf_eq, posOf_eq, h]
theorem len_map {l m : List AO} (h : l.map osize = m.map osize) : l.length = m.length := by have := congrArg List.length h; simpa using this
def becV (M : HM) (x : HX) (vg : Value) (p : Nat) : Array Value := ((hdV M x vg).setIfInBounds 2 (.pointer none)).setIfInBounds 1 (.pointer (some ⟨p, 0, none⟩))
section
variable {w : World} {own : Own} {hp : Nat} {M : HM} {x : HX} {vg : Value} {n old pn : Nat} {wr : World} {own' : Own} {k : Nat} {M' : HM} {x' : HX}
theorem bec_start (H : HMid w own hp M x vg []) {e : Ending} {w1 : World} {a : Nat} (ha : a ∉ x.ah :: x.as_ :: x.bl.filterMap (fun o : Option (Nat × Nat) => o.map (fun q => q.2))) (hN : NewPost (w.setCell ⟨hp, 2, none⟩ (.pointer none)) own a n e w1) :
    ∃ p own1, e = .returned (.tuple #[.pointer (some ⟨p, 0, none⟩), .int .i64 0]) ∧ w1.cell? ⟨hp, 1, none⟩ = some (.pointer (some ⟨x.ph, 0, none⟩)) ∧ w1.frozen? ⟨hp, 1, none⟩ = false ∧
      ∃ M1 x1, BecSt w own hp M x vg (becV M x vg p) n x.ph p (w1.setCell ⟨hp, 1, none⟩ (.pointer (some ⟨p, 0, none⟩))) own1 0 M1 x1 := by
  obtain ⟨p, own1, he, h1, h2, h3, h4, h5⟩ := hN
  have hr := (H.toHRest.setHd 2 (.pointer none)).renew ha h2 h3 h5 h4
  have hd0 := hd_set H.hd 2 (.pointer none)
  have hd1 : w1.heap[hp]? = some (.cells ((hdV M x vg).setIfInBounds 2 (.pointer none)) 95 (0, 0)) := (h2.block hp (blk_lt hd0)).trans hd0
  refine ⟨p, own1, he, by simp [World.cell?, hd1, hdV], by simp [World.frozen?, hd1], _, _, hr.setHd 1 _, hd_set hd1 1 _, ?_, rfl, rfl, rfl, rfl, fun i _ => rfl, rfl⟩
  refine ((HStep.hd H.ohd 2 _).trans ⟨Fr.below h2, h3⟩).trans (HStep.hd hr.ohd 1 _)
theorem BecSt.one (h : BecSt w own hp M x vg (becV M x vg pn) n old pn wr own' k M' x') : wr.cell? ⟨hp, 1, none⟩ = some (.pointer (some ⟨pn, 0, none⟩)) := by simp [World.cell?, h.hd, becV, hdV]
theorem BecSt.next (h : BecSt w own hp M x vg (becV M x vg pn) n old pn wr own' k M' x') (hk : k < M.half.objs.length) (hg : GoodO M.half.objs[k]) (hn : usedOf M.half.objs ≤ n) :
    (∃ kk r y, Shape kk r y ∧ osize M.half.objs[k] = 1 + (r + y) ∧ Calls Tryz.prog 122 #[.pointer (some ⟨old, 0, none⟩), .int .i64 (posOf M.half.objs k : Int)] wr fun e w' => e = .returned (.tuple #[.int .i64 (kk : Int), .int .i64 (r : Int), .int .i64 (y : Int), .int .i64 0]) ∧ wr = w') ∧
    Calls Tryz.prog 121 #[.pointer (some ⟨pn, 0, none⟩), .pointer (some ⟨old, 0, none⟩), .int .i64 (posOf M.half.objs k : Int)] wr fun e w' => e = .returned (.tuple #[.int .i64 (posOf M.half.objs k : Int), .int .i64 0]) ∧ ∃ own2 M2 x2, BecSt w own hp M x vg (becV M x vg pn) n old pn w' own2 (k + 1) M2 x2 := by
  obtain ⟨kk, r, y, hs, hh, hl⟩ := hg
  have hxs := h.xs
  have hps : x'.ps = old := by rw [hxs]
  have hph : x'.ph = pn := by rw [hxs]
  have hlen : M'.spare.objs.length = M.half.objs.length := len_map h.sl
  have hk2 : k < M'.spare.objs.length := by omega
  have ho : M'.spare.objs[k] = M.half.objs[k] := by
    have := h.sg k (Nat.le_refl _)
    rw [List.getElem?_eq_getElem hk2, List.getElem?_eq_getElem hk] at this
    exact Option.some.inj this
  have hpos : posOf M.half.objs k = posOf M'.spare.objs k := (posOf_map h.sl k).symm
  have hos : osize M.half.objs[k] = 1 + (r + y) := by unfold osize; omega
  have hused : usedOf M'.half.objs = posOf M.half.objs k := by
    rw [h.ho]
    unfold usedOf
    rw [List.length_take, Nat.min_eq_left (by omega), posOf_eq, posOf_eq, List.map_take]
    unfold posN
    rw [List.take_take, Nat.min_self]
  have hpu := pos_used M.half.objs k hk
  have hsp := h.rest.spare
  have hhf := h.rest.half
  rw [hps] at hsp
  rw [hph] at hhf
  refine ⟨⟨kk, r, y, hs, hos, ?_⟩, ?_⟩
  · exact object_walk wr own' x'.as_ old M'.spare.size M'.spare.objs hsp k hk2 kk r y hs (by rw [ho]; exact hh) _ (by rw [hpos])
  · have hnn := h.rest.num_hs
    refine (take_new wr own' x'.as_ old M'.spare.size M'.spare.objs hsp k hk2 kk r y hs (by rw [ho]; exact hh) (by rw [ho]; exact hl) (posOf M.half.objs k) hpos x'.ah pn M'.half.size M'.half.objs hhf (fun e => hnn e.symm) (by rw [hused, h.hs]; omega) h.rest.top).mono ?_
    intro e w' hT
    rw [← hps, ← hph] at hT
    obtain ⟨own2, o, e1, e2, e3, e4, e5⟩ := h.rest.takeBack hT
    refine ⟨by rw [e5, hused], own2, _, x', e2, by rw [e3]; exact h.hd, h.step.trans e4, h.xs, h.hs, ?_, ?_, fun i hi => ?_, ?_⟩
    · show M'.half.objs ++ [o] = _
      rw [h.ho, take_succ' _ _ hk]
      congr 2
      rw [List.getElem?_eq_getElem hk2, ho] at e1
      exact (Option.some.inj e1).symm
    · show (M'.spare.objs.set k _).map osize = _
      rw [List.map_set, ← h.sl]
      refine set_same _ _ _ ?_
      rw [List.getElem?_map, e1]
      rfl
    · show (M'.spare.objs.set k _)[i]? = _
      rw [List.getElem?_set, if_neg (by omega)]
      exact h.sg i (by omega)
    · show ({ M' with spare := _, half := _ } : HM) = _
      rw [h.same]
end
def BecPost (w : World) (own : Own) (hp : Nat) (G : Gr) (M : HM) (hs : List Nat) (bs : List (Option Nat)) (n : Nat) (e : Ending) (w' : World) : Prop :=
  ∃ own' M' x', e = .returned (.tuple #[]) ∧ HMem w' own' hp M' x' ∧ Rep G hs bs M' ∧ HStep w own w' own' ∧ M'.half.size = n ∧ M'.half.objs = M.half.objs ∧ M'.since = M.since ∧ M'.kept = M.kept ∧ M'.large = M.large
theorem bec_fin {w : World} {own : Own} {hp : Nat} {M : HM} {x : HX} {n old pn : Nat} {wr w2 : World} {own' : Own} {M' : HM} {x' : HX} {G : Gr} {hs : List Nat} {bs : List (Option Nat)} {e : Ending} (R : Rep G hs bs M) (hn : 64 ≤ n) (hl : 2 * n + M.large ≤ M.limit)
    (h : BecSt w own hp M x (.slice none 0 0) (becV M x (.slice none 0 0) pn) n old pn wr own' M.half.objs.length M' x') {a : Nat} (ha : a ∉ x'.ah :: x'.as_ :: x'.bl.filterMap (fun o : Option (Nat × Nat) => o.map (fun q => q.2))) (hN : NewPost wr own' a n e w2) :
    ∃ p, e = .returned (.tuple #[.pointer (some ⟨p, 0, none⟩), .int .i64 0]) ∧ w2.cell? ⟨hp, 2, none⟩ = some (.pointer none) ∧ w2.frozen? ⟨hp, 2, none⟩ = false ∧ w2.cell? ⟨hp, 17, none⟩ = some (.int .i64 M.nres) ∧ w2.frozen? ⟨hp, 17, none⟩ = false ∧
      ∀ nr : Int, Hid (BecPost w own hp G M hs bs n (.returned (.tuple #[])) ((w2.setCell ⟨hp, 2, none⟩ (.pointer (some ⟨p, 0, none⟩))).setCell ⟨hp, 17, none⟩ (.int .i64 nr))) := by
  obtain ⟨p, own2, he, h1, h2, h3, h4, h5⟩ := hN
  have hr := h.rest.respare ha h2 h3 h5 h4
  have hd2 : w2.heap[hp]? = some (.cells (becV M x (.slice none 0 0) pn) 95 (0, 0)) := (h2.block hp (blk_lt h.hd)).trans h.hd
  refine ⟨p, he, by simp [World.cell?, hd2, becV, hdV], by simp [World.frozen?, hd2], by simp [World.cell?, hd2, becV, hdV], by simp [World.frozen?, hd2], fun nr => ?_⟩
  have hr2 := (hr.setHd 2 (.pointer (some ⟨p, 0, none⟩))).setHd 17 (.int .i64 nr)
  have hob : M'.half.objs = M.half.objs := by rw [h.ho, List.take_length]
  have hM : ({ M' with spare := ⟨n, []⟩, nres := nr } : HM) = { M with half := ⟨n, M.half.objs⟩, spare := ⟨n, []⟩, nres := nr } := by
    rw [h.same]
    have e1 : M'.half = ⟨n, M.half.objs⟩ := by
      have e2 := h.hs
      cases hm : M'.half with
      | mk sz ob => rw [hm] at e2 hob; simp at e2 hob; rw [e2, hob]
    rw [e1]
  have hmem : HMid ((w2.setCell ⟨hp, 2, none⟩ (.pointer (some ⟨p, 0, none⟩))).setCell ⟨hp, 17, none⟩ (.int .i64 nr)) own2 hp { M' with spare := ⟨n, []⟩, nres := nr } { x' with ps := p, as_ := a } (.slice none 0 0) [] := by
    refine ⟨⟨hr2.hlt, hr2.ohd, hr2.half, hr2.spare, hr2.rb, hr2.blk, hr2.none_, hr2.rr, hr2.rt, hr2.rg, hr2.og, hr2.nums, hr2.top⟩, ?_⟩
    rw [hd_set (hd_set hd2 2 _) 17 _, hM]
    have := h.xs
    rw [this]
    rfl
  rw [hM] at hmem
  exact ⟨own2, _, _, rfl, hmem.mem, R.resize n [] hn hl nr, h.step.trans ((HStep.trans ⟨Fr.below h2, h3⟩ (HStep.hd hr.ohd 2 _)).trans (HStep.hd hr.ohd 17 _)), rfl, rfl, rfl, rfl, rfl⟩
set_option maxHeartbeats 8000000 in
set_option maxRecDepth 100000 in
theorem become_walk (w : World) (own : Own) (hp : Nat) (M : HM) (x : HX) (H0 : HMem w own hp M x) (G : Gr) (hs : List Nat) (bs : List (Option Nat)) (R : Rep G hs bs M) (n : Nat) (hn : 64 ≤ n) (hl : 2 * n + M.large ≤ M.limit) (hu : usedOf M.half.objs ≤ n) :
    Calls Tryz.prog 78 #[.pointer (some ⟨hp, 0, none⟩), .int .i64 (n : Int)] w (BecPost w own hp G M hs bs n) := by
  have c1 := H0.c1
  have c2 := H0.c2
  have f2 := H0.fz 2
  have hs4 := R.s4
  have hszw := size_walk w own x.ah x.ph M.half.size M.half.objs H0.half
  have HSzw := Lib.hid hszw
  have hs2 := H0.half.s2
  clear hszw
  by_cases he : n = M.half.size
  · have e0 : ((n : Int) == (M.half.size : Int)) = true := by rw [beq_iff_eq, he]
    have hfin : BecPost w own hp G M hs bs n (.returned (.tuple #[])) w := ⟨own, M, x, rfl, H0, R, HStep.refl _ _, he.symm, rfl, rfl, rfl, rfl⟩
    have HFin := Lib.hid hfin
    clear hfin he H0 R
    go_enter Tryz.func78, Tryz.ntmps78
    go_wp2_with fail
    refine HSzw.out.mono ?_
    rintro e w' ⟨rfl, rfl⟩
    go_wp2_with fail
    first
    | go_end0
    | refine bodyPost_ret (results_none rfl _ _ _) rfl ?_
    exact HFin.out
  · have e0 : ((n : Int) == (M.half.size : Int)) = false := by rw [beq_eq_false_iff_ne]; omega
    obtain ⟨a, ha⟩ := fresh_num (x.ah :: x.as_ :: x.bl.filterMap (fun o : Option (Nat × Nat) => o.map (fun q => q.2)))
    have HNew := Lib.hid (arNew_walk (w.setCell ⟨hp, 2, none⟩ (.pointer none)) own a n (by omega) (by omega) (fun b hb => H0.top b (by simpa [World.setCell] using hb)))
    have HH := Lib.hid H0.mid; have HR := Lib.hid R; have HA := Lib.hid ha
    have hgood : ∀ k (h : k < M.half.objs.length), GoodO M.half.objs[k] := fun k h => by
      have hk : k < hs.length := by rw [R.half, List.length_map] at h; exact h
      obtain ⟨_, ho⟩ := get_map R.half k hk
      have hok := R.ok hs[k] (.inl (List.getElem_mem hk))
      rw [ho]
      exact ⟨_, _, _, hok.sh, rfl, by simp [encI]⟩
    have HGood := Lib.hid hgood
    clear H0 R ha he hgood
    go_enter Tryz.func78, Tryz.ntmps78
    go_wp2_with fail
    refine HSzw.out.mono ?_
    rintro e w' ⟨rfl, rfl⟩
    go_wp2_with fail
    refine HNew.out.mono ?_
    intro e w1 hN
    obtain ⟨p, own1, rfl, g1, g2, M1, x1, hB⟩ := bec_start HH.out HA.out hN
    have HB := Lib.hid hB
    clear hN hB
    go_wp2_with fail
    go_loopw [5] (fun v5 wr => ∃ (k : Nat) (own' : Own) (M' : HM) (x' : HX), k ≤ M.half.objs.length ∧ v5 = .int .i64 (posOf M.half.objs k : Int) ∧ Hid (BecSt w own hp M x (.slice none 0 0) (becV M x (.slice none 0 0) p) n x.ph p wr own' k M' x')) (fun v5 _ => usedOf M.half.objs - (intOf v5).toNat)
    case atStart => exact ⟨0, own1, M1, x1, by omega, by rw [pos_zero]; rfl, HB⟩
    case round =>
      obtain ⟨k, own', M', x', hk, rfl, HS⟩ := hrel
      have huse := used_walk wr own' x'.as_ x'.ps M'.spare.size M'.spare.objs HS.out.rest.spare
      have hps : x'.ps = x.ph := by rw [HS.out.xs]
      have hue : usedOf M'.spare.objs = usedOf M.half.objs := by
        unfold usedOf
        rw [posOf_map HS.out.sl, len_map HS.out.sl]
      rw [hps, hue] at huse
      have HUse := Lib.hid huse
      clear huse hps hue
      have hpn := HS.out.one
      by_cases hlt : k < M.half.objs.length
      · obtain ⟨⟨kk, r, y, hsh, hos, hobj⟩, htk⟩ := HS.out.next hlt (HGood.out k hlt) hu
        have hpu := pos_used M.half.objs k hlt
        have hps2 := pos_succ M.half.objs k hlt
        rw [hos] at hpu hps2
        obtain ⟨q, hq⟩ : ∃ q, posOf M.half.objs k = q := ⟨_, rfl⟩
        rw [hq] at hobj htk hpu hps2
        rw [hq]
        have HObj := Lib.hid hobj; have HTk := Lib.hid htk; have HP2 := Lib.hid hps2
        obtain ⟨us, hus⟩ : ∃ us, usedOf M.half.objs = us := ⟨_, rfl⟩
        rw [hus] at hpu HUse hu
        have hqlt : q < us := by omega
        have HUs := Lib.hid hus
        have hr2 := hsh.r2; have hy2 := hsh.x2
        clear hobj htk hps2 hq hos hus
        go_wp2_with fail
        refine HUse.out.mono ?_
        rintro e w' ⟨rfl, rfl⟩
        go_wp2_with fail
        refine HObj.out.mono ?_
        rintro e w' ⟨rfl, rfl⟩
        go_wp2_with fail
        refine HTk.out.mono ?_
        rintro e w2 ⟨rfl, own2, M2, x2, hB2⟩
        have HB2 := Lib.hid hB2
        clear hB2
        go_wp2_with fail
        refine ⟨⟨k + 1, own2, M2, x2, by omega, ?_, HB2⟩, ?_⟩
        · rw [HP2.out]
          exact congrArg (fun n : Int => Value.int .i64 n) (by omega)
        · rw [HUs.out]
          simp [intOf]
          omega
      · obtain rfl : k = M.half.objs.length := by omega
        have hq : posOf M.half.objs M.half.objs.length = usedOf M.half.objs := rfl
        rw [hq]
        obtain ⟨us, hus⟩ : ∃ us, usedOf M.half.objs = us := ⟨_, rfl⟩
        rw [hus] at HUse ⊢
        have hd : decide (us < us) = false := decide_eq_false (by omega)
        obtain ⟨a2, ha2⟩ := fresh_num (x'.ah :: x'.as_ :: x'.bl.filterMap (fun o : Option (Nat × Nat) => o.map (fun q => q.2)))
        have HN2 := Lib.hid (arNew_walk wr own' a2 n (by omega) (by omega) HS.out.rest.top)
        have HA2 := Lib.hid ha2
        clear hq hus ha2
        go_wp2_with fail
        refine HUse.out.mono ?_
        rintro e w' ⟨rfl, rfl⟩
        go_wp2_with fail
        refine HN2.out.mono ?_
        intro e w2 hN2
        obtain ⟨p2, rfl, g2, g3, g4, g5, hfin⟩ := bec_fin HR.out hn hl HS.out HA2.out hN2
        have HFin := Lib.hid hfin
        clear hN2 hfin
        go_wp2_with fail
        go_end0
        exact (HFin.out _).out
end Go.Proofs.YtglglknhifjbaaaGreatDoor.Sp
namespace Go.Proofs.YtglglknhifjbaaaGreatDoor.Sp
open Go.RowKit Go.Proofs.YtglglknhifjbaaaGreatDoorW.PrintWords Go.Proofs.YtglglknhifjbaaaGreatDoorW.PrintLast Go.Proofs.YtglglknhifjbaaaGreatDoorW.PrintMore
set_option linter.unusedVariables false
set_option linter.unusedSimpArgs false
def wantF : Nat → Nat → Nat → Nat
  | 0, _, n => n
  | k + 1, u, n => if 3 * n < 4 * u then wantF k u (n * 2) else n
def wantN (u : Nat) : Nat := wantF 24 u 64
theorem wantF_spec : ∀ (k u n : Nat), 64 ≤ n → (n = 64 ∨ 3 * n < 8 * u) → 4 * u ≤ 3 * (n * 2 ^ k) → 64 ≤ wantF k u n ∧ 4 * u ≤ 3 * wantF k u n ∧ (wantF k u n = 64 ∨ 3 * wantF k u n < 8 * u)
  | 0, u, n, h1, h2, h3 => ⟨h1, by rw [Nat.pow_zero, Nat.mul_one] at h3; exact h3, h2⟩
  | k + 1, u, n, h1, h2, h3 => by
    unfold wantF
    by_cases h : 3 * n < 4 * u
    · rw [if_pos h]
      refine wantF_spec k u (n * 2) (by omega) (.inr (by omega)) ?_
      rw [Nat.pow_succ] at h3
      have : n * 2 * 2 ^ k = n * (2 ^ k * 2) := by rw [Nat.mul_assoc, Nat.mul_comm 2]
      rw [this]; exact h3
    · rw [if_neg h]; exact ⟨h1, by omega, h2⟩
theorem wantN_spec (u : Nat) (hu : u ≤ 4194304) : 64 ≤ wantN u ∧ 4 * u ≤ 3 * wantN u ∧ (wantN u = 64 ∨ 3 * wantN u < 8 * u) := wantF_spec 24 u 64 (by omega) (.inl rfl) (by omega)
set_option maxHeartbeats 2000000 in
theorem wantN_walk (w : World) (u : Nat) (hu : u ≤ 4194304) : Calls Tryz.prog 77 #[.int .i64 (u : Int)] w fun e w' => e = .returned (.int .i64 (wantN u : Int)) ∧ w = w' := by
  have h0 : Hid (wantN u = wantF 24 u 64) := Lib.hid rfl
  go_enter Tryz.func77, Tryz.ntmps77
  go_wp2_with fail
  go_loop [3] (fun v3 => ∃ n k : Nat, v3 = .int .i64 (n : Int) ∧ k ≤ 24 ∧ 64 ≤ n ∧ n ≤ 1073741824 ∧ Hid (n = 64 * 2 ^ (24 - k)) ∧ Hid (wantN u = wantF k u n)) (fun v3 => 8 * u + 64 - (intOf v3).toNat)
  case atStart => exact ⟨64, 24, rfl, by omega, by omega, by omega, Lib.hid rfl, h0⟩
  case round =>
    obtain ⟨n, k, rfl, hk, h1, h2, hn, hw⟩ := hrel
    by_cases hlt : 3 * n < 4 * u
    · have hd : decide (3 * (n : Int) < 4 * (u : Int)) = true := decide_eq_true (by omega)
      obtain ⟨k', rfl⟩ : ∃ k', k = k' + 1 := by
        cases k with
        | zero =>
          exfalso
          have := hn.out
          simp at this
          omega
        | succ k' => exact ⟨k', rfl⟩
      have hw2 : Hid (wantN u = wantF k' u (n * 2)) := by
        have := hw.out
        unfold wantF at this
        rw [if_pos hlt] at this
        exact Lib.hid this
      have hn2 : Hid (n * 2 = 64 * 2 ^ (24 - k')) := by
        have := hn.out
        rw [show 24 - k' = (24 - (k' + 1)) + 1 by omega, Nat.pow_succ, ← Nat.mul_assoc, ← this]
        exact Lib.hid rfl
      go_wp2_with fail
      exact ⟨⟨n * 2, k', by go_num, by omega, by omega, by omega, hn2, hw2⟩, by simp [intOf]; omega⟩
    · have hd : decide (3 * (n : Int) < 4 * (u : Int)) = false := decide_eq_false (by omega)
      have hw2 : Hid (n = wantN u) := by
        have := hw.out
        cases k with
        | zero => exact Lib.hid this.symm
        | succ k' =>
          unfold wantF at this
          rw [if_neg hlt] at this
          exact Lib.hid this.symm
      clear hw
      go_wp2_with fail
      go_ret
      exact ⟨congrArg (fun n : Nat => Ending.returned (.int .i64 (n : Int))) hw2.out, rfl⟩
structure FitM (M M' : HM) : Prop where
  objs : M'.half.objs = M.half.objs
  since : M'.since = M.since
  kept : M'.kept = M.kept
  large : M'.large = M.large
def FitPost (w : World) (own : Own) (hp : Nat) (G : Gr) (M : HM) (hs : List Nat) (bs : List (Option Nat)) (s : Nat) (e : Ending) (w' : World) : Prop :=
  ∃ own' M' x', e = .returned (.tuple #[]) ∧ HMem w' own' hp M' x' ∧ Rep G hs bs M' ∧ HStep w own w' own' ∧ FitM M M' ∧ (2 * (usedOf M.half.objs + s) + M.large ≤ M.limit → usedOf M.half.objs + s ≤ M'.half.size)
attribute [local go_sem] max2_int min2_int max_two min_two
set_option maxHeartbeats 8000000 in
set_option maxRecDepth 100000 in
theorem fit_walk (w : World) (own : Own) (hp : Nat) (M : HM) (x : HX) (H : HMem w own hp M x) (G : Gr) (hs : List Nat) (bs : List (Option Nat)) (R : Rep G hs bs M) (s : Nat) (hsm : s ≤ 64) :
    Calls Tryz.prog 42 #[.pointer (some ⟨hp, 0, none⟩), .int .i64 (s : Int)] w (FitPost w own hp G M hs bs s) := by
  have c0 := H.c0; have c1 := H.c1; have c6 := H.c6
  have hs2 := H.half.s2
  have hfit := H.half.fit
  have s1 := R.s1; have s3 := R.s3; have s4 := R.s4
  have hbec := fun (m : Nat) n h1 h2 h3 => (become_walk (w.drewN m) own hp M x (H.drewN m) G hs bs R n h1 h2 h3).mono (R' := fun e w' => e = .returned (.tuple #[]) ∧ ∃ own' M' x', HMem w' own' hp M' x' ∧ Rep G hs bs M' ∧ HStep w own w' own' ∧ FitM M M' ∧ M'.half.size = n) (fun e w' ⟨own', M', x', k0, k1, k2, k3, k4, k5, k6, k7, k8⟩ => ⟨k0, own', M', x', k1, k2, (HStep.drewN m).trans k3, ⟨k5, k6, k7, k8⟩, k4⟩)
  have hnop : ∀ m, (2 * (usedOf M.half.objs + s) + M.large ≤ M.limit → usedOf M.half.objs + s ≤ M.half.size) → FitPost w own hp G M hs bs s (.returned (.tuple #[])) (w.drewN m) := fun m h => ⟨own, M, x, rfl, H.drewN m, R, HStep.drewN m, ⟨rfl, rfl, rfl, rfl⟩, h⟩
  have hU := fun m => used_walk (w.drewN m) own x.ah x.ph M.half.size M.half.objs (H.half.drewN m)
  have hS := fun m => size_walk (w.drewN m) own x.ah x.ph M.half.size M.half.objs (H.half.drewN m)
  have hpost : ∀ (n : Nat) (e : Ending) (w' : World), (e = .returned (.tuple #[]) ∧ ∃ own' M' x', HMem w' own' hp M' x' ∧ Rep G hs bs M' ∧ HStep w own w' own' ∧ FitM M M' ∧ M'.half.size = n) → (2 * (usedOf M.half.objs + s) + M.large ≤ M.limit → usedOf M.half.objs + s ≤ n) → e = .returned (.tuple #[]) ∧ Hid (FitPost w own hp G M hs bs s (.returned (.tuple #[])) w') := fun n e w' ⟨he, own', M', x', k1, k2, k3, k4, k5⟩ hr => ⟨he, own', M', x', rfl, k1, k2, k3, k4, by rw [k5]; exact hr⟩
  have HPost := Lib.hid hpost
  obtain ⟨us, hus⟩ : ∃ us, usedOf M.half.objs = us := ⟨_, rfl⟩
  obtain ⟨sz, hsz⟩ : ∃ sz, M.half.size = sz := ⟨_, rfl⟩
  obtain ⟨lim, hlim⟩ : ∃ lim, M.limit = lim := ⟨_, rfl⟩
  obtain ⟨lg, hlg⟩ : ∃ lg, M.large = lg := ⟨_, rfl⟩
  rw [hsz] at hs2 hfit s1 s3 hnop hS
  rw [hus] at hfit hnop hU HPost
  rw [hlim] at s3 s4 c0 hnop HPost
  rw [hlg] at s3 c6 hnop HPost
  simp only [hlim, hlg, hus] at hbec
  have HBec := Lib.hid hbec; have HNop := Lib.hid hnop; have HU := Lib.hid hU; have HS := Lib.hid hS
  have hus1 : 1 ≤ us := by rw [← hus]; exact pos_pos _ _
  obtain ⟨u, hu⟩ : ∃ u, us + s = u := ⟨_, rfl⟩
  rw [hu] at HNop HPost
  obtain ⟨dl, hdl⟩ : ∃ dl, lim - lg = dl := ⟨_, rfl⟩
  obtain ⟨hf, hhf⟩ : ∃ hf, dl / 2 = hf := ⟨_, rfl⟩
  obtain ⟨wn, hwn⟩ : ∃ wn, wantN u = wn := ⟨_, rfl⟩
  obtain ⟨v1, v2, v3⟩ := wantN_spec u (by omega)
  have hW := fun (m : Nat) => wantN_walk (w.drewN m) u (by omega)
  rw [hwn] at v1 v2 v3
  simp only [hwn] at hW
  have HW := Lib.hid hW
  have w1 : IntKind.i64.wrap ((us : Int) + (s : Int)) = (u : Int) := by rw [Go.IntWalk.i64_in _ (by omega)]; omega
  have w2 : IntKind.i64.wrap ((lim : Int) - (lg : Int)) = (dl : Int) := by rw [Go.IntWalk.i64_in _ (by omega)]; omega
  have w3 : (dl : Int).tdiv 2 = (hf : Int) := by rw [Int.tdiv_eq_ediv_of_nonneg (by omega)]; omega
  have w4 : (dl : Int) / 2 = (hf : Int) := by omega
  have hub : u ≤ 2097152 := by omega
  have hdb : dl ≤ 1048576 := by omega
  have hfb : hf ≤ 1048576 := by omega
  have hwb : wn ≤ 8388608 := by omega
  have hLow : us ≤ sz ∧ us ≤ u ∧ 2 * sz + lg ≤ lim ∧ 2 * hf + lg ≤ lim ∧ (2 * u + lg ≤ lim → u ≤ hf) := by omega
  have HLow := Lib.hid hLow
  have v4 : Hid (wn = 64 ∨ 3 * wn < 8 * u) := v3
  clear H R hbec hnop hus hsz hlim hlg hU hS hpost hu hdl hhf hwn hW hLow v3
  go_enter Tryz.func42, Tryz.ntmps42
  go_wp2_with fail
  go_quiet ((first
    | (go_at_call 40; exact quiet_left (HU.out _))
    | (go_at_call 39; exact quiet_left (HS.out _))))
  clear w1
  by_cases hA : 3 * sz < 4 * u
  · have hd : decide (3 * (sz : Int) < 4 * (u : Int)) = true := decide_eq_true (by omega)
    have main : ∀ t : Nat, (t = hf ∨ t = wn) → t ≤ hf → t ≤ wn → (sz < t → 64 ≤ t ∧ 2 * t + lg ≤ lim ∧ us ≤ t) ∧ (2 * u + lg ≤ lim → u ≤ t) := fun t h1 h2 h3 => by
      have := HLow.out
      refine ⟨fun h => ⟨by omega, by omega, by omega⟩, fun h => ?_⟩
      rcases h1 with h1 | h1
      · have := this.2.2.2.2 h; omega
      · omega
    have HMain := Lib.hid main
    clear main
    by_cases hm : hf < wn
    · have dm : decide ((hf : Int) < (wn : Int)) = true := decide_eq_true (by omega)
      obtain ⟨k1, k2⟩ := HMain.out hf (.inl rfl) (by omega) (by omega)
      have K1 := Lib.hid k1; have K2 := Lib.hid k2
      clear k1 k2
      by_cases ht : sz < hf
      · obtain ⟨j1, j2, j3⟩ := K1.out ht
        go_wp2_with fail
        go_quiet ((go_at_call 77; exact quiet_add_left (HW.out _)))
        go_wp2_with fail
        refine ((HBec.out _ hf j1 j2 j3).mono (fun e w' h => HPost.out hf e w' h K2.out)).mono ?_
        rintro e w' ⟨rfl, hq⟩
        have HQ := Lib.hid hq.out
        clear hq
        go_wp2_with fail
        first
        | go_end0
        | refine bodyPost_ret (results_none rfl _ _ _) rfl ?_
        exact HQ.out
      · go_wp2_with fail
        go_quiet ((go_at_call 77; exact quiet_add_left (HW.out _)))
        go_wp2_with fail
        first
        | go_end0
        | refine bodyPost_ret (results_none rfl _ _ _) rfl ?_
        exact HNop.out _ (fun h => by have := K2.out h; omega)
    · have dm : decide ((hf : Int) < (wn : Int)) = false := decide_eq_false (by omega)
      obtain ⟨k1, k2⟩ := HMain.out wn (.inr rfl) (by omega) (by omega)
      have K1 := Lib.hid k1; have K2 := Lib.hid k2
      clear k1 k2
      by_cases ht : sz < wn
      · obtain ⟨j1, j2, j3⟩ := K1.out ht
        go_wp2_with fail
        go_quiet ((go_at_call 77; exact quiet_add_left (HW.out _)))
        go_wp2_with fail
        refine ((HBec.out _ wn j1 j2 j3).mono (fun e w' h => HPost.out wn e w' h K2.out)).mono ?_
        rintro e w' ⟨rfl, hq⟩
        have HQ := Lib.hid hq.out
        clear hq
        go_wp2_with fail
        first
        | go_end0
        | refine bodyPost_ret (results_none rfl _ _ _) rfl ?_
        exact HQ.out
      · exfalso; omega
  · have hd : decide (3 * (sz : Int) < 4 * (u : Int)) = false := decide_eq_false (by omega)
    have husz : u ≤ sz := by omega
    by_cases hB1 : 64 < sz
    · by_cases hB2 : 8 * u < sz
      · have j2 : 2 * wn + lg ≤ lim := by have := HLow.out; have := v4.out; omega
        have j3 : us ≤ wn := by have := HLow.out; omega
        have j4 : u ≤ wn := by omega
        have b1 : decide ((64 : Int) < (sz : Int)) = true := decide_eq_true (by omega)
        have b2 : decide (8 * (u : Int) < (sz : Int)) = true := decide_eq_true (by omega)
        go_wp2_with fail
        refine (HW.out _).mono ?_
        rintro e w' ⟨rfl, rfl⟩
        go_wp2_with fail
        refine ((HBec.out _ wn v1 j2 j3).mono (fun e w' h => HPost.out wn e w' h (fun _ => j4))).mono ?_
        rintro e w' ⟨rfl, hq⟩
        have HQ := Lib.hid hq.out
        clear hq
        go_wp2_with fail
        go_end0
        exact HQ.out
      · have b1 : decide ((64 : Int) < (sz : Int)) = true := decide_eq_true (by omega)
        have b2 : decide (8 * (u : Int) < (sz : Int)) = false := decide_eq_false (by omega)
        go_wp2_with fail
        go_end0
        exact HNop.out _ (fun _ => husz)
    · have b1 : decide ((64 : Int) < (sz : Int)) = false := decide_eq_false (by omega)
      go_wp2_with fail
      go_end0
      exact HNop.out _ (fun _ => husz)
def KeptPost (w : World) (own : Own) (hp : Nat) (G : Gr) (s : Nat) (e : Ending) (w' : World) : Prop :=
  ∃ own' M' x' P bs', e = .returned (.tuple #[]) ∧ HMem w' own' hp M' x' ∧ Rep G P bs' M' ∧ (∀ i, Live P bs' i ↔ Reach G i) ∧ HStep w own w' own' ∧ (2 * (usedOf M'.half.objs + s) + M'.large ≤ M'.limit → usedOf M'.half.objs + s ≤ M'.half.size) ∧ M'.since = 0 ∧ M'.kept = M'.large
theorem kept_fin {w w1 w2 : World} {own own1 : Own} {hp : Nat} {G : Gr} {M1 : HM} {P : List Nat} {bs' : List (Option Nat)} {s : Nat} {e : Ending} (h2 : Rep G P bs' M1) (h3 : ∀ i, Live P bs' i ↔ Reach G i) (h4 : HStep w own w1 own1) (h6 : M1.since = 0) (h7 : M1.kept = M1.large) (hf : FitPost w1 own1 hp G M1 P bs' s e w2) : e = .returned (.tuple #[]) ∧ Hid (KeptPost w own hp G s (.returned (.tuple #[])) w2) := by
  obtain ⟨own2, M2, x2, he, k1, k2, k3, k4, k5⟩ := hf
  refine ⟨he, own2, M2, x2, P, bs', rfl, k1, k2, h3, h4.trans k3, fun h => ?_, k4.since.trans h6, by rw [k4.kept, k4.large]; exact h7⟩
  rw [k4.objs] at h ⊢
  refine k5 ?_
  rw [k4.large, k2.lim, ← h2.lim] at h
  exact h
set_option maxHeartbeats 4000000 in
theorem hCollect_walk (w : World) (own : Own) (hp : Nat) (M : HM) (x : HX) (H : HMem w own hp M x) (G : Gr) (hs : List Nat) (bs : List (Option Nat)) (R : Rep G hs bs M) (hbl : bs.length ≤ 1048576) :
    Calls Tryz.prog 11 #[.pointer (some ⟨hp, 0, none⟩)] w (KeptPost w own hp G 0) := by
  have HC := Lib.hid (collect_walk w own hp M x H G hs bs R hbl)
  clear H R
  go_enter Tryz.func11, Tryz.ntmps11
  go_wp2_with fail
  refine HC.out.mono ?_
  rintro e w1 ⟨own1, M1, x1, P, bs', rfl, h1, h2, h3, h4, h5, h6, h7⟩
  have HF := Lib.hid (fit_walk w1 own1 hp M1 x1 h1 G P bs' h2 0 (by omega))
  have HK := Lib.hid (fun (e : Ending) (w2 : World) (hf : FitPost w1 own1 hp G M1 P bs' 0 e w2) => kept_fin h2 h3 h4 h6 h7 hf)
  clear h1 h2 h3 h4 h5 h6 h7
  go_wp2_with fail
  refine (HF.out.mono (fun e w2 hf => HK.out e w2 hf)).mono ?_
  rintro e w2 ⟨rfl, hq⟩
  have HQ := Lib.hid hq.out
  clear hq
  go_wp2_with fail
  go_end0
  exact HQ.out
end Go.Proofs.YtglglknhifjbaaaGreatDoor.Sp
