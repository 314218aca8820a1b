import Derived.Test.YtglglknhifjbaaaGreatDoorFit
namespace Go.Proofs.YtglglknhifjbaaaGreatDoor.Sp
open Go.RowKit Go.Proofs.YtglglknhifjbaaaGreatDoorW.PrintWords Go.Proofs.YtglglknhifjbaaaGreatDoorW.PrintLast Go.Proofs.YtglglknhifjbaaaGreatDoorW.PrintMore
set_option linter.unusedVariables false
set_option linter.unusedSimpArgs false
theorem somes_mem {bs : List (Option Nat)} {i : Nat} : i ∈ bs.filterMap id ↔ some i ∈ bs := by
  rw [List.mem_filterMap]
  constructor
  · rintro ⟨o, ho, e⟩; rw [show o = some i from e] at ho; exact ho
  · intro h; exact ⟨_, h, rfl⟩
theorem somes_nodup : ∀ (bs : List (Option Nat)), (∀ (s t i : Nat), bs[s]? = some (some i) → bs[t]? = some (some i) → s = t) → (bs.filterMap id).Nodup
  | [], _ => List.nodup_nil
  | none :: bs, h => by
    rw [List.filterMap_cons_none rfl]
    exact somes_nodup bs (fun s t i h1 h2 => by have := h (s + 1) (t + 1) i (by simpa using h1) (by simpa using h2); omega)
  | some a :: bs, h => by
    rw [show (some a :: bs).filterMap id = a :: bs.filterMap id from rfl, List.nodup_cons]
    refine ⟨fun hm => ?_, somes_nodup bs (fun s t i h1 h2 => by have := h (s + 1) (t + 1) i (by simpa using h1) (by simpa using h2); omega)⟩
    obtain ⟨t, ht, e⟩ := mem_get (somes_mem.1 hm)
    have := h 0 (t + 1) a rfl (by simp [List.getElem?_eq_getElem ht, e])
    omega
theorem bsum_somes (G : Gr) : ∀ (bs : List (Option Nat)), (∀ i, some i ∈ bs → 64 < G.sz i) → bsum G bs = ((bs.filterMap id).map G.wt).sum
  | [], _ => rfl
  | none :: bs, h => by
    rw [List.filterMap_cons_none rfl, ← bsum_somes G bs (fun i hi => h i (List.mem_cons_of_mem _ hi))]
    unfold bsum
    simp
  | some a :: bs, h => by
    rw [show (some a :: bs).filterMap id = a :: bs.filterMap id from rfl]
    have ih := bsum_somes G bs (fun i hi => h i (List.mem_cons_of_mem _ hi))
    have ha := h a List.mem_cons_self
    have e : G.wt a = G.sz a + 1 := by unfold Gr.wt; rw [if_pos ha]
    unfold bsum at ih ⊢
    simp only [List.map_cons, List.sum_cons]
    omega
theorem Rep.words {G : Gr} {hs : List Nat} {bs : List (Option Nat)} {M : HM} (R : Rep G hs bs M) (L : List Nat) (hL : ∀ i, Live hs bs i → i ∈ L) : usedOf M.half.objs + M.large ≤ 1 + (L.map G.wt).sum := by
  have h1 := sum_sub G.wt (hs ++ bs.filterMap id) L (by
    rw [List.nodup_append]
    exact ⟨R.hnd, somes_nodup bs R.bnd, fun a ha b hb e => R.dis a ha (by rw [e]; exact somes_mem.1 hb)⟩) (fun x hx => by
      rcases List.mem_append.1 hx with hx | hx
      · exact hL x (.inl hx)
      · exact hL x (.inr (somes_mem.1 hx)))
  rw [List.map_append, List.sum_append, ← bsum_somes G bs R.big, ← R.large] at h1
  have h2 : hs.map G.wt = hs.map G.sz := map_congr' (fun i hi => by
    unfold Gr.wt
    rw [if_neg (by have := R.small i hi; omega)])
  rw [h2] at h1
  have h3 := R.used
  unfold posN at h3
  rw [List.take_of_length_le (by simp)] at h3
  omega
structure Kept (w : World) (own : Own) (hp : Nat) (G G' : Gr) (w' : World) (own' : Own) (M' : HM) (x' : HX) (hs' : List Nat) (bs' : List (Option Nat)) : Prop where
  mem : HMem w' own' hp M' x'
  rep : Rep G' hs' bs' M'
  keep : ∀ i, Reach G i → Live hs' bs' i
  step : HStep w own w' own'
def AllocGPost (w : World) (own : Own) (hp : Nat) (G : Gr) (k r y : Nat) (e : Ending) (w' : World) : Prop :=
  (∃ own' M' x' hs' bs', e = .returned (.tuple #[.int .u64 (plOf (G.add (Node.new k r y)) hs' bs' G.next : Int), .int .i64 0]) ∧ Kept w own hp G (G.add (Node.new k r y)) w' own' M' x' hs' bs' ∧ Live hs' bs' G.next) ∨
  (∃ own' M' x' hs' bs', e = .returned (.tuple #[.int .u64 0, .int .i64 31]) ∧ Kept w own hp G G w' own' M' x' hs' bs' ∧ ¬ G.room (1 + r + y))
theorem alloc_fin {w w1 : World} {own own1 : Own} {hp : Nat} {G : Gr} {M1 : HM} {x1 : HX} {hs1 : List Nat} {bs1 : List (Option Nat)} {k r y : Nat} (K : Kept w own hp G G w1 own1 M1 x1 hs1 bs1) (hsh : Shape k r y) (hsm : 1 + r + y ≤ 64) (hroom : ¬ usedOf M1.half.objs + (1 + r + y) ≤ M1.half.size → ¬ G.room (1 + r + y)) :
    Calls Tryz.prog 116 #[.pointer (some ⟨x1.ph, 0, none⟩), .int .i64 (k : Int), .int .i64 (r : Int), .int .i64 (y : Int)] w1 fun e w' =>
      ∃ n er : Nat, n ≤ 1048576 ∧ e = .returned (.tuple #[.int .i64 (n : Int), .int .i64 (er : Int)]) ∧ (er = 0 ∧ Hid (AllocGPost w own hp G k r y (.returned (.tuple #[.int .u64 (n : Int), .int .i64 0])) w') ∨ er = 22 ∧ Hid (AllocGPost w own hp G k r y (.returned (.tuple #[.int .u64 0, .int .i64 31])) w')) := by
  by_cases h : usedOf M1.half.objs + (1 + r + y) ≤ M1.half.size
  · refine (arAlloc_walk w1 own1 x1.ah x1.ph M1.half.size M1.half.objs K.mem.half k r y hsh (by omega) K.mem.top).mono ?_
    rintro e w' ⟨own', rfl, hA, hst⟩
    obtain ⟨h1, h2, h3⟩ := K.rep.addSmall k r y hsh hsm
    have hs2 := K.mem.half.s2; have hfit := K.mem.half.fit
    refine ⟨usedOf M1.half.objs, 0, by omega, rfl, .inl ⟨rfl, .inl ⟨own', _, x1, _, _, by rw [h3], ⟨K.mem.stepHalf hst (A := ⟨M1.half.size, _⟩) hA, h1, fun i hi => ?_, K.step.trans hst.h⟩, .inl (by simp)⟩⟩⟩
    rcases K.keep i hi with hi | hi
    · exact .inl (List.mem_append_left _ hi)
    · exact .inr hi
  · refine (arAlloc_full w1 own1 x1.ah x1.ph M1.half.size M1.half.objs K.mem.half k r y hsh (by omega)).mono ?_
    rintro e w' ⟨rfl, n, rfl⟩
    exact ⟨0, 22, by omega, rfl, .inr ⟨rfl, .inr ⟨own1, M1, x1, _, _, rfl, ⟨K.mem.drewN n, K.rep, K.keep, K.step.trans (HStep.drewN n)⟩, hroom h⟩⟩⟩
theorem room_small {G : Gr} {M : HM} {P : List Nat} {bs' : List (Option Nat)} {s : Nat} (R : Rep G P bs' M) (hl : ∀ i, Live P bs' i ↔ Reach G i) (h : 2 * (usedOf M.half.objs + s) + M.large ≤ M.limit → usedOf M.half.objs + s ≤ M.half.size) (hn : ¬ usedOf M.half.objs + s ≤ M.half.size) : ¬ G.room s := by
  rintro ⟨L, h1, h2⟩
  have := R.words L (fun i hi => h1 i ((hl i).1 hi))
  have hlim := R.lim
  refine hn (h ?_)
  omega
set_option maxHeartbeats 8000000 in
set_option maxRecDepth 100000 in
theorem hAlloc_small (w : World) (own : Own) (hp : Nat) (M : HM) (x : HX) (H : HMem w own hp M x) (G : Gr) (hs : List Nat) (bs : List (Option Nat)) (R : Rep G hs bs M) (hbl : bs.length ≤ 1048576) (k r y : Nat) (hsh : Shape k r y) (hsm : 1 + r + y ≤ 64) :
    Calls Tryz.prog 69 #[.pointer (some ⟨hp, 0, none⟩), .int .i64 (k : Int), .int .i64 (r : Int), .int .i64 (y : Int)] w (AllocGPost w own hp G k r y) := by
  have c1 := H.c1
  have hs2 := H.half.s2
  have hfit := H.half.fit
  obtain ⟨hk1, hk2, hr2, hx2⟩ := id hsh
  have hU := fun m => used_walk (w.drewN m) own x.ah x.ph M.half.size M.half.objs (H.half.drewN m)
  have hS := fun m => size_walk (w.drewN m) own x.ah x.ph M.half.size M.half.objs (H.half.drewN m)
  have hC := fun m => collect_walk (w.drewN m) own hp M x (H.drewN m) G hs bs R hbl
  have hA := fun m (h : usedOf M.half.objs + (1 + r + y) ≤ M.half.size) => alloc_fin (k := k) (r := r) (y := y) (w := w) (own := own) ⟨H.drewN m, R, fun i hi => R.toLay.reach hi, HStep.drewN m⟩ hsh hsm (fun hn => absurd h hn)
  have HSh := Lib.hid hsh
  obtain ⟨us, hus⟩ : ∃ us, usedOf M.half.objs = us := ⟨_, rfl⟩
  obtain ⟨sz, hsz⟩ : ∃ sz, M.half.size = sz := ⟨_, rfl⟩
  rw [hus] at hfit hU hA
  rw [hsz] at hs2 hfit hS hA
  have HU := Lib.hid hU; have HS := Lib.hid hS; have HC := Lib.hid hC; have HA := Lib.hid hA
  clear H R hU hS hC hA hus hsz
  obtain ⟨s, hs⟩ : ∃ s, 1 + r + y = s := ⟨_, rfl⟩
  have w1 : IntKind.i64.wrap ((us : Int) + (1 + (r : Int) + (y : Int))) = ((us + s : Nat) : Int) := by rw [Go.IntWalk.i64_in _ (by omega)]; omega
  have w2 : IntKind.i64.wrap ((us : Int) + (s : Int)) = ((us + s : Nat) : Int) := by rw [Go.IntWalk.i64_in _ (by omega)]; omega
  have d0 : decide ((64 : Int) < 1 + (r : Int) + (y : Int)) = false := decide_eq_false (by omega)
  have HSe := Lib.hid hs
  have hsm2 : s ≤ 64 := by omega
  rw [hs] at HA
  clear hs
  by_cases hfull : sz < us + s
  · have d1 : decide (sz < us + s) = true := decide_eq_true hfull
    go_enter Tryz.func69, Tryz.ntmps69
    go_wp2_with fail
    go_quiet ((first
    | (go_at_call 40; exact quiet_left (HU.out _))
    | (go_at_call 39; exact quiet_left (HS.out _))))
    go_wp2_with fail
    refine (HC.out _).mono ?_
    rintro e w1 ⟨own1, M1, x1, P, bs', rfl, h1, h2, h3, h4, h5, h6, h7⟩
    have HF := Lib.hid (fit_walk w1 own1 hp M1 x1 h1 G P bs' h2 (1 + r + y) (by rw [HSe.out]; exact hsm2))
    have HK := Lib.hid (fun (e : Ending) (w2 : World) (hf : FitPost w1 own1 hp G M1 P bs' (1 + r + y) e w2) => kept_fin h2 h3 h4 h6 h7 hf)
    clear h1 h2 h3 h4 h5 h6 h7
    go_wp2_with fail
    rw [show (1 : Int) + (r : Int) + (y : Int) = ((1 + r + y : Nat) : Int) by omega]
    refine (HF.out.mono (fun e w2 hf => HK.out e w2 hf)).mono ?_
    rintro e w2 ⟨rfl, hq⟩
    obtain ⟨own2, M2, x2, P2, bs2, -, j1, j2, j3, j4, j5, -, -⟩ := hq.out
    have e1 := j1.c1
    have HA2 := Lib.hid (alloc_fin (k := k) (r := r) (y := y) (w := w) (own := own) ⟨j1, j2, fun i hi => (j3 i).2 hi, (HStep.drewN _).trans j4⟩ HSh.out (by rw [HSe.out]; exact hsm2) (fun hn => room_small j2 j3 j5 hn))
    clear hq j1 j2 j3 j4 j5
    go_wp2_with fail
    refine HA2.out.mono ?_
    rintro e w' ⟨n, er, hn, rfl, hq⟩
    rcases hq with ⟨rfl, hq⟩ | ⟨rfl, hq⟩
    · have ew : IntKind.u64.wrap (n : Int) = (n : Int) := by rw [IntKind.wrap_u64]; omega
      have HQ := Lib.hid hq.out
      clear hq
      go_wp2_with fail
      go_ret2
      exact HQ.out
    · have HQ := Lib.hid hq.out
      clear hq
      go_wp2_with fail
      go_ret2
      exact HQ.out
  · have d1 : decide (sz < us + s) = false := decide_eq_false hfull
    go_enter Tryz.func69, Tryz.ntmps69
    go_wp2_with fail
    go_quiet ((first
    | (go_at_call 40; exact quiet_left (HU.out _))
    | (go_at_call 39; exact quiet_left (HS.out _))))
    go_wp2_with fail
    refine (HA.out _ (by omega)).mono ?_
    rintro e w' ⟨n, er, hn, rfl, hq⟩
    rcases hq with ⟨rfl, hq⟩ | ⟨rfl, hq⟩
    · have ew : IntKind.u64.wrap (n : Int) = (n : Int) := by rw [IntKind.wrap_u64]; omega
      have HQ := Lib.hid hq.out
      clear hq
      go_wp2_with fail
      go_ret2
      exact HQ.out
    · have HQ := Lib.hid hq.out
      clear hq
      go_wp2_with fail
      go_ret2
      exact HQ.out
end Go.Proofs.YtglglknhifjbaaaGreatDoor.Sp
namespace Go.Proofs.YtglglknhifjbaaaGreatDoor.Sp
open Go.RowKit Go.Proofs.YtglglknhifjbaaaGreatDoorW.PrintWords Go.Proofs.YtglglknhifjbaaaGreatDoorW.PrintLast Go.Proofs.YtglglknhifjbaaaGreatDoorW.PrintMore
set_option linter.unusedVariables false
set_option linter.unusedSimpArgs false
section
variable {w w' : World} {own own' : Own} {hp : Nat} {M : HM} {x : HX} {vg : Value} {gs : List Nat}
theorem HMid.new (h : HMid w own hp M x vg gs) (hb : Below w.heap.size w w') (ow : Ow own own' w) (top : ∀ b, w'.heap.size ≤ b → own' b = 0) : HMid w' own' hp M x vg gs :=
  ⟨h.toHRest.new hb ow top, (hb.block hp h.hlt).trans h.hd⟩
theorem HMid.aside (h : HMid w own hp M x vg gs) {a : Nat} (ha : a ∉ x.ah :: x.as_ :: x.bl.filterMap (fun o : Option (Nat × Nat) => o.map (fun q => q.2))) (hs : ArStep w own w' own' a) : HMid w' own' hp M x vg gs := by
  obtain ⟨b1, b2, b3, b4, b5, b6, b7, b8, b9, b10⟩ := h.arena hs
  have h1 : x.ah ≠ a := fun e => ha (by rw [← e]; exact List.mem_cons_self)
  have h2 : x.as_ ≠ a := fun e => ha (by rw [← e]; exact List.mem_cons_of_mem _ List.mem_cons_self)
  refine ⟨⟨b1, b2, b3 h1, b4 h2, b6, ⟨h.blk.1, fun s p b hsl => b5 s p b hsl (fun e => ha ?_)⟩, h.none_, b7, b8, b9, b10, h.nums, hs.top⟩, ?_⟩
  · subst e
    exact List.mem_cons_of_mem _ (List.mem_cons_of_mem _ (List.mem_filterMap.2 ⟨some (p, b), List.mem_of_getElem? hsl, rfl⟩))
  · exact (hs.fr.block hp h.hlt (fun hq => by have := h.ohd; rcases hq with hq | hq | hq <;> omega)).trans h.hd
theorem fm_put (f : Option (Nat × Nat) → Option Nat) (hf : f = fun o => o.map (fun q => q.2)) : ∀ (l : List (Option (Nat × Nat))) (s p a : Nat), l[s]? = some none → a ∉ l.filterMap f → (l.filterMap f).Nodup → ((l.set s (some (p, a))).filterMap f).Nodup ∧ ∀ b, b ∈ (l.set s (some (p, a))).filterMap f → b = a ∨ b ∈ l.filterMap f
  | [], s, p, a, h, _, _ => by simp at h
  | o :: l, 0, p, a, h, hn, nd => by
    have h : o = none := by simpa using h
    subst h
    subst hf
    show (List.filterMap (fun o : Option (Nat × Nat) => o.map (fun q => q.2)) (some (p, a) :: l)).Nodup ∧ _
    have e : List.filterMap (fun o : Option (Nat × Nat) => o.map (fun q => q.2)) (some (p, a) :: l) = a :: List.filterMap (fun o : Option (Nat × Nat) => o.map (fun q => q.2)) l := rfl
    have e0 : List.filterMap (fun o : Option (Nat × Nat) => o.map (fun q => q.2)) (none :: l) = List.filterMap (fun o : Option (Nat × Nat) => o.map (fun q => q.2)) l := rfl
    rw [e0] at hn nd
    refine ⟨by rw [e]; exact List.nodup_cons.2 ⟨hn, nd⟩, fun b hb => ?_⟩
    have hb : b ∈ List.filterMap (fun o : Option (Nat × Nat) => o.map (fun q => q.2)) (some (p, a) :: l) := hb
    rw [e] at hb
    rw [e0]
    exact List.mem_cons.1 hb
  | o :: l, s + 1, p, a, h, hn, nd => by
    have h : l[s]? = some none := by simpa using h
    cases ho : f o with
    | none =>
      rw [List.filterMap_cons_none ho] at hn nd ⊢
      rw [List.set_cons_succ, List.filterMap_cons_none ho]
      exact fm_put f hf l s p a h hn nd
    | some y =>
      rw [List.filterMap_cons_some ho] at hn nd ⊢
      rw [List.set_cons_succ, List.filterMap_cons_some ho]
      have nd' := List.nodup_cons.1 nd
      obtain ⟨i1, i2⟩ := fm_put f hf l s p a h (fun hm => hn (List.mem_cons_of_mem _ hm)) nd'.2
      refine ⟨List.nodup_cons.2 ⟨fun hm => ?_, i1⟩, fun b hb => ?_⟩
      · rcases i2 y hm with e | e
        · exact hn (by rw [e]; exact List.mem_cons_self)
        · exact nd'.1 e
      · rcases List.mem_cons.1 hb with rfl | hb
        · exact .inr List.mem_cons_self
        · rcases i2 b hb with e | e
          · exact .inl e
          · exact .inr (List.mem_cons_of_mem _ e)
theorem HMid.putBlk (H : HMid w own hp M x vg gs) {s g cap p a : Nat} {A : AM} (hs : x.bl[s]? = some none) (hv : x.vb = .slice (some ⟨g, 0, none⟩) x.bl.length cap) (ha : a ∉ x.ah :: x.as_ :: x.bl.filterMap (fun o : Option (Nat × Nat) => o.map (fun q => q.2))) (hA : IsAr w own a p A.size A.objs) :
    HMid (w.setCell ⟨g, s, none⟩ (.pointer (some ⟨p, 0, none⟩))) own hp { M with blocks := M.blocks.set s (some A) } { x with bl := x.bl.set s (some (p, a)) } vg gs ∧ HStep w own (w.setCell ⟨g, s, none⟩ (.pointer (some ⟨p, 0, none⟩))) own := by
  have og : own g = 2 := H.rb.2 g (by rw [hv]; rfl)
  have hlen := H.blk.1
  have hsl : s < x.bl.length := (List.getElem?_eq_some_iff.1 hs).1
  have hfr : Fr (fun b => own b = 2) w (w.setCell ⟨g, s, none⟩ (.pointer (some ⟨p, 0, none⟩))) := (Fr.refl (fun b => own b = 2) w).setCell (p := ⟨g, s, none⟩) (.inl og) _
  obtain ⟨b1, b', c, d, e, f2, f3, f5, f4⟩ := H.core (T := fun t => t = 2) (by rintro t rfl; decide) hfr (Ow.refl _ _)
  refine ⟨⟨⟨b1, b', c, d, ?_, ⟨?_, fun t q k hq => ?_⟩, fun t => ?_, f3 (by decide), f5 (by decide), (f4 (by decide)).1, (f4 (by decide)).2, ?_, fun b hb => H.top b (by simpa [World.setCell] using hb)⟩, ?_⟩, ⟨hfr.mono (fun b _ hb => by show own b ≠ 0; rw [show own b = 2 from hb]; decide), Ow.refl _ _⟩⟩
  · show RowV _ own 2 _ 1 x.vb (x.bl.set s (some (p, a))).length ((x.bl.set s (some (p, a))).map ptrV)
    have hr := H.rb
    rw [hv] at hr ⊢
    rw [List.length_set, List.map_set]
    exact ⟨own_set hr.1 _ _, hr.2⟩
  · show (x.bl.set s _).length = (M.blocks.set s _).length
    rw [List.length_set, List.length_set]; exact hlen
  · have hq : (x.bl.set s (some (p, a)))[t]? = some (some (q, k)) := hq
    show ∃ A' : AM, (M.blocks.set s (some A))[t]? = _ ∧ _
    rw [List.getElem?_set] at hq ⊢
    by_cases e2 : s = t
    · rw [if_pos e2, if_pos hsl] at hq
      injection hq with hq; injection hq with hq; injection hq with h1 h2
      subst h1 h2
      rw [if_pos e2, if_pos (by omega)]
      exact ⟨A, rfl, hA.fr hfr (Ow.refl _ _) (fun b hb => by have : own b = 2 := hb; omega)⟩
    · rw [if_neg e2] at hq ⊢
      exact e.2 t q k hq
  · show (M.blocks.set s (some A))[t]? = some none ↔ (x.bl.set s (some (p, a)))[t]? = some none
    rw [List.getElem?_set, List.getElem?_set]
    by_cases e2 : s = t
    · rw [if_pos e2, if_pos e2, if_pos hsl, if_pos (by omega)]
      constructor
      · intro h; cases h
      · intro h; cases h
    · rw [if_neg e2, if_neg e2]; exact H.none_ t
  · have n1 := List.nodup_cons.1 H.nums
    have n2 := List.nodup_cons.1 n1.2
    obtain ⟨i1, i2⟩ := fm_put _ rfl x.bl s p a hs (fun h => ha (List.mem_cons_of_mem _ (List.mem_cons_of_mem _ h))) n2.2
    refine List.nodup_cons.2 ⟨fun h => ?_, List.nodup_cons.2 ⟨fun h => ?_, i1⟩⟩
    · rcases List.mem_cons.1 h with h | h
      · exact n1.1 (by rw [h]; exact List.mem_cons_self)
      · rcases i2 _ h with h | h
        · have h : x.ah = a := h
          exact ha (by rw [← h]; exact List.mem_cons_self)
        · exact n1.1 (List.mem_cons_of_mem _ h)
    · rcases i2 _ h with h | h
      · have h : x.as_ = a := h
        exact ha (by rw [← h]; exact List.mem_cons_of_mem _ List.mem_cons_self)
      · exact n2.1 h
  · rw [setCell_at, if_neg (by rintro rfl; have := H.ohd; omega)]
    exact H.hd
theorem RowV.grow {tag n : Nat} {e : TypeId} {v v3 : Value} {xs ys : List Value} {w3 : World} (h : RowV w own tag e 1 v n xs) (hq : w3.ownsRow 0 e 1 v3 (n + 1) ys) (hg : w.grownBy w3 v.ownBlock) (hat : v.ownBlock = v3.ownBlock ∨ ∃ b, v3.ownBlock = some b ∧ w.heap.size ≤ b) (top : ∀ b, w.heap.size ≤ b → own b = 0) :
    Ow own (fun b => if v3.ownBlock = some b then tag else own b) w ∧ Fr (fun b => own b = tag) w w3 ∧ (∀ b, w3.heap.size ≤ b → (if v3.ownBlock = some b then tag else own b) = 0) ∧ (∀ k, v3.ownBlock = some k → own k = tag ∨ w.heap.size ≤ k) := by
  have h3 : ∀ k, v3.ownBlock = some k → own k = tag ∨ w.heap.size ≤ k := fun k hk => by
    rcases hat with e | ⟨b, hb, hle⟩
    · exact .inl (h.2 k (e ▸ hk))
    · rw [hb] at hk; injection hk with hk; right; rw [← hk]; omega
  have hlt3 : ∀ k, v3.ownBlock = some k → k < w3.heap.size := fun k hk => by
    obtain ⟨cells, hc⟩ := own_typed hq k hk
    exact blk_lt hc
  refine ⟨fun b hb => ?_, (Fr.refl (fun b => own b = tag) w).grown hg (fun k hk => .inl (h.2 k hk)), fun b hb => ?_, h3⟩
  · dsimp only
    by_cases e : v3.ownBlock = some b
    · rw [if_pos e]
      rcases h3 b e with h | h
      · exact h.symm
      · omega
    · rw [if_neg e]
  · rw [if_neg (fun e => by have := hlt3 b e; omega)]
    exact top b (by have := hg.size; omega)
theorem HMid.pushBlk {w3 : World} {v3 : Value} {p a : Nat} {A : AM} (H : HMid w own hp M x vg gs) (ha : a ∉ x.ah :: x.as_ :: x.bl.filterMap (fun o : Option (Nat × Nat) => o.map (fun q => q.2))) (hA : IsAr w own a p A.size A.objs)
    (hq : w3.ownsRow 0 89 1 v3 (x.bl.length + 1) (x.bl.map ptrV ++ [.pointer (some ⟨p, 0, none⟩)])) (hg : w.grownBy w3 x.vb.ownBlock) (hat : x.vb.ownBlock = v3.ownBlock ∨ ∃ b, v3.ownBlock = some b ∧ w.heap.size ≤ b) :
    w3.cell? ⟨hp, 3, none⟩ = some x.vb ∧ w3.frozen? ⟨hp, 3, none⟩ = false ∧ ∃ own', Hid (HMid (w3.setCell ⟨hp, 3, none⟩ v3) own' hp { M with blocks := M.blocks ++ [some A] } { x with vb := v3, bl := x.bl ++ [some (p, a)] } vg gs) ∧ HStep w own (w3.setCell ⟨hp, 3, none⟩ v3) own' := by
  obtain ⟨ow, hfr3, top, h3⟩ := H.rb.grow hq hg hat H.top
  have hne : ∀ k, v3.ownBlock = some k → k ≠ hp := fun k hk e => by
    subst e
    rcases h3 k hk with h | h
    · have := H.ohd; omega
    · have := H.hlt; omega
  have hd3 : w3.heap[hp]? = some (.cells (hdV M x vg) 95 (0, 0)) := (hfr3.block hp H.hlt (fun h => by have h : own hp = 2 := h; have := H.ohd; omega)).trans H.hd
  have hfr : Fr (fun b => own b = 2 ∨ own b = 1) w (w3.setCell ⟨hp, 3, none⟩ v3) := (hfr3.mono (fun b _ hb => .inl hb)).setCell (.inl (.inr H.ohd)) _
  refine ⟨by simp [World.cell?, hd3, hdV], by simp [World.frozen?, hd3], _, ?_, ⟨hfr.mono (fun b _ hb => by rcases hb with hb | hb <;> omega), ow⟩⟩
  obtain ⟨b1, b', c, d, e, f2, f3, f5, f4⟩ := H.core (T := fun t => t = 2 ∨ t = 1) (by rintro t (rfl | rfl) <;> decide) hfr ow
  have hlen := H.blk.1
  refine ⟨⟨b1, b', c, d, ⟨?_, fun k hk => if_pos hk⟩, ⟨?_, fun t q k hq => ?_⟩, fun t => ?_, f3 (by decide), f5 (by decide), (f4 (by decide)).1, (f4 (by decide)).2, ?_, fun b hb => top b (by simpa [World.setCell] using hb)⟩, ?_⟩
  · show (w3.setCell ⟨hp, 3, none⟩ v3).ownsRow 0 _ 1 v3 (x.bl ++ [some (p, a)]).length ((x.bl ++ [some (p, a)]).map ptrV)
    rw [List.length_append, List.length_singleton, List.map_append]
    exact own_move hq (fun k hk => by rw [setCell_at, if_neg (hne k hk)])
  · show (x.bl ++ [some (p, a)]).length = (M.blocks ++ [some A]).length
    rw [List.length_append, List.length_append, hlen]; rfl
  · have hq : (x.bl ++ [some (p, a)])[t]? = some (some (q, k)) := hq
    show ∃ A' : AM, (M.blocks ++ [some A])[t]? = _ ∧ _
    by_cases ht : t < x.bl.length
    · rw [List.getElem?_append_left ht] at hq
      rw [List.getElem?_append_left (by omega)]
      exact e.2 t q k hq
    · rw [List.getElem?_append_right (by omega)] at hq ⊢
      have h0 : t - x.bl.length = 0 := by
        have := (List.getElem?_eq_some_iff.1 hq).1
        simp at this; omega
      rw [h0] at hq
      rw [show t - M.blocks.length = 0 by omega]
      have hq : some (p, a) = some (q, k) := by simpa using hq
      injection hq with hq; injection hq with h1 h2
      subst h1 h2
      exact ⟨A, rfl, hA.fr hfr ow (fun b hb => by rcases hb with hb | hb <;> omega)⟩
  · show (M.blocks ++ [some A])[t]? = some none ↔ (x.bl ++ [some (p, a)])[t]? = some none
    by_cases ht : t < x.bl.length
    · rw [List.getElem?_append_left ht, List.getElem?_append_left (by omega)]; exact H.none_ t
    · rw [List.getElem?_append_right (by omega), List.getElem?_append_right (by omega), hlen]
      cases t - M.blocks.length with
      | zero => simp
      | succ k => simp
  · have n1 := List.nodup_cons.1 H.nums
    have n2 := List.nodup_cons.1 n1.2
    have e0 : (x.bl ++ [some (p, a)]).filterMap (fun o : Option (Nat × Nat) => o.map (fun q => q.2)) = x.bl.filterMap (fun o : Option (Nat × Nat) => o.map (fun q => q.2)) ++ [a] := by rw [List.filterMap_append]; rfl
    show (x.ah :: x.as_ :: (x.bl ++ [some (p, a)]).filterMap (fun o : Option (Nat × Nat) => o.map (fun q => q.2))).Nodup
    rw [e0]
    have : (x.ah :: x.as_ :: (x.bl.filterMap (fun o : Option (Nat × Nat) => o.map (fun q => q.2)) ++ [a])) = (x.ah :: x.as_ :: x.bl.filterMap (fun o : Option (Nat × Nat) => o.map (fun q => q.2))) ++ [a] := rfl
    rw [this, List.nodup_append]
    exact ⟨H.nums, by simp, fun b hb c hc e => by rw [List.mem_singleton.1 hc] at e; exact ha (e ▸ hb)⟩
  · rw [setCell_at, if_pos rfl, hd3]
    rfl
theorem HMid.pushMark {w3 : World} {v3 : Value} (H : HMid w own hp M x vg gs)
    (hq : w3.ownsRow 0 4 1 v3 (M.reached.length + 1) (M.reached.map Value.bool ++ [.bool false])) (hg : w.grownBy w3 x.vr.ownBlock) (hat : x.vr.ownBlock = v3.ownBlock ∨ ∃ b, v3.ownBlock = some b ∧ w.heap.size ≤ b) :
    w3.cell? ⟨hp, 4, none⟩ = some x.vr ∧ w3.frozen? ⟨hp, 4, none⟩ = false ∧ ∃ own', Hid (HMid (w3.setCell ⟨hp, 4, none⟩ v3) own' hp { M with reached := M.reached ++ [false] } { x with vr := v3 } vg gs) ∧ HStep w own (w3.setCell ⟨hp, 4, none⟩ v3) own' := by
  obtain ⟨ow, hfr3, top, h3⟩ := H.rr.grow hq hg hat H.top
  have hne : ∀ k, v3.ownBlock = some k → k ≠ hp := fun k hk e => by
    subst e
    rcases h3 k hk with h | h
    · have := H.ohd; omega
    · have := H.hlt; omega
  have hd3 : w3.heap[hp]? = some (.cells (hdV M x vg) 95 (0, 0)) := (hfr3.block hp H.hlt (fun h => by have h : own hp = 3 := h; have := H.ohd; omega)).trans H.hd
  have hfr : Fr (fun b => own b = 3 ∨ own b = 1) w (w3.setCell ⟨hp, 4, none⟩ v3) := (hfr3.mono (fun b _ hb => .inl hb)).setCell (.inl (.inr H.ohd)) _
  refine ⟨by simp [World.cell?, hd3, hdV], by simp [World.frozen?, hd3], _, ?_, ⟨hfr.mono (fun b _ hb => by rcases hb with hb | hb <;> omega), ow⟩⟩
  obtain ⟨b1, b', c, d, e, f2, f3, f5, f4⟩ := H.core (T := fun t => t = 3 ∨ t = 1) (by rintro t (rfl | rfl) <;> decide) hfr ow
  refine ⟨⟨b1, b', c, d, f2 (by decide), e, H.none_, ⟨?_, fun k hk => if_pos hk⟩, f5 (by decide), (f4 (by decide)).1, (f4 (by decide)).2, H.nums, fun b hb => top b (by simpa [World.setCell] using hb)⟩, ?_⟩
  · show (w3.setCell ⟨hp, 4, none⟩ v3).ownsRow 0 _ 1 v3 (M.reached ++ [false]).length ((M.reached ++ [false]).map Value.bool)
    rw [List.length_append, List.length_singleton, List.map_append]
    exact own_move hq (fun k hk => by rw [setCell_at, if_neg (hne k hk)])
  · rw [setCell_at, if_pos rfl, hd3]
    rfl
end
end Go.Proofs.YtglglknhifjbaaaGreatDoor.Sp
namespace Go.Proofs.YtglglknhifjbaaaGreatDoor.Sp
open Go.RowKit Go.Proofs.YtglglknhifjbaaaGreatDoorW.PrintWords Go.Proofs.YtglglknhifjbaaaGreatDoorW.PrintLast Go.Proofs.YtglglknhifjbaaaGreatDoorW.PrintMore
set_option linter.unusedVariables false
set_option linter.unusedSimpArgs false
structure Ready (w : World) (own : Own) (hp : Nat) (G : Gr) (W : World) (own1 : Own) (M1 : HM) (x1 : HX) (hs1 : List Nat) (bs1 : List (Option Nat)) (b : Nat) : Prop where
  kept : Kept w own hp G G W own1 M1 x1 hs1 bs1
  fits : 2 * M1.half.size + M1.large + b ≤ M1.limit
  since : M1.since + b ≤ 4194304
structure Laid (w : World) (own : Own) (hp : Nat) (M1 : HM) (x1 : HX) (k r y a p : Nat) (w3 : World) (own3 : Own) : Prop where
  mem : HMid w3 own3 hp M1 x1 (.slice none 0 0) []
  ar : IsAr w3 own3 a p (1 + r + y + 1) [(headW k r y, List.replicate (r + y) 0)]
  step : HStep w own w3 own3
  fresh : a ∉ x1.ah :: x1.as_ :: x1.bl.filterMap (fun o : Option (Nat × Nat) => o.map (fun q => q.2))
section
variable {w W : World} {own own1 : Own} {hp : Nat} {G : Gr} {M1 : HM} {x1 : HX} {hs1 : List Nat} {bs1 : List (Option Nat)} {k r y : Nat}
theorem Ready.new (R : Ready w own hp G W own1 M1 x1 hs1 bs1 (1 + r + y + 1)) (hsh : Shape k r y) : Calls Tryz.prog 68 #[.int .i64 ((1 + r + y + 1 : Nat) : Int)] W fun e w2 => ∃ p, e = .returned (.tuple #[.pointer (some ⟨p, 0, none⟩), .int .i64 0]) ∧
    Hid (Calls Tryz.prog 116 #[.pointer (some ⟨p, 0, none⟩), .int .i64 (k : Int), .int .i64 (r : Int), .int .i64 (y : Int)] w2 fun e w3 => e = .returned (.tuple #[.int .i64 1, .int .i64 0]) ∧ ∃ own3 a, Laid w own hp M1 x1 k r y a p w3 own3) := by
  obtain ⟨a, ha⟩ := fresh_num (x1.ah :: x1.as_ :: x1.bl.filterMap (fun o : Option (Nat × Nat) => o.map (fun q => q.2)))
  have hf := R.fits
  have h4 := R.kept.rep.s4
  refine (arNew_walk W own1 a (1 + r + y + 1) (by omega) (by omega) R.kept.mem.top).mono ?_
  rintro e w2 ⟨p, own2, rfl, h1, h2, h3, h4', h5⟩
  refine ⟨p, rfl, ?_⟩
  have hm := R.kept.mem.mid.new h2 h3 h5
  refine (arAlloc_walk w2 own2 a p _ [] h4' k r y hsh (by show 1 + (1 + r + y) ≤ _; omega) h5).mono ?_
  rintro e w3 ⟨own3, rfl, hA, hst⟩
  exact ⟨rfl, own3, a, hm.aside ha hst, hA, R.kept.step.trans (HStep.trans ⟨Fr.below h2, h3⟩ hst.h), ha⟩
end
section
variable {w : World} {own : Own} {hp : Nat} {M1 : HM} {x1 : HX} {k r y a p : Nat} {w3 : World} {own3 : Own}
theorem Laid.nums (h : Laid w own hp M1 x1 k r y a p w3 own3) : Laid w own hp { M1 with large := M1.large + (1 + r + y + 1), since := M1.since + (1 + r + y + 1) } x1 k r y a p ((w3.setCell ⟨hp, 6, none⟩ (.int .i64 ((M1.large + (1 + r + y + 1) : Nat) : Int))).setCell ⟨hp, 7, none⟩ (.int .i64 ((M1.since + (1 + r + y + 1) : Nat) : Int))) own3 := by
  have h1 := h.mem.num 6 (.int .i64 ((M1.large + (1 + r + y + 1) : Nat) : Int)) { M1 with large := M1.large + (1 + r + y + 1) } rfl rfl rfl rfl rfl rfl
  have h2 := h1.num 7 (.int .i64 ((M1.since + (1 + r + y + 1) : Nat) : Int)) { M1 with large := M1.large + (1 + r + y + 1), since := M1.since + (1 + r + y + 1) } rfl rfl rfl rfl rfl rfl
  refine ⟨h2, ?_, h.step.trans ((HStep.hd h.mem.ohd 6 _).trans (HStep.hd h.mem.ohd 7 _)), h.fresh⟩
  have hf : Fr (fun b => own3 b = 1) w3 ((w3.setCell ⟨hp, 6, none⟩ (.int .i64 ((M1.large + (1 + r + y + 1) : Nat) : Int))).setCell ⟨hp, 7, none⟩ (.int .i64 ((M1.since + (1 + r + y + 1) : Nat) : Int))) := ((Fr.refl (fun b => own3 b = 1) w3).setCell (p := ⟨hp, 6, none⟩) (.inl h.mem.ohd) _).setCell (p := ⟨hp, 7, none⟩) (.inl h.mem.ohd) _
  exact h.ar.fr hf (Ow.refl _ _) (fun b hb => by have : own3 b = 1 := hb; omega)
end
section
variable {w W w4 : World} {own own1 own4 : Own} {hp : Nat} {G : Gr} {M1 : HM} {x1 : HX} {hs1 : List Nat} {bs1 : List (Option Nat)} {k r y a p : Nat}
theorem blocks_none {s : Nat} (R : Rep G hs1 bs1 M1) (h : M1.blocks[s]? = some none) : bs1[s]? = some none := by
  rw [R.blocks, List.getElem?_map] at h
  cases hb : bs1[s]? with
  | none => rw [hb] at h; cases h
  | some o => cases o with
    | none => rfl
    | some i => rw [hb] at h; injection h with h; cases h
theorem blocks_some {s : Nat} {A : AM} (R : Rep G hs1 bs1 M1) (h : M1.blocks[s]? = some (some A)) : ∃ i, bs1[s]? = some (some i) := by
  rw [R.blocks, List.getElem?_map] at h
  cases hb : bs1[s]? with
  | none => rw [hb] at h; cases h
  | some o => cases o with
    | none => rw [hb] at h; injection h with h; cases h
    | some i => exact ⟨i, rfl⟩
theorem big_put (R : Ready w own hp G W own1 M1 x1 hs1 bs1 (1 + r + y + 1)) (hsh : Shape k r y) (hbg : 64 < 1 + r + y)
    (h : Laid w own hp { M1 with large := M1.large + (1 + r + y + 1), since := M1.since + (1 + r + y + 1) } x1 k r y a p w4 own4) {s g cap : Nat} (hs : x1.bl[s]? = some none) (hv : x1.vb = .slice (some ⟨g, 0, none⟩) x1.bl.length cap) :
    Hid (AllocGPost w own hp G k r y (.returned (.tuple #[.int .u64 ((9223372036854775808 + s : Nat) : Int), .int .i64 0])) (w4.setCell ⟨g, s, none⟩ (.pointer (some ⟨p, 0, none⟩)))) := by
  obtain ⟨m1, m2⟩ := h.mem.putBlk (A := ⟨1 + r + y + 1, _⟩) hs hv h.fresh h.ar
  have hb : bs1[s]? = some none := blocks_none R.kept.rep ((R.kept.mem.none_ s).2 hs)
  have hlt := (List.getElem?_eq_some_iff.1 hb).1
  have hfit := R.fits
  obtain ⟨r1, r2, r3⟩ := R.kept.rep.addBig k r y hsh hbg s _ (.inl ⟨hb, rfl⟩) { M1 with large := M1.large + (1 + r + y + 1), since := M1.since + (1 + r + y + 1), blocks := M1.blocks.set s (some ⟨1 + r + y + 1, [(headW k r y, List.replicate (r + y) 0)]⟩) } rfl rfl (by rw [if_pos hlt]) (by rw [if_pos hlt]) rfl rfl rfl R.since rfl rfl (by omega) (by rw [List.length_set]; exact R.kept.rep.blen)
  refine .inl ⟨own4, _, _, _, _, by rw [r3], ⟨m1.mem, r1, fun i hi => ?_, h.step.trans m2⟩, .inr ?_⟩
  · rcases R.kept.keep i hi with h1 | h1
    · exact .inl h1
    · right
      obtain ⟨t, ht, e⟩ := mem_get h1
      have hne : s ≠ t := by
        rintro rfl
        rw [List.getElem?_eq_getElem ht, e] at hb; cases hb
      have : (bs1.set s (some G.next))[t]? = some (some i) := by rw [List.getElem?_set, if_neg hne, List.getElem?_eq_getElem ht, e]
      exact List.mem_of_getElem? this
  · have : (bs1.set s (some G.next))[s]? = some (some G.next) := by rw [List.getElem?_set, if_pos rfl, if_pos hlt]
    exact List.mem_of_getElem? this
theorem bsum_ge (G : Gr) : ∀ (bs : List (Option Nat)), (∀ s, s < bs.length → ∃ i, bs[s]? = some (some i)) → (∀ i, some i ∈ bs → 64 < G.sz i) → 66 * bs.length ≤ bsum G bs
  | [], _, _ => Nat.zero_le _
  | o :: bs, h, hb => by
    obtain ⟨i, hi⟩ := h 0 (by simp)
    have hi : o = some i := by simpa using hi
    subst hi
    have ih := bsum_ge G bs (fun s hs => by have := h (s + 1) (by simpa using hs); simpa using this) (fun i hi => hb i (List.mem_cons_of_mem _ hi))
    have := hb i List.mem_cons_self
    unfold bsum at *
    simp only [List.map_cons, List.sum_cons, List.length_cons]
    omega
theorem big_push (R : Ready w own hp G W own1 M1 x1 hs1 bs1 (1 + r + y + 1)) (hsh : Shape k r y) (hbg : 64 < 1 + r + y) (hall : ∀ s, s < x1.bl.length → x1.bl[s]? ≠ some none) {own5 : Own} {w5 : World} {v3 v4 : Value}
    (h : HMid w5 own5 hp { M1 with large := M1.large + (1 + r + y + 1), since := M1.since + (1 + r + y + 1), blocks := M1.blocks ++ [some ⟨1 + r + y + 1, [(headW k r y, List.replicate (r + y) 0)]⟩], reached := M1.reached ++ [false] } { x1 with vb := v3, vr := v4, bl := x1.bl ++ [some (p, a)] } (.slice none 0 0) []) (hst : HStep w own w5 own5) :
    Hid (AllocGPost w own hp G k r y (.returned (.tuple #[.int .u64 ((9223372036854775808 + x1.bl.length : Nat) : Int), .int .i64 0])) w5) := by
  have hbl : x1.bl.length = bs1.length := by have h1 := R.kept.mem.blk.1; rw [R.kept.rep.blocks, List.length_map] at h1; exact h1
  have hsome : ∀ s, s < bs1.length → ∃ i, bs1[s]? = some (some i) := fun s hs => by
    have hs2 : s < M1.blocks.length := by rw [R.kept.rep.blocks, List.length_map]; exact hs
    cases hm : M1.blocks[s] with
    | none =>
      have := (R.kept.mem.none_ s).1 (by rw [List.getElem?_eq_getElem hs2, hm])
      exact absurd this (hall s (by omega))
    | some A => exact blocks_some R.kept.rep (by rw [List.getElem?_eq_getElem hs2, hm])
  have hge := bsum_ge G bs1 hsome R.kept.rep.big
  have hlg := R.kept.rep.large
  have hfit := R.fits
  have h4 := R.kept.rep.s4
  obtain ⟨r1, r2, r3⟩ := R.kept.rep.addBig k r y hsh hbg bs1.length _ (.inr ⟨rfl, rfl⟩) { M1 with large := M1.large + (1 + r + y + 1), since := M1.since + (1 + r + y + 1), blocks := M1.blocks ++ [some ⟨1 + r + y + 1, [(headW k r y, List.replicate (r + y) 0)]⟩], reached := M1.reached ++ [false] } rfl rfl (by rw [if_neg (by omega)]) (by rw [if_neg (by omega)]) rfl rfl rfl R.since rfl rfl (by omega) (by rw [List.length_append, List.length_singleton]; omega)
  refine .inl ⟨own5, _, _, _, _, by rw [r3, hbl], ⟨h.mem, r1, fun i hi => ?_, hst⟩, .inr (by simp)⟩
  rcases R.kept.keep i hi with h1 | h1
  · exact .inl h1
  · exact .inr (List.mem_append_left _ h1)
end
end Go.Proofs.YtglglknhifjbaaaGreatDoor.Sp
