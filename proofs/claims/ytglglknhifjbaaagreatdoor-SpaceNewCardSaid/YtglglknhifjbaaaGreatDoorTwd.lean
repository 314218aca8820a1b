import Derived.Test.YtglglknhifjbaaaGreatDoorTwc
namespace Go.Proofs.YtglglknhifjbaaaGreatDoor.Sp
open Go.RowKit Go.Proofs.YtglglknhifjbaaaGreatDoorW.PrintWords Go.Proofs.YtglglknhifjbaaaGreatDoorW.PrintLast Go.Proofs.YtglglknhifjbaaaGreatDoorW.PrintMore
set_option linter.unusedVariables false
set_option linter.unusedSimpArgs false
theorem Gr.put_put (G : Gr) (i : Nat) (a b : Node) : (G.put i a).put i b = G.put i b := by
  unfold Gr.put
  congr 1
  funext j
  by_cases e : j = i <;> simp [e]
structure TSt (hs : List Nat) (bs : List (Option Nat)) (t : Nat) (T : Tab) : Prop where
  ok : T.Ok
  live : ∀ i ∈ Plan.ids (T.plan t), Live hs bs i
  mv : T.moved ≤ 1048576
theorem TSt.lt {hs : List Nat} {bs : List (Option Nat)} {t : Nat} {T : Tab} (h : TSt hs bs t T) : Live hs bs t := h.live _ ((T.plan_ids t t).2 (.inl rfl))
theorem TSt.ln {hs : List Nat} {bs : List (Option Nat)} {t : Nat} {T : Tab} (h : TSt hs bs t T) : Live hs bs T.nid := h.live _ ((T.plan_ids t _).2 (.inr (.inl rfl)))
theorem TSt.lo {hs : List Nat} {bs : List (Option Nat)} {t : Nat} {T : Tab} (h : TSt hs bs t T) (ho : T.oid ≠ 0) : Live hs bs T.oid := h.live _ ((T.plan_ids t _).2 (.inr (.inr (.inl ⟨ho, rfl⟩))))
theorem TSt.le {hs : List Nat} {bs : List (Option Nat)} {t : Nat} {T : Tab} (h : TSt hs bs t T) {e : Ent} (he : e ∈ T.ents) : Live hs bs e.id ∧ Live hs bs e.kid := ⟨h.live _ ((T.plan_ids t _).2 (.inr (.inr (.inr ⟨e, he, .inl rfl⟩)))), h.live _ ((T.plan_ids t _).2 (.inr (.inr (.inr ⟨e, he, .inr rfl⟩))))⟩
theorem pow20 {k : Nat} (h : k ≤ 20) : 2 ^ k ≤ 1048576 := Nat.le_trans (Nat.pow_le_pow_right (by decide) h) (by decide)
theorem Tab.Ok.mvle {T : Tab} (h : T.Ok) : T.moved ≤ 1048576 := by
  by_cases ho : T.oid = 0
  · rw [(h.onone ho).2]; decide
  · obtain ⟨h1, h2, h3⟩ := h.olen ho
    have := h.mv
    have := pow20 h3
    omega
theorem TSt.of {w : World} {own : Own} {hp : Nat} {G : Gr} {hs : List Nat} {bs : List (Option Nat)} {hd t : Nat} {T : Tab} {rest : Plan} (H : HO w own hp G hs bs) (hh : (hd, t) ∈ G.hands) (hT : T.Ok) (S : Sat G (T.plan t ++ rest)) : TSt hs bs t T :=
  ⟨hT, (H.lay.tab hh hT S).1, hT.mvle⟩
section
variable {w w1 w2 W : World} {own own1 own2 : Own} {hp : Nat} {G G1 G2 : Gr} {hs : List Nat} {bs : List (Option Nat)} {i tp hd t len mv : Nat} {T : Tab} {orefs : List Nat} {rest : Plan} {nb ob : List (List Ent)} {r : List Ent}
theorem TSt.raw (h : TSt hs bs t T) (S : Sat G (T.planL t len ++ rest)) : TRaw G hs bs t T len (T.ob.map headId) :=
  { tn := S.tab, nn := S.new, on := fun ho => ⟨S.old ho, by rw [List.length_map]; exact (h.ok.olen ho).1, (h.ok.olen ho).2⟩, nl := h.ok.nlen, nk := h.ok.nk2, lt := h.lt, ln := h.ln, lo := h.lo, mv := h.mv, sd := h.ok.seed }
theorem TSt.mraw (h : TSt hs bs t T) (ho : T.oid ≠ 0) (S : Sat G (T.midP t len mv nb ob orefs r ++ rest)) (hn : nb.length = T.nb.length) (hr : orefs.length = T.ob.length) (hm : mv ≤ 1048576) : TRaw G hs bs t { T with nb := nb, moved := mv } len orefs :=
  { tn := S.mid_tab, nn := S.mid_new, on := fun _ => ⟨S.mid_old, hr.trans (h.ok.olen ho).1, (h.ok.olen ho).2⟩, nl := hn.trans h.ok.nlen, nk := h.ok.nk2, lt := h.lt, ln := h.ln, lo := h.lo, mv := hm, sd := h.ok.seed }
structure StepSt (w : World) (own : Own) (hp : Nat) (G : Gr) (hs : List Nat) (bs : List (Option Nat)) (t : Nat) (T : Tab) (len : Nat) (rest : Plan) (mv : Nat) (wr : World) (own' : Own) (G' : Gr) (nb ob : List (List Ent)) (orefs : List Nat) (r : List Ent) : Prop where
  ed : Ed w own hp G hs bs wr own' G'
  sat : Sat G' (T.midP t len mv nb ob orefs r ++ rest)
theorem StepSt.hang (h : TSt hs bs t T) (ho : T.oid ≠ 0) (gl : Gl w own) (ht : TAt w own hp tp hd) (hh : (hd, t) ∈ G.hands) {wr : World} {own' : Own} {G' : Gr} {e : Ent}
    (st : StepSt w own hp G hs bs t T len rest mv wr own' G' nb ob orefs (e :: r)) (hn : nb.length = T.nb.length) (hr : orefs.length = T.ob.length) (hm : mv ≤ 1048576) (he : e ∈ T.ents) (hb : bkt T.ok (e.hash T.seed) < mv) :
    Calls Tryz.prog 191 #[.pointer (some ⟨tp, 0, none⟩), .int .u64 (plOf G hs bs e.id : Int), .int .u64 (e.hash T.seed : Int)] wr fun en w' => en = .returned (.tuple #[]) ∧ ∃ own2 G2, StepSt w own hp G hs bs t T len rest mv w' own2 G2 (hang1 T.nk T.seed nb e) ob orefs r := by
  have hx := hashN_lt T.seed e.key
  have R := h.mraw ho st.sat hn hr hm
  have hno : ({ T with nb := nb, moved := mv } : Tab).inOld (e.hash T.seed) = false := by
    unfold Tab.inOld
    have : ¬ mv ≤ bkt T.ok (e.hash T.seed) := by omega
    simp [this]
  have hne := st.sat.mid_ent
  have hnn := st.sat.mid_new
  have hxa : e.id ≠ T.nid := fun q => by
    rw [q, hnn] at hne
    have := congrArg Node.kind hne
    exact absurd this (by show ¬ (5 : Nat) = 6; decide)
  have hw := hang_walk st.ed.ho (gl.step st.ed.st) (ht.step st.ed.st) (by rw [st.ed.hands]; exact hh) R (e.hash T.seed) hx e.id (h.le he).1 (by rw [hne]; show 1 ≤ 3; decide) (by unfold Tab.aid; rw [hno]; exact hxa)
  have ea : ({ T with nb := nb, moved := mv } : Tab).aid (e.hash T.seed) = T.nid := by unfold Tab.aid; rw [hno]; rfl
  have es : ({ T with nb := nb, moved := mv } : Tab).slot (e.hash T.seed) = bkt T.nk (e.hash T.seed) := by unfold Tab.slot; rw [hno]; rfl
  have er : ({ T with nb := nb, moved := mv } : Tab).arefs orefs (e.hash T.seed) = nb.map headId := by unfold Tab.arefs; rw [hno]; rfl
  rw [ea, es, er, hne, st.ed.pl] at hw
  have hbl : bkt T.nk (e.hash T.seed) < nb.length := by rw [hn, h.ok.nlen]; exact bkt_lt _ _ (by have := h.ok.nk2; omega) hx
  have hgd : (nb.map headId).getD (bkt T.nk (e.hash T.seed)) 0 = headId (nb.getD (bkt T.nk (e.hash T.seed)) []) := by
    rw [List.getD_eq_getElem?_getD, List.getElem?_map, List.getD_eq_getElem?_getD, List.getElem?_eq_getElem hbl]; rfl
  rw [hgd] at hw
  refine hw.mono ?_
  rintro en w' ⟨rfl, own2, E⟩
  exact ⟨rfl, own2, _, st.ed.trans E, st.sat.mid_hang _ hbl rfl⟩
theorem StepSt.get0 (h : TSt hs bs t T) (ht : TAt w own hp tp hd) {wr : World} {own' : Own} {G' : Gr} {e : Ent} (st : StepSt w own hp G hs bs t T len rest mv wr own' G' nb ob orefs (e :: r)) (he : e ∈ T.ents) :
    Calls Tryz.prog 149 #[.pointer (some ⟨tp, 0, none⟩), .int .u64 (plOf G hs bs e.id : Int), .int .i64 0] wr (fun en w' => en = .returned (.int .u64 (plOf G hs bs (headId r) : Int)) ∧ wr = w') ∧
    Calls Tryz.prog 149 #[.pointer (some ⟨tp, 0, none⟩), .int .u64 (plOf G hs bs e.id : Int), .int .i64 3] wr (fun en w' => en = .returned (.int .u64 (e.hash T.seed : Int)) ∧ wr = w') := by
  have hne := st.sat.mid_ent
  have h0 := tget_walk st.ed.ho (ht.step st.ed.st) (h.le he).1 0 (by rw [hne]; show 0 < 3 + 3; decide)
  have h3 := tget_walk st.ed.ho (ht.step st.ed.st) (h.le he).1 3 (by rw [hne]; show 3 < 3 + 3; decide)
  rw [hne, st.ed.pl] at h0 h3
  exact ⟨h0, h3⟩
theorem StepSt.first (h : TSt hs bs t T) (ho : T.oid ≠ 0) (ht : TAt w own hp tp hd) {wr : World} {own' : Own} {G' : Gr} (st : StepSt w own hp G hs bs t T len rest mv wr own' G' nb ob orefs r) (j : Nat) (hj : j < orefs.length) :
    Calls Tryz.prog 149 #[.pointer (some ⟨tp, 0, none⟩), .int .u64 (plOf G hs bs T.oid : Int), .int .i64 (j : Int)] wr (fun en w' => en = .returned (.int .u64 (plOf G hs bs (orefs.getD j 0) : Int)) ∧ wr = w') := by
  have hno := st.sat.mid_old
  have h0 := tget_walk st.ed.ho (ht.step st.ed.st) (h.lo ho) j (by rw [hno]; show j < orefs.length + 0; omega)
  rw [hno, st.ed.pl, arr_at, List.getD_eq_getElem?_getD, List.getElem?_map, List.getElem?_eq_getElem hj] at h0
  rw [List.getD_eq_getElem?_getD, List.getElem?_eq_getElem hj]
  exact h0
theorem StepSt.clear (h : TSt hs bs t T) (ho : T.oid ≠ 0) {wr : World} {own' : Own} {G' : Gr} (st : StepSt w own hp G hs bs t T len rest mv wr own' G' nb ob orefs r) (j : Nat) (hj : j < orefs.length) :
    Calls Tryz.prog 70 #[.pointer (some ⟨hp, 0, none⟩), .int .u64 (plOf G hs bs T.oid : Int), .int .i64 (j : Int), .int .u64 0] wr fun e w' => e = .returned (.int .i64 0) ∧ ∃ own2 G2, StepSt w own hp G hs bs t T len rest mv w' own2 G2 nb ob (orefs.set j 0) r := by
  have hno := st.sat.mid_old
  have hw := setRef_walk st.ed.ho (h.lo ho) j 0 (by rw [hno]; exact hj) (.inl rfl)
  have hz : plOf G hs bs 0 = 0 := by rw [← st.ed.pl]; exact pl_zero st.ed.ho.lay
  rw [hno, st.ed.pl, hz] at hw
  refine hw.mono ?_
  rintro e w' ⟨rfl, own2, E⟩
  exact ⟨rfl, own2, _, st.ed.trans E, st.sat.mid_clear j 0⟩
theorem StepSt.ref (h : TSt hs bs t T) (ht : TAt w own hp tp hd) (hh : (hd, t) ∈ G.hands) {wr : World} {own' : Own} {G' : Gr} (st : StepSt w own hp G hs bs t T len rest mv wr own' G' nb ob orefs r) (hsd : len < 18446744073709551616) :
    Calls Tryz.prog 73 #[.pointer (some ⟨tp, 0, none⟩)] wr (fun e w' => e = .returned (.int .u64 (plOf G hs bs t : Int)) ∧ ∃ n, w' = wr.drewN n) := by
  have := tref_walk st.ed.ho (ht.step st.ed.st) (by rw [st.ed.hands]; exact hh)
  rw [st.ed.pl] at this
  exact this
theorem StepSt.dw {wr wr2 : World} {own' : Own} {G' : Gr} (st : StepSt w own hp G hs bs t T len rest mv wr own' G' nb ob orefs r) (k : Dw wr wr2) : StepSt w own hp G hs bs t T len rest mv wr2 own' G' nb ob orefs r := ⟨st.ed.dw k, st.sat⟩
theorem StepSt.setMv (h : TSt hs bs t T) {wr : World} {own' : Own} {G' : Gr} (st : StepSt w own hp G hs bs t T len rest mv wr own' G' nb ob orefs r) (m : Nat) (hm : m ≤ 1048576) :
    Calls Tryz.prog 70 #[.pointer (some ⟨hp, 0, none⟩), .int .u64 (plOf G hs bs t : Int), .int .i64 4, .int .u64 (m : Int)] wr fun e w' => e = .returned (.int .i64 0) ∧ ∃ own2 G2, StepSt w own hp G hs bs t T len rest m w' own2 G2 nb ob orefs r := by
  have hno := st.sat.mid_tab
  have hw := setRw_walk st.ed.ho h.lt 2 4 m (by rw [hno]; show 2 < 3; decide) (by rw [hno]; rfl) (by omega)
  rw [hno, st.ed.pl] at hw
  refine hw.mono ?_
  rintro e w' ⟨rfl, own2, E⟩
  exact ⟨rfl, own2, _, st.ed.trans E, st.sat.mid_mv m⟩
theorem StepSt.drop (h : TSt hs bs t T) {wr : World} {own' : Own} {G' : Gr} (st : StepSt w own hp G hs bs t T len rest mv wr own' G' nb ob orefs []) (hob : ob.flatMap (chainL T.seed) = []) {T' : Tab} (hT' : T' = { T with nb := nb, oid := 0, ob := [], moved := 0 }) :
    Calls Tryz.prog 70 #[.pointer (some ⟨hp, 0, none⟩), .int .u64 (plOf G hs bs t : Int), .int .i64 1, .int .u64 0] wr fun e w' => e = .returned (.int .i64 0) ∧ ∃ own2 G2, Hid (Ed w own hp G hs bs w' own2 G2) ∧
      ∀ w2, Dw w' w2 → Hid (Calls Tryz.prog 70 #[.pointer (some ⟨hp, 0, none⟩), .int .u64 (plOf G hs bs t : Int), .int .i64 4, .int .u64 0] w2 fun e w3 => e = .returned (.int .i64 0) ∧ ∃ own3 G3, Ed w own hp G hs bs w3 own3 G3 ∧ Sat G3 (T'.planL t len ++ rest)) := by
  have hno := st.sat.mid_tab
  have hz : plOf G hs bs 0 = 0 := by rw [← st.ed.pl]; exact pl_zero st.ed.ho.lay
  have hw := setRef_walk st.ed.ho h.lt 1 0 (by rw [hno]; show 1 < 2; decide) (.inl rfl)
  rw [hno, st.ed.pl, hz] at hw
  refine hw.mono ?_
  rintro e w' ⟨rfl, own2, E⟩
  refine ⟨rfl, own2, _, Lib.hid (st.ed.trans E), fun w2 k => Lib.hid ?_⟩
  have E2 := (st.ed.trans E).dw k
  have hno2 : (G'.put t (Node.setRef ⟨4, [T.nid, T.oid], [T.seed, len, mv]⟩ 1 0)).node t = ⟨4, [T.nid, 0], [T.seed, len, mv]⟩ := Gr.put_same _ _ _
  have hw2 := setRw_walk E2.ho h.lt 2 4 0 (by rw [hno2]; show 2 < 3; decide) (by rw [hno2]; rfl) (by decide)
  rw [hno2, E2.pl] at hw2
  refine hw2.mono ?_
  rintro e w3 ⟨rfl, own3, E3⟩
  refine ⟨rfl, own3, _, E2.trans E3, ?_⟩
  rw [Gr.put_put]
  exact st.sat.mid_done hob hT'
theorem nil_flat {s : Nat} {l : List (List Ent)} (h : ∀ i, i < l.length → l[i]? = some []) : l.flatMap (chainL s) = [] := by
  rw [List.flatMap_eq_nil_iff]
  intro c hc
  obtain ⟨i, hi, e⟩ := List.mem_iff_getElem.1 hc
  have := h i hi
  rw [List.getElem?_eq_getElem hi, e] at this
  injection this with this
  rw [this]; rfl
def StepPost (w : World) (own : Own) (hp : Nat) (G : Gr) (hs : List Nat) (bs : List (Option Nat)) (t : Nat) (T : Tab) (rest : Plan) (e : Ending) (w' : World) : Prop :=
  e = .returned (.bool (T.oid != 0)) ∧ ∃ own' G', Ed w own hp G hs bs w' own' G' ∧ Sat G' (T.step.plan t ++ rest)
attribute [local go_sem] max2_int min2_int max_two min_two
set_option maxHeartbeats 1000000 in
set_option maxRecDepth 100000 in
theorem step_walk (H : HO w own hp G hs bs) (gl : Gl w own) (ht : TAt w own hp tp hd) (hh : (hd, t) ∈ G.hands) (h : TSt hs bs t T) (S : Sat G (T.plan t ++ rest)) (hlen : T.ents.length < 18446744073709551616) :
    Calls Tryz.prog 170 #[.pointer (some ⟨tp, 0, none⟩)] w (StepPost w own hp G hs bs t T rest) := by
  have R := h.raw S
  have O1 := own_at H ht hh R 1 (by decide)
  by_cases ho : T.oid = 0
  · have O1' : Hid (∀ n, Calls Tryz.prog 146 #[.pointer (some ⟨tp, 0, none⟩), .int .i64 1] (w.drewN n) fun e w' => e = .returned (.int .u64 0) ∧ ∃ m, w' = w.drewN m) := by
      have e1 : (T.tabN T.ents.length).at (plOf G hs bs) 1 = plOf G hs bs T.oid := rfl
      rw [e1, ho, pl_zero H.lay] at O1
      exact O1
    have hfin : Hid (∀ n, StepPost w own hp G hs bs t T rest (.returned (.bool false)) (w.drewN n)) := Lib.hid fun n => by
      refine ⟨by simp [ho], own, G, (Ed.refl H).dw ⟨n, rfl⟩, ?_⟩
      have : T.step = T := if_pos ho
      rw [this]; exact S
    clear H gl ht hh h S hlen R O1
    go_enter Tryz.func170, Tryz.ntmps170
    go_wp2_with fail
    refine (O1'.out 0).mono ?_
    rintro e w' ⟨rfl, m, rfl⟩
    go_wp2_with fail
    go_ret
    exact hfin.out m
  · have O4 := own_at H ht hh R 4 (by decide)
    have e1 : (T.tabN T.ents.length).at (plOf G hs bs) 1 = plOf G hs bs T.oid := rfl
    have e4 : (T.tabN T.ents.length).at (plOf G hs bs) 4 = T.moved := rfl
    rw [e1] at O1
    rw [e4] at O4
    have hpo := H.lay.ne0 _ (h.lo ho)
    obtain ⟨ol1, ol2, ol3⟩ := h.ok.olen ho
    have hol := pow20 ol3
    have hmv := h.ok.mv
    have SO : ∀ W, Dw w W → Calls Tryz.prog 171 #[.pointer (some ⟨tp, 0, none⟩), .int .u64 (plOf G hs bs T.oid : Int)] W fun e w' => e = .returned (.int .i64 (T.ob.length : Int)) ∧ W = w' := fun W k => by
      have := tsize_walk (H.dw k) (ht.dw k) (h.lo ho)
      rw [(R.on ho).1] at this
      have e : (arrN (T.ob.map headId)).refs.length = T.ob.length := List.length_map _
      rwa [e] at this
    have st0 : StepSt w own hp G hs bs t T T.ents.length rest T.moved w own G T.nb T.ob (T.ob.map headId) [] := ⟨Ed.refl H, by rw [← T.mid_start ho]; exact S⟩
    obtain ⟨K, hK⟩ : ∃ K, min (T.ob.length - T.moved) 16 = K := ⟨_, rfl⟩
    obtain ⟨mt, hmt⟩ : ∃ mt, T.moved + K = mt := ⟨_, rfl⟩
    have hKl : T.moved + K ≤ T.ob.length := by omega
    have HSetMv := fun W (k : Dw w W) => (st0.dw k).setMv h mt (by omega)
    have HRef0 := fun W (k : Dw w W) => (st0.dw k).ref h ht hh hlen
    have HGet : ∀ k, k < K → ∀ ik : Nat, T.moved + k = ik → ∀ wr own' G', StepSt w own hp G hs bs t T T.ents.length rest mt wr own' G' (T.nbAt k) (T.obAt k) ((T.obAt k).map headId) [] →
        Calls Tryz.prog 149 #[.pointer (some ⟨tp, 0, none⟩), .int .u64 (plOf G hs bs T.oid : Int), .int .i64 (ik : Int)] wr fun en w' => en = .returned (.int .u64 (plOf G hs bs (headId (T.ob.getD (T.moved + k) [])) : Int)) ∧ wr = w' := fun k hk ik hik wr own' G' st => by
      subst hik
      have := st.first h ho ht (T.moved + k) (by rw [List.length_map, T.obAt_len]; omega)
      have e : ((T.obAt k).map headId).getD (T.moved + k) 0 = headId (T.ob.getD (T.moved + k) []) := by
        rw [List.getD_eq_getElem?_getD, List.getElem?_map, T.obAt_get k _ (.inr (Nat.le_refl _)), List.getD_eq_getElem?_getD, List.getElem?_eq_getElem (by omega)]; rfl
      rwa [e] at this
    have HHang : ∀ k, k < K → ∀ wr own' G' dn e r', dn ++ e :: r' = T.ob.getD (T.moved + k) [] → StepSt w own hp G hs bs t T T.ents.length rest mt wr own' G' (hangAll T.nk T.seed (T.nbAt k) dn) ((T.obAt k).set (T.moved + k) []) ((T.obAt k).map headId) (e :: r') →
        plOf G hs bs e.id ≠ 0 ∧
        Hid (Calls Tryz.prog 149 #[.pointer (some ⟨tp, 0, none⟩), .int .u64 (plOf G hs bs e.id : Int), .int .i64 0] wr (fun en w' => en = .returned (.int .u64 (plOf G hs bs (headId r') : Int)) ∧ wr = w')) ∧
        Hid (Calls Tryz.prog 149 #[.pointer (some ⟨tp, 0, none⟩), .int .u64 (plOf G hs bs e.id : Int), .int .i64 3] wr (fun en w' => en = .returned (.int .u64 (e.hash T.seed : Int)) ∧ wr = w')) ∧
        Hid (Calls Tryz.prog 191 #[.pointer (some ⟨tp, 0, none⟩), .int .u64 (plOf G hs bs e.id : Int), .int .u64 (e.hash T.seed : Int)] wr fun en w' => en = .returned (.tuple #[]) ∧ ∃ own2 G2, StepSt w own hp G hs bs t T T.ents.length rest mt w' own2 G2 (hangAll T.nk T.seed (T.nbAt k) (dn ++ [e])) ((T.obAt k).set (T.moved + k) []) ((T.obAt k).map headId) r') := fun k hk wr own' G' dn e r' hd st => by
      have hgd : T.ob[T.moved + k]? = some (T.ob.getD (T.moved + k) []) := by rw [List.getD_eq_getElem?_getD, List.getElem?_eq_getElem (by omega)]; rfl
      have hmem : e ∈ T.ob.getD (T.moved + k) [] := by rw [← hd]; simp
      have he : e ∈ T.ents := List.mem_append_right _ (List.mem_flatten.2 ⟨_, List.mem_of_getElem? hgd, hmem⟩)
      have hb := h.ok.obk _ _ hgd e hmem
      obtain ⟨g0, g3⟩ := st.get0 h ht he
      refine ⟨H.lay.ne0 _ (h.le he).1, Lib.hid g0, Lib.hid g3, Lib.hid ?_⟩
      have := st.hang h ho gl ht hh (by rw [hangAll_len, T.nbAt_len]) (by rw [List.length_map, T.obAt_len]) (by omega) he (by omega)
      have ea : hang1 T.nk T.seed (hangAll T.nk T.seed (T.nbAt k) dn) e = hangAll T.nk T.seed (T.nbAt k) (dn ++ [e]) := by unfold hangAll; rw [List.foldl_append]; rfl
      rwa [ea] at this
    have HOpen : ∀ k, k < K → ∀ wr own' G', StepSt w own hp G hs bs t T T.ents.length rest mt wr own' G' (T.nbAt k) (T.obAt k) ((T.obAt k).map headId) [] →
        StepSt w own hp G hs bs t T T.ents.length rest mt wr own' G' (hangAll T.nk T.seed (T.nbAt k) []) ((T.obAt k).set (T.moved + k) []) ((T.obAt k).map headId) (T.ob.getD (T.moved + k) []) := fun k hk wr own' G' st => by
      refine ⟨st.ed, st.sat.perm ((mid_open T t _ _ _ _ _ (T.moved + k) _ ?_).append_right _)⟩
      rw [T.obAt_get k _ (.inr (Nat.le_refl _)), List.getD_eq_getElem?_getD, List.getElem?_eq_getElem (by omega)]; rfl
    have HClear : ∀ k, k < K → ∀ ik : Nat, T.moved + k = ik → ∀ wr own' G', StepSt w own hp G hs bs t T T.ents.length rest mt wr own' G' (hangAll T.nk T.seed (T.nbAt k) (T.ob.getD (T.moved + k) [])) ((T.obAt k).set (T.moved + k) []) ((T.obAt k).map headId) [] →
        Calls Tryz.prog 70 #[.pointer (some ⟨hp, 0, none⟩), .int .u64 (plOf G hs bs T.oid : Int), .int .i64 (ik : Int), .int .u64 0] wr fun e w' => e = .returned (.int .i64 0) ∧ ∃ own2 G2, StepSt w own hp G hs bs t T T.ents.length rest mt w' own2 G2 (T.nbAt (k + 1)) (T.obAt (k + 1)) ((T.obAt (k + 1)).map headId) [] := fun k hk ik hik wr own' G' st => by
      subst hik
      have := st.clear h ho (T.moved + k) (by rw [List.length_map, T.obAt_len]; omega)
      have e : ((T.obAt k).map headId).set (T.moved + k) 0 = (T.obAt (k + 1)).map headId := by
        show _ = ((T.obAt k).set (T.moved + k) []).map headId
        rw [List.map_set]; rfl
      rw [e] at this
      exact this
    have HCell : ∀ wr own' G' nb ob orefs r mv, StepSt w own hp G hs bs t T T.ents.length rest mv wr own' G' nb ob orefs r → wr.cell? ⟨tp, 0, none⟩ = some (.pointer (some ⟨hp, 0, none⟩)) := fun wr own' G' nb ob orefs r mv st => (ht.step st.ed.st).c0
    have hsteplen : T.step.ents.length = T.ents.length := (h.ok.step_ents (hashN_lt T.seed)).length_eq
    have HEnd1 : mt ≠ T.ob.length → ∀ wr own' G', StepSt w own hp G hs bs t T T.ents.length rest mt wr own' G' (T.nbAt K) (T.obAt K) ((T.obAt K).map headId) [] → StepPost w own hp G hs bs t T rest (.returned (.bool true)) wr := fun hne wr own' G' st => by
      refine ⟨by simp [ho], own', G', st.ed, ?_⟩
      have hK16 : K = 16 := by omega
      have hs : T.step = { T with nb := T.nbAt 16, ob := T.obAt 16, moved := T.moved + 16 } := by
        unfold Tab.step
        rw [if_neg ho, if_neg (by omega)]
      rw [Tab.plan_eq, hsteplen, hs, Tab.mid_start _ (by exact ho)]
      have s := st.sat
      rw [hK16] at s
      have hm16 : mt = T.moved + 16 := by omega
      rw [hm16] at s
      exact s
    have HEnd2 : mt = T.ob.length → ∀ wr own' G', StepSt w own hp G hs bs t T T.ents.length rest mt wr own' G' (T.nbAt K) (T.obAt K) ((T.obAt K).map headId) [] → ∀ w1, Dw wr w1 →
        Hid (Calls Tryz.prog 73 #[.pointer (some ⟨tp, 0, none⟩)] w1 (fun e w' => e = .returned (.int .u64 (plOf G hs bs t : Int)) ∧ ∃ n, w' = w1.drewN n)) ∧
        Hid (Calls Tryz.prog 70 #[.pointer (some ⟨hp, 0, none⟩), .int .u64 (plOf G hs bs t : Int), .int .i64 1, .int .u64 0] w1 fun e w' => e = .returned (.int .i64 0) ∧ w'.cell? ⟨tp, 0, none⟩ = some (.pointer (some ⟨hp, 0, none⟩)) ∧
          ∀ w2, Dw w' w2 → Hid (Calls Tryz.prog 73 #[.pointer (some ⟨tp, 0, none⟩)] w2 (fun e w' => e = .returned (.int .u64 (plOf G hs bs t : Int)) ∧ ∃ n, w' = w2.drewN n)) ∧
            Hid (Calls Tryz.prog 70 #[.pointer (some ⟨hp, 0, none⟩), .int .u64 (plOf G hs bs t : Int), .int .i64 4, .int .u64 0] w2 fun e w3 => e = .returned (.int .i64 0) ∧ w3.cell? ⟨tp, 0, none⟩ = some (.pointer (some ⟨hp, 0, none⟩)) ∧ Hid (StepPost w own hp G hs bs t T rest (.returned (.bool true)) w3))) := fun heq wr own' G' st w1 k => by
      have st1 := st.dw k
      refine ⟨Lib.hid (st1.ref h ht hh hlen), Lib.hid ?_⟩
      have hs : T.step = { T with nb := T.nbAt K, oid := 0, ob := [], moved := 0 } := by
        unfold Tab.step
        have : T.ob.length - T.moved = K := by omega
        rw [if_neg ho, if_pos (by omega), this]
      have hflat : (T.obAt K).flatMap (chainL T.seed) = [] := nil_flat (fun i hi => by
        rw [T.obAt_len] at hi
        rcases Nat.lt_or_ge i T.moved with hlt | hge
        · rw [T.obAt_get _ i (.inl hlt)]; exact h.ok.empt i hlt
        · exact T.obAt_none _ i hge (by omega) hi)
      refine (st1.drop h hflat hs).mono ?_
      rintro e w' ⟨rfl, own2, G2, E2, hnext⟩
      refine ⟨rfl, (ht.step E2.out.st).c0, fun w2 k2 => ⟨Lib.hid ?_, Lib.hid ?_⟩⟩
      · have := tref_walk (E2.out.dw k2).ho (ht.step (E2.out.dw k2).st) (by rw [E2.out.hands]; exact hh)
        rw [E2.out.pl] at this
        exact this
      · refine (hnext w2 k2).out.mono ?_
        rintro e w3 ⟨rfl, own3, G3, E3, S3⟩
        exact ⟨rfl, (ht.step E3.st).c0, Lib.hid ⟨by simp [ho], own3, G3, E3, by rw [Tab.plan_eq, hsteplen]; exact S3⟩⟩
    have hz : plOf G hs bs 0 = 0 := pl_zero H.lay
    have HDw : ∀ W (k : Dw w W), W.cell? ⟨tp, 0, none⟩ = some (.pointer (some ⟨hp, 0, none⟩)) := fun W k => (ht.dw k).c0
    obtain ⟨po, hpo0⟩ : ∃ po, plOf G hs bs T.oid = po := ⟨_, rfl⟩
    obtain ⟨pt, hpt⟩ : ∃ pt, plOf G hs bs t = pt := ⟨_, rfl⟩
    obtain ⟨n, hn⟩ : ∃ n, T.ob.length = n := ⟨_, rfl⟩
    obtain ⟨mv, hmv0⟩ : ∃ mv, T.moved = mv := ⟨_, rfl⟩
    rw [hpo0] at O1 SO HGet HClear hpo
    rw [hpt] at HSetMv HRef0 HEnd2
    rw [hn] at SO HEnd1 HEnd2 hKl hK hmv
    rw [hmv0] at O4 hmv hK hKl hmt
    have e0 : ((po : Int) == 0) = false := by rw [beq_eq_false_iff_ne]; omega
    have m0 : IntKind.i64.wrap (mv : Int) = (mv : Int) := Go.IntWalk.i64_in _ (by omega)
    obtain ⟨y, hy⟩ : ∃ y, mv + 16 = y := ⟨_, rfl⟩
    have m1 : IntKind.i64.wrap ((mv : Int) + 16) = (y : Int) := by rw [Go.IntWalk.i64_in _ (by omega)]; omega
    have m2 : IntKind.u64.wrap (mt : Int) = (mt : Int) := by rw [IntKind.wrap_u64]; omega
    have m3 : (if (y : Int) < (n : Int) then (y : Int) else (n : Int)) = (mt : Int) := by split <;> omega
    have m5 : (if y < n then (y : Int) else (n : Int)) = (mt : Int) := by split <;> omega
    have hmtb : mt ≤ n ∧ n ≤ 1048576 ∧ mv ≤ mt := by omega
    have HMt : Hid (mt = mv + K) := Lib.hid (by omega)
    replace O1 := Lib.hid O1; replace O4 := Lib.hid O4; replace SO := Lib.hid SO; replace HSetMv := Lib.hid HSetMv; replace HRef0 := Lib.hid HRef0; replace HGet := Lib.hid HGet; replace HHang := Lib.hid HHang; replace HOpen := Lib.hid HOpen; replace HClear := Lib.hid HClear; replace HCell := Lib.hid HCell; replace HEnd1 := Lib.hid HEnd1; replace HEnd2 := Lib.hid HEnd2; replace HDw := Lib.hid HDw; replace st0 := Lib.hid st0; replace hz := Lib.hid hz
    have HMv := Lib.hid hmv0
    clear H gl ht hh h S hlen R e1 e4 ol1 ol2 ol3 hol hpo0 hpt hn hmt hsteplen ho hmv0 hKl hK hmv hy
    go_enter Tryz.func170, Tryz.ntmps170
    go_wp2_with fail
    refine (O1.out 0).mono ?_
    rintro e w' ⟨rfl, m, rfl⟩
    go_wp2_with fail
    refine (SO.out _ ((Dw.refl w).drewN m)).mono ?_
    rintro e w' ⟨rfl, rfl⟩
    go_wp2_with fail
    refine (O4.out m).mono ?_
    rintro e w' ⟨rfl, m4, rfl⟩
    have k1 := HDw.out _ ((Dw.refl w).drewN m4)
    have k2 := HDw.out _ ((Dw.refl w).drewN m4).drew
    go_wp2_with fail
    go_region_held3 (fun W => W.cell? ⟨tp, 0, none⟩ = some (.pointer (some ⟨hp, 0, none⟩))) (first | assumption | exact HDw.out _ ⟨_, rfl⟩) (first | (go_at_call 73; refine Calls.mono (HRef0.out _ ?_) ?_; (exact ⟨_, rfl⟩); rintro e w2 ⟨rfl, m5, rfl⟩) | (go_at_call 70; refine Calls.mono (HSetMv.out _ ?_) ?_; (exact ⟨_, rfl⟩); rintro e w2 ⟨rfl, own2, G2, h2⟩; have E2 := Lib.hid h2; have k3 := HCell.out _ _ _ _ _ _ _ _ h2; clear h2))
    all_goals (try (go_wp2_with fail))
    go_loopw [7] (fun v7 wr => ∃ k : Nat, k ≤ K ∧ v7 = .int .i64 ((mv + k : Nat) : Int) ∧ Hid (∃ own' G', StepSt w own hp G hs bs t T T.ents.length rest mt wr own' G' (T.nbAt k) (T.obAt k) ((T.obAt k).map headId) [])) (fun v7 _ => mt - (intOf v7).toNat)
    case atStart => exact ⟨0, Nat.zero_le _, rfl, Lib.hid ⟨own2, G2, E2.out⟩⟩
    case round =>
      obtain ⟨k, hk, rfl, HS⟩ := hrel
      by_cases hlt : k < K
      · have hmt2 := HMt.out
        obtain ⟨ik, hik⟩ : ∃ ik, mv + k = ik := ⟨_, rfl⟩
        have hii : ik < mt := by omega
        have HG := HGet.out k hlt ik (by rw [HMv.out]; exact hik)
        have HC := HClear.out k hlt ik (by rw [HMv.out]; exact hik)
        obtain ⟨own3, G3, st3⟩ := HS.out
        have HG3 := Lib.hid (HG wr own3 G3 st3)
        have k3 := HCell.out _ _ _ _ _ _ _ _ st3
        have HOp := Lib.hid (HOpen.out k hlt wr own3 G3 st3)
        have HHg := Lib.hid (HHang.out k hlt)
        have HC3 := Lib.hid HC
        rw [hik]
        have HIk := Lib.hid hik
        obtain ⟨L, hL⟩ : ∃ L, T.ob.getD (T.moved + k) [] = L := ⟨_, rfl⟩
        rw [hL] at HG3 HOp HHg HC3
        clear HS st3 HG HC hmt2 hik hL
        go_wp2_with fail
        refine HG3.out.mono ?_
        rintro e w' ⟨rfl, rfl⟩
        obtain ⟨wo, rfl⟩ : ∃ wo : World, wo = wr := ⟨_, rfl⟩
        go_wp2_with fail
        go_loopg [8] L.length (fun gq v8 wr => ∃ (dn r : List Ent) (own' : Own) (G' : Gr), v8 = .int .u64 (plOf G hs bs (headId r) : Int) ∧ Hid (StepSt w own hp G hs bs t T T.ents.length rest mt wr own' G' (hangAll T.nk T.seed (T.nbAt k) dn) ((T.obAt k).set (T.moved + k) []) ((T.obAt k).map headId) r) ∧ Hid (dn ++ r = L) ∧ Hid (r.length = gq))
        case atStart => exact ⟨[], L, own3, G3, rfl, HOp, Lib.hid rfl, Lib.hid rfl⟩
        case round =>
          obtain ⟨dn, r, own4, G4, rfl, HSt, HDn, HLn⟩ := hrel
          cases r with
          | nil =>
            have hz0 : plOf G hs bs (headId ([] : List Ent)) = 0 := hz.out
            have hdn : dn = L := by rw [← HDn.out, List.append_nil]
            have hst := HSt.out
            rw [hdn] at hst
            have k4 := HCell.out _ _ _ _ _ _ _ _ hst
            have HC4 := Lib.hid (HC3.out wr own4 G4 hst)
            rw [hz0]
            clear hst HSt HDn hdn HLn
            go_wp2_with fail
            refine HC4.out.mono ?_
            rintro e w5 ⟨rfl, own5, G5, st5⟩
            have ST5 := Lib.hid st5
            clear st5
            go_wp2_with fail
            have hik := HIk.out
            exact ⟨⟨k + 1, by omega, by go_num, Lib.hid ⟨own5, G5, ST5.out⟩⟩, by simp [intOf]; omega⟩
          | cons e r' =>
            obtain ⟨p0, p1, p2, p3⟩ := HHg.out wr own4 G4 dn e r' HDn.out HSt.out
            have hd0 : headId (e :: r') = e.id := rfl
            rw [hd0]
            have hx1 := hashN_lt T.seed e.key
            obtain ⟨pe, hpe⟩ : ∃ pe, plOf G hs bs e.id = pe := ⟨_, rfl⟩
            obtain ⟨pr, hpr⟩ : ∃ pr, plOf G hs bs (headId r') = pr := ⟨_, rfl⟩
            obtain ⟨hx, hhx⟩ : ∃ hx, e.hash T.seed = hx := ⟨_, rfl⟩
            rw [hpe] at p0 p1 p2 p3
            rw [hpr] at p1
            rw [hhx] at p2 p3
            rw [hpe]
            have c0 : ((pe : Int) == 0) = false := by rw [beq_eq_false_iff_ne]; omega
            have HPr := Lib.hid hpr
            clear hpr hpe hhx HSt p0
            go_wp2_with fail
            refine p1.out.mono ?_
            rintro e1 w' ⟨rfl, rfl⟩
            go_wp2_with fail
            refine p2.out.mono ?_
            rintro e1 w' ⟨rfl, rfl⟩
            go_wp2_with fail
            refine p3.out.mono ?_
            rintro e1 w6 ⟨rfl, own6, G6, st6⟩
            have ST6 := Lib.hid st6
            clear st6
            go_wp2_with fail
            go_roundg r'.length
            case measure => rw [← HLn.out]; simp
            case rel => exact ⟨dn ++ [e], r', own6, G6, by rw [HPr.out], ST6, Lib.hid (by rw [← HDn.out]; simp), Lib.hid rfl⟩
      · obtain rfl : k = K := by omega
        have hmt2 := HMt.out
        rw [← hmt2]
        obtain ⟨own3, G3, st3⟩ := HS.out
        have k3 := HCell.out _ _ _ _ _ _ _ _ st3
        by_cases hq : mt = n
        · have c1 : ((mt : Int) == (n : Int)) = true := by rw [beq_iff_eq]; omega
          have HE := Lib.hid (HEnd2.out hq wr own3 G3 st3)
          have HD3 : Hid (∀ W, Dw wr W → W.cell? ⟨tp, 0, none⟩ = some (.pointer (some ⟨hp, 0, none⟩))) := Lib.hid fun W kk => HCell.out _ _ _ _ _ _ _ _ (st3.dw kk)
          clear HS st3 hmt2 hq
          go_wp2_with fail
          go_region_held3 (fun W => W.cell? ⟨tp, 0, none⟩ = some (.pointer (some ⟨hp, 0, none⟩))) (first | assumption | exact HD3.out _ ⟨_, rfl⟩) (first | (go_at_call 73; refine Calls.mono (HE.out _ ?_).1.out ?_; (exact ⟨_, rfl⟩); rintro e w2 ⟨rfl, m5, rfl⟩) | (go_at_call 70; refine Calls.mono (HE.out _ ?_).2.out ?_; (exact ⟨_, rfl⟩); rintro e w5 ⟨rfl, k5, h5⟩; have HF := Lib.hid h5; clear h5))
          all_goals (try (go_wp2_with fail))
          have HD5 : Hid (∀ W, Dw w5 W → W.cell? ⟨tp, 0, none⟩ = some (.pointer (some ⟨hp, 0, none⟩))) := Lib.hid fun W kk => by obtain ⟨n, rfl⟩ := kk; exact k5
          go_region_held3 (fun W => W.cell? ⟨tp, 0, none⟩ = some (.pointer (some ⟨hp, 0, none⟩))) (first | assumption | exact HD5.out _ ⟨_, rfl⟩) (first | (go_at_call 73; refine Calls.mono (HF.out _ ?_).1.out ?_; (exact ⟨_, rfl⟩); rintro e w2 ⟨rfl, m6, rfl⟩) | (go_at_call 70; refine Calls.mono (HF.out _ ?_).2.out ?_; (exact ⟨_, rfl⟩); rintro e w6 ⟨rfl, k6, h6⟩; have HL6 := Lib.hid h6.out; clear h6))
          all_goals (try (go_wp2_with fail))
          go_ret
          exact HL6.out
        · have c1 : ((mt : Int) == (n : Int)) = false := by rw [beq_eq_false_iff_ne]; omega
          have HE := Lib.hid (HEnd1.out hq wr own3 G3 st3)
          clear HS st3 hmt2
          go_wp2_with fail
          go_ret
          exact HE.out
end
end Go.Proofs.YtglglknhifjbaaaGreatDoor.Sp
