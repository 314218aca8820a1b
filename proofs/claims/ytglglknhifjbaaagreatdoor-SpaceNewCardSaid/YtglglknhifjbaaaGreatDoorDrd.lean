import Derived.Test.YtglglknhifjbaaaGreatDoorTwf
namespace Go.Proofs.YtglglknhifjbaaaGreatDoor.Sp
open Go.RowKit Go.Proofs.YtglglknhifjbaaaGreatDoorW.PrintWords Go.Proofs.YtglglknhifjbaaaGreatDoorW.PrintLast Go.Proofs.YtglglknhifjbaaaGreatDoorW.PrintMore
set_option linter.unusedVariables false
set_option linter.unusedSimpArgs false
structure Wr (w : World) (own : Own) (hp : Nat) (G : Gr) (w' : World) (own' : Own) (G' : Gr) (hs' : List Nat) (bs' : List (Option Nat)) : Prop where
  ho : HO w' own' hp G' hs' bs'
  st : HStep w own w' own'
  hands : G'.hands = G.hands
  next : G.next ≤ G'.next
  limit : G'.limit = G.limit
section
variable {w w1 w2 W : World} {own own1 own2 : Own} {hp : Nat} {G G1 G2 : Gr} {hs hs1 hs2 : List Nat} {bs bs1 bs2 : List (Option Nat)} {i tp hd t len : Nat} {T : Tab} {rest : Plan}
theorem Ed.wr (h : Ed w own hp G hs bs w1 own1 G1) : Wr w own hp G w1 own1 G1 hs bs := ⟨h.ho, h.st, h.hands, Nat.le_of_eq h.next.symm, h.limit⟩
theorem Wr.trans (h : Wr w own hp G w1 own1 G1 hs1 bs1) (k : Wr w1 own1 hp G1 w2 own2 G2 hs2 bs2) : Wr w own hp G w2 own2 G2 hs2 bs2 :=
  ⟨k.ho, h.st.trans k.st, k.hands.trans h.hands, Nat.le_trans h.next k.next, k.limit.trans h.limit⟩
theorem Wr.dw (h : Wr w own hp G w1 own1 G1 hs1 bs1) (k : Dw w1 w2) : Wr w own hp G w2 own1 G1 hs1 bs1 := by
  obtain ⟨n, rfl⟩ := k
  exact ⟨h.ho.drewN n, h.st.trans (HStep.drewN n), h.hands, h.next, h.limit⟩
theorem new_arr (n : Nat) : Node.new 5 n 0 = arrN (List.replicate n 0) := rfl
def BegTPost (w : World) (own : Own) (hp : Nat) (G : Gr) (t : Nat) (T : Tab) (rest : Plan) (k : Nat) (e : Ending) (w' : World) : Prop :=
  e = .returned (.tuple #[]) ∧ ∃ own' G' hs' bs', Wr w own hp G w' own' G' hs' bs' ∧
    ((Sat G' (T.plan t ++ rest) ∧ (T.oid = 0 → ¬ G.room (1 + 2 ^ k))) ∨ (T.oid = 0 ∧ ∃ id, Sat G' ((T.beg id k).plan t ++ rest)))
set_option maxHeartbeats 1000000 in
set_option maxRecDepth 100000 in
theorem tbegin_walk (H : HO w own hp G hs bs) (ht : TAt w own hp tp hd) (hh : (hd, t) ∈ G.hands) (hT : T.Ok) (S : Sat G (T.plan t ++ rest)) (k : Nat) (hk : 2 ≤ k ∧ k ≤ 20) (hlen : T.ents.length < 18446744073709551616) :
    Calls Tryz.prog 172 #[.pointer (some ⟨tp, 0, none⟩), .int .i64 ((2 ^ k : Nat) : Int)] w (BegTPost w own hp G t T rest k) := by
  have h := TSt.of H hh hT S
  have O1 := own_at H ht hh (h.raw S) 1 (by decide)
  have e1 : (T.tabN T.ents.length).at (plOf G hs bs) 1 = plOf G hs bs T.oid := rfl
  rw [e1] at O1
  by_cases ho : T.oid = 0
  · rw [ho, pl_zero H.lay] at O1
    have hcn := pow20 hk.2
    have hn0 : T.nid ≠ 0 := H.live_ne _ h.ln
    have HA : Hid (∀ W, Dw w W → Calls Tryz.prog 69 #[.pointer (some ⟨hp, 0, none⟩), .int .i64 5, .int .i64 ((2 ^ k : Nat) : Int), .int .i64 0] W fun e w1 =>
        (e = .returned (.tuple #[.int .u64 0, .int .i64 31]) ∧ Hid (BegTPost w own hp G t T rest k (.returned (.tuple #[])) w1)) ∨
        (∃ px pt pn : Nat, e = .returned (.tuple #[.int .u64 (px : Int), .int .i64 0]) ∧ (∀ W1, Dw w1 W1 → W1.cell? ⟨tp, 0, none⟩ = some (.pointer (some ⟨hp, 0, none⟩))) ∧
          Hid (∀ W1, Dw w1 W1 → Calls Tryz.prog 73 #[.pointer (some ⟨tp, 0, none⟩)] W1 fun e w' => e = .returned (.int .u64 (pt : Int)) ∧ ∃ n, w' = W1.drewN n) ∧
          Hid (∀ W1, Dw w1 W1 → Calls Tryz.prog 146 #[.pointer (some ⟨tp, 0, none⟩), .int .i64 0] W1 fun e w' => e = .returned (.int .u64 (pn : Int)) ∧ ∃ n, w' = W1.drewN n) ∧
          Hid (∀ W1, Dw w1 W1 → Calls Tryz.prog 70 #[.pointer (some ⟨hp, 0, none⟩), .int .u64 (pt : Int), .int .i64 1, .int .u64 (pn : Int)] W1 fun e w2 => e = .returned (.int .i64 0) ∧ (∀ W2, Dw w2 W2 → W2.cell? ⟨tp, 0, none⟩ = some (.pointer (some ⟨hp, 0, none⟩))) ∧
            Hid (∀ W2, Dw w2 W2 → Calls Tryz.prog 73 #[.pointer (some ⟨tp, 0, none⟩)] W2 fun e w' => e = .returned (.int .u64 (pt : Int)) ∧ ∃ n, w' = W2.drewN n) ∧
            Hid (∀ W2, Dw w2 W2 → Calls Tryz.prog 70 #[.pointer (some ⟨hp, 0, none⟩), .int .u64 (pt : Int), .int .i64 0, .int .u64 (px : Int)] W2 fun e w3 => e = .returned (.int .i64 0) ∧ (∀ W3, Dw w3 W3 → W3.cell? ⟨tp, 0, none⟩ = some (.pointer (some ⟨hp, 0, none⟩))) ∧
              Hid (∀ W3, Dw w3 W3 → Calls Tryz.prog 73 #[.pointer (some ⟨tp, 0, none⟩)] W3 fun e w' => e = .returned (.int .u64 (pt : Int)) ∧ ∃ n, w' = W3.drewN n) ∧
              Hid (∀ W3, Dw w3 W3 → Calls Tryz.prog 70 #[.pointer (some ⟨hp, 0, none⟩), .int .u64 (pt : Int), .int .i64 4, .int .u64 0] W3 fun e w4 => e = .returned (.int .i64 0) ∧ w4.cell? ⟨tp, 0, none⟩ = some (.pointer (some ⟨hp, 0, none⟩)) ∧ Hid (BegTPost w own hp G t T rest k (.returned (.tuple #[])) w4)))))) := Lib.hid fun W kW => by
      refine (hAllocO_walk (H.dw kW) 5 (2 ^ k) 0 (bktShape _ hcn)).mono ?_
      rintro e w1 ⟨own1, hs1, bs1, st1, hkeep, ⟨rfl, H1, hlx⟩ | ⟨rfl, H1, hnr⟩⟩
      · right
        have st1' : HStep w own w1 own1 := (HStep.dw own kW).trans st1
        rw [new_arr] at H1 ⊢
        obtain ⟨G1, hG1⟩ : ∃ G1, G.add (arrN (List.replicate (2 ^ k) 0)) = G1 := ⟨_, rfl⟩
        have S1 : Sat G1 ((G.next, .node (arrN (List.replicate (2 ^ k) 0))) :: (T.plan t ++ rest)) := by rw [← hG1]; exact S.more H.lay.nx _ _ rfl
        have hh1 : G1.hands = G.hands := by rw [← hG1]; rfl
        have hnx1 : G1.next = G.next + 1 := by rw [← hG1]; rfl
        have hlm1 : G1.limit = G.limit := by rw [← hG1]; rfl
        rw [hG1] at H1 ⊢
        have hh1' : (hd, t) ∈ G1.hands := by rw [hh1]; exact hh
        have ht1 : TAt w1 own1 hp tp hd := ht.step st1'
        have h1 := TSt.of H1 hh1' hT S1.tail
        have tn1 : G1.node t = T.tabN T.ents.length := Sat.tab S1.tail
        refine ⟨_, plOf G1 hs1 bs1 t, plOf G1 hs1 bs1 T.nid, rfl, fun W1 k1 => (ht1.dw k1).c0, Lib.hid fun W1 k1 => tref_walk (H1.dw k1) (ht1.dw k1) hh1', Lib.hid fun W1 k1 => ?_, Lib.hid fun W1 k1 => ?_⟩
        · have := town_walk (H1.dw k1) (ht1.dw k1) hh1' h1.lt 0 (by rw [tn1]; show 0 < 2 + 3; decide)
          rw [tn1] at this
          exact this
        · have s1 := setRef_walk (H1.dw k1) h1.lt 1 T.nid (by rw [tn1]; show 1 < 2; decide) (.inr h1.ln)
          rw [tn1] at s1
          refine s1.mono ?_
          rintro e w2 ⟨rfl, own2, E2⟩
          have ht2 := (ht1.dw k1).step E2.st
          have hh2 : (hd, t) ∈ (G1.put t ((T.tabN T.ents.length).setRef 1 T.nid)).hands := hh1'
          refine ⟨rfl, fun W2 k2 => (ht2.dw k2).c0, Lib.hid fun W2 k2 => ?_, Lib.hid fun W2 k2 => ?_⟩
          · have := tref_walk (E2.ho.dw k2) (ht2.dw k2) hh2
            rw [E2.pl] at this
            exact this
          · have E2' := E2.dw k2
            have tn2 : (G1.put t ((T.tabN T.ents.length).setRef 1 T.nid)).node t = (T.tabN T.ents.length).setRef 1 T.nid := Gr.put_same _ _ _
            have s2 := setRef_walk E2'.ho h1.lt 0 G.next (by rw [tn2]; show 0 < 2; decide) (.inr hlx)
            rw [tn2, E2'.pl, Gr.put_put] at s2
            refine s2.mono ?_
            rintro e w3 ⟨rfl, own3, E3⟩
            have E13 := E2'.trans E3
            have ht3 := (ht1.dw k1).step E13.st
            refine ⟨rfl, fun W3 k3 => (ht3.dw k3).c0, Lib.hid fun W3 k3 => ?_, Lib.hid fun W3 k3 => ?_⟩
            · have := tref_walk (E13.ho.dw k3) (ht3.dw k3) (by rw [E13.hands]; exact hh1')
              rw [E13.pl] at this
              exact this
            · have E3' := E13.dw k3
              have tn3 : (G1.put t (((T.tabN T.ents.length).setRef 1 T.nid).setRef 0 G.next)).node t = ((T.tabN T.ents.length).setRef 1 T.nid).setRef 0 G.next := Gr.put_same _ _ _
              have s3 := setRw_walk E3'.ho h1.lt 2 4 0 (by rw [tn3]; show 2 < 3; decide) (by rw [tn3]; rfl) (by decide)
              rw [tn3, E3'.pl, Gr.put_put] at s3
              refine s3.mono ?_
              rintro e w4 ⟨rfl, own4, E4⟩
              have E14 := E3'.trans E4
              refine ⟨rfl, ((ht1.dw k1).step E14.st).c0, Lib.hid ⟨rfl, own4, _, hs1, bs1, ⟨E14.ho, (st1'.trans (HStep.dw own1 k1)).trans E14.st, E14.hands.trans hh1, by rw [E14.next, hnx1]; omega, E14.limit.trans hlm1⟩, .inr ⟨ho, G.next, ?_⟩⟩⟩
              rw [Tab.plan_eq, hT.beg_ents ho]
              exact Sat.beg S1 hT ho hn0
      · exact .inl ⟨rfl, Lib.hid ⟨rfl, own1, G, hs1, bs1, ⟨H1, (HStep.dw own kW).trans st1, rfl, Nat.le_refl _, rfl⟩, .inl ⟨S, fun _ => by rw [show 1 + 2 ^ k = 1 + 2 ^ k + 0 by omega]; exact hnr⟩⟩⟩
    have k0 := fun W (kk : Dw w W) => (ht.dw kk).c0
    obtain ⟨n, hn⟩ : ∃ n, 2 ^ k = n := ⟨_, rfl⟩
    replace O1 := Lib.hid O1; replace k0 := Lib.hid k0
    have kw := k0.out w (Dw.refl w)
    rw [hn]
    rw [hn] at HA
    clear H ht hh h hT S ho hk hlen e1 hcn hn0 hn
    go_enter Tryz.func172, Tryz.ntmps172
    go_wp2_with fail
    refine (O1.out 0).mono ?_
    rintro e w' ⟨rfl, m, rfl⟩
    have km := k0.out (w.drewN m) ⟨_, rfl⟩
    go_wp2_with fail
    refine (HA.out _ ⟨_, rfl⟩).mono ?_
    rintro e w1 (⟨rfl, HQ⟩ | ⟨px, pt, pn, rfl, kc1, HR1, HO1, HS1⟩)
    · go_wp2_with fail
      first | go_end0 | refine bodyPost_ret (results_none rfl _ _ _) rfl ?_
      exact HQ.out
    · replace kc1 := Lib.hid kc1
      have kc1a := kc1.out w1 (Dw.refl _)
      go_wp2_with fail
      go_region_held3 (fun W => W.cell? ⟨tp, 0, none⟩ = some (.pointer (some ⟨hp, 0, none⟩))) (first | assumption | exact kc1.out _ ⟨_, rfl⟩) (first | (go_at_call 73; refine Calls.mono (HR1.out _ ?_) ?_; (exact ⟨_, rfl⟩); rintro e w2 ⟨rfl, m5, rfl⟩) | (go_at_call 146; refine Calls.mono (HO1.out _ ?_) ?_; (exact ⟨_, rfl⟩); rintro e w2 ⟨rfl, m6, rfl⟩) | (go_at_call 70; refine Calls.mono (HS1.out _ ?_) ?_; (exact ⟨_, rfl⟩); rintro e w2 ⟨rfl, kc2, HR2, HS2⟩; replace kc2 := Lib.hid kc2; have kc2a := kc2.out w2 (Dw.refl _)))
      all_goals (try (go_wp2_with fail))
      all_goals (go_region_held3 (fun W => W.cell? ⟨tp, 0, none⟩ = some (.pointer (some ⟨hp, 0, none⟩))) (first | assumption | exact kc2.out _ ⟨_, rfl⟩) (first | (go_at_call 73; refine Calls.mono (HR2.out _ ?_) ?_; (exact ⟨_, rfl⟩); rintro e w3 ⟨rfl, m7, rfl⟩) | (go_at_call 70; refine Calls.mono (HS2.out _ ?_) ?_; (exact ⟨_, rfl⟩); rintro e w3 ⟨rfl, kc3, HR3, HS3⟩; replace kc3 := Lib.hid kc3; have kc3a := kc3.out w3 (Dw.refl _))))
      all_goals (try (go_wp2_with fail))
      all_goals (go_region_held3 (fun W => W.cell? ⟨tp, 0, none⟩ = some (.pointer (some ⟨hp, 0, none⟩))) (first | assumption | exact kc3.out _ ⟨_, rfl⟩) (first | (go_at_call 73; refine Calls.mono (HR3.out _ ?_) ?_; (exact ⟨_, rfl⟩); rintro e w4 ⟨rfl, m8, rfl⟩) | (go_at_call 70; refine Calls.mono (HS3.out _ ?_) ?_; (exact ⟨_, rfl⟩); rintro e w4 ⟨rfl, kc4, HQ⟩)))
      all_goals (try (go_wp2_with fail))
      all_goals (first | go_end0 | refine bodyPost_ret (results_none rfl _ _ _) rfl ?_)
      all_goals exact HQ.out
  · have hpo := H.lay.ne0 _ (h.lo ho)
    have hq : Hid (∀ n, BegTPost w own hp G t T rest k (.returned (.tuple #[])) (w.drewN n)) := Lib.hid fun n => ⟨rfl, own, G, hs, bs, ((Ed.refl H).dw ⟨n, rfl⟩).wr, .inl ⟨S, fun e => absurd e ho⟩⟩
    obtain ⟨n, hn⟩ : ∃ n, 2 ^ k = n := ⟨_, rfl⟩
    obtain ⟨po, hpo0⟩ : ∃ po, plOf G hs bs T.oid = po := ⟨_, rfl⟩
    rw [hpo0] at O1 hpo
    replace O1 := Lib.hid O1
    rw [hn]
    have e0 : ((po : Int) == 0) = false := by rw [beq_eq_false_iff_ne]; omega
    clear H ht hh h hT S ho hk hlen e1 hn hpo0
    go_enter Tryz.func172, Tryz.ntmps172
    go_wp2_with fail
    refine (O1.out 0).mono ?_
    rintro e w' ⟨rfl, m, rfl⟩
    go_wp2_with fail
    first | go_end0 | refine bodyPost_ret (results_none rfl _ _ _) rfl ?_
    exact hq.out m
end
end Go.Proofs.YtglglknhifjbaaaGreatDoor.Sp
namespace Go.Proofs.YtglglknhifjbaaaGreatDoor.Sp
open Go.RowKit Go.Proofs.YtglglknhifjbaaaGreatDoorW.PrintWords Go.Proofs.YtglglknhifjbaaaGreatDoorW.PrintLast Go.Proofs.YtglglknhifjbaaaGreatDoorW.PrintMore
set_option linter.unusedVariables false
set_option linter.unusedSimpArgs false
section
variable {w w1 w2 W : World} {own own1 own2 : Own} {hp : Nat} {G G1 G2 : Gr} {hs hs1 hs2 : List Nat} {bs bs1 bs2 : List (Option Nat)}
theorem LayPost.pre {b : List Nat} {e : Ending} {w' : World} (h : LayPost w1 own hp G b e w') (hst : HStep w own w1 own) : LayPost w own hp G b e w' := by
  obtain ⟨own', hs', bs', h1, h2, h3⟩ := h
  exact ⟨own', hs', bs', hst.trans h1, h2, h3⟩
theorem hasB_srcH {A : Option Addr} {k : List Int} (hk : IsB k) (h : HasB w A k) (h0 : ∀ g o, A = some ⟨g, o, none⟩ → own g = 0) : SrcH w own A (natsOf k) := fun hl => by
  obtain ⟨g, o, e, h1, h2⟩ := (srcB_ints hk).2 h hl
  exact ⟨g, o, e, h0 g o e, h1, h2⟩
set_option maxHeartbeats 1000000 in
set_option maxRecDepth 100000 in
theorem bNew_walk (H : HO w own hp G hs bs) (g0 cp : Nat) (A : Option Addr) (k : List Int) (c : Nat) (hk : IsB k) (hc : w.cell? ⟨g0, 0, none⟩ = some (.slice A k.length c)) (hA : HasB w A k) (hl : k.length ≤ 4096) :
    Calls Tryz.prog 133 #[.pointer (some ⟨hp, 0, none⟩), .slice (some ⟨g0, 0, none⟩) 1 cp] w (LayPost w own hp G (natsOf k)) := by
  have hg0 : g0 < w.heap.size := by
    unfold World.cell? at hc
    cases e : w.heap[g0]? with
    | none => simp [e] at hc
    | some o => exact blk_lt e
  obtain ⟨n, hn⟩ : ∃ n, k.length = n := ⟨_, rfl⟩
  have hmk : ∀ w : World, (Instr.makeSlice 53 (.int .i64 (n : Int)) (.int .i64 (n : Int))).run Tryz.prog w = .ok (.slice (some ⟨w.heap.size, 0, none⟩) n n) (w.alloc (.cells (u8s (List.replicate n 0)).toArray 5)) := fun w => by
    have := run_make_row' (P := Tryz.prog) 53 5 (.int .u8 0) 1 Tryz.underlying53 (by kernel_rfl) rfl .i64 .i64 n (by omega) (by omega) w
    rw [show madeCells #[Value.int .u8 0] n = (u8s (List.replicate n 0)).toArray by
      rw [← Array.toArray_toList (xs := madeCells _ _), toList_madeCells_one]
      simp [u8s]] at this
    exact this
  have HLay : Hid (∀ W g, Below w.heap.size w W → w.heap.size ≤ g → W.heap[g]? = some (.cells (u8s k).toArray 5 (0, 0)) → Calls Tryz.prog 184 #[.pointer (some ⟨hp, 0, none⟩), .slice (some ⟨g, 0, none⟩) n n] W (LayPost w own hp G (natsOf k))) := Lib.hid fun W g hb hg hh => by
    have HW := H.below hb
    have := lay_walk HW (some ⟨g, 0, none⟩) (natsOf k) n (natsOf_lt hk) (hasB_srcH hk (hasB_new hh) (fun g' o e => by
      injection e with e; injection e with e1; subst e1
      exact H.top g hg)) (by rw [natsOf_len]; exact hl)
    rw [natsOf_len, hn] at this
    exact this.mono fun e w' hq => hq.pre (HStep.below own hb)
  have HSrc : Hid (∀ W, Below w.heap.size w W → 0 < n → ∃ ad, A = some ad ∧ ∀ j v, (u8s k)[j]? = some v → W.cell? (ad.add j) = some v) := Lib.hid fun W hb h0 => by
    obtain ⟨g, o, e, h1, h2⟩ := (hA.below hb) (by omega)
    refine ⟨_, e, fun j v hj => ?_⟩
    obtain ⟨hjl, hv⟩ := List.getElem?_eq_some_iff.1 hj
    have hjk : j < k.length := by rw [← u8s_len]; exact hjl
    have e2 : (⟨g, o, none⟩ : Addr).add j = ⟨g, o + j, none⟩ := by unfold Addr.add; split <;> simp_all
    rw [e2, h2 j hjk, ← hv]
    simp [u8s]
  have HPart : Hid (∀ W, Below w.heap.size w W → W.cell? ⟨g0, 0, none⟩ = some (.slice A n c)) := Lib.hid fun W hb => by rw [hb.cell hg0, hc, hn]
  have hlen : (u8s k).length = n := by rw [u8s_len, hn]
  have HK := Lib.hid hlen
  rw [hn] at hc hl
  have hd : decide ((4096 : Int) < (n : Int)) = false := decide_eq_false (by omega)
  have ew : IntKind.i64.wrap (n : Int) = (n : Int) := Go.IntWalk.i64_in _ (by omega)
  clear H hA hk hn hg0 hlen
  go_enter Tryz.func133, Tryz.ntmps133
  go_wp2_with fail
  go_loop [15, 6] (fun v15 v6 => (v15 = .int .i64 0 ∧ v6 = .int .i64 0) ∨ (v15 = .int .i64 1 ∧ v6 = .int .i64 (n : Int))) (fun v15 _ => 1 - (intOf v15).toNat)
  case atStart => exact .inl ⟨rfl, rfl⟩
  case round =>
    rcases hrel with ⟨rfl, rfl⟩ | ⟨rfl, rfl⟩
    · go_wp2_with fail
      exact ⟨.inr ⟨rfl, rfl⟩, by simp [intOf]⟩
    · go_wp2_with fail
      have hb0 : Below w.heap.size w (w.alloc (.cells (u8s (List.replicate n 0)).toArray 5)) := Below.alloc (Below.refl _ _) (Nat.le_refl _) _
      have hnew : (w.alloc (.cells (u8s (List.replicate n 0)).toArray 5)).heap[w.heap.size]? = some (.cells (u8s (List.replicate n 0)).toArray 5 (0, 0)) := by rw [alloc_at, if_pos rfl]
      obtain ⟨N, hN⟩ : ∃ N, w.heap.size = N := ⟨_, rfl⟩
      rw [hN] at hb0 hnew HLay HSrc HPart ⊢
      replace hb0 := Lib.hid hb0; replace hnew := Lib.hid hnew; replace hN := Lib.hid hN
      clear hmk
      go_loopw [30, 10] (fun v30 v10 wr => (v30 = .int .i64 0 ∧ v10 = .int .i64 0 ∧ Hid (wr.heap[N]? = some (.cells (u8s (List.replicate n 0)).toArray 5 (0, 0)) ∧ Below N w wr)) ∨ (v30 = .int .i64 1 ∧ v10 = .int .i64 (n : Int) ∧ Hid (wr.heap[N]? = some (.cells (u8s k).toArray 5 (0, 0)) ∧ Below N w wr))) (fun v30 _ _ => 1 - (intOf v30).toNat)
      case atStart => exact .inl ⟨rfl, rfl, Lib.hid ⟨hnew.out, hb0.out⟩⟩
      case round =>
        rcases hrel with ⟨rfl, rfl, HR⟩ | ⟨rfl, rfl, HR⟩
        · have hp1 := HPart.out wr HR.out.2
          go_wp2_with ((with_reducible refine gate_dst (N := 39) rfl ?_); refine halt ?_)
          refine unhalt ?_
          refine wpList_copy_splice rfl _ _ 53 53 rfl 5 Tryz.underlying53 sizeU8 _ _ _ _ _ _ rfl rfl N 0 (u8s (List.replicate n 0)) 5 HR.out.1 (u8s k) (by rw [HK.out]; exact (Nat.min_self _).symm) (fun hp => ?_) (by rw [HK.out]; simp [u8s]) (u8s_one k) N w HR.out.2 (Nat.le_refl _) ?_
          · obtain ⟨ad, rfl, hs⟩ := HSrc.out wr HR.out.2 (by rw [HK.out] at hp; exact hp)
            exact ⟨rfl, ad, rfl, hs⟩
          · intro w2 hg2 hb2
            have hw2 : w2.heap[N]? = some (.cells (u8s k).toArray 5 (0, 0)) := by
              rw [hg2]
              have := splice_zero (cur := u8s (List.replicate n 0)) (cs := u8s k)
              have hl2 := length_splice (u8s (List.replicate n 0)) 0 (u8s k) (by rw [HK.out]; simp [u8s])
              rw [List.take_of_length_le (by rw [hl2, HK.out]; simp [u8s])] at this
              rw [this]
            have H2 := Lib.hid (And.intro hw2 hb2)
            clear hw2 hg2 hb2
            go_wp2_with fail
            have hwl : wrap64 ((u8s k).length : Int) = (n : Int) := by rw [HK.out]; exact Go.IntWalk.wrap64_in _ (by omega)
            exact ⟨.inr ⟨rfl, by rw [hwl], H2⟩, by simp [intOf]⟩
        · have HLy := Lib.hid (HLay.out wr N HR.out.2 (Nat.le_refl _) HR.out.1)
          go_wp2_with fail
          refine HLy.out.mono ?_
          intro e w' hq
          have hform : ∃ p q : Nat, e = .returned (.tuple #[.int .u64 (p : Int), .int .i64 (q : Int)]) := by
            obtain ⟨own', hs', bs', _, _, ⟨rfl, _⟩ | ⟨rfl, _⟩⟩ := hq
            · exact ⟨_, 0, rfl⟩
            · exact ⟨0, 31, rfl⟩
          obtain ⟨p, q, rfl⟩ := hform
          replace hq := Lib.hid hq
          go_wp2_with fail
          go_ret2
          exact hq.out
end
end Go.Proofs.YtglglknhifjbaaaGreatDoor.Sp
namespace Go.Proofs.YtglglknhifjbaaaGreatDoor.Sp
open Go.RowKit Go.Proofs.YtglglknhifjbaaaGreatDoorW.PrintWords Go.Proofs.YtglglknhifjbaaaGreatDoorW.PrintLast Go.Proofs.YtglglknhifjbaaaGreatDoorW.PrintMore
set_option linter.unusedVariables false
set_option linter.unusedSimpArgs false
section
variable {w : World} {own : Own} {hp : Nat} {G : Gr} {hs : List Nat} {bs : List (Option Nat)} {i : Nat}
set_option maxHeartbeats 4000000 in
set_option maxRecDepth 100000 in
theorem hDrop_deferred (u : FrameMode) (H : HO w own hp G hs bs) {k : Nat} (hk : (k, i) ∈ G.hands) :
    CallsD Tryz.prog 72 #[.pointer (some ⟨hp, 0, none⟩), .int .i64 ((k : Int) + 1)] u w fun e u' w' => u' = u ∧ DropGPost w own hp G hs bs k e w' := by
  obtain ⟨M, x, hM, R⟩ := H
  obtain ⟨hlt, e⟩ := List.getElem?_eq_some_iff.1 (R.roots.at_ k i hk)
  have hlen := R.roots.len
  have hn : 1 ≤ M.nroots := by
    rw [R.nroots]
    exact List.length_pos_of_mem hk
  have hn2 : M.nroots ≤ 1000 := by
    rw [R.nroots]
    have h1 := sum_sub (fun _ => 1) (G.hands.map Prod.fst) (List.range M.roots.length) R.hkeys (fun q hq => by
      obtain ⟨p, hp', rfl⟩ := List.mem_map.1 hq
      exact List.mem_range.2 (List.getElem?_eq_some_iff.1 (R.roots.at_ p.1 p.2 hp')).1)
    rw [sum_ones, sum_ones, List.length_range, List.length_map] at h1
    omega
  have HHeld := Lib.hid (held_yes w own hp M x hM k hlt (by rw [e]) (by omega) ((k : Int) + 1) rfl)
  obtain ⟨g, cap, hv, hc, og, k0, k1, kf⟩ := root_cells hM k hlt
  have c9 := hM.c9
  have c15 := hM.c15
  have f15 := hM.fz 15
  rw [hv] at c9
  have kf0 := kf (k * 2)
  have kf1 := kf (k * 2 + 1)
  have hne : g ≠ hp := by rintro rfl; have := hM.ohd; omega
  have hfin : Hid (DropGPost w own hp G hs bs k (.returned (.int .i64 0)) (((w.setCell ⟨g, k * 2, none⟩ (.bool false)).setCell ⟨g, k * 2 + 1, none⟩ (.int .u64 0)).setCell ⟨hp, 15, none⟩ (.int .i64 ((M.nroots : Int) - 1)))) := by
    obtain ⟨x', q1, q2⟩ := drop_set hM hlt hn hv
    exact ⟨rfl, own, ⟨_, x', q1, R.drop k i hk⟩, q2⟩
  have e3 : ((k : Int) + 1 - 1) = (k : Int) := by omega
  have m1 : IntKind.i64.wrap ((M.nroots : Int) - 1) = (M.nroots : Int) - 1 := Go.IntWalk.i64_in _ (by omega)
  obtain ⟨nr, hnr⟩ : ∃ nr, M.nroots = nr := ⟨_, rfl⟩
  obtain ⟨ln, hln⟩ : ∃ ln, M.roots.length = ln := ⟨_, rfl⟩
  rw [hnr] at c15 hfin m1
  rw [hln] at c9 hlt hlen
  have HFin := Lib.hid hfin.out
  have hu112 := Tryz.underlying147
  clear hM R hk e hv kf hfin hnr hln hc hn hn2
  go_enter_d Tryz.func72, Tryz.ntmps72
  go_wp2_with fail
  refine HHeld.out.mono ?_
  rintro e w' ⟨rfl, rfl⟩
  go_wp2_with fail
  go_ret
  exact HFin.out
end
end Go.Proofs.YtglglknhifjbaaaGreatDoor.Sp
