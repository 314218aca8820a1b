import Derived.Test.YtglglknhifjbaaaGreatDoorBeg
namespace Go.Proofs.YtglglknhifjbaaaGreatDoor.Sp
open Go.RowKit Go.Proofs.YtglglknhifjbaaaGreatDoorW.PrintWords Go.Proofs.YtglglknhifjbaaaGreatDoorW.PrintLast Go.Proofs.YtglglknhifjbaaaGreatDoorW.PrintMore
set_option linter.unusedVariables false
set_option linter.unusedSimpArgs false
theorem room_big {G : Gr} {M : HM} {P : List Nat} {bs' : List (Option Nat)} {s : Nat} (R : Rep G P bs' M) (hl : ∀ i, Live P bs' i ↔ Reach G i) (h : M.limit < s + 1 ∨ M.limit < M.large + (s + 1) + 128 ∨ M.limit < 2 * usedOf M.half.objs + M.large + (s + 1)) : ¬ G.room s := by
  rintro ⟨L, h1, h2⟩
  have := R.words L (fun i hi => h1 i ((hl i).1 hi))
  have hlim := R.lim
  omega
theorem one_cell (v : Value) (h : v.oneCell' = true) : ∀ u ∈ [v], u.oneCell' = true := fun u hu => by rw [List.mem_singleton.1 hu]; exact h
theorem rest_row {w : World} {own : Own} {hp : Nat} {M : HM} {x : HX} {v : Value} {bl : List (Option (Nat × Nat))} {bk : List (Option AM)} {vg : Value} {gs : List Nat} (h : HMid w own hp { M with blocks := bk } { x with vb := v, bl := bl } vg gs) : w.cell? ⟨hp, 4, none⟩ = some x.vr ∧ w.ownsRow 0 4 1 x.vr M.reached.length (M.reached.map Value.bool) := ⟨h.c4, h.rr.1⟩
set_option maxHeartbeats 16000000 in
set_option maxRecDepth 100000 in
theorem begin_walk (w : World) (own : Own) (hp : Nat) (M : HM) (x : HX) (H : HMem w own hp M x) (G : Gr) (hs : List Nat) (bs : List (Option Nat)) (R : Rep G hs bs M) (k r y : Nat) (hsh : Shape k r y) (hbg : 64 < 1 + r + y) (s : Nat) (hs0 : s = 1 + r + y) :
    Calls Tryz.prog 115 #[.pointer (some ⟨hp, 0, none⟩), .int .i64 (k : Int), .int .i64 (r : Int), .int .i64 (y : Int), .int .i64 (s : Int)] w (AllocGPost w own hp G k r y) := by
  have c0 := H.c0; have c1 := H.c1; have c6 := H.c6; have c7 := H.c7; have c8 := H.c8
  have hbl := R.blen
  have hs2 := H.half.s2
  have hsn := R.since; have hkp := R.kept; have s1 := R.s1; have s3 := R.s3; have s4 := R.s4
  obtain ⟨hk1, hk2, hr2, hx2⟩ := id hsh
  have hS := fun m => size_walk (w.drewN m) own x.ah x.ph M.half.size M.half.objs (H.half.drewN m)
  have hC := fun m => collect_walk (w.drewN m) own hp M x (H.drewN m) G hs bs R (by omega)
  have hC0 := collect_walk w own hp M x H G hs bs R (by omega)
  have hRd := fun m (h : 2 * M.half.size + M.large + (s + 1) ≤ M.limit) (h2 : M.since + (s + 1) ≤ 4194304) => (show Ready w own hp G (w.drewN m) own M x hs bs (1 + r + y + 1) from ⟨⟨H.drewN m, R, fun i hi => R.toLay.reach hi, HStep.drewN m⟩, by rw [← hs0]; exact h, by rw [← hs0]; exact h2⟩)
  have hGl := fun (P' : List Nat) (bs' : List (Option Nat)) (M' : HM) (h : Rep G P' bs' M') => (show M'.limit = M.limit by rw [h.lim, R.lim])
  have HSh := Lib.hid hsh; have HS0 := Lib.hid hs0; have HBg := Lib.hid hbg
  obtain ⟨sz, hsz⟩ : ∃ sz, M.half.size = sz := ⟨_, rfl⟩
  obtain ⟨lim, hlim⟩ : ∃ lim, M.limit = lim := ⟨_, rfl⟩
  obtain ⟨lg, hlg⟩ : ∃ lg, M.large = lg := ⟨_, rfl⟩
  obtain ⟨sn, hsn2⟩ : ∃ sn, M.since = sn := ⟨_, rfl⟩
  obtain ⟨kp, hkp2⟩ : ∃ kp, M.kept = kp := ⟨_, rfl⟩
  rw [hsz] at hs2 s1 s3 hS hRd
  rw [hlim] at c0 s3 s4 hRd
  rw [hlg] at c6 s3 hRd
  rw [hsn2] at c7 hsn hRd
  rw [hkp2] at c8 hkp
  simp only [hlim] at hGl
  have hsb : s ≤ 2097153 := by omega
  have HS := Lib.hid hS; have HC := Lib.hid hC; have HC0 := Lib.hid hC0; have HRd := Lib.hid hRd; have HGl := Lib.hid hGl
  clear H R hS hC hC0 hRd hGl hsz hlim hlg hsn2 hkp2 hs0 hsh hbg
  obtain ⟨tot, htot⟩ : ∃ tot, 2 * sz + lg + (s + 1) = tot := ⟨_, rfl⟩
  obtain ⟨q1, hq1⟩ : ∃ q1, sn + (s + 1) = q1 := ⟨_, rfl⟩
  obtain ⟨q2, hq2⟩ : ∃ q2, sz + kp = q2 := ⟨_, rfl⟩
  have m1 : IntKind.i64.wrap (2 * (sz : Int)) = 2 * (sz : Int) := Go.IntWalk.i64_in _ (by omega)
  have m2 : IntKind.i64.wrap (2 * (sz : Int) + (lg : Int)) = 2 * (sz : Int) + (lg : Int) := Go.IntWalk.i64_in _ (by omega)
  have m3 : IntKind.i64.wrap (2 * (sz : Int) + (lg : Int) + ((s : Int) + 1)) = (tot : Int) := by rw [Go.IntWalk.i64_in _ (by omega)]; omega
  have m4 : IntKind.i64.wrap ((sn : Int) + ((s : Int) + 1)) = (q1 : Int) := by rw [Go.IntWalk.i64_in _ (by omega)]; omega
  have m5 : IntKind.i64.wrap ((sz : Int) + (kp : Int)) = (q2 : Int) := by rw [Go.IntWalk.i64_in _ (by omega)]; omega
  have HTot := Lib.hid htot; have HQ1 := Lib.hid hq1; have HQ2 := Lib.hid hq2
  clear htot hq1 hq2
  by_cases hP0 : lim < s + 1
  · have d0 : decide ((lim : Int) < (s : Int) + 1) = true := decide_eq_true (by omega)
    clear m1 m2 m3 m4 m5
    go_enter Tryz.func115, Tryz.ntmps115
    go_wp2_with fail
    refine HC0.out.mono ?_
    rintro e w1 ⟨own1, M1, x1, P, bs', rfl, h1, h2, h3, h4, h5, h6, h7⟩
    have HF := Lib.hid (fit_walk w1 own1 hp M1 x1 h1 G P bs' h2 0 (by omega))
    have HK := Lib.hid (fun (e : Ending) (w2 : World) (hf : FitPost w1 own1 hp G M1 P bs' 0 e w2) => kept_fin h2 h3 h4 h6 h7 hf)
    clear h1 h2 h3 h4 h5 h6 h7
    go_wp2_with fail
    refine (HF.out.mono (fun e w2 hf => HK.out e w2 hf)).mono ?_
    rintro e w2 ⟨rfl, hq⟩
    have HQ := Lib.hid hq.out
    clear hq
    go_wp2_with fail
    go_ret2
    obtain ⟨own2, M2, x2, P2, bs2, -, j1, j2, j3, j4, j5, -, -⟩ := HQ.out
    exact .inr ⟨own2, M2, x2, P2, bs2, rfl, ⟨j1, j2, fun i hi => (j3 i).2 hi, j4⟩, room_big j2 j3 (.inl (by rw [HGl.out _ _ _ j2, ← HS0.out]; exact hP0))⟩
  · have d0 : decide ((lim : Int) < (s : Int) + 1) = false := decide_eq_false (by omega)
    go_enter Tryz.func115, Tryz.ntmps115
    go_upto_region 6 with fail
    go_cut [65] (fun s65 wx => (∃ n, wx = w.drewN n) ∧ s65 = .bool (decide (lim < tot) || decide (q2 < q1)))
    case first =>
      by_cases hA1 : lim < tot
      · have dA : decide (lim < tot) = true := decide_eq_true hA1
        have dA2 : decide ((lim : Int) < (tot : Int)) = true := decide_eq_true (by omega)
        go_quiet ((go_at_call 39; exact quiet_left (HS.out _)))
        go_wp2_with fail
        go_meet
        case rel => exact ⟨⟨_, rfl⟩, by simp [dA]⟩
      · have dA : decide (lim < tot) = false := decide_eq_false hA1
        have dA2 : decide ((lim : Int) < (tot : Int)) = false := decide_eq_false (by omega)
        by_cases hA2 : q2 < q1
        · have dB : decide (q2 < q1) = true := decide_eq_true hA2
          have dB2 : decide ((q2 : Int) < (q1 : Int)) = true := decide_eq_true (by omega)
          go_quiet ((go_at_call 39; exact quiet_left (HS.out _)))
          go_wp2_with fail
          go_meet
          case rel => exact ⟨⟨_, rfl⟩, by simp [dA, dB]⟩
        · have dB : decide (q2 < q1) = false := decide_eq_false hA2
          have dB2 : decide ((q2 : Int) < (q1 : Int)) = false := decide_eq_false (by omega)
          go_quiet ((go_at_call 39; exact quiet_left (HS.out _)))
          go_wp2_with fail
          go_meet
          case rel => exact ⟨⟨_, rfl⟩, by simp [dA, dB]⟩
    case rest =>
      obtain ⟨⟨n1, rfl⟩, rfl⟩ := hcut
      clear m1 m2 m3 m4 m5 c0 c1 c6 c7 c8
      obtain ⟨bo, hbo⟩ : ∃ bo, (decide (lim < tot) || decide (q2 < q1)) = bo := ⟨_, rfl⟩
      rw [hbo]
      have HBo := Lib.hid hbo
      clear hbo
      go_upto_if 65 with fail
      go_cut [] (fun wx => Hid (∃ own1 M1 x1 hs1 bs1, Kept w own hp G G wx own1 M1 x1 hs1 bs1 ∧ M1.since + (1 + r + y + 1) ≤ 4194304 ∧ (2 * M1.half.size + M1.large + (1 + r + y + 1) ≤ M1.limit ∨ ∀ i, Live hs1 bs1 i ↔ Reach G i)))
      case first =>
        cases bo
        · go_wp2_with fail
          go_meet
          case rel =>
            have h1 := HBo.out
            simp only [Bool.or_eq_false_iff, decide_eq_false_iff_not] at h1
            have RD := HRd.out n1 (by have := HTot.out; omega) (by have := HQ1.out; have := HQ2.out; omega)
            exact Lib.hid ⟨_, _, _, _, _, RD.kept, RD.since, .inl RD.fits⟩
        · go_wp2_with fail
          refine (HC.out n1).mono ?_
          rintro e w1 ⟨own1, M1, x1, P, bs', rfl, h1, h2, h3, h4, h5, h6, h7⟩
          have HF := Lib.hid (fit_walk w1 own1 hp M1 x1 h1 G P bs' h2 0 (by omega))
          have HK := Lib.hid (fun (e : Ending) (w2 : World) (hf : FitPost w1 own1 hp G M1 P bs' 0 e w2) => kept_fin h2 h3 h4 h6 h7 hf)
          clear h1 h2 h3 h4 h5 h6 h7
          go_wp2_with fail
          refine (HF.out.mono (fun e w2 hf => HK.out e w2 hf)).mono ?_
          rintro e w2 ⟨rfl, hq⟩
          have HQ := Lib.hid hq.out
          clear hq
          go_wp2_with fail
          go_meet
          case rel =>
            obtain ⟨own2, M2, x2, P2, bs2, -, j1, j2, j3, j4, j5, j6, j7⟩ := HQ.out
            exact Lib.hid ⟨own2, M2, x2, P2, bs2, ⟨j1, j2, fun i hi => (j3 i).2 hi, (HStep.drewN n1).trans j4⟩, by have := HS0.out; omega, .inr j3⟩
      case rest =>
        have HCut := hcut.out
        clear hcut
        obtain ⟨own1, M1, x1, hs1, bs1, hK, hsn1, hfe⟩ := HCut
        have c0 := hK.mem.c0; have c1 := hK.mem.c1; have c6 := hK.mem.c6
        have t1 := hK.mem.half.s2
        have t3 := hK.rep.s3; have t4 := hK.rep.s4; have t5 := hK.rep.s1
        have hS1 := fun m => size_walk (wc.drewN m) own1 x1.ah x1.ph M1.half.size M1.half.objs (hK.mem.half.drewN m)
        have hlm := HGl.out _ _ _ hK.rep
        have HK := Lib.hid hK; have HSn1 := Lib.hid hsn1; have HFe := Lib.hid hfe
        obtain ⟨sz1, hsz1⟩ : ∃ sz1, M1.half.size = sz1 := ⟨_, rfl⟩
        obtain ⟨lg1, hlg1⟩ : ∃ lg1, M1.large = lg1 := ⟨_, rfl⟩
        rw [hsz1] at t1 t3 t5 hS1
        rw [hlg1] at c6 t3
        rw [hlm] at c0 t3 t4
        have HS1 := Lib.hid hS1; have HSz1 := Lib.hid hsz1; have HLg1 := Lib.hid hlg1; have HLm := Lib.hid hlm
        clear hK hsn1 hfe hS1 hsz1 hlg1 hlm
        obtain ⟨tot1, htot1⟩ : ∃ tot1, 2 * sz1 + lg1 + (s + 1) = tot1 := ⟨_, rfl⟩
        have m1 : IntKind.i64.wrap (2 * (sz1 : Int)) = 2 * (sz1 : Int) := Go.IntWalk.i64_in _ (by omega)
        have m2 : IntKind.i64.wrap (2 * (sz1 : Int) + (lg1 : Int)) = 2 * (sz1 : Int) + (lg1 : Int) := Go.IntWalk.i64_in _ (by omega)
        have m3 : IntKind.i64.wrap (2 * (sz1 : Int) + (lg1 : Int) + ((s : Int) + 1)) = (tot1 : Int) := by rw [Go.IntWalk.i64_in _ (by omega)]; omega
        have HTot1 := Lib.hid htot1
        clear htot1
        go_upto_region 9 with fail
        go_cut [87] (fun s87 wx => (∃ n, wx = wc.drewN n) ∧ s87 = .bool (decide (lim < tot1)))
        case first =>
          go_quiet ((go_at_call 39; exact quiet_left (HS1.out _)))
          go_wp2_with fail
          go_meet
          case rel => exact ⟨⟨_, rfl⟩, rfl⟩
        case rest =>
          obtain ⟨⟨n2, rfl⟩, rfl⟩ := hcut
          clear m1 m2 m3
          have z1 : (wc.drewN n2).cell? ⟨hp, 1, none⟩ = some (.pointer (some ⟨x1.ph, 0, none⟩)) := c1
          obtain ⟨bt, hbt⟩ : ∃ bt, decide (lim < tot1) = bt := ⟨_, rfl⟩
          rw [hbt]
          have HBt := Lib.hid hbt
          clear hbt
          go_upto_if 87 with fail
          go_cut [] (fun wx => Hid (∃ own2 M2 x2 hs2 bs2, Ready w own hp G wx own2 M2 x2 hs2 bs2 (1 + r + y + 1)))
          case first =>
            have hrdy := fun (h : ¬ lim < tot1) => (show Ready w own hp G (wc.drewN n2) own1 M1 x1 hs1 bs1 (1 + r + y + 1) from ⟨⟨HK.out.mem.drewN n2, HK.out.rep, HK.out.keep, HK.out.step.trans (HStep.drewN n2)⟩, by rw [HSz1.out, HLg1.out, HLm.out]; have := HTot1.out; have := HS0.out; omega, HSn1.out⟩)
            have HRdy := Lib.hid hrdy
            clear hrdy
            cases bt
            · go_wp2_with fail
              go_meet
              case rel =>
                have h1 := HBt.out
                simp only [decide_eq_false_iff_not] at h1
                exact Lib.hid ⟨_, _, _, _, _, HRdy.out h1⟩
            · have h1 := HBt.out
              simp only [decide_eq_true_eq] at h1
              have hex : ∀ i, Live hs1 bs1 i ↔ Reach G i := by
                rcases HFe.out with h | h
                · rw [HSz1.out, HLg1.out, HLm.out] at h
                  have := HTot1.out; have := HS0.out; omega
                · exact h
              have hbig : (lim < s + 1 ∨ lim < lg1 + (s + 1) + 128 ∨ lim < 2 * usedOf M1.half.objs + lg1 + (s + 1)) → ¬ G.room (1 + r + y) := fun h => by
                rw [← HS0.out]
                exact room_big HK.out.rep hex (by rw [HLm.out, HLg1.out]; exact h)
              have hfail := fun n n' n'' (h : ¬ G.room (1 + r + y)) => (show AllocGPost w own hp G k r y (.returned (.tuple #[.int .u64 0, .int .i64 31])) (((wc.drewN n).drewN n').drewN n'') from .inr ⟨own1, M1, x1, hs1, bs1, rfl, ⟨((HK.out.mem.drewN n).drewN n').drewN n'', HK.out.rep, HK.out.keep, HK.out.step.trans ((HStep.drewN n).trans ((HStep.drewN n').trans (HStep.drewN n'')))⟩, h⟩)
              have hU1 := fun m => used_walk (wc.drewN m) own1 x1.ah x1.ph M1.half.size M1.half.objs (HK.out.mem.half.drewN m)
              have hfit1 := HK.out.mem.half.fit
              obtain ⟨us1, hus1⟩ : ∃ us1, usedOf M1.half.objs = us1 := ⟨_, rfl⟩
              rw [hus1] at hbig hU1 hfit1
              rw [HSz1.out] at hfit1
              have HFail := Lib.hid hfail; have HBig := Lib.hid hbig; have HU1 := Lib.hid hU1; have HUs1 := Lib.hid hus1; have HEx := Lib.hid hex
              clear hfail hbig hU1 hus1 hex h1
              obtain ⟨d, hd⟩ : ∃ d : Int, (lim : Int) - (lg1 : Int) - ((s : Int) + 1) = d := ⟨_, rfl⟩
              have n1 : IntKind.i64.wrap ((lim : Int) - (lg1 : Int)) = (lim : Int) - (lg1 : Int) := Go.IntWalk.i64_in _ (by omega)
              have n2 : IntKind.i64.wrap ((lim : Int) - (lg1 : Int) - ((s : Int) + 1)) = d := by rw [Go.IntWalk.i64_in _ (by omega)]; exact hd
              have HD := Lib.hid hd
              by_cases hd0 : d < 0
              · have e0 : decide (d < 0) = true := decide_eq_true hd0
                have hqb : -9223372036854775808 ≤ d.tdiv 2 ∧ d.tdiv 2 ≤ 9223372036854775807 := by
                  rw [show d = -(-d) by omega, Int.neg_tdiv, Int.tdiv_eq_ediv_of_nonneg (by omega)]
                  omega
                have n3 : IntKind.i64.wrap (d.tdiv 2) = d.tdiv 2 := Go.IntWalk.i64_in _ hqb
                clear hd hqb
                go_wp2_with fail
                go_quiet (fail)
                go_wp2_with fail
                go_quiet ((go_at_call 40; first | exact quiet_left (HU1.out _) | exact quiet_add_left (HU1.out _)))
                go_wp2_with fail
                go_ret2
                exact HFail.out _ _ _ (HBig.out (by have := HD.out; omega))
              · have e0 : decide (d < 0) = false := decide_eq_false hd0
                obtain ⟨q, hq⟩ : ∃ q : Nat, d.tdiv 2 = (q : Int) := ⟨(d.tdiv 2).toNat, by rw [Int.tdiv_eq_ediv_of_nonneg (by omega)]; omega⟩
                have hq2 : d = 2 * (q : Int) ∨ d = 2 * (q : Int) + 1 := by
                  rw [Int.tdiv_eq_ediv_of_nonneg (by omega)] at hq; omega
                have n3 : IntKind.i64.wrap (d.tdiv 2) = (q : Int) := by rw [hq]; exact Go.IntWalk.i64_in _ (by omega)
                have n4 : IntKind.i64.wrap (q : Int) = (q : Int) := Go.IntWalk.i64_in _ (by omega)
                have HQ2' := Lib.hid hq2
                clear hd
                by_cases hq64 : q < 64
                · have e1 : decide ((q : Int) < 64) = true := decide_eq_true (by omega)
                  clear hq2 hq
                  go_wp2_with fail
                  go_quiet (fail)
                  go_wp2_with fail
                  go_quiet ((go_at_call 40; first | exact quiet_left (HU1.out _) | exact quiet_add_left (HU1.out _)))
                  go_wp2_with fail
                  go_ret2
                  exact HFail.out _ _ _ (HBig.out (by have := HD.out; have := HQ2'.out; omega))
                · have e1 : decide ((q : Int) < 64) = false := decide_eq_false (by omega)
                  by_cases hqu : q < us1
                  · have e2 : decide (q < us1) = true := decide_eq_true hqu
                    clear hq2 hq
                    go_wp2_with fail
                    go_quiet (fail)
                    go_wp2_with fail
                    go_quiet ((go_at_call 40; first | exact quiet_left (HU1.out _) | exact quiet_add_left (HU1.out _)))
                    go_wp2_with fail
                    go_ret2
                    exact HFail.out _ _ _ (HBig.out (by have := HD.out; have := HQ2'.out; omega))
                  · have e2 : decide (q < us1) = false := decide_eq_false hqu
                    have hbec := fun m => become_walk (wc.drewN m) own1 hp M1 x1 (HK.out.mem.drewN m) G hs1 bs1 HK.out.rep q (by omega) (by rw [HLm.out, HLg1.out]; have := HD.out; omega) (by rw [HUs1.out]; omega)
                    have HBec := Lib.hid hbec
                    clear hq2 hbec hq
                    go_wp2_with fail
                    go_quiet (fail)
                    go_wp2_with fail
                    go_quiet ((go_at_call 40; first | exact quiet_left (HU1.out _) | exact quiet_add_left (HU1.out _)))
                    go_wp2_with fail
                    refine (HBec.out _).mono ?_
                    rintro e w2 ⟨own2, M2, x2, rfl, j1, j2, j3, j4, j5, j6, j7, j8⟩
                    have hrdy2 : Ready w own hp G w2 own2 M2 x2 hs1 bs1 (1 + r + y + 1) := ⟨⟨j1, j2, HK.out.keep, (HK.out.step.trans (HStep.drewN _)).trans j3⟩, by rw [HGl.out _ _ _ j2, j4, j8, HLg1.out]; have := HD.out; have := HQ2'.out; have := HS0.out; omega, by rw [j6]; exact HSn1.out⟩
                    have HRdy2 := Lib.hid hrdy2
                    clear hrdy2 j1 j2 j3 j4 j5 j6 j7 j8
                    go_wp2_with fail
                    go_meet
                    case rel => exact Lib.hid ⟨_, _, _, _, _, HRdy2.out⟩
          case rest =>
            have HCu := hcut.out
            clear hcut
            obtain ⟨own2, M2, x2, hs2, bs2, hRD⟩ := HCu
            have RD := Lib.hid hRD
            clear hRD z1 c0 c1 c6
            have hnew := RD.out.new HSh.out
            obtain ⟨bb, hbb⟩ : ∃ bb, 1 + r + y + 1 = bb := ⟨_, rfl⟩
            rw [hbb] at hnew
            have HBB := Lib.hid hbb
            have HNew := Lib.hid hnew
            clear hnew hbb
            go_wp2_with fail
            rw [show ((s : Int) + 1) = (bb : Int) by have := HS0.out; have := HBB.out; omega]
            refine HNew.out.mono ?_
            rintro e w2 ⟨p, rfl, hAl⟩
            have HAl := Lib.hid hAl.out
            clear hAl
            go_wp2_with fail
            refine HAl.out.mono ?_
            rintro e w3 ⟨rfl, own3, a, hL⟩
            have HL := Lib.hid hL; have HLn := Lib.hid hL.nums
            have z6 := HL.out.mem.c6
            have z7 : w3.cell? ⟨hp, 7, none⟩ = some (.int .i64 (M2.since : Int)) := HL.out.mem.cell 7
            have z3 := HL.out.mem.c3
            have y6 := HL.out.mem.fz 6
            have y7 := HL.out.mem.fz 7
            obtain ⟨A3, cap3, hvb⟩ := own_slice HL.out.mem.rb.1
            rw [hvb] at z3
            have HVB := Lib.hid hvb
            have hblb : x2.bl.length ≤ 65536 := by
              have h1 := RD.out.kept.mem.blk.1
              rw [RD.out.kept.rep.blocks, List.length_map] at h1
              have := RD.out.kept.rep.blen
              omega
            have n6 : IntKind.i64.wrap ((M2.large : Int) + (bb : Int)) = ((M2.large + (1 + r + y + 1) : Nat) : Int) := by
              have h1 := RD.out.kept.rep.s3
              have h2 := RD.out.kept.rep.s4
              have h3 := HBB.out
              have h4 := RD.out.fits
              rw [Go.IntWalk.i64_in _ (by omega)]; omega
            have n7 : IntKind.i64.wrap ((M2.since : Int) + (bb : Int)) = ((M2.since + (1 + r + y + 1) : Nat) : Int) := by
              have h1 := RD.out.kept.rep.since
              have h3 := HBB.out
              have h4 := RD.out.since
              rw [Go.IntWalk.i64_in _ (by omega)]; omega
            obtain ⟨l6, hl6⟩ : ∃ l6, M2.large + (1 + r + y + 1) = l6 := ⟨_, rfl⟩
            obtain ⟨l7, hl7⟩ : ∃ l7, M2.since + (1 + r + y + 1) = l7 := ⟨_, rfl⟩
            have HB6 := Lib.hid hl6; have HB7 := Lib.hid hl7
            rw [hl6] at n6
            rw [hl7] at n7
            simp only [hl6, hl7] at HLn
            obtain ⟨Mx, hMx⟩ : ∃ Mx : HM, ({ M2 with large := l6, since := l7 } : HM) = Mx := ⟨_, rfl⟩
            rw [hMx] at HLn
            have HMX := Lib.hid hMx
            clear hMx
            clear hL hvb hl6 hl7
            go_wp2_with fail
            obtain ⟨W4, hW4⟩ : ∃ W4, ((w3.setCell ⟨hp, 6, none⟩ (.int .i64 (l6 : Int))).setCell ⟨hp, 7, none⟩ (.int .i64 (l7 : Int))) = W4 := ⟨_, rfl⟩
            rw [hW4] at HLn ⊢
            have v3 := HLn.out.mem.c3
            rw [HVB.out] at v3
            clear hW4 z6 z7 z3 y6 y7 n6 n7
            go_loop [159] (fun v => ∃ i : Nat, i ≤ x2.bl.length ∧ v = .int .i64 (i : Int) ∧ Hid (∀ t, t < i → x2.bl[t]? ≠ some none)) (fun v => x2.bl.length - (intOf v).toNat)
            case atStart => exact ⟨0, by omega, rfl, Lib.hid (fun t ht => by omega)⟩
            case round =>
              obtain ⟨i, hi, rfl, hno⟩ := hrel
              by_cases hlt : i < x2.bl.length
              · obtain ⟨g, cap, hv, hcp, og, e0, e1⟩ := HLn.out.mem.slotAt hlt
                have hA := HVB.out.symm.trans hv
                injection hA with hA1 hA2 hA3
                subst hA1 hA3
                cases hbi : x2.bl[i] with
                | none =>
                  rw [hbi] at e0
                  replace e0 : W4.cell? ⟨g, i, none⟩ = some (.pointer none) := e0
                  have hput := big_put (k := k) (r := r) (y := y) (p := p) (a := a) (s := i) RD.out HSh.out HBg.out (by have h := HLn.out; rw [← HMX.out, ← HB6.out, ← HB7.out] at h; exact h) (by rw [List.getElem?_eq_getElem hlt, hbi]) hv
                  have HPut := Lib.hid hput
                  have HOr := Lib.hid (big_or i (by omega))
                  have ew : IntKind.u64.wrap (i : Int) = (i : Int) := by rw [IntKind.wrap_u64]; omega
                  clear hput hbi hv
                  go_wp2_with fail
                  rw [HOr.out]
                  go_ret2
                  exact HPut.out.out
                | some q =>
                  obtain ⟨q3, q4⟩ := q
                  rw [hbi] at e0
                  replace e0 : W4.cell? ⟨g, i, none⟩ = some (.pointer (some ⟨q3, 0, none⟩)) := e0
                  have hn2 : Hid (∀ t, t < i + 1 → x2.bl[t]? ≠ some none) := Lib.hid (fun t ht => by
                    by_cases e : t < i
                    · exact hno.out t e
                    · obtain rfl : t = i := by omega
                      rw [List.getElem?_eq_getElem hlt, hbi]
                      intro h
                      injection h with h
                      cases h)
                  clear hbi hv
                  go_wp2_with fail
                  exact ⟨⟨i + 1, by omega, by go_num, hn2⟩, by simp [intOf]; omega⟩
              · obtain rfl : i = x2.bl.length := by omega
                have v4 := HLn.out.mem.c4
                obtain ⟨A4, cap4, hvr⟩ := own_slice HLn.out.mem.rr.1
                rw [hvr] at v4
                have HVR := Lib.hid hvr
                have hrr := HLn.out.mem.rr.1
                rw [hvr] at hrr
                have hrb := HLn.out.mem.rb.1
                rw [HVB.out] at hrb
                have HOr := Lib.hid (big_or x2.bl.length (by omega))
                have ew : IntKind.u64.wrap (x2.bl.length : Int) = (x2.bl.length : Int) := by rw [IntKind.wrap_u64]; omega
                have ew2 : IntKind.i64.wrap (x2.bl.length : Int) = (x2.bl.length : Int) := Go.IntWalk.i64_in _ (by omega)
                have HRR := Lib.hid hrr; have HRB := Lib.hid hrb
                have hrl : Mx.reached.length = x2.bl.length := by
                  rw [← HMX.out]
                  have h1 := RD.out.kept.mem.blk.1
                  rw [RD.out.kept.rep.blocks, List.length_map] at h1
                  show M2.reached.length = _
                  rw [RD.out.kept.rep.reached, List.length_replicate, h1]
                have HRL := Lib.hid hrl
                clear hvr hrr hrb hrl
                go_wp2_with (at_builtin; first | (refine wpList_pushRow W4 rfl _ _ 90 89 (.pointer none) 1 8 rfl Tryz.underlying90 (by kernel_rfl) rfl (by decide) (.slice A3 x2.bl.length cap3) x2.bl.length (x2.bl.map ptrV) [.pointer (some ⟨p, 0, none⟩)] rfl (one_cell _ rfl) (by rfl) W4.heap.size rfl (by rfl) HRB.out (by omega) (by unfold maxLen; omega) ?_; intro g5 c5 w5 hr5 hg5 hat5; rw [← HVB.out] at hg5 hat5; obtain ⟨t0, t1, own5, HQ5, hst5⟩ := HLn.out.mem.pushBlk HLn.out.fresh (A := ⟨1 + r + y + 1, _⟩) HLn.out.ar hr5 hg5 (hat5.imp (fun h => h) (fun h => ⟨g5, rfl, h⟩)); rw [HVB.out] at t0; have HSt5 := Lib.hid (HLn.out.step.trans hst5); have v5 := rest_row HQ5.out; rw [HVR.out] at v5; obtain ⟨v5, v6⟩ := v5; have HV6 := Lib.hid v6; clear hr5 hg5 hat5 hst5 v6) | (obtain ⟨W6, hW6⟩ : ∃ W6, w5.setCell ⟨hp, 3, none⟩ (.slice (some ⟨g5, 0, none⟩) (x2.bl.length + 1) c5) = W6 := ⟨_, rfl⟩; rw [hW6] at HQ5 HSt5 HV6 v5 ⊢; have hv6 := HV6.out; have hrl6 := HRL.out; have hsz6 : W6.heap.size = w5.heap.size := (by rw [← hW6]; simp [World.setCell]); clear hW6; refine wpList_pushRow W6 rfl _ _ 91 4 (.bool false) 1 1 rfl Tryz.underlying91 (by kernel_rfl) rfl (by decide) (.slice A4 Mx.reached.length cap4) Mx.reached.length (Mx.reached.map Value.bool) [.bool false] rfl (one_cell _ rfl) (by rfl) w5.heap.size hsz6 (by rfl) hv6 (by omega) (by unfold maxLen; omega) ?_; intro g7 c7' w7 hr7 hg7 hat7; rw [← HVR.out] at hg7 hat7; obtain ⟨t2, t3, own7, HQ7, hst7⟩ := HQ5.out.pushMark hr7 hg7 (hat7.imp (fun h => h) (fun h => ⟨g7, rfl, h⟩)); rw [HVR.out] at t2; have HSt7 := Lib.hid (HSt5.out.trans hst7); have v7 : (w7.setCell ⟨hp, 4, none⟩ (.slice (some ⟨g7, 0, none⟩) (Mx.reached.length + 1) c7')).cell? ⟨hp, 3, none⟩ = some (.slice (some ⟨g5, 0, none⟩) (x2.bl.length + 1) c5) := HQ7.out.c3; clear hr7 hg7 hat7 hst7 hrl6 hv6 hsz6))
                rw [HOr.out]
                go_ret2
                obtain rfl := HMX.out
                obtain rfl := HB6.out
                obtain rfl := HB7.out
                exact (big_push RD.out HSh.out HBg.out hno.out HQ7.out HSt7.out).out
end Go.Proofs.YtglglknhifjbaaaGreatDoor.Sp
namespace Go.Proofs.YtglglknhifjbaaaGreatDoor.Sp
open Go.RowKit Go.Proofs.YtglglknhifjbaaaGreatDoorW.PrintWords Go.Proofs.YtglglknhifjbaaaGreatDoorW.PrintLast Go.Proofs.YtglglknhifjbaaaGreatDoorW.PrintMore
set_option linter.unusedVariables false
set_option linter.unusedSimpArgs false
theorem allocG_form {w w' : World} {own : Own} {hp : Nat} {G : Gr} {k r y : Nat} {e : Ending} (h : AllocGPost w own hp G k r y e w') : ∃ n er : Nat, e = .returned (.tuple #[.int .u64 (n : Int), .int .i64 (er : Int)]) := by
  rcases h with ⟨own', M', x', hs', bs', rfl, -⟩ | ⟨own', M', x', hs', bs', rfl, -⟩
  · exact ⟨_, 0, rfl⟩
  · exact ⟨0, 31, rfl⟩
set_option maxHeartbeats 8000000 in
set_option maxRecDepth 100000 in
theorem hAlloc_walk (w : World) (own : Own) (hp : Nat) (M : HM) (x : HX) (H : HMem w own hp M x) (G : Gr) (hs : List Nat) (bs : List (Option Nat)) (R : Rep G hs bs M) (k r y : Nat) (hsh : Shape k r y) :
    Calls Tryz.prog 69 #[.pointer (some ⟨hp, 0, none⟩), .int .i64 (k : Int), .int .i64 (r : Int), .int .i64 (y : Int)] w (AllocGPost w own hp G k r y) := by
  by_cases hsm : 1 + r + y ≤ 64
  · exact hAlloc_small w own hp M x H G hs bs R (by have := R.blen; omega) k r y hsh hsm
  · obtain ⟨hk1, hk2, hr2, hx2⟩ := id hsh
    obtain ⟨s, hs0⟩ : ∃ s, 1 + r + y = s := ⟨_, rfl⟩
    have HB := Lib.hid (begin_walk w own hp M x H G hs bs R k r y hsh (by omega) s hs0.symm)
    have w1 : IntKind.i64.wrap (1 + (r : Int)) = 1 + (r : Int) := Go.IntWalk.i64_in _ (by omega)
    have w2 : IntKind.i64.wrap (1 + (r : Int) + (y : Int)) = (s : Int) := by rw [Go.IntWalk.i64_in _ (by omega)]; omega
    have d0 : decide ((64 : Int) < (s : Int)) = true := decide_eq_true (by omega)
    clear H R hs0 hsm
    go_enter Tryz.func69, Tryz.ntmps69
    go_wp2_with fail
    refine HB.out.mono ?_
    intro e w' hq
    obtain ⟨n, er, rfl⟩ := allocG_form hq
    have HQ := Lib.hid hq
    clear hq
    go_wp2_with fail
    go_ret2
    exact HQ.out
end Go.Proofs.YtglglknhifjbaaaGreatDoor.Sp
namespace Go.Proofs.YtglglknhifjbaaaGreatDoor.Sp
open Go.RowKit Go.Proofs.YtglglknhifjbaaaGreatDoorW.PrintWords Go.Proofs.YtglglknhifjbaaaGreatDoorW.PrintLast Go.Proofs.YtglglknhifjbaaaGreatDoorW.PrintMore
set_option linter.unusedVariables false
set_option linter.unusedSimpArgs false
structure Home (w : World) (own : Own) (hp : Nat) (G : Gr) (hs : List Nat) (bs : List (Option Nat)) (x : HX) (i p a : Nat) (A : AM) (k : Nat) : Prop where
  ar : IsAr w own a p A.size A.objs
  lt : k < A.objs.length
  obj : A.objs[k]'lt = encI G (plOf G hs bs) i
  put : ∀ (n : Node) (w' : World) (own' : Own), n.Like (G.node i) → n.Ok → (∀ j ∈ n.refs, j = 0 ∨ Live hs bs j) → ArStep w own w' own' a → IsAr w' own' a p A.size (A.objs.set k (n.head, n.refs.map (plOf G hs bs) ++ n.raws)) → ∃ M', HMem w' own' hp M' x ∧ Rep (G.put i n) hs bs M'
section
variable {w : World} {own : Own} {hp : Nat} {M : HM} {x : HX} {G : Gr} {hs : List Nat} {bs : List (Option Nat)} {i : Nat}
theorem home_small (H : HMem w own hp M x) (R : Rep G hs bs M) (h : i ∈ hs) : ∃ k, Home w own hp G hs bs x i x.ph x.ah M.half k ∧ plOf G hs bs i = posOf M.half.objs k := by
  obtain ⟨k, hk, rfl⟩ := mem_get h
  obtain ⟨hk2, ho⟩ := get_map R.half k hk
  refine ⟨k, ⟨H.half, hk2, ho, fun n w' own' hl hok hr hst hA => ⟨_, H.stepHalf hst (A := ⟨M.half.size, _⟩) hA, R.putSmall k hk n hl hok hr⟩⟩, ?_⟩
  rw [pl_small R.hnd k hk, R.half, posOf_eq, List.map_map]
  congr 1
  exact map_congr' (fun i _ => (enc_size G _ i).symm)
theorem home_big (H : HMem w own hp M x) (R : Rep G hs bs M) (h : some i ∈ bs) : ∃ s p a, x.bl[s]? = some (some (p, a)) ∧ bs[s]? = some (some i) ∧ Home w own hp G hs bs x i p a ⟨G.sz i + 1, [encI G (plOf G hs bs) i]⟩ 0 ∧ plOf G hs bs i = 9223372036854775808 + s := by
  obtain ⟨s, hlt, e⟩ := mem_get h
  have hs1 : bs[s]? = some (some i) := by rw [List.getElem?_eq_getElem hlt, e]
  have hb : M.blocks[s]? = some (some ⟨G.sz i + 1, [encI G (plOf G hs bs) i]⟩) := by rw [R.blocks, List.getElem?_map, hs1]; rfl
  have hlen := H.blk.1
  have hx : s < x.bl.length := by rw [hlen]; exact (List.getElem?_eq_some_iff.1 hb).1
  cases hq : x.bl[s] with
  | none =>
    have := (H.none_ s).2 (by rw [List.getElem?_eq_getElem hx, hq])
    rw [hb] at this; cases this
  | some q =>
    obtain ⟨p, a⟩ := q
    have hq2 : x.bl[s]? = some (some (p, a)) := by rw [List.getElem?_eq_getElem hx, hq]
    obtain ⟨A, k1, k2⟩ := H.blk.2 s p a hq2
    rw [hb] at k1
    injection k1 with k1; injection k1 with k1
    subst k1
    refine ⟨s, p, a, hq2, hs1, ⟨k2, by simp, rfl, fun n w' own' hl hok hr hst hA => ⟨_, (H.mid.stepBlk hq2 hst (A := ⟨G.sz i + 1, _⟩) hA).mem, R.putBig s i hs1 n hl hok hr⟩⟩, pl_big (fun hh => R.dis i hh h) s R.bnd hs1⟩
end
section
variable {w : World} {own : Own} {hp : Nat} {M : HM} {x : HX} {G : Gr} {hs : List Nat} {bs : List (Option Nat)} {i : Nat}
set_option maxHeartbeats 4000000 in
set_option maxRecDepth 100000 in
theorem find_big (H : HMem w own hp M x) (R : Rep G hs bs M) {s p a : Nat} (hq : x.bl[s]? = some (some (p, a))) :
    Calls Tryz.prog 117 #[.pointer (some ⟨hp, 0, none⟩), .int .u64 ((9223372036854775808 + s : Nat) : Int)] w fun e w' => e = .returned (.tuple #[.iface 89 (.pointer (some ⟨p, 0, none⟩)), .int .i64 1, .bool true]) ∧ w = w' := by
  have c3 := H.c3
  have hlt := (List.getElem?_eq_some_iff.1 hq).1
  have hbl : x.bl.length ≤ 65536 := by
    have h1 := H.blk.1
    rw [R.blocks, List.length_map] at h1
    have := R.blen
    omega
  obtain ⟨g, cap, hv, hcp, og, e0, e1⟩ := H.mid.slotAt hlt
  rw [List.getElem?_eq_getElem hlt] at hq
  injection hq with hq
  rw [hq] at e0
  replace e0 : w.cell? ⟨g, s, none⟩ = some (.pointer (some ⟨p, 0, none⟩)) := e0
  rw [hv] at c3
  have ha := big_and s (by omega)
  have hn := big_andNot s (by omega)
  have ew : IntKind.u64.wrap (x.bl.length : Int) = (x.bl.length : Int) := by rw [IntKind.wrap_u64]; omega
  have hd : decide (x.bl.length ≤ s) = false := decide_eq_false (by omega)
  have hd2 : decide ((x.bl.length : Int) ≤ (s : Int)) = false := decide_eq_false (by omega)
  have HV := Lib.hid hv
  obtain ⟨rf, hrf⟩ : ∃ rf : Int, ((9223372036854775808 + s : Nat) : Int) = rf := ⟨_, rfl⟩
  rw [hrf] at ha hn ⊢
  clear H R hq hv hrf
  go_enter Tryz.func117, Tryz.ntmps117
  go_wp2_with fail
  go_ret3
  exact ⟨rfl, rfl⟩
theorem find_home (H : HMem w own hp M x) (R : Rep G hs bs M) (h : Live hs bs i) : ∃ p a A k, Home w own hp G hs bs x i p a A k ∧
    Calls Tryz.prog 117 #[.pointer (some ⟨hp, 0, none⟩), .int .u64 (plOf G hs bs i : Int)] w fun e w' => e = .returned (.tuple #[.iface 89 (.pointer (some ⟨p, 0, none⟩)), .int .i64 (posOf A.objs k : Int), .bool true]) ∧ w = w' := by
  rcases h with h | h
  · obtain ⟨k, hh, hp'⟩ := home_small H R h
    have hsh := (R.ok i (.inl h)).sh
    refine ⟨_, _, _, k, hh, ?_⟩
    rw [hp']
    exact find_small w own hp M x H k hh.lt _ _ _ hsh (by rw [hh.obj]; rfl) _ rfl
  · obtain ⟨s, p, a, h1, h2, hh, hp'⟩ := home_big H R h
    refine ⟨_, _, _, _, hh, ?_⟩
    rw [hp']
    exact find_big H R h1
end
end Go.Proofs.YtglglknhifjbaaaGreatDoor.Sp
