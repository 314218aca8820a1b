/- larderlaw3.Table: the list that a function tells is the wanted one, and each that was told is its caller's own. -/
import Derived.Test.YtdhkhjfjjbdkgaaDoorTab3
import Derived.OwnWalk
import Derived.Deep.RegionHeld3
namespace Go.Proofs.YtdhkhjfjjbdkgaaDoor.Tab
open Go.RowKit
set_option linter.unusedVariables false
set_option linter.unusedSimpArgs false
def Asks (F gb : Nat) (GO : Obj) (xs : List Cmd) : Prop := ∀ w : World, w.heap[gb]? = some GO →
  Calls Tryd.prog F #[] w fun e w' => ∃ v, e = .returned v ∧ w'.ownsRow w.heap.size 28 7 v xs.length (xs.flatMap Cmd.cells) ∧ Below w.heap.size w w'
theorem info28 : (Tryd.prog.info? 28).map (fun i => (i.zero, i.size, i.bytes)) = some (some (.agg #[.string ⟨#[]⟩, .int .i64 0, .bool false, .int .i64 0, .int .i64 0, .int .i64 0, .int .i64 0]), 7, 64) := by kernel_rfl
theorem info23 : (Tryd.prog.info? 23).map (fun i => (i.zero, i.size, i.bytes)) = some (some (.slice none 0 0), 1, 24) := by kernel_rfl
set_option maxHeartbeats 4000000 in
set_option maxRecDepth 100000 in
theorem table (F gb : Nat) (hcall : ∀ W, Sem.run Tryd.prog (callFunc F #[]) W = .ok (.enter F #[]) W) (GO : Obj) (xs : List Cmd) (hask : Hid (Asks F gb GO xs)) (w : World) (hgb : gb < w.heap.size) (hg : Hid (w.heap[gb]? = some GO)) (bw c : Nat) (hwant : Hid (Reads w bw xs)) (hwb : bw < w.heap.size)
    (N : Nat) (hN : Hid (N = xs.length)) (h0 : 0 < N) (h1 : N ≤ 1000) (n : Int) :
    Calls Tryd.prog 12 #[.func (.func F) #[] #[], .slice (some ⟨bw, 0, none⟩) N c, .int .i64 n] w fun e w' => e = .returned (.bool true) ∧ Below w.heap.size w w' := by
  obtain ⟨M, hM0, hM1, hM⟩ := count_of n
  obtain ⟨i0, hi0, hz0, hz1, hz2⟩ := info_parts info23
  obtain ⟨i8, ha0, ha1, ha2, ha3⟩ := info_parts info28
  have HM := Lib.hid hM; clear hM
  go_enter Tryd.func12, Tryd.ntmps12
  go_wp2_with fail
  rw [HM.out]
  go_loopw [7, 8] (fun v i wr => ∃ (k : Nat) (ls : List Sl), k ≤ M ∧ i = .int .i64 k ∧ L1 w wr xs v k ls) (fun _ i _ => M - (intOf i).toNat)
  case atStart => exact ⟨0, [], by omega, rfl, L1.zero w xs⟩
  case round =>
    obtain ⟨k, ls, hk, rfl, hL⟩ := hrel
    have HL := Lib.hid hL; clear hL
    by_cases hlt : k < M
    · go_wp2_with fail
      have hB := HL.out.below
      refine (hask.out _ (by rw [hB.block gb hgb]; exact hg.out)).mono ?_
      clear hB
      rintro e w1 ⟨v1, rfl, ho, hb⟩
      obtain ⟨⟨gp, np, cp⟩, rfl, hp1, hp2, hp3, hp4⟩ := own_sl ho (by rw [← hN.out]; exact h0)
      have HP1 := Lib.hid hp1; have HP2 := Lib.hid hp2; have HP3 := Lib.hid hp3; have HP4 := Lib.hid hp4; clear hp1 hp2 hp3 hp4 ho
      rw [show val (gp, np, cp) = .slice (some ⟨gp, 0, none⟩) np cp from rfl]
      have hL1 := HL.out.same hb
      have HL1 := Lib.hid hL1
      have hown := hL1.own
      have hz := hb.size
      have hlb := hL1.below.size
      have hlb0 := HL.out.below.size
      have hvo : ∀ b, u7.ownBlock = some b → b < wr.heap.size := fun b hb => (HL.out.own.lt b hb).2
      have hvb : ∀ b, u7.ownBlock = some b → w.heap.size ≤ b := fun b hb => (HL.out.own.lt b hb).1
      have HVO := Lib.hid hvo; have HVB := Lib.hid hvb; clear hvo hvb
      clear hL1
      have hbd : (k + 1) * 24 ≤ 140737488355328 := by omega
      have hml : k + 1 ≤ maxLen := by unfold maxLen; omega
      have hba : w.heap.size ≤ (w1.alloc (.cells #[.slice (some ⟨gp, 0, none⟩) np cp] 23)).heap.size := by simp; omega
      have HH := Lib.hid (show (w1.alloc (.cells #[.slice (some ⟨gp, 0, none⟩) np cp] 23)).heap.size = w1.heap.size + 1 by simp)
      have hc1 : ∀ j u, [.slice (some ⟨gp, 0, none⟩) np cp][j]? = some u → (w1.alloc (.cells #[.slice (some ⟨gp, 0, none⟩) np cp] 23)).cell? ((⟨w1.heap.size, 0, none⟩ : Addr).add j) = some u := cell_one_new _ _ _
      have HC1 := Lib.hid hc1; clear hc1
      go_wp2_with ((at_builtin; refine wpList_append_lies _ rfl _ _ 22 rfl w.heap.size 23 i0 _ 1 24 Tryd.underlying22 hi0 hz0 hz1 hz2 rfl (by decide) _ k (ls.map val) rfl (hown.alloc _) ⟨w1.heap.size, 0, none⟩ 1 1 [.slice (some ⟨gp, 0, none⟩) np cp] rfl rfl HC1.out (by simp [Value.oneCell']) (by decide) hml hbd hba (w1.heap.size + 1) HH.out ?_; intro g cap w2 ho2 hg2 hv2 hlt2; have HO2 := Lib.hid ho2; have HG2 := Lib.hid hg2; have HV2 := Lib.hid hv2; clear ho2 hg2 hv2 hlt2 hown hbd hml hba HC1 HH))
      go_roundw
      case rel => exact ⟨k + 1, _, by omega, by go_num, HL1.out.next (p := (gp, np, cp)) hlb0 (fun q hq => (HL.out.each q hq).2.1.2.2.1) HVO.out HP1.out HP2.out HP3.out HP4.out HO2.out (grownBy_alloc_trans HG2.out) (by rcases HV2.out with h | h; exact .inl h; exact .inr (by omega)) HVB.out⟩
      case measure => simp [intOf]; omega
    · obtain rfl : k = M := by omega
      obtain ⟨g7, c7, P, rfl, hLay0, hRows⟩ := HL.out.lay (by omega)
      have hLay : Lay w wr k N g7 P := by rw [hN.out]; exact hLay0
      clear hLay0
      have HY := Lib.hid hLay; have HR := Lib.hid hRows; clear hLay hRows HL
      clear hk hlt
      go_wp2_with fail
      obtain ⟨wo, rfl⟩ : ∃ wo : World, wo = wr := ⟨_, rfl⟩
      go_loopw [9] (fun i wx => ∃ j : Nat, j ≤ k ∧ i = .int .i64 j ∧ Below wo.heap.size wo wx) (fun i _ => k - (intOf i).toNat)
      case atStart => exact ⟨0, by omega, rfl, Below.refl _ _⟩
      case round =>
        obtain ⟨j, hj, rfl, hBx⟩ := hrel
        have HBX := Lib.hid hBx; clear hBx
        have hcj : j < k → wr.cell? ⟨g7, j, none⟩ = some (val (P j)) := fun h => by rw [cell_below HBX.out HY.out.lt]; exact HY.out.row j h
        by_cases hlt2 : j < k
        · obtain ⟨⟨gj, nj, cj⟩, hpj⟩ : ∃ q, P j = q := ⟨_, rfl⟩
          have hsl := HY.out.sl j hlt2
          rw [hpj] at hsl
          have hcell := hcj hlt2
          rw [hpj] at hcell
          have e1 : nj = N := hsl.1
          subst e1
          have hrd : Reads wr gj xs := by
            have h := HR.out j hlt2
            rw [hpj] at h
            exact Reads_below HBX.out hsl.2.1.2.2.1 h
          have hcell' : wr.cell? ⟨g7, j, none⟩ = some (.slice (some ⟨gj, 0, none⟩) nj cj) := hcell
          have HRD := Lib.hid hrd; clear hrd hcell hcj hsl hpj
          have hltw : g7 < wr.heap.size := Nat.lt_of_lt_of_le HY.out.lt HBX.out.size
          go_wp2_with fail
          refine (same _ _ _ _ _ _ xs hN.out (by omega) HRD.out (Reads_below (HY.out.below.trans (HBX.out.mono HY.out.below.size)) hwb hwant.out)).mono ?_
          rintro e w3 ⟨rfl, hb3⟩
          have hc3 : w3.cell? ⟨g7, j, none⟩ = some (.slice (some ⟨gj, 0, none⟩) nj cj) := by rw [cell_below hb3 hltw]; exact hcell'
          have HB3 := Lib.hid hb3; clear hb3 hcell'
          have hne : ((nj : Int) == 0) = false := beq_eq_false_iff_ne.2 (by omega)
          go_wp2_with fail
          go_roundw
          case rel => exact ⟨j + 1, by omega, by go_num, HBX.out.trans (HB3.out.mono HBX.out.size)⟩
          case measure => simp [intOf]; omega
        · have hLx := HY.out.same HBX.out
          have HX := Lib.hid hLx; clear hLx hcj
          go_wp2_with fail
          obtain ⟨w2, rfl⟩ : ∃ w2 : World, w2 = wr := ⟨_, rfl⟩
          go_loopw [10] (fun i wx => ∃ a : Nat, a ≤ k ∧ i = .int .i64 a ∧ Pt w wx k N g7 P a 0) (fun i _ => k - (intOf i).toNat)
          case atStart => exact ⟨0, by omega, rfl, HX.out.pt⟩
          case round =>
            obtain ⟨a, ha, rfl, hPt⟩ := hrel
            have HT := Lib.hid hPt; clear hPt
            by_cases hlt3 : a < k
            · go_wp2_with fail
              obtain ⟨w4, rfl⟩ : ∃ w4 : World, w4 = wr := ⟨_, rfl⟩
              obtain ⟨⟨ga, na, ca⟩, hpa⟩ : ∃ q, P a = q := ⟨_, rfl⟩
              have HPA := Lib.hid hpa; clear hpa
              have hga : ∀ wx b, Pt w wx k N g7 P a b → wx.cell? ⟨g7, a, none⟩ = some (.slice (some ⟨ga, 0, none⟩) N ca) := fun wx b h => by
                have h2 := h.lay.row a hlt3
                have h3 := (h.lay.sl a hlt3).1
                rw [HPA.out] at h2 h3
                rw [h2, ← h3]; rfl
              have HGA := Lib.hid hga; clear hga
              go_loopw [11] (fun i wx => ∃ b : Nat, b ≤ N ∧ i = .int .i64 b ∧ Pt w wx k N g7 P a b) (fun i _ => N - (intOf i).toNat)
              case atStart => exact ⟨0, by omega, rfl, HT.out⟩
              case round =>
                obtain ⟨b, hb, rfl, hPt⟩ := hrel
                have hcell := HGA.out wr b hPt
                have HU := Lib.hid hPt; clear hPt
                by_cases hlt4 : b < N
                · have hth := HU.out.lay.there hlt3 hlt4
                  have hst := HU.out.store hlt3 hlt4
                  rw [HPA.out] at hth hst
                  have HTH := Lib.hid hth; have HST := Lib.hid hst; clear hth hst
                  go_wp2_with ((with_reducible refine at_store (t := 28) (p := 73) rfl ?_); refine wpList_store_mid rfl 28 _ _ rfl ga (b * 7) #[.string ⟨#[]⟩, .int .i64 (1000 + (a : Int)), .bool false, .int .i64 0, .int .i64 0, .int .i64 0, .int .i64 0] rfl rfl HTH.out (by kernel_rfl) (by kernel_rfl) ?_)
                  go_roundw
                  case rel => exact ⟨b + 1, by omega, by go_num, HST.out⟩
                  case measure => simp [intOf]; omega
                · obtain rfl : b = N := by omega
                  go_wp2_with fail
                  go_roundw
                  case rel => exact ⟨a + 1, by omega, by go_num, HU.out.up hlt3⟩
                  case measure => simp [intOf]; omega
            · obtain rfl : a = k := by omega
              have hKp := HT.out.kp
              have HK := Lib.hid hKp; clear hKp HT HX HBX
              go_wp2_with fail
              obtain ⟨w5, rfl⟩ : ∃ w5 : World, w5 = wr := ⟨_, rfl⟩
              go_loopw [12, 13] (fun v i wx => ∃ (d : Nat) (ks : List Sl), d ≤ a ∧ i = .int .i64 d ∧ Kp w wx a N g7 P v d ks) (fun _ i _ => a - (intOf i).toNat)
              case atStart => exact ⟨0, [], by omega, rfl, HK.out⟩
              case round =>
                obtain ⟨d, ks, hd, rfl, hKp⟩ := hrel
                have HQ := Lib.hid hKp; clear hKp HK
                obtain ⟨wk, rfl⟩ : ∃ wk : World, wk = wr := ⟨_, rfl⟩
                by_cases hlt5 : d < a
                · obtain ⟨⟨gd, nd, cd⟩, hpd⟩ : ∃ q, P d = q := ⟨_, rfl⟩
                  have hmd := HQ.out.mono d hlt5
                  have hld := (HQ.out.lay.sl d hlt5).1
                  have hcd := HQ.out.lay.row d hlt5
                  rw [hpd] at hmd hld hcd
                  have e2 : nd = N := hld
                  subst e2
                  have hcell : wk.cell? ⟨g7, d, none⟩ = some (.slice (some ⟨gd, 0, none⟩) nd cd) := hcd
                  have HPD := Lib.hid hpd; have HMD := Lib.hid hmd; clear hpd hmd hld hcd
                  go_wp2_with fail
                  go_loopw [14, 15] (fun v i wx => ∃ (b : Nat) (pa : Sl), b ≤ 2 * nd ∧ i = .int .i64 b ∧ v = val pa ∧ Ap wk wx d pa gd (nd + b)) (fun _ i _ => 2 * nd - (intOf i).toNat)
                  case atStart => exact ⟨0, (gd, nd, cd), by omega, rfl, rfl, ⟨HMD.out, rfl, Paints.refl _ _ _, .inl rfl⟩⟩
                  case round =>
                    obtain ⟨b, pa, hb, rfl, rfl, hAp⟩ := hrel
                    have HA := Lib.hid hAp; clear hAp
                    have hgd : gd < wk.heap.size := HMD.out.1.2.2.1
                    by_cases hb2 : b < 2 * nd ∧ d < 8
                    · obtain ⟨hb3, hd8⟩ := hb2
                      have HMA := Lib.hid (Part_alloc HA.out.mono (.cells #[.string ⟨#[]⟩, .int .i64 (1000 + (d : Int)), .bool false, .int .i64 0, .int .i64 0, .int .i64 0, .int .i64 0] 28))
                      have HNW := Lib.hid (news_new wr d)
                      have hl := HA.out.len
                      have hml : pa.2.1 + 1 ≤ maxLen := by unfold maxLen; omega
                      have hby : (pa.2.1 + 1) * 64 ≤ 140737488355328 := by omega
                      have HL2 := Lib.hid hl; clear hl
                      go_wp2_with ((at_builtin; refine wpList_append_paints _ rfl _ _ 23 rfl i8 _ 64 Tryd.underlying23 ha0 ha1 ha2 ha3 rfl (mark d) (mark_len d) (mark_one d) pa rfl HMA.out ⟨wr.heap.size, 0, none⟩ 1 rfl HNW.out hml hby ?_; intro p2 w6 m1 m2 m3 m4; have hnx := HA.out.next hgd m1 m2 m3 m4; have HNX := Lib.hid hnx; clear hnx m1 m2 m3 m4 hml hby HMA HNW))
                      go_roundw
                      case rel => exact ⟨b + 1, p2, by omega, by go_num, rfl, HNX.out⟩
                      case measure => simp [intOf]; omega
                    · have hcases : ¬ b < 2 * nd ∨ ¬ d < 8 := by omega
                      have hcell6 : wr.cell? ⟨g7, d, none⟩ = some (.slice (some ⟨gd, 0, none⟩) nd cd) := by
                        rw [cell_grown HA.out.paints.1 HQ.out.lay.lt (fun e => by
                          have h := (HQ.out.lay.sl d hlt5).2.2.2
                          rw [HPD.out] at h
                          exact h (Option.some.inj e).symm)]
                        exact hcell
                      clear hb2
                      have hcd3 : decide ((b : Int) < 2 * (nd : Int)) = false ∨ decide ((b : Int) < 2 * (nd : Int)) = true ∧ decide ((d : Int) < 8) = false := by simp; omega
                      clear hcases
                      obtain ⟨g4, n4, c4⟩ := pa
                      have HMB := Lib.hid (show Mono (wr.alloc (.cells #[.string ⟨#[]⟩, .int .i64 (1000 + (d : Int)), .bool false, .int .i64 0, .int .i64 0, .int .i64 0, .int .i64 0] 28)).drew (mark d) (gd, nd, cd) from Part_alloc (Part_paints (mark_len d) HA.out.paints HMD.out) (.cells #[.string ⟨#[]⟩, .int .i64 (1000 + (d : Int)), .bool false, .int .i64 0, .int .i64 0, .int .i64 0, .int .i64 0] 28))
                      have HNB := Lib.hid (show ∀ j u, (mark d)[j]? = some u → (wr.alloc (.cells #[.string ⟨#[]⟩, .int .i64 (1000 + (d : Int)), .bool false, .int .i64 0, .int .i64 0, .int .i64 0, .int .i64 0] 28)).drew.cell? ((⟨wr.heap.size, 0, none⟩ : Addr).add j) = some u from news_new wr d)
                      have hml : nd + 1 ≤ maxLen := by unfold maxLen; omega
                      have hby : (nd + 1) * 64 ≤ 140737488355328 := by omega
                      rw [show val (g4, n4, c4) = .slice (some ⟨g4, 0, none⟩) n4 c4 from rfl]
                      have hwr : IntKind.i64.wrap (1000 + (d : Int)) = 1000 + (d : Int) := by rw [IntKind.wrap_i64]; omega
                      have hq7 := HQ.out.lay.lt
                      have hlt7 : g7 < wr.heap.size := Nat.lt_of_lt_of_le hq7 HA.out.paints.1.size
                      have hne7 : gd ≠ g7 := by
                        have h := (HQ.out.lay.sl d hlt5).2.2.2
                        rw [HPD.out] at h
                        exact h
                      have hbd3 : (3 * d + 3) * 24 ≤ 140737488355328 := by omega
                      have hml3 : 3 * d + 3 ≤ maxLen := by unfold maxLen; omega
                      have hbw := HQ.out.lay.below.size
                      have hsz1 := HA.out.paints.1.size
                      rcases hcd3 with hg1 | ⟨hg1, hg2⟩
                      all_goals
                        go_wp2_with fail
                        go_region_held3 (fun w' => w'.cell? ⟨g7, d, none⟩ = some (.slice (some ⟨gd, 0, none⟩) nd cd)) (first | go_keep | assumption)
                          (first | (refine step_append_paints rfl _ _ 23 (by rfl) i8 _ 64 Tryd.underlying23 ha0 ha1 ha2 ha3 rfl (mark d) (mark_len d) (mark_one d) (gd, nd, cd) (by rfl) HMB.out ⟨wr.heap.size, 0, none⟩ 1 (by rfl) HNB.out hml hby ?_; rintro ⟨g3, n3, c3⟩ w7 m1 m2 m3 m4; have hkeep : w7.cell? ⟨g7, d, none⟩ = some (.slice (some ⟨gd, 0, none⟩) nd cd) := (keep_cell m3 hlt7 hne7).trans hcell6; have HO7 := Lib.hid (HQ.out.own7 hlt5 HPD.out HA.out.paints m3 (.cells #[.slice (some ⟨gd, 0, none⟩) nd cd, .slice (some ⟨g3, 0, none⟩) n3 c3, .slice (some ⟨g4, 0, none⟩) n4 c4] 23)); have hsz7 := m3.1.size; have HZ7 := Lib.hid hsz7; clear hsz7; rw [show val (g3, n3, c3) = .slice (some ⟨g3, 0, none⟩) n3 c3 from rfl]; have H7 := Lib.hid (And.intro m1 (And.intro m2 (And.intro m3 m4))); clear m1 m2 m3 m4) | (refine step_append_lies _ (by rfl) _ _ 22 (by rfl) w.heap.size 23 i0 _ 1 24 Tryd.underlying22 hi0 hz0 hz1 hz2 rfl (by decide) _ (3 * d) (ks.map val) (by rfl) HO7.out ⟨w7.heap.size, 0, none⟩ 3 3 [.slice (some ⟨gd, 0, none⟩) nd cd, .slice (some ⟨g3, 0, none⟩) n3 c3, .slice (some ⟨g4, 0, none⟩) n4 c4] (by rfl) (by rfl) (news_of w7 _ 23) (by simp [Value.oneCell']) (by decide) hml3 hbd3 (by have := HZ7.out; simp at this ⊢; omega) (w7.heap.size + 1) (by simp) ?_; intro gk ck w8 ho8 hg8 hv8 hlt8; have hkeep8 : w8.cell? ⟨g7, d, none⟩ = some (.slice (some ⟨gd, 0, none⟩) nd cd) := (cell_grown (grownBy_alloc_trans hg8) (lt_of_drew hlt7 HZ7.out) HQ.out.far.2).trans hkeep; have HO8 := Lib.hid ho8; have HG8 := Lib.hid hg8; have HV8 := Lib.hid hv8; clear ho8 hg8 hv8 hlt8))
                        go_wp2_with fail
                        go_roundw
                        case rel =>
                          obtain ⟨m1, m2, m3, m4⟩ := H7.out
                          have hgdk : gd < wk.heap.size := hgd
                          have hover := HA.out.paints.over hgdk m3
                          refine ⟨d + 1, _, by omega, by go_num, HQ.out.next (pA := (gd, nd, cd)) (pB := (g3, n3, c3)) (pC := (g4, n4, c4)) hlt5 (by rw [HPD.out]; exact hover) (fun p hp => ?_) HO8.out HG8.out HV8.out⟩
                          rw [HPD.out]
                          rcases hp with rfl | rfl | rfl
                          · exact ⟨Part_paints (mark_len d) hover HMD.out, .inl rfl⟩
                          · refine ⟨m1, ?_⟩
                            rcases m4 with m4 | m4
                            · exact .inl m4
                            · refine .inr (Nat.le_trans hsz1 (Nat.le_trans ?_ m4))
                              show wr.heap.size ≤ (wr.alloc _).heap.size
                              simp
                          · exact ⟨Part_drew_paints (mark_len d) HA.out.mono m3, HA.out.lies⟩
                        case measure => simp [intOf]; omega
                · obtain rfl : d = a := by omega
                  obtain ⟨gx, cx, R, rfl, hR⟩ := HQ.out.out (by omega)
                  have HRR := Lib.hid hR; clear hR
                  go_wp2_with fail
                  go_loopw [16] (fun i wx => ∃ e : Nat, e ≤ 3 * d ∧ i = .int .i64 e ∧ wk = wx) (fun i _ => 3 * d - (intOf i).toNat)
                  case atStart => exact ⟨0, by omega, rfl, rfl⟩
                  case round =>
                    obtain ⟨e, he, rfl, rfl⟩ := hrel
                    by_cases hlt6 : e < 3 * d
                    · obtain ⟨⟨ge, ne, ce⟩, hpe⟩ : ∃ q, R e = q := ⟨_, rfl⟩
                      obtain ⟨hce, hme⟩ := HRR.out e hlt6
                      rw [hpe] at hce hme
                      have hce' : wk.cell? ⟨gx, e, none⟩ = some (.slice (some ⟨ge, 0, none⟩) ne ce) := hce
                      have HME := Lib.hid hme
                      have hcap : ne ≤ maxLen := Nat.le_trans hme.1.1 hme.1.2.1
                      unfold maxLen at hcap
                      clear hce hme hpe
                      go_wp2_with fail
                      go_loopw [17] (fun i wx => ∃ b : Nat, b ≤ ne ∧ i = .int .i64 b ∧ wk = wx) (fun i _ => ne - (intOf i).toNat)
                      case atStart => exact ⟨0, by omega, rfl, rfl⟩
                      case round =>
                        obtain ⟨b, hb, rfl, rfl⟩ := hrel
                        by_cases hlt7 : b < ne
                        · have hdiv : ((e / 3 : Nat) : Int) = (e : Int) / 3 := by omega
                          have f := fun i u => HME.out.at hlt7 i u
                          have f0 : wk.cell? ⟨ge, b * 7, none⟩ = _ := f 0 _ rfl
                          have f1 : wk.cell? ⟨ge, b * 7 + 1, none⟩ = some (.int .i64 (1000 + (e : Int) / 3)) := by rw [← hdiv]; exact f 1 _ rfl
                          have f2 := f 2 _ rfl; have f3 := f 3 _ rfl; have f4 := f 4 _ rfl; have f5 := f 5 _ rfl; have f6 := f 6 _ rfl
                          clear f hdiv
                          go_wp2_with fail
                          go_roundw
                          case rel => exact ⟨b + 1, by omega, by go_num, trivial⟩
                          case measure => simp [intOf]; omega
                        · go_wp2_with fail
                          go_roundw
                          case rel => exact ⟨e + 1, by omega, by go_num, trivial⟩
                          case measure => simp [intOf]; omega
                    · go_wp2_with fail
                      refine (hask.out _ (by rw [HQ.out.lay.below.block gb hgb]; exact hg.out)).mono ?_
                      rintro e9 w9 ⟨v9, rfl, ho9, hb9⟩
                      obtain ⟨⟨g9, n9, c9⟩, rfl, hp1, hp2, hp3, hp4⟩ := own_sl ho9 (by rw [← hN.out]; exact h0)
                      have e9 : n9 = N := by rw [hN.out]; exact hp1
                      subst e9
                      have hrd : Reads w9 g9 xs := fun i j u hi hu => by
                        have hj : j < 7 := by
                          have := (List.getElem?_eq_some_iff.1 hu).1
                          have e : ((xs.getD i zc).cells).length = 7 := rfl
                          omega
                        rw [hp4 _ (by omega)]
                        exact cells_flat xs i j u hi hu
                      have HRD := Lib.hid hrd; have HB9 := Lib.hid hb9
                      rw [show val (g9, n9, c9) = .slice (some ⟨g9, 0, none⟩) n9 c9 from rfl]
                      clear hp1 hp2 hp3 hp4 ho9 hrd hb9
                      go_wp2_with fail
                      have hbl := HQ.out.lay.below.trans (HB9.out.mono HQ.out.lay.below.size)
                      refine (same _ _ _ _ _ _ xs hN.out (by omega) HRD.out (Reads_below hbl hwb hwant.out)).mono ?_
                      have HBL := Lib.hid hbl; clear hbl
                      rintro e10 w10 ⟨rfl, hb10⟩
                      have HB10 := Lib.hid hb10; clear hb10
                      go_wp2_with fail
                      go_ret
                      exact ⟨rfl, HBL.out.trans (HB10.out.mono HBL.out.size)⟩
end Go.Proofs.YtdhkhjfjjbdkgaaDoor.Tab
