/- larderlaw11.TextRows walked. -/
import Derived.Test.YtdhkhjfjjbdkgaaDoorTab13
import Derived.OwnWalk
import Derived.Deep.RegionHeld3
import Derived.Deep.RegionLaw
namespace Go.Proofs.YtdhkhjfjjbdkgaaDoor.Tab
open Go.RowKit
set_option linter.unusedVariables false
set_option linter.unusedSimpArgs false
set_option maxHeartbeats 1000000 in
theorem named9' (b n c : Nat) (s : ByteArray) (w : World) (hn : n ≤ 9223372036854775807) (h : ∀ k, k < n → w.cell? ⟨b, k * 7, none⟩ = some (.string s)) :
    Calls Tryd.prog 9 #[.slice (some ⟨b, 0, none⟩) n c, .string s] w fun e w' => e = .returned (.bool true) ∧ w = w' := by
  have H := Lib.hid h; clear h
  go_enter Tryd.func9, Tryd.ntmps9
  go_wp2
  go_loop [5] (fun i => ∃ k : Nat, k ≤ n ∧ i = .int .i64 k) (fun i => n - (intOf i).toNat)
  case atStart => exact ⟨0, Nat.zero_le _, rfl⟩
  case round =>
    obtain ⟨k, hk, rfl⟩ := hrel
    by_cases hlt : k < n
    · have hc := H.out k hlt
      go_wp2
      go_round
      case rel => exact ⟨k + 1, by omega, by go_num⟩
      case measure => simp [intOf]; omega
    · go_wp2
      go_ret
      exact ⟨rfl, rfl⟩
theorem step_S {wb W w5 : World} {R : Prop} (h : Below wb.heap.size wb W ∧ R) (h5 : Below W.heap.size W w5) : Below wb.heap.size wb w5 := h.1.trans (h5.mono h.1.size)
theorem fst_S {A R : Prop} (h : A ∧ R) : A := h.1
theorem mono_name {w wx : World} {d : Nat} {p : Sl} (h : Mono w (tmk d) p) (hb : Below w.heap.size w wx) : p.2.1 ≤ 9223372036854775807 ∧ ∀ k, k < p.2.1 → wx.cell? ⟨p.1, k * 7, none⟩ = some (.string (ms d)) := by
  refine ⟨?_, name_at (Part_below hb h)⟩
  have h1 := h.1.1
  have h2 := h.1.2.1
  unfold maxLen at h2
  omega
theorem reads_of_own' {w : World} {base : Nat} {p : Sl} {n : Nat} {xs : List Cmd} (hl : xs.length = n) (h : ∀ j, j < n * 7 → w.cell? ⟨p.1, j, none⟩ = (xs.flatMap Cmd.cells)[j]?) : Reads w p.1 xs := fun i j u hi hu => by
  have hj : j < 7 := by
    have := (List.getElem?_eq_some_iff.1 hu).1
    have e : ((xs.getD i zc).cells).length = 7 := rfl
    omega
  rw [h _ (by omega)]
  exact cells_flat xs i j u hi hu
def Halt (p : Prop) : Prop := p
theorem halt {p : Prop} (h : Halt p) : p := h
theorem unhalt {p : Prop} (h : p) : Halt p := h
set_option maxHeartbeats 8000000 in
set_option maxRecDepth 100000 in
set_option pp.deepTerms true in
set_option pp.maxSteps 1000000 in
theorem text_walk (w : World) (t : TypeId) (fr : Nat × Nat) (hg0 : w.heap[0]? = some (.cells (textC.flatMap Cmd.cells).toArray t fr)) :
    Calls Tryd.prog 3 #[] w fun e w' => e = .returned (.bool true) ∧ Below w.heap.size w w' := by
  have hgb : 0 < w.heap.size := (Array.getElem?_eq_some_iff.1 hg0).1
  have hg := Lib.hid hg0; clear hg0
  obtain ⟨i0, hi0, hz0, hz1, hz2⟩ := info_parts info23
  obtain ⟨i8, ha0, ha1, ha2, ha3⟩ := info_parts info28
  have hask := Lib.hid (textC_asks t fr)
  go_enter Tryd.func3, Tryd.ntmps3
  go_wp2_with fail
  go_loopw [1, 2] (fun v i wr => ∃ (k : Nat) (ls : List Sl), k ≤ 40 ∧ i = .int .i64 k ∧ L1 w wr textC v k ls) (fun _ i _ => 40 - (intOf i).toNat)
  case atStart => exact ⟨0, [], by omega, rfl, L1.zero w textC⟩
  case round =>
    obtain ⟨k, ls, hk, rfl, hL⟩ := hrel
    have HL := Lib.hid hL; clear hL
    by_cases hlt : k < 40
    · go_wp2_with fail
      have hB := HL.out.below
      refine (hask.out _ (by rw [hB.block 0 hgb]; exact hg.out)).mono ?_
      clear hB
      rintro e w1 ⟨v1, rfl, ho, hb⟩
      obtain ⟨⟨gp, np, cp⟩, rfl, hp1, hp2, hp3, hp4⟩ := own_sl ho (by rw [textC_len]; omega)
      have HP1 := Lib.hid hp1; have HP2 := Lib.hid hp2; have HP3 := Lib.hid hp3; have HP4 := Lib.hid hp4; clear hp1 hp2 hp3 hp4 ho
      rw [show val (gp, np, cp) = .slice (some ⟨gp, 0, none⟩) np cp from rfl]
      have hL1 := HL.out.same hb
      have HL1 := Lib.hid hL1
      have hown := hL1.own
      have hz := hb.size
      have hlb := hL1.below.size
      have hlb0 := HL.out.below.size
      have HVO := Lib.hid (show ∀ b, u1.ownBlock = some b → b < wr.heap.size from fun b hb => (HL.out.own.lt b hb).2)
      have HVB := Lib.hid (show ∀ b, u1.ownBlock = some b → w.heap.size ≤ b from fun b hb => (HL.out.own.lt b hb).1)
      clear hL1
      have hbd : (k + 1) * 24 ≤ 140737488355328 := by omega
      have hml : k + 1 ≤ maxLen := by unfold maxLen; omega
      have hba : w.heap.size ≤ (w1.alloc (.cells #[.slice (some ⟨gp, 0, none⟩) np cp] 23)).heap.size := by simp; omega
      have HH := Lib.hid (show (w1.alloc (.cells #[.slice (some ⟨gp, 0, none⟩) np cp] 23)).heap.size = w1.heap.size + 1 by simp)
      have hc1 : ∀ j u, [Value.slice (some ⟨gp, 0, none⟩) np cp][j]? = some u → (w1.alloc (.cells #[.slice (some ⟨gp, 0, none⟩) np cp] 23)).cell? ((⟨w1.heap.size, 0, none⟩ : Addr).add j) = some u := cell_one_new _ _ _
      have HC1 := Lib.hid hc1; clear hc1
      go_wp2_with ((at_builtin; refine wpList_append_lies _ rfl _ _ 22 rfl w.heap.size 23 i0 _ 1 24 Tryd.underlying22 hi0 hz0 hz1 hz2 rfl (by decide) _ k (ls.map val) rfl (hown.alloc _) ⟨w1.heap.size, 0, none⟩ 1 1 [.slice (some ⟨gp, 0, none⟩) np cp] rfl rfl HC1.out (by simp [Value.oneCell']) (by decide) hml hbd hba (w1.heap.size + 1) HH.out ?_; intro g cap w2 ho2 hg2 hv2 hlt2; have HO2 := Lib.hid ho2; have HG2 := Lib.hid hg2; have HV2 := Lib.hid hv2; clear ho2 hg2 hv2 hlt2 hown hbd hml hba HC1 HH))
      go_roundw
      case rel => exact ⟨k + 1, _, by omega, by go_num, HL1.out.next (p := (gp, np, cp)) hlb0 (fun q hq => (HL.out.each q hq).2.1.2.2.1) HVO.out HP1.out HP2.out HP3.out HP4.out HO2.out (grownBy_alloc_trans HG2.out) (by rcases HV2.out with h | h; exact .inl h; exact .inr (by omega)) HVB.out⟩
      case measure => simp [intOf]; omega
    · obtain rfl : k = 40 := by omega
      obtain ⟨g7, c7, P, rfl, hLay0, hRows⟩ := HL.out.lay (by omega)
      have hLay : Lay w wr 40 25 g7 P := hLay0
      clear hLay0
      have HY := Lib.hid hLay; have HR := Lib.hid hRows; clear hLay hRows HL
      clear hk hlt
      rw [show ((40 : Nat) : Int) = 40 from rfl]
      go_wp2_with fail
      obtain ⟨wo, rfl⟩ : ∃ wo : World, wo = wr := ⟨_, rfl⟩
      go_loopw [3] (fun i wx => ∃ j : Nat, j ≤ 40 ∧ i = .int .i64 j ∧ Below wo.heap.size wo wx) (fun i _ => 40 - (intOf i).toNat)
      case atStart => exact ⟨0, by omega, rfl, Below.refl _ _⟩
      case round =>
        obtain ⟨j, hj, rfl, hBx⟩ := hrel
        have HBX := Lib.hid hBx; clear hBx
        have hcj : j < 40 → wr.cell? ⟨g7, j, none⟩ = some (val (P j)) := fun h => by rw [cell_below HBX.out HY.out.lt]; exact HY.out.row j h
        by_cases hlt2 : j < 40
        · obtain ⟨⟨gj, nj, cj⟩, hpj⟩ : ∃ q, P j = q := ⟨_, rfl⟩
          have hsl := HY.out.sl j hlt2
          rw [hpj] at hsl
          have hcell := hcj hlt2
          rw [hpj] at hcell
          have e1 : nj = 25 := hsl.1
          subst e1
          have hrd : Reads wr gj textC := by
            have h := HR.out j hlt2
            rw [hpj] at h
            exact Reads_below HBX.out hsl.2.1.2.2.1 h
          have hgj : gj < wr.heap.size := Nat.lt_of_lt_of_le hsl.2.1.2.2.1 HBX.out.size
          have hcell' : wr.cell? ⟨g7, j, none⟩ = some (.slice (some ⟨gj, 0, none⟩) 25 cj) := hcell
          have HRD := Lib.hid hrd; clear hrd hcell hcj hsl hpj
          have hltw : g7 < wr.heap.size := Nat.lt_of_lt_of_le HY.out.lt HBX.out.size
          go_wp2_with fail
          refine (rows7 _ _ _ HRD.out hgj).mono ?_
          rintro e w3 ⟨rfl, hb3⟩
          have hc3 : w3.cell? ⟨g7, j, none⟩ = some (.slice (some ⟨gj, 0, none⟩) 25 cj) := by rw [cell_below hb3 hltw]; exact hcell'
          have HB3 := Lib.hid hb3; clear hb3 hcell'
          go_wp2_with fail
          go_roundw
          case rel => exact ⟨j + 1, by omega, by go_num, HBX.out.trans (HB3.out.mono HBX.out.size)⟩
          case measure => simp [intOf]; omega
        · have hLx := HY.out.same HBX.out
          have HX := Lib.hid hLx; clear hLx hcj
          go_wp2_with fail
          obtain ⟨w2, rfl⟩ : ∃ w2 : World, w2 = wr := ⟨_, rfl⟩
          go_loopw [4] (fun i wx => ∃ a : Nat, a ≤ 40 ∧ i = .int .i64 a ∧ Tp w wx 40 25 g7 P a 0) (fun i _ => 40 - (intOf i).toNat)
          case atStart => exact ⟨0, by omega, rfl, HX.out.tp⟩
          case round =>
            obtain ⟨a, ha, rfl, hPt⟩ := hrel
            have HT := Lib.hid hPt; clear hPt
            by_cases hlt3 : a < 40
            · go_wp2_with fail
              obtain ⟨w4, rfl⟩ : ∃ w4 : World, w4 = wr := ⟨_, rfl⟩
              obtain ⟨⟨ga, na, ca⟩, hpa⟩ : ∃ q, P a = q := ⟨_, rfl⟩
              have HPA := Lib.hid hpa; clear hpa
              have hga : ∀ wx b, Tp w wx 40 25 g7 P a b → wx.cell? ⟨g7, a, none⟩ = some (.slice (some ⟨ga, 0, none⟩) 25 ca) := fun wx b h => by
                have h2 := h.lay.row a hlt3
                have h3 := (h.lay.sl a hlt3).1
                rw [HPA.out] at h2 h3
                rw [h2, ← h3]; rfl
              have HGA := Lib.hid hga; clear hga
              go_loopw [5] (fun i wx => ∃ b : Nat, b ≤ 25 ∧ i = .int .i64 b ∧ Tp w wx 40 25 g7 P a b) (fun i _ => 25 - (intOf i).toNat)
              case atStart => exact ⟨0, by omega, rfl, HT.out⟩
              case round =>
                obtain ⟨b, hb, rfl, hPt⟩ := hrel
                have hcell := HGA.out wr b hPt
                have HU := Lib.hid hPt; clear hPt
                by_cases hlt4 : b < 25
                · have hlg := HU.out.lay.lt
                  go_wp2_with fail
                  have HK := Lib.hid (HU.out.drawn hlt3 hlt4 HPA.out hcell)
                  go_region_law (go_simp; go_at_call 8; refine (mark8 a hlt3 _).mono ?_; rintro e5 w5 ⟨rfl, hb5⟩; obtain ⟨hk5, ⟨v0, v1, v2, v3, v4, v5, v6, x0, x1, x2, x3, x4, x5, x6, y0, y1, y2, y3, y4, y5, y6⟩, hst⟩ := HK.out w5 hb5; have HST := Lib.hid hst; have HB5 := Lib.hid hb5; clear hb5 hst)
                  all_goals
                    clear x0 x1 x2 x3 x4 x5 x6 y0 y1 y2 y3 y4 y5 y6 hk5
                    go_wp2_with fail
                    go_roundw
                    case rel => exact ⟨b + 1, by omega, by go_num, HST.out⟩
                    case measure => simp [intOf]; omega
                · obtain rfl : b = 25 := by omega
                  go_wp2_with fail
                  go_roundw
                  case rel => exact ⟨a + 1, by omega, by go_num, HU.out.up hlt3⟩
                  case measure => simp [intOf]; omega
            · obtain rfl : a = 40 := by omega
              have hM := Main.start HT.out
              have HM := Lib.hid hM; clear hM HT HX HBX
              rw [show ((40 : Nat) : Int) = 40 from rfl]
              go_wp2_with fail
              obtain ⟨w6, rfl⟩ : ∃ w6 : World, w6 = wr := ⟨_, rfl⟩
              go_loopw [6, 7, 8] (fun v6 v7 i wx => ∃ (d : Nat) (pa : Sl) (e : Nat), d ≤ 40 ∧ i = .int .i64 d ∧ Main w wx g7 P v6 v7 d d pa e) (fun _ _ i _ => 40 - (intOf i).toNat)
              case atStart => exact ⟨0, _, 0, by omega, rfl, HM.out⟩
              case round =>
                obtain ⟨d, pz, ez, hd, rfl, hMd⟩ := hrel
                have HD := Lib.hid hMd; clear hMd HM
                by_cases hlt5 : d < 40
                · have hS := HD.out.switch hlt5
                  obtain ⟨⟨gd, nd, cd⟩, hpd⟩ : ∃ q, P d = q := ⟨_, rfl⟩
                  have hrow := HD.out.row hlt5
                  have hnd := (HY.out.sl d hlt5).1
                  rw [hpd] at hS hrow hnd
                  have e2 : nd = 25 := hnd
                  subst e2
                  have hcell : wr.cell? ⟨g7, d, none⟩ = some (.slice (some ⟨gd, 0, none⟩) 25 cd) := hrow
                  have HS := Lib.hid hS; clear hS hpd hrow hnd
                  go_wp2_with fail
                  have hdd : decide ((d : Int) < 40) = true := by simp; omega
                  rw [hdd]
                  clear hdd
                  obtain ⟨w7, rfl⟩ : ∃ w7 : World, w7 = wr := ⟨_, rfl⟩
                  go_loopw [6, 9, 10] (fun v6 v9 i wx => ∃ (b : Nat) (pa : Sl), b ≤ 70 ∧ i = .int .i64 b ∧ v9 = val pa ∧ pa.2.1 = 25 + b ∧ Main w wx g7 P v6 u7 (if b = 0 then d else d + 1) d pa d) (fun _ _ i _ => 70 - (intOf i).toNat)
                  case atStart => exact ⟨0, (gd, 25, cd), by omega, rfl, rfl, rfl, HS.out⟩
                  case round =>
                    obtain ⟨b, pa, hb, rfl, rfl, hlen, hMb⟩ := hrel
                    have HLN := Lib.hid hlen
                    have hlen2 : pa.2.1 ≤ 25 + b := by omega
                    clear hlen
                    by_cases hlt6 : b < 70
                    · by_cases hb0 : b = 0
                      · subst hb0
                        rw [if_pos rfl] at hMb
                        have HB := Lib.hid hMb; clear hMb
                        rw [show ((0 : Nat) : Int) = 0 from rfl]
                        go_wp2_with fail
                        refine (mark8 d hlt5 _).mono ?_
                        rintro e5 w5 ⟨rfl, hb5⟩
                        have hB5 := HB.out.below_ hb5
                        have hB6 := hB5.below_ (below_alloc' w5 (.cells #[.string (ms d), .int .i64 0, .bool false, .int .i64 0, .int .i64 0, .int .i64 0, .int .i64 0] 28))
                        have HB6 := Lib.hid hB6; have HNW := Lib.hid (news_txt w5 d)
                        clear hb5 hB5 hB6
                        have hml : pa.2.1 + 1 ≤ maxLen := by unfold maxLen; omega
                        have hby : (pa.2.1 + 1) * 64 ≤ 140737488355328 := by omega
                        go_wp2_with (first | (at_builtin; refine wpList_append_paints _ rfl _ _ 23 rfl i8 _ 64 Tryd.underlying23 ha0 ha1 ha2 ha3 rfl (tmk d) (tmk_len d) (tmk_one d) pa rfl HB6.out.mono.1 ⟨w5.heap.size, 0, none⟩ 1 rfl HNW.out hml hby ?_; rintro ⟨gq, nq, cq⟩ w8 m1 m2 m3 m4; have HM8 := Lib.hid (HB6.out.paint m1 m3 m4); have hnq : nq = pa.2.1 + 1 := m2; have HNQ := Lib.hid hnq; clear m1 m2 m3 m4 hnq hml hby HB6 HNW; rw [show val (gq, nq, cq) = .slice (some ⟨gq, 0, none⟩) nq cq from rfl]) | ((with_reducible refine at_dst (N := 83) rfl ?_); refine halt ?_))
                        refine unhalt ?_
                        have hX := HM8.out.below_ (below_alloc' w8 (.cells #[.slice (some ⟨gq, 0, none⟩) nq cq] 23))
                        obtain ⟨fs, hown, hk2⟩ := hX.own6
                        have HK2 := Lib.hid hk2
                        have HH2 := Lib.hid (show (w8.alloc (.cells #[.slice (some ⟨gq, 0, none⟩) nq cq] 23)).heap.size = w8.heap.size + 1 by simp)
                        have hml2 : d + 1 ≤ maxLen := by unfold maxLen; omega
                        have hbd2 : (d + 1) * 24 ≤ 140737488355328 := by omega
                        have hba2 : w.heap.size ≤ (w8.alloc (.cells #[.slice (some ⟨gq, 0, none⟩) nq cq] 23)).heap.size := by (have := HM8.out.mono.2.1.size; simp; omega)
                        clear hX hk2
                        at_builtin
                        refine wpList_append_lies _ rfl _ _ 22 rfl w.heap.size 23 i0 _ 1 24 Tryd.underlying22 hi0 hz0 hz1 hz2 rfl (by decide) _ d (fs.map val) rfl hown ⟨w8.heap.size, 0, none⟩ 1 1 [.slice (some ⟨gq, 0, none⟩) nq cq] rfl rfl (cell_one_new _ _ _) (by simp [Value.oneCell']) (by decide) hml2 hbd2 hba2 (w8.heap.size + 1) HH2.out ?_
                        intro g9 c9 w9 ho2 hg2 hv2 hlt2
                        have HN := Lib.hid (HK2.out g9 c9 w9 hg2 (by rcases hv2 with h | h; exact .inl h; exact .inr (by have := HH2.out; omega)) (by trivial) ho2)
                        clear ho2 hg2 hv2 hlt2 hown hml2 hbd2 hba2 HH2 HK2
                        go_wp2_with fail
                        go_roundw
                        case rel => exact ⟨0 + 1, (gq, nq, cq), by omega, by go_num, rfl, by have := HNQ.out; have := HLN.out; show nq = _; omega, by rw [if_neg (by omega)]; exact HN.out⟩
                        case measure => simp [intOf]
                      · rw [if_neg hb0] at hMb
                        have HB := Lib.hid hMb; clear hMb
                        have hbz : ((b : Int) == 0) = false := by simp; omega
                        go_wp2_with fail
                        refine (mark8 d hlt5 _).mono ?_
                        rintro e5 w5 ⟨rfl, hb5⟩
                        have hB5 := HB.out.below_ hb5
                        have hB6 := hB5.below_ (below_alloc' w5 (.cells #[.string (ms d), .int .i64 0, .bool false, .int .i64 0, .int .i64 0, .int .i64 0, .int .i64 0] 28))
                        have HB6 := Lib.hid hB6; have HNW := Lib.hid (news_txt w5 d)
                        clear hb5 hB5 hB6
                        have hml : pa.2.1 + 1 ≤ maxLen := by unfold maxLen; omega
                        have hby : (pa.2.1 + 1) * 64 ≤ 140737488355328 := by omega
                        go_wp2_with (at_builtin; refine wpList_append_paints _ rfl _ _ 23 rfl i8 _ 64 Tryd.underlying23 ha0 ha1 ha2 ha3 rfl (tmk d) (tmk_len d) (tmk_one d) pa rfl HB6.out.mono.1 ⟨w5.heap.size, 0, none⟩ 1 rfl HNW.out hml hby ?_; rintro ⟨gq, nq, cq⟩ w8 m1 m2 m3 m4; have HM8 := Lib.hid (HB6.out.paint m1 m3 m4); have hnq : nq = pa.2.1 + 1 := m2; have HNQ := Lib.hid hnq; clear m1 m2 m3 m4 hnq hml hby HB6 HNW; rw [show val (gq, nq, cq) = .slice (some ⟨gq, 0, none⟩) nq cq from rfl])
                        go_roundw
                        case rel => exact ⟨b + 1, (gq, nq, cq), by omega, by go_num, rfl, by have := HNQ.out; have := HLN.out; show nq = _; omega, by rw [if_neg (by omega)]; exact HM8.out⟩
                        case measure => simp [intOf]; omega
                    · obtain rfl : b = 70 := by omega
                      rw [if_neg (by omega)] at hMb
                      obtain ⟨gp, np, cp⟩ := pa
                      have HP := Lib.hid hMb; clear hMb
                      rw [show val (gp, np, cp) = .slice (some ⟨gp, 0, none⟩) np cp from rfl]
                      have hX := HP.out.below_ (below_alloc' wr (.cells #[.slice (some ⟨gp, 0, none⟩) np cp] 23))
                      obtain ⟨fs, hown, hk2⟩ := hX.own7
                      have HK2 := Lib.hid hk2
                      have HH2 := Lib.hid (show (wr.alloc (.cells #[.slice (some ⟨gp, 0, none⟩) np cp] 23)).heap.size = wr.heap.size + 1 by simp)
                      have hml2 : d + 1 ≤ maxLen := by unfold maxLen; omega
                      have hbd2 : (d + 1) * 24 ≤ 140737488355328 := by omega
                      have hba2 : w.heap.size ≤ (wr.alloc (.cells #[.slice (some ⟨gp, 0, none⟩) np cp] 23)).heap.size := by (have := HP.out.mono.2.1.size; simp; omega)
                      clear hX hk2
                      go_wp2_with ((with_reducible refine at_dst (N := 87) rfl ?_); refine halt ?_)
                      refine unhalt ?_
                      at_builtin
                      refine wpList_append_lies _ rfl _ _ 22 rfl w.heap.size 23 i0 _ 1 24 Tryd.underlying22 hi0 hz0 hz1 hz2 rfl (by decide) _ d (fs.map val) rfl hown ⟨wr.heap.size, 0, none⟩ 1 1 [.slice (some ⟨gp, 0, none⟩) np cp] rfl rfl (cell_one_new _ _ _) (by simp [Value.oneCell']) (by decide) hml2 hbd2 hba2 (wr.heap.size + 1) HH2.out ?_
                      intro g9 c9 w9 ho2 hg2 hv2 hlt2
                      have HN := Lib.hid (HK2.out g9 c9 w9 hg2 (by rcases hv2 with h | h; exact .inl h; exact .inr (by have := HH2.out; omega)) (by trivial) ho2)
                      clear ho2 hg2 hv2 hlt2 hown hml2 hbd2 hba2 HH2 HK2
                      go_wp2_with fail
                      go_roundw
                      case rel => exact ⟨d + 1, (gp, np, cp), d, by omega, by go_num, HN.out⟩
                      case measure => simp [intOf]; omega
                · obtain rfl : d = 40 := by omega
                  rw [show ((40 : Nat) : Int) = 40 from rfl]
                  have hB := HD.out.mono.2.1
                  obtain ⟨g6, c6, gm, cm, R6, R7, rfl, rfl, hl6, hlm, hl7, hrows⟩ := HD.out.out
                  have HMO := Lib.hid hrows; have HBZ := Lib.hid hB
                  clear hrows hlt5 hB
                  obtain ⟨wz, rfl⟩ : ∃ wz : World, wz = wr := ⟨_, rfl⟩
                  go_wp2_with fail
                  refine (hask.out _ (by rw [HBZ.out.block 0 hgb]; exact hg.out)).mono ?_
                  rintro e w9 ⟨v1, rfl, ho, hb9⟩
                  obtain ⟨⟨gs, ns, cs⟩, rfl, hp1, hp2, hp3, hp4⟩ := own_sl ho (by rw [textC_len]; omega)
                  have e3 : ns = 25 := hp1
                  subst e3
                  have HRD := Lib.hid (reads_of_own' (base := 0) (p := (gs, 25, cs)) textC_len hp4)
                  have hlt9 : gs < w9.heap.size := hp2.2.2.1
                  have HB9 := Lib.hid hb9
                  rw [show val (gs, 25, cs) = .slice (some ⟨gs, 0, none⟩) 25 cs from rfl]
                  clear ho hp1 hp2 hp3 hp4 hb9
                  go_wp2_with fail
                  refine (rows7 _ _ _ HRD.out hlt9).mono ?_
                  rintro e w10 ⟨rfl, hb10⟩
                  have HB10 := Lib.hid hb10; clear hb10
                  go_wp2_with fail
                  go_loopw [11] (fun i wx => ∃ q : Nat, q ≤ 40 ∧ i = .int .i64 q ∧ Below wz.heap.size wz wx) (fun i _ => 40 - (intOf i).toNat)
                  case atStart => exact ⟨0, by omega, rfl, HB9.out.trans (HB10.out.mono HB9.out.size)⟩
                  case round =>
                    obtain ⟨q, hq, rfl, hBq⟩ := hrel
                    have HBQ := Lib.hid hBq; clear hBq
                    by_cases hlt7 : q < 40
                    · obtain ⟨f1, f2, f3, m1, m2, m3⟩ := HMO.out q hlt7
                      obtain ⟨⟨gp, np, cp⟩, hpq⟩ : ∃ p, P q = p := ⟨_, rfl⟩
                      obtain ⟨⟨gf, nf, cf⟩, hfq⟩ : ∃ p, R6 q = p := ⟨_, rfl⟩
                      obtain ⟨⟨gh, nh, ch⟩, hhq⟩ : ∃ p, R7 q = p := ⟨_, rfl⟩
                      rw [hpq] at f1 m1
                      rw [hfq] at f2 m2
                      rw [hhq] at f3 m3
                      have ALL := Lib.hid (show ∀ wx, Below wz.heap.size wz wx → (Below wz.heap.size wz wx ∧ wx.cell? ⟨g7, q, none⟩ = some (.slice (some ⟨gp, 0, none⟩) np cp) ∧ wx.cell? ⟨g6, q, none⟩ = some (.slice (some ⟨gf, 0, none⟩) nf cf) ∧ wx.cell? ⟨gm, q, none⟩ = some (.slice (some ⟨gh, 0, none⟩) nh ch)) from fun wx hb => ⟨hb, by rw [cell_below hb hl7]; exact f1, by rw [cell_below hb hl6]; exact f2, by rw [cell_below hb hlm]; exact f3⟩)
                      have N1 := Lib.hid (show ∀ wx (R : Prop), (Below wz.heap.size wz wx ∧ R) → ∀ k, k < np → wx.cell? ⟨gp, k * 7, none⟩ = some (.string (ms q)) from fun wx R hb => (mono_name m1 hb.1).2)
                      have N2 := Lib.hid (show ∀ wx (R : Prop), (Below wz.heap.size wz wx ∧ R) → ∀ k, k < nf → wx.cell? ⟨gf, k * 7, none⟩ = some (.string (ms q)) from fun wx R hb => (mono_name m2 hb.1).2)
                      have N3 := Lib.hid (show ∀ wx (R : Prop), (Below wz.heap.size wz wx ∧ R) → ∀ k, k < nh → wx.cell? ⟨gh, k * 7, none⟩ = some (.string (ms q)) from fun wx R hb => (mono_name m3 hb.1).2)
                      have L1 := Lib.hid (mono_name m1 (Below.refl _ _)).1
                      have L2 := Lib.hid (mono_name m2 (Below.refl _ _)).1
                      have L3 := Lib.hid (mono_name m3 (Below.refl _ _)).1
                      clear f1 f2 f3 m1 m2 m3 hpq hfq hhq
                      obtain ⟨hbq0, hc1, hc2, hc3⟩ := ALL.out wr HBQ.out
                      clear hbq0
                      go_wp2_with fail
                      go_region_held3 (fun w' => Below wz.heap.size wz w' ∧ w'.cell? ⟨g7, q, none⟩ = some (.slice (some ⟨gp, 0, none⟩) np cp) ∧ w'.cell? ⟨g6, q, none⟩ = some (.slice (some ⟨gf, 0, none⟩) nf cf) ∧ w'.cell? ⟨gm, q, none⟩ = some (.slice (some ⟨gh, 0, none⟩) nh ch)) (first | assumption | exact ALL.out _ HBQ.out.drew | exact ALL.out _ (step_S (by assumption) (by assumption))) (first | (go_at_call 8; refine (mark8 q hlt7 _).mono ?_; rintro e5 w5 ⟨rfl, hb5⟩) | (go_at_call 9; refine (named9' _ _ _ _ _ ?hn ?hh).mono ?_; (case hn => first | exact L1.out | exact L2.out | exact L3.out); (case hh => first | exact N1.out _ _ (by assumption) | exact N2.out _ _ (by assumption) | exact N3.out _ _ (by assumption)); rintro e5 w5 ⟨rfl, rfl⟩))
                      all_goals
                        have HBE := Lib.hid (fst_S (A := Below wz.heap.size wz _) (by assumption))
                        clear hc1 hc2 hc3
                        go_wp2_with fail
                        go_roundw
                        case rel => exact ⟨q + 1, by omega, by go_num, HBE.out⟩
                        case measure => simp [intOf]; omega
                    · go_wp2_with fail
                      have hBf := HBZ.out.trans (HBQ.out.mono HBZ.out.size)
                      have HBF := Lib.hid hBf; clear hBf
                      refine (hask.out _ (by rw [HBF.out.block 0 hgb]; exact hg.out)).mono ?_
                      rintro e w9 ⟨v1, rfl, ho, hb9⟩
                      obtain ⟨⟨gs, ns, cs⟩, rfl, hp1, hp2, hp3, hp4⟩ := own_sl ho (by rw [textC_len]; omega)
                      have e3 : ns = 25 := hp1
                      subst e3
                      have HRD := Lib.hid (reads_of_own' (base := 0) (p := (gs, 25, cs)) textC_len hp4)
                      have hlt9 : gs < w9.heap.size := hp2.2.2.1
                      have HB9 := Lib.hid hb9
                      rw [show val (gs, 25, cs) = .slice (some ⟨gs, 0, none⟩) 25 cs from rfl]
                      clear ho hp1 hp2 hp3 hp4 hb9
                      go_wp2_with fail
                      refine (rows7 _ _ _ HRD.out hlt9).mono ?_
                      rintro e w10 ⟨rfl, hb10⟩
                      have HB10 := Lib.hid hb10; clear hb10
                      go_wp2_with fail
                      go_ret
                      exact ⟨rfl, (HBF.out.trans (HB9.out.mono HBF.out.size)).trans (HB10.out.mono (Nat.le_trans HBF.out.size HB9.out.size))⟩
end Go.Proofs.YtdhkhjfjjbdkgaaDoor.Tab
