/- larderlaw16.RecordBurst, walked over its callees' contracts. -/
import Derived.Test.YtdhkhjfjjbdkgaaTornw
import Derived.Test.YtdhkhjfjjbdkgaaRLx11
namespace Go.Proofs.Ytdhkhjfjjbdkgaa.Rec
open List Go.RowKit Go.Proofs.YtdhkhjfjjbdkgaaW.PrintWords Go.Proofs.YtdhkhjfjjbdkgaaW.PrintLast Go.Proofs.YtdhkhjfjjbdkgaaW.PrintMore
set_option linter.unusedVariables false
set_option linter.unusedSimpArgs false
set_option maxHeartbeats 8000000 in
set_option maxRecDepth 100000 in
theorem burst_walk (k : Nat) (fst step : Int) (A0 : Option Addr) (c0 : Nat) (Gs : List (List S76)) (p1 p2 p3 p4 f st : Int) (w : World) (hr : Kd.C (Kd.slice 76 k76) w A0 Gs.length Gs) (hm : Gs.length ≤ 1048576)
    (hf : f = if fst < 1 then 1 else if fst > 1099511627776 then 1 else fst) (hst : Int.tmod step 1099511627776 = st) (hst0 : 0 ≤ st) (hst1 : st < 1099511627776)
    (htw : ∀ j : Nat, j ≤ 40 → ∀ G ∈ Gs, larderlaw16_twin.f k (f + j) (j * st) G = some (f + j, j * st, G))
    (hln : ∀ j : Nat, j ≤ 40 → ∀ G ∈ Gs, record_Line.f k (f + j) (j * st) G = some (if mayB (f + j) (j * st) G = true then (frameP (bodyP (f + j) (j * st) G), 0) else ([], 162)))
    (L : List S33) (log ends : List Int) (hP : rowP f st (Gs.take 40) = (L, log, ends)) (hlog : log.length ≤ 1343502640) (at_ fb : Int) (c : List Int) (h1 : larderlaw16_reads.f k log L ends L.length = some true) (hi : larderlaw16_into.f p3 (8 * (log.length : Int) + 1) = some at_) (hk : larderlaw16_turned.f k log at_ p4 = some (c, fb))
    (h2 : (fb < 0 ∧ larderlaw16_reads.f k c L ends L.length = some true) ∨ (¬ fb < 0 ∧ ∃ kk, larderlaw16_whole.f k ends fb = some kk ∧ larderlaw16_reads.f k c L ends kk = some true)) :
    Calls Try.prog 10 #[.agg #[.int .i64 fst, .int .u64 step, .slice A0 Gs.length c0, .int .i64 p1, .int .i64 p2, .int .i64 p3, .int .u64 p4]] w fun e w' => e = .returned (.bool true) ∧ Below w.heap.size w w' := by
  have HR := Aside0.mk hr; have HF := Aside0.mk hf; have HST := Aside0.mk hst; have HTW := Aside0.mk htw; have HLN := Aside0.mk hln; have HP := Aside0.mk hP; have H1 := Aside0.mk h1; have HI := Aside0.mk hi; have HK := Aside0.mk hk; have H2 := Aside0.mk h2
  clear hr hf hst htw hln hP h1 hi hk h2
  go_enter Try.func10, Try.ntmps10
  have HB0 := Aside0.mk ((Below.refl w.heap.size w).alloc (Nat.le_refl _) (.cells #[.int .i64 fst, .int .u64 step, .slice A0 Gs.length c0, .int .i64 p1, .int .i64 p2, .int .i64 p3, .int .u64 p4] 59))
  have HX0 := Aside0.mk (heap_alloc_new w (.cells #[.int .i64 fst, .int .u64 step, .slice A0 Gs.length c0, .int .i64 p1, .int .i64 p2, .int .i64 p3, .int .u64 p4] 59))
  have hu59 := Try.underlying59
  go_wp2_with fail
  refine (row_walk k fst step A0 c0 Gs p1 p2 p3 p4 f st _ (Kd.C_below HR.out HB0.out) hm HF.out HST.out hst0 hst1 HTW.out HLN.out).mono ?_
  rintro e w1 ⟨vl, vg, ve, xs, rfl, hb, hl, hg, he, hxe, hxg⟩
  rw [HP.out] at hg he hxe
  dsimp only at hg he hxe
  have hXL : xs.length = L.length := by rw [← hxe, List.length_map]
  obtain ⟨A3, c3, hv3⟩ := Kd.R_slice hl
  rw [hXL] at hv3
  subst hv3
  obtain ⟨A4, c4, rfl⟩ := Kd.R_slice hg
  obtain ⟨A5, c5, rfl⟩ := Kd.R_slice he
  have HT1 := Aside0.mk (show TSt w w1 #[.int .i64 fst, .int .u64 step, .slice A0 Gs.length c0, .int .i64 p1, .int .i64 p2, .int .i64 p3, .int .u64 p4] (w.heap.size + 1) (.slice A3 L.length c3) (.slice A5 ends.length c5) xs ends from ⟨HB0.out.trans (hb.mono HB0.out.size), (hb.block _ (Array.getElem?_eq_some_iff.1 HX0.out).1).trans HX0.out, by simpa using hl, by simpa using he⟩)
  have HG1 := Aside0.mk hg; have HXE := Aside0.mk hxe
  have HXG := Aside0.mk (show ∀ x ∈ xs, x.G.length ≤ x.c ∧ Kd.C k76 (w.alloc (.cells #[.int .i64 fst, .int .u64 step, .slice A0 Gs.length c0, .int .i64 p1, .int .i64 p2, .int .i64 p3, .int .u64 p4] 59)) x.A x.G.length x.G from hxg)
  have HBW := Aside0.mk (show Below (w.alloc (.cells #[.int .i64 fst, .int .u64 step, .slice A0 Gs.length c0, .int .i64 p1, .int .i64 p2, .int .i64 p3, .int .u64 p4] 59)).heap.size (w.alloc (.cells #[.int .i64 fst, .int .u64 step, .slice A0 Gs.length c0, .int .i64 p1, .int .i64 p2, .int .i64 p3, .int .u64 p4] 59)) w1 from hb)
  clear hl he hg hxe hxg hb HTW HLN HP HX0
  go_wp2_with fail
  refine (starts_walk _).mono ?_
  rintro e w2 ⟨rfl, hb⟩
  have HT2 := Aside0.mk (HT1.out.below hb); have HG2 := Aside0.mk (Kd.R_below HG1.out hb); have HBW2 := Aside0.mk (HBW.out.trans (hb.mono HBW.out.size))
  clear hb HT1 HG1 HBW
  go_wp2_with fail
  have hrow := row_33 HBW2.out HT2.out.l HXG.out HXE.out
  refine (larderlaw16_reads.calls k A4 c4 log A3 c3 L A5 c5 ends L.length true _ (Kd.R_reads' HG2.out).2.2 (Kd.R_reads' HG2.out).2.1 hrow.2 hrow.1 (Kd.R_reads' HT2.out.e).2.2 (Kd.R_reads' HT2.out.e).2.1 H1.out).mono ?_
  rintro e w3 ⟨rfl, hb⟩
  have HT3 := Aside0.mk (HT2.out.below hb); have HG3 := Aside0.mk (Kd.R_below HG2.out hb); have HBW3 := Aside0.mk (HBW2.out.trans (hb.mono HBW2.out.size))
  clear hb HT2 HG2 HBW2 hrow
  obtain ⟨b0, b1, b2, b3, b4, b5, b6⟩ := rec_cells HT3.out.box
  have hmul : IntKind.i64.wrap (8 * (log.length : Int)) = 8 * (log.length : Int) := Go.IntWalk.i64_in _ (by omega)
  have hw1 : IntKind.i64.wrap (8 * (log.length : Int) + 1) = 8 * (log.length : Int) + 1 := Go.IntWalk.i64_in _ (by omega)
  go_wp2_with fail
  refine wp_region_held_drew (S := fun w' => w'.cell? ⟨w.heap.size, 5, none⟩ = some (.int .i64 p3) ∧ w'.cell? ⟨w.heap.size, 6, none⟩ = some (.int .u64 p4)) (by kernel_rfl) ⟨b5, b6⟩ (fun hHeld => ?_)
  refine wpAnyH_take (i := 0) (v := ?v1) rfl (by kernel_rfl) (by kernel_rfl) (by kernel_rfl) (fun _ _ _ h => h) (Or.inl ⟨by rfl, ?y1⟩) (by assumption) ?r1
  case y1 => (intro w_ hSw; (try dsimp only at hSw); simp only [List.getElem_toArray, List.getElem_cons_zero, List.getElem_cons_succ]; go_simp; try with_reducible rfl)
  (try simp only [List.getElem_toArray, List.getElem_cons_zero, List.getElem_cons_succ, Act.put, List.setIfInBounds_toArray, List.set_cons_zero, List.set_cons_succ])
  refine wpAnyH_take (i := 1) (v := ?v2) rfl (by kernel_rfl) (by kernel_rfl) (by kernel_rfl) (fun _ _ _ h => h) (Or.inl ⟨by rfl, ?y2⟩) (by assumption) ?r2
  case y2 => (intro w_ hSw; (try dsimp only at hSw); simp only [List.getElem_toArray, List.getElem_cons_zero, List.getElem_cons_succ]; go_simp; try with_reducible rfl)
  (try simp only [List.getElem_toArray, List.getElem_cons_zero, List.getElem_cons_succ, Act.put, List.setIfInBounds_toArray, List.set_cons_zero, List.set_cons_succ])
  refine wpAnyH_take (i := 2) (v := ?v3) rfl (by kernel_rfl) (by kernel_rfl) (by kernel_rfl) (fun _ _ _ h => h) (Or.inl ⟨by rfl, ?y3⟩) (by assumption) ?r3
  case y3 => (intro w_ hSw; (try dsimp only at hSw); simp only [List.getElem_toArray, List.getElem_cons_zero, List.getElem_cons_succ]; go_simp; try with_reducible rfl)
  (try simp only [List.getElem_toArray, List.getElem_cons_zero, List.getElem_cons_succ, Act.put, List.setIfInBounds_toArray, List.set_cons_zero, List.set_cons_succ])
  refine wpAnyH_take (i := 3) (v := ?v4) rfl (by kernel_rfl) (by kernel_rfl) (by kernel_rfl) (fun _ _ _ h => h) (Or.inl ⟨by rfl, ?y4⟩) (by assumption) ?r4
  case y4 => (intro w_ hSw; (try dsimp only at hSw); simp only [List.getElem_toArray, List.getElem_cons_zero, List.getElem_cons_succ]; go_simp; try with_reducible rfl)
  (try simp only [List.getElem_toArray, List.getElem_cons_zero, List.getElem_cons_succ, Act.put, List.setIfInBounds_toArray, List.set_cons_zero, List.set_cons_succ])
  refine wpAnyH_take (i := 4) (v := ?v5) rfl (by kernel_rfl) (by kernel_rfl) (by kernel_rfl) (fun _ _ _ h => h) (Or.inl ⟨by rfl, ?y5⟩) (by assumption) ?r5
  case y5 => (intro w_ hSw; (try dsimp only at hSw); simp only [List.getElem_toArray, List.getElem_cons_zero, List.getElem_cons_succ]; go_simp; try with_reducible rfl)
  (try simp only [List.getElem_toArray, List.getElem_cons_zero, List.getElem_cons_succ, Act.put, List.setIfInBounds_toArray, List.set_cons_zero, List.set_cons_succ])
  refine wpAnyH_take (i := 5) (v := ?v6) rfl (by kernel_rfl) (by kernel_rfl) (by kernel_rfl) (fun _ _ _ h => h) (Or.inl ⟨by rfl, ?y6⟩) (by assumption) ?r6
  case y6 => (intro w_ hSw; (try dsimp only at hSw); simp only [List.getElem_toArray, List.getElem_cons_zero, List.getElem_cons_succ]; go_simp; try with_reducible rfl)
  (try simp only [List.getElem_toArray, List.getElem_cons_zero, List.getElem_cons_succ, Act.put, List.setIfInBounds_toArray, List.set_cons_zero, List.set_cons_succ])
  refine wpAnyH_take (i := 6) (v := ?v7) rfl (by kernel_rfl) (by kernel_rfl) (by kernel_rfl) (fun _ _ _ h => h) (Or.inl ⟨by rfl, ?y7⟩) (by assumption) ?r7
  case y7 => (intro w_ hSw; (try dsimp only at hSw); simp only [List.getElem_toArray, List.getElem_cons_zero, List.getElem_cons_succ]; go_simp; try with_reducible rfl)
  (try simp only [List.getElem_toArray, List.getElem_cons_zero, List.getElem_cons_succ, Act.put, List.setIfInBounds_toArray, List.set_cons_zero, List.set_cons_succ])
  refine wpAnyH_take (i := 8) (v := ?v8) rfl (by kernel_rfl) (by kernel_rfl) (by kernel_rfl) (fun _ _ _ h => h) (Or.inl ⟨by rfl, ?y8⟩) (by assumption) ?r8
  case y8 => (intro w_ hSw; (try dsimp only at hSw); simp only [List.getElem_toArray, List.getElem_cons_zero, List.getElem_cons_succ]; go_simp; try with_reducible rfl)
  (try simp only [List.getElem_toArray, List.getElem_cons_zero, List.getElem_cons_succ, Act.put, List.setIfInBounds_toArray, List.set_cons_zero, List.set_cons_succ])
  refine wpAnyH_take (i := 9) (v := ?v9) rfl (by kernel_rfl) (by kernel_rfl) (by kernel_rfl) (fun _ _ _ h => h) (Or.inl ⟨by rfl, ?y9⟩) (by assumption) ?r9
  case y9 => (intro w_ hSw; (try dsimp only at hSw); simp only [List.getElem_toArray, List.getElem_cons_zero, List.getElem_cons_succ]; go_simp; try with_reducible rfl)
  (try simp only [List.getElem_toArray, List.getElem_cons_zero, List.getElem_cons_succ, Act.put, List.setIfInBounds_toArray, List.set_cons_zero, List.set_cons_succ])
  refine wpAnyH_ready (rs := [7]) (by kernel_rfl) (by simp) ?_
  refine AllReadyH.cons (o := _) rfl (fun K hK => ?_) AllReadyH.nil
  (try simp only [List.getElem_toArray, List.getElem_cons_zero, List.getElem_cons_succ])
  go_simp; go_at_call 36; (refine (larderlaw16_into.calls p3 (8 * (log.length : Int) + 1) at_ _ HI.out).mono ?_); rintro e4 w4 ⟨rfl, n4, hw4⟩; have HB4 := Aside0.mk (((Below.refl w3.heap.size w3).drew).trans (hw4 ▸ pw_below_drewN (Below.refl _ _) n4)); clear hw4
  refine hK.out _ _ (by exact ⟨(HB4.out.cell (World.block_lt_of_cell? _ _ b5)).trans b5, (HB4.out.cell (World.block_lt_of_cell? _ _ b6)).trans b6⟩) (fun hHeld => ?_)
  clear hK K
  (try simp only [List.getElem_toArray, List.getElem_cons_zero, List.getElem_cons_succ, Act.put, List.setIfInBounds_toArray, List.set_cons_zero, List.set_cons_succ])
  refine wpAnyH_ready (rs := [10]) (by kernel_rfl) (by simp) ?_
  refine AllReadyH.cons (o := _) rfl (fun K hK => ?_) AllReadyH.nil
  (try simp only [List.getElem_toArray, List.getElem_cons_zero, List.getElem_cons_succ])
  go_simp; go_at_call 39; (refine (larderlaw16_turned.calls k A4 c4 log at_ p4 c fb _ (Kd.R_reads' (Kd.R_below HG3.out HB4.out)).2.2 (Kd.R_reads' HG3.out).2.1 HK.out).mono ?_); rintro e5 w5 ⟨v7, rfl, hv7, hb5⟩; have HV5 := Aside0.mk hv7; have HB5 := Aside0.mk (HB4.out.trans (hb5.mono HB4.out.size)); clear hb5 hv7
  refine hK.out _ _ (by exact ⟨(HB5.out.cell (World.block_lt_of_cell? _ _ b5)).trans b5, (HB5.out.cell (World.block_lt_of_cell? _ _ b6)).trans b6⟩) (fun hHeld => ?_)
  clear hK K
  (try simp only [List.getElem_toArray, List.getElem_cons_zero, List.getElem_cons_succ, Act.put, List.setIfInBounds_toArray, List.set_cons_zero, List.set_cons_succ])
  refine wpAnyH_take (i := 11) (v := ?v10) rfl (by kernel_rfl) (by kernel_rfl) (by kernel_rfl) (fun _ _ _ h => h) (Or.inl ⟨by rfl, ?y10⟩) (by assumption) ?r10
  case y10 => (intro w_ hSw; (try dsimp only at hSw); simp only [List.getElem_toArray, List.getElem_cons_zero, List.getElem_cons_succ]; go_simp; try with_reducible rfl)
  (try simp only [List.getElem_toArray, List.getElem_cons_zero, List.getElem_cons_succ, Act.put, List.setIfInBounds_toArray, List.set_cons_zero, List.set_cons_succ])
  refine wpAnyH_take (i := 12) (v := ?v11) rfl (by kernel_rfl) (by kernel_rfl) (by kernel_rfl) (fun _ _ _ h => h) (Or.inl ⟨by rfl, ?y11⟩) (by assumption) ?r11
  case y11 => (intro w_ hSw; (try dsimp only at hSw); simp only [List.getElem_toArray, List.getElem_cons_zero, List.getElem_cons_succ]; go_simp; try with_reducible rfl)
  (try simp only [List.getElem_toArray, List.getElem_cons_zero, List.getElem_cons_succ, Act.put, List.setIfInBounds_toArray, List.set_cons_zero, List.set_cons_succ])
  refine wpAnyH_take (i := 13) (v := ?v12) rfl (by kernel_rfl) (by kernel_rfl) (by kernel_rfl) (fun _ _ _ h => h) (Or.inl ⟨by rfl, ?y12⟩) (by assumption) ?r12
  case y12 => (intro w_ hSw; (try dsimp only at hSw); simp only [List.getElem_toArray, List.getElem_cons_zero, List.getElem_cons_succ]; go_simp; try with_reducible rfl)
  (try simp only [List.getElem_toArray, List.getElem_cons_zero, List.getElem_cons_succ, Act.put, List.setIfInBounds_toArray, List.set_cons_zero, List.set_cons_succ])
  refine wpAnyH_take (i := 14) (v := ?v13) rfl (by kernel_rfl) (by kernel_rfl) (by kernel_rfl) (fun _ _ _ h => h) (Or.inl ⟨by rfl, ?y13⟩) (by assumption) ?r13
  case y13 => (intro w_ hSw; (try dsimp only at hSw); simp only [List.getElem_toArray, List.getElem_cons_zero, List.getElem_cons_succ]; go_simp; try with_reducible rfl)
  (try simp only [List.getElem_toArray, List.getElem_cons_zero, List.getElem_cons_succ, Act.put, List.setIfInBounds_toArray, List.set_cons_zero, List.set_cons_succ])
  refine wpAnyH_take (i := 15) (v := ?v14) rfl (by kernel_rfl) (by kernel_rfl) (by kernel_rfl) (fun _ _ _ h => h) (Or.inl ⟨by rfl, ?y14⟩) (by assumption) ?r14
  case y14 => (intro w_ hSw; (try dsimp only at hSw); simp only [List.getElem_toArray, List.getElem_cons_zero, List.getElem_cons_succ]; go_simp; try with_reducible rfl)
  (try simp only [List.getElem_toArray, List.getElem_cons_zero, List.getElem_cons_succ, Act.put, List.setIfInBounds_toArray, List.set_cons_zero, List.set_cons_succ])
  refine wpAnyH_done (by kernel_rfl) ?_ _
  have HT5 := Aside0.mk (HT3.out.below HB5.out); have HBW5 := Aside0.mk (HBW3.out.trans (HB5.out.mono HBW3.out.size))
  clear HT3 HG3 HBW3 HB4 HB5 b0 b1 b2 b3 b4 b5 b6 hmul hw1
  obtain ⟨A7, c7, rfl⟩ := Kd.R_slice HV5.out
  rcases H2.out with ⟨hneg, h2⟩ | ⟨hneg, kk, hwh, h2⟩
  · have H2A := Aside0.mk h2
    clear h2
    go_wp2_with fail
    have hrow := row_33 HBW5.out HT5.out.l HXG.out HXE.out
    refine (larderlaw16_reads.calls k A7 c7 c A3 c3 L A5 c5 ends L.length true _ (Kd.R_reads' HV5.out).2.2 (Kd.R_reads' HV5.out).2.1 hrow.2 hrow.1 (Kd.R_reads' HT5.out.e).2.2 (Kd.R_reads' HT5.out.e).2.1 H2A.out).mono ?_
    rintro e w11 ⟨rfl, hb⟩
    have HT11 := Aside0.mk (HT5.out.below hb)
    clear hb hrow
    go_wp2_with fail
    go_ret
    exact ⟨rfl, HT11.out.bel⟩
  · have H2A := Aside0.mk h2; have HWH := Aside0.mk hwh
    clear h2 hwh
    go_wp2_with fail
    refine (larderlaw16_whole.calls k A5 c5 ends fb kk _ (Kd.R_reads' HT5.out.e).2.2 (Kd.R_reads' HT5.out.e).2.1 HWH.out).mono ?_
    rintro e w6 ⟨rfl, n6, hw6⟩
    have hb : Below w5.heap.size w5 w6 := hw6 ▸ pw_below_drewN (Below.refl _ _) n6
    have HT6 := Aside0.mk (HT5.out.below hb); have HBW6 := Aside0.mk (HBW5.out.trans (hb.mono HBW5.out.size)); have HV6 := Aside0.mk (Kd.R_below HV5.out hb)
    clear hb hw6
    go_wp2_with fail
    have hrow := row_33 HBW6.out HT6.out.l HXG.out HXE.out
    refine (larderlaw16_reads.calls k A7 c7 c A3 c3 L A5 c5 ends kk true _ (Kd.R_reads' HV6.out).2.2 (Kd.R_reads' HV6.out).2.1 hrow.2 hrow.1 (Kd.R_reads' HT6.out.e).2.2 (Kd.R_reads' HT6.out.e).2.1 H2A.out).mono ?_
    rintro e w11 ⟨rfl, hb⟩
    have HT11 := Aside0.mk (HT6.out.below hb)
    clear hb hrow
    go_wp2_with fail
    go_ret
    exact ⟨rfl, HT11.out.bel⟩
end Go.Proofs.Ytdhkhjfjjbdkgaa.Rec
