/- larderlaw16.back, walked. -/
import Derived.Test.YtdhkhjfjjbdkgaaHeld
import Derived.Deep.RegionHeld3
namespace Go.Proofs.Ytdhkhjfjjbdkgaa.Rec
open List Go.RowKit Go.Proofs.YtdhkhjfjjbdkgaaW.PrintWords Go.Proofs.YtdhkhjfjjbdkgaaW.PrintLast Go.Proofs.YtdhkhjfjjbdkgaaW.PrintMore
set_option linter.unusedVariables false
set_option linter.unusedSimpArgs false
theorem intact_is (w : World) (g c : Nat) (A1 : Option Addr) (c1 : Nat) (l : List Int) (h : Lent w g c l) (hr : Kd.C (Kd.int .u8) w A1 l.length l) :
    Calls Try.prog 32 #[.slice (some ⟨g, 0, none⟩) l.length c, .slice A1 l.length c1] w fun e w' => e = .returned (.bool true) ∧ Below w.heap.size w w' := by
  refine (intact_walk w g c A1 c1 l h hr).mono ?_
  rintro e w' ⟨he, n, rfl⟩
  exact ⟨he, pw_below_drewN (Below.refl _ _) n⟩
set_option maxHeartbeats 8000000 in
set_option maxRecDepth 100000 in
theorem back_walk (w : World) (Al : Option Addr) (n cl : Nat) (fl : List LE) (s nw : Int) (A0 : Option Addr) (c0 : Nat) (G : List S76) (hn : n = fl.length) (hl : Kd.C kE w Al fl.length fl) (hL : ∀ x ∈ fl, Lent w x.1 x.2.1 x.2.2) (hr : Kd.C k76 w A0 G.length G) (hT : fl.map (·.2.2) = G.flatMap (·.f1)) (hN : fl.length ≤ 1048576) (hG : G.length ≤ 1048576) :
    Calls Try.prog 24 #[.slice Al n cl, .agg #[.int .i64 s, .int .u64 nw, .slice A0 G.length c0]] w fun e w' => e = .returned (.bool true) ∧ Below w.heap.size w w' := by
  subst hn
  have HR := Aside0.mk hr; have HL := Aside0.mk hl; have HLE := Aside0.mk hL; have HT := Aside0.mk hT
  clear hr hl hL hT
  have hlen : ∀ i, ((G.take i).flatMap (·.f1)).length ≤ fl.length := fun i => by
    have h1 := congrArg List.length HT.out
    rw [List.length_map] at h1
    rw [h1]
    conv => rhs; rw [← List.take_append_drop i G, List.flatMap_append, List.length_append]
    omega
  have HLEN := Aside0.mk hlen
  clear hlen
  go_enter Try.func24, Try.ntmps24
  go_wp2_with fail
  have HB0 := Aside0.mk ((Below.refl w.heap.size w).alloc (Nat.le_refl _) (.cells #[.int .i64 s, .int .u64 nw, .slice A0 G.length c0] 33))
  have HX := Aside0.mk (heap_alloc_new w (.cells #[.int .i64 s, .int .u64 nw, .slice A0 G.length c0] 33))
  go_loopw [5, 6] (fun v5 v6 wr => ∃ i : Nat, i ≤ G.length ∧ v6 = .int .i64 i ∧ v5 = .int .i64 (((G.take i).flatMap (·.f1)).length : Nat) ∧ wr.heap[w.heap.size]? = some (.cells #[.int .i64 s, .int .u64 nw, .slice A0 G.length c0] 33 (0, 0)) ∧ Below w.heap.size w wr) (fun _ v _ => G.length - (intOf v).toNat)
  case atStart => exact ⟨0, Nat.zero_le _, rfl, rfl, HX.out, HB0.out⟩
  case round =>
    obtain ⟨i, hi, rfl, rfl, hx, hb⟩ := hrel
    clear HB0 HX
    have HXI := Aside0.mk hx; have HBI := Aside0.mk hb
    clear hx hb
    obtain ⟨hb0, hb1, hb2, _, _, _⟩ := ent_cells HXI.out
    obtain ⟨at0, hat0⟩ : ∃ at0, ((G.take i).flatMap (·.f1)).length = at0 := ⟨_, rfl⟩
    have hatl : at0 ≤ fl.length := hat0 ▸ HLEN.out i
    rw [hat0]
    have HAT := Aside0.mk hat0
    clear hat0
    by_cases hlt : i < G.length
    · have p1 : (0 : Int) ≤ (i : Int) := by omega
      have q1 : (i : Int) < (G.length : Int) := by omega
      obtain ⟨ad, A1, c1, hA, hx0, hx1, hl1, hC1⟩ := at_T76 HR.out (i : Int) (by omega) (by omega)
      rw [rd_T76_get G i hlt, Int.toNat_natCast] at hx0
      rw [rd_T76_get G i hlt, Int.toNat_natCast] at hx1
      rw [rd_T76_get G i hlt] at hl1 hC1
      have hga : G[i]? = some G[i] := List.getElem?_eq_getElem hlt
      generalize G[i] = a at hx0 hx1 hl1 hC1 hga
      subst hA
      have HX1 := Aside0.mk hx1; have HC1 := Aside0.mk hC1; have HGA := Aside0.mk hga
      have HAL := Aside0.mk (show at0 + a.f1.length ≤ fl.length by
        have h1 := place_succ G i a hga
        have h2 := HLEN.out (i + 1)
        rw [HAT.out] at h1; omega)
      clear hx0 hx1 hl1 hC1 hga
      have hal := HAL.out
      have y1 := (HBI.out.cell (World.block_lt_of_cell? _ _ HX1.out)).trans HX1.out
      go_wp2_with fail
      go_loopw [5, 7] (fun v5 v7 wx => ∃ j : Nat, j ≤ a.f1.length ∧ v7 = .int .i64 j ∧ v5 = .int .i64 ((at0 + j : Nat) : Int) ∧ wx.heap[w.heap.size]? = some (.cells #[.int .i64 s, .int .u64 nw, .slice (some ad) G.length c0] 33 (0, 0)) ∧ Below w.heap.size w wx) (fun _ v _ => a.f1.length - (intOf v).toNat)
      case atStart => exact ⟨0, Nat.zero_le _, rfl, rfl, HXI.out, HBI.out⟩
      case round =>
        obtain ⟨j, hj, rfl, rfl, hx, hb⟩ := hrel
        clear hb0 hb1 hb2 y1 HXI HBI
        have HXJ := Aside0.mk hx; have HBJ := Aside0.mk hb
        clear hx hb
        obtain ⟨hb0, hb1, hb2, _, _, _⟩ := ent_cells HXJ.out
        have y1 := (HBJ.out.cell (World.block_lt_of_cell? _ _ HX1.out)).trans HX1.out
        by_cases hlt2 : j < a.f1.length
        · have p2 : (0 : Int) ≤ (j : Int) := by omega
          have q2 : (j : Int) < (a.f1.length : Int) := by omega
          obtain ⟨ad2, A2, c2, hA1, hz0, hl2, hC2⟩ := at_L2 HC1.out (j : Int) (by omega) (by omega)
          rw [rd_L2_get a.f1 j hlt2, Int.toNat_natCast] at hz0
          rw [rd_L2_get a.f1 j hlt2] at hl2 hC2
          have hpl := at_place G i j a HGA.out hlt2
          rw [HAT.out, ← HT.out, List.getElem?_map] at hpl
          generalize a.f1[j] = t at hz0 hl2 hC2 hpl
          obtain ⟨x, hx1, hx2⟩ := Option.map_eq_some_iff.1 hpl
          subst hA1
          have hmem := List.mem_of_getElem? hx1
          obtain ⟨adl, hAl, hz3⟩ := at_kE HL.out (at0 + j) x hx1
          subst hAl
          obtain ⟨g, c, t'⟩ := x
          obtain rfl : t' = t := hx2
          have y2 := (HBJ.out.cell (World.block_lt_of_cell? _ _ hz0)).trans hz0
          have y3 := (HBJ.out.cell (World.block_lt_of_cell? _ _ hz3)).trans hz3
          unfold eHd at y3
          dsimp only at y3
          have HLX := Aside0.mk ((HLE.out _ hmem).below HBJ.out)
          have HCX := Aside0.mk (Kd.C_below hC2 HBJ.out)
          have p3 : (0 : Int) ≤ ((at0 + j : Nat) : Int) := by omega
          have q3 : ((at0 + j : Nat) : Int) < (fl.length : Int) := by omega
          have hnat : (((at0 + j : Nat) : Int)).toNat = at0 + j := Int.toNat_natCast _
          obtain ⟨m, hm⟩ : ∃ m, at0 + j = m := ⟨_, rfl⟩
          rw [hm] at p3 q3 hnat y3 ⊢
          have HM := Aside0.mk hm
          have hm64 : m < 1048576 := by omega
          clear hz0 hl2 hC2 hpl hx1 hmem hz3 hm
          go_wp2_with fail
          refine wp_region_held_drew (S := fun w' => w'.cell? (adl.add m) = some (.slice (some ⟨g, 0, none⟩) t'.length c) ∧ w'.cell? ⟨w.heap.size, 2, none⟩ = some (.slice (some ad) G.length c0) ∧ w'.cell? ⟨(ad.add (i * 2)).block, (ad.add (i * 2)).off + 1, none⟩ = some (.slice (some ad2) a.f1.length c1) ∧ w'.cell? (ad2.add j) = some (.slice A2 t'.length c2)) (by kernel_rfl) ⟨y3, hb2, y1, y2⟩ (fun hHeld => ?_)
          refine wpAnyH_take (i := 0) (v := ?v1) rfl (by kernel_rfl) (by kernel_rfl) (by kernel_rfl) (fun _ _ _ h => h) (Or.inl ⟨by rfl, ?y1⟩) (by assumption) ?r1
          case y1 => (intro w_ hSw; (try dsimp only at hSw); simp only [List.getElem_toArray, List.getElem_cons_zero, List.getElem_cons_succ]; go_simp; try with_reducible rfl)
          (try simp only [List.getElem_toArray, List.getElem_cons_zero, List.getElem_cons_succ, Act.put, List.setIfInBounds_toArray, List.set_cons_zero, List.set_cons_succ])
          refine wpAnyH_take (i := 1) (v := ?v2) rfl (by kernel_rfl) (by kernel_rfl) (by kernel_rfl) (fun _ _ _ h => h) (Or.inl ⟨by rfl, ?y2⟩) (by assumption) ?r2
          case y2 => (intro w_ hSw; (try dsimp only at hSw); simp only [List.getElem_toArray, List.getElem_cons_zero, List.getElem_cons_succ]; go_simp; try with_reducible rfl)
          (try simp only [List.getElem_toArray, List.getElem_cons_zero, List.getElem_cons_succ, Act.put, List.setIfInBounds_toArray, List.set_cons_zero, List.set_cons_succ])
          refine wpAnyH_take (i := 2) (v := ?v3) rfl (by kernel_rfl) (by kernel_rfl) (by kernel_rfl) (fun _ _ _ h => h) (Or.inl ⟨by rfl, ?y3⟩) (by assumption) ?r3
          case y3 => (intro w_ hSw; (try dsimp only at hSw); simp only [List.getElem_toArray, List.getElem_cons_zero, List.getElem_cons_succ]; go_simp; try with_reducible rfl)
          (try simp only [List.getElem_toArray, List.getElem_cons_zero, List.getElem_cons_succ, Act.put, List.setIfInBounds_toArray, List.set_cons_zero, List.set_cons_succ])
          refine wpAnyH_take (i := 3) (v := ?v4) rfl (by kernel_rfl) (by kernel_rfl) (by kernel_rfl) (fun _ _ _ h => h) (Or.inl ⟨by rfl, ?y4⟩) (by assumption) ?r4
          case y4 => (intro w_ hSw; (try dsimp only at hSw); simp only [List.getElem_toArray, List.getElem_cons_zero, List.getElem_cons_succ]; go_simp; try with_reducible rfl)
          (try simp only [List.getElem_toArray, List.getElem_cons_zero, List.getElem_cons_succ, Act.put, List.setIfInBounds_toArray, List.set_cons_zero, List.set_cons_succ])
          refine wpAnyH_take (i := 4) (v := ?v5) rfl (by kernel_rfl) (by kernel_rfl) (by kernel_rfl) (fun _ _ _ h => h) (Or.inl ⟨by rfl, ?y5⟩) (by assumption) ?r5
          case y5 => (intro w_ hSw; (try dsimp only at hSw); simp only [List.getElem_toArray, List.getElem_cons_zero, List.getElem_cons_succ]; go_simp; try with_reducible rfl)
          (try simp only [List.getElem_toArray, List.getElem_cons_zero, List.getElem_cons_succ, Act.put, List.setIfInBounds_toArray, List.set_cons_zero, List.set_cons_succ])
          refine wpAnyH_take (i := 5) (v := ?v6) rfl (by kernel_rfl) (by kernel_rfl) (by kernel_rfl) (fun _ _ _ h => h) (Or.inl ⟨by rfl, ?y6⟩) (by assumption) ?r6
          case y6 => (intro w_ hSw; (try dsimp only at hSw); simp only [List.getElem_toArray, List.getElem_cons_zero, List.getElem_cons_succ]; go_simp; try with_reducible rfl)
          (try simp only [List.getElem_toArray, List.getElem_cons_zero, List.getElem_cons_succ, Act.put, List.setIfInBounds_toArray, List.set_cons_zero, List.set_cons_succ])
          refine wpAnyH_take (i := 6) (v := ?v7) rfl (by kernel_rfl) (by kernel_rfl) (by kernel_rfl) (fun _ _ _ h => h) (Or.inl ⟨by rfl, ?y7⟩) (by assumption) ?r7
          case y7 => (intro w_ hSw; (try dsimp only at hSw); simp only [List.getElem_toArray, List.getElem_cons_zero, List.getElem_cons_succ]; go_simp; try with_reducible rfl)
          (try simp only [List.getElem_toArray, List.getElem_cons_zero, List.getElem_cons_succ, Act.put, List.setIfInBounds_toArray, List.set_cons_zero, List.set_cons_succ])
          refine wpAnyH_take (i := 7) (v := ?v8) rfl (by kernel_rfl) (by kernel_rfl) (by kernel_rfl) (fun _ _ _ h => h) (Or.inl ⟨by rfl, ?y8⟩) (by assumption) ?r8
          case y8 => (intro w_ hSw; (try dsimp only at hSw); simp only [List.getElem_toArray, List.getElem_cons_zero, List.getElem_cons_succ]; go_simp; try with_reducible rfl)
          (try simp only [List.getElem_toArray, List.getElem_cons_zero, List.getElem_cons_succ, Act.put, List.setIfInBounds_toArray, List.set_cons_zero, List.set_cons_succ])
          refine wpAnyH_take (i := 8) (v := ?v9) rfl (by kernel_rfl) (by kernel_rfl) (by kernel_rfl) (fun _ _ _ h => h) (Or.inl ⟨by rfl, ?y9⟩) (by assumption) ?r9
          case y9 => (intro w_ hSw; (try dsimp only at hSw); simp only [List.getElem_toArray, List.getElem_cons_zero, List.getElem_cons_succ]; go_simp; try with_reducible rfl)
          (try simp only [List.getElem_toArray, List.getElem_cons_zero, List.getElem_cons_succ, Act.put, List.setIfInBounds_toArray, List.set_cons_zero, List.set_cons_succ])
          refine wpAnyH_take (i := 9) (v := ?v10) rfl (by kernel_rfl) (by kernel_rfl) (by kernel_rfl) (fun _ _ _ h => h) (Or.inl ⟨by rfl, ?y10⟩) (by assumption) ?r10
          case y10 => (intro w_ hSw; (try dsimp only at hSw); simp only [List.getElem_toArray, List.getElem_cons_zero, List.getElem_cons_succ]; go_simp; try with_reducible rfl)
          (try simp only [List.getElem_toArray, List.getElem_cons_zero, List.getElem_cons_succ, Act.put, List.setIfInBounds_toArray, List.set_cons_zero, List.set_cons_succ])
          refine wpAnyH_take (i := 10) (v := ?v11) rfl (by kernel_rfl) (by kernel_rfl) (by kernel_rfl) (fun _ _ _ h => h) (Or.inl ⟨by rfl, ?y11⟩) (by assumption) ?r11
          case y11 => (intro w_ hSw; (try dsimp only at hSw); simp only [List.getElem_toArray, List.getElem_cons_zero, List.getElem_cons_succ]; go_simp; try with_reducible rfl)
          (try simp only [List.getElem_toArray, List.getElem_cons_zero, List.getElem_cons_succ, Act.put, List.setIfInBounds_toArray, List.set_cons_zero, List.set_cons_succ])
          refine wpAnyH_take (i := 11) (v := ?v12) rfl (by kernel_rfl) (by kernel_rfl) (by kernel_rfl) (fun _ _ _ h => h) (Or.inl ⟨by rfl, ?y12⟩) (by assumption) ?r12
          case y12 => (intro w_ hSw; (try dsimp only at hSw); simp only [List.getElem_toArray, List.getElem_cons_zero, List.getElem_cons_succ]; go_simp; try with_reducible rfl)
          (try simp only [List.getElem_toArray, List.getElem_cons_zero, List.getElem_cons_succ, Act.put, List.setIfInBounds_toArray, List.set_cons_zero, List.set_cons_succ])
          refine wpAnyH_take (i := 12) (v := ?v13) rfl (by kernel_rfl) (by kernel_rfl) (by kernel_rfl) (fun _ _ _ h => h) (Or.inl ⟨by rfl, ?y13⟩) (by assumption) ?r13
          case y13 => (intro w_ hSw; (try dsimp only at hSw); simp only [List.getElem_toArray, List.getElem_cons_zero, List.getElem_cons_succ]; go_simp; try with_reducible rfl)
          (try simp only [List.getElem_toArray, List.getElem_cons_zero, List.getElem_cons_succ, Act.put, List.setIfInBounds_toArray, List.set_cons_zero, List.set_cons_succ])
          refine wpAnyH_ready (rs := [13]) (by kernel_rfl) (by simp) ?_
          refine AllReadyH.cons (o := _) rfl (fun K hK => ?_) AllReadyH.nil
          (try simp only [List.getElem_toArray, List.getElem_cons_zero, List.getElem_cons_succ])
          go_simp; go_at_call 32; (refine (intact_is _ g c A2 c2 t' (HLX.out.below (Below.refl _ _).drew) (Kd.C_below HCX.out (Below.refl _ _).drew)).mono ?_); rintro e6 w6 ⟨rfl, hb6⟩; have HB6 := Aside0.mk hb6; clear hb6
          refine hK.out _ _ (by exact ⟨(HB6.out.cell (World.block_lt_of_cell? _ _ y3)).trans y3, (HB6.out.cell (World.block_lt_of_cell? _ _ hb2)).trans hb2, (HB6.out.cell (World.block_lt_of_cell? _ _ y1)).trans y1, (HB6.out.cell (World.block_lt_of_cell? _ _ y2)).trans y2⟩) (fun hHeld => ?_)
          clear hK K
          (try simp only [List.getElem_toArray, List.getElem_cons_zero, List.getElem_cons_succ, Act.put, List.setIfInBounds_toArray, List.set_cons_zero, List.set_cons_succ])
          refine wpAnyH_take (i := 14) (v := ?v14) rfl (by kernel_rfl) (by kernel_rfl) (by kernel_rfl) (fun _ _ _ h => h) (Or.inl ⟨by rfl, ?y14⟩) (by assumption) ?r14
          case y14 => (intro w_ hSw; (try dsimp only at hSw); simp only [List.getElem_toArray, List.getElem_cons_zero, List.getElem_cons_succ]; go_simp; try with_reducible rfl)
          (try simp only [List.getElem_toArray, List.getElem_cons_zero, List.getElem_cons_succ, Act.put, List.setIfInBounds_toArray, List.set_cons_zero, List.set_cons_succ])
          refine wpAnyH_done (by kernel_rfl) ?_ _
          have HB7 := Aside0.mk (((Below.refl _ _).drew).trans HB6.out)
          have hw1 : IntKind.i64.wrap ((m : Int) + 1) = ((m + 1 : Nat) : Int) := by
            rw [Go.IntWalk.i64_in _ (by omega)]; omega
          go_wp2_with fail
          go_roundw
          case rel =>
            refine ⟨j + 1, by omega, by go_num, ?_, (HB7.out.block _ (Array.getElem?_eq_some_iff.1 HXJ.out).1).trans HXJ.out, HBJ.out.trans (HB7.out.mono HBJ.out.size)⟩
            rw [← Nat.add_assoc, HM.out]; go_num
          case measure => simp [intOf]; omega
        · obtain rfl : j = a.f1.length := by omega
          go_wp2_with fail
          go_roundw
          case rel =>
            refine ⟨i + 1, by omega, by go_num, ?_, HXJ.out, HBJ.out⟩
            rw [place_succ G i a HGA.out, HAT.out]
          case measure => simp [intOf]; omega
    · obtain rfl : i = G.length := by omega
      go_wp2_with fail
      go_ret
      exact ⟨rfl, HBI.out⟩
end Go.Proofs.Ytdhkhjfjjbdkgaa.Rec
