/- larderlaw16.lent, walked. -/
import Derived.Test.YtdhkhjfjjbdkgaaLent
import Derived.Test.YtdhkhjfjjbdkgaaLin
import Derived.Deep.RegionHeld3
namespace Go.Proofs.Ytdhkhjfjjbdkgaa.Rec
open List Go.RowKit Go.Proofs.YtdhkhjfjjbdkgaaW.PrintWords Go.Proofs.YtdhkhjfjjbdkgaaW.PrintLast Go.Proofs.YtdhkhjfjjbdkgaaW.PrintMore
set_option linter.unusedVariables false
set_option linter.unusedSimpArgs false
/-- What lent hands back. -/
structure LFin (w w' : World) (G : List S76) (vg vl : Value) (acts : List SE) : Prop where
  bel : Below w.heap.size w w'
  own : kSE.R 76 w' w.heap.size (fun k => some k ≠ vl.ownBlock) vg acts
  lst : kE.R 37 w' w.heap.size (fun _ => True) vl (flat acts)
  lent : ∀ x ∈ flat acts, Lent w' x.1 x.2.1 x.2.2 ∧ w.heap.size ≤ x.1
  nod : ((flat acts).map (·.1)).Nodup
  acs : acts.map (fun a => (a.f0, a.f1.map (·.2.2))) = G.map (fun a => (a.f0, a.f1))
theorem count_flat : ∀ (acts : List SE) (G : List S76), acts.map (fun a => (a.f0, a.f1.map (·.2.2))) = G.map (fun a => (a.f0, a.f1)) → (flat acts).length = (G.map (fun a => a.f1.length)).sum
  | [], [], _ => rfl
  | [], g :: G, h => by simp at h
  | a :: acts, [], h => by simp at h
  | a :: acts, g :: G, h => by
    simp only [List.map_cons, List.cons.injEq, Prod.mk.injEq] at h
    have h1 := count_flat acts G h.2
    have h2 := congrArg List.length h.1.2
    rw [List.length_map] at h2
    simp only [flat, List.flatMap_cons, List.length_append, List.map_cons, List.sum_cons] at h1 ⊢
    omega
theorem sum_take_le (G : List S76) (i : Nat) (a : S76) (h : G[i]? = some a) : ((G.take i).map (fun a => a.f1.length)).sum + a.f1.length ≤ (G.map (fun a => a.f1.length)).sum := by
  have hlt := (List.getElem?_eq_some_iff.1 h).1
  have hge := (List.getElem?_eq_some_iff.1 h).2
  have e : G = G.take i ++ a :: G.drop (i + 1) := by rw [← hge, ← List.drop_eq_getElem_cons hlt, List.take_append_drop]
  conv => rhs; rw [e]
  simp only [List.map_append, List.map_cons, List.sum_append, List.sum_cons]
  omega
theorem LSt.start (w : World) (seq now : Int) (A0 : Option Addr) (c0 : Nat) (G : List S76) : LSt w (((w.alloc (.cells #[.int .i64 seq, .int .u64 now, .slice A0 G.length c0] 33)).alloc (.cells #[.int .i64 0, .int .u64 0, .slice none 0 0] 33)).alloc (.cells #[.int .i64 seq, .int .u64 now, .slice none 0 0] 33)) seq now A0 c0 G 0 0 (.slice none 0 0) (.slice none 0 0) (.slice none 0 0) [] [] where
  bel := (((Below.refl _ _).alloc (Nat.le_refl _) _).alloc (by simp) _).alloc (by simp; omega) _
  box := by
    rw [((Below.refl _ ((w.alloc (.cells #[.int .i64 seq, .int .u64 now, .slice A0 G.length c0] 33)).alloc (.cells #[.int .i64 0, .int .u64 0, .slice none 0 0] 33))).alloc (Nat.le_refl _) _).block _ (by simp; omega)]
    rw [((Below.refl _ (w.alloc (.cells #[.int .i64 seq, .int .u64 now, .slice A0 G.length c0] 33))).alloc (Nat.le_refl _) _).block _ (by simp)]
    exact heap_alloc_new _ _
  res := by
    rw [((Below.refl _ ((w.alloc (.cells #[.int .i64 seq, .int .u64 now, .slice A0 G.length c0] 33)).alloc (.cells #[.int .i64 0, .int .u64 0, .slice none 0 0] 33))).alloc (Nat.le_refl _) _).block _ (by simp)]
    have := heap_alloc_new (w.alloc (.cells #[.int .i64 seq, .int .u64 now, .slice A0 G.length c0] 33)) (.cells #[.int .i64 0, .int .u64 0, .slice none 0 0] 33)
    rwa [show (w.alloc (.cells #[.int .i64 seq, .int .u64 now, .slice A0 G.length c0] 33)).heap.size = w.heap.size + 1 by simp] at this
  fc := by
    have := heap_alloc_new ((w.alloc (.cells #[.int .i64 seq, .int .u64 now, .slice A0 G.length c0] 33)).alloc (.cells #[.int .i64 0, .int .u64 0, .slice none 0 0] 33)) (.cells #[.int .i64 seq, .int .u64 now, .slice none 0 0] 33)
    rwa [show ((w.alloc (.cells #[.int .i64 seq, .int .u64 now, .slice A0 G.length c0] 33)).alloc (.cells #[.int .i64 0, .int .u64 0, .slice none 0 0] 33)).heap.size = w.heap.size + 2 by simp] at this
  own := Kd.R_nil _ _ _ _ _
  arg := Kd.R_nil _ _ _ _ _
  lst := Kd.R_nil _ _ _ _ _
  lent := fun x hx => by simp [flat] at hx
  nod := by simp [flat]
  acs := rfl
  cus := fun a _ => by simp
set_option maxHeartbeats 8000000 in
set_option maxRecDepth 100000 in
theorem lent_walk (seq now : Int) (A0 : Option Addr) (c0 : Nat) (G : List S76) (w : World) (hr : Kd.C k76 w A0 G.length G) (hc : G.length ≤ c0) (hN : (G.map (fun a => a.f1.length)).sum ≤ 1048576) (hG : G.length ≤ 1048576) (hT : ∀ a ∈ G, ∀ t ∈ a.f1, t.length ≤ 1048576) :
    Calls Try.prog 19 #[.agg #[.int .i64 seq, .int .u64 now, .slice A0 G.length c0]] w fun e w' => ∃ vg vl acts, e = .returned (.tuple #[.agg #[.int .i64 seq, .int .u64 now, vg], vl]) ∧ LFin w w' G vg vl acts := by
  have HR := Aside0.mk hr; have HN := Aside0.mk hN; have HG := Aside0.mk hG; have HT := Aside0.mk hT; have HC := Aside0.mk hc
  clear hr hN hG hT hc
  have HS := Aside0.mk (LSt.start w seq now A0 c0 G)
  go_enter Try.func19, Try.ntmps19
  go_wp2_with fail
  have hG64 : (G.length : Int) ≤ 1048576 := by have := HG.out; omega
  go_loopw [5, 6] (fun v5 v6 wr => ∃ (i : Nat) (vg vl : Value) (acts : List SE), i ≤ G.length ∧ v6 = .int .i64 i ∧ vl = v5 ∧ LSt w wr seq now A0 c0 G i 0 vg (.slice none 0 0) vl acts []) (fun _ v _ => G.length - (intOf v).toNat)
  case atStart => exact ⟨0, _, _, [], Nat.zero_le _, rfl, rfl, HS.out⟩
  case round =>
    obtain ⟨i, vg, vl, acts, hi, rfl, rfl, hS⟩ := hrel
    have HS := Aside0.mk hS
    clear hS
    obtain ⟨hb0, hb1, hb2, _, _, _⟩ := ent_cells HS.out.box
    by_cases hlt : i < G.length
    · have p1 : (0 : Int) ≤ (i : Int) := by omega
      have q1 : (i : Int) < (G.length : Int) := by omega
      obtain ⟨ad, A1, c1, hA, hx0, hx1, hl1, hC1⟩ := at_T76 HR.out (i : Int) (by omega) (by omega)
      rw [rd_T76_get G i hlt, Int.toNat_natCast] at hx0
      rw [rd_T76_get G i hlt, Int.toNat_natCast] at hx1
      rw [rd_T76_get G i hlt] at hl1 hC1
      have hga : G[i]? = some G[i] := List.getElem?_eq_getElem hlt
      have hmem : G[i] ∈ G := List.getElem_mem hlt
      have hsum := sum_take_le G i G[i] hga
      generalize G[i] = a at hx0 hx1 hl1 hC1 hga hmem hsum
      subst hA
      have HX0 := Aside0.mk hx0; have HX1 := Aside0.mk hx1; have HL1 := Aside0.mk hl1; have HC1 := Aside0.mk hC1; have HGA := Aside0.mk hga; have HMEM := Aside0.mk hmem
      have HSUM := Aside0.mk (show (flat acts).length + a.f1.length ≤ 1048576 by
        have h1 := count_flat acts (G.take i) HS.out.acs
        have := HN.out; omega)
      clear hx0 hx1 hl1 hC1 hga hmem hsum
      have y1 := (HS.out.bel.cell (World.block_lt_of_cell? _ _ HX1.out)).trans HX1.out
      have hm64 : (a.f1.length : Int) ≤ 1048576 := by have := HSUM.out; omega
      go_wp2_with fail
      obtain ⟨wo, hwo⟩ : ∃ wo : World, wo = wr := ⟨_, rfl⟩
      go_loopw [5, 7, 8] (fun v5 v7 v8 wx => ∃ (j : Nat) (va vl2 : Value) (cur : List LE), j ≤ a.f1.length ∧ v8 = .int .i64 j ∧ va = v7 ∧ vl2 = v5 ∧ cur.length = j ∧ LSt w wx seq now (some ad) c0 G i j vg va vl2 acts cur) (fun _ _ v _ => a.f1.length - (intOf v).toNat)
      case atStart => exact ⟨0, _, _, [], Nat.zero_le _, rfl, rfl, rfl, rfl, HS.out⟩
      case round =>
        obtain ⟨j, va, vl2, cur, hj, rfl, rfl, rfl, hcl, hS⟩ := hrel
        have HS2 := Aside0.mk hS; have HCL := Aside0.mk hcl
        clear hS hcl hb0 hb1 hb2 y1
        obtain ⟨hb0, hb1, hb2, _, _, _⟩ := ent_cells HS2.out.box
        have y1 := (HS2.out.bel.cell (World.block_lt_of_cell? _ _ HX1.out)).trans HX1.out
        have y0 := (HS2.out.bel.cell (World.block_lt_of_cell? _ _ HX0.out)).trans HX0.out
        by_cases hlt2 : j < a.f1.length
        · have p2 : (0 : Int) ≤ (j : Int) := by omega
          have q2 : (j : Int) < (a.f1.length : Int) := by omega
          obtain ⟨ad2, A2, c2, hA1, hz0, hl2, hC2⟩ := at_L2 HC1.out (j : Int) (by omega) (by omega)
          rw [rd_L2_get a.f1 j hlt2, Int.toNat_natCast] at hz0
          rw [rd_L2_get a.f1 j hlt2] at hl2 hC2
          have hta : a.f1[j]? = some a.f1[j] := List.getElem?_eq_getElem hlt2
          have htl := HT.out a HMEM.out a.f1[j] (List.getElem_mem hlt2)
          generalize a.f1[j] = t at hz0 hl2 hC2 hta htl
          subst hA1
          have y2 := (HS2.out.bel.cell (World.block_lt_of_cell? _ _ hz0)).trans hz0
          have HTA := Aside0.mk hta; have HC2 := Aside0.mk (Kd.C_below hC2 HS2.out.bel); have HL2 := Aside0.mk hl2; have HTL := Aside0.mk htl
          clear hz0 hl2 hC2 hta htl
          go_wp2_with fail
          refine (lend_walk _ A2 c2 t HC2.out HL2.out (by have := HTL.out; omega)).mono ?_
          rintro e w3 ⟨g, c, rfl, hl, hg, hb⟩
          have HS3 := Aside0.mk (HS2.out.below hb)
          have HLE := Aside0.mk hl
          have HGE := Aside0.mk (show w.heap.size ≤ g from Nat.le_trans HS2.out.bel.size hg)
          have HNEW := Aside0.mk (show ∀ x ∈ flat acts ++ cur, x.1 ≠ g from fun x hx => by have := (HS2.out.lent x hx).1.lt; omega)
          clear hl hg hb hb0 hb1 hb2 y0 y1 y2 HS2
          go_wp2_with ((with_reducible refine gate_dst (N := 46) rfl ?_); refine halt ?_)
          refine unhalt ?_
          have HJ := Aside0.mk (show (cur.length + 1) * 24 ≤ 140737488355328 by have := HCL.out; have := HSUM.out; omega)
          have HJ2 := Aside0.mk (show ((flat acts ++ cur).length + 1) * 24 ≤ 140737488355328 by rw [List.length_append]; have := HCL.out; have := HSUM.out; omega)
          at_builtin
          refine Kd.R_append kE (w0 := w) w.heap.size rfl _ _ 34 37 (.slice none 0 0) 24 rfl Try.underlying34 info37 rfl (by decide) (by decide) va cur (g, c, t) [.slice (some ⟨g, 0, none⟩) t.length c] (fun _ => True) (fun _ => False) rfl rfl rfl (fun _ h => h.elim) (fun _ _ => trivial) (Kd.R_mono HS3.out.arg (fun _ _ => trivial)) HS3.out.bel HS3.out.bel.size HJ.out ?_
          intro v1 w4 ho hb hg hat
          have HM := Aside0.mk (HS3.out.mid (e := (g, c, t)) HLE.out HGE.out HNEW.out hg hat ho a HGA.out HTA.out)
          clear ho hb hg hat HS3 HLE HGE HNEW
          go_wp2_with ((with_reducible refine gate_dst (N := 50) rfl ?_); refine halt ?_)
          refine unhalt ?_
          at_builtin
          refine Kd.R_append kE (w0 := w) w.heap.size rfl _ _ 34 37 (.slice none 0 0) 24 rfl Try.underlying34 info37 rfl (by decide) (by decide) vl2 (flat acts ++ cur) (g, c, t) [.slice (some ⟨g, 0, none⟩) t.length c] (fun _ => True) (fun _ => False) rfl rfl rfl (fun _ h => h.elim) (fun _ _ => trivial) (Kd.R_mono HM.out.lst (fun _ _ => trivial)) HM.out.bel HM.out.bel.size HJ2.out ?_
          intro v2 w5 ho hb hg hat
          have HS5 := Aside0.mk (HM.out.list hg hat ho)
          clear ho hb hg hat HM
          go_wp2_with fail
          go_roundw
          case rel => exact ⟨j + 1, v1, v2, cur ++ [(g, c, t)], by omega, by go_num, rfl, rfl, by rw [List.length_append, HCL.out]; rfl, HS5.out⟩
          case measure => simp [intOf]; omega
        · obtain rfl : j = a.f1.length := by omega
          obtain ⟨Ag, cg, rfl⟩ := Kd.R_slice HS2.out.own
          obtain ⟨Ava, cva, rfl⟩ := Kd.R_slice HS2.out.arg
          obtain ⟨hf0, hf1, hf2, kf0, kf1, kf2⟩ := ent_cells HS2.out.fc
          have HSD := Aside0.mk (HS2.out.below (Below.refl _ _).drew)
          have HMY := Aside0.mk (kSE_mkM wr.drew w.heap.size (fun k => (Value.slice Ava cur.length cva).ownBlock = some k) ⟨a.f0, cur⟩ (kE_ok HSD.out.arg (fun k hk => hk)))
          have HOK := Aside0.mk (show ∀ k, (Value.slice Ava cur.length cva).ownBlock = some k → some k ≠ vl2.ownBlock ∧ some k ≠ (Value.slice Ag acts.length cg).ownBlock from fun k hk => ⟨HSD.out.arg.1 k hk, fun e2 => by
            obtain ⟨z1, hz1⟩ := row_type HSD.out.arg k hk
            obtain ⟨z2, hz2⟩ := row_type HSD.out.own k e2.symm
            exact type_ne hz1 hz2 (by decide) rfl⟩)
          have HFR := Aside0.mk (show ∀ k, wr.drew.heap.size ≤ k → some k ≠ vl2.ownBlock from fun k hk e2 => by
            obtain ⟨inner, ho2⟩ := Kd.R_own HSD.out.lst
            have := own_lt ho2 k e2.symm; omega)
          have HLN := Aside0.mk (show (acts.length + 1) * 32 ≤ 140737488355328 by
            have h1 := congrArg List.length HS2.out.acs
            simp only [List.length_map, List.length_take] at h1
            have := HG.out; omega)
          have hfd : (wr.drew.alloc (.cells #[.int .i64 a.f0, .slice Ava cur.length cva] 76)).heap[w.heap.size + 2]? = some (.cells #[.int .i64 seq, .int .u64 now, .slice Ag acts.length cg] 33 (0, 0)) := (((Below.refl _ _).alloc (Nat.le_refl _) _).block _ (Array.getElem?_eq_some_iff.1 HSD.out.fc).1).trans HSD.out.fc
          obtain ⟨hd0, hd1, hd2, kd0, kd1, kd2⟩ := ent_cells hfd
          have hd2' : (wr.drew.alloc (.cells #[.int .i64 a.f0, .slice Ava cur.length cva] 76)).cell? ⟨w.heap.size + 1 + 1, 2, none⟩ = some (.slice Ag acts.length cg) := hd2
          have kd2' : (wr.drew.alloc (.cells #[.int .i64 a.f0, .slice Ava cur.length cva] 76)).frozen? ⟨w.heap.size + 1 + 1, 2, none⟩ = false := kd2
          have hf2' : wr.drew.cell? ⟨w.heap.size + 1 + 1, 2, none⟩ = some (.slice Ag acts.length cg) := hf2
          have hfd3 : (wr.alloc (.cells #[.int .i64 a.f0, .slice Ava cur.length cva] 76)).cell? ⟨w.heap.size + 1 + 1, 2, none⟩ = some (.slice Ag acts.length cg) := hd2
          have kfd3 : (wr.alloc (.cells #[.int .i64 a.f0, .slice Ava cur.length cva] 76)).frozen? ⟨w.heap.size + 1 + 1, 2, none⟩ = false := kd2
          clear HS2
          go_wp2_with fail
          go_region_law (first | (refine Kd.R_append_step kSE (w0 := w) w.heap.size (by rfl) _ _ 31 76 (.agg #[.int .i64 0, .slice none 0 0]) 32 rfl Try.underlying31 info76 rfl (by decide) (by decide) (.slice Ag acts.length cg) acts ⟨a.f0, cur⟩ [.int .i64 a.f0, (Value.slice Ava cur.length cva)] (fun k => some k ≠ vl2.ownBlock) (fun k => (Value.slice Ava cur.length cva).ownBlock = some k) rfl rfl HMY.out HOK.out HFR.out (Kd.R_mono HSD.out.own (fun k hk => hk.1)) HSD.out.bel HSD.out.bel.size HLN.out ?_; intro v1 w9 ho hb hg hat; obtain ⟨A9, c9, rfl⟩ := Kd.R_slice ho; have HCL9 := Aside0.mk (HSD.out.close hg a HGA.out (Nat.le_refl _) ho); have hfc9 : w9.heap[w.heap.size + 2]? = some (.cells #[.int .i64 seq, .int .u64 now, .slice Ag acts.length cg] 33 (0, 0)) := (hg.block _ (Array.getElem?_eq_some_iff.1 HSD.out.fc).1 (fun e2 => by obtain ⟨z2, hz2⟩ := row_type HSD.out.own _ e2.symm; exact type_ne HSD.out.fc hz2 (by decide) rfl)).trans HSD.out.fc; obtain ⟨gf0, gf1, gf2, lf0, lf1, lf2⟩ := ent_cells hfc9; have gf2' : w9.cell? ⟨w.heap.size + 1 + 1, 2, none⟩ = some (.slice Ag acts.length cg) := gf2; have lf2' : w9.frozen? ⟨w.heap.size + 1 + 1, 2, none⟩ = false := lf2; clear ho hb hg hat hfc9))
          all_goals
            go_wp2_with fail
            go_roundw
            case rel =>
              have hL9 := HCL9.out
              simp only [List.length_append, List.length_singleton] at hL9
              exact ⟨i + 1, _, _, acts ++ [⟨a.f0, cur⟩], by omega, by go_num, rfl, hL9⟩
            case measure => simp [intOf]; omega
    · obtain rfl : i = G.length := by omega
      obtain ⟨Ag, cg, rfl⟩ := Kd.R_slice HS.out.own
      obtain ⟨hf0, hf1, hf2, kf0, kf1, kf2⟩ := ent_cells HS.out.fc
      obtain ⟨hr0, hr1, hr2, kr0, kr1, kr2⟩ := ent_cells HS.out.res
      go_wp2_with fail
      have hfl : flat acts ++ [] = flat acts := List.append_nil _
      have hZ : Below w.heap.size w (((wr.setCell ⟨w.heap.size + 1, 0, none⟩ (.int .i64 seq)).setCell ⟨w.heap.size + 1, 1, none⟩ (.int .u64 now)).setCell ⟨w.heap.size + 1, 2, none⟩ (.slice Ag acts.length cg)) := ((HS.out.bel.setCell (by show w.heap.size ≤ w.heap.size + 1; omega) _).setCell (by show w.heap.size ≤ w.heap.size + 1; omega) _).setCell (by show w.heap.size ≤ w.heap.size + 1; omega) _
      have hres := HS.out.res
      have h2 : (((wr.setCell ⟨w.heap.size + 1, 0, none⟩ (.int .i64 seq)).setCell ⟨w.heap.size + 1, 1, none⟩ (.int .u64 now)).setCell ⟨w.heap.size + 1, 2, none⟩ (.slice Ag acts.length cg)).heap[w.heap.size + 1]? = some (.cells #[.int .i64 seq, .int .u64 now, .slice Ag acts.length cg] 33 (0, 0)) := by
        rw [heap_setCell_same _ _ _ _ _ _ (by rw [heap_setCell_same _ _ _ _ _ _ (by rw [heap_setCell_same _ _ _ _ _ _ hres])])]; rfl
      obtain ⟨z2, z3, z4, _, _, _⟩ := ent_cells h2
      have far : ∀ {k : Nat} {cs : Array Value} {t : TypeId}, wr.heap[k]? = some (.cells cs t (0, 0)) → t ≠ 33 → (((wr.setCell ⟨w.heap.size + 1, 0, none⟩ (.int .i64 seq)).setCell ⟨w.heap.size + 1, 1, none⟩ (.int .u64 now)).setCell ⟨w.heap.size + 1, 2, none⟩ (.slice Ag acts.length cg)).heap[k]? = some (.cells cs t (0, 0)) := fun {k cs t} hk ht => by
        have hne := type_ne hk hres ht
        rw [heap_setCell_other _ _ _ _ hne, heap_setCell_other _ _ _ _ hne, heap_setCell_other _ _ _ _ hne]; exact hk
      refine bodyPost_ret (v := .tuple #[.agg #[.int .i64 seq, .int .u64 now, .slice Ag acts.length cg], vl]) (by simp [results, Try.results19, go_sem, z2, z3, z4]) rfl ⟨_, _, acts, rfl, hZ, ?_, ?_, ?_, ?_, ?_⟩
      · have h1 := Kd.R_types HS.out.own hres (t := 33) (fun q hq => by
          have : q = 76 ∨ q = 37 := by simpa [kSE, Kd.iso, Kd.pair, Kd.slice, kE, Kd.scalar, Kd.int] using hq
          rcases this with rfl | rfl <;> decide)
        exact Kd.R_mono (Kd.R_far (p := ⟨w.heap.size + 1, 2, none⟩) (Kd.R_far (p := ⟨w.heap.size + 1, 1, none⟩) (Kd.R_far (p := ⟨w.heap.size + 1, 0, none⟩) h1 (fun k hk => hk.2) _) (fun k hk => hk.2) _) (fun k hk => hk.2) _) (fun k hk => hk.1.1)
      · have h1 := HS.out.lst
        rw [hfl] at h1
        have h2 := Kd.R_types h1 hres (t := 33) (fun q hq => by
          have : q = 37 := by simpa [kE, Kd.scalar] using hq
          subst this; decide)
        exact Kd.R_mono (Kd.R_far (p := ⟨w.heap.size + 1, 2, none⟩) (Kd.R_far (p := ⟨w.heap.size + 1, 1, none⟩) (Kd.R_far (p := ⟨w.heap.size + 1, 0, none⟩) h2 (fun k hk => hk.2) _) (fun k hk => hk.2) _) (fun k hk => hk.2) _) (fun _ _ => trivial)
      · intro x hx
        obtain ⟨hx1, hx2⟩ := HS.out.lent x (by rw [hfl]; exact hx)
        obtain ⟨rest, hb⟩ := hx1.heap
        exact ⟨⟨⟨rest, far hb (by decide)⟩, hx1.cap, hx1.cmax⟩, hx2⟩
      · have := HS.out.nod
        rwa [hfl] at this
      · have := HS.out.acs
        rwa [List.take_length] at this
end Go.Proofs.Ytdhkhjfjjbdkgaa.Rec
