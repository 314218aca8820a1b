/- larderlaw16.RecordLines, walked over its callees' contracts. -/
import Derived.Test.YtdhkhjfjjbdkgaaBack
import Derived.Test.YtdhkhjfjjbdkgaaStarts
import Derived.Test.YtdhkhjfjjbdkgaaRLx6
import Derived.Test.YtdhkhjfjjbdkgaaRLx7c
namespace Go.Proofs.Ytdhkhjfjjbdkgaa.Rec
open List Go.RowKit Go.Proofs.YtdhkhjfjjbdkgaaW.PrintWords Go.Proofs.YtdhkhjfjjbdkgaaW.PrintLast Go.Proofs.YtdhkhjfjjbdkgaaW.PrintMore
set_option linter.unusedVariables false
set_option linter.unusedSimpArgs false
theorem rd_T33_at (g : List S33) (i : Nat) (h : i < g.length) : rd_T33 g (i : Int) = g[i] := by
  unfold rd_T33; rw [Int.toNat_natCast, List.getD_eq_getElem?_getD, List.getElem?_eq_getElem h]; rfl
/-- What the walk asks of an entry. -/
structure LineOk (k : Nat) (O : List Int → List Int) (e : S33) (b : List Int) (er : Int) : Prop where
  l1 : record_Line.f k e.f0 e.f1 e.f2 = some (b, er)
  l2 : larderref16_Line.f k e.f0 e.f1 e.f2 = some (b, er)
  eq : larderref0_Eq.f k b b = some true
  same : larderlaw16_sameEntry.f k e.f0 e.f1 e.f2 e.f0 e.f1 e.f2 = some true
  other : ∀ a ∈ e.f2, ∀ t ∈ a.f1, larderlaw1_Other.f k t = some (O t) ∧ (O t).length = t.length
  line : larderlaw16_line.f k e.f0 e.f1 (e.f2.map fun a => ⟨a.f0, a.f1.map O⟩) = some true
  sum : (e.f2.map (fun a => a.f1.length)).sum ≤ 1048576
  len : e.f2.length ≤ 1048576
  txt : ∀ a ∈ e.f2, ∀ t ∈ a.f1, t.length ≤ 1048576
theorem Held.congr {Z : Nat} {w : World} {vg vl : Value} {acts : List SE} {cur cur' : LE → List Int} (h : Held Z w vg vl acts cur) (hc : ∀ x ∈ flat acts, cur x = cur' x) : Held Z w vg vl acts cur' :=
  ⟨h.own, h.lst, fun x hx => by rw [← hc x hx]; exact h.lent x hx, h.nod⟩
theorem viewOf_congr {cur cur' : LE → List Int} {acts : List SE} (hc : ∀ x ∈ flat acts, cur x = cur' x) : viewOf cur acts = viewOf cur' acts := by
  unfold viewOf
  refine List.map_congr_left (fun a ha => ?_)
  congr 1
  exact List.map_congr_left (fun x hx => hc x (List.mem_flatMap.2 ⟨a, ha, hx⟩))
theorem viewOf_other {acts : List SE} {G : List S76} (O : List Int → List Int) (h : acts.map (fun a => (a.f0, a.f1.map (·.2.2))) = G.map (fun a => (a.f0, a.f1))) : viewOf (fun x => O x.2.2) acts = G.map (fun a => ⟨a.f0, a.f1.map O⟩) := by
  have h2 := congrArg (List.map (fun p : Int × List (List Int) => (⟨p.1, p.2.map O⟩ : S76))) h
  simp only [List.map_map, Function.comp_def] at h2
  exact h2
theorem flat_texts {acts : List SE} {G : List S76} (h : acts.map (fun a => (a.f0, a.f1.map (·.2.2))) = G.map (fun a => (a.f0, a.f1))) : (flat acts).map (·.2.2) = G.flatMap (·.f1) := by
  rw [← viewOf_texts, viewOf_same h]
/-- The lists' bytes, j of them turned. -/
def curAt (O : List Int → List Int) (fl : List LE) (j : Nat) (x : LE) : List Int := if x.1 ∈ (fl.take j).map (·.1) then O x.2.2 else x.2.2
theorem curAt_succ {O : List Int → List Int} {fl : List LE} (hn : (fl.map (·.1)).Nodup) {j : Nat} {y : LE} (hy : fl[j]? = some y) (x : LE) (hx : x ∈ fl) : (if x.1 = y.1 then O y.2.2 else curAt O fl j x) = curAt O fl (j + 1) x := by
  unfold curAt
  rw [List.take_add_one, hy, List.map_append]
  by_cases e : x.1 = y.1
  · have := nodup_key hn hx (List.mem_of_getElem? hy) e
    subst this
    simp
  · rw [if_neg e]
    simp [e]
theorem curAt_all {O : List Int → List Int} {fl : List LE} {j : Nat} (hj : fl.length ≤ j) (x : LE) (hx : x ∈ fl) : curAt O fl j x = O x.2.2 := by
  unfold curAt
  rw [List.take_of_length_le hj, if_pos (List.mem_map_of_mem (f := (·.1)) hx)]
theorem curAt_self {O : List Int → List Int} {fl : List LE} (hn : (fl.map (·.1)).Nodup) {j : Nat} {y : LE} (hy : fl[j]? = some y) : curAt O fl j y = y.2.2 := by
  unfold curAt
  rw [if_neg]
  intro hm
  obtain ⟨z, hz, he⟩ := List.mem_map.1 hm
  have hz2 : z ∈ fl := List.mem_of_mem_take hz
  obtain rfl := nodup_key hn hz2 (List.mem_of_getElem? hy) he
  obtain ⟨i, hi⟩ := List.getElem?_of_mem hz
  have hij : i < j := by
    have := (List.getElem?_eq_some_iff.1 hi).1
    rw [List.length_take] at this; omega
  rw [List.getElem?_take_of_lt hij] at hi
  have h1 : (fl.map (·.1))[i]? = some z.1 := by rw [List.getElem?_map, hi]; rfl
  have h2 : (fl.map (·.1))[j]? = some z.1 := by rw [List.getElem?_map, hy]; rfl
  have := (List.getElem?_inj (by rw [List.length_map]; have := (List.getElem?_eq_some_iff.1 hi).1; omega) hn).1 (h1.trans h2.symm)
  omega
theorem curAt_zero {O : List Int → List Int} {fl : List LE} (x : LE) : curAt O fl 0 x = x.2.2 := by
  unfold curAt; simp
theorem Held.keepC {Z : Nat} {w : World} {Ag : Option Addr} {cg m : Nat} {vl : Value} {acts : List SE} {cur : LE → List Int} {G : List S76} (h : Held Z w (.slice Ag m cg) vl acts cur) (hv : viewOf cur acts = G) : m = G.length ∧ G.length ≤ cg ∧ Kd.C k76 w Ag G.length G := by
  obtain ⟨A, c, e, h1, h2⟩ := h.view
  rw [hv] at e h1 h2
  injection e with e1 e2 e3
  subst e1; subst e3
  exact ⟨e2, h1, h2⟩
theorem bytN_of_own {w : World} {g base c : Nat} {A : Option Addr} {l : List Int} (h : Kd.R (Kd.int .u8) 5 w base (fun _ => True) (.slice A l.length c) l) (hg : g < base) : BytN w g A c l := by
  refine ⟨Kd.reads_of_C (d := (0 : Int)) (Kd.R_reads' h).2.2, (Kd.R_reads' h).2.1, fun ad e h0 => ?_⟩
  subst e
  have := (Kd.R_bound h).1 ad.block rfl
  omega
theorem own_far {w : World} {base : Nat} {v : Value} {b : List Int} {fl : List LE} (h : Kd.R (Kd.int .u8) 5 w base (fun _ => True) v b) (hf : ∀ x ∈ fl, x.1 < base) : Kd.R (Kd.int .u8) 5 w base (fun k => ∀ x ∈ fl, k ≠ x.1) v b :=
  Kd.R_mono (Kd.R_bound h) (fun k hk x hx => by have := hf x hx; have := hk.2.1; omega)
set_option maxHeartbeats 8000000 in
set_option maxRecDepth 100000 in
theorem lines_walk (k : Nat) (O : List Int → List Int) (A0 : Option Addr) (c0 : Nat) (L : List S33) (w : World) (hr : Kd.C k33 w A0 L.length L) (hc : L.length ≤ c0) (hm : L.length ≤ 1048576) (hok : ∀ e ∈ L, ∃ b er, LineOk k O e b er) :
    Calls Try.prog 7 #[.slice A0 L.length c0] w fun e w' => e = .returned (.bool true) ∧ Below w.heap.size w w' := by
  have HR := Aside0.mk hr; have HC := Aside0.mk hc; have HOK := Aside0.mk hok
  clear hr hc hok
  go_enter Try.func7, Try.ntmps7
  go_wp2_with fail
  refine (starts_walk _).mono ?_
  rintro e w1 ⟨rfl, hb⟩
  have HB1 := Aside0.mk hb
  clear hb
  go_wp2_with fail
  go_loopw [3] (fun v3 wr => ∃ i : Nat, i ≤ L.length ∧ v3 = .int .i64 i ∧ Below w.heap.size w wr) (fun v _ => L.length - (intOf v).toNat)
  case atStart => exact ⟨0, Nat.zero_le _, rfl, HB1.out⟩
  case round =>
    obtain ⟨i, hi, rfl, hb⟩ := hrel
    have HBI := Aside0.mk hb
    clear hb HB1
    by_cases hlt : i < L.length
    · have p1 : (0 : Int) ≤ (i : Int) := by omega
      have q1 : (i : Int) < (L.length : Int) := by omega
      by_cases h40 : (i : Int) < 40
      · obtain ⟨ad, A2, c2, hA, hx0, hx1, hx2, hl2, hC2⟩ := at_T33 HR.out (i : Int) (by omega) (by omega)
        rw [rd_T33_at L i hlt, Int.toNat_natCast] at hx0 hx1 hx2
        rw [rd_T33_at L i hlt] at hl2 hC2
        have hmem := List.getElem_mem hlt
        generalize L[i] = en at hx0 hx1 hx2 hl2 hC2 hmem
        subst hA
        obtain ⟨b, er, hOk⟩ := HOK.out en hmem
        obtain ⟨s, n, G⟩ := en
        dsimp only at hx0 hx1 hx2 hl2 hC2 hOk
        have HOK1 := Aside0.mk hOk; have HL2 := Aside0.mk hl2; have HC2 := Aside0.mk hC2
        have y0 := (HBI.out.cell (World.block_lt_of_cell? _ _ hx0)).trans hx0
        have y1 := (HBI.out.cell (World.block_lt_of_cell? _ _ hx1)).trans hx1
        have y2 := (HBI.out.cell (World.block_lt_of_cell? _ _ hx2)).trans hx2
        have HY0 := Aside0.mk hx0; have HY1 := Aside0.mk hx1; have HY2 := Aside0.mk hx2
        clear hx0 hx1 hx2 hl2 hC2 hmem hOk
        go_wp2_with fail
        refine (lent_walk s n A2 c2 G _ (Kd.C_below HC2.out HBI.out) HL2.out HOK1.out.sum HOK1.out.len HOK1.out.txt).mono ?_
        rintro e w2 ⟨vg, vl, acts, rfl, hF⟩
        have HH2 := Aside0.mk hF.held; have HACS := Aside0.mk hF.acs; have HB2 := Aside0.mk (HBI.out.trans (hF.bel.mono HBI.out.size))
        clear hF
        obtain ⟨Ag, cg, hvg, hlg, hCg⟩ := HH2.out.view
        rw [viewOf_same HACS.out] at hvg hlg hCg
        subst hvg
        obtain ⟨Al, cl, hvl⟩ := Kd.R_slice HH2.out.lst
        subst hvl
        clear y0 y1 y2
        -- CUT
        have HZ := Aside0.mk (show w.heap.size ≤ wr.heap.size from HBI.out.size)
        have HBX3 := Aside0.mk (heap_alloc_new w2 (.cells #[.int .i64 s, .int .u64 n, .slice Ag G.length cg] 33))
        have hba : Below w2.heap.size w2 (w2.alloc (.cells #[.int .i64 s, .int .u64 n, .slice Ag G.length cg] 33)) := (Below.refl _ _).alloc (Nat.le_refl _) _
        have HH3 := Aside0.mk (HH2.out.below hba); have HB3 := Aside0.mk (HB2.out.trans (hba.mono HB2.out.size)); have HCG3 := Aside0.mk (Kd.C_below hCg hba); have HLG := Aside0.mk hlg
        clear hCg hlg HH2 HB2 hba
        go_wp2_with fail
        refine (record_Line.calls k s n Ag cg G b er _ HCG3.out HLG.out HOK1.out.l1).mono ?_
        rintro e w4 ⟨v6, rfl, hv6, hb⟩
        obtain ⟨A6, c6, rfl⟩ := Kd.R_slice hv6
        have HV4 := Aside0.mk (own_far (fl := flat acts) hv6 (fun x hx => (HH3.out.lent x hx).1.lt))
        have HBX4 := Aside0.mk ((hb.block _ (Array.getElem?_eq_some_iff.1 HBX3.out).1).trans HBX3.out)
        have HH4 := Aside0.mk (HH3.out.below hb); have HB4 := Aside0.mk (HB3.out.trans (hb.mono HB3.out.size)); have HCG4 := Aside0.mk (Kd.C_below HCG3.out hb)
        clear hv6 hb HCG3 HH3 HB3 HBX3
        have y0 := (HB4.out.cell (World.block_lt_of_cell? _ _ HY0.out)).trans HY0.out
        have y1 := (HB4.out.cell (World.block_lt_of_cell? _ _ HY1.out)).trans HY1.out
        have y2 := (HB4.out.cell (World.block_lt_of_cell? _ _ HY2.out)).trans HY2.out
        go_wp2_with fail
        refine (larderref16_Line.calls k s n A2 c2 G b er _ (Kd.C_below HC2.out HB4.out) HL2.out HOK1.out.l2).mono ?_
        rintro e w5 ⟨v8, rfl, hv8, hb⟩
        obtain ⟨A8, c8, rfl⟩ := Kd.R_slice hv8
        have HU5 := Aside0.mk (own_far (fl := flat acts) hv8 (fun x hx => (HH4.out.lent x hx).1.lt))
        have HV5 := Aside0.mk (Kd.R_below HV4.out hb)
        have HBX5 := Aside0.mk ((hb.block _ (Array.getElem?_eq_some_iff.1 HBX4.out).1).trans HBX4.out)
        have HH5 := Aside0.mk (HH4.out.below hb); have HB5 := Aside0.mk (HB4.out.trans (hb.mono HB4.out.size)); have HCG5 := Aside0.mk (Kd.C_below HCG4.out hb)
        clear hv8 hb HCG4 HH4 HB4 HBX4 y0 y1 y2 HV4
        have y0 := (HB5.out.cell (World.block_lt_of_cell? _ _ HY0.out)).trans HY0.out
        have y1 := (HB5.out.cell (World.block_lt_of_cell? _ _ HY1.out)).trans HY1.out
        have y2 := (HB5.out.cell (World.block_lt_of_cell? _ _ HY2.out)).trans HY2.out
        obtain ⟨z0, z1, z2, _, _, _⟩ := ent_cells HBX5.out
        go_wp2_with fail
        refine wp_region_held_drew (S := fun w' => w'.cell? ⟨w2.heap.size, 0, none⟩ = some (.int .i64 s) ∧ w'.cell? ⟨w2.heap.size, 1, none⟩ = some (.int .u64 n) ∧ w'.cell? ⟨w2.heap.size, 2, none⟩ = some (.slice Ag G.length cg) ∧ w'.cell? (ad.add (i * 3)) = some (.int .i64 s) ∧ w'.cell? ⟨(ad.add (i * 3)).block, (ad.add (i * 3)).off + 1, none⟩ = some (.int .u64 n) ∧ w'.cell? ⟨(ad.add (i * 3)).block, (ad.add (i * 3)).off + 2, none⟩ = some (.slice A2 G.length c2)) (by kernel_rfl) ⟨z0, z1, z2, y0, y1, y2⟩ (fun hHeld => ?_)
        refine wpAnyH_take (i := 0) (v := ?v1) rfl (by kernel_rfl) (by kernel_rfl) (by kernel_rfl) (fun _ _ _ h => h) (Or.inl ⟨by rfl, ?y1⟩) (by assumption) ?r1
        case y1 => (intro w_ hSw; (try dsimp only at hSw); simp only [List.getElem_toArray, List.getElem_cons_zero, List.getElem_cons_succ]; go_simp; try with_reducible rfl)
        (try simp only [List.getElem_toArray, List.getElem_cons_zero, List.getElem_cons_succ, Act.put, List.setIfInBounds_toArray, List.set_cons_zero, List.set_cons_succ])
        refine wpAnyH_take (i := 2) (v := ?v2) rfl (by kernel_rfl) (by kernel_rfl) (by kernel_rfl) (fun _ _ _ h => h) (Or.inl ⟨by rfl, ?y2⟩) (by assumption) ?r2
        case y2 => (intro w_ hSw; (try dsimp only at hSw); simp only [List.getElem_toArray, List.getElem_cons_zero, List.getElem_cons_succ]; go_simp; try with_reducible rfl)
        (try simp only [List.getElem_toArray, List.getElem_cons_zero, List.getElem_cons_succ, Act.put, List.setIfInBounds_toArray, List.set_cons_zero, List.set_cons_succ])
        refine wpAnyH_ready (rs := [1]) (by kernel_rfl) (by simp) ?_
        refine AllReadyH.cons (o := _) rfl (fun K hK => ?_) AllReadyH.nil
        (try simp only [List.getElem_toArray, List.getElem_cons_zero, List.getElem_cons_succ])
        go_simp; go_at_call 22; (refine (larderlaw16_num.calls er er _ rfl).mono ?_); rintro e6 w6 ⟨rfl, n6, hw6⟩; have HB6 := Aside0.mk (show Below w5.drew.heap.size w5.drew w6 from hw6 ▸ pw_below_drewN (Below.refl _ _) n6); clear hw6
        refine hK.out _ _ (by exact ⟨(HB6.out.cell (World.block_lt_of_cell? _ _ z0)).trans z0, (HB6.out.cell (World.block_lt_of_cell? _ _ z1)).trans z1, (HB6.out.cell (World.block_lt_of_cell? _ _ z2)).trans z2, (HB6.out.cell (World.block_lt_of_cell? _ _ y0)).trans y0, (HB6.out.cell (World.block_lt_of_cell? _ _ y1)).trans y1, (HB6.out.cell (World.block_lt_of_cell? _ _ y2)).trans y2⟩) (fun hHeld => ?_)
        clear hK K
        (try simp only [List.getElem_toArray, List.getElem_cons_zero, List.getElem_cons_succ, Act.put, List.setIfInBounds_toArray, List.set_cons_zero, List.set_cons_succ])
        refine wpAnyH_take (i := 3) (v := ?v3) rfl (by kernel_rfl) (by kernel_rfl) (by kernel_rfl) (fun _ _ _ h => h) (Or.inl ⟨by rfl, ?y3⟩) (by assumption) ?r3
        case y3 => (intro w_ hSw; (try dsimp only at hSw); simp only [List.getElem_toArray, List.getElem_cons_zero, List.getElem_cons_succ]; go_simp; try with_reducible rfl)
        (try simp only [List.getElem_toArray, List.getElem_cons_zero, List.getElem_cons_succ, Act.put, List.setIfInBounds_toArray, List.set_cons_zero, List.set_cons_succ])
        refine wpAnyH_take (i := 4) (v := ?v4) rfl (by kernel_rfl) (by kernel_rfl) (by kernel_rfl) (fun _ _ _ h => h) (Or.inl ⟨by rfl, ?y4⟩) (by assumption) ?r4
        case y4 => (intro w_ hSw; (try dsimp only at hSw); simp only [List.getElem_toArray, List.getElem_cons_zero, List.getElem_cons_succ]; go_simp; try with_reducible rfl)
        (try simp only [List.getElem_toArray, List.getElem_cons_zero, List.getElem_cons_succ, Act.put, List.setIfInBounds_toArray, List.set_cons_zero, List.set_cons_succ])
        refine wpAnyH_take (i := 5) (v := ?v5) rfl (by kernel_rfl) (by kernel_rfl) (by kernel_rfl) (fun _ _ _ h => h) (Or.inl ⟨by rfl, ?y5⟩) (by assumption) ?r5
        case y5 => (intro w_ hSw; (try dsimp only at hSw); simp only [List.getElem_toArray, List.getElem_cons_zero, List.getElem_cons_succ]; go_simp; try with_reducible rfl)
        (try simp only [List.getElem_toArray, List.getElem_cons_zero, List.getElem_cons_succ, Act.put, List.setIfInBounds_toArray, List.set_cons_zero, List.set_cons_succ])
        refine wpAnyH_take (i := 6) (v := ?v6) rfl (by kernel_rfl) (by kernel_rfl) (by kernel_rfl) (fun _ _ _ h => h) (Or.inl ⟨by rfl, ?y6⟩) (by assumption) ?r6
        case y6 => (intro w_ hSw; (try dsimp only at hSw); simp only [List.getElem_toArray, List.getElem_cons_zero, List.getElem_cons_succ]; go_simp; try with_reducible rfl)
        (try simp only [List.getElem_toArray, List.getElem_cons_zero, List.getElem_cons_succ, Act.put, List.setIfInBounds_toArray, List.set_cons_zero, List.set_cons_succ])
        refine wpAnyH_take (i := 7) (v := ?v7) rfl (by kernel_rfl) (by kernel_rfl) (by kernel_rfl) (fun _ _ _ h => h) (Or.inl ⟨by rfl, ?y7⟩) (by assumption) ?r7
        case y7 => (intro w_ hSw; (try dsimp only at hSw); simp only [List.getElem_toArray, List.getElem_cons_zero, List.getElem_cons_succ]; go_simp; try with_reducible rfl)
        (try simp only [List.getElem_toArray, List.getElem_cons_zero, List.getElem_cons_succ, Act.put, List.setIfInBounds_toArray, List.set_cons_zero, List.set_cons_succ])
        refine wpAnyH_take (i := 8) (v := ?v8) rfl (by kernel_rfl) (by kernel_rfl) (by kernel_rfl) (fun _ _ _ h => h) (Or.inl ⟨by rfl, ?y8⟩) (by assumption) ?r8
        case y8 => (intro w_ hSw; (try dsimp only at hSw); simp only [List.getElem_toArray, List.getElem_cons_zero, List.getElem_cons_succ]; go_simp; try with_reducible rfl)
        (try simp only [List.getElem_toArray, List.getElem_cons_zero, List.getElem_cons_succ, Act.put, List.setIfInBounds_toArray, List.set_cons_zero, List.set_cons_succ])
        refine wpAnyH_take (i := 9) (v := ?v9) rfl (by kernel_rfl) (by kernel_rfl) (by kernel_rfl) (fun _ _ _ h => h) (Or.inl ⟨by rfl, ?y9⟩) (by assumption) ?r9
        case y9 => (intro w_ hSw; (try dsimp only at hSw); simp only [List.getElem_toArray, List.getElem_cons_zero, List.getElem_cons_succ]; go_simp; try with_reducible rfl)
        (try simp only [List.getElem_toArray, List.getElem_cons_zero, List.getElem_cons_succ, Act.put, List.setIfInBounds_toArray, List.set_cons_zero, List.set_cons_succ])
        have HC6 := Aside0.mk (((Below.refl w5.heap.size w5).drew).trans HB6.out)
        refine wpAnyH_ready (rs := [10]) (by kernel_rfl) (by simp) ?_
        refine AllReadyH.cons (o := _) rfl (fun K hK => ?_) AllReadyH.nil
        (try simp only [List.getElem_toArray, List.getElem_cons_zero, List.getElem_cons_succ])
        go_simp; go_at_call 23; (refine (larderlaw16_sameEntry.calls k s n Ag cg G s n A2 c2 G true _ (Kd.C_below HCG5.out HC6.out) HLG.out (Kd.C_below HC2.out (HB5.out.trans (HC6.out.mono HB5.out.size))) HL2.out HOK1.out.same).mono ?_); rintro e7 w7 ⟨rfl, hb7⟩; have HB7 := Aside0.mk (HC6.out.trans (hb7.mono HC6.out.size)); clear hb7
        refine hK.out _ _ (by exact ⟨(HB7.out.cell (World.block_lt_of_cell? _ _ z0)).trans z0, (HB7.out.cell (World.block_lt_of_cell? _ _ z1)).trans z1, (HB7.out.cell (World.block_lt_of_cell? _ _ z2)).trans z2, (HB7.out.cell (World.block_lt_of_cell? _ _ y0)).trans y0, (HB7.out.cell (World.block_lt_of_cell? _ _ y1)).trans y1, (HB7.out.cell (World.block_lt_of_cell? _ _ y2)).trans y2⟩) (fun hHeld => ?_)
        clear hK K
        (try simp only [List.getElem_toArray, List.getElem_cons_zero, List.getElem_cons_succ, Act.put, List.setIfInBounds_toArray, List.set_cons_zero, List.set_cons_succ])
        refine wpAnyH_take (i := 11) (v := ?v10) rfl (by kernel_rfl) (by kernel_rfl) (by kernel_rfl) (fun _ _ _ h => h) (Or.inl ⟨by rfl, ?y10⟩) (by assumption) ?r10
        case y10 => (intro w_ hSw; (try dsimp only at hSw); simp only [List.getElem_toArray, List.getElem_cons_zero, List.getElem_cons_succ]; go_simp; try with_reducible rfl)
        (try simp only [List.getElem_toArray, List.getElem_cons_zero, List.getElem_cons_succ, Act.put, List.setIfInBounds_toArray, List.set_cons_zero, List.set_cons_succ])
        refine wpAnyH_take (i := 12) (v := ?v11) rfl (by kernel_rfl) (by kernel_rfl) (by kernel_rfl) (fun _ _ _ h => h) (Or.inl ⟨by rfl, ?y11⟩) (by assumption) ?r11
        case y11 => (intro w_ hSw; (try dsimp only at hSw); simp only [List.getElem_toArray, List.getElem_cons_zero, List.getElem_cons_succ]; go_simp; try with_reducible rfl)
        (try simp only [List.getElem_toArray, List.getElem_cons_zero, List.getElem_cons_succ, Act.put, List.setIfInBounds_toArray, List.set_cons_zero, List.set_cons_succ])
        refine wpAnyH_take (i := 13) (v := ?v12) rfl (by kernel_rfl) (by kernel_rfl) (by kernel_rfl) (fun _ _ _ h => h) (Or.inl ⟨by rfl, ?y12⟩) (by assumption) ?r12
        case y12 => (intro w_ hSw; (try dsimp only at hSw); simp only [List.getElem_toArray, List.getElem_cons_zero, List.getElem_cons_succ]; go_simp; try with_reducible rfl)
        (try simp only [List.getElem_toArray, List.getElem_cons_zero, List.getElem_cons_succ, Act.put, List.setIfInBounds_toArray, List.set_cons_zero, List.set_cons_succ])
        refine wpAnyH_take (i := 14) (v := ?v13) rfl (by kernel_rfl) (by kernel_rfl) (by kernel_rfl) (fun _ _ _ h => h) (Or.inl ⟨by rfl, ?y13⟩) (by assumption) ?r13
        case y13 => (intro w_ hSw; (try dsimp only at hSw); simp only [List.getElem_toArray, List.getElem_cons_zero, List.getElem_cons_succ]; go_simp; try with_reducible rfl)
        (try simp only [List.getElem_toArray, List.getElem_cons_zero, List.getElem_cons_succ, Act.put, List.setIfInBounds_toArray, List.set_cons_zero, List.set_cons_succ])
        refine wpAnyH_take (i := 15) (v := ?v14) rfl (by kernel_rfl) (by kernel_rfl) (by kernel_rfl) (fun _ _ _ h => h) (Or.inl ⟨by rfl, ?y14⟩) (by assumption) ?r14
        case y14 => (intro w_ hSw; (try dsimp only at hSw); simp only [List.getElem_toArray, List.getElem_cons_zero, List.getElem_cons_succ]; go_simp; try with_reducible rfl)
        (try simp only [List.getElem_toArray, List.getElem_cons_zero, List.getElem_cons_succ, Act.put, List.setIfInBounds_toArray, List.set_cons_zero, List.set_cons_succ])
        refine wpAnyH_take (i := 16) (v := ?v15) rfl (by kernel_rfl) (by kernel_rfl) (by kernel_rfl) (fun _ _ _ h => h) (Or.inl ⟨by rfl, ?y15⟩) (by assumption) ?r15
        case y15 => (intro w_ hSw; (try dsimp only at hSw); simp only [List.getElem_toArray, List.getElem_cons_zero, List.getElem_cons_succ]; go_simp; try with_reducible rfl)
        (try simp only [List.getElem_toArray, List.getElem_cons_zero, List.getElem_cons_succ, Act.put, List.setIfInBounds_toArray, List.set_cons_zero, List.set_cons_succ])
        refine wpAnyH_take (i := 17) (v := ?v16) rfl (by kernel_rfl) (by kernel_rfl) (by kernel_rfl) (fun _ _ _ h => h) (Or.inl ⟨by rfl, ?y16⟩) (by assumption) ?r16
        case y16 => (intro w_ hSw; (try dsimp only at hSw); simp only [List.getElem_toArray, List.getElem_cons_zero, List.getElem_cons_succ]; go_simp; try with_reducible rfl)
        (try simp only [List.getElem_toArray, List.getElem_cons_zero, List.getElem_cons_succ, Act.put, List.setIfInBounds_toArray, List.set_cons_zero, List.set_cons_succ])
        refine wpAnyH_take (i := 18) (v := ?v17) rfl (by kernel_rfl) (by kernel_rfl) (by kernel_rfl) (fun _ _ _ h => h) (Or.inl ⟨by rfl, ?y17⟩) (by assumption) ?r17
        case y17 => (intro w_ hSw; (try dsimp only at hSw); simp only [List.getElem_toArray, List.getElem_cons_zero, List.getElem_cons_succ]; go_simp; try with_reducible rfl)
        (try simp only [List.getElem_toArray, List.getElem_cons_zero, List.getElem_cons_succ, Act.put, List.setIfInBounds_toArray, List.set_cons_zero, List.set_cons_succ])
        refine wpAnyH_ready (rs := [19]) (by kernel_rfl) (by simp) ?_
        refine AllReadyH.cons (o := _) rfl (fun K hK => ?_) AllReadyH.nil
        (try simp only [List.getElem_toArray, List.getElem_cons_zero, List.getElem_cons_succ])
        go_simp; go_at_call 24; (refine (back_walk _ Al _ cl (flat acts) s n A2 c2 G rfl (Kd.R_reads' (Kd.R_below HH5.out.lst HB7.out)).2.2 (fun x hx => (HH5.out.lent x hx).1.below HB7.out) (Kd.C_below HC2.out (HB5.out.trans (HB7.out.mono HB5.out.size))) (flat_texts HACS.out) (count_flat acts G HACS.out ▸ HOK1.out.sum) HOK1.out.len).mono ?_); rintro e8 w8 ⟨rfl, hb8⟩; have HB8 := Aside0.mk (HB7.out.trans (hb8.mono HB7.out.size)); clear hb8
        refine hK.out _ _ (by exact ⟨(HB8.out.cell (World.block_lt_of_cell? _ _ z0)).trans z0, (HB8.out.cell (World.block_lt_of_cell? _ _ z1)).trans z1, (HB8.out.cell (World.block_lt_of_cell? _ _ z2)).trans z2, (HB8.out.cell (World.block_lt_of_cell? _ _ y0)).trans y0, (HB8.out.cell (World.block_lt_of_cell? _ _ y1)).trans y1, (HB8.out.cell (World.block_lt_of_cell? _ _ y2)).trans y2⟩) (fun hHeld => ?_)
        clear hK K
        (try simp only [List.getElem_toArray, List.getElem_cons_zero, List.getElem_cons_succ, Act.put, List.setIfInBounds_toArray, List.set_cons_zero, List.set_cons_succ])
        refine wpAnyH_take (i := 20) (v := ?v18) rfl (by kernel_rfl) (by kernel_rfl) (by kernel_rfl) (fun _ _ _ h => h) (Or.inl ⟨by rfl, ?y18⟩) (by assumption) ?r18
        case y18 => (intro w_ hSw; (try dsimp only at hSw); simp only [List.getElem_toArray, List.getElem_cons_zero, List.getElem_cons_succ]; go_simp; try with_reducible rfl)
        (try simp only [List.getElem_toArray, List.getElem_cons_zero, List.getElem_cons_succ, Act.put, List.setIfInBounds_toArray, List.set_cons_zero, List.set_cons_succ])
        refine wpAnyH_take (i := 21) (v := ?v19) rfl (by kernel_rfl) (by kernel_rfl) (by kernel_rfl) (fun _ _ _ h => h) (Or.inl ⟨by rfl, ?y19⟩) (by assumption) ?r19
        case y19 => (intro w_ hSw; (try dsimp only at hSw); simp only [List.getElem_toArray, List.getElem_cons_zero, List.getElem_cons_succ]; go_simp; try with_reducible rfl)
        (try simp only [List.getElem_toArray, List.getElem_cons_zero, List.getElem_cons_succ, Act.put, List.setIfInBounds_toArray, List.set_cons_zero, List.set_cons_succ])
        refine wpAnyH_done (by kernel_rfl) ?_ _
        have HV8 := Aside0.mk (Kd.R_below HV5.out HB8.out); have HU8 := Aside0.mk (Kd.R_below HU5.out HB8.out)
        have HBX8 := Aside0.mk ((HB8.out.block _ (Array.getElem?_eq_some_iff.1 HBX5.out).1).trans HBX5.out)
        have HH8 := Aside0.mk ((HH5.out.below HB8.out).congr (cur' := curAt O (flat acts) 0) (fun x _ => (curAt_zero x).symm)); have HB9 := Aside0.mk (HB5.out.trans (HB8.out.mono HB5.out.size))
        have HFL := Aside0.mk (count_flat acts G HACS.out ▸ HOK1.out.sum : (flat acts).length ≤ 1048576)
        clear HC6 HB7 HB8 HCG5 HH5 HB5 HBX5 HV5 HU5 z0 z1 z2 y0 y1 y2 HB6
        go_wp2_with fail
        have hfl := HFL.out
        go_loopw [10] (fun v10 wx => ∃ j : Nat, j ≤ (flat acts).length ∧ v10 = .int .i64 j ∧ Held wr.heap.size wx (.slice Ag G.length cg) (.slice Al (flat acts).length cl) acts (curAt O (flat acts) j) ∧ wx.heap[w2.heap.size]? = some (.cells #[.int .i64 s, .int .u64 n, .slice Ag G.length cg] 33 (0, 0)) ∧ Kd.R (Kd.int .u8) 5 wx (w2.alloc (.cells #[.int .i64 s, .int .u64 n, .slice Ag G.length cg] 33)).heap.size (fun k => ∀ x ∈ flat acts, k ≠ x.1) (.slice A6 b.length c6) b ∧ Kd.R (Kd.int .u8) 5 wx w4.heap.size (fun k => ∀ x ∈ flat acts, k ≠ x.1) (.slice A8 b.length c8) b ∧ Below w.heap.size w wx) (fun v _ => (flat acts).length - (intOf v).toNat)
        case atStart => exact ⟨0, Nat.zero_le _, rfl, HH8.out, HBX8.out, HV8.out, HU8.out, HB9.out⟩
        case round =>
          obtain ⟨j, hj, rfl, h1, h2, h3, h4, h5⟩ := hrel
          clear HH8 HBX8 HV8 HU8 HB9
          have HHJ := Aside0.mk h1; have HBXJ := Aside0.mk h2; have HVJ := Aside0.mk h3; have HUJ := Aside0.mk h4; have HBJ := Aside0.mk h5
          clear h1 h2 h3 h4 h5
          by_cases hltj : j < (flat acts).length
          · obtain ⟨x, hx⟩ : ∃ x, (flat acts)[j]? = some x := ⟨_, List.getElem?_eq_getElem hltj⟩
            have hmx := List.mem_of_getElem? hx
            obtain ⟨adl, hAl, hz⟩ := at_kE (Kd.R_reads' HHJ.out.lst).2.2 j x hx
            subst hAl
            have hself := curAt_self (O := O) HHJ.out.nod hx
            have HSUCC := Aside0.mk (fun y (hy : y ∈ flat acts) => curAt_succ (O := O) HHJ.out.nod hx y hy)
            obtain ⟨hLx, hZx, hlx⟩ := HHJ.out.lent x hmx
            rw [hself] at hLx hlx
            have hot : larderlaw1_Other.f k x.2.2 = some (O x.2.2) ∧ (O x.2.2).length = x.2.2.length := by
              have h1 : x.2.2 ∈ G.flatMap (·.f1) := by
                rw [← flat_texts HACS.out]; exact List.mem_map_of_mem (f := fun (z : LE) => z.2.2) hmx
              obtain ⟨a, ha, ht⟩ := List.mem_flatMap.1 h1
              exact HOK1.out.other a ha _ ht
            have HMX := Aside0.mk hmx; have HXJ := Aside0.mk hx
            obtain ⟨g, c, t⟩ := x
            unfold eHd at hz
            dsimp only at hz hLx hlx hZx hot
            have HLX := Aside0.mk hLx; have HOT := Aside0.mk hot; have HZX := Aside0.mk hZx
            have p3 : (0 : Int) ≤ (j : Int) := by omega
            have q3 : (j : Int) < ((flat acts).length : Int) := by omega
            clear hx hmx hself hLx hZx hlx hot
            go_wp2_with fail
            refine wp_region_held_drew (S := fun w' => w'.cell? (adl.add j) = some (.slice (some ⟨g, 0, none⟩) t.length c)) (by kernel_rfl) hz (fun hHeld => ?_)
            refine wpAnyH_take (i := 0) (v := ?v20) rfl (by kernel_rfl) (by kernel_rfl) (by kernel_rfl) (fun _ _ _ h => h) (Or.inl ⟨by rfl, ?y20⟩) (by assumption) ?r20
            case y20 => (intro w_ hSw; (try dsimp only at hSw); simp only [List.getElem_toArray, List.getElem_cons_zero, List.getElem_cons_succ]; go_simp; try with_reducible rfl)
            (try simp only [List.getElem_toArray, List.getElem_cons_zero, List.getElem_cons_succ, Act.put, List.setIfInBounds_toArray, List.set_cons_zero, List.set_cons_succ])
            refine wpAnyH_take (i := 1) (v := ?v21) rfl (by kernel_rfl) (by kernel_rfl) (by kernel_rfl) (fun _ _ _ h => h) (Or.inl ⟨by rfl, ?y21⟩) (by assumption) ?r21
            case y21 => (intro w_ hSw; (try dsimp only at hSw); simp only [List.getElem_toArray, List.getElem_cons_zero, List.getElem_cons_succ]; go_simp; try with_reducible rfl)
            (try simp only [List.getElem_toArray, List.getElem_cons_zero, List.getElem_cons_succ, Act.put, List.setIfInBounds_toArray, List.set_cons_zero, List.set_cons_succ])
            refine wpAnyH_take (i := 2) (v := ?v22) rfl (by kernel_rfl) (by kernel_rfl) (by kernel_rfl) (fun _ _ _ h => h) (Or.inl ⟨by rfl, ?y22⟩) (by assumption) ?r22
            case y22 => (intro w_ hSw; (try dsimp only at hSw); simp only [List.getElem_toArray, List.getElem_cons_zero, List.getElem_cons_succ]; go_simp; try with_reducible rfl)
            (try simp only [List.getElem_toArray, List.getElem_cons_zero, List.getElem_cons_succ, Act.put, List.setIfInBounds_toArray, List.set_cons_zero, List.set_cons_succ])
            refine wpAnyH_take (i := 3) (v := ?v23) rfl (by kernel_rfl) (by kernel_rfl) (by kernel_rfl) (fun _ _ _ h => h) (Or.inl ⟨by rfl, ?y23⟩) (by assumption) ?r23
            case y23 => (intro w_ hSw; (try dsimp only at hSw); simp only [List.getElem_toArray, List.getElem_cons_zero, List.getElem_cons_succ]; go_simp; try with_reducible rfl)
            (try simp only [List.getElem_toArray, List.getElem_cons_zero, List.getElem_cons_succ, Act.put, List.setIfInBounds_toArray, List.set_cons_zero, List.set_cons_succ])
            refine wpAnyH_take (i := 4) (v := ?v24) rfl (by kernel_rfl) (by kernel_rfl) (by kernel_rfl) (fun _ _ _ h => h) (Or.inl ⟨by rfl, ?y24⟩) (by assumption) ?r24
            case y24 => (intro w_ hSw; (try dsimp only at hSw); simp only [List.getElem_toArray, List.getElem_cons_zero, List.getElem_cons_succ]; go_simp; try with_reducible rfl)
            (try simp only [List.getElem_toArray, List.getElem_cons_zero, List.getElem_cons_succ, Act.put, List.setIfInBounds_toArray, List.set_cons_zero, List.set_cons_succ])
            refine wpAnyH_take (i := 5) (v := ?v25) rfl (by kernel_rfl) (by kernel_rfl) (by kernel_rfl) (fun _ _ _ h => h) (Or.inl ⟨by rfl, ?y25⟩) (by assumption) ?r25
            case y25 => (intro w_ hSw; (try dsimp only at hSw); simp only [List.getElem_toArray, List.getElem_cons_zero, List.getElem_cons_succ]; go_simp; try with_reducible rfl)
            (try simp only [List.getElem_toArray, List.getElem_cons_zero, List.getElem_cons_succ, Act.put, List.setIfInBounds_toArray, List.set_cons_zero, List.set_cons_succ])
            refine wpAnyH_take (i := 6) (v := ?v26) rfl (by kernel_rfl) (by kernel_rfl) (by kernel_rfl) (fun _ _ _ h => h) (Or.inl ⟨by rfl, ?y26⟩) (by assumption) ?r26
            case y26 => (intro w_ hSw; (try dsimp only at hSw); simp only [List.getElem_toArray, List.getElem_cons_zero, List.getElem_cons_succ]; go_simp; try with_reducible rfl)
            (try simp only [List.getElem_toArray, List.getElem_cons_zero, List.getElem_cons_succ, Act.put, List.setIfInBounds_toArray, List.set_cons_zero, List.set_cons_succ])
            refine wpAnyH_take (i := 7) (v := ?v27) rfl (by kernel_rfl) (by kernel_rfl) (by kernel_rfl) (fun _ _ _ h => h) (Or.inl ⟨by rfl, ?y27⟩) (by assumption) ?r27
            case y27 => (intro w_ hSw; (try dsimp only at hSw); simp only [List.getElem_toArray, List.getElem_cons_zero, List.getElem_cons_succ]; go_simp; try with_reducible rfl)
            (try simp only [List.getElem_toArray, List.getElem_cons_zero, List.getElem_cons_succ, Act.put, List.setIfInBounds_toArray, List.set_cons_zero, List.set_cons_succ])
            refine wpAnyH_ready (rs := [8]) (by kernel_rfl) (by simp) ?_
            refine AllReadyH.cons (o := _) rfl (fun K hK => ?_) AllReadyH.nil
            (try simp only [List.getElem_toArray, List.getElem_cons_zero, List.getElem_cons_succ])
            go_simp; go_at_call 26; (refine (larderlaw1_Other.calls k (some ⟨g, 0, none⟩) c t (O t) _ (HLX.out.below (Below.refl _ _).drew).C (by have := HLX.out.cap; omega) HOT.out.1).mono ?_); rintro e6 w6 ⟨v9, rfl, hv9, hb6⟩; obtain ⟨A9, c9, rfl⟩ := Kd.R_slice hv9; have HV9 := Aside0.mk hv9; have HB6 := Aside0.mk (((Below.refl _ _).drew).trans hb6); clear hb6 hv9
            refine hK.out _ _ (by exact (HB6.out.cell (World.block_lt_of_cell? _ _ hz)).trans hz) (fun hHeld => ?_)
            clear hK K
            (try simp only [List.getElem_toArray, List.getElem_cons_zero, List.getElem_cons_succ, Act.put, List.setIfInBounds_toArray, List.set_cons_zero, List.set_cons_succ])
            have HL6 := Aside0.mk (HLX.out.below HB6.out)
            have HO6 := Aside0.mk (bytN_of_own HV9.out (HLX.out.below (Below.refl _ _).drew).lt)
            refine wpAnyH_ready (rs := [9]) (by kernel_rfl) (by simp) ?_
            refine AllReadyH.cons (o := _) rfl (fun K hK => ?_) AllReadyH.nil
            (try simp only [List.getElem_toArray, List.getElem_cons_zero, List.getElem_cons_succ])
            go_simp; go_at_call 25; (refine (into_lent _ w.heap.size g c t.length t A9 c9 (O t) (Nat.le_trans HZ.out HZX.out) HL6.out rfl HOT.out.2 HO6.out).mono ?_); rintro e7 w7 ⟨rfl, hl7, hk7, hb7⟩; have HL7 := Aside0.mk hl7; have HK7 := Aside0.mk hk7; have HB7 := Aside0.mk hb7; clear hl7 hk7 hb7
            refine hK.out _ _ (by have hh := (HHJ.out.below HB6.out).into HMX.out HK7.out HL7.out HOT.out.2; obtain ⟨ad9, e9, hz9⟩ := at_kE (Kd.R_reads' hh.lst).2.2 j (g, c, t) HXJ.out; obtain rfl := Option.some.inj e9; exact hz9) (fun hHeld => ?_)
            clear hK K
            (try simp only [List.getElem_toArray, List.getElem_cons_zero, List.getElem_cons_succ, Act.put, List.setIfInBounds_toArray, List.set_cons_zero, List.set_cons_succ])
            refine wpAnyH_done (by kernel_rfl) ?_ _
            have HBJ7 := Aside0.mk ((HBJ.out.trans (HB6.out.mono HBJ.out.size)).trans HB7.out)
            have HHJ7 := Aside0.mk (((HHJ.out.below HB6.out).into HMX.out HK7.out HL7.out HOT.out.2).congr HSUCC.out)
            go_wp2_with fail
            go_roundw
            case rel =>
              refine ⟨j + 1, by omega, by go_num, HHJ7.out, ?_, Kd.R_keep (Kd.R_below HVJ.out HB6.out) HK7.out (fun k hk => hk _ HMX.out), Kd.R_keep (Kd.R_below HUJ.out HB6.out) HK7.out (fun k hk => hk _ HMX.out), HBJ7.out⟩
              have h6 := (HB6.out.block _ (Array.getElem?_eq_some_iff.1 HBXJ.out).1).trans HBXJ.out
              obtain ⟨rest, hb9⟩ := HL6.out.heap
              exact (HK7.out.2 _ (Array.getElem?_eq_some_iff.1 h6).1 (type_ne h6 hb9 (by decide)) (by simp)).trans h6
            case measure => simp [intOf]; omega
          · obtain rfl : j = (flat acts).length := by omega
            obtain ⟨z0, z1, z2, _, _, _⟩ := ent_cells HBXJ.out
            have hvw : viewOf (curAt O (flat acts) (flat acts).length) acts = G.map (fun a => ⟨a.f0, a.f1.map O⟩) := (viewOf_congr (fun x hx => curAt_all (Nat.le_refl _) x hx)).trans (viewOf_other O HACS.out)
            obtain ⟨-, hlg, hCg⟩ := HHJ.out.keepC hvw
            have hcall := fun (w' : World) (hc : Kd.C k76 w' Ag (G.map (fun a => (⟨a.f0, a.f1.map O⟩ : S76))).length (G.map (fun a => ⟨a.f0, a.f1.map O⟩))) => larderlaw16_line.calls k s n Ag cg (G.map (fun a => ⟨a.f0, a.f1.map O⟩)) true w' hc hlg HOK1.out.line
            rw [List.length_map] at hcall hCg
            have HCALL := Aside0.mk hcall; have HCG := Aside0.mk hCg
            clear hcall hCg hlg hvw
            go_wp2_with fail
        
            refine (HCALL.out _ HCG.out).mono ?_
            rintro e w9 ⟨rfl, hb⟩
            have HV9 := Aside0.mk (Kd.R_reads' (Kd.R_below HVJ.out hb)).2; have HU9 := Aside0.mk (Kd.R_reads' (Kd.R_below HUJ.out hb)).2; have HB9 := Aside0.mk (HBJ.out.trans (hb.mono HBJ.out.size))
            clear hb z0 z1 z2 HCALL HCG
            go_wp2_with fail
            refine (larderref0_Eq.calls k A6 c6 b A8 c8 b true _ HV9.out.2 HV9.out.1 HU9.out.2 HU9.out.1 HOK1.out.eq).mono ?_
            rintro e w10 ⟨rfl, nd, rfl⟩
            have HB10 := Aside0.mk (pw_below_drewN HB9.out nd)
            go_wp2_with fail
            go_roundw
            case rel => exact ⟨i + 1, by omega, by go_num, HB10.out⟩
            case measure => simp [intOf]; omega
      · go_wp2_with fail
        go_ret
        exact ⟨rfl, HBI.out⟩
    · obtain rfl : i = L.length := by omega
      go_wp2_with fail
      go_ret
      exact ⟨rfl, HBI.out⟩
end Go.Proofs.Ytdhkhjfjjbdkgaa.Rec
