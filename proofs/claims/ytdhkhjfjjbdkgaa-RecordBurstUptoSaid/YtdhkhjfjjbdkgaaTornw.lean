/- larderlaw16.RecordTorn, walked over its callees' contracts. -/
import Derived.Test.YtdhkhjfjjbdkgaaRoww
import Derived.Test.YtdhkhjfjjbdkgaaStarts
import Derived.Test.YtdhkhjfjjbdkgaaRLx10b
import Derived.Test.YtdhkhjfjjbdkgaaRLx10c
namespace Go.Proofs.Ytdhkhjfjjbdkgaa.Rec
open List Go.RowKit Go.Proofs.YtdhkhjfjjbdkgaaW.PrintWords Go.Proofs.YtdhkhjfjjbdkgaaW.PrintLast Go.Proofs.YtdhkhjfjjbdkgaaW.PrintMore
set_option linter.unusedVariables false
set_option linter.unusedSimpArgs false
theorem row_33 {w w' : World} {base : Nat} {ok : Nat → Prop} {A : Option Addr} {n c : Nat} {xs : List HE} {L : List S33} (hb : Below w.heap.size w w') (hv : kH.R 33 w' base ok (.slice A n c) xs) (hX : ∀ x ∈ xs, x.G.length ≤ x.c ∧ Kd.C k76 w x.A x.G.length x.G) (hm : xs.map HE.ent = L) : L.length ≤ c ∧ Kd.C k33 w' A L.length L := by
  obtain ⟨h1, h2, h3⟩ := Kd.R_reads' hv
  have hl : L.length = xs.length := by rw [← hm, List.length_map]
  rw [hl]
  refine ⟨by omega, ?_⟩
  have := kH_33 h3 (fun x hx => ⟨(hX x hx).1, Kd.C_below (hX x hx).2 hb⟩)
  rwa [hm] at this
theorem C_take_ {α : Type} {d : Kd α} {w : World} {A : Option Addr} {m : Nat} {xs : List α} (h : d.C w A m xs) (n : Nat) (hn : n ≤ xs.length) : d.C w A n (xs.take n) := by
  refine ⟨by rw [List.length_take]; omega, by have := h.1; have := h.2.1; omega, fun h0 => ?_⟩
  obtain ⟨ad, e, hc⟩ := h.2.2 (by have := h.1; omega)
  refine ⟨ad, e, fun j p hj => hc j p ?_⟩
  have hlt : j < n := by have := (List.getElem?_eq_some_iff.1 hj).1; rw [List.length_take] at this; omega
  rwa [List.getElem?_take_of_lt hlt] at hj
theorem rec_cells {wr : World} {g T : Nat} {a b c d e f x : Value} (h : wr.heap[g]? = some (.cells #[a, b, c, d, e, f, x] T (0, 0))) : wr.cell? ⟨g, 0, none⟩ = some a ∧ wr.cell? ⟨g, 1, none⟩ = some b ∧ wr.cell? ⟨g, 2, none⟩ = some c ∧ wr.cell? ⟨g, 3, none⟩ = some d ∧ wr.cell? ⟨g, 4, none⟩ = some e ∧ wr.cell? ⟨g, 5, none⟩ = some f ∧ wr.cell? ⟨g, 6, none⟩ = some x := by
  refine ⟨?_, ?_, ?_, ?_, ?_, ?_, ?_⟩ <;> simp [World.cell?, h]
structure TSt (w wr : World) (cells : Array Value) (base : Nat) (vl ve : Value) (xs : List HE) (ends : List Int) : Prop where
  bel : Below w.heap.size w wr
  box : wr.heap[w.heap.size]? = some (.cells cells 59 (0, 0))
  l : kH.R 33 wr base (fun _ => True) vl xs
  e : (Kd.int .i64).R 3 wr base (fun _ => True) ve ends
theorem TSt.below {w wr w1 : World} {cells : Array Value} {base : Nat} {vl ve : Value} {xs : List HE} {ends : List Int} (h : TSt w wr cells base vl ve xs ends) (hb : Below wr.heap.size wr w1) : TSt w w1 cells base vl ve xs ends :=
  ⟨h.bel.trans (hb.mono h.bel.size), (hb.block _ (Array.getElem?_eq_some_iff.1 h.box).1).trans h.box, Kd.R_below h.l hb, Kd.R_below h.e hb⟩
theorem TSt.push {w wr w1 : World} {cells : Array Value} {base base' : Nat} {ok' : Nat → Prop} {vl ve v' : Value} {xs : List HE} {ends ys : List Int} (h : TSt w wr cells base vl ve xs ends) (h' : (Kd.int .u8).R 5 wr base' ok' v' ys) (hg : wr.grownBy w1 v'.ownBlock) (hb : Below w.heap.size w w1) : TSt w w1 cells base vl ve xs ends :=
  ⟨hb, box_apart h.box h' hg (by decide), R_apart h.l h' hg (fun q hq => by rw [kH_E q hq]; decide), R_apart h.e h' hg (by decide)⟩
set_option maxHeartbeats 8000000 in
set_option maxRecDepth 100000 in
theorem torn_walk (k : Nat) (fst step : Int) (A0 : Option Addr) (c0 : Nat) (Gs : List (List S76)) (p1 p2 p3 p4 f st : Int) (w : World) (hr : Kd.C (Kd.slice 76 k76) w A0 Gs.length Gs) (hm : Gs.length ≤ 1048576)
    (hf : f = if fst < 1 then 1 else if fst > 1099511627776 then 1 else fst) (hst : Int.tmod step 1099511627776 = st) (hst0 : 0 ≤ st) (hst1 : st < 1099511627776)
    (htw : ∀ j : Nat, j ≤ 40 → ∀ G ∈ Gs, larderlaw16_twin.f k (f + j) (j * st) G = some (f + j, j * st, G))
    (hln : ∀ j : Nat, j ≤ 40 → ∀ G ∈ Gs, record_Line.f k (f + j) (j * st) G = some (if mayB (f + j) (j * st) G = true then (frameP (bodyP (f + j) (j * st) G), 0) else ([], 162)))
    (L : List S33) (log ends : List Int) (hP : rowP f st (Gs.take 40) = (L, log, ends)) (hlog : log.length ≤ 1343502640) (n z : Nat) (kk : Int) (hn : n ≤ log.length) (hz : z ≤ 4096)
    (h1 : larderlaw16_reads.f k log L ends L.length = some true) (hi : larderlaw16_into.f p1 ((log.length : Int) + 1) = some (n : Int)) (hk : larderlaw16_whole.f k ends n = some kk) (h2 : larderlaw16_reads.f k (log.take n) L ends kk = some true)
    (hzi : larderlaw16_into.f p2 4096 = some (z : Int)) (h3 : larderlaw16_reads.f k (log.take n ++ List.replicate z 0) L ends kk = some true) :
    Calls Try.prog 9 #[.agg #[.int .i64 fst, .int .u64 step, .slice A0 Gs.length c0, .int .i64 p1, .int .i64 p2, .int .i64 p3, .int .u64 p4]] w fun e w' => e = .returned (.bool true) ∧ Below w.heap.size w w' := by
  have HR := Aside0.mk hr; have HF := Aside0.mk hf; have HST := Aside0.mk hst; have HTW := Aside0.mk htw; have HLN := Aside0.mk hln; have HP := Aside0.mk hP; have H1 := Aside0.mk h1; have HI := Aside0.mk hi; have HK := Aside0.mk hk; have H2 := Aside0.mk h2; have HZI := Aside0.mk hzi; have H3 := Aside0.mk h3
  clear hr hf hst htw hln hP h1 hi hk h2 hzi h3
  go_enter Try.func9, Try.ntmps9
  have HB0 := Aside0.mk ((Below.refl w.heap.size w).alloc (Nat.le_refl _) (.cells #[.int .i64 fst, .int .u64 step, .slice A0 Gs.length c0, .int .i64 p1, .int .i64 p2, .int .i64 p3, .int .u64 p4] 59))
  have HX0 := Aside0.mk (heap_alloc_new w (.cells #[.int .i64 fst, .int .u64 step, .slice A0 Gs.length c0, .int .i64 p1, .int .i64 p2, .int .i64 p3, .int .u64 p4] 59))
  have hu59 := Try.underlying59
  go_wp2_with fail
  refine (row_walk k fst step A0 c0 Gs p1 p2 p3 p4 f st _ (Kd.C_below HR.out HB0.out) hm HF.out HST.out hst0 hst1 HTW.out HLN.out).mono ?_
  rintro e w1 ⟨vl, vg, ve, xs, rfl, hb, hl, hg, he, hxe, hxg⟩
  rw [HP.out] at hg he hxe
  dsimp only at hg he hxe
  have hXL : xs.length = L.length := by rw [← hxe, List.length_map]
  obtain ⟨A3, c3, hv3⟩ := Kd.R_slice hl
  rw [hXL] at hv3
  subst hv3
  obtain ⟨A4, c4, rfl⟩ := Kd.R_slice hg
  obtain ⟨A5, c5, rfl⟩ := Kd.R_slice he
  have HT1 := Aside0.mk (show TSt w w1 #[.int .i64 fst, .int .u64 step, .slice A0 Gs.length c0, .int .i64 p1, .int .i64 p2, .int .i64 p3, .int .u64 p4] (w.heap.size + 1) (.slice A3 L.length c3) (.slice A5 ends.length c5) xs ends from ⟨HB0.out.trans (hb.mono HB0.out.size), (hb.block _ (Array.getElem?_eq_some_iff.1 HX0.out).1).trans HX0.out, by simpa using hl, by simpa using he⟩)
  have HG1 := Aside0.mk hg; have HXE := Aside0.mk hxe
  have HXG := Aside0.mk (show ∀ x ∈ xs, x.G.length ≤ x.c ∧ Kd.C k76 (w.alloc (.cells #[.int .i64 fst, .int .u64 step, .slice A0 Gs.length c0, .int .i64 p1, .int .i64 p2, .int .i64 p3, .int .u64 p4] 59)) x.A x.G.length x.G from hxg)
  have HBW := Aside0.mk (show Below (w.alloc (.cells #[.int .i64 fst, .int .u64 step, .slice A0 Gs.length c0, .int .i64 p1, .int .i64 p2, .int .i64 p3, .int .u64 p4] 59)).heap.size (w.alloc (.cells #[.int .i64 fst, .int .u64 step, .slice A0 Gs.length c0, .int .i64 p1, .int .i64 p2, .int .i64 p3, .int .u64 p4] 59)) w1 from hb)
  clear hl he hg hxe hxg hb HTW HLN HP HX0
  go_wp2_with fail
  refine (starts_walk _).mono ?_
  rintro e w2 ⟨rfl, hb⟩
  have HT2 := Aside0.mk (HT1.out.below hb); have HG2 := Aside0.mk (Kd.R_below HG1.out hb); have HBW2 := Aside0.mk (HBW.out.trans (hb.mono HBW.out.size))
  clear hb HT1 HG1 HBW
  go_wp2_with fail
  have hrow := row_33 HBW2.out HT2.out.l HXG.out HXE.out
  refine (larderlaw16_reads.calls k A4 c4 log A3 c3 L A5 c5 ends L.length true _ (Kd.R_reads' HG2.out).2.2 (Kd.R_reads' HG2.out).2.1 hrow.2 hrow.1 (Kd.R_reads' HT2.out.e).2.2 (Kd.R_reads' HT2.out.e).2.1 H1.out).mono ?_
  rintro e w3 ⟨rfl, hb⟩
  have HT3 := Aside0.mk (HT2.out.below hb); have HG3 := Aside0.mk (Kd.R_below HG2.out hb); have HBW3 := Aside0.mk (HBW2.out.trans (hb.mono HBW2.out.size))
  clear hb HT2 HG2 HBW2 hrow
  obtain ⟨b0, b1, b2, b3, b4, b5, b6⟩ := rec_cells HT3.out.box
  have hw1 : IntKind.i64.wrap ((log.length : Int) + 1) = (log.length : Int) + 1 := Go.IntWalk.i64_in _ (by omega)
  go_wp2_with fail
  refine (larderlaw16_into.calls p1 ((log.length : Int) + 1) (n : Int) _ HI.out).mono ?_
  rintro e w4 ⟨rfl, n4, hw4⟩
  have hb : Below w3.heap.size w3 w4 := hw4 ▸ pw_below_drewN (Below.refl _ _) n4
  have HT4 := Aside0.mk (HT3.out.below hb); have HG4 := Aside0.mk (Kd.R_below HG3.out hb); have HBW4 := Aside0.mk (HBW3.out.trans (hb.mono HBW3.out.size))
  clear hb HT3 HG3 HBW3 hw4 b0 b1 b2 b3 b4 b5 b6 hw1
  have hcap : (n : Int) ≤ (c4 : Int) := by have := (Kd.R_reads' HG4.out).2.1; omega
  have hn0 : (0 : Int) ≤ (n : Int) := by omega
  go_wp2_with fail
  have hct : Kd.C (Kd.int .u8) w4 A4 (log.take n).length (log.take n) := by rw [List.length_take, Nat.min_eq_left hn]; exact C_take_ (Kd.R_reads' HG4.out).2.2 n hn
  have hcopy := larderref0_Copy.calls A4 c4 (log.take n) (log.take n) w4 hct (by rw [List.length_take]; omega) (by unfold larderref0_Copy.f; rw [if_pos (by rw [List.length_take]; omega)])
  rw [List.length_take, Nat.min_eq_left hn] at hcopy
  refine hcopy.mono ?_
  rintro e w5 ⟨v8, rfl, hv8, hb⟩
  have HT5 := Aside0.mk (HT4.out.below hb); have HBW5 := Aside0.mk (HBW4.out.trans (hb.mono HBW4.out.size)); have HV5 := Aside0.mk (Kd.R_lower hv8 HBW4.out.size)
  clear hb HT4 HG4 HBW4 hcopy hct hcap hn0 hv8
  go_wp2_with fail
  refine (larderlaw16_whole.calls k A5 c5 ends (n : Int) kk _ (Kd.R_reads' HT5.out.e).2.2 (Kd.R_reads' HT5.out.e).2.1 HK.out).mono ?_
  rintro e w6 ⟨rfl, n6, hw6⟩
  have hb : Below w5.heap.size w5 w6 := hw6 ▸ pw_below_drewN (Below.refl _ _) n6
  have HT6 := Aside0.mk (HT5.out.below hb); have HBW6 := Aside0.mk (HBW5.out.trans (hb.mono HBW5.out.size)); have HV6 := Aside0.mk (Kd.R_below HV5.out hb)
  clear hb HT5 HBW5 hw6 HV5
  obtain ⟨ct, hct⟩ : ∃ ct, log.take n = ct := ⟨_, rfl⟩
  have hctl : ct.length ≤ 1343502640 := by rw [← hct, List.length_take]; omega
  have HV6' := HV6.out
  rw [hct] at HV6'
  have HVV := Aside0.mk HV6'
  have H2' := H2.out
  rw [hct] at H2'
  have H2A := Aside0.mk H2'
  have H3' := H3.out
  rw [hct] at H3'
  have H3A := Aside0.mk H3'
  clear hct HV6 HV6' H2 H2' H3 H3'
  obtain ⟨A8, c8, rfl⟩ := Kd.R_slice HVV.out
  go_wp2_with fail
  have hrow := row_33 HBW6.out HT6.out.l HXG.out HXE.out
  refine (larderlaw16_reads.calls k A8 c8 ct A3 c3 L A5 c5 ends kk true _ (Kd.R_reads' HVV.out).2.2 (Kd.R_reads' HVV.out).2.1 hrow.2 hrow.1 (Kd.R_reads' HT6.out.e).2.2 (Kd.R_reads' HT6.out.e).2.1 H2A.out).mono ?_
  rintro e w7 ⟨rfl, hb⟩
  have HT7 := Aside0.mk (HT6.out.below hb); have HV7 := Aside0.mk (Kd.R_below HVV.out hb); have HBW7 := Aside0.mk (HBW6.out.trans (hb.mono HBW6.out.size))
  clear hb HT6 HVV HBW6 hrow
  go_wp2_with fail
  have hz64 : (z : Int) ≤ 4096 := by omega
  go_loopw [8, 10] (fun v8 v10 wx => ∃ i : Nat, i ≤ z ∧ v10 = .int .i64 i ∧ (Kd.int .u8).R 5 wx (w.alloc (.cells #[.int .i64 fst, .int .u64 step, .slice A0 Gs.length c0, .int .i64 p1, .int .i64 p2, .int .i64 p3, .int .u64 p4] 59)).heap.size (fun _ => True) v8 (ct ++ List.replicate i 0) ∧ TSt w wx #[.int .i64 fst, .int .u64 step, .slice A0 Gs.length c0, .int .i64 p1, .int .i64 p2, .int .i64 p3, .int .u64 p4] (w.heap.size + 1) (.slice A3 L.length c3) (.slice A5 ends.length c5) xs ends ∧ Below (w.alloc (.cells #[.int .i64 fst, .int .u64 step, .slice A0 Gs.length c0, .int .i64 p1, .int .i64 p2, .int .i64 p3, .int .u64 p4] 59)).heap.size (w.alloc (.cells #[.int .i64 fst, .int .u64 step, .slice A0 Gs.length c0, .int .i64 p1, .int .i64 p2, .int .i64 p3, .int .u64 p4] 59)) wx) (fun _ v _ => z - (intOf v).toNat)
  case atStart => exact ⟨0, Nat.zero_le _, rfl, by simpa using HV7.out, HT7.out, HBW7.out⟩
  case round =>
    obtain ⟨i, hi, rfl, h1, h2, h3⟩ := hrel
    clear HT7 HV7 HBW7
    have HV := Aside0.mk h1; have HT := Aside0.mk h2; have HBW := Aside0.mk h3
    clear h1 h2 h3
    obtain ⟨b0, b1, b2, b3, b4, b5, b6⟩ := rec_cells HT.out.box
    go_wp2_with fail
    refine (larderlaw16_into.calls p2 4096 (z : Int) _ HZI.out).mono ?_
    rintro e w9 ⟨rfl, n9, hw9⟩
    have hb : Below wr.heap.size wr w9 := hw9 ▸ pw_below_drewN (Below.refl _ _) n9
    have HT9 := Aside0.mk (HT.out.below hb); have HV9 := Aside0.mk (Kd.R_below HV.out hb); have HBW9 := Aside0.mk (HBW.out.trans (hb.mono HBW.out.size))
    clear hb hw9 b0 b1 b2 b3 b4 b5 b6 HT HV HBW
    by_cases hlt : i < z
    · have q1 : (i : Int) < (z : Int) := by omega
      go_wp2_with ((with_reducible refine gate_dst (N := 61) rfl ?_); refine halt ?_)
      refine unhalt ?_
      have hal : ((ct ++ List.replicate i 0).length + 1) * 1 ≤ 140737488355328 := by rw [List.length_append, List.length_replicate]; omega
      at_builtin
      refine Kd.R_append (Kd.int .u8) (w0 := (w.alloc (.cells #[.int .i64 fst, .int .u64 step, .slice A0 Gs.length c0, .int .i64 p1, .int .i64 p2, .int .i64 p3, .int .u64 p4] 59))) (w.alloc (.cells #[.int .i64 fst, .int .u64 step, .slice A0 Gs.length c0, .int .i64 p1, .int .i64 p2, .int .i64 p3, .int .u64 p4] 59)).heap.size rfl _ _ 37 5 (.int .u8 0) 1 rfl Try.underlying37 infoU8 rfl (by decide) (by decide) u8 (ct ++ List.replicate i 0) 0 [.int .u8 0] (fun _ => True) (fun _ => False) rfl rfl rfl (fun _ h => h.elim) (fun _ _ => trivial) HV9.out HBW9.out HBW9.out.size hal ?_
      intro v1 w11 ho hb hg hat
      have HTB := Aside0.mk (HT9.out.push HV9.out hg (HB0.out.trans (hb.mono HB0.out.size))); have HVB := Aside0.mk ho; have HBB := Aside0.mk hb
      clear ho hb hg hat HT9 HV9 HBW9 hal
      go_wp2_with fail
      go_roundw
      case rel => exact ⟨i + 1, by omega, by go_num, by have h := HVB.out; rwa [List.append_assoc, ← List.replicate_succ'] at h, HTB.out, HBB.out⟩
      case measure => simp [intOf]; omega
    · obtain rfl : i = z := by omega
      obtain ⟨cz, hcz⟩ : ∃ cz, ct ++ List.replicate i 0 = cz := ⟨_, rfl⟩
      have HV9' := HV9.out
      have H3B := H3A.out
      rw [hcz] at HV9' H3B
      have HV10 := Aside0.mk HV9'; have H3C := Aside0.mk H3B
      clear hcz HV9 HV9' H3B H3A
      obtain ⟨A9, c9, rfl⟩ := Kd.R_slice HV10.out
      go_wp2_with fail
      have hrow := row_33 HBW9.out HT9.out.l HXG.out HXE.out
      refine (larderlaw16_reads.calls k A9 c9 cz A3 c3 L A5 c5 ends kk true _ (Kd.R_reads' HV10.out).2.2 (Kd.R_reads' HV10.out).2.1 hrow.2 hrow.1 (Kd.R_reads' HT9.out.e).2.2 (Kd.R_reads' HT9.out.e).2.1 H3C.out).mono ?_
      rintro e w11 ⟨rfl, hb⟩
      have HT11 := Aside0.mk (HT9.out.below hb)
      go_wp2_with fail
      go_ret
      exact ⟨rfl, HT11.out.bel⟩
end Go.Proofs.Ytdhkhjfjjbdkgaa.Rec
