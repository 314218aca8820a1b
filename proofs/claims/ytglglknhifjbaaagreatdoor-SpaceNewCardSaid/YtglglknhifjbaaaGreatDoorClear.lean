import Derived.Test.YtglglknhifjbaaaGreatDoorHmid
import Derived.StillTailTactics
import Derived.Laws.CopyOwn
namespace Go.Proofs.YtglglknhifjbaaaGreatDoor.Sp
open Go.RowKit Go.Proofs.YtglglknhifjbaaaGreatDoorW.PrintWords Go.Proofs.YtglglknhifjbaaaGreatDoorW.PrintLast Go.Proofs.YtglglknhifjbaaaGreatDoorW.PrintMore
set_option linter.unusedVariables false
set_option linter.unusedSimpArgs false
theorem IsAr.head {w : World} {own : Own} {a p size : Nat} {l : List AO} (H : IsAr w own a p size l) (i : Nat) (hi : i < l.length) : ∃ gw cw, w.cell? ⟨p, 1, none⟩ = some (.slice (some ⟨gw, 0, none⟩) (usedOf l) cw) ∧ usedOf l ≤ cw ∧ w.cell? ⟨gw, posOf l i, none⟩ = some (.int .u64 (l[i].1 : Int)) ∧
    1 ≤ posOf l i ∧ posOf l i < usedOf l ∧ usedOf l ≤ size ∧ size ≤ 1048576 ∧ own gw = 3 * a + 11 ∧ w.frozen? ⟨gw, posOf l i, none⟩ = false := by
  obtain ⟨gw, gf, cw, cf, bs, -, c0, c1, c2, -, l1, l2, cW, -, fW, -, -, -, -, -, o2, -⟩ := H.cells
  have hpos := pos_used l i hi
  have hos : 1 ≤ osize l[i] := by unfold osize; omega
  have hlen := block_len l
  have hc := cW (posOf l i) (by omega)
  have e := head_at l i hi
  rw [List.getElem?_eq_getElem (by omega)] at e
  rw [Option.some.inj e] at hc
  exact ⟨gw, cw, c1, l1, hc, pos_pos l i, by omega, H.fit, H.s2, o2, fW _⟩
theorem begins_at (w : World) (own : Own) (a p size : Nat) (l : List AO) (H : IsAr w own a p size l) (i : Nat) (hi : i < l.length) (q : Nat) (hq : q = posOf l i) :
    Calls Tryz.prog 168 #[.pointer (some ⟨p, 0, none⟩), .int .i64 (q : Int)] w fun e w' => e = .returned (.bool true) ∧ w = w' := by
  subst hq
  have hb := pos_used l i hi
  have := H.fit; have := H.s2
  have hos : 1 ≤ osize l[i] := by unfold osize; omega
  exact begins_walk w own a p size l H (posOf l i : Int) (by omega) (by omega) true ⟨fun _ => ⟨by omega, ⟨i, hi, by simp⟩⟩, fun _ => rfl⟩
set_option maxHeartbeats 2000000 in
theorem moved_no (w : World) (own : Own) (a p size : Nat) (l : List AO) (H : IsAr w own a p size l) (i : Nat) (hi : i < l.length) (hh : l[i].1 < 9223372036854775808) (q : Nat) (hq : q = posOf l i) :
    Calls Tryz.prog 166 #[.pointer (some ⟨p, 0, none⟩), .int .i64 (q : Int)] w fun e w' => e = .returned (.tuple #[.int .i64 0, .bool false, .int .i64 0]) ∧ w = w' := by
  obtain ⟨gw, cw, c1, l1, hc, h1, h2, h3, h4, -, -⟩ := H.head i hi
  have hg := gone_and l[i].1 hh
  obtain ⟨n, hn⟩ : ∃ n, l[i].1 = n := ⟨_, rfl⟩
  rw [hn] at hg hc
  rw [← hq] at hc h1 h2
  have HB := Lib.hid (begins_at w own a p size l H i hi q hq)
  clear hn hh H hq
  go_enter Tryz.func166, Tryz.ntmps166
  go_wp2_with fail
  refine HB.out.mono ?_
  rintro e w' ⟨rfl, rfl⟩
  go_wp2_with fail
  go_ret3
  exact ⟨rfl, rfl⟩
set_option maxHeartbeats 2000000 in
theorem moved_yes (w : World) (own : Own) (a p size : Nat) (l : List AO) (H : IsAr w own a p size l) (i : Nat) (hi : i < l.length) (tt : Nat) (hto : tt < 4611686018427387904) (hh : l[i].1 = 9223372036854775808 + tt) (q : Nat) (hq : q = posOf l i) :
    Calls Tryz.prog 166 #[.pointer (some ⟨p, 0, none⟩), .int .i64 (q : Int)] w fun e w' => e = .returned (.tuple #[.int .i64 (tt : Int), .bool true, .int .i64 0]) ∧ w = w' := by
  obtain ⟨gw, cw, c1, l1, hc, h1, h2, h3, h4, -, -⟩ := H.head i hi
  have hg := big_and tt (by omega)
  have hg2 := big_andNot tt (by omega)
  rw [hh] at hc
  obtain ⟨n, hn⟩ : ∃ n, 9223372036854775808 + tt = n := ⟨_, rfl⟩
  rw [hn] at hg hg2 hc
  rw [← hq] at hc h1 h2
  have HB := Lib.hid (begins_at w own a p size l H i hi q hq)
  have hg3 : (bits .and .u64 (n : Int) 9223372036854775808 == 0) = false := by rw [hg]; decide
  have hw : IntKind.i64.wrap (tt : Int) = (tt : Int) := Go.IntWalk.i64_in _ (by omega)
  have hb2 : ((n : Int)) ≤ 18446744073709551615 := by omega
  clear hn hh H hq hg
  go_enter Tryz.func166, Tryz.ntmps166
  go_wp2_with fail
  refine HB.out.mono ?_
  rintro e w' ⟨rfl, rfl⟩
  go_wp2_with fail
  go_ret3
  exact ⟨rfl, rfl⟩
set_option maxHeartbeats 2000000 in
theorem take_old (w : World) (own : Own) (a p size : Nat) (l : List AO) (H : IsAr w own a p size l) (i : Nat) (hi : i < l.length) (tt : Nat) (hto : tt < 4611686018427387904) (hh : l[i].1 = 9223372036854775808 + tt) (q : Nat) (hq : q = posOf l i) (p2 : Nat) :
    Calls Tryz.prog 121 #[.pointer (some ⟨p2, 0, none⟩), .pointer (some ⟨p, 0, none⟩), .int .i64 (q : Int)] w fun e w' => e = .returned (.tuple #[.int .i64 (tt : Int), .int .i64 0]) ∧ w = w' := by
  have HM := Lib.hid (moved_yes w own a p size l H i hi tt hto hh q hq)
  clear H hh hq
  go_enter Tryz.func121, Tryz.ntmps121
  go_wp2_with fail
  refine HM.out.mono ?_
  rintro e w' ⟨rfl, rfl⟩
  go_wp2_with fail
  go_ret2
  exact ⟨rfl, rfl⟩
def TakePost (w : World) (own : Own) (a p size : Nat) (l : List AO) (i : Nat) (a2 p2 size2 : Nat) (l2 : List AO) (e : Ending) (w' : World) : Prop :=
  ∃ (own' : Own) (h : i < l.length), e = .returned (.tuple #[.int .i64 (usedOf l2 : Int), .int .i64 0]) ∧ IsAr w' own' a2 p2 size2 (l2 ++ [l[i]]) ∧ IsAr w' own' a p size (l.set i (9223372036854775808 + usedOf l2, l[i].2)) ∧
    Fr (fun b => Of own a b ∨ Of own a2 b) w w' ∧ Ow own own' w ∧ (∀ b, w.heap.size ≤ b → own' b = 0 ∨ Of own' a2 b) ∧ ∀ b, w'.heap.size ≤ b → own' b = 0
theorem wv_one (l : List Nat) : ∀ v ∈ l.map wv, v.oneCell' = true := fun v hv => by
  obtain ⟨x, _, rfl⟩ := List.mem_map.1 hv; rfl
theorem IsAr.copyIn {w : World} {own : Own} {a p size : Nat} {l : List AO} {h : Nat} {z f : List Nat} (H : IsAr w own a p size (l ++ [(h, z)])) (hz : z.length = f.length) (hf : ∀ x ∈ f, x < 18446744073709551616) :
    ∃ gw cw cur, w.cell? ⟨p, 1, none⟩ = some (.slice (some ⟨gw, 0, none⟩) (usedOf l + (1 + f.length)) cw) ∧ usedOf l + (1 + f.length) ≤ cw ∧ w.heap[gw]? = some (.cells cur 22 (0, 0)) ∧ usedOf l + 1 + f.length ≤ cur.size ∧ own gw = 3 * a + 11 ∧ gw < w.heap.size ∧
      ∀ w', w' = w.setRow gw (cur.toList.take (usedOf l + 1) ++ (f.map wv ++ cur.toList.drop (usedOf l + 1 + f.length))).toArray → IsAr w' own a p size (l ++ [(h, f)]) ∧ Fr (fun b => b = gw) w w' := by
  obtain ⟨gw, gf, cw, cf, bs, h1, h2, h3, h4, h5, h6, h7⟩ := H.out
  obtain ⟨cur, hh, k1, k2, k3, k4⟩ := h2.open
  have hu : usedOf (l ++ [(h, z)]) = usedOf l + (1 + f.length) := by rw [used_snoc]; unfold osize; rw [hz]
  have hu2 : usedOf (l ++ [(h, f)]) = usedOf l + (1 + f.length) := by rw [used_snoc]; unfold osize; rfl
  have hlen : ((blockWords (l ++ [(h, z)])).map wv).length = usedOf l + (1 + f.length) := by rw [words_map_len, hu]
  rw [hlen] at k1 k4
  have hcs : usedOf l + 1 + f.length ≤ cur.size := by omega
  refine ⟨gw, cw, cur, by simp [World.cell?, h1, hu], k1, hh, hcs, h6, blk_lt hh, ?_⟩
  rintro w' rfl
  have hne : p ≠ gw := by rintro rfl; omega
  have hne2 : gf ≠ gw := by rintro rfl; omega
  have hfr : Fr (fun b => b = gw) w (w.setRow gw (cur.toList.take (usedOf l + 1) ++ (f.map wv ++ cur.toList.drop (usedOf l + 1 + f.length))).toArray) :=
    ⟨rfl, rfl, rfl, by simp [World.setRow], fun k _ hk => setRow_other w gw k _ hk⟩
  refine ⟨⟨⟨gw, gf, cw, cf, bs, ?_, ?_, h3.fr hfr hne2, ?_, h5, h6, h7⟩, H.s1, H.s2, by rw [hu2, ← hu]; exact H.fit, fun o ho => ?_⟩, hfr⟩
  · rw [setRow_other w gw p _ hne, h1, hu, hu2]
  · refine Row.close (cur := (cur.toList.take (usedOf l + 1) ++ (f.map wv ++ cur.toList.drop (usedOf l + 1 + f.length))).toArray) (setRow_heap w gw _ _ _ _ hh) ?_ k2 ?_ ?_
    · rw [words_map_len, hu2]; exact k1
    · simp; omega
    · rw [words_map_len, hu2]
      have e1 : cur.toList.take (usedOf l + 1) = (blockWords l ++ [h]).map wv := by
        have := congrArg (List.take (usedOf l + 1)) k4
        rw [List.take_take, Nat.min_eq_left (by omega)] at this
        rw [this, block_snoc, List.map_append]
        have hb := block_len l
        rw [List.take_append, List.take_of_length_le (by rw [List.length_map]; omega), List.length_map, hb, show usedOf l + 1 - usedOf l = 1 by omega]
        simp
      show List.take _ (cur.toList.take (usedOf l + 1) ++ (f.map wv ++ cur.toList.drop (usedOf l + 1 + f.length))) = _
      rw [e1, block_snoc]
      have hb := block_len l
      rw [← List.append_assoc, List.take_append_of_le_length (by simp; omega), List.take_of_length_le (by simp; omega)]
      simp
  · have hs : ∀ i, Starts (l ++ [(h, f)]) i ↔ Starts (l ++ [(h, z)]) i := fun i => by rw [starts_snoc, starts_snoc]
    exact ⟨by rw [hu2, ← hu]; exact h4.lo, by rw [hu2, ← hu]; exact h4.hi, h4.lt, fun i hi => by rw [hs]; exact h4.bit i hi⟩
  · rcases List.mem_append.1 ho with ho | ho
    · exact H.lt o (List.mem_append_left _ ho)
    · have := H.lt (h, z) (by simp)
      rw [List.mem_singleton.1 ho]
      exact ⟨this.1, hf⟩
theorem IsAr.mark {w : World} {own : Own} {a p size : Nat} {l : List AO} (H : IsAr w own a p size l) (i : Nat) (hi : i < l.length) (v : Nat) (hv : v < 18446744073709551616) (gw cw n : Nat) (hc : w.cell? ⟨p, 1, none⟩ = some (.slice (some ⟨gw, 0, none⟩) n cw)) :
    IsAr (w.setCell ⟨gw, posOf l i, none⟩ (.int .u64 (v : Int))) own a p size (l.set i (v, l[i].2)) ∧ own gw = 3 * a + 11 ∧ gw < w.heap.size := by
  obtain ⟨gw', gf, cw', cf, bs, h1, h2, h3, h4, h5, h6, h7⟩ := H.out
  have hcell : w.cell? ⟨p, 1, none⟩ = some (.slice (some ⟨gw', 0, none⟩) (usedOf l) cw') := by simp [World.cell?, h1]
  have hg : gw = gw' := slice_inj (Option.some.inj (hc.symm.trans hcell))
  subst hg
  have hne : gw ≠ gf := by rintro rfl; omega
  have hR : Rw w p size gw cw' gf cf (blockWords l) bs := ⟨by rw [block_len]; exact h1, h2, h3, hne⟩
  have hS := hR.setw (posOf l i) v
  rw [← set_head l i hi v] at hS
  have hos : osize (v, l[i].2) = osize l[i] := rfl
  refine ⟨⟨⟨gw, gf, cw', cf, bs, ?_, hS.rw, hS.rf, h4.set i _ hi hos, h5, h6, h7⟩, H.s1, H.s2, by rw [used_set l i _ hi hos]; exact H.fit, fun o hm => ?_⟩, h6, h2.lt⟩
  · have := hS.hp
    rw [block_len] at this
    exact this
  · rcases List.mem_or_eq_of_mem_set hm with hm | rfl
    · exact H.lt o hm
    · exact ⟨hv, (H.lt _ (List.getElem_mem hi)).2⟩
theorem IsAr.drew {w : World} {own : Own} {a p size : Nat} {l : List AO} (h : IsAr w own a p size l) : IsAr w.drew own a p size l :=
  h.fr ((Fr.refl (fun _ => False) w).drew) (Ow.refl own w) (fun b hb => hb.elim)
theorem sizeU64 : (Tryz.prog.info? 22).map (·.size) = some 1 := by kernel_rfl
theorem big_or (s : Nat) (h : s < 9223372036854775808) : bits .or .u64 9223372036854775808 (s : Int) = ((9223372036854775808 + s : Nat) : Int) := by
  have := (bits_nat .u64 64 (by decide) (fun n h0 h1 => by rw [IntKind.wrap_u64]; omega) 9223372036854775808 s (by decide) (by omega)).2
  rw [show ((9223372036854775808 : Nat) : Int) = 9223372036854775808 from rfl] at this
  have e := Nat.two_pow_add_eq_or_of_lt (i := 63) (b := s) (by omega) 1
  rw [Nat.mul_one] at e
  rw [this, show (9223372036854775808 : Nat) = 2 ^ 63 from rfl, e]
theorem take_fin {w w2 : World} {own own' : Own} {a p size : Nat} {l : List AO} {i a2 p2 size2 : Nat} {l2 : List AO} (hi : i < l.length) (hne : a ≠ a2) (hA2 : IsAr w2 own' a2 p2 size2 (l2 ++ [l[i]])) (hA : IsAr w2 own' a p size l) (hu : usedOf l2 < 9223372036854775808)
    (hfr : Fr (fun b => Of own a b ∨ Of own a2 b) w w2) (ow : Ow own own' w) (nw : ∀ b, w.heap.size ≤ b → own' b = 0 ∨ Of own' a2 b) (top : ∀ b, w2.heap.size ≤ b → own' b = 0) (q : Nat) (hq : q = posOf l i) :
    ∃ gs cs n, w2.cell? ⟨p, 1, none⟩ = some (.slice (some ⟨gs, 0, none⟩) (usedOf l) cs) ∧ usedOf l ≤ cs ∧ q < usedOf l ∧ w2.cell? ⟨gs, q, none⟩ = some (.int .u64 n) ∧ w2.frozen? ⟨gs, q, none⟩ = false ∧
      Hid (TakePost w own a p size l i a2 p2 size2 l2 (.returned (.tuple #[.int .i64 (usedOf l2 : Int), .int .i64 0])) (w2.setCell ⟨gs, q, none⟩ (.int .u64 ((9223372036854775808 + usedOf l2 : Nat) : Int)))) := by
  subst hq
  obtain ⟨gs, cs, k1, k2, k3, k4, k5, k6, k7, k8, k9⟩ := hA.head i hi
  obtain ⟨m1, m2, m3⟩ := hA.mark i hi (9223372036854775808 + usedOf l2) (by omega) gs cs (usedOf l) k1
  have hgw : gs < w.heap.size := by
    rcases Nat.lt_or_ge gs w.heap.size with h | h
    · exact h
    · rcases nw gs h with h1 | h1
      · omega
      · rcases h1 with h1 | h1 | h1 <;> omega
  have hown : own gs = 3 * a + 11 := by rw [← ow gs hgw]; exact k8
  refine ⟨gs, cs, _, k1, k2, k5, k3, k9, own', hi, rfl, ?_, m1, ?_, ow, nw, fun b hb => top b (by simpa [World.setCell] using hb)⟩
  · exact hA2.fr ((Fr.refl (fun b => b = gs) w2).setCell (.inl rfl) _) (Ow.refl _ _) (fun b hb => by rw [hb, k8]; omega)
  · exact hfr.setCell (.inl (.inl (.inr (.inl hown)))) _
set_option maxHeartbeats 4000000 in
set_option maxRecDepth 100000 in
theorem take_new (w : World) (own : Own) (a p size : Nat) (l : List AO) (H : IsAr w own a p size l) (i : Nat) (hi : i < l.length) (k r x : Nat) (hs : Shape k r x) (hh : l[i].1 = headW k r x) (hf : l[i].2.length = r + x) (q : Nat) (hq : q = posOf l i)
    (a2 p2 size2 : Nat) (l2 : List AO) (H2 : IsAr w own a2 p2 size2 l2) (hne : a ≠ a2) (hroom : usedOf l2 + (1 + (r + x)) ≤ size2) (ho : ∀ b, w.heap.size ≤ b → own b = 0) :
    Calls Tryz.prog 121 #[.pointer (some ⟨p2, 0, none⟩), .pointer (some ⟨p, 0, none⟩), .int .i64 (q : Int)] w (TakePost w own a p size l i a2 p2 size2 l2) := by
  obtain ⟨gw, cw, c1, l1, hc, h1, h2, h3, h4, og, fz⟩ := H.head i hi
  have HM := Lib.hid (moved_no w own a p size l H i hi (by rw [hh]; have := hs.lt; omega) q hq)
  have HF := Lib.hid (fields_walk w own a p size l H i hi k r x hs hh hf (q : Int) (by rw [hq]))
  obtain ⟨gw2, gf2, cw2, cf2, bs2, -, d0, d1, d2, -, m1, m2, -⟩ := H2.cells
  have hs2 := H2.s2
  rw [hh] at hc
  have hlt := hs.lt
  obtain ⟨n, hn⟩ : ∃ n, headW k r x = n := ⟨_, rfl⟩
  rw [hn] at hc hlt
  rw [← hq] at hc h1 h2
  have HH := Lib.hid H; have HH2 := Lib.hid H2; have HO := Lib.hid ho; have HS := Lib.hid hs; have HN := Lib.hid hn; have HQ := Lib.hid hq; have HHd := Lib.hid hh; have HFl := Lib.hid hf
  obtain ⟨_, _, hr2, hx2⟩ := hs
  clear H H2 ho hh hf hn hq
  go_enter Tryz.func121, Tryz.ntmps121
  go_wp2_with fail
  refine HM.out.mono ?_
  rintro e w' ⟨rfl, rfl⟩
  go_wp2_with fail
  refine HF.out.mono ?_
  rintro e w' ⟨A, rfl, rfl, hA⟩
  clear hA
  have hsub : IntKind.i64.wrap ((size2 : Int) - (usedOf l2 : Int)) = (size2 : Int) - (usedOf l2 : Int) := Go.IntWalk.i64_in _ (by omega)
  have hd : decide ((size2 : Int) - (usedOf l2 : Int) < 1 + ((r : Int) + (x : Int))) = false := decide_eq_false (by omega)
  have hd2 : decide ((size2 : Int) - (usedOf l2 : Int) < 1 + (r : Int) + (x : Int)) = false := decide_eq_false (by omega)
  go_wp2_with fail
  go_quiet (fail)
  go_wp2_with fail
  rw [show (1 : Int) + ((r : Int) + (x : Int)) = ((1 + (r + x) : Nat) : Int) by omega]
  refine (extend_walk _ own a2 p2 size2 l2 (HH2.out.drewN _) n (1 + (r + x)) (by omega) (by omega) hroom HO.out).mono ?_
  rintro e w1 ⟨own', rfl, g1, g2⟩
  rw [show 1 + (r + x) - 1 = r + x by omega] at g1
  have G1 := Lib.hid g1; have G2 := Lib.hid g2
  clear g1 g2
  have hA1 : IsAr w1 own' a p size l := HH.out.fr (P := Of own a2) ⟨G2.out.fr.os, G2.out.fr.tape, G2.out.fr.output, G2.out.fr.size, G2.out.fr.block⟩ G2.out.ow (fun b hb => by rcases hb with hb | hb | hb <;> omega)
  obtain ⟨gs, cs, k1, k2, k3, k4, k5, k6, k7, k8, k9⟩ := hA1.head i hi
  have hsrc : ∀ j v, (l[i].2.map wv)[j]? = some v → w1.cell? ⟨gs, q + 1 + j, none⟩ = some v := fun j v hj => by
    obtain ⟨gw', gf', cw', cf', bs', -, -, e1, -, -, -, -, cW, -⟩ := hA1.cells
    have hg : gs = gw' := slice_inj (Option.some.inj (k1.symm.trans e1))
    subst hg
    rw [List.getElem?_map] at hj
    obtain ⟨y, hy, rfl⟩ := Option.map_eq_some_iff.1 hj
    obtain ⟨hj2, rfl⟩ := List.getElem?_eq_some_iff.1 hy
    have hp := pos_used l i hi
    unfold osize at hp
    have hlen := block_len l
    have h1 := cW (posOf l i + 1 + j) (by omega)
    have h2 := field_at l i hi j hj2
    rw [List.getElem?_eq_getElem (by omega)] at h2
    rw [Option.some.inj h2] at h1
    rw [HQ.out]; exact h1
  obtain ⟨gd, cd, cur, n1, n2, n3, n4, n5, n6, n7⟩ := G1.out.drew.copyIn (f := l[i].2) (by rw [HFl.out]; simp) (HH.out.lt _ (List.getElem_mem hi)).2
  have hlf := HFl.out
  obtain ⟨f, hfe⟩ : ∃ f, l[i].2 = f := ⟨_, rfl⟩
  replace n1 : w1.cell? ⟨p2, 1, none⟩ = some (.slice (some ⟨gd, 0, none⟩) (usedOf l2 + (1 + l[i].2.length)) cd) := n1
  rw [hfe] at hsrc n1 n2 n4 n7 hlf
  rw [hlf] at n1 n2 n4
  have hpu : q + (1 + (r + x)) ≤ usedOf l := by
    have hp := pos_used l i hi
    unfold osize at hp
    rw [hfe, hlf, ← HQ.out] at hp
    exact hp
  rw [← HQ.out] at k3 k4 k5 k9
  have HFr := Lib.hid (show Fr (Of own a2) w w1 from ⟨G2.out.fr.os, G2.out.fr.tape, G2.out.fr.output, G2.out.fr.size, G2.out.fr.block⟩)
  have HA1 := Lib.hid hA1; have HSrc := Lib.hid hsrc; have H7 := Lib.hid n7; have H3 := Lib.hid n3; have HFE := Lib.hid hfe; have HLF := Lib.hid hlf; have O8 := Lib.hid k8; have O5 := Lib.hid n5
  clear hA1 hsrc n7 n3 hfe hlf k8 n5 c1 hc d0 d1 d2 og fz
  have e1 : IntKind.i64.wrap ((usedOf l2 : Int) + 1) = (usedOf l2 : Int) + 1 := Go.IntWalk.i64_in _ (by omega)
  have e2 : ((usedOf l2 : Int) + 1).toNat = usedOf l2 + 1 := by omega
  have e3 : IntKind.i64.wrap ((q : Int) + 1) = (q : Int) + 1 := Go.IntWalk.i64_in _ (by omega)
  have e4 : ((q : Int) + 1).toNat = q + 1 := by omega
  have e5 : IntKind.i64.wrap ((q : Int) + (1 + ((r : Int) + (x : Int)))) = (q : Int) + (1 + ((r : Int) + (x : Int))) := Go.IntWalk.i64_in _ (by omega)
  have e6 : ((q : Int) + (1 + ((r : Int) + (x : Int)))).toNat = q + (1 + (r + x)) := by omega
  have i1 : 0 ≤ (usedOf l2 : Int) + 1 := by omega
  have i2 : (usedOf l2 : Int) + 1 ≤ (usedOf l2 : Int) + (1 + ((r : Int) + (x : Int))) := by omega
  have i3 : 0 ≤ (q : Int) + 1 := by omega
  have i4 : (q : Int) + 1 ≤ (q : Int) + (1 + ((r : Int) + (x : Int))) := by omega
  have i5 : (q : Int) + (1 + ((r : Int) + (x : Int))) ≤ (cs : Int) := by omega
  have i6 : 0 ≤ (q : Int) + (1 + ((r : Int) + (x : Int))) := by omega
  have i7 : usedOf l2 + (1 + (r + x)) - (usedOf l2 + 1) = r + x := by omega
  have i8 : q + (1 + (r + x)) - (q + 1) = r + x := by omega
  have ew : IntKind.u64.wrap (usedOf l2 : Int) = (usedOf l2 : Int) := by rw [IntKind.wrap_u64]; omega
  have eo := big_or (usedOf l2) (by omega)
  have EO := Lib.hid eo
  clear eo
  by_cases h0 : r + x = 0
  · obtain rfl : r = 0 := by omega
    obtain rfl : x = 0 := by omega
    have hf0 : f = [] := List.eq_nil_of_length_eq_zero HLF.out
    have hF3 : Fr (fun b => Of own a b ∨ Of own a2 b) w w1.drew := ((HFr.out.drew).mono (fun b _ hb => .inr hb))
    obtain ⟨gt, ct, nt, t1, t2, t3, t4, t5, HFin⟩ := take_fin (l := l) (l2 := l2) (p2 := p2) (size2 := size2) (size := size) hi hne (by rw [show l[i] = (n, []) from Prod.ext (by rw [HHd.out, HN.out]) (by rw [HFE.out, hf0])]; exact G1.out.drew) HA1.out.drew (by omega) hF3 G2.out.ow G2.out.nw (fun b hb => G2.out.top b hb) q HQ.out
    have HD := Lib.hid (And.intro hf0 hF3)
    replace t1 : w1.cell? ⟨p, 1, none⟩ = some (.slice (some ⟨gt, 0, none⟩) (usedOf l) ct) := t1
    have hgg : gs = gt := slice_inj (Option.some.inj (k1.symm.trans t1))
    subst hgg
    clear t1 t2 hf0 e5 e6 i2 i4 i6 i7 i8
    simp only [Nat.add_zero] at n1 n2 n4
    have i5 : (q : Int) + 1 ≤ (cs : Int) := by omega
    have i9 : (q : Int) + 1 ≤ (usedOf l : Int) := by omega
    have i2 : (usedOf l2 : Int) + 1 ≤ (usedOf l2 : Int) + 1 := Int.le_refl _
    by_cases n8 : cd = usedOf l2 + 1 <;> by_cases n9 : cs = q + 1
    all_goals
      go_wp2_with fail
      refine wp_region_still_tail 17 (by kernel_rfl) (by kernel_rfl) ?_
      simp only [List.take_succ_cons, List.take_zero, List.drop_succ_cons, List.drop_zero]
      change wpStill _ _ w1.drew (fun a' => wpList _ _ _ _ a' w1.drew) _ _
      repeat still_step
      refine wpStill_nil ?_
      refine wpList_copy_nothing rfl (.tmp 69) (.tmp 79) 143 143 rfl 22 Tryz.underlying143 sizeU64 _ _ _ _ _ _ rfl rfl rfl ?_
      go_wp2_with fail
      rw [EO.out]
      go_ret2
      exact HFin.out
  · have n8 : ¬ cd = usedOf l2 + 1 := by omega
    have n9 : ¬ cs = q + 1 := by omega
    go_wp2_with fail
    refine wp_region_still_tail 17 (by kernel_rfl) (by kernel_rfl) ?_
    simp only [List.take_succ_cons, List.take_zero, List.drop_succ_cons, List.drop_zero]
    change wpStill _ _ w1.drew (fun a' => wpList _ _ _ _ a' w1.drew) _ _
    repeat still_step
    refine wpStill_nil ?_
    refine wpList_copy_own rfl (.tmp 69) (.tmp 79) 143 143 rfl 22 Tryz.underlying143 sizeU64 gd (usedOf l2 + 1) (r + x) _ ⟨gs, q + 1, none⟩ (r + x) _ rfl rfl cur 22 H3.out (f.map wv) (by rw [List.length_map, HLF.out]; exact (Nat.min_self _).symm) (fun j v hj => ?_) (by rw [List.length_map, HLF.out]; exact n4) (wv_one f) ?_
    · have := HSrc.out j v hj
      have e : (⟨gs, q + 1, none⟩ : Addr).add j = ⟨gs, q + 1 + j, none⟩ := by unfold Addr.add; split <;> simp_all
      rw [e]; exact this
    · rw [List.length_map]
      obtain ⟨hA2, hF2⟩ := H7.out _ rfl
      obtain ⟨w2, hw2⟩ : ∃ w2, w1.drew.setRow gd (cur.toList.take (usedOf l2 + 1) ++ (f.map wv ++ cur.toList.drop (usedOf l2 + 1 + f.length))).toArray = w2 := ⟨_, rfl⟩
      rw [hw2] at hA2 hF2 ⊢
      have hA3 : IsAr w2 own' a p size l := HA1.out.drew.fr hF2 (Ow.refl _ _) (fun b hb => by rw [hb, O5.out]; omega)
      have hF3 : Fr (fun b => Of own a b ∨ Of own a2 b) w w2 := ((HFr.out.drew).mono (fun b _ hb => .inr hb)).trans (hF2.mono (P1 := fun b => b = gd) (fun _ _ h => h)) (fun b hb e => by
        subst e
        have := G2.out.ow b hb
        right; right; left; rw [← this]; exact O5.out)
      obtain ⟨gt, ct, nt, t1, t2, t3, t4, t5, HFin⟩ := take_fin (l := l) (l2 := l2) (p2 := p2) (size2 := size2) (size := size) hi hne (by rw [show l[i] = (n, f) from Prod.ext (by rw [HHd.out, HN.out]) HFE.out]; exact hA2) hA3 (by omega) hF3 G2.out.ow G2.out.nw (fun b hb => G2.out.top b (Nat.le_trans hF2.size hb)) q HQ.out
      have HD := Lib.hid (And.intro hA2 (And.intro hF2 (And.intro hA3 hw2)))
      clear e1 e2 e3 e4 e5 e6 i1 i2 i3 i4 i5 i6 i7 i8 n8 n9 k1 k3 k5 k9 n1
      go_wp2_with fail
      rw [EO.out]
      go_ret2
      exact HFin.out
end Go.Proofs.YtglglknhifjbaaaGreatDoor.Sp
namespace Go.Proofs.YtglglknhifjbaaaGreatDoor.Sp
open Go.RowKit Go.Proofs.YtglglknhifjbaaaGreatDoorW.PrintWords Go.Proofs.YtglglknhifjbaaaGreatDoorW.PrintLast Go.Proofs.YtglglknhifjbaaaGreatDoorW.PrintMore
set_option linter.unusedVariables false
set_option linter.unusedSimpArgs false
def ClearPost (w : World) (own : Own) (a p size : Nat) (e : Ending) (w' : World) : Prop := ∃ own', e = .returned (.tuple #[]) ∧ IsAr w' own' a p size [] ∧ ArStep w own w' own' a
theorem clear_fin {w W : World} {own : Own} {a p size gw gf cw cf n m : Nat} {l : List AO} (H : IsAr w own a p size l) (ho : ∀ b, w.heap.size ≤ b → own b = 0) (hp : w.heap[p]? = some (.cells #[.int .i64 (size : Int), .slice (some ⟨gw, 0, none⟩) n cw, .slice (some ⟨gf, 0, none⟩) m cf] 145 (0, 0)))
    (hW : W = ((((w.setCell ⟨p, 1, none⟩ (.slice (some ⟨w.heap.size, 0, none⟩) 1 1)).setCell ⟨p, 2, none⟩ (.slice (some ⟨w.heap.size + 1, 0, none⟩) 1 1)).alloc (.cells #[.int .u64 0] 22)).alloc (.cells #[.int .u64 0] 22))) :
    ClearPost w own a p size (.returned (.tuple #[])) W := by
  have hlt := blk_lt hp
  have hop : own p = 3 * a + 10 := by obtain ⟨_, _, _, _, _, _, _, _, _, h, _⟩ := H.out; exact h
  have hsz : W.heap.size = w.heap.size + 2 := by rw [hW]; simp [World.setCell]
  have b0 : W.heap[w.heap.size]? = some (.cells #[.int .u64 0] 22) := by
    rw [hW, alloc_at, if_neg (by simp [World.setCell]), alloc_at, if_pos (by simp [World.setCell])]
  have b1 : W.heap[w.heap.size + 1]? = some (.cells #[.int .u64 0] 22) := by
    rw [hW, alloc_at, if_pos (by simp [World.setCell])]
  have b2 : W.heap[p]? = some (.cells #[.int .i64 (size : Int), .slice (some ⟨w.heap.size, 0, none⟩) 1 1, .slice (some ⟨w.heap.size + 1, 0, none⟩) 1 1] 145 (0, 0)) := by
    rw [hW, alloc_at, if_neg (by simp [World.setCell]; omega), alloc_at, if_neg (by simp [World.setCell]; omega), setCell_at, if_pos rfl, setCell_at, if_pos rfl, hp]; rfl
  have hfr : Fr (Of own a) w W := by
    rw [hW]
    exact ((((Fr.refl _ w).setCell (.inl (.inl hop)) _).setCell (.inl (.inl hop)) _).alloc _).alloc _
  have ow : Ow own (fun b => if b = w.heap.size then 3 * a + 11 else if b = w.heap.size + 1 then 3 * a + 12 else own b) w := fun b hb => by
    dsimp only
    rw [if_neg (by omega), if_neg (by omega)]
  refine ⟨fun b => if b = w.heap.size then 3 * a + 11 else if b = w.heap.size + 1 then 3 * a + 12 else own b, rfl, ⟨⟨w.heap.size, w.heap.size + 1, 1, 1, [0], b2, row_new b0, row_new b1, bits_new, ?_, ?_, ?_⟩, H.s1, H.s2, H.s1, fun o h => by cases h⟩, ⟨hfr, ow, fun b hb => ?_, fun b hb => ?_⟩⟩
  · rw [if_neg (by omega), if_neg (by omega)]; exact hop
  · rw [if_pos rfl]
  · rw [if_neg (by omega), if_pos rfl]
  · by_cases e1 : b = w.heap.size
    · right; right; left; show (if b = w.heap.size then _ else _) = _; rw [if_pos e1]
    · by_cases e2 : b = w.heap.size + 1
      · right; right; right; show (if b = w.heap.size then _ else if b = w.heap.size + 1 then _ else _) = _; rw [if_neg e1, if_pos e2]
      · left; rw [if_neg e1, if_neg e2]; exact ho b hb
  · rw [if_neg (by omega), if_neg (by omega)]; exact ho b (by omega)
set_option maxHeartbeats 4000000 in
set_option maxRecDepth 100000 in
theorem clear_walk (w : World) (own : Own) (a p size : Nat) (l : List AO) (H : IsAr w own a p size l) (ho : ∀ b, w.heap.size ≤ b → own b = 0) :
    Calls Tryz.prog 74 #[.pointer (some ⟨p, 0, none⟩)] w (ClearPost w own a p size) := by
  obtain ⟨gw, gf, cw, cf, bs, hp, c0, c1, c2, f0, -⟩ := H.cells
  have f1 := f0 1; have f2 := f0 2
  have hlt := blk_lt hp
  have HH := Lib.hid H; have HO := Lib.hid ho; have HP := Lib.hid hp
  clear H ho hp f0
  have hmk : ∀ w : World, (Instr.makeSlice 143 (.int .i64 1) (.int .i64 1)).run Tryz.prog w = .ok (.slice (some ⟨w.heap.size, 0, none⟩) 1 1) (w.alloc (.cells #[.int .u64 0] 22)) := fun w => by
    have := run_make_row' (P := Tryz.prog) 143 22 (.int .u64 0) 8 Tryz.underlying143 (by kernel_rfl) rfl .i64 .i64 1 (by omega) (by omega) w
    rw [show madeCells #[Value.int .u64 0] 1 = #[.int .u64 0] by kernel_rfl] at this
    exact this
  go_enter Tryz.func74, Tryz.ntmps74
  go_wp2_with fail
  go_end0
  exact clear_fin HH.out HO.out HP.out rfl
end Go.Proofs.YtglglknhifjbaaaGreatDoor.Sp
