import Derived.Test.YtglglknhifjbaaaGreatDoorBys
namespace Go.Proofs.YtglglknhifjbaaaGreatDoor.Sp
open Go.RowKit Go.Proofs.YtglglknhifjbaaaGreatDoorW.PrintWords Go.Proofs.YtglglknhifjbaaaGreatDoorW.PrintLast Go.Proofs.YtglglknhifjbaaaGreatDoorW.PrintMore
set_option linter.unusedVariables false
set_option linter.unusedSimpArgs false
def Src8 (w : World) (own : Own) (a : Nat) (A : Option Addr) (b : List Nat) : Prop :=
  0 < b.length → ∃ g o, A = some ⟨g, o, none⟩ ∧ ¬ Of own a g ∧ g < w.heap.size ∧ ∀ j (h : j < b.length), w.cell? ⟨g, o + j, none⟩ = some (.int .u8 (b[j] : Int))
def SbySt (w : World) (own : Own) (a p size : Nat) (l : List AO) (i : Nat) (h : Nat) (refs raws : List Nat) (f : Nat) (b : List Nat) (gw cw n0 : Nat) (t : Nat) (wr : World) : Prop :=
  IsAr wr own a p size (l.set i (h, refs ++ setBs raws f (b.take t))) ∧ Fr (Of own a) w wr ∧ wr.heap.size = w.heap.size ∧ wr.cell? ⟨p, 1, none⟩ = some (.slice (some ⟨gw, 0, none⟩) n0 cw)
theorem SbySt.drew {w : World} {own : Own} {a p size : Nat} {l : List AO} {i h : Nat} {refs raws : List Nat} {f : Nat} {b : List Nat} {gw cw n0 t : Nat} {wr : World} (st : SbySt w own a p size l i h refs raws f b gw cw n0 t wr) : SbySt w own a p size l i h refs raws f b gw cw n0 t wr.drew :=
  ⟨st.1.drew, st.2.1.drew, st.2.2.1, st.2.2.2⟩
theorem app_set (refs R : List Nat) (m v : Nat) : (refs ++ R).set (refs.length + m) v = refs ++ R.set m v := by
  rw [List.set_append_right _ _ (by omega)]
  congr 2
  omega
theorem sby_word (v rm c : Nat) (hv : v < 18446744073709551616) (hr : rm < 8) (hc : c < 256) :
    IntKind.u64.wrap (255 * 2 ^ (8 * rm)) = ((255 * 2 ^ (8 * rm) : Nat) : Int) ∧ IntKind.u64.wrap ((c : Int) * 2 ^ (8 * rm)) = ((c * 2 ^ (8 * rm) : Nat) : Int) ∧ bits .andNot .u64 (v : Int) ((255 * 2 ^ (8 * rm) : Nat) : Int) = ((v &&& (18446744073709551615 - 255 * 2 ^ (8 * rm)) : Nat) : Int) ∧
    bits .or .u64 ((v &&& (18446744073709551615 - 255 * 2 ^ (8 * rm)) : Nat) : Int) ((c * 2 ^ (8 * rm) : Nat) : Int) = (setW v rm c : Int) := by
  have hp : 255 * 2 ^ (8 * rm) < 18446744073709551616 := by
    have : 2 ^ (8 * rm) ≤ 2 ^ 56 := Nat.pow_le_pow_right (by omega) (by omega)
    omega
  have hp2 : c * 2 ^ (8 * rm) < 18446744073709551616 := by
    have : c * 2 ^ (8 * rm) ≤ 255 * 2 ^ (8 * rm) := Nat.mul_le_mul_right _ (by omega)
    omega
  have hand : v &&& (18446744073709551615 - 255 * 2 ^ (8 * rm)) < 18446744073709551616 := Nat.lt_of_le_of_lt Nat.and_le_left hv
  refine ⟨?_, ?_, u64_andNot_nat v _ hv hp, ?_⟩
  · rw [show (255 : Int) * 2 ^ (8 * rm) = ((255 * 2 ^ (8 * rm) : Nat) : Int) by simp, IntKind.wrap_u64]; omega
  · rw [show (c : Int) * 2 ^ (8 * rm) = ((c * 2 ^ (8 * rm) : Nat) : Int) by simp, IntKind.wrap_u64]; omega
  · have := (bits_nat .u64 64 (by decide) (fun n h0 h1 => by rw [IntKind.wrap_u64]; omega) _ _ hand hp2).2
    rw [this]
    rfl
set_option maxHeartbeats 8000000 in
set_option maxRecDepth 100000 in
theorem arSetBytes_walk (w : World) (own : Own) (a p size : Nat) (l : List AO) (H : IsAr w own a p size l) (i : Nat) (hi : i < l.length) (k r x : Nat) (hs : Shape k r x) (hh : l[i].1 = headW k r x) (refs raws : List Nat) (hr : refs.length = r) (hrw : raws.length = x) (hob : l[i].2 = refs ++ raws) (at_ : Int) (hat : at_ = (posOf l i : Int)) (hx : 1 ≤ x) (f : Nat) (A : Option Addr) (b : List Nat) (c : Nat) (hb : ∀ y ∈ b, y < 256) (hA : Src8 w own a A b) (hfn : f + b.length ≤ 8 * x) (ho : ∀ b, w.heap.size ≤ b → own b = 0) :
    Calls Tryz.prog 282 #[.pointer (some ⟨p, 0, none⟩), .int .i64 at_, .int .i64 (f : Int), .slice A b.length c] w fun e w' => e = .returned (.int .i64 0) ∧ IsAr w' own a p size (l.set i (l[i].1, refs ++ setBs raws f b)) ∧ ArStep w own w' own a := by
  have hf : l[i].2.length = r + x := by rw [hob, List.length_append, hr, hrw]
  have HSp := Lib.hid (span_walk w own a p size l H i hi k r x hs hh hf at_ hat hx f b.length hfn)
  have hx2 := hs.x2; have hr2 := hs.r2
  obtain ⟨gw, gf, cw, cf, bs, -, c0, c1, c2, -, -, -, cW, -, -, -, hrow, -, -, o1, o2, o3⟩ := H.cells
  have hst0 : SbySt w own a p size l i l[i].1 refs raws f b gw cw (usedOf l) 0 w := by
    refine ⟨?_, Fr.refl _ w, rfl, c1⟩
    have e : (l[i].1, refs ++ setBs raws f (b.take 0)) = l[i] := by
      show (l[i].1, refs ++ raws) = l[i]
      rw [← hob]
    rw [e, List.set_getElem_self]
    exact H
  have HSt0 := Lib.hid hst0; have C1 := Lib.hid c1; have HO := Lib.hid ho
  have hlt' : ∀ y ∈ raws, y < 18446744073709551616 := fun y hy => (H.lt _ (List.getElem_mem hi)).2 y (by rw [hob]; exact List.mem_append_right _ hy)
  have hround : ∀ t (ht : t < b.length) wr, SbySt w own a p size l i l[i].1 refs raws f b gw cw (usedOf l) t wr →
      ∃ v : Nat, v < 18446744073709551616 ∧ wr.cell? ⟨gw, posOf l i + 1 + r + (f + t) / 8, none⟩ = some (.int .u64 (v : Int)) ∧ wr.frozen? ⟨gw, posOf l i + 1 + r + (f + t) / 8, none⟩ = false ∧
        Hid (SbySt w own a p size l i l[i].1 refs raws f b gw cw (usedOf l) (t + 1) (wr.setCell ⟨gw, posOf l i + 1 + r + (f + t) / 8, none⟩ (.int .u64 (setW v ((f + t) % 8) b[t] : Int)))) := fun t ht wr hst => by
    obtain ⟨h1, h2, h3, h4⟩ := hst
    obtain ⟨R, hR⟩ : ∃ R, setBs raws f (b.take t) = R := ⟨_, rfl⟩
    have hRl : R.length = x := by rw [← hR, setBs_len, hrw]
    have hRlt : ∀ y ∈ R, y < 18446744073709551616 := by
      rw [← hR]
      exact setBs_lt _ _ _ hlt' (fun y hy => hb y (List.mem_of_mem_take hy))
    rw [hR] at h1
    obtain ⟨m, hm⟩ : ∃ m, (f + t) / 8 = m := ⟨_, rfl⟩
    have hmx : m < x := by omega
    have hi2 : i < (l.set i (l[i].1, refs ++ R)).length := by rw [List.length_set]; exact hi
    have hoi : (l.set i (l[i].1, refs ++ R))[i] = (l[i].1, refs ++ R) := by rw [List.getElem_set, if_pos rfl]
    have hpos : posOf (l.set i (l[i].1, refs ++ R)) i = posOf l i := by
      rw [posOf_eq, posOf_eq]
      congr 1
      rw [List.map_set]
      have e : osize (l[i].1, refs ++ R) = (l.map osize)[i]'(by rw [List.length_map]; exact hi) := by
        rw [List.getElem_map]
        unfold osize
        rw [List.length_append, hRl, hr, hf]
      rw [e, List.set_getElem_self]
    obtain ⟨gw', gf', cw', cf', bs', -, -, d1, -, -, -, -, dW, -, dF, -⟩ := h1.cells
    have hus : usedOf (l.set i (l[i].1, refs ++ R)) = usedOf l := used_set l i _ hi (by unfold osize; rw [List.length_append, hRl, hr, hf])
    rw [hus] at d1
    have hg : gw = gw' := slice_inj (Option.some.inj (h4.symm.trans d1))
    subst hg
    have e := field_at (l.set i (l[i].1, refs ++ R)) i hi2 (r + m) (by rw [hoi]; simp; omega)
    have hlt := (List.getElem?_eq_some_iff.1 e).1
    have hc := dW _ hlt
    rw [List.getElem?_eq_getElem hlt] at e
    rw [Option.some.inj e] at hc
    have hv : (l.set i (l[i].1, refs ++ R))[i].2[r + m]'(by rw [hoi]; simp; omega) = R.getD m 0 := by
      have : ∀ (q : AO) (hq : q = (l[i].1, refs ++ R)) (hh : r + m < q.2.length), q.2[r + m] = R.getD m 0 := fun q hq hh => by
        subst hq
        show (refs ++ R)[r + m] = _
        rw [List.getElem_append_right (by omega), List.getD_eq_getElem?_getD, List.getElem?_eq_getElem (by omega)]
        simp [hr]
      exact this _ hoi _
    rw [hv, hpos] at hc
    have hvl : R.getD m 0 < 18446744073709551616 := getD_lt hRlt m
    have hbt : b[t] < 256 := hb _ (List.getElem_mem ht)
    have hsw : setW (R.getD m 0) ((f + t) % 8) b[t] < 18446744073709551616 := setW_lt _ _ _ hvl (by omega) hbt
    have hfin := set_fin h1 i hi2 (r + m) (setW (R.getD m 0) ((f + t) % 8) b[t]) gw cw (usedOf l) (by rw [hoi]; simp; omega) hsw (fun z hz => ho z (by omega)) h4
    obtain ⟨-, ⟨_, q2⟩, q3⟩ := hfin
    rw [hpos] at q2 q3
    have hq : posOf l i + 1 + r + (f + t) / 8 = posOf l i + 1 + (r + m) := by omega
    refine ⟨R.getD m 0, hvl, by rw [hq]; exact hc, by rw [hq]; exact dF _, ?_⟩
    rw [hq]
    refine ⟨?_, ?_, ?_, ?_⟩
    · have e2 : (l.set i (l[i].1, refs ++ R)).set i ((l.set i (l[i].1, refs ++ R))[i].1, (l.set i (l[i].1, refs ++ R))[i].2.set (r + m) (setW (R.getD m 0) ((f + t) % 8) b[t])) = l.set i (l[i].1, refs ++ setBs raws f (b.take (t + 1))) := by
        rw [List.set_set]
        congr 1
        have : ∀ (q : AO) (hq : q = (l[i].1, refs ++ R)), (q.1, q.2.set (r + m) (setW (R.getD m 0) ((f + t) % 8) b[t])) = (l[i].1, refs ++ setBs raws f (b.take (t + 1))) := fun q hq => by
          subst hq
          have e3 : b.take (t + 1) = b.take t ++ [b[t]] := List.take_succ_eq_append_getElem ht
          have e4 : setBs raws f (b.take (t + 1)) = setB R (f + t) b[t] := by
            rw [e3, setBs_snoc, hR, List.length_take, Nat.min_eq_left (by omega)]
          rw [e4]
          show (l[i].1, (refs ++ R).set (r + m) _) = _
          rw [← hr, app_set]
          unfold setB
          rw [hm]
        exact this _ hoi
      rw [e2] at q2
      exact q2
    · exact h2.setCell (.inl (.inr (.inl o2))) _
    · simpa [World.setCell] using h3
    · have hne : p ≠ gw := by rintro rfl; omega
      have : (wr.setCell ⟨gw, posOf l i + 1 + (r + m), none⟩ (.int .u64 (setW (R.getD m 0) ((f + t) % 8) b[t] : Int))).heap[p]? = wr.heap[p]? := by rw [setCell_at, if_neg hne]
      have h5 := h4
      unfold World.cell? at h5 ⊢
      simp only [this]
      exact h5
  have HRound := Lib.hid hround
  have hsrc : ∀ t (ht : t < b.length) wr, SbySt w own a p size l i l[i].1 refs raws f b gw cw (usedOf l) t wr → ∃ g o, A = some ⟨g, o, none⟩ ∧ wr.cell? ⟨g, o + t, none⟩ = some (.int .u8 (b[t] : Int)) := fun t ht wr hst => by
    obtain ⟨g, o, e1, e2, e3, e4⟩ := hA (by omega)
    refine ⟨g, o, e1, ?_⟩
    have h5 := e4 t ht
    have := hst.2.1.block g e3 e2
    unfold World.cell? at h5 ⊢
    simp only [this]
    exact h5
  have HSrc := Lib.hid hsrc
  obtain ⟨hd, hhd⟩ : ∃ hd, l[i].1 = hd := ⟨_, rfl⟩
  rw [hhd] at HSt0 HRound HSrc ⊢
  obtain ⟨q, hq⟩ : ∃ q, posOf l i + 1 + r = q := ⟨_, rfl⟩
  rw [hq] at HSp HRound
  obtain ⟨n, hn⟩ : ∃ n, b.length = n := ⟨_, rfl⟩
  have HN := Lib.hid hn
  rw [hn] at HSp hfn ⊢
  have HB := Lib.hid hb
  clear hs hh hf hat c0 c1 c2 cW H hob hr hrw hrow hround hsrc hst0 ho hlt' hA hhd hq hn hb o1 o2 o3
  go_enter Tryz.func282, Tryz.ntmps282
  go_wp2_with fail
  refine HSp.out.mono ?_
  rintro e w' ⟨⟨gw', cw', rfl, hA⟩, rfl⟩
  have hg : gw = gw' := slice_inj (Option.some.inj (C1.out.symm.trans hA))
  subst hg
  clear hA
  go_wp2_with fail
  go_loopw [29] (fun v29 wr => ∃ t : Nat, t ≤ n ∧ v29 = .int .i64 (t : Int) ∧ Hid (SbySt w own a p size l i hd refs raws f b gw cw (usedOf l) t wr)) (fun v29 _ => n - (intOf v29).toNat)
  case atStart => exact ⟨0, by omega, rfl, HSt0.out⟩
  case round =>
    obtain ⟨t, ht, rfl, HH⟩ := hrel
    by_cases hlt : t < n
    · have htb : t < b.length := by rw [HN.out]; exact hlt
      obtain ⟨g, o, rfl, s0⟩ := HSrc.out t htb wr HH.out
      obtain ⟨v, hv, e0, e1, hst⟩ := HRound.out t htb wr HH.out
      have HSt := Lib.hid hst.out
      have hc := HB.out b[t] (List.getElem_mem htb)
      obtain ⟨s, hs⟩ : ∃ s, f + t = s := ⟨_, rfl⟩
      rw [hs] at e0 e1 HSt
      have m1 : IntKind.i64.wrap ((f : Int) + (t : Int)) = (s : Int) := by rw [Go.IntWalk.i64_in _ (by omega)]; omega
      obtain ⟨m, hm⟩ : ∃ m, s / 8 = m := ⟨_, rfl⟩
      obtain ⟨rm, hrm⟩ : ∃ rm, s % 8 = rm := ⟨_, rfl⟩
      have m2 : (s : Int).tdiv 8 = (m : Int) := by rw [Int.tdiv_eq_ediv_of_nonneg (by omega)]; omega
      have m3 : (s : Int).tmod 8 = (rm : Int) := by rw [Int.tmod_eq_emod_of_nonneg (by omega)]; omega
      have m4 : IntKind.i64.wrap (m : Int) = (m : Int) := Go.IntWalk.i64_in _ (by omega)
      have m5 : IntKind.i64.wrap (rm : Int) = (rm : Int) := Go.IntWalk.i64_in _ (by omega)
      have m6 : IntKind.i64.wrap ((rm : Int) * 8) = ((8 * rm : Nat) : Int) := by rw [Go.IntWalk.i64_in _ (by omega)]; omega
      rw [hm] at e0 e1 HSt
      rw [hrm] at HSt
      obtain ⟨c1, hc1⟩ : ∃ c1, b[t] = c1 := ⟨_, rfl⟩
      rw [hc1] at s0 hc HSt
      have hmx : m < x := by omega
      have hrm8 : rm < 8 := by omega
      obtain ⟨b1, b2, b3, b4⟩ := sby_word v rm c1 hv hrm8 hc
      have b0 : IntKind.u64.wrap (c1 : Int) = (c1 : Int) := by rw [IntKind.wrap_u64]; omega
      clear hst hs hm hrm hc1
      go_wp2_with fail
      go_region_law (fail)
      all_goals (try (go_wp2_with fail))
      refine ⟨⟨t + 1, by omega, by go_num, ?_⟩, by simp [intOf]; omega⟩
      rw [b1, b2, b3, b4]
      exact Lib.hid HSt.out.drew
    · obtain rfl : t = n := by omega
      go_wp2_with fail
      go_ret
      have h := HH.out
      refine ⟨rfl, ?_, h.2.1, Ow.refl _ _, fun z hz => .inl (HO.out z hz), fun z hz => HO.out z (by rw [← h.2.2.1]; exact hz)⟩
      have h1 := h.1
      rw [← HN.out, List.take_length] at h1
      exact h1
end Go.Proofs.YtglglknhifjbaaaGreatDoor.Sp
namespace Go.Proofs.YtglglknhifjbaaaGreatDoor.Sp
open Go.RowKit Go.Proofs.YtglglknhifjbaaaGreatDoorW.PrintWords Go.Proofs.YtglglknhifjbaaaGreatDoorW.PrintLast Go.Proofs.YtglglknhifjbaaaGreatDoorW.PrintMore
set_option linter.unusedVariables false
set_option linter.unusedSimpArgs false
def SrcH (w : World) (own : Own) (A : Option Addr) (b : List Nat) : Prop :=
  0 < b.length → ∃ g o, A = some ⟨g, o, none⟩ ∧ own g = 0 ∧ g < w.heap.size ∧ ∀ j (h : j < b.length), w.cell? ⟨g, o + j, none⟩ = some (.int .u8 (b[j] : Int))
theorem SrcH.src8 {w : World} {own : Own} {A : Option Addr} {b : List Nat} (h : SrcH w own A b) (a : Nat) : Src8 w own a A b := fun h0 => by
  obtain ⟨g, o, e, h1, h2, h3⟩ := h h0
  exact ⟨g, o, e, fun hq => by rcases hq with hq | hq | hq <;> omega, h2, h3⟩
section
variable {w : World} {own : Own} {hp : Nat} {G : Gr} {hs : List Nat} {bs : List (Option Nat)} {i : Nat}
set_option maxHeartbeats 4000000 in
set_option maxRecDepth 100000 in
theorem hBytes_walk (H : HO w own hp G hs bs) (h : Live hs bs i) (f n : Nat) (hx : 1 ≤ (G.node i).raws.length) (hfn : f + n ≤ 8 * (G.node i).raws.length) :
    Calls Tryz.prog 204 #[.pointer (some ⟨hp, 0, none⟩), .int .u64 (plOf G hs bs i : Int), .int .i64 (f : Int), .int .i64 (n : Int)] w (BytesPost w (getBs (G.node i).raws f n)) := by
  obtain ⟨M, x, hM, R⟩ := H
  obtain ⟨p, a, A, k, hh, hF⟩ := find_home hM R h
  have hsh := (R.ok i h).sh
  have hB := arBytes_walk w own a p A.size A.objs hh.ar k hh.lt _ _ _ hsh (by rw [hh.obj]; rfl) ((G.node i).refs.map (plOf G hs bs)) (G.node i).raws (by simp) rfl (by rw [hh.obj]; rfl) (posOf A.objs k : Int) rfl hx f n hfn
  obtain ⟨pi, hpi⟩ : ∃ pi, plOf G hs bs i = pi := ⟨_, rfl⟩
  obtain ⟨q, hq⟩ : ∃ q, posOf A.objs k = q := ⟨_, rfl⟩
  rw [hq] at hB hF
  rw [hpi] at hF ⊢
  obtain ⟨L, hL⟩ : ∃ L, getBs (G.node i).raws f n = L := ⟨_, rfl⟩
  rw [hL] at hB ⊢
  have HF := Lib.hid hF; have HB := Lib.hid hB
  have nG : ∀ w : World, (nilAhead 441 89 (.pointer (some ⟨p, 0, none⟩)) "Bytes").run Tryz.prog w = .ok (some false) w := fun w => by kernel_rfl
  have mG : ∀ w : World, (method 441 89 (.pointer (some ⟨p, 0, none⟩)) "Bytes").run Tryz.prog w = .ok (279, .pointer (some ⟨p, 0, none⟩)) w := fun w => by kernel_rfl
  clear hF hB hM R hpi hq hL hh hsh h hx hfn
  go_enter Tryz.func204, Tryz.ntmps204
  go_wp2_with fail
  refine HF.out.mono ?_
  rintro e w' ⟨rfl, rfl⟩
  go_wp2_with fail
  refine HB.out.mono ?_
  rintro e w' ⟨g, rfl, h1, h2, h3⟩
  have H1 := Lib.hid h1; have H2 := Lib.hid h2; have H3 := Lib.hid h3
  clear h1 h2 h3
  go_wp2_with fail
  go_ret2
  exact ⟨g, rfl, H1.out, H2.out, H3.out⟩
def Node.setRaw (n : Node) (f : Nat) (b : List Nat) : Node := { n with raws := setBs n.raws f b }
theorem Node.setRaw_like (n : Node) (f : Nat) (b : List Nat) : (n.setRaw f b).Like n := ⟨rfl, rfl, setBs_len _ _ _⟩
theorem Node.setRaw_ok {n : Node} (h : n.Ok) (f : Nat) (b : List Nat) (hb : ∀ y ∈ b, y < 256) : (n.setRaw f b).Ok :=
  ⟨by show Shape n.kind n.refs.length (setBs n.raws f b).length; rw [setBs_len]; exact h.sh, fun x hx => setBs_lt _ _ _ h.lt hb x hx⟩
set_option maxHeartbeats 4000000 in
set_option maxRecDepth 100000 in
theorem hSetBytes_walk (H : HO w own hp G hs bs) (h : Live hs bs i) (f : Nat) (A0 : Option Addr) (b : List Nat) (c : Nat) (hb : ∀ y ∈ b, y < 256) (hA : SrcH w own A0 b) (hx : 1 ≤ (G.node i).raws.length) (hfn : f + b.length ≤ 8 * (G.node i).raws.length) :
    Calls Tryz.prog 216 #[.pointer (some ⟨hp, 0, none⟩), .int .u64 (plOf G hs bs i : Int), .int .i64 (f : Int), .slice A0 b.length c] w (HPutPost w own hp G hs bs i ((G.node i).setRaw f b)) := by
  obtain ⟨M, x, hM, R⟩ := H
  obtain ⟨p, a, A, k, hh, hF⟩ := find_home hM R h
  have hok := R.ok i h
  have hS := arSetBytes_walk w own a p A.size A.objs hh.ar k hh.lt _ _ _ hok.sh (by rw [hh.obj]; rfl) ((G.node i).refs.map (plOf G hs bs)) (G.node i).raws (by simp) rfl (by rw [hh.obj]; rfl) (posOf A.objs k : Int) rfl hx f A0 b c hb (hA.src8 a) hfn hM.top
  have fin : ∀ w', IsAr w' own a p A.size (A.objs.set k ((A.objs[k]'hh.lt).1, (G.node i).refs.map (plOf G hs bs) ++ setBs (G.node i).raws f b)) → ArStep w own w' own a → Hid (HPutPost w own hp G hs bs i ((G.node i).setRaw f b) (.returned (.int .i64 0)) w') := fun w' h1 h2 => by
    obtain ⟨M', q1, q2⟩ := hh.put ((G.node i).setRaw f b) w' own ((G.node i).setRaw_like f b) (Node.setRaw_ok hok f b hb) (fun j hj => R.closed i h j hj) h2 (by
      have e1 : (A.objs[k]'hh.lt).1 = ((G.node i).setRaw f b).head := by rw [hh.obj, (Node.setRaw_like (G.node i) f b).head]; rfl
      rw [← e1]
      exact h1)
    exact ⟨rfl, own, ⟨M', x, q1, q2⟩, h2.h⟩
  obtain ⟨pi, hpi⟩ : ∃ pi, plOf G hs bs i = pi := ⟨_, rfl⟩
  obtain ⟨q, hq⟩ : ∃ q, posOf A.objs k = q := ⟨_, rfl⟩
  rw [hq] at hS hF
  rw [hpi] at hF ⊢
  obtain ⟨n, hn⟩ : ∃ n, b.length = n := ⟨_, rfl⟩
  rw [hn] at hS ⊢
  have HF := Lib.hid hF; have HS := Lib.hid hS; have HFin := Lib.hid fin
  have nG : ∀ w : World, (nilAhead 441 89 (.pointer (some ⟨p, 0, none⟩)) "SetBytes").run Tryz.prog w = .ok (some false) w := fun w => by kernel_rfl
  have mG : ∀ w : World, (method 441 89 (.pointer (some ⟨p, 0, none⟩)) "SetBytes").run Tryz.prog w = .ok (282, .pointer (some ⟨p, 0, none⟩)) w := fun w => by kernel_rfl
  clear hF hS fin hM R hpi hq hok hx hfn hA hb hn
  go_enter Tryz.func216, Tryz.ntmps216
  go_wp2_with fail
  refine HF.out.mono ?_
  rintro e w' ⟨rfl, rfl⟩
  go_wp2_with fail
  refine HS.out.mono ?_
  rintro e w' ⟨rfl, h1, h2⟩
  have HQ := Lib.hid (HFin.out w' h1 h2)
  clear h1 h2
  go_wp2_with fail
  go_ret
  exact HQ.out.out
end
end Go.Proofs.YtglglknhifjbaaaGreatDoor.Sp
namespace Go.Proofs.YtglglknhifjbaaaGreatDoor.Sp
open Go.RowKit Go.Proofs.YtglglknhifjbaaaGreatDoorW.PrintWords Go.Proofs.YtglglknhifjbaaaGreatDoorW.PrintLast Go.Proofs.YtglglknhifjbaaaGreatDoorW.PrintMore
set_option linter.unusedVariables false
set_option linter.unusedSimpArgs false
theorem first_free : ∀ (l : List (Bool × Nat)), ∃ i, i ≤ l.length ∧ (∀ j (h : j < l.length), j < i → l[j].1 = true) ∧ (∀ h : i < l.length, l[i].1 = false)
  | [] => ⟨0, Nat.le_refl _, fun j h => by simp at h, fun h => by simp at h⟩
  | (false, v) :: l => ⟨0, Nat.zero_le _, fun j _ h => by omega, fun _ => rfl⟩
  | (true, v) :: l => by
    obtain ⟨i, h1, h2, h3⟩ := first_free l
    refine ⟨i + 1, by simp only [List.length_cons]; omega, fun j h hj => ?_, fun h => ?_⟩
    · cases j with
      | zero => rfl
      | succ j => exact h2 j (by simpa using h) (by omega)
    · exact h3 (by simpa using h)
def Gr.hold (G : Gr) (k i : Nat) : Gr := { G with hands := (k, i) :: G.hands }
def Gr.letGo (G : Gr) (k : Nat) : Gr := { G with hands := dropH k G.hands }
theorem sum_ones {α : Type} : ∀ (l : List α), (l.map (fun _ => 1)).sum = l.length
  | [] => rfl
  | a :: l => by rw [List.map_cons, List.sum_cons, sum_ones l, List.length_cons]; omega
theorem rootV_set2 : ∀ (l : List (Bool × Nat)) (i : Nat) (u : Bool) (v : Nat), i < l.length → rootV (l.set i (u, v)) = ((rootV l).set (i * 2) (.bool u)).set (i * 2 + 1) (.int .u64 (v : Int))
  | [], i, u, v, h => by simp at h
  | r :: l, 0, u, v, _ => rfl
  | r :: l, i + 1, u, v, h => by
    have ih := rootV_set2 l i u v (by simpa using h)
    show [Value.bool r.1, wv r.2] ++ rootV (l.set i (u, v)) = _
    rw [ih, show (i + 1) * 2 = i * 2 + 1 + 1 by omega]
    rfl
theorem len_le_of_keys : ∀ (n : Nat) (l : List (Nat × Nat)), (l.map Prod.fst).Nodup → (∀ k, k < n → ∃ i, (k, i) ∈ l) → n ≤ l.length := fun n l nd h => by
  have h1 := sum_sub (fun _ => 1) (List.range n) (l.map Prod.fst) List.nodup_range (fun k hk => by
    obtain ⟨i, hi⟩ := h k (List.mem_range.1 hk)
    exact List.mem_map.2 ⟨(k, i), hi, rfl⟩)
  rw [sum_ones, sum_ones, List.length_range, List.length_map] at h1
  exact h1
section
variable {w : World} {own : Own} {hp : Nat} {G : Gr} {hs : List Nat} {bs : List (Option Nat)} {i : Nat}
def RootGPost (w : World) (own : Own) (hp : Nat) (G : Gr) (hs : List Nat) (bs : List (Option Nat)) (i : Nat) (e : Ending) (w' : World) : Prop :=
  ∃ (k : Nat) (own' : Own), e = .returned (.tuple #[.int .i64 ((k : Int) + 1), .int .i64 0]) ∧ (∀ j, (k, j) ∉ G.hands) ∧ k ≤ 1000 ∧ HO w' own' hp (G.hold k i) hs bs ∧ HStep w own w' own'
theorem hRoot_walk (H : HO w own hp G hs bs) (h : i = 0 ∨ Live hs bs i) (hn : G.hands.length < 1000) :
    Calls Tryz.prog 71 #[.pointer (some ⟨hp, 0, none⟩), .int .u64 (plOf G hs bs i : Int)] w (RootGPost w own hp G hs bs i) := by
  have hg := good_walk H h
  have hlt := pl_lt H i
  obtain ⟨M, x, hM, R⟩ := H
  obtain ⟨k, h1, h2, h3⟩ := first_free M.roots
  have hlen := R.roots.len
  have hfree : ∀ v, M.roots[k]? ≠ some (true, v) := fun v e => by
    obtain ⟨hk, e⟩ := List.getElem?_eq_some_iff.1 e
    have := h3 hk
    rw [e] at this; cases this
  have hroom : k < M.roots.length ∨ M.roots.length < 1000 := by
    by_cases hk : k < M.roots.length
    · exact .inl hk
    · right
      have := len_le_of_keys M.roots.length G.hands R.hkeys (fun j hj => by
        have hu := h2 j hj (by omega)
        refine R.roots.used j M.roots[j].2 ?_
        rw [List.getElem?_eq_getElem hj]
        cases hq : M.roots[j] with
        | mk u v => rw [hq] at hu; have hu : u = true := hu; subst hu; rfl)
      omega
  refine (root_walk w own hp M x hM (plOf G hs bs i) hlt hg k h1 h2 h3 (by omega) (by rw [R.nroots]; omega)).mono ?_
  rintro e w' ⟨own', x', rfl, q1, q2⟩
  exact ⟨k, own', rfl, fun j hj => hfree _ (R.roots.at_ k j hj), by omega, ⟨_, x', q1, R.hold k i h h1 hfree hroom⟩, q2⟩
theorem hAt_walk (H : HO w own hp G hs bs) {k : Nat} (hk : (k, i) ∈ G.hands) :
    Calls Tryz.prog 120 #[.pointer (some ⟨hp, 0, none⟩), .int .i64 ((k : Int) + 1)] w fun e w' => e = .returned (.tuple #[.int .u64 (plOf G hs bs i : Int), .int .i64 0]) ∧ w = w' := by
  obtain ⟨M, x, hM, R⟩ := H
  obtain ⟨hlt, e⟩ := List.getElem?_eq_some_iff.1 (R.roots.at_ k i hk)
  have hlen := R.roots.len
  have := at_walk w own hp M x hM k hlt (by rw [e]) (by omega) ((k : Int) + 1) rfl
  rw [e] at this
  exact this
theorem drop_set {M : HM} {x : HX} (H : HMem w own hp M x) {k g cap : Nat} (hk : k < M.roots.length) (hn : 1 ≤ M.nroots) (hvt : x.vt = .slice (some ⟨g, 0, none⟩) M.roots.length cap) :
    ∃ x', HMem (((w.setCell ⟨g, k * 2, none⟩ (.bool false)).setCell ⟨g, k * 2 + 1, none⟩ (.int .u64 0)).setCell ⟨hp, 15, none⟩ (.int .i64 ((M.nroots : Int) - 1))) own hp { M with roots := M.roots.set k (false, 0), nroots := M.nroots - 1 } x' ∧ HStep w own (((w.setCell ⟨g, k * 2, none⟩ (.bool false)).setCell ⟨g, k * 2 + 1, none⟩ (.int .u64 0)).setCell ⟨hp, 15, none⟩ (.int .i64 ((M.nroots : Int) - 1))) own := by
  have hrt := H.rt
  rw [hvt] at hrt
  have hg5 : own g = 5 := hrt.2 g rfl
  have hne : hp ≠ g := by rintro rfl; have := H.ohd; omega
  have hr1 := own_set (own_set hrt.1 (k * 2) (.bool false)) (k * 2 + 1) (.int .u64 0)
  have hfr : Fr (fun b => own b = 1 ∨ own b = 5) w (((w.setCell ⟨g, k * 2, none⟩ (.bool false)).setCell ⟨g, k * 2 + 1, none⟩ (.int .u64 0)).setCell ⟨hp, 15, none⟩ (.int .i64 ((M.nroots : Int) - 1))) :=
    (((Fr.refl _ w).setCell (.inl (.inr hg5)) _).setCell (.inl (.inr hg5)) _).setCell (.inl (.inl H.ohd)) _
  refine ⟨{ x with vt := .slice (some ⟨g, 0, none⟩) M.roots.length cap }, ?_, fr_h hfr, Ow.refl _ _⟩
  refine H.updRoots (M.roots.set k (false, 0)) (M.nroots - 1) _ hfr (Ow.refl _ _) ?_ ⟨?_, fun g' hgb => ?_⟩ (fun b hb => H.top b (by simpa [World.setCell] using hb))
  · rw [setCell_at, if_pos rfl, setCell_at, if_neg hne, setCell_at, if_neg hne, H.hd, hvt]
    have : ((M.nroots - 1 : Nat) : Int) = (M.nroots : Int) - 1 := by omega
    rw [this]; rfl
  · rw [rootV_set2 _ _ _ _ hk, List.length_set]
    refine own_move hr1 (fun b hb => ?_)
    have : g = b := by simpa [Value.ownBlock] using hb
    subst this
    rw [setCell_at, if_neg (fun e => hne e.symm)]
  · have : g = g' := by simpa [Value.ownBlock] using hgb
    subst this
    exact hg5
end
end Go.Proofs.YtglglknhifjbaaaGreatDoor.Sp
namespace Go.Proofs.YtglglknhifjbaaaGreatDoor.Sp
open Go.RowKit Go.Proofs.YtglglknhifjbaaaGreatDoorW.PrintWords Go.Proofs.YtglglknhifjbaaaGreatDoorW.PrintLast Go.Proofs.YtglglknhifjbaaaGreatDoorW.PrintMore
set_option linter.unusedVariables false
set_option linter.unusedSimpArgs false
section
variable {w : World} {own : Own} {hp : Nat} {G : Gr} {hs : List Nat} {bs : List (Option Nat)} {i : Nat}
def DropGPost (w : World) (own : Own) (hp : Nat) (G : Gr) (hs : List Nat) (bs : List (Option Nat)) (k : Nat) (e : Ending) (w' : World) : Prop :=
  e = .returned (.int .i64 0) ∧ ∃ own', HO w' own' hp (G.letGo k) hs bs ∧ HStep w own w' own'
set_option maxHeartbeats 4000000 in
set_option maxRecDepth 100000 in
theorem hDrop_walk (H : HO w own hp G hs bs) {k : Nat} (hk : (k, i) ∈ G.hands) :
    Calls Tryz.prog 72 #[.pointer (some ⟨hp, 0, none⟩), .int .i64 ((k : Int) + 1)] w (DropGPost w own hp G hs bs k) := by
  obtain ⟨M, x, hM, R⟩ := H
  obtain ⟨hlt, e⟩ := List.getElem?_eq_some_iff.1 (R.roots.at_ k i hk)
  have hlen := R.roots.len
  have hn : 1 ≤ M.nroots := by
    rw [R.nroots]
    exact List.length_pos_of_mem hk
  have hn2 : M.nroots ≤ 1000 := by
    rw [R.nroots]
    have h1 := sum_sub (fun _ => 1) (G.hands.map Prod.fst) (List.range M.roots.length) R.hkeys (fun q hq => by
      obtain ⟨p, hp', rfl⟩ := List.mem_map.1 hq
      exact List.mem_range.2 (List.getElem?_eq_some_iff.1 (R.roots.at_ p.1 p.2 hp')).1)
    rw [sum_ones, sum_ones, List.length_range, List.length_map] at h1
    omega
  have HHeld := Lib.hid (held_yes w own hp M x hM k hlt (by rw [e]) (by omega) ((k : Int) + 1) rfl)
  obtain ⟨g, cap, hv, hc, og, k0, k1, kf⟩ := root_cells hM k hlt
  have c9 := hM.c9
  have c15 := hM.c15
  have f15 := hM.fz 15
  rw [hv] at c9
  have kf0 := kf (k * 2)
  have kf1 := kf (k * 2 + 1)
  have hne : g ≠ hp := by rintro rfl; have := hM.ohd; omega
  have hfin : Hid (DropGPost w own hp G hs bs k (.returned (.int .i64 0)) (((w.setCell ⟨g, k * 2, none⟩ (.bool false)).setCell ⟨g, k * 2 + 1, none⟩ (.int .u64 0)).setCell ⟨hp, 15, none⟩ (.int .i64 ((M.nroots : Int) - 1)))) := by
    obtain ⟨x', q1, q2⟩ := drop_set hM hlt hn hv
    exact ⟨rfl, own, ⟨_, x', q1, R.drop k i hk⟩, q2⟩
  have e3 : ((k : Int) + 1 - 1) = (k : Int) := by omega
  have m1 : IntKind.i64.wrap ((M.nroots : Int) - 1) = (M.nroots : Int) - 1 := Go.IntWalk.i64_in _ (by omega)
  obtain ⟨nr, hnr⟩ : ∃ nr, M.nroots = nr := ⟨_, rfl⟩
  obtain ⟨ln, hln⟩ : ∃ ln, M.roots.length = ln := ⟨_, rfl⟩
  rw [hnr] at c15 hfin m1
  rw [hln] at c9 hlt hlen
  have HFin := Lib.hid hfin.out
  have hu112 := Tryz.underlying147
  clear hM R hk e hv kf hfin hnr hln hc hn hn2
  go_enter Tryz.func72, Tryz.ntmps72
  go_wp2_with fail
  refine HHeld.out.mono ?_
  rintro e w' ⟨rfl, rfl⟩
  go_wp2_with fail
  go_ret
  exact HFin.out
def AllocOPost (w : World) (own : Own) (hp : Nat) (G : Gr) (k r y : Nat) (e : Ending) (w' : World) : Prop :=
  ∃ own' hs' bs', HStep w own w' own' ∧ (∀ i, Reach G i → Live hs' bs' i) ∧
    ((e = .returned (.tuple #[.int .u64 (plOf (G.add (Node.new k r y)) hs' bs' G.next : Int), .int .i64 0]) ∧ HO w' own' hp (G.add (Node.new k r y)) hs' bs' ∧ Live hs' bs' G.next) ∨
     (e = .returned (.tuple #[.int .u64 0, .int .i64 31]) ∧ HO w' own' hp G hs' bs' ∧ ¬ G.room (1 + r + y)))
theorem hAllocO_walk (H : HO w own hp G hs bs) (k r y : Nat) (hsh : Shape k r y) :
    Calls Tryz.prog 69 #[.pointer (some ⟨hp, 0, none⟩), .int .i64 (k : Int), .int .i64 (r : Int), .int .i64 (y : Int)] w (AllocOPost w own hp G k r y) := by
  obtain ⟨M, x, hM, R⟩ := H
  refine (hAlloc_walk w own hp M x hM G hs bs R k r y hsh).mono ?_
  rintro e w' (⟨own', M', x', hs', bs', rfl, K, hl⟩ | ⟨own', M', x', hs', bs', rfl, K, hl⟩)
  · exact ⟨own', hs', bs', K.step, K.keep, .inl ⟨rfl, ⟨M', x', K.mem, K.rep⟩, hl⟩⟩
  · exact ⟨own', hs', bs', K.step, K.keep, .inr ⟨rfl, ⟨M', x', K.mem, K.rep⟩, hl⟩⟩
end
end Go.Proofs.YtglglknhifjbaaaGreatDoor.Sp
