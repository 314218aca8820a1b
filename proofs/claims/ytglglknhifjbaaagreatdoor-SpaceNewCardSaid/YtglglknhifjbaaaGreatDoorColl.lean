import Derived.Test.YtglglknhifjbaaaGreatDoorMovd
namespace Go.Proofs.YtglglknhifjbaaaGreatDoor.Sp
open Go.RowKit Go.Proofs.YtglglknhifjbaaaGreatDoorW.PrintWords Go.Proofs.YtglglknhifjbaaaGreatDoorW.PrintLast Go.Proofs.YtglglknhifjbaaaGreatDoorW.PrintMore
set_option linter.unusedVariables false
set_option linter.unusedSimpArgs false
inductive Spot (G : Gr) (bs : List (Option Nat)) (x : HX) (cur pp at_ : Nat) (P rs : List Nat) : Prop
  | small : cur ∈ P → pp = x.ps → at_ = plOf G P bs cur → Spot G bs x cur pp at_ P rs
  | big (s a : Nat) : bs[s]? = some (some cur) → cur ∈ rs → x.bl[s]? = some (some (pp, a)) → at_ = 1 → Spot G bs x cur pp at_ P rs
section
variable {w w' : World} {own : Own} {hp : Nat} {M : HM} {x : HX} {vg : Value} {gs : List Nat} {G : Gr} {hs : List Nat} {bs : List (Option Nat)} {P : List Nat} {n : Nat} {rs : List Nat} {c : Nat → Nat} {cur q pp at_ : Nat}
theorem Spot.new (h : Spot G bs x cur pp at_ P rs) : New P rs cur := by
  cases h with
  | small h1 _ _ => exact .inr (.inl h1)
  | big s a _ h2 _ _ => exact .inr (.inr h2)
theorem Spot.grow (h : Spot G bs x cur pp at_ P rs) (m : Mid G hs bs P n rs gs c cur q M) (r rr : List Nat) (hr : ∀ i ∈ r, i ∈ hs) : Spot G bs x cur pp at_ (P ++ r) (rs ++ rr) := by
  cases h with
  | small h1 h2 h3 => exact .small (List.mem_append_left _ h1) h2 (by rw [h3, pl_keep m.toLay m.psub m.rsub r hr cur (.inr (.inl h1))])
  | big s a h1 h2 h3 h4 => exact .big s a h1 (List.mem_append_left _ h2) h3 h4
theorem Spot.open (h : Spot G bs x cur pp at_ P rs) (H : HMid w own hp M x vg gs) (m : Mid G hs bs P n rs gs c cur q M) :
    ∃ (aa : Nat) (A : AM) (k : Nat) (hk : k < A.objs.length), IsAr w own aa pp A.size A.objs ∧ at_ = posOf A.objs k ∧ A.objs[k] = encC G (plOf G P bs) (plOf G hs bs) c cur ∧
      ∀ e w' (ht : c cur < (G.node cur).refs.length), New P rs (G.node cur).refs[c cur] → SetPost w own aa pp A.size A.objs k (c cur) (plOf G P bs (G.node cur).refs[c cur]) e w' →
        ∃ M', e = .returned (.int .i64 0) ∧ HMid w' own hp M' x vg gs ∧ Mid G hs bs P n rs gs (fun i => if i = cur then c i + 1 else c i) cur q M' ∧ HStep w own w' own ∧ MSame M M' ∧ M'.roots = M.roots := by
  cases h with
  | small h1 h2 h3 =>
    obtain ⟨k, hk, ek⟩ := mem_get h1
    obtain ⟨hk2, ho⟩ := get_map m.spare k hk
    rw [ek] at ho
    refine ⟨x.as_, M.spare, k, hk2, by rw [h2]; exact H.spare, by rw [h3, ← ek]; exact m.sparePos k hk, ho, fun e w' ht hn hp' => ?_⟩
    obtain ⟨he, ⟨_, hA⟩, hst⟩ := hp'
    rw [h2] at hA
    have hmid := m.turnSmall k hk ek ht hn _ ho
    refine ⟨_, he, H.stepSpare hst hA, hmid, hst.h, ⟨rfl, rfl, rfl, rfl, rfl, rfl, rfl, rfl, rfl, rfl, rfl, rfl⟩, rfl⟩
  | big s a h1 h2 h3 h4 =>
    obtain ⟨A, k1, k2⟩ := H.blk.2 s pp a h3
    have hb : M.blocks[s]? = some (some ⟨G.sz cur + 1, [encC G (plOf G P bs) (plOf G hs bs) c cur]⟩) := by rw [m.blocks, List.getElem?_map, h1]; rfl
    rw [hb] at k1
    injection k1 with k1; injection k1 with k1
    subst k1
    refine ⟨a, _, 0, by simp, k2, by rw [h4, pos_zero], rfl, fun e w' ht hn hp' => ?_⟩
    obtain ⟨he, ⟨_, hA⟩, hst⟩ := hp'
    have hmid := m.turnBig s h1 h2 ht hn _ rfl
    refine ⟨_, he, H.stepBlk h3 hst (A := ⟨G.sz cur + 1, _⟩) hA, hmid, hst.h, ⟨rfl, rfl, rfl, rfl, rfl, rfl, rfl, rfl, rfl, rfl, rfl, by simp⟩, rfl⟩
end
theorem encC_len (G : Gr) (pl' pl : Nat → Nat) (c : Nat → Nat) (i : Nat) : (encC G pl' pl c i).2.length = (G.node i).refs.length + (G.node i).raws.length := by simp [encC]; omega
structure LookSt (w : World) (own : Own) (hp : Nat) (M : HM) (x : HX) (G : Gr) (hs : List Nat) (bs : List (Option Nat)) (P : List Nat) (n : Nat) (rs gs : List Nat) (cur q pp at_ t : Nat) (wr : World) (own' : Own) (M' : HM) (vg' : Value) (gs' r rr : List Nat) (c' : Nat → Nat) : Prop where
  mem : HMid wr own' hp M' x vg' gs'
  mid : Mid G hs bs (P ++ r) n (rs ++ rr) gs' c' cur q M'
  ct : c' cur = t
  spot : Spot G bs x cur pp at_ (P ++ r) (rs ++ rr)
  step : HStep w own wr own'
  same : MSame M M'
  roots : M'.roots = M.roots
  glen : gs'.length = gs.length + rr.length
def LookPost (w : World) (own : Own) (hp : Nat) (M : HM) (x : HX) (G : Gr) (hs : List Nat) (bs : List (Option Nat)) (P : List Nat) (n : Nat) (rs gs : List Nat) (cur q pp at_ : Nat) (e : Ending) (w' : World) : Prop :=
  ∃ own' M' vg' gs' r rr c', e = .returned (.int .i64 (G.sz cur : Int)) ∧ LookSt w own hp M x G hs bs P n rs gs cur q pp at_ (G.node cur).refs.length w' own' M' vg' gs' r rr c'
theorem LookSt.sub {w : World} {own : Own} {hp : Nat} {M : HM} {x : HX} {G : Gr} {hs : List Nat} {bs : List (Option Nat)} {P : List Nat} {n : Nat} {rs gs : List Nat} {cur q pp at_ t : Nat} {wr : World} {own' : Own} {M' : HM} {vg' : Value} {gs' r rr : List Nat} {c' : Nat → Nat}
    (h : LookSt w own hp M x G hs bs P n rs gs cur q pp at_ t wr own' M' vg' gs' r rr c') {w2 : World} {own2 : Own} {M2 : HM} {vg2 : Value} {gs2 r2 rr2 : List Nat} (h1 : HMid w2 own2 hp M2 x vg2 gs2) (h2 : Mid G hs bs (P ++ r ++ r2) n (rs ++ rr ++ rr2) gs2 c' cur q M2) (h3 : HStep wr own' w2 own2) (h4 : MSame M' M2) (h5 : M2.roots = M'.roots) (h6 : gs2.length = gs'.length + rr2.length) :
    LookSt w own hp M x G hs bs P n rs gs cur q pp at_ t w2 own2 M2 vg2 gs2 (r ++ r2) (rr ++ rr2) c' where
  mem := h1
  mid := by rw [← List.append_assoc, ← List.append_assoc]; exact h2
  ct := h.ct
  spot := by
    rw [← List.append_assoc, ← List.append_assoc]
    exact h.spot.grow h.mid r2 rr2 (fun i hi => h2.psub i (List.mem_append_right _ hi))
  step := h.step.trans h3
  same := h.same.trans h4
  roots := h5.trans h.roots
  glen := by rw [h6, h.glen, List.length_append]; omega
theorem Mid.pl_lt {w : World} {own : Own} {hp : Nat} {M : HM} {x : HX} {vg : Value} {gs : List Nat} {G : Gr} {hs : List Nat} {bs : List (Option Nat)} {P : List Nat} {n : Nat} {rs : List Nat} {c : Nat → Nat} {cur q : Nat} (H : HMid w own hp M x vg gs) (m : Mid G hs bs P n rs gs c cur q M) (hbl : bs.length ≤ 1048576) (j : Nat) (hj : New P rs j) : plOf G P bs j < 18446744073709551616 := by
  rcases hj with rfl | h | h
  · rw [m.zero]; decide
  · obtain ⟨k, hk, ek⟩ := mem_get h
    rw [← ek, m.sparePos k hk]
    have hk2 : k < M.spare.objs.length := by rw [m.spare, List.length_map]; exact hk
    have := pos_used M.spare.objs k hk2
    have := H.spare.fit; have := H.spare.s2
    omega
  · obtain ⟨s, hs1, es⟩ := mem_get (m.rsub j h)
    rw [(m.bigAt s j (by rw [List.getElem?_eq_getElem hs1, es])).2]
    omega
section
variable {w : World} {own : Own} {hp : Nat} {M : HM} {x : HX} {G : Gr} {hs : List Nat} {bs : List (Option Nat)} {P : List Nat} {n : Nat} {rs gs : List Nat} {cur q pp at_ t : Nat} {wr : World} {own' : Own} {M' : HM} {vg' : Value} {gs' r rr : List Nat} {c' : Nat → Nat}
theorem LookSt.drew (h : LookSt w own hp M x G hs bs P n rs gs cur q pp at_ t wr own' M' vg' gs' r rr c') : LookSt w own hp M x G hs bs P n rs gs cur q pp at_ t wr.drew own' M' vg' gs' r rr c' :=
  ⟨h.mem.drewN 1, h.mid, h.ct, h.spot, h.step.trans (HStep.drewN 1), h.same, h.roots, h.glen⟩
theorem LookSt.get (h : LookSt w own hp M x G hs bs P n rs gs cur q pp at_ t wr own' M' vg' gs' r rr c') (hok : (G.node cur).Ok) (hlt : t < (G.node cur).refs.length) :
    Calls Tryz.prog 280 #[.pointer (some ⟨pp, 0, none⟩), .int .i64 (at_ : Int), .int .i64 (t : Int)] wr fun e w' => e = .returned (.tuple #[.int .u64 (plOf G hs bs (G.node cur).refs[t] : Int), .int .i64 0]) ∧ wr = w' := by
  obtain ⟨aa, A, k, hk, hA, hat, ho, -⟩ := h.spot.open h.mem h.mid
  have hct := h.ct
  subst hct
  have hl : A.objs[k].2.length = (G.node cur).refs.length + (G.node cur).raws.length := by rw [ho]; exact encC_len _ _ _ _ _
  have := arGet_walk wr own' aa pp A.size A.objs hA k hk _ _ _ hok.sh (by rw [ho]; rfl) hl (at_ : Int) (by rw [hat]) (c' cur) (by omega)
  have hv : A.objs[k].2[c' cur]'(by omega) = plOf G hs bs (G.node cur).refs[c' cur] := by
    have e : A.objs[k].2[c' cur]? = some (plOf G hs bs (G.node cur).refs[c' cur]) := by
      rw [ho]; exact field_get _ _ _ _ _ hlt
    rw [List.getElem?_eq_getElem (by omega)] at e
    exact Option.some.inj e
  rw [hv] at this
  exact this
theorem LookSt.next (h : LookSt w own hp M x G hs bs P n rs gs cur q pp at_ t wr own' M' vg' gs' r rr c') (hok : (G.node cur).Ok) (hlt : t < (G.node cur).refs.length) (hbl : bs.length ≤ 1048576) (hn : New (P ++ r) (rs ++ rr) (G.node cur).refs[t]) :
    Calls Tryz.prog 281 #[.pointer (some ⟨pp, 0, none⟩), .int .i64 (at_ : Int), .int .i64 (t : Int), .int .u64 (plOf G (P ++ r) bs (G.node cur).refs[t] : Int)] wr fun e w' => e = .returned (.int .i64 0) ∧ ∃ M2, LookSt w own hp M x G hs bs P n rs gs cur q pp at_ (t + 1) w' own' M2 vg' gs' r rr (fun i => if i = cur then c' i + 1 else c' i) := by
  obtain ⟨aa, A, k, hk, hA, hat, ho, hset⟩ := h.spot.open h.mem h.mid
  have hct := h.ct
  subst hct
  have hl : A.objs[k].2.length = (G.node cur).refs.length + (G.node cur).raws.length := by rw [ho]; exact encC_len _ _ _ _ _
  refine (arSet_walk wr own' aa pp A.size A.objs hA k hk _ _ _ hok.sh (by rw [ho]; rfl) hl (at_ : Int) (by rw [hat]) (c' cur) _ (by omega) (h.mid.pl_lt h.mem hbl _ hn) h.mem.top).mono ?_
  intro e w' hp'
  obtain ⟨M2, he, h1, h2, h3, h4, h5⟩ := hset e w' hlt hn hp'
  exact ⟨he, M2, h1, h2, if_pos rfl, h.spot, h.step.trans h3, h.same.trans h4, h5.trans h.roots, h.glen⟩
end
set_option maxHeartbeats 8000000 in
set_option maxRecDepth 100000 in
theorem look_walk (w : World) (own : Own) (hp : Nat) (M : HM) (x : HX) (vg : Value) (gs : List Nat) (H : HMid w own hp M x vg gs) (G : Gr) (hs : List Nat) (bs : List (Option Nat)) (P : List Nat) (n : Nat) (rs : List Nat) (c : Nat → Nat) (cur q : Nat) (m : Mid G hs bs P n rs gs c cur q M)
    (hc : c cur = 0) (pp at_ : Nat) (hsp : Spot G bs x cur pp at_ P rs) (hbl : bs.length ≤ 1048576) :
    Calls Tryz.prog 76 #[.pointer (some ⟨hp, 0, none⟩), .iface 89 (.pointer (some ⟨pp, 0, none⟩)), .int .i64 (at_ : Int)] w (LookPost w own hp M x G hs bs P n rs gs cur q pp at_) := by
  have hlive : Live hs bs cur := by
    rcases hsp.new with h | h | h
    · exfalso
      cases hsp with
      | small h1 _ _ => have := m.lo cur (.inl (m.psub cur h1)); omega
      | big s a h1 _ _ _ => have := m.lo cur (.inr (List.mem_of_getElem? h1)); omega
    · exact .inl (m.psub cur h)
    · exact .inr (m.rsub cur h)
  have hreach : Reach G cur := m.sound cur (by
    rcases hsp.new with h | h | h
    · have := m.lo cur hlive; omega
    · exact .inl h
    · exact .inr h)
  have hok := m.ok cur hlive
  have hL := m.toLay
  obtain ⟨aa, A, k, hk, hA, hat, ho, -⟩ := hsp.open H m
  have hob := Lib.hid (object_walk w own aa pp A.size A.objs hA k hk _ _ _ hok.sh (by rw [ho]; rfl) (at_ : Int) (by rw [hat]))
  have hr2 := hok.sh.r2; have hx2 := hok.sh.x2
  have nA : ∀ w : World, (nilAhead 441 89 (.pointer (some ⟨pp, 0, none⟩)) "Object").run Tryz.prog w = .ok (some false) w := fun w => by kernel_rfl
  have mA : ∀ w : World, (method 441 89 (.pointer (some ⟨pp, 0, none⟩)) "Object").run Tryz.prog w = .ok (122, .pointer (some ⟨pp, 0, none⟩)) w := fun w => by kernel_rfl
  have nG : ∀ w : World, (nilAhead 441 89 (.pointer (some ⟨pp, 0, none⟩)) "Get").run Tryz.prog w = .ok (some false) w := fun w => by kernel_rfl
  have mG : ∀ w : World, (method 441 89 (.pointer (some ⟨pp, 0, none⟩)) "Get").run Tryz.prog w = .ok (280, .pointer (some ⟨pp, 0, none⟩)) w := fun w => by kernel_rfl
  have nS : ∀ w : World, (nilAhead 441 89 (.pointer (some ⟨pp, 0, none⟩)) "Set").run Tryz.prog w = .ok (some false) w := fun w => by kernel_rfl
  have mS : ∀ w : World, (method 441 89 (.pointer (some ⟨pp, 0, none⟩)) "Set").run Tryz.prog w = .ok (281, .pointer (some ⟨pp, 0, none⟩)) w := fun w => by kernel_rfl
  have h0 : Hid (LookSt w own hp M x G hs bs P n rs gs cur q pp at_ 0 w own M vg gs [] [] c) := by
    refine Lib.hid ⟨H, ?_, hc, ?_, HStep.refl w own, MSame.refl M, rfl, rfl⟩
    · rw [List.append_nil, List.append_nil]; exact m
    · rw [List.append_nil, List.append_nil]; exact hsp
  have HOk := Lib.hid hok; have HR := Lib.hid hreach; have HLv := Lib.hid hlive; have HL := Lib.hid hL
  obtain ⟨rl, hrl⟩ : ∃ rl, (G.node cur).refs.length = rl := ⟨_, rfl⟩
  obtain ⟨xl, hxl⟩ : ∃ xl, (G.node cur).raws.length = xl := ⟨_, rfl⟩
  rw [hrl, hxl] at hob
  rw [hrl] at hr2
  rw [hxl] at hx2
  have hsz : G.sz cur = 1 + rl + xl := by unfold Gr.sz Node.size; omega
  have HSz := Lib.hid hsz; have HRl := Lib.hid hrl; have HXl := Lib.hid hxl
  clear hok hreach hlive hL H m hsp hA hat ho hc hrl hxl hsz
  go_enter Tryz.func76, Tryz.ntmps76
  go_wp2_with fail
  refine hob.out.mono ?_
  rintro e w' ⟨rfl, rfl⟩
  go_wp2_with fail
  go_loopw [11] (fun v11 wr => ∃ (t : Nat) (own' : Own) (M' : HM) (vg' : Value) (gs' r rr : List Nat) (c' : Nat → Nat), t ≤ rl ∧ v11 = .int .i64 (t : Int) ∧ Hid (LookSt w own hp M x G hs bs P n rs gs cur q pp at_ t wr own' M' vg' gs' r rr c')) (fun v11 _ => rl - (intOf v11).toNat)
  case atStart => exact ⟨0, own, M, vg, gs, [], [], c, by omega, rfl, h0⟩
  case round =>
    obtain ⟨t, own', M', vg', gs', r, rr, c', ht, rfl, HS⟩ := hrel
    by_cases hlt : t < rl
    · have hlt2 : t < (G.node cur).refs.length := by rw [HRl.out]; exact hlt
      have hget := HS.out.get HOk.out hlt2
      have HSd := Lib.hid HS.out.drew
      have hmov := moved_walk wr.drew own' hp M' x vg' gs' HSd.out.mem G hs bs (P ++ r) n (rs ++ rr) c' cur q HS.out.mid HS.out.spot.new (G.node cur).refs[t] (HL.out.closed cur HLv.out _ (List.getElem_mem hlt2)) (fun h0 => .step cur _ HR.out (List.getElem_mem hlt2) h0) hbl _ rfl
      obtain ⟨J, hJ⟩ : ∃ J, (G.node cur).refs[t] = J := ⟨_, rfl⟩
      obtain ⟨pJ, hpJ⟩ : ∃ pJ, plOf G hs bs J = pJ := ⟨_, rfl⟩
      rw [hJ] at hget hmov
      rw [hpJ] at hget hmov
      have HGet := Lib.hid hget; have HMov := Lib.hid hmov; have HJ := Lib.hid hJ; have HLt := Lib.hid hlt2
      clear hget hmov hJ hpJ
      go_wp2_with fail
      refine HGet.out.mono ?_
      rintro e w' ⟨rfl, rfl⟩
      go_wp2_with fail
      go_region_held3 (fun _ => True) (trivial) (first | (go_at_call 75; refine HMov.out.mono ?_; rintro e w2 ⟨own2, M2, vg2, gs2, r2, rr2, he, h1, h2, h3, h4, h5, h6, h8⟩; have HS2 := Lib.hid (HSd.out.sub h1 h2 h4 h5 h6 h8); have hN2 : New (P ++ (r ++ r2)) (rs ++ (rr ++ rr2)) J := (by rw [← List.append_assoc, ← List.append_assoc]; exact h3); have HNx := Lib.hid (HS2.out.next HOk.out HLt.out hbl (by rw [HJ.out]; exact hN2)); rw [HJ.out, ← List.append_assoc] at HNx; obtain ⟨vN, hvN⟩ : ∃ v, plOf G (P ++ r ++ r2) bs J = v := ⟨_, rfl⟩; rw [hvN] at he HNx; subst he; clear h1 h2 h3 h4 h5 h6 h8 hN2 hvN) | (go_at_call 281; refine HNx.out.mono ?_; rintro e w3 ⟨rfl, M3, h7⟩; have HS3 := Lib.hid h7; clear h7))
      all_goals (try (go_wp2_with fail))
      all_goals exact ⟨⟨t + 1, own2, M3, vg2, gs2, r ++ r2, rr ++ rr2, _, by omega, by go_num, HS3⟩, by simp [intOf]; omega⟩
    · obtain rfl : t = rl := by omega
      go_wp2_with fail
      go_ret
      refine ⟨own', M', vg', gs', r, rr, c', ?_, by rw [HRl.out]; exact HS.out⟩
      rw [HSz.out]
      exact congrArg (fun n : Int => Ending.returned (.int .i64 n)) (by omega)
end Go.Proofs.YtglglknhifjbaaaGreatDoor.Sp
namespace Go.Proofs.YtglglknhifjbaaaGreatDoor.Sp
open Go.RowKit Go.Proofs.YtglglknhifjbaaaGreatDoorW.PrintWords Go.Proofs.YtglglknhifjbaaaGreatDoorW.PrintLast Go.Proofs.YtglglknhifjbaaaGreatDoorW.PrintMore
set_option linter.unusedVariables false
set_option linter.unusedSimpArgs false
theorem rootV_set1 : ∀ (l : List (Bool × Nat)) (i v : Nat) (h : i < l.length), rootV (l.set i (l[i].1, v)) = (rootV l).set (i * 2 + 1) (.int .u64 (v : Int))
  | [], i, v, h => by simp at h
  | r :: l, 0, v, h => rfl
  | r :: l, i + 1, v, h => by
    have hl : i < l.length := by simpa using h
    have := rootV_set1 l i v hl
    have e : ∀ (r : Bool × Nat) (l : List (Bool × Nat)), rootV (r :: l) = .bool r.1 :: wv r.2 :: rootV l := fun _ _ => rfl
    show rootV (r :: l.set i (l[i].1, v)) = _
    rw [e, e, this, show (i + 1) * 2 + 1 = (i * 2 + 1) + 2 by omega, List.set_cons_succ, List.set_cons_succ]
section
variable {w w' : World} {own own' : Own} {hp : Nat} {M : HM} {x : HX} {vg : Value} {gs : List Nat}
theorem HMid.root (H : HMid w own hp M x vg gs) (i : Nat) (hi : i < M.roots.length) : ∃ g cap, x.vt = .slice (some ⟨g, 0, none⟩) M.roots.length cap ∧ M.roots.length ≤ cap ∧ own g = 5 ∧ w.cell? ⟨g, i * 2, none⟩ = some (.bool M.roots[i].1) ∧ w.cell? ⟨g, i * 2 + 1, none⟩ = some (.int .u64 (M.roots[i].2 : Int)) ∧ ∀ j, w.frozen? ⟨g, j, none⟩ = false := by
  obtain ⟨g, cap, hv, hc, hlt, hcell, hf⟩ := own_cells H.rt.1 (by omega)
  obtain ⟨e1, e2⟩ := rootV_get M.roots i hi
  have hl := rootV_len M.roots
  have h1 := hcell (i * 2) (by omega)
  have h2 := hcell (i * 2 + 1) (by omega)
  rw [List.getElem?_eq_getElem (by omega)] at e1 e2
  rw [Option.some.inj e1] at h1
  rw [Option.some.inj e2] at h2
  exact ⟨g, cap, hv, hc, H.rt.2 g (by rw [hv]; rfl), h1, h2, hf⟩
theorem HMid.setRef (H : HMid w own hp M x vg gs) {i v g cap : Nat} (hi : i < M.roots.length) (hv : x.vt = .slice (some ⟨g, 0, none⟩) M.roots.length cap) :
    HMid (w.setCell ⟨g, i * 2 + 1, none⟩ (.int .u64 (v : Int))) own hp { M with roots := M.roots.set i (M.roots[i].1, v) } x vg gs ∧ HStep w own (w.setCell ⟨g, i * 2 + 1, none⟩ (.int .u64 (v : Int))) own := by
  have og : own g = 5 := H.rt.2 g (by rw [hv]; rfl)
  have hfr : Fr (fun b => own b = 5) w (w.setCell ⟨g, i * 2 + 1, none⟩ (.int .u64 (v : Int))) := (Fr.refl (fun b => own b = 5) w).setCell (p := ⟨g, i * 2 + 1, none⟩) (.inl og) _
  obtain ⟨a, b', c, d, e, f2, f3, f5, f4⟩ := H.core (T := fun t => t = 5) (by rintro t rfl; decide) hfr (Ow.refl _ _)
  refine ⟨⟨⟨a, b', c, d, f2 (by decide), e, H.none_, f3 (by decide), ?_, (f4 (by decide)).1, (f4 (by decide)).2, H.nums, fun b hb => H.top b (by simpa [World.setCell] using hb)⟩, ?_⟩, ⟨hfr.mono (fun b _ hb => by omega), Ow.refl _ _⟩⟩
  · show RowV _ own 5 _ 2 x.vt (M.roots.set i (M.roots[i].1, v)).length (rootV (M.roots.set i (M.roots[i].1, v)))
    have hr := H.rt
    rw [hv] at hr ⊢
    rw [List.length_set, rootV_set1 _ _ _ hi]
    exact ⟨own_set hr.1 _ _, hr.2⟩
  · rw [setCell_at, if_neg (by rintro rfl; have := H.ohd; omega)]
    exact H.hd
theorem HMid.hdr (H : HMid w own hp M x vg gs) (j : Nat) (u : Value) (M' : HM) (x' : HX) (vg' : Value) (gs' : List Nat) (hr : HRest (w.setCell ⟨hp, j, none⟩ u) own hp M' x' vg' gs') (he : hdV M' x' vg' = (hdV M x vg).setIfInBounds j u) : HMid (w.setCell ⟨hp, j, none⟩ u) own hp M' x' vg' gs' :=
  ⟨hr, by rw [hd_set H.hd, he]⟩
theorem HMid.hstep (H : HMid w own hp M x vg gs) (j : Nat) (u : Value) : HStep w own (w.setCell ⟨hp, j, none⟩ u) own :=
  ⟨(Fr.refl (fun b => own b ≠ 0) w).setCell (p := ⟨hp, j, none⟩) (.inl (by show own hp ≠ 0; rw [H.ohd]; decide)) u, Ow.refl _ _⟩
theorem HMid.line (H : HMid w own hp M x vg gs) (vg' : Value) (gs' : List Nat) (hq : QRow w 0 3 1 vg' gs'.length (gs'.map iv)) (ho : ∀ k, vg'.ownBlock = some k → vg.ownBlock = some k) : HMid (w.setCell ⟨hp, 5, none⟩ vg') own hp M x vg' gs' ∧ HStep w own (w.setCell ⟨hp, 5, none⟩ vg') own := by
  have h1 := H.toHRest.setHd 5 vg'
  refine ⟨H.hdr 5 vg' M x vg' gs' ⟨h1.hlt, h1.ohd, h1.half, h1.spare, h1.rb, h1.blk, h1.none_, h1.rr, h1.rt, q_move hq (fun k hk => ?_), fun k hk => H.og k (ho k hk), h1.nums, h1.top⟩ rfl, H.hstep 5 vg'⟩
  rw [setCell_at, if_neg (by rintro rfl; have := H.og _ (ho _ hk); have := H.ohd; omega)]
theorem fm_set {α β : Type} (f : Option α → Option β) (hf : f none = none) : ∀ (l : List (Option α)) (s : Nat), ((l.set s none).filterMap f).Sublist (l.filterMap f)
  | [], s => by simp
  | o :: l, 0 => by
    show (List.filterMap f (none :: l)).Sublist _
    rw [List.filterMap_cons_none hf]
    cases h : f o with
    | none => rw [List.filterMap_cons_none h]; exact List.Sublist.refl _
    | some b => rw [List.filterMap_cons_some h]; exact List.sublist_cons_self _ _
  | o :: l, s + 1 => by
    show (List.filterMap f (o :: l.set s none)).Sublist _
    have ih := fm_set f hf l s
    cases h : f o with
    | none => rw [List.filterMap_cons_none h, List.filterMap_cons_none h]; exact ih
    | some b => rw [List.filterMap_cons_some h, List.filterMap_cons_some h]; exact ih.cons_cons b
theorem HMid.slotAt (H : HMid w own hp M x vg gs) {s : Nat} (hs : s < x.bl.length) : ∃ g cap, x.vb = .slice (some ⟨g, 0, none⟩) x.bl.length cap ∧ x.bl.length ≤ cap ∧ own g = 2 ∧ w.cell? ⟨g, s, none⟩ = some (ptrV x.bl[s]) ∧ w.frozen? ⟨g, s, none⟩ = false := by
  obtain ⟨g, cap, hv, hc, hlt, hcell, hf⟩ := own_cells H.rb.1 (by omega)
  have := hcell s (by rw [List.length_map]; exact hs)
  rw [List.getElem_map] at this
  exact ⟨g, cap, hv, hc, H.rb.2 g (by rw [hv]; rfl), this, hf s⟩
theorem HMid.dropBlk (H : HMid w own hp M x vg gs) {s g cap : Nat} (hs : s < x.bl.length) (hv : x.vb = .slice (some ⟨g, 0, none⟩) x.bl.length cap) :
    HMid (w.setCell ⟨g, s, none⟩ (.pointer none)) own hp { M with blocks := M.blocks.set s none } { x with bl := x.bl.set s none } vg gs ∧ HStep w own (w.setCell ⟨g, s, none⟩ (.pointer none)) own := by
  have og : own g = 2 := H.rb.2 g (by rw [hv]; rfl)
  have hlen := H.blk.1
  have hfr : Fr (fun b => own b = 2) w (w.setCell ⟨g, s, none⟩ (.pointer none)) := (Fr.refl (fun b => own b = 2) w).setCell (p := ⟨g, s, none⟩) (.inl og) _
  obtain ⟨a, b', c, d, e, f2, f3, f5, f4⟩ := H.core (T := fun t => t = 2) (by rintro t rfl; decide) hfr (Ow.refl _ _)
  refine ⟨⟨⟨a, b', c, d, ?_, ⟨?_, fun t p q hq => ?_⟩, fun t => ?_, f3 (by decide), f5 (by decide), (f4 (by decide)).1, (f4 (by decide)).2, ?_, fun b hb => H.top b (by simpa [World.setCell] using hb)⟩, ?_⟩, ⟨hfr.mono (fun b _ hb => by omega), Ow.refl _ _⟩⟩
  · show RowV _ own 2 _ 1 x.vb (x.bl.set s none).length ((x.bl.set s none).map ptrV)
    have hr := H.rb
    rw [hv] at hr ⊢
    rw [List.length_set, List.map_set]
    exact ⟨own_set hr.1 _ _, hr.2⟩
  · show (x.bl.set s none).length = (M.blocks.set s none).length
    rw [List.length_set, List.length_set]; exact hlen
  · have hq : (x.bl.set s none)[t]? = some (some (p, q)) := hq
    rw [List.getElem?_set] at hq
    by_cases e2 : s = t
    · rw [if_pos e2] at hq
      split at hq
      · injection hq with hq; cases hq
      · cases hq
    · rw [if_neg e2] at hq
      obtain ⟨A, k1, k2⟩ := e.2 t p q hq
      exact ⟨A, by show (M.blocks.set s none)[t]? = _; rw [List.getElem?_set, if_neg e2]; exact k1, k2⟩
  · show (M.blocks.set s none)[t]? = some none ↔ (x.bl.set s none)[t]? = some none
    rw [List.getElem?_set, List.getElem?_set]
    by_cases e2 : s = t
    · rw [if_pos e2, if_pos e2, if_pos hs, if_pos (by omega)]; exact ⟨fun _ => rfl, fun _ => rfl⟩
    · rw [if_neg e2, if_neg e2]; exact H.none_ t
  · have n1 := List.nodup_cons.1 H.nums
    have n2 := List.nodup_cons.1 n1.2
    have sub := fm_set (fun o : Option (Nat × Nat) => o.map (fun q => q.2)) rfl x.bl s
    refine List.nodup_cons.2 ⟨fun h => ?_, List.nodup_cons.2 ⟨fun h => ?_, n2.2.sublist sub⟩⟩
    · rcases List.mem_cons.1 h with h | h
      · exact n1.1 (by rw [h]; exact List.mem_cons_self)
      · exact n1.1 (List.mem_cons_of_mem _ (sub.subset h))
    · exact n2.1 (sub.subset h)
  · rw [setCell_at, if_neg (by rintro rfl; have := H.ohd; omega)]
    exact H.hd
theorem HRest.swap (h : HRest w own hp M x vg gs) : HRest w own hp { M with half := M.spare, spare := M.half } { x with ph := x.ps, ah := x.as_, ps := x.ph, as_ := x.ah } vg gs where
  hlt := h.hlt
  ohd := h.ohd
  half := h.spare
  spare := h.half
  rb := h.rb
  blk := h.blk
  none_ := h.none_
  rr := h.rr
  rt := h.rt
  rg := h.rg
  og := h.og
  nums := by
    have := h.nums
    exact (List.Perm.nodup_iff (List.Perm.swap _ _ _)).1 this
  top := h.top
end
section
variable {w : World} {own : Own} {hp : Nat} {M : HM} {x : HX} {vg : Value} {gs : List Nat}
theorem HMid.drew (H : HMid w own hp M x vg gs) : HMid w.drew own hp M x vg gs := by
  obtain ⟨a, b, c, d, e, f2, f3, f5, f4⟩ := H.core (T := fun _ => False) (fun _ h => h.elim) (Fr.refl (fun _ => False) w).drew (Ow.refl _ _)
  exact ⟨⟨a, b, c, d, f2 id, e, H.none_, f3 id, f5 id, (f4 id).1, (f4 id).2, H.nums, H.top⟩, H.hd⟩
theorem HMid.num (H : HMid w own hp M x vg gs) (j : Nat) (u : Value) (M' : HM) (hr : M'.half = M.half) (hs : M'.spare = M.spare) (hb : M'.blocks = M.blocks) (hc : M'.reached = M.reached) (ht : M'.roots = M.roots) (he : hdV M' x vg = (hdV M x vg).setIfInBounds j u) :
    HMid (w.setCell ⟨hp, j, none⟩ u) own hp M' x vg gs := by
  have h := H.toHRest.setHd j u
  refine H.hdr j u M' x vg gs ⟨h.hlt, h.ohd, by rw [hr]; exact h.half, by rw [hs]; exact h.spare, h.rb, by rw [hb]; exact h.blk, by rw [hb]; exact h.none_, by rw [hc]; exact h.rr, by rw [ht]; exact h.rt, h.rg, h.og, h.nums, h.top⟩ he
theorem HMid.swapped (H : HMid w own hp M x vg gs) : HMid ((w.setCell ⟨hp, 1, none⟩ (.pointer (some ⟨x.ps, 0, none⟩))).setCell ⟨hp, 2, none⟩ (.pointer (some ⟨x.ph, 0, none⟩))).drew own hp { M with half := M.spare, spare := M.half } { x with ph := x.ps, ah := x.as_, ps := x.ph, as_ := x.ah } vg gs := by
  have h := ((H.toHRest.setHd 1 (.pointer (some ⟨x.ps, 0, none⟩))).setHd 2 (.pointer (some ⟨x.ph, 0, none⟩))).swap
  refine HMid.drew ⟨h, ?_⟩
  rw [setCell_at, if_pos rfl, setCell_at, if_pos rfl, H.hd]
  rfl
theorem HStep.hd (h : own hp = 1) (j : Nat) (u : Value) : HStep w own (w.setCell ⟨hp, j, none⟩ u) own :=
  ⟨(Fr.refl (fun b => own b ≠ 0) w).setCell (p := ⟨hp, j, none⟩) (.inl (by show own hp ≠ 0; rw [h]; decide)) u, Ow.refl _ _⟩
theorem HStep.drew (w : World) (own : Own) : HStep w own w.drew own := ⟨(Fr.refl _ w).drew, Ow.refl _ _⟩
theorem HMid.closing (H : HMid w own hp M x vg []) (nc : Int) : HMid ((((w.setCell ⟨hp, 7, none⟩ (.int .i64 0)).setCell ⟨hp, 8, none⟩ (.int .i64 (M.large : Int))).setCell ⟨hp, 5, none⟩ (.slice none 0 0)).setCell ⟨hp, 16, none⟩ (.int .i64 nc)) own hp { M with since := 0, kept := M.large, ncoll := nc } x (.slice none 0 0) [] ∧
    HStep w own ((((w.setCell ⟨hp, 7, none⟩ (.int .i64 0)).setCell ⟨hp, 8, none⟩ (.int .i64 (M.large : Int))).setCell ⟨hp, 5, none⟩ (.slice none 0 0)).setCell ⟨hp, 16, none⟩ (.int .i64 nc)) own := by
  have h1 := H.num 7 (.int .i64 0) { M with since := 0 } rfl rfl rfl rfl rfl rfl
  have h2 := h1.num 8 (.int .i64 (M.large : Int)) { M with since := 0, kept := M.large } rfl rfl rfl rfl rfl rfl
  have h3 := (h2.line (.slice none 0 0) [] ⟨rfl, .inl ⟨rfl, none, rfl, fun a ha => by cases ha⟩⟩ (fun k hk => by cases hk)).1
  have h4 := h3.num 16 (.int .i64 nc) { M with since := 0, kept := M.large, ncoll := nc } rfl rfl rfl rfl rfl rfl
  exact ⟨h4, (((HStep.hd H.ohd 7 _).trans (HStep.hd H.ohd 8 _)).trans (HStep.hd H.ohd 5 _)).trans (HStep.hd H.ohd 16 _)⟩
theorem ownsRow_setRow {e : TypeId} {n : Nat} {v : Value} {xs ys : List Value} {g cap : Nat} {cur : Array Value} (hv : v = .slice (some ⟨g, 0, none⟩) n cap) (h : w.ownsRow 0 e 1 v n xs) (hh : w.heap[g]? = some (.cells cur e (0, 0))) (hl : ys.length = n) : (w.setRow g (cur.toList.take 0 ++ ys ++ cur.toList.drop (0 + ys.length)).toArray).ownsRow 0 e 1 v n ys := by
  subst hv
  rcases h.2 with ⟨h1, _⟩ | ⟨g', cap', cur', hv, hb, hh', h1, h2, h3, h4⟩
  · cases h1
  · injection hv with ha hb' hc
    injection ha with ha
    injection ha with ha
    subst ha hc
    rw [hh] at hh'
    injection hh' with hh'
    injection hh' with hh' _ _
    subst hh'
    have hcs : cur.size = cap := by simpa using h3
    refine ⟨by omega, .inr ⟨g, cap, _, rfl, hb, setRow_heap w g cur _ e _ hh, h1, h2, ?_, ?_⟩⟩
    · simp; omega
    · simp [hl]
theorem HMid.clear (H : HMid w own hp M x vg gs) (hn : 0 < M.reached.length) : ∃ g cap, x.vr = .slice (some ⟨g, 0, none⟩) M.reached.length cap ∧ ∃ w', (∀ (P : Program) (t ty : TypeId), P = Tryz.prog → t = 91 → (Builtin.clear_ #[t] ty #[.slice (some ⟨g, 0, none⟩) M.reached.length cap]).run P w = .ok (.tuple #[]) w') ∧
    HMid w' own hp { M with reached := List.replicate M.reached.length false } x vg gs ∧ HStep w own w' own := by
  obtain ⟨g, cap, hv, hc, hlt, hcell, hf⟩ := own_cells H.rr.1 hn
  obtain ⟨cells, hh⟩ := own_typed H.rr.1 g (by rw [hv]; rfl)
  have og : own g = 3 := H.rr.2 g (by rw [hv]; rfl)
  have hsz : M.reached.length ≤ cells.size := by
    rcases H.rr.1.2 with ⟨h1, _⟩ | ⟨g', cap', cur', hv', hb, hh', h1, h2, h3, h4⟩
    · omega
    · rw [hv] at hv'
      injection hv' with ha hb' hc'
      injection ha with ha
      injection ha with ha
      subst ha
      rw [hh] at hh'
      injection hh' with hh'
      injection hh' with hh' _ _
      subst hh'
      omega
  have hfr : Fr (fun b => own b = 3) w (w.setRow g (cells.toList.take 0 ++ List.replicate M.reached.length (Value.bool false) ++ cells.toList.drop (0 + (List.replicate M.reached.length (Value.bool false)).length)).toArray) :=
    ⟨rfl, rfl, rfl, by simp [World.setRow], fun k _ hk => setRow_other w g k _ (fun e => hk (by rw [e]; exact og))⟩
  obtain ⟨a, b', c, d, e, f2, f3, f5, f4⟩ := H.core (T := fun t => t = 3) (by rintro t rfl; decide) hfr (Ow.refl _ _)
  refine ⟨g, cap, hv, _, fun P t ty hP ht => ?_, ⟨⟨a, b', c, d, f2 (by decide), e, H.none_, ?_, f5 (by decide), (f4 (by decide)).1, (f4 (by decide)).2, H.nums, fun b hb => H.top b (by simpa [World.setRow] using hb)⟩, ?_⟩, ⟨hfr.mono (fun b _ hb => by show own b ≠ 0; rw [show own b = 3 from hb]; decide), Ow.refl _ _⟩⟩
  · subst hP ht
    have hz : (zeroValue 4).run Tryz.prog w = .ok (.bool false) w := by kernel_rfl
    have hst := run_storeCells_at (P := Tryz.prog) g 0 4 (List.replicate M.reached.length (Value.bool false)) 0 cells w hh (by simp; omega) (fun v hv => by rw [List.eq_of_mem_replicate hv]; rfl)
    have hzc : (Builtin.zeroCells (Value.bool false).cells M.reached.length).toList = List.replicate M.reached.length (Value.bool false) := by
      have : ∀ m, (Builtin.zeroCells #[Value.bool false] m).toList = List.replicate m (Value.bool false) := fun m => by
        simp [Builtin.zeroCells, Nat.mod_one, List.map_const']
      exact this _
    generalize M.reached.length = q at hn hst hzc
    obtain ⟨m, rfl⟩ : ∃ m, q = m + 1 := ⟨q - 1, by omega⟩
    simp [Builtin.clear_, run_underlying Tryz.underlying91, hz, hzc, hst, Sem.run_bind, Sem.run_pure, Result.andThen]
  · show RowV _ own 3 _ 1 x.vr (List.replicate M.reached.length false).length ((List.replicate M.reached.length false).map Value.bool)
    have e1 : (List.replicate M.reached.length false).length = M.reached.length := List.length_replicate
    have e2 : (List.replicate M.reached.length false).map Value.bool = List.replicate M.reached.length (Value.bool false) := List.map_replicate
    rw [e1, e2]
    exact ⟨ownsRow_setRow (ys := List.replicate M.reached.length (Value.bool false)) hv H.rr.1 hh List.length_replicate, H.rr.2⟩
  · rw [setRow_other w g hp _ (by rintro rfl; have := H.ohd; omega)]
    exact H.hd
end
structure ColSt (w : World) (own : Own) (hp : Nat) (M : HM) (x : HX) (G : Gr) (hs : List Nat) (bs : List (Option Nat)) (wr : World) (own' : Own) (M' : HM) (vg' : Value) (gs' P : List Nat) (n : Nat) (rs : List Nat) (c : Nat → Nat) (q : Nat) : Prop where
  mem : HMid wr own' hp M' x vg' gs'
  mid : Mid G hs bs P n rs gs' c 0 q M'
  step : HStep w own wr own'
  same : MSame M M'
section
variable {w : World} {own : Own} {hp : Nat} {M : HM} {x : HX} {G : Gr} {hs : List Nat} {bs : List (Option Nat)} {wr : World} {own' : Own} {M' : HM} {vg' : Value} {gs' P : List Nat} {n : Nat} {rs : List Nat} {c : Nat → Nat} {q : Nat}
theorem ColSt.drew (h : ColSt w own hp M x G hs bs wr own' M' vg' gs' P n rs c q) : ColSt w own hp M x G hs bs wr.drew own' M' vg' gs' P n rs c q :=
  ⟨h.mem.drewN 1, h.mid, h.step.trans (HStep.drewN 1), h.same⟩
theorem ColSt.hand (h : ColSt w own hp M x G hs bs wr own' M' vg' gs' P n rs c q) (hq : q < M'.roots.length) (hu : M'.roots[q].1 = true) (hbl : bs.length ≤ 1048576) :
    ∃ i, (q, i) ∈ G.hands ∧ Calls Tryz.prog 75 #[.pointer (some ⟨hp, 0, none⟩), .int .u64 (M'.roots[q].2 : Int)] wr (MovedPost wr own' hp M' x G hs bs P n rs gs' c 0 q i) := by
  have e : M'.roots[q]? = some (true, M'.roots[q].2) := by rw [List.getElem?_eq_getElem hq]; congr 1; exact Prod.ext hu rfl
  obtain ⟨i, hi⟩ := h.mid.roots.used q _ e
  have e2 := h.mid.roots.at_ q i hi
  rw [if_neg (Nat.lt_irrefl _), e] at e2
  have e3 : M'.roots[q].2 = plOf G hs bs i := by injection e2 with e2; injection e2
  refine ⟨i, hi, moved_walk wr own' hp M' x vg' gs' h.mem G hs bs P n rs c 0 q h.mid (.inl rfl) i (h.mid.hlive _ hi) (fun h0 => .hand q i hi h0) hbl _ e3⟩
theorem ColSt.handed (h : ColSt w own hp M x G hs bs wr own' M' vg' gs' P n rs c q) {i : Nat} (hq : q < M'.roots.length) (hu : M'.roots[q].1 = true) (hi : (q, i) ∈ G.hands) {w2 : World} {own2 : Own} {M2 : HM} {vg2 : Value} {gs2 r rr : List Nat}
    (h1 : HMid w2 own2 hp M2 x vg2 gs2) (h2 : Mid G hs bs (P ++ r) n (rs ++ rr) gs2 c 0 q M2) (h3 : New (P ++ r) (rs ++ rr) i) (h4 : HStep wr own' w2 own2) (h5 : MSame M' M2) (h6 : M2.roots = M'.roots) (g cap : Nat) (hv : x.vt = .slice (some ⟨g, 0, none⟩) M'.roots.length cap) :
    (∃ y, w2.cell? ⟨g, q * 2 + 1, none⟩ = some (.int .u64 y)) ∧ w2.frozen? ⟨g, q * 2 + 1, none⟩ = false ∧
    ∃ M3, ColSt w own hp M x G hs bs (w2.setCell ⟨g, q * 2 + 1, none⟩ (.int .u64 (plOf G (P ++ r) bs i : Int))) own2 M3 vg2 gs2 (P ++ r) n (rs ++ rr) c (q + 1) := by
  have hq2 : q < M2.roots.length := by rw [h6]; exact hq
  have hv2 : x.vt = .slice (some ⟨g, 0, none⟩) M2.roots.length cap := by rw [h6]; exact hv
  obtain ⟨g', cap', k1, _, _, _, k5, k6⟩ := h1.root q hq2
  have hg : g = g' := slice_inj (hv2.symm.trans k1)
  subst hg
  obtain ⟨m1, m2⟩ := h1.setRef (v := plOf G (P ++ r) bs i) hq2 hv2
  have hmid := h2.hand i hi h3
  have hu2 : M2.roots[q].1 = true := by simp only [h6]; exact hu
  rw [hu2] at m1
  refine ⟨⟨_, k5⟩, k6 _, _, m1, hmid, h.step.trans (h4.trans m2), h.same.trans (h5.trans ⟨rfl, rfl, rfl, rfl, rfl, rfl, rfl, rfl, rfl, rfl, by simp, rfl⟩)⟩
theorem ColSt.passed (h : ColSt w own hp M x G hs bs wr own' M' vg' gs' P n rs c q) (hq : q < M'.roots.length) (hu : M'.roots[q].1 = false) : ColSt w own hp M x G hs bs wr own' M' vg' gs' P n rs c (q + 1) :=
  ⟨h.mem, h.mid.pass (fun i hi => by
    have e := h.mid.roots.at_ q i hi
    rw [List.getElem?_eq_getElem hq] at e
    injection e with e
    rw [e] at hu
    cases hu), h.step, h.same⟩
end
end Go.Proofs.YtglglknhifjbaaaGreatDoor.Sp
