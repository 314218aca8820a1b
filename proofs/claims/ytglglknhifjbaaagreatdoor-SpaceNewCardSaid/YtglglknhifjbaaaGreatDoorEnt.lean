import Derived.Test.YtglglknhifjbaaaGreatDoorEn0
namespace Go.Proofs.YtglglknhifjbaaaGreatDoor.Sp
open Go.RowKit Go.Proofs.YtglglknhifjbaaaGreatDoorW.PrintWords Go.Proofs.YtglglknhifjbaaaGreatDoorW.PrintLast Go.Proofs.YtglglknhifjbaaaGreatDoorW.PrintMore
set_option linter.unusedVariables false
set_option linter.unusedSimpArgs false
attribute [local go_sem] max2_int min2_int max_two min_two
def VK (pre : List NK) (X : Nat → Prop) (x : NK) (W : World) : Prop := (KeyAt W x ∧ IsB x.k ∧ X x.g) ∧ pre.length ≤ 2147483648 ∧ ∀ b, X b → b < W.heap.size
def YieldsK (n l : Nat) (n₀ : Nat) (J Jx : List NK → (Nat → Prop) → World → Prop) : Prop :=
  ∀ pre X x W1, J pre X W1 → VK pre X x W1 → YieldAt Fence.wide (n - 1) Tryz.prog l #[.agg (nkV x).toArray] W1 fun e W' =>
      (e = .returned (.bool true) ∧ J (pre ++ [x]) X W' ∧ Rnd n₀ X W1 W') ∨ (e = .returned (.bool false) ∧ Jx (pre ++ [x]) X W' ∧ Rnd n₀ X W1 W')
def arsV (G : Gr) (hs : List Nat) (bs : List (Option Nat)) (T : Tab) : List Value := T.ars.map (fun a => .int .u64 (plOf G hs bs a.1 : Int))
theorem bel_drewN {B : Nat} {a w : World} (h : Below B a w) (n : Nat) : Below B a (w.drewN n) := ⟨h.os, h.tape, h.output, h.size, h.block⟩
theorem wrap_nat (m : Nat) (h : m ≤ 1048576) : wrap64 (m : Int) = (m : Int) := Go.IntWalk.wrap64_in _ ⟨by omega, by omega⟩
theorem wrap_mul (p q : Nat) (h : p * q ≤ 1048576) : wrap64 ((p : Int) * (q : Int)) = ((p * q : Nat) : Int) := by
  have e : (p : Int) * (q : Int) = ((p * q : Nat) : Int) := by simp
  rw [e]
  exact wrap_nat _ h
theorem wrap_mul1 (p q m : Nat) (hm : p * q + q = m) (h : m ≤ 1048576) : wrap64 (((p : Int) + 1) * (q : Int)) = (m : Int) := by
  have e : ((p : Int) + 1) * (q : Int) = (m : Int) := by rw [← hm, Int.add_mul, Int.one_mul]; simp
  rw [e]
  exact wrap_nat _ h
theorem NRow.some_ {w : World} {A : Option Addr} {n cap N : Nat} {L : List NK} (h : NRow w (.slice A n cap) N L) (hn : 0 < L.length) : ∃ g, A = some ⟨g, 0, none⟩ := by
  rcases h.row.2 with ⟨h0, h1⟩ | ⟨g, cap', cur, hv, -⟩
  · omega
  · injection hv with e1; exact ⟨g, e1⟩
theorem NRow.cells {w : World} {g n cap N : Nat} {L : List NK} (h : NRow w (.slice (some ⟨g, 0, none⟩) n cap) N L) (j : Nat) (hj : j < L.length) :
    w.cell? ⟨g, j * 2, none⟩ = some (.int .u64 (L[j].h : Int)) ∧ w.cell? ⟨g, j * 2 + 1, none⟩ = some (.slice (some ⟨L[j].g, 0, none⟩) L[j].k.length L[j].k.length) := by
  rcases h.row.2 with ⟨h0, h1⟩ | ⟨g', cap', cur, hv, -, hb, -, -, -, htk⟩
  · cases h0
  injection hv with e1
  injection e1 with e1
  injection e1 with e1
  subst e1
  have key : ∀ t, t < L.length * 2 → w.cell? ⟨g, t, none⟩ = some ((nkV L[t / 2]!)[t % 2]!) := fun t ht => by
    have h1 : (cur.toList.take (L.length * 2))[t]? = some ((nkV L[t / 2]!)[t % 2]!) := by
      have hl : t < (L.flatMap nkV).length := by rw [flat2_len nkV nkV_len]; exact ht
      rw [htk, List.getElem?_eq_getElem hl, ← flat2_get nkV nkV_len L t ht, getElem!_pos _ t hl]
    rw [List.getElem?_take_of_lt ht, Array.getElem?_toList] at h1
    simp only [World.cell?, hb]
    exact h1
  have k0 := key (j * 2) (by omega)
  have k1 := key (j * 2 + 1) (by omega)
  rw [show j * 2 / 2 = j by omega, show j * 2 % 2 = 0 by omega, getElem!_pos L j hj] at k0
  rw [show (j * 2 + 1) / 2 = j by omega, show (j * 2 + 1) % 2 = 1 by omega, getElem!_pos L j hj] at k1
  exact ⟨k0, k1⟩
theorem meas_lt (j n : Nat) (h : j < n) : n - (intOf (Value.int .i64 ((j : Int) + 1))).toNat < n - (intOf (Value.int .i64 (j : Int))).toNat := by simp [intOf]; omega
theorem filt_no (f : Nat) (x : NK) (h : ¬ f ≤ x.h) : [x].filter (fun x => decide (f ≤ x.h)) = [] := by simp [h]
theorem filt_yes (f : Nat) (x : NK) (h : f ≤ x.h) : [x].filter (fun x => decide (f ≤ x.h)) = [x] := by simp [h]
section
variable {w0 w : World} {hp : Nat} {G : Gr} {hs : List Nat} {bs : List (Option Nat)} {tp n₀ n l b1 b2 f : Nat} {T : Tab}
set_option maxHeartbeats 2000000 in
set_option maxRecDepth 100000 in
theorem entries1 (hn1 : 1 ≤ n) (J Jx : List NK → (Nat → Prop) → World → Prop) (hJ : AbM J) (hY : YieldsK n l n₀ J Jx) (HC : EnC w0 hp tp G hs bs T n₀) (hok : T.Ok) (hz : plOf G hs bs 0 = 0) (hz1 : T.oid ≠ 0 → plOf G hs bs T.oid ≠ 0)
    (HS : SortLaw 223 197 2) (HS0 : SortNone 223)
    (hf : f < 18446744073709551616) (hents : T.ents.length ≤ 1073741824) (hfr : Fr (fun b => n₀ ≤ b) w0 w) (hb1 : n₀ ≤ b1) (hb2 : n₀ ≤ b2)
    (c1 : w.heap[b1]? = some (.cells #[.pointer (some ⟨tp, 0, none⟩)] 83 (0, 0))) (c2 : w.heap[b2]? = some (.cells #[.int .u64 (f : Int)] 22 (0, 0))) (hj : J [] (fun b => b = b1 ∨ b = b2) w) :
    Calls Tryz.prog 193 #[.func (.yield l) #[] #[], .pointer (some ⟨b1, 0, none⟩), .pointer (some ⟨b2, 0, none⟩)] w fun e W' => (∃ v, e = .returned v) ∧ ((∃ xs X, SEnt T f xs X W' ∧ J xs X W') ∨ (∃ pre X, Jx pre X W')) := by
  have HCp := Lib.hid HC
  have k1 : ∀ W, Dw w W → W.cell? ⟨b1, 0, none⟩ = some (.pointer (some ⟨tp, 0, none⟩)) := fun W k => by obtain ⟨m, rfl⟩ := k; simp [World.cell?, c1]
  have k0 := k1 w (Dw.refl _)
  obtain ⟨hd, kt⟩ := HC.k1 w hfr
  have hde : ((hd : Int) + 1 == 0) = false := by rw [beq_eq_false_iff_ne]; omega
  have O0 := Lib.hid (HC.c0 w hfr)
  have kk := hok.kp_le
  have O1 : Hid (∀ W, Fr (fun b => n₀ ≤ b) w0 W → Calls Tryz.prog 146 #[.pointer (some ⟨tp, 0, none⟩), .int .i64 1] W fun e w' => e = .returned (.int .u64 (plOf G hs bs T.oid : Int)) ∧ ∃ m, w' = W.drewN m) := Lib.hid HC.c1
  have OS : Hid (∀ W, Fr (fun b => n₀ ≤ b) w0 W → Calls Tryz.prog 171 #[.pointer (some ⟨tp, 0, none⟩), .int .u64 (plOf G hs bs T.nid : Int)] W fun e w' => e = .returned (.int .i64 ((2 ^ T.nk : Nat) : Int)) ∧ W = w') := Lib.hid fun W h => HC.cs W h (T.nid, T.nb, T.nk) (by unfold Tab.ars; exact List.mem_cons_self)
  have OS2 : Hid (T.oid ≠ 0 → ∀ W, Fr (fun b => n₀ ≤ b) w0 W → Calls Tryz.prog 171 #[.pointer (some ⟨tp, 0, none⟩), .int .u64 (plOf G hs bs T.oid : Int)] W fun e w' => e = .returned (.int .i64 ((2 ^ T.ok : Nat) : Int)) ∧ W = w') := Lib.hid fun ho W h => HC.cs W h (T.oid, T.ob, T.ok) (by unfold Tab.ars; rw [if_neg ho]; simp)
  have HB1 := Lib.hid hb1; have HB2 := Lib.hid hb2; have HFr := Lib.hid hfr; have Hc1 := Lib.hid c1; have Hc2 := Lib.hid c2; have Hj := Lib.hid hj; have HEn := Lib.hid hents; have HZ := Lib.hid hz; have HZ1 := Lib.hid hz1; have HOk := Lib.hid hok; have HJ := Lib.hid hJ; have HY := Lib.hid hY; have HSL := Lib.hid HS; have HSN := Lib.hid HS0; have HK := Lib.hid kk; have HK1 := Lib.hid k1
  clear HC hok hz hz1 hents hfr c1 c2 hj hb1 hb2 hJ hY HS HS0 kk k1
  obtain ⟨pn, hpn⟩ : ∃ pn, plOf G hs bs T.nid = pn := ⟨_, rfl⟩
  obtain ⟨po, hpo⟩ : ∃ po, plOf G hs bs T.oid = po := ⟨_, rfl⟩
  rw [hpn] at O0 OS
  rw [hpo] at O1 OS2
  have HPn := Lib.hid hpn
  have HPo := Lib.hid hpo
  clear hpn hpo
  go_enter Tryz.func193, Tryz.ntmps193
  go_wp2_with fail
  refine O0.out.mono ?_
  rintro e w' ⟨rfl, m, rfl⟩
  go_wp2_with fail
  obtain ⟨W1, hW1⟩ : ∃ W1, (w.drewN m).alloc (.cells #[.int .u64 (pn : Int)] 22) = W1 := ⟨_, rfl⟩
  have hB1 : Below w.heap.size w W1 := by rw [← hW1]; exact (below_drewN m).alloc (Nat.le_refl _) _
  have hs1 : W1.heap.size = w.heap.size + 1 := by rw [← hW1]; simp
  have ha1 : W1.heap[w.heap.size]? = some (.cells #[.int .u64 (pn : Int)] 22 (0, 0)) := by rw [← hW1]; exact World.alloc_heap_new (w.drewN m) _
  have kb1 : W1.cell? ⟨b1, 0, none⟩ = some (.pointer (some ⟨tp, 0, none⟩)) := by rw [hB1.cell (blk_lt Hc1.out)]; exact k0
  have ka1 : W1.cell? ⟨w.heap.size, 0, none⟩ = some (.int .u64 (pn : Int)) := by simp [World.cell?, ha1]
  have OSq : Hid (∀ m, Calls Tryz.prog 171 #[.pointer (some ⟨tp, 0, none⟩), .int .u64 (pn : Int)] (W1.drewN m) fun e w' => e = .returned (.int .i64 ((2 ^ T.nk : Nat) : Int)) ∧ W1.drewN m = w') := Lib.hid fun m => OS.out _ ((HFr.out.trans (Fr.below (P := fun _ => False) hB1) (fun _ _ h => h.elim)).drewN m)
  have O1q := Lib.hid fun m => O1.out (W1.drewN m) ((HFr.out.trans (Fr.below (P := fun _ => False) hB1) (fun _ _ h => h.elim)).drewN m)
  rw [hW1]
  obtain ⟨hn, hhn⟩ : ∃ hn, w.heap.size = hn := ⟨_, rfl⟩
  obtain ⟨x1, hx1⟩ : ∃ x1, 2 ^ T.nk = x1 := ⟨_, rfl⟩
  rw [hhn] at ka1 hs1 ha1 hB1 ⊢
  rw [hx1] at OSq
  have HX1 := Lib.hid hx1; have HHn := Lib.hid hhn; have HB := Lib.hid hB1; have HS1 := Lib.hid hs1; have HA1 := Lib.hid ha1
  clear hx1 hhn hB1 hs1 ha1 hW1 O0 k0 O1
  go_quiet ((go_at_call 171; exact quiet_left (OSq.out _)))
  go_wp2_with fail
  refine (O1q.out _).mono ?_
  rintro e w' ⟨rfl, m2, rfl⟩
  go_upto_if 31 with fail
  go_cut [4, 5] (fun v4 v5 wx => ∃ ga cap, v4 = .slice (some ⟨ga, 0, none⟩) T.ars.length cap ∧ v5 = .int .i64 ((2 ^ T.kp : Nat) : Int) ∧ Hid ((∃ cur, wx.heap[ga]? = some (.cells cur 22 (0, 0)) ∧ cur.toList.take (arsV G hs bs T).length = arsV G hs bs T) ∧ Below w.heap.size w wx ∧ w.heap.size ≤ ga))
  case first =>
    by_cases ho : T.oid = 0
    · obtain rfl : po = 0 := by rw [← HPo.out, ho]; exact HZ.out
      go_wp2_with fail
      go_meet
      case rel =>
        have ea : T.ars = [(T.nid, T.nb, T.nk)] := by unfold Tab.ars; rw [if_pos ho]
        have ek : T.kp = T.nk := by unfold Tab.kp; rw [if_pos ho]
        refine ⟨hn, 1, by rw [ea]; rfl, by rw [ek, HX1.out], Lib.hid ⟨⟨_, HA1.out, ?_⟩, by rw [HHn.out]; exact bel_drewN HB.out _, Nat.le_of_eq HHn.out⟩⟩
        unfold arsV
        rw [ea, ← HPn.out]
        rfl
    · have p0 : po ≠ 0 := by rw [← HPo.out]; exact HZ1.out ho
      have q0 : ((po : Int) == 0) = false := by rw [beq_eq_false_iff_ne]; omega
      obtain ⟨x2, hx2⟩ : ∃ x2, 2 ^ T.ok = x2 := ⟨_, rfl⟩
      obtain ⟨mt, hmt⟩ : ∃ mt, (if x2 < x1 then x2 else x1) = mt := ⟨_, rfl⟩
      have m3 : (if (x2 : Int) < (x1 : Int) then (x2 : Int) else (x1 : Int)) = (mt : Int) := by rw [← hmt]; split <;> split <;> omega
      have OS2' := OS2.out ho
      rw [hx2] at OS2'
      replace OS2' := Lib.hid OS2'
      have hmA : Hid (x2 < x1 → 2 ^ T.kp = x2) := Lib.hid fun hlt => by
        have ek : T.kp = min T.nk T.ok := by unfold Tab.kp; rw [if_neg ho]
        rw [← hx2, ← HX1.out] at hlt
        have : T.ok < T.nk := (Nat.pow_lt_pow_iff_right (by decide)).1 hlt
        rw [ek, ← hx2, Nat.min_eq_right (Nat.le_of_lt this)]
      have hmB : Hid (¬ x2 < x1 → 2 ^ T.kp = x1) := Lib.hid fun hlt => by
        have ek : T.kp = min T.nk T.ok := by unfold Tab.kp; rw [if_neg ho]
        rw [← hx2, ← HX1.out] at hlt
        have : ¬ T.ok < T.nk := fun q => hlt ((Nat.pow_lt_pow_iff_right (by decide)).2 q)
        rw [ek, ← HX1.out, Nat.min_eq_left (by omega)]
      have HX2 := Lib.hid hx2; have HMt := Lib.hid hmt; have HO := Lib.hid ho
      have hr0 : (W1.drewN (nq + m2)).ownsRow 0 22 1 (.slice (some ⟨hn, 0, none⟩) 1 1) 1 [.int .u64 (pn : Int)] := ⟨rfl, .inr ⟨hn, 1, _, rfl, Nat.zero_le _, HA1.out, Nat.le_refl _, by decide, rfl, rfl⟩⟩
      replace hr0 := Lib.hid hr0
      have hs1 := HS1.out
      have hKb : Hid (∀ w3, (W1.drewN (nq + m2)).grownBy w3 (some hn) → w3.cell? ⟨b1, 0, none⟩ = some (.pointer (some ⟨tp, 0, none⟩)) ∧ Fr (fun b => n₀ ≤ b) w0 w3 ∧ Below w.heap.size w w3) := Lib.hid fun w3 hg => by
        have hb3 : Below w.heap.size w w3 := ⟨hg.os.trans HB.out.os, hg.tape.trans HB.out.tape, hg.output.trans HB.out.output, Nat.le_trans HB.out.size hg.size, fun k hk => by
          have h1 : k < hn := by have := HHn.out; omega
          exact (hg.block k (by show k < W1.heap.size; omega) (fun e => by injection e with e; omega)).trans (HB.out.block k h1)⟩
        exact ⟨by rw [hb3.cell (blk_lt Hc1.out)]; simp [World.cell?, Hc1.out], HFr.out.trans (Fr.below (P := fun _ => False) hb3) (fun _ _ h => h.elim), hb3⟩
      clear hx2 hmt ho p0 ka1
      go_wp2_with (at_builtin; refine wpList_pushRow (W1.drewN (nq + m2)) rfl _ _ 143 22 (.int .u64 0) 1 8 rfl Tryz.underlying143 (by kernel_rfl) rfl (by decide) (.slice (some ⟨hn, 0, none⟩) 1 1) 1 [.int .u64 (pn : Int)] [.int .u64 (po : Int)] rfl (by intro u hu; rw [List.mem_singleton] at hu; subst hu; rfl) (by rfl) (hn + 1) hs1 (by rfl) hr0.out (by decide) (by decide) ?_; intro g2 c2' w3 hr3 hg3 hat3; obtain ⟨kb3, q3, q4⟩ := hKb.out w3 hg3; have H3 := Lib.hid (And.intro hr3 (And.intro q4 hat3)); have OS3 := Lib.hid (OS2'.out w3 q3); clear hr3 hg3 hat3 q3 q4)
      refine OS3.out.mono ?_
      rintro e w' ⟨rfl, rfl⟩
      go_wp2_with fail
      all_goals (
        go_meet
        case rel =>
          have ea : T.ars = [(T.nid, T.nb, T.nk), (T.oid, T.ob, T.ok)] := by unfold Tab.ars; rw [if_neg HO.out]
          obtain ⟨r1, r2, r3⟩ := H3.out
          obtain ⟨-, hrow⟩ := r1
          rcases hrow with ⟨h0, -⟩ | ⟨g', cap', cur, hv', hN, hb, h1, h2, h3, htk⟩
          · cases h0
          injection hv' with e1 e2 e3
          injection e1 with e1
          injection e1 with e1
          subst e1 e3
          refine ⟨g2, c2', by rw [ea]; rfl, by (first | rw [hmA.out (by omega)] | rw [hmB.out (by omega)]), Lib.hid ⟨⟨cur, hb, ?_⟩, r2, ?_⟩⟩
          · unfold arsV
            rw [ea]
            show cur.toList.take 2 = [.int .u64 (plOf G hs bs T.nid : Int), .int .u64 (plOf G hs bs T.oid : Int)]
            rw [HPn.out, HPo.out]
            exact htk
          · have hh1 := HHn.out
            have hh2 := HS1.out
            rcases r3 with r3 | r3
            · have r3 : some hn = some g2 := r3; injection r3 with r3; omega
            · have r3 : W1.heap.size ≤ g2 := r3; omega)
  case rest =>
    obtain ⟨ga, cap, rfl, rfl, HR⟩ := hcut
    obtain ⟨np, hnp⟩ : ∃ np, 2 ^ T.kp = np := ⟨_, rfl⟩
    obtain ⟨na, hna⟩ : ∃ na, T.ars.length = na := ⟨_, rfl⟩
    have HEI : Hid (EI w0 n₀ b1 b2 ga tp f (arsV G hs bs T) J [] (XUp (fun b => b = b1 ∨ b = b2) w wc) wc) := Lib.hid (by
      obtain ⟨⟨cur, r1, r2⟩, r3, r4⟩ := HR.out
      have l1 := blk_lt Hc1.out
      have l2 := blk_lt Hc2.out
      have lb1 := HB1.out
      have lb2 := HB2.out
      have lsz := r3.size
      refine ⟨HFr.out.trans (Fr.below (P := fun _ => False) r3) (fun _ _ h => h.elim), fun b hb => ?_, .inl (.inl rfl), .inl (.inr rfl), .inr ⟨r4, blk_lt r1⟩, (r3.block _ l1).trans Hc1.out, (r3.block _ l2).trans Hc2.out, ⟨cur, r1, r2⟩, fun x hx => by (cases hx), HJ.out _ _ _ _ Hj.out (Fr.below r3)⟩
      rcases hb with (hb | hb) | hb
      · subst hb; exact ⟨lb1, Nat.lt_of_lt_of_le l1 lsz⟩
      · subst hb; exact ⟨lb2, Nat.lt_of_lt_of_le l2 lsz⟩
      · exact ⟨by omega, hb.2⟩)
    have kf := HEI.out.k2
    have OB := Lib.hid (HCp.out.cb wc HEI.out.fr f hf)
    have hbl := bkt_lt T.kp f (by have := HK.out.2.1; omega) hf
    rw [hnp] at hbl OB
    rw [hnp, hna]
    have HNp := Lib.hid hnp; have HNa := Lib.hid hna
    have na2 : na ≤ 2 := by rw [← hna]; unfold Tab.ars; split <;> simp
    have np0 : 0 < np := by rw [← hnp]; exact Nat.two_pow_pos _
    have np20 : np ≤ 1048576 := by rw [← hnp]; exact pow20 HK.out.2.1
    clear hnp hna HR OSq O1q kb1 ka1 OS OS2 HX1 HHn HB HS1 HA1
    go_wp2_with fail
    refine OB.out.mono ?_
    rintro e w' ⟨rfl, rfl⟩
    obtain ⟨bp, hbp⟩ : ∃ bp, bkt T.kp f = bp := ⟨_, rfl⟩
    rw [hbp] at hbl ⊢
    have HPre0 : Hid (PreEnt T f bp []) := Lib.hid (by rw [← hbp]; exact PreEnt.start T f)
    clear hbp kf OB
    go_wp2_with fail
    go_loopw [7] (fun v7 wr => ∃ (p : Nat) (pre : List NK) (X : Nat → Prop), v7 = .int .i64 (p : Int) ∧ p ≤ np ∧ Hid (EI w0 n₀ b1 b2 ga tp f (arsV G hs bs T) J pre X wr ∧ PreEnt T f p pre)) (fun v7 _ => np - (intOf v7).toNat)
    case atStart => exact ⟨bp, [], _, rfl, Nat.le_of_lt hbl, Lib.hid ⟨HEI.out, HPre0.out⟩⟩
    case round =>
      clear HEI HPre0 hbl
      obtain ⟨p, pre, X, rfl, hp, HI⟩ := hrel
      by_cases hlt : p < np
      · go_wp2_with fail
        obtain ⟨wo, rfl⟩ : ∃ wo : World, wo = wr := ⟨_, rfl⟩
        go_loopg [51, 8] na (fun gq v51 v8 wr => ∃ (a1 a2 : List (Nat × List (List Ent) × Nat)) (A : Option Addr) (n' cap' : Nat) (L : List NK) (D : List Ent) (X : Nat → Prop), v51 = .int .i64 (a1.length : Int) ∧ v8 = .slice A n' cap' ∧ Hid (T.ars = a1 ++ a2 ∧ RowX n₀ X wr (.slice A n' cap') L ∧ L.map hkOf = D.map (hkE T.seed) ∧ D ++ a2.flatMap (fun a => cutB a.2.1 (2 ^ (a.2.2 - T.kp)) p) = T.gp p ∧ EI w0 n₀ b1 b2 ga tp f (arsV G hs bs T) J pre X wr ∧ a2.length = gq))
        case atStart => exact ⟨[], T.ars, none, 0, 0, [], [], X, rfl, rfl, Lib.hid ⟨rfl, ⟨⟨⟨rfl, .inl ⟨rfl, rfl⟩⟩, fun b hb => by simp [Value.ownBlock] at hb, fun x hx => by cases hx⟩, fun b hb => by simp [Value.ownBlock] at hb, fun x hx => by cases hx⟩, rfl, rfl, HI.out.1, HNa.out⟩⟩
        case round =>
          obtain ⟨a1, a2, A, n', cap', L, D, X', rfl, rfl, HM⟩ := hrel
          have hal : a1.length + a2.length = na := by have := HM.out.1; rw [← HNa.out, this, List.length_append]
          cases a2 with
          | nil =>
            obtain rfl : a1.length = na := by simpa using hal
            go_wp2_with fail
            have HSo := Lib.hid (sortN_walk HSL.out HSN.out wr (.slice A n' cap') n₀ L HM.out.2.1.row (by
              have h1 := congrArg List.length HM.out.2.2.1
              have h2 := congrArg List.length HM.out.2.2.2.1
              simp only [List.length_append, List.length_map] at h1 h2
              have h3 := HOk.out.gp_len p
              have h4 := HEn.out
              omega))
            refine HSo.out.mono ?_
            rintro e w2 ⟨L2, rfl, g1, g2, g3, g4⟩
            have HEI2 := Lib.hid (HM.out.2.2.2.2.1.step HJ.out g4 HM.out.2.1.typed)
            have HRx : Hid (RowX n₀ (XUp X' wr w2) w2 (.slice A n' cap') L2) := Lib.hid ⟨g1, fun b hb => .inl (HM.out.2.1.xb b hb), fun x hx => .inl (HM.out.2.1.xk x (g2.mem_iff.1 hx))⟩
            have HPm : Hid ((L2.map hkOf).Perm ((T.gp p).map (hkE T.seed))) := Lib.hid (by
              have h1 := HM.out.2.2.2.1
              rw [List.flatMap_nil, List.append_nil] at h1
              rw [← h1, ← HM.out.2.2.1]
              exact g2.map _)
            have HPw := Lib.hid g3
            obtain ⟨A9, c9, hv9⟩ := own_slice g1.row
            have hn2 : L2.length = n' := by injection hv9 with _ h _; exact h.symm
            have hn30 : n' ≤ 1073741824 := by
              have h1 := HPm.out.length_eq
              rw [List.length_map, List.length_map] at h1
              have h3 := HOk.out.gp_len p
              have h4 := HEn.out
              omega
            clear hv9 g1 g2 g3 g4 HSo
            go_wp2_with fail
            obtain ⟨wo3, rfl⟩ : ∃ wo : World, wo = w2 := ⟨_, rfl⟩
            go_loopw [80] (fun v80 wr => ∃ (j : Nat) (X : Nat → Prop), v80 = .int .i64 (j : Int) ∧ j ≤ n' ∧ Hid (EI w0 n₀ b1 b2 ga tp f (arsV G hs bs T) J (pre ++ (L2.take j).filter (fun x => decide (f ≤ x.h))) X wr ∧ RowX n₀ X wr (.slice A n' cap') L2)) (fun v80 _ => n' - (intOf v80).toNat)
            case atStart => exact ⟨0, _, rfl, Nat.zero_le _, Lib.hid ⟨by rw [List.take_zero, List.filter_nil, List.append_nil]; exact HEI2.out, HRx.out⟩⟩
            case round =>
              obtain ⟨j, X3, rfl, hj, HZ3⟩ := hrel
              by_cases hjn : j < n'
              · have hjl : j < L2.length := by rw [hn2]; exact hjn
                obtain ⟨g, rfl⟩ := HZ3.out.2.row.some_ (by omega)
                obtain ⟨d0, d1⟩ := HZ3.out.2.row.cells j hjl
                obtain ⟨x, hx⟩ : ∃ x, L2[j] = x := ⟨_, rfl⟩
                rw [hx] at d0 d1
                have hx' : L2[j]? = some x := by rw [List.getElem?_eq_getElem hjl, hx]
                obtain ⟨kl, hkl⟩ : ∃ kl, x.k.length = kl := ⟨_, rfl⟩
                rw [hkl] at d1
                have kf := HZ3.out.1.k2
                have HX := Lib.hid hx'; have HKl := Lib.hid hkl
                clear hx hx' hkl hjl
                go_upto_region 23 with fail
                obtain ⟨xh, hxh⟩ : ∃ xh, x.h = xh := ⟨_, rfl⟩
                obtain ⟨xg, hxg⟩ : ∃ xg, x.g = xg := ⟨_, rfl⟩
                rw [hxh, hxg]
                obtain ⟨W2, hW2⟩ : ∃ W2, wr.alloc (.cells #[.int .u64 (xh : Int), .slice (some ⟨xg, 0, none⟩) kl kl] 215) = W2 := ⟨_, rfl⟩
                have hB2 : Below wr.heap.size wr W2 := by rw [← hW2]; exact (Below.refl _ _).alloc (Nat.le_refl _) _
                have hn2' : W2.heap[wr.heap.size]? = some (.cells #[.int .u64 (xh : Int), .slice (some ⟨xg, 0, none⟩) kl kl] 215 (0, 0)) := by rw [← hW2]; exact World.alloc_heap_new _ _
                rw [hW2]
                have z0 : W2.cell? ⟨wr.heap.size, 0, none⟩ = some (.int .u64 (xh : Int)) := by simp [World.cell?, hn2']
                have z1 : W2.cell? ⟨wr.heap.size, 1, none⟩ = some (.slice (some ⟨xg, 0, none⟩) kl kl) := by simp [World.cell?, hn2']
                obtain ⟨pre2, hpre2⟩ : ∃ pre2, pre ++ (L2.take j).filter (fun x => decide (f ≤ x.h)) = pre2 := ⟨_, rfl⟩
                have hE2 := HZ3.out.1.below HJ.out hB2
                rw [hpre2] at hE2
                have HRow2 := Lib.hid (HZ3.out.2.below hB2)
                have kf2 := hE2.k2
                obtain ⟨X4, hX4⟩ : ∃ X4, XUp X3 wr W2 = X4 := ⟨_, rfl⟩
                rw [hX4] at hE2 HRow2
                have hxm : x ∈ L2 := List.mem_of_getElem? HX.out
                have hVx : VK pre2 X4 x W2 := by
                  have hk := HRow2.out.row.keys x hxm
                  refine ⟨⟨hk.1, hk.2.2.1, HRow2.out.xk x hxm⟩, ?_, fun b hb => (hE2.xn b hb).2⟩
                  have h1 := HI.out.2.perm.length_eq
                  rw [List.length_map, List.length_map] at h1
                  have h2 : (T.upto f p).length ≤ T.ents.length := List.length_filter_le _ _
                  have h3 : ((L2.take j).filter (fun x => decide (f ≤ x.h))).length ≤ (L2.take j).length := List.length_filter_le _ _
                  have h4 : (L2.take j).length ≤ L2.length := by rw [List.length_take]; exact Nat.min_le_right _ _
                  have h5 := HEn.out
                  rw [← hpre2, List.length_append]
                  omega
                have htk : L2.take (j + 1) = L2.take j ++ [x] := by rw [List.take_add_one, HX.out]; rfl
                have HJn := Lib.hid hjn
                have HE2 := Lib.hid hE2; have HTk := Lib.hid htk; have HPr2 := Lib.hid hpre2; have HVx := Lib.hid hVx; have HXh := Lib.hid hxh
                obtain ⟨hN, hhN⟩ : ∃ hN, wr.heap.size = hN := ⟨_, rfl⟩
                rw [hhN] at z0 z1 ⊢
                by_cases hfx : f ≤ xh
                · have hdf : decide ((xh : Int) < (f : Int)) = false := decide_eq_false (by omega)
                  have hdf2 : decide ((f : Int) ≤ (xh : Int)) = true := decide_eq_true (by omega)
                  obtain ⟨fn, tmps, assign, body, hy, hR⟩ := HY.out pre2 X4 x W2 HE2.out.j hVx
                  have e : (nkV x).toArray = #[.int .u64 (xh : Int), .slice (some ⟨xg, 0, none⟩) kl kl] := by unfold nkV; rw [HKl.out, hxh, hxg]
                  rw [e] at hy
                  replace hR := Lib.hid hR
                  clear hW2 hB2 hn2' hE2 hX4 hxm hVx htk hpre2 hxh hxg e d0 d1 kf hhN
                  refine (wpIn_wide (n := n)).1 ?_
                  gi_wp2
                  refine hR.out.mono ?_
                  rintro e W3 (⟨rfl, hj3, hr3⟩ | ⟨rfl, hx3, hr3⟩)
                  · have HE3 := Lib.hid (HE2.out.round hr3 HVx.out.1 hj3)
                    have HR3 := Lib.hid (HRow2.out.round hr3)
                    clear hj3 hr3
                    gi_wp2
                    go_wp2_with fail
                    have hjn := HJn.out
                    refine ⟨⟨j + 1, X4, by go_num, hjn, Lib.hid ⟨?_, HR3.out⟩⟩, meas_lt j n' hjn⟩
                    rw [HTk.out, List.filter_append, ← List.append_assoc, HPr2.out]
                    have e : [x].filter (fun x => decide (f ≤ x.h)) = [x] := filt_yes f x (by rw [HXh.out]; exact hfx)
                    rw [e]
                    exact HE3.out
                  · have HX3 := Lib.hid hx3
                    clear hx3 hr3
                    gi_wp2
                    go_wp2_with fail
                    refine bodyPost_ret (results_none rfl _ _ _) rfl ?_
                    exact ⟨⟨_, rfl⟩, .inr ⟨_, _, HX3.out⟩⟩
                · have hdf : decide ((xh : Int) < (f : Int)) = true := decide_eq_true (by omega)
                  have hdf2 : decide ((f : Int) ≤ (xh : Int)) = false := decide_eq_false (by omega)
                  clear hW2 hB2 hn2' hE2 hX4 hxm hVx htk hpre2 hxh hxg d0 d1 kf hhN
                  go_wp2_with fail
                  have hjn := HJn.out
                  refine ⟨⟨j + 1, X4, by go_num, hjn, Lib.hid ⟨?_, HRow2.out⟩⟩, meas_lt j n' hjn⟩
                  rw [HTk.out, List.filter_append, ← List.append_assoc, HPr2.out]
                  have e : [x].filter (fun x => decide (f ≤ x.h)) = [] := filt_no f x (by rw [HXh.out]; exact hfx)
                  rw [e, List.append_nil]
                  exact HE2.out
              · obtain rfl : j = n' := by omega
                go_wp2_with fail
                refine ⟨⟨p + 1, pre ++ L2.filter (fun x => decide (f ≤ x.h)), X3, by go_num, by omega, Lib.hid ⟨?_, HI.out.2.next HOk.out HPm.out HPw.out⟩⟩, by simp [intOf]; omega⟩
                have h1 := HZ3.out.1
                rw [List.take_of_length_le (Nat.le_of_eq hn2)] at h1
                exact h1
          | cons a a2 =>
            have hal1 : a1.length < na := by rw [List.length_cons] at hal; omega
            have ha : a ∈ T.ars := by rw [HM.out.1]; simp
            have hav : (arsV G hs bs T)[a1.length]? = some (.int .u64 (plOf G hs bs a.1 : Int)) := by
              unfold arsV
              rw [HM.out.1]; simp
            have ka := HM.out.2.2.2.2.1.ka a1.length (List.getElem?_eq_some_iff.1 hav).1
            rw [(List.getElem?_eq_some_iff.1 hav).2] at ka
            have kb := HM.out.2.2.2.2.1.k1
            have OSz := HCp.out.cs wr HM.out.2.2.2.2.1.fr a ha
            obtain ⟨ia, hia⟩ : ∃ ia, a1.length = ia := ⟨_, rfl⟩
            obtain ⟨pa, hpa⟩ : ∃ pa, plOf G hs bs a.1 = pa := ⟨_, rfl⟩
            obtain ⟨ya, hya⟩ : ∃ ya, 2 ^ a.2.2 = ya := ⟨_, rfl⟩
            rw [hia, hpa] at ka
            rw [hpa, hya] at OSz
            replace OSz := Lib.hid OSz
            rw [hia] at hal1 ⊢
            have HIa := Lib.hid hia; have HPa := Lib.hid hpa; have HYa := Lib.hid hya; have HA := Lib.hid ha
            clear hal hav hia hpa hya ha
            go_wp2_with fail
            refine OSz.out.mono ?_
            rintro e w' ⟨rfl, rfl⟩
            go_wp2_with fail
            obtain ⟨eh, heh⟩ : ∃ eh, 2 ^ (a.2.2 - T.kp) = eh := ⟨_, rfl⟩
            have hk3 := HK.out.2.2 a HA.out
            have hye : ya = np * eh := by rw [← HYa.out, ← HNp.out, ← heh, ← Nat.pow_add]; congr 1; omega
            have hy20 : ya ≤ 1048576 := by rw [← HYa.out]; exact pow20 hk3.2.1
            obtain ⟨qe, hqe⟩ : ∃ qe, p * eh + eh = qe := ⟨_, rfl⟩
            have hqy : qe ≤ ya := by
              rw [hye, ← hqe]
              have := Nat.mul_le_mul_right eh (show p + 1 ≤ np from hlt)
              rw [Nat.add_mul, Nat.one_mul] at this
              exact this
            have e0 : (ya : Int) / (np : Int) = (eh : Int) := by
              have : ya / np = eh := by rw [hye]; exact Nat.mul_div_cancel_left _ np0
              rw [← this]; simp
            have hq20 : qe ≤ 1048576 := Nat.le_trans hqy hy20
            have e1 : wrap64 (eh : Int) = (eh : Int) := wrap_nat eh (Nat.le_trans (by rw [← hqe]; exact Nat.le_add_left _ _) hq20)
            have e2 : wrap64 ((p : Int) * (eh : Int)) = ((p * eh : Nat) : Int) := wrap_mul p eh (Nat.le_trans (by rw [← hqe]; exact Nat.le_add_right _ _) hq20)
            have e3 : wrap64 (((p : Int) + 1) * (eh : Int)) = (qe : Int) := wrap_mul1 p eh qe hqe hq20
            rw [e0, e1, e2]
            obtain ⟨wo2, rfl⟩ : ∃ wo : World, wo = wr := ⟨_, rfl⟩
            have HYe := Lib.hid hye; have HQe := Lib.hid hqe; have HEh := Lib.hid heh; have HK3 := Lib.hid hk3; have HQy := Lib.hid hqy
            clear e0 e1 e2 hye hk3 heh hqe ka kb
            go_loopg [12, 8] eh (fun gq v12 v8 wr => ∃ (i : Nat) (A : Option Addr) (n' cap' : Nat) (L : List NK) (D : List Ent) (X : Nat → Prop), v12 = .int .i64 (i : Int) ∧ v8 = .slice A n' cap' ∧ i ≤ qe ∧ Hid (RowX n₀ X wr (.slice A n' cap') L ∧ L.map hkOf = D.map (hkE T.seed) ∧ D ++ (restB a.2.1 eh p i ++ a2.flatMap (fun a => cutB a.2.1 (2 ^ (a.2.2 - T.kp)) p)) = T.gp p ∧ EI w0 n₀ b1 b2 ga tp f (arsV G hs bs T) J pre X wr ∧ gq + i = qe))
            case atStart =>
              obtain ⟨q1, q2, q3, q4, q5, q6⟩ := HM.out
              refine ⟨p * eh, A, n', cap', L, D, X', rfl, rfl, by have := HQe.out; omega, Lib.hid ⟨q2, q3, ?_, q5, by have := HQe.out; omega⟩⟩
              rw [restB_start, ← q4, List.flatMap_cons, HEh.out]
            case round =>
              obtain ⟨i, A, n', cap', L, D, X2, rfl, rfl, hi, HN⟩ := hrel
              by_cases hiq : i < qe
              · have kb := HN.out.2.2.2.1.k1
                have hil : i < a.2.1.length := by rw [HK3.out.2.2, HYa.out]; have := HQy.out; omega
                obtain ⟨ci, hci⟩ : ∃ ci, a.2.1[i] = ci := ⟨_, rfl⟩
                have hst := restB_step a.2.1 eh p i (by rw [HQe.out]; exact hiq) hil
                rw [hci] at hst
                have OG := HCp.out.cg wr HN.out.2.2.2.1.fr a HA.out i hil A n' cap' L HN.out.1.row (by
                  rw [hci]
                  have h1 := congrArg List.length HN.out.2.1
                  have h2 := congrArg List.length HN.out.2.2.1
                  rw [hst] at h2
                  simp only [List.length_append, List.length_map] at h1 h2
                  have h3 := HOk.out.gp_len p
                  have h4 := HEn.out
                  omega)
                rw [hci, HPa.out] at OG
                replace OG := Lib.hid OG
                have HSt := Lib.hid hst
                clear hst hil hci
                go_wp2_with fail
                refine OG.out.mono ?_
                rintro e w2 ⟨A2, n2, cap2, L2, rfl, g1, g2, g3, g4, g5⟩
                have HG2 := Lib.hid (And.intro g1 (And.intro g2 (And.intro g3 (And.intro g4 g5))))
                clear g1 g2 g3 g4 g5
                go_wp2_with fail
                go_roundg (qe - (i + 1))
                case measure => have := HN.out.2.2.2.2; omega
                case rel =>
                  obtain ⟨g1, g2, g3, g4, g5⟩ := HG2.out
                  obtain ⟨q1, q2, q3, q4, q5⟩ := HN.out
                  refine ⟨i + 1, A2, n2, cap2, L ++ L2, D ++ ci, XUp X2 wr w2, by go_num, rfl, by omega, Lib.hid ⟨q1.gather (by have := q4.xn _ q4.x1; omega) g1 g3 g4 g5, ?_, ?_, q4.step HJ.out g3 q1.typed, by omega⟩⟩
                  · rw [List.map_append, List.map_append, q2, g2]; rfl
                  · rw [← q3, HSt.out]; simp
              · obtain rfl : i = qe := by omega
                go_wp2_with fail
                go_roundg a2.length
                case measure => have := HM.out.2.2.2.2.2; rw [List.length_cons] at this; omega
                case rel =>
                  obtain ⟨q1, q2, q3, q4, q5⟩ := HN.out
                  refine ⟨a1 ++ [a], a2, A, n', cap', L, D, X2, by rw [List.length_append, HIa.out, List.length_singleton]; go_num, rfl, Lib.hid ⟨by rw [HM.out.1]; simp, q1, q2, ?_, q4, rfl⟩⟩
                  rw [← q3, ← HQe.out, restB_end, List.nil_append]
      · obtain rfl : p = np := by omega
        go_wp2_with fail
        go_end0
        obtain ⟨hI, hP⟩ := HI.out
        refine ⟨⟨_, rfl⟩, .inl ⟨pre, X, ⟨hI.ks, ?_, hP.sort⟩, hI.j⟩⟩
        have := hP.perm
        rw [← HNp.out, HOk.out.upto_end f (fun e => hashN_lt _ _)] at this
        exact this
end
end Go.Proofs.YtglglknhifjbaaaGreatDoor.Sp
