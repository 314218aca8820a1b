/- larderref16.one, in the printed functions' form. -/
import Derived.Test.YtdhkhjfjjbdkgaaRLx8
import Derived.Test.YtdhkhjfjjbdkgaaFirst
namespace Go.Proofs.Ytdhkhjfjjbdkgaa.Rec
open Go.RowKit Go.Proofs.YtdhkhjfjjbdkgaaW.PrintWords Go.Proofs.YtdhkhjfjjbdkgaaW.PrintLast Go.Proofs.YtdhkhjfjjbdkgaaW.PrintMore
set_option linter.unusedVariables false
set_option linter.unusedSimpArgs false
def larderref16_one.g (k : Nat) (l0 : List Int) (a1 : Int) (x : Int × Int × List S76 × Int × Bool) : Option (Int × Int × List S76 × Int) :=
  if x.2.2.2.2 = true then some (0, 0, [], 0) else
  (larderref16_May.f k x.1 x.2.1 x.2.2.1).bind fun m => if m = false then some (0, 0, [], 0) else
  (larderref16_Line.f k x.1 x.2.1 x.2.2.1).bind fun l => if l.1.length = 0 then none else if (l0.length : Int) - a1 < (l.1.length : Int) then some (0, 0, [], 0) else
  (larderref0_Eq.f k l.1 ((l0.drop a1.toNat).take l.1.length)).bind fun q => if q = true then some (x.1, x.2.1, x.2.2.1, (l.1.length : Int)) else some (0, 0, [], 0)
def larderref16_one.f (k : Nat) (l0 : List Int) (a1 : Int) : Option (Int × Int × List S76 × Int) :=
  if 0 ≤ a1 ∧ a1 ≤ (l0.length : Int) then
  (larderref16_Eye_num.f k l0 a1 false 1).bind fun x1 =>
  (larderref16_Eye_num.f k l0 x1.2.1 x1.2.2 8).bind fun x2 =>
  (larderref16_Eye_num.f k l0 x2.2.1 x2.2.2 8).bind fun x3 =>
  (larderref16_Eye_bytes.f l0 x3.2.1 x3.2.2 x2.1).bind fun b =>
  if b.2.2 = true then some (0, 0, [], 0) else
  (larderref16_Eye_entry.f k b.1 0 false).bind fun x => larderref16_one.g k l0 a1 x
  else none
theorem larderref16_one.mono_g : ∀ a0 a1 x k, LeO (larderref16_one.g k a0 a1 x) (larderref16_one.g (k + 1) a0 a1 x) := by
  intro a0 a1 x k
  unfold larderref16_one.g
  exact LeO.ite (LeO.refl _) (LeO.bind (larderref16_May.mono _ _ _ _) (fun _ => LeO.ite (LeO.refl _) (LeO.bind (larderref16_Line.mono _ _ _ _) (fun _ => LeO.ite (LeO.refl _) (LeO.ite (LeO.refl _) (LeO.bind (larderref0_Eq.mono _ _ _) (fun _ => LeO.refl _)))))))
theorem larderref16_one.mono : ∀ a0 a1 k, LeO (larderref16_one.f k a0 a1) (larderref16_one.f (k + 1) a0 a1) := by
  intro a0 a1 k
  unfold larderref16_one.f
  exact LeO.ite (LeO.bind (larderref16_Eye_num.mono _ _ _ _ _) (fun _ => LeO.bind (larderref16_Eye_num.mono _ _ _ _ _) (fun _ => LeO.bind (larderref16_Eye_num.mono _ _ _ _ _) (fun _ => LeO.bind (LeO.refl _) (fun _ => LeO.ite (LeO.refl _) (LeO.bind (larderref16_Eye_entry.mono _ _ _ _) (fun _ => larderref16_one.mono_g _ _ _ _))))))) (LeO.refl _)
theorem eye_new {w W : World} {A0 : Option Addr} {c0 : Nat} {f0 : List Int} {f1 : Int} {f2 : Bool} (hB : Below w.heap.size w W) (hr0 : Kd.C (Kd.int .u8) w A0 f0.length f0) (hc : f0.length ≤ c0) : IsS104 w (W.alloc (.cells #[.slice A0 f0.length c0, .int .i64 f1, .bool f2] 104)) W.heap.size f0 f1 f2 :=
  ⟨A0, c0 - f0.length, by rw [Nat.add_sub_cancel' hc]; exact heap_alloc_new _ _, hB.size, hr0⟩
theorem eye_bad {w0 w : World} {g : Nat} {f0 : List Int} {f1 : Int} {f2 : Bool} (h : IsS104 w0 w g f0 f1 f2) : w.cell? ⟨g, 2, none⟩ = some (.bool f2) := by
  obtain ⟨A0, c0, hb, hg, hr0⟩ := h
  exact cellS104_2 hb
set_option maxHeartbeats 8000000 in
set_option maxRecDepth 100000 in
theorem larderref16_one.calls (k : Nat) (A0 : Option Addr) (c0 : Nat) (l0 : List Int) (a1 : Int) (r1 r2 : Int) (r3 : List S76) (r4 : Int) (w : World) (hr0 : Kd.C (Kd.int .u8) w A0 l0.length l0) (hc0 : l0.length ≤ c0) (h : larderref16_one.f k l0 a1 = some (r1, r2, r3, r4)) :
    Calls Try.prog 54 #[.slice A0 l0.length c0, .int .i64 a1] w fun e w' => ∃ v2_ : Value, e = .returned (.tuple #[.agg #[.int .i64 r1, .int .u64 r2, v2_], .int .i64 r4]) ∧ Kd.R k76 76 w' w.heap.size (fun _ => True) v2_ r3 ∧ Below w.heap.size w w' := by
  unfold larderref16_one.f at h
  by_cases hp : 0 ≤ a1 ∧ a1 ≤ (l0.length : Int)
  case neg => rw [if_neg hp] at h; cases h
  rw [if_pos hp] at h
  obtain ⟨hp0, hp1⟩ := hp
  obtain ⟨at_, rfl⟩ := Int.eq_ofNat_of_zero_le hp0
  obtain ⟨⟨y1, a1_, b1_⟩, h1, h⟩ := Option.bind_eq_some_iff.1 h
  obtain ⟨⟨y2, a2_, b2_⟩, h2, h⟩ := Option.bind_eq_some_iff.1 h
  obtain ⟨⟨y3, a3_, b3_⟩, h3, h⟩ := Option.bind_eq_some_iff.1 h
  obtain ⟨⟨bs, a4_, b4_⟩, h4, h⟩ := Option.bind_eq_some_iff.1 h
  dsimp only at h1 h2 h3 h4 h
  have HF := Aside0.mk h; have H1 := Aside0.mk h1; have H2 := Aside0.mk h2; have H3 := Aside0.mk h3; have H4 := Aside0.mk h4; have HR0 := Aside0.mk hr0
  clear h h1 h2 h3 h4 hr0
  have hb1 : Below w.heap.size w (w.alloc (.cells #[.int .i64 0, .int .u64 0, .slice none 0 0] 33)) := (Below.refl _ _).alloc (Nat.le_refl _) _
  have hs1 : ((w.alloc (.cells #[.int .i64 0, .int .u64 0, .slice none 0 0] 33)).alloc (.cells #[.slice A0 l0.length c0, .int .i64 (at_ : Int), .bool false] 104)).heap[w.heap.size]? = some (.cells #[.int .i64 0, .int .u64 0, .slice none 0 0] 33 (0, 0)) := by
    rw [((Below.refl _ (w.alloc (.cells #[.int .i64 0, .int .u64 0, .slice none 0 0] 33))).alloc (Nat.le_refl _) _).block _ (by simp)]; exact heap_alloc_new _ _
  have hi1 := eye_new (f1 := (at_ : Int)) (f2 := false) hb1 HR0.out hc0
  rw [show (w.alloc (.cells #[.int .i64 0, .int .u64 0, .slice none 0 0] 33)).heap.size = w.heap.size + 1 by simp] at hi1
  have HI1 := Aside0.mk hi1; have HS1 := Aside0.mk hs1; have HB1 := Aside0.mk (hb1.alloc hb1.size (.cells #[.slice A0 l0.length c0, .int .i64 (at_ : Int), .bool false] 104))
  clear hi1 hs1 hb1
  go_enter Try.func54, Try.ntmps54
  go_wp2_with fail
  refine (larderref16_Eye_num.calls k (w.heap.size + 1) l0 (at_ : Int) false 1 y1 a1_ b1_ w _ HI1.out HB1.out H1.out).mono ?_
  rintro e w1 ⟨rfl, hi, hb, hk⟩
  have HI2 := Aside0.mk hi; have HB2 := Aside0.mk hb; have HS2 := Aside0.mk (hk.blk HS1.out (by omega) (by simp))
  clear hi hb hk HI1 HB1 HS1
  go_wp2_with fail
  refine (larderref16_Eye_num.calls k (w.heap.size + 1) l0 a1_ b1_ 8 y2 a2_ b2_ w _ HI2.out HB2.out H2.out).mono ?_
  rintro e w2 ⟨rfl, hi, hb, hk⟩
  have HI3 := Aside0.mk hi; have HB3 := Aside0.mk hb; have HS3 := Aside0.mk (hk.blk HS2.out (by omega) (by simp))
  clear hi hb hk HI2 HB2 HS2
  go_wp2_with fail
  refine (larderref16_Eye_num.calls k (w.heap.size + 1) l0 a2_ b2_ 8 y3 a3_ b3_ w _ HI3.out HB3.out H3.out).mono ?_
  rintro e w3 ⟨rfl, hi, hb, hk⟩
  have HI4 := Aside0.mk hi; have HB4 := Aside0.mk hb; have HS4 := Aside0.mk (hk.blk HS3.out (by omega) (by simp))
  clear hi hb hk HI3 HB3 HS3
  go_wp2_with fail
  refine (larderref16_Eye_bytes.calls (w.heap.size + 1) l0 a3_ b3_ y2 bs a4_ b4_ w _ HI4.out HB4.out H4.out).mono ?_
  rintro e w4 ⟨v4, rfl, hv4, hi, hb, hk⟩
  obtain ⟨A4, c4, rfl⟩ := Kd.R_slice hv4
  have HI5 := Aside0.mk hi; have HB5 := Aside0.mk hb; have HS5 := Aside0.mk (hk.blk HS4.out (by omega) (by simp)); have HV4 := Aside0.mk (Kd.R_reads' hv4).2
  clear hi hb hk hv4 HI4 HB4 HS4
  have hbad := eye_bad HI5.out
  obtain ⟨gR0, gR1, gR2, kR0, kR1, kR2⟩ := ent_cells HS5.out
  cases b4_ with
  | true =>
    have hf2 := HF.out
    rw [if_pos rfl] at hf2
    have HF := Aside0.mk hf2
    clear hf2
    go_wp2_with fail
    obtain ⟨z1, z2, z3, z4⟩ := res_write (a' := .int .i64 0) (b' := .int .u64 0) (c' := .slice none 0 0) HB5.out HS5.out _ rfl
    have hfo := Option.some.inj HF.out
    simp only [Prod.mk.injEq] at hfo
    obtain ⟨rfl, rfl, rfl, rfl⟩ := hfo
    exact bodyPost_ret (v := .tuple #[.agg #[.int .i64 0, .int .u64 0, .slice none 0 0], .int .i64 0]) (by simp [results, Try.results54, go_sem, z2, z3, z4]) rfl ⟨_, rfl, Kd.R_nil _ _ _ _ _, z1⟩
  | false =>
    have hf2 := HF.out
    simp only [Bool.false_eq_true, if_false] at hf2
    obtain ⟨⟨x1, x2, x3, x4, x5⟩, h5, hf2⟩ := Option.bind_eq_some_iff.1 hf2
    have HF := Aside0.mk hf2; have H5 := Aside0.mk h5
    clear hf2 h5
    have hi6 := eye_new (f1 := 0) (f2 := false) (Below.refl w4.heap.size w4) HV4.out.2 HV4.out.1
    have HI6 := Aside0.mk hi6; have HB6 := Aside0.mk ((Below.refl w4.heap.size w4).alloc (Nat.le_refl _) (.cells #[.slice A4 bs.length c4, .int .i64 0, .bool false] 104))
    clear hi6 gR0 gR1 gR2 kR0 kR1 kR2
    go_wp2_with fail
    clear hbad
    refine (larderref16_Eye_entry.calls k w4.heap.size bs 0 false x1 x2 x3 x4 x5 w4 _ HI6.out HB6.out H5.out).mono ?_
    rintro e w5 ⟨v5, rfl, hv5, hi, hb, hk⟩
    obtain ⟨A5, c5, rfl⟩ := Kd.R_slice hv5
    have hg5 : w4.heap.size < w5.heap.size := hi.lt
    have hws : w.heap.size < w4.heap.size := (Array.getElem?_eq_some_iff.1 HS5.out).1
    have HI7 := Aside0.mk (IsS104.alloc hi (.cells #[.int .i64 x1, .int .u64 x2, .slice A5 x3.length c5] 33))
    have hb7 : Below w.heap.size w w5 := HB5.out.trans (hb.mono HB5.out.size)
    have HB7 := Aside0.mk (hb7.alloc hb7.size (.cells #[.int .i64 x1, .int .u64 x2, .slice A5 x3.length c5] 33))
    have hs7 : w5.heap[w.heap.size]? = some (.cells #[.int .i64 0, .int .u64 0, .slice none 0 0] 33 (0, 0)) := (hb.block _ hws).trans HS5.out
    have HS7 := Aside0.mk ((((Below.refl w5.heap.size w5).alloc (Nat.le_refl _) (.cells #[.int .i64 x1, .int .u64 x2, .slice A5 x3.length c5] 33)).block _ (by omega)).trans hs7)
    have HV7 := Aside0.mk (Kd.R_below (Kd.R_mono (Kd.R_lower (Kd.R_mono (Kd.R_bound hv5) (ok' := fun k => w.heap.size < k) (fun k hk => by have := hk.2.1; simp at this; omega)) (show w.heap.size ≤ _ by simp; omega)) (ok' := fun k => k ≠ w.heap.size) (fun k hk => by omega)) ((Below.refl w5.heap.size w5).alloc (Nat.le_refl _) (.cells #[.int .i64 x1, .int .u64 x2, .slice A5 x3.length c5] 33)))
    have HE7 := Aside0.mk (heap_alloc_new w5 (.cells #[.int .i64 x1, .int .u64 x2, .slice A5 x3.length c5] 33))
    obtain ⟨W7, hW7⟩ : ∃ W7, W7 = w5.alloc (.cells #[.int .i64 x1, .int .u64 x2, .slice A5 x3.length c5] 33) := ⟨_, rfl⟩
    have hbad := eye_bad HI7.out
    clear hv5 hi hb hk hb7 hs7 HI6 HB6
    obtain ⟨gR0, gR1, gR2, kR0, kR1, kR2⟩ := ent_cells HS7.out
    obtain ⟨eR0, eR1, eR2, _, _, _⟩ := ent_cells HE7.out
    cases x5 with
    | true =>
      have hf2 := HF.out
      unfold larderref16_one.g at hf2
      rw [if_pos rfl] at hf2
      have HF := Aside0.mk hf2
      clear hf2
      go_wp2_with fail
      obtain ⟨z1, z2, z3, z4⟩ := res_write (a' := .int .i64 0) (b' := .int .u64 0) (c' := .slice none 0 0) HB7.out HS7.out _ rfl
      have hfo := Option.some.inj HF.out
      simp only [Prod.mk.injEq] at hfo
      obtain ⟨rfl, rfl, rfl, rfl⟩ := hfo
      exact bodyPost_ret (v := .tuple #[.agg #[.int .i64 0, .int .u64 0, .slice none 0 0], .int .i64 0]) (by simp [results, Try.results54, go_sem, z2, z3, z4]) rfl ⟨_, rfl, Kd.R_nil _ _ _ _ _, z1⟩
    | false =>
      have hf2 := HF.out
      unfold larderref16_one.g at hf2
      simp only [Bool.false_eq_true, if_false] at hf2
      obtain ⟨m, hm, hf2⟩ := Option.bind_eq_some_iff.1 hf2
      have HF := Aside0.mk hf2; have HM := Aside0.mk hm
      clear hf2 hm
      go_wp2_with fail
      refine (larderref16_May.calls k x1 x2 A5 c5 x3 m _ (Kd.R_reads' HV7.out).2.2 (Kd.R_reads' HV7.out).2.1 HM.out).mono ?_
      rintro e w8 ⟨rfl, hb⟩
      have HB8 := Aside0.mk (HB7.out.trans (hb.mono HB7.out.size)); have HS8 := Aside0.mk ((hb.block _ (Array.getElem?_eq_some_iff.1 HS7.out).1).trans HS7.out); have HE8 := Aside0.mk ((hb.block _ (Array.getElem?_eq_some_iff.1 HE7.out).1).trans HE7.out); have HV8 := Aside0.mk (Kd.R_below HV7.out hb)
      clear hb hW7 HI7 HB7 HS7 HE7 HV7 hbad gR0 gR1 gR2 kR0 kR1 kR2 eR0 eR1 eR2
      obtain ⟨gR0, gR1, gR2, kR0, kR1, kR2⟩ := ent_cells HS8.out
      obtain ⟨eR0, eR1, eR2, _, _, _⟩ := ent_cells HE8.out
      cases m with
      | false =>
        have hf2 := HF.out
        rw [if_pos rfl] at hf2
        have HF := Aside0.mk hf2
        clear hf2
        go_wp2_with fail
        obtain ⟨z1, z2, z3, z4⟩ := res_write (a' := .int .i64 0) (b' := .int .u64 0) (c' := .slice none 0 0) HB8.out HS8.out _ rfl
        have hfo := Option.some.inj HF.out
        simp only [Prod.mk.injEq] at hfo
        obtain ⟨rfl, rfl, rfl, rfl⟩ := hfo
        exact bodyPost_ret (v := .tuple #[.agg #[.int .i64 0, .int .u64 0, .slice none 0 0], .int .i64 0]) (by simp [results, Try.results54, go_sem, z2, z3, z4]) rfl ⟨_, rfl, Kd.R_nil _ _ _ _ _, z1⟩
      | true =>
        have hf2 := HF.out
        simp only [Bool.true_eq_false, if_false] at hf2
        obtain ⟨⟨ln, lc⟩, hl, hf2⟩ := Option.bind_eq_some_iff.1 hf2
        dsimp only at hf2
        by_cases hl0 : ln.length = 0
        · rw [if_pos hl0] at hf2; cases hf2
        rw [if_neg hl0] at hf2
        have HF := Aside0.mk hf2; have HL := Aside0.mk hl
        clear hf2 hl
        go_wp2_with fail
        refine (larderref16_Line.calls k x1 x2 A5 c5 x3 ln lc _ (Kd.R_reads' HV8.out).2.2 (Kd.R_reads' HV8.out).2.1 HL.out).mono ?_
        rintro e w9 ⟨v9, rfl, hv9, hb⟩
        obtain ⟨A9, c9, rfl⟩ := Kd.R_slice hv9
        have HB9 := Aside0.mk (HB8.out.trans (hb.mono HB8.out.size)); have HS9 := Aside0.mk ((hb.block _ (Array.getElem?_eq_some_iff.1 HS8.out).1).trans HS8.out); have HE9 := Aside0.mk ((hb.block _ (Array.getElem?_eq_some_iff.1 HE8.out).1).trans HE8.out); have HV9 := Aside0.mk (Kd.R_below HV8.out hb)
        have HLN := Aside0.mk (Kd.R_reads' hv9).2
        clear hb hv9 HB8 HS8 HE8 HV8 gR0 gR1 gR2 kR0 kR1 kR2 eR0 eR1 eR2
        obtain ⟨gR0, gR1, gR2, kR0, kR1, kR2⟩ := ent_cells HS9.out
        obtain ⟨eR0, eR1, eR2, _, _, _⟩ := ent_cells HE9.out
        have hl1 : (0 : Int) < (ln.length : Int) := by omega
        have hlm := HLN.out.2.2.1
        have hl0m := HR0.out.2.1
        by_cases hlt : (l0.length : Int) - (at_ : Int) < (ln.length : Int)
        · have hf2 := HF.out
          rw [if_pos hlt] at hf2
          have HF := Aside0.mk hf2
          clear hf2
          have hd : decide ((l0.length : Int) - (at_ : Int) < (ln.length : Int)) = true := decide_eq_true hlt
          go_wp2_with fail
          obtain ⟨z1, z2, z3, z4⟩ := res_write (a' := .int .i64 0) (b' := .int .u64 0) (c' := .slice none 0 0) HB9.out HS9.out _ rfl
          have hfo := Option.some.inj HF.out
          simp only [Prod.mk.injEq] at hfo
          obtain ⟨rfl, rfl, rfl, rfl⟩ := hfo
          exact bodyPost_ret (v := .tuple #[.agg #[.int .i64 0, .int .u64 0, .slice none 0 0], .int .i64 0]) (by simp [results, Try.results54, go_sem, z2, z3, z4]) rfl ⟨_, rfl, Kd.R_nil _ _ _ _ _, z1⟩
        · have hf2 := HF.out
          rw [if_neg hlt] at hf2
          obtain ⟨q, hq, hf2⟩ := Option.bind_eq_some_iff.1 hf2
          have HF := Aside0.mk hf2; have HQ := Aside0.mk hq
          clear hf2 hq
          have hd : decide ((l0.length : Int) - (at_ : Int) < (ln.length : Int)) = false := decide_eq_false hlt
          have hcn : ¬ c0 = at_ := by omega
          have hcn2 : ¬ c0 - at_ = 0 := by omega
          have hq1 : (at_ : Int) ≤ (at_ : Int) + (ln.length : Int) := by omega
          have hq2 : (at_ : Int) + (ln.length : Int) ≤ (c0 : Int) := by omega
          have hq3 : (0 : Int) ≤ (at_ : Int) := by omega
          have w3_ : IntKind.i64.wrap ((at_ : Int) + (ln.length : Int)) = (at_ : Int) + (ln.length : Int) := IntWalk.i64_in _ (by omega)
          go_wp2_with fail
          have hsl0 := ((C_byt HR0.out hc0).drop at_ (by omega)).take ln.length (by simp; omega)
          rw [if_neg hcn] at hsl0
          have hsl := (hsl0.below HB9.out).C
          have hl9 : ((l0.drop at_).take ln.length).length = ln.length := by simp; omega
          have hq0 := HQ.out
          rw [Int.toNat_natCast] at hq0
          have hcall := larderref0_Eq.calls k A9 c9 ln (A0.map (·.add at_)) (c0 - at_) ((l0.drop at_).take ln.length) q w9 HLN.out.2 HLN.out.1 hsl (by rw [hl9]; omega) hq0
          rw [hl9] at hcall
          have HCALL := Aside0.mk hcall
          clear hsl0 hsl hl9 hq0 hcall
          refine HCALL.out.mono ?_
          rintro e w10 ⟨rfl, ⟨nd, rfl⟩⟩
          have HB10 := Aside0.mk (pw_below_drewN HB9.out nd)
          have HS10 := Aside0.mk (show (w9.drewN nd).heap[w.heap.size]? = some (.cells #[.int .i64 0, .int .u64 0, .slice none 0 0] 33 (0, 0)) from HS9.out)
          cases q with
          | false =>
            have hf2 := HF.out
            simp only [Bool.false_eq_true, if_false] at hf2
            have HF := Aside0.mk hf2
            clear hf2
            go_wp2_with fail
            obtain ⟨z1, z2, z3, z4⟩ := res_write (a' := .int .i64 0) (b' := .int .u64 0) (c' := .slice none 0 0) HB10.out HS10.out _ rfl
            have hfo := Option.some.inj HF.out
            simp only [Prod.mk.injEq] at hfo
            obtain ⟨rfl, rfl, rfl, rfl⟩ := hfo
            exact bodyPost_ret (v := .tuple #[.agg #[.int .i64 0, .int .u64 0, .slice none 0 0], .int .i64 0]) (by simp [results, Try.results54, go_sem, z2, z3, z4]) rfl ⟨_, rfl, Kd.R_nil _ _ _ _ _, z1⟩
          | true =>
            have hf2 := HF.out
            simp only [if_true, Option.some.injEq, Prod.mk.injEq] at hf2
            have HF := Aside0.mk hf2
            clear hf2
            go_wp2_with fail
            obtain ⟨z1, z2, z3, z4⟩ := res_write (a' := .int .i64 x1) (b' := .int .u64 x2) (c' := .slice A5 x3.length c5) HB10.out HS10.out _ rfl
            have HVW := Aside0.mk (Kd.R_far (p := ⟨w.heap.size, 2, none⟩) (Kd.R_far (p := ⟨w.heap.size, 1, none⟩) (Kd.R_far (p := ⟨w.heap.size, 0, none⟩) (w := w9.drewN nd) HV9.out (fun _ hk => hk) (.int .i64 x1)) (fun _ hk => hk) (.int .u64 x2)) (fun _ hk => hk) (.slice A5 x3.length c5))
            obtain ⟨rfl, rfl, rfl, rfl⟩ := HF.out
            exact bodyPost_ret (v := .tuple #[.agg #[.int .i64 r1, .int .u64 r2, .slice A5 r3.length c5], .int .i64 (ln.length : Int)]) (by simp [results, Try.results54, go_sem, z2, z3, z4]) rfl ⟨_, rfl, Kd.R_mono HVW.out (fun _ _ => trivial), z1⟩
end Go.Proofs.Ytdhkhjfjjbdkgaa.Rec
