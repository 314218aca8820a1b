-- printed by print.py
import Derived.Test.YtdhkhjfjjbdkgaaRLx0
import Derived.Test.YtdhkhjfjjbdkgaaRLx3
import Derived.Test.YtdhkhjfjjbdkgaaRLx9
namespace Go.Proofs.Ytdhkhjfjjbdkgaa.Rec
open Go.RowKit Go.Proofs.YtdhkhjfjjbdkgaaW.PrintWords Go.Proofs.YtdhkhjfjjbdkgaaW.PrintLast Go.Proofs.YtdhkhjfjjbdkgaaW.PrintMore
attribute [local go_sem] max2_int min2_int max_two min_two max_three min_three max_four min_four
set_option linter.unusedVariables false
set_option linter.unusedSimpArgs false/-! ### larderlaw16_reads: function 35 -/
def larderlaw16_reads.f (k : Nat) (l0 : List Int) (l1 : List (S33)) (l2 : List Int) (a3 : Int) : Option (Bool) := (record_Read.f k l0).bind fun bt434 => (if a3 > 0 then (if 0 ≤ (wrap64 (a3 - 1)) then (if (wrap64 (a3 - 1)) < (l2.length : Int) then (if bt434.2 = (rd l2 (wrap64 (a3 - 1))) then (if 0 ≤ a3 then (if a3 ≤ (l1.length : Int) then ((larderlaw16_sameEntries.f k bt434.1 (l1.take (a3 : Int).toNat)).bind fun t443 => (some t443)) else (none)) else (none)) else (some false)) else (none)) else (none)) else (if bt434.2 = 0 then (if 0 ≤ a3 then (if a3 ≤ (l1.length : Int) then ((larderlaw16_sameEntries.f k bt434.1 (l1.take (a3 : Int).toNat)).bind fun t448 => (some t448)) else (none)) else (none)) else (some false)))
theorem larderlaw16_reads.mono : ∀ a0 a1 a2 a3 k, LeO (larderlaw16_reads.f k a0 a1 a2 a3) (larderlaw16_reads.f (k + 1) a0 a1 a2 a3) := by
 intro a0 a1 a2 a3 k
 unfold larderlaw16_reads.f
 repeat' first
   | (with_reducible exact larderlaw16_sameEntries.mono _ _ _)
   | (with_reducible exact record_Read.mono _ _)
   | (with_reducible exact LeO.refl _)
   | (with_reducible exact LeO.none _)
   | (with_reducible refine LeO.ite ?_ ?_)
   | (with_reducible refine LeO.bind ?_ (fun _ => ?_))
set_option maxHeartbeats 8000000 in
set_option maxRecDepth 100000 in
theorem larderlaw16_reads.calls (k : Nat) (A0 : Option Addr) (c0 : Nat) (l0 : List Int) (A1 : Option Addr) (c1 : Nat) (l1 : List (S33)) (A2 : Option Addr) (c2 : Nat) (l2 : List Int) (a3 : Int) (r : Bool) (w : World) (hr0 : Kd.C (Kd.int .u8) w A0 l0.length l0) (hc0 : l0.length ≤ c0) (hr1 : Kd.C k33 w A1 l1.length l1) (hc1 : l1.length ≤ c1) (hr2 : Kd.C (Kd.int .i64) w A2 l2.length l2) (hc2 : l2.length ≤ c2) (h : larderlaw16_reads.f k l0 l1 l2 a3 = some r) :
  Calls Try.prog 35 #[.slice A0 l0.length c0, .slice A1 l1.length c1, .slice A2 l2.length c2, .int .i64 a3] w fun e w' => e = .returned (.bool r) ∧ Below w.heap.size w w' := by
 have HR0 := ak hr0
 have HC0 := ak hc0
 clear hr0 hc0
 have HR1 := ak hr1
 have HC1 := ak hc1
 clear hr1 hc1
 have HR2 := ak hr2
 have HC2 := ak hc2
 clear hr2 hc2
 have HB := ak (Below.refl w.heap.size w)
 have H : ((record_Read.f k l0).bind fun bt434 => (if a3 > 0 then (if 0 ≤ (wrap64 (a3 - 1)) then (if (wrap64 (a3 - 1)) < (l2.length : Int) then (if bt434.2 = (rd l2 (wrap64 (a3 - 1))) then (if 0 ≤ a3 then (if a3 ≤ (l1.length : Int) then ((larderlaw16_sameEntries.f k bt434.1 (l1.take (a3 : Int).toNat)).bind fun t443 => (some t443)) else (none)) else (none)) else (some false)) else (none)) else (none)) else (if bt434.2 = 0 then (if 0 ≤ a3 then (if a3 ≤ (l1.length : Int) then ((larderlaw16_sameEntries.f k bt434.1 (l1.take (a3 : Int).toNat)).bind fun t448 => (some t448)) else (none)) else (none)) else (some false)))) = some r := h
 clear h
 replace H := Option.bind_eq_some_iff.mp H
 obtain ⟨⟨t434, t435⟩, A50, H⟩ := H
 replace H : (if a3 > 0 then (if 0 ≤ (wrap64 (a3 - 1)) then (if (wrap64 (a3 - 1)) < (l2.length : Int) then (if t435 = (rd l2 (wrap64 (a3 - 1))) then (if 0 ≤ a3 then (if a3 ≤ (l1.length : Int) then ((larderlaw16_sameEntries.f k t434 (l1.take (a3 : Int).toNat)).bind fun t443 => (some t443)) else (none)) else (none)) else (some false)) else (none)) else (none)) else (if t435 = 0 then (if 0 ≤ a3 then (if a3 ≤ (l1.length : Int) then ((larderlaw16_sameEntries.f k t434 (l1.take (a3 : Int).toNat)).bind fun t448 => (some t448)) else (none)) else (none)) else (some false))) = some r := H
 have A5 := ak A50
 clear A50
 by_cases c6 : a3 > 0
 ·
  rw [if_pos c6] at H
  have c6b0 : decide (0 < a3) = true := decide_eq_true c6
  clear c6
  obtain ⟨ji7, hji7⟩ : ∃ j_ : Int, (wrap64 (a3 - 1)) = j_ := ⟨_, rfl⟩
  replace H : (if 0 ≤ (ji7) then (if (ji7) < (l2.length : Int) then (if t435 = (rd l2 (ji7)) then (if 0 ≤ a3 then (if a3 ≤ (l1.length : Int) then ((larderlaw16_sameEntries.f k t434 (l1.take (a3 : Int).toNat)).bind fun t443 => (some t443)) else (none)) else (none)) else (some false)) else (none)) else (none)) = some r := by first | (rw [hji7] at H; exact H) | (simp only [hji7] at H ⊢; exact H)
  (try rw [hji7] at A5)
  have hji7w : (IntKind.i64.wrap (a3 - 1)) = ji7 := (i64_w _).trans hji7
  by_cases c8 : 0 ≤ (ji7)
  ·
   rw [if_pos c8] at H
   have c8b0 : decide (0 ≤ (ji7)) = true := decide_eq_true c8
   clear c8
   by_cases c9 : (ji7) < (l2.length : Int)
   ·
    rw [if_pos c9] at H
    have c9b0 : decide ((ji7) < (l2.length : Int)) = true := decide_eq_true c9
    clear c9
    by_cases c10 : t435 = (rd l2 (ji7))
    ·
     rw [if_pos c10] at H
     have c10b0 : (t435 == (rd l2 (ji7))) = true := beq_iff_eq.mpr c10
     have c10b1 : (t435 != (rd l2 (ji7))) = false := bne_eq_false_iff_eq.mpr c10
     clear c10
     by_cases c11 : 0 ≤ a3
     ·
      rw [if_pos c11] at H
      have c11b0 := eq_true c11
      have c11b1 : decide (0 ≤ a3) = true := decide_eq_true c11
      clear c11
      by_cases c12 : a3 ≤ (l1.length : Int)
      ·
       rw [if_pos c12] at H
       have c12b0 := eq_true c12
       have c12b1 : decide (a3 ≤ (l1.length : Int)) = true := decide_eq_true c12
       clear c12
       obtain ⟨y439, hy439⟩ : ∃ y_ : List (S33), y_ = (l1.take (a3 : Int).toNat) := ⟨_, rfl⟩
       replace H : ((larderlaw16_sameEntries.f k t434 y439).bind fun t443 => (some t443)) = some r := by first | (rw [hy439]; with_reducible exact H) | (have H2_ := (Option.bind_some _ _).symm.trans H; rw [hy439]; with_reducible exact H2_) | (have H2_ := (Option.bind_some _ _).symm.trans H; with_reducible exact H2_) | with_reducible exact H | (rw [hy439]; exact H) | exact H
       have Ny439 := ak hy439
       clear hy439
       replace H := Option.bind_eq_some_iff.mp H
       obtain ⟨t443, A130, H⟩ := H
       replace H : (some t443) = some r := H
       have A13 := ak A130
       clear A130
       obtain rfl := Option.some.inj H
       go_enter Try.func35, Try.ntmps35
       go_wp2_with (first | ((with_reducible refine gate_callee (f := 30) rfl ?_); refine goesL_ (some 14) rfl rfl Try.func30 (by kernel_rfl) rfl #[.slice A0 l0.length c0] rfl (by (try simp only [List.map_toArray, List.map_cons, List.map_nil]); first | done | rfl) ?_; (with_reducible refine (record_Read.calls k _ _ l0 t434 t435 _ ?side1 ?side2 A5.out).mono ?_); (case side1 => repeat (first | exact HR0.out | (with_reducible refine Kd.C_alloc ?_ _) | (with_reducible refine Kd.C_drewN ?_ _) | (with_reducible refine Kd.C_drew ?_))); (case side2 => exact HC0.out); rintro e w14 ⟨v436, rfl, ho0, hb⟩; refine ⟨_, rfl, ?_⟩; have n0_ := ak (Kd.R_lower ho0 (below_size (by repeat (first | exact HB.out | apply bA | apply bN | apply b1)))); have n1_ := ak (below_step (by repeat (first | exact HB.out | apply bA | apply bN | apply b1)) hb); clear HB; have HO437 := n0_; have HB := n1_; clear n0_ n1_; (try clear hb); (try clear hb2); (try clear hk); (try clear hi); (try clear ho0); have p438 : 0 ≤ ((ji7) : Int) := of_decide_eq_true (by assumption); have q438 : (ji7) < (l2.length : Int) := of_decide_eq_true (by assumption); obtain ⟨ad438, e438, hx438_0⟩ := Kd.at_int HR2.out (ji7) p438 q438; cases e438; replace hx438_0 := (HB.out.cell (World.block_lt_of_cell? w _ hx438_0)).trans hx438_0; replace p438 := eq_true p438; replace q438 := eq_true q438; have q15 : (a3 : Int) ≤ ((l1.length : Int) : Int) := of_decide_eq_true (by assumption); obtain ⟨i015, hi015, _, hsz15, _⟩ := info_parts info33; have hroom15 : l1.length ≤ c1 := HC1.out; have hC15 : Kd.C k33 _ A1 l1.length l1 := HR1.out; have hcut15 := cut_to (P := Try.prog) 29 33 .i64 Try.underlying29 hi015 A1 l1.length c1 a3 (of_decide_eq_true (by assumption)) q15 hroom15; have hr15 := Kd.C_take (m := (a3 : Int).toNat) hC15 (by omega); have hy15 : y439.length = (a3 : Int).toNat := (by rw [Ny439.out, List.length_take]; omega); rw [← Ny439.out] at hr15; rw [← hy15] at hcut15; have HR442 := ak hr15; have HC442 := ak (show y439.length ≤ c1 from by omega); clear hr15 hC15 hroom15 hi015 hsz15; have KY15 := ak hy15; clear hy15; replace q15 := eq_true q15; obtain ⟨Ao16, co16, eo16⟩ := Kd.R_slice HO437.out; subst eo16) | (go_at_call 33; (with_reducible refine (larderlaw16_sameEntries.calls k _ _ t434 _ _ y439 t443 _ ?side1 ?side2 ?side3 ?side4 A13.out).mono ?_); (case side1 => repeat (first | exact (Kd.R_reads' HO437.out).2.2 | (with_reducible refine Kd.C_alloc ?_ _) | (with_reducible refine Kd.C_drewN ?_ _) | (with_reducible refine Kd.C_drew ?_))); (case side2 => exact (Kd.R_reads' HO437.out).2.1); (case side3 => repeat (first | exact (Kd.C_below HR442.out HB.out) | (with_reducible refine Kd.C_alloc ?_ _) | (with_reducible refine Kd.C_drewN ?_ _) | (with_reducible refine Kd.C_drew ?_))); (case side4 => exact HC442.out); rintro e w17 ⟨rfl, hb⟩; have n0_ := ak (Kd.R_below (by (with_reducible repeat (first | apply Kd.R_alloc | apply Kd.R_drewN | apply Kd.R_drew)); exact HO437.out) hb); have n1_ := ak (below_step (by repeat (first | exact HB.out | apply bA | apply bN | apply b1)) hb); clear HO437; clear HB; have HO437 := n0_; have HB := n1_; clear n0_ n1_; (try clear hb); (try clear hb2); (try clear hk); (try clear hi)))
       go_ret
       exact ⟨by first | rfl | (simp [errW_none, errW_some] <;> rfl) | (simp only [← hji7]; first | rfl | (simp [errW_none, errW_some] <;> rfl)) | (simp [*, errW_none, errW_some] <;> rfl), by repeat (first | exact HB.out | apply bA | apply bN | apply b1)⟩
      ·
       rw [if_neg c12] at H
       exact absurd H (by simp)
     ·
      rw [if_neg c11] at H
      exact absurd H (by simp)
    ·
     rw [if_neg c10] at H
     have c10b0 : (t435 == (rd l2 (ji7))) = false := beq_eq_false_iff_ne.mpr c10
     have c10b1 : (t435 != (rd l2 (ji7))) = true := bne_iff_ne.mpr c10
     obtain rfl := Option.some.inj H
     go_enter Try.func35, Try.ntmps35
     go_wp2_with (first | ((with_reducible refine gate_callee (f := 30) rfl ?_); refine goesL_ (some 14) rfl rfl Try.func30 (by kernel_rfl) rfl #[.slice A0 l0.length c0] rfl (by (try simp only [List.map_toArray, List.map_cons, List.map_nil]); first | done | rfl) ?_; (with_reducible refine (record_Read.calls k _ _ l0 t434 t435 _ ?side1 ?side2 A5.out).mono ?_); (case side1 => repeat (first | exact HR0.out | (with_reducible refine Kd.C_alloc ?_ _) | (with_reducible refine Kd.C_drewN ?_ _) | (with_reducible refine Kd.C_drew ?_))); (case side2 => exact HC0.out); rintro e w18 ⟨v436, rfl, ho0, hb⟩; refine ⟨_, rfl, ?_⟩; have n0_ := ak (Kd.R_lower ho0 (below_size (by repeat (first | exact HB.out | apply bA | apply bN | apply b1)))); have n1_ := ak (below_step (by repeat (first | exact HB.out | apply bA | apply bN | apply b1)) hb); clear HB; have HO437 := n0_; have HB := n1_; clear n0_ n1_; (try clear hb); (try clear hb2); (try clear hk); (try clear hi); (try clear ho0); have p438 : 0 ≤ ((ji7) : Int) := of_decide_eq_true (by assumption); have q438 : (ji7) < (l2.length : Int) := of_decide_eq_true (by assumption); obtain ⟨ad438, e438, hx438_0⟩ := Kd.at_int HR2.out (ji7) p438 q438; cases e438; replace hx438_0 := (HB.out.cell (World.block_lt_of_cell? w _ hx438_0)).trans hx438_0; replace p438 := eq_true p438; replace q438 := eq_true q438))
     go_ret
     exact ⟨by first | rfl | (simp [errW_none, errW_some] <;> rfl) | (simp only [← hji7]; first | rfl | (simp [errW_none, errW_some] <;> rfl)) | (simp [*, errW_none, errW_some] <;> rfl), by repeat (first | exact HB.out | apply bA | apply bN | apply b1)⟩
   ·
    rw [if_neg c9] at H
    exact absurd H (by simp)
  ·
   rw [if_neg c8] at H
   exact absurd H (by simp)
 ·
  rw [if_neg c6] at H
  have c6b0 : decide (0 < a3) = false := decide_eq_false c6
  clear c6
  by_cases c19 : t435 = 0
  ·
   rw [if_pos c19] at H
   have c19b0 : (t435 == 0) = true := beq_iff_eq.mpr c19
   have c19b1 : (t435 != 0) = false := bne_eq_false_iff_eq.mpr c19
   clear c19
   by_cases c20 : 0 ≤ a3
   ·
    rw [if_pos c20] at H
    have c20b0 := eq_true c20
    have c20b1 : decide (0 ≤ a3) = true := decide_eq_true c20
    clear c20
    by_cases c21 : a3 ≤ (l1.length : Int)
    ·
     rw [if_pos c21] at H
     have c21b0 := eq_true c21
     have c21b1 : decide (a3 ≤ (l1.length : Int)) = true := decide_eq_true c21
     clear c21
     obtain ⟨y444, hy444⟩ : ∃ y_ : List (S33), y_ = (l1.take (a3 : Int).toNat) := ⟨_, rfl⟩
     replace H : ((larderlaw16_sameEntries.f k t434 y444).bind fun t448 => (some t448)) = some r := by first | (rw [hy444]; with_reducible exact H) | (have H2_ := (Option.bind_some _ _).symm.trans H; rw [hy444]; with_reducible exact H2_) | (have H2_ := (Option.bind_some _ _).symm.trans H; with_reducible exact H2_) | with_reducible exact H | (rw [hy444]; exact H) | exact H
     have Ny444 := ak hy444
     clear hy444
     replace H := Option.bind_eq_some_iff.mp H
     obtain ⟨t448, A220, H⟩ := H
     replace H : (some t448) = some r := H
     have A22 := ak A220
     clear A220
     obtain rfl := Option.some.inj H
     go_enter Try.func35, Try.ntmps35
     go_wp2_with (first | ((with_reducible refine gate_callee (f := 30) rfl ?_); refine goesL_ (some 14) rfl rfl Try.func30 (by kernel_rfl) rfl #[.slice A0 l0.length c0] rfl (by (try simp only [List.map_toArray, List.map_cons, List.map_nil]); first | done | rfl) ?_; (with_reducible refine (record_Read.calls k _ _ l0 t434 t435 _ ?side1 ?side2 A5.out).mono ?_); (case side1 => repeat (first | exact HR0.out | (with_reducible refine Kd.C_alloc ?_ _) | (with_reducible refine Kd.C_drewN ?_ _) | (with_reducible refine Kd.C_drew ?_))); (case side2 => exact HC0.out); rintro e w23 ⟨v436, rfl, ho0, hb⟩; refine ⟨_, rfl, ?_⟩; have n0_ := ak (Kd.R_lower ho0 (below_size (by repeat (first | exact HB.out | apply bA | apply bN | apply b1)))); have n1_ := ak (below_step (by repeat (first | exact HB.out | apply bA | apply bN | apply b1)) hb); clear HB; have HO437 := n0_; have HB := n1_; clear n0_ n1_; (try clear hb); (try clear hb2); (try clear hk); (try clear hi); (try clear ho0); have q24 : (a3 : Int) ≤ ((l1.length : Int) : Int) := of_decide_eq_true (by assumption); obtain ⟨i024, hi024, _, hsz24, _⟩ := info_parts info33; have hroom24 : l1.length ≤ c1 := HC1.out; have hC24 : Kd.C k33 _ A1 l1.length l1 := HR1.out; have hcut24 := cut_to (P := Try.prog) 29 33 .i64 Try.underlying29 hi024 A1 l1.length c1 a3 (of_decide_eq_true (by assumption)) q24 hroom24; have hr24 := Kd.C_take (m := (a3 : Int).toNat) hC24 (by omega); have hy24 : y444.length = (a3 : Int).toNat := (by rw [Ny444.out, List.length_take]; omega); rw [← Ny444.out] at hr24; rw [← hy24] at hcut24; have HR447 := ak hr24; have HC447 := ak (show y444.length ≤ c1 from by omega); clear hr24 hC24 hroom24 hi024 hsz24; have KY24 := ak hy24; clear hy24; replace q24 := eq_true q24; obtain ⟨Ao25, co25, eo25⟩ := Kd.R_slice HO437.out; subst eo25) | (go_at_call 33; (with_reducible refine (larderlaw16_sameEntries.calls k _ _ t434 _ _ y444 t448 _ ?side1 ?side2 ?side3 ?side4 A22.out).mono ?_); (case side1 => repeat (first | exact (Kd.R_reads' HO437.out).2.2 | (with_reducible refine Kd.C_alloc ?_ _) | (with_reducible refine Kd.C_drewN ?_ _) | (with_reducible refine Kd.C_drew ?_))); (case side2 => exact (Kd.R_reads' HO437.out).2.1); (case side3 => repeat (first | exact (Kd.C_below HR447.out HB.out) | (with_reducible refine Kd.C_alloc ?_ _) | (with_reducible refine Kd.C_drewN ?_ _) | (with_reducible refine Kd.C_drew ?_))); (case side4 => exact HC447.out); rintro e w26 ⟨rfl, hb⟩; have n0_ := ak (Kd.R_below (by (with_reducible repeat (first | apply Kd.R_alloc | apply Kd.R_drewN | apply Kd.R_drew)); exact HO437.out) hb); have n1_ := ak (below_step (by repeat (first | exact HB.out | apply bA | apply bN | apply b1)) hb); clear HO437; clear HB; have HO437 := n0_; have HB := n1_; clear n0_ n1_; (try clear hb); (try clear hb2); (try clear hk); (try clear hi)))
     go_ret
     exact ⟨by first | rfl | (simp [errW_none, errW_some] <;> rfl) | (simp [*, errW_none, errW_some] <;> rfl), by repeat (first | exact HB.out | apply bA | apply bN | apply b1)⟩
    ·
     rw [if_neg c21] at H
     exact absurd H (by simp)
   ·
    rw [if_neg c20] at H
    exact absurd H (by simp)
  ·
   rw [if_neg c19] at H
   have c19b0 : (t435 == 0) = false := beq_eq_false_iff_ne.mpr c19
   have c19b1 : (t435 != 0) = true := bne_iff_ne.mpr c19
   obtain rfl := Option.some.inj H
   go_enter Try.func35, Try.ntmps35
   go_wp2_with (first | ((with_reducible refine gate_callee (f := 30) rfl ?_); refine goesL_ (some 14) rfl rfl Try.func30 (by kernel_rfl) rfl #[.slice A0 l0.length c0] rfl (by (try simp only [List.map_toArray, List.map_cons, List.map_nil]); first | done | rfl) ?_; (with_reducible refine (record_Read.calls k _ _ l0 t434 t435 _ ?side1 ?side2 A5.out).mono ?_); (case side1 => repeat (first | exact HR0.out | (with_reducible refine Kd.C_alloc ?_ _) | (with_reducible refine Kd.C_drewN ?_ _) | (with_reducible refine Kd.C_drew ?_))); (case side2 => exact HC0.out); rintro e w27 ⟨v436, rfl, ho0, hb⟩; refine ⟨_, rfl, ?_⟩; have n0_ := ak (Kd.R_lower ho0 (below_size (by repeat (first | exact HB.out | apply bA | apply bN | apply b1)))); have n1_ := ak (below_step (by repeat (first | exact HB.out | apply bA | apply bN | apply b1)) hb); clear HB; have HO437 := n0_; have HB := n1_; clear n0_ n1_; (try clear hb); (try clear hb2); (try clear hk); (try clear hi); (try clear ho0)))
   go_ret
   exact ⟨by first | rfl | (simp [errW_none, errW_some] <;> rfl) | (simp [*, errW_none, errW_some] <;> rfl), by repeat (first | exact HB.out | apply bA | apply bN | apply b1)⟩

end Go.Proofs.Ytdhkhjfjjbdkgaa.Rec
