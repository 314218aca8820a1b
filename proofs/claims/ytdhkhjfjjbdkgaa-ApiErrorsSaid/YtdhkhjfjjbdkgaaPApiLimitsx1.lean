-- PRINTED BY print.sh 35421559b90ae4d0a3588c463048766b98c2df88dd9212a6774a882060cdf62d: not written by this session
import Derived.Test.YtdhkhjfjjbdkgaaPApiLimitsx0
namespace Go.Proofs.Ytdhkhjfjjbdkgaa.PApiLimits
open Go.RowKit Go.Proofs.YtdhkhjfjjbdkgaaW.PrintWords Go.Proofs.YtdhkhjfjjbdkgaaW.PrintLast Go.Proofs.YtdhkhjfjjbdkgaaW.PrintMore
attribute [local go_sem] max2_int min2_int max_two min_two max_three min_three max_four min_four   -- for this text's walks alone
set_option linter.unusedVariables false
set_option linter.unusedSimpArgs false

/-! ### larderlaw0_all: function 11 -/
def larderlaw0_all.l0 : Nat → List (S68) → Int → Option (Bool)
  | 0, _, _ => none
  | k + 1, x0, x3 => if x3 < (x0.length : Int) then (if 0 ≤ x3 then (if ((rd_T68 x0 x3).f0) = ((rd_T68 x0 x3).f1) then (larderlaw0_all.l0 k x0 (wrap64 (x3 + 1))) else (some false)) else (none)) else (if (x0.length : Int) > 0 then (some true) else (some false))
def larderlaw0_all.f (k : Nat) (l0 : List (S68)) : Option (Bool) := larderlaw0_all.l0 k l0 0
theorem larderlaw0_all.mono_l : ∀ k, (∀ y0 y1, LeO (larderlaw0_all.l0 k y0 y1) (larderlaw0_all.l0 (k + 1) y0 y1))
  | 0 => fun _ _ r h => by simp [larderlaw0_all.l0] at h
  | k + 1 => by
    have ih0 := larderlaw0_all.mono_l k
    · intro y0 y1
      unfold larderlaw0_all.l0
      repeat' first
      | (with_reducible exact ih0 _ _)
      | (with_reducible exact LeO.refl _)
      | (with_reducible exact LeO.none _)
      | (with_reducible refine LeO.ite ?_ ?_)
      | (with_reducible refine LeO.bind ?_ (fun _ => ?_))
      | exact ih0 _ _
      | exact LeO.none _
      | refine LeO.ite ?_ ?_
      | refine LeO.bind ?_ (fun _ => ?_)
theorem larderlaw0_all.mono : ∀ a0 k, LeO (larderlaw0_all.f k a0) (larderlaw0_all.f (k + 1) a0) := by
  intro a0 k
  have ih0 := larderlaw0_all.mono_l k
  unfold larderlaw0_all.f
  repeat' first
      | (with_reducible exact ih0 _ _)
      | (with_reducible exact LeO.refl _)
      | (with_reducible exact LeO.none _)
      | (with_reducible refine LeO.ite ?_ ?_)
      | (with_reducible refine LeO.bind ?_ (fun _ => ?_))
      | exact ih0 _ _
      | exact LeO.none _
      | refine LeO.ite ?_ ?_
      | refine LeO.bind ?_ (fun _ => ?_)
set_option maxHeartbeats 8000000 in
set_option maxRecDepth 100000 in
theorem larderlaw0_all.calls (k : Nat) (A0 : Option Addr) (c0 : Nat) (l0 : List (S68)) (r : Bool) (w : World) (hr0 : Kd.C k68 w A0 l0.length l0) (hc0 : l0.length ≤ c0) (h : larderlaw0_all.f k l0 = some r) :
    Calls Try.prog 11 #[.slice A0 l0.length c0] w fun e w' => e = .returned (.bool r) ∧ Drawn0 w w' := by
  have HR0 := Aside0.mk hr0
  have HC0 := Aside0.mk hc0
  clear hr0 hc0
  have H : (larderlaw0_all.l0 k l0 0) = some r := h
  clear h
  have H' := Aside0.mk H
  clear H
  go_enter Try.func11, Try.ntmps11
  go_wp2
  repeat (go_quiet (fail); try go_wp2)
  go_loopg [3] k (fun kq v3 w' => ∃ (x3_1 : Int), v3 = .int .i64 x3_1 ∧ Aside0 (larderlaw0_all.l0 kq l0 x3_1 = some r) ∧ Aside0 (kq ≤ k) ∧ Drawn0 w w')
  case atStart => exact ⟨(0), (by first | rfl | (simp; done) | (simp [*]; done)), H', ⟨Nat.le_refl _⟩, by repeat (first | exact Drawn0.refl _ | apply Drawn0.step)⟩
  case round =>
    clear H'
    try clear c1
    obtain ⟨x3_1, rfl, HA, HK1, ⟨m1, rfl⟩⟩ := hrel
    cases gk with
    | zero => exact absurd HA.out (by simp [larderlaw0_all.l0])
    | succ k1 =>
      have H := HA.out
      clear HA
      simp only [larderlaw0_all.l0] at H
      by_cases c2 : x3_1 < (l0.length : Int)
      · rw [if_pos c2] at H
        have c2b0 : decide (x3_1 < (l0.length : Int)) = true := decide_eq_true c2
        clear c2
        by_cases c3 : 0 ≤ x3_1
        · rw [if_pos c3] at H
          have c3b0 : decide (0 ≤ x3_1) = true := decide_eq_true c3
          clear c3
          by_cases c4 : ((rd_T68 l0 x3_1).f0) = ((rd_T68 l0 x3_1).f1)
          · rw [if_pos c4] at H
            have c4b0 : (((rd_T68 l0 x3_1).f0) == ((rd_T68 l0 x3_1).f1)) = true := beq_iff_eq.mpr c4
            have c4b1 : (((rd_T68 l0 x3_1).f0) != ((rd_T68 l0 x3_1).f1)) = false := bne_eq_false_iff_eq.mpr c4
            clear c4
            have H' := Aside0.mk H
            clear H
            have p101 : 0 ≤ (x3_1 : Int) := of_decide_eq_true (by first | (with_reducible assumption) | assumption)
            have q101 : x3_1 < (l0.length : Int) := of_decide_eq_true (by first | (with_reducible assumption) | assumption)
            obtain ⟨ad101, e101, hx101_0, hx101_1⟩ := at_T68 HR0.out x3_1 p101 q101
            cases e101
            replace p101 := eq_true p101
            replace q101 := eq_true q101
            have p102 : 0 ≤ (x3_1 : Int) := of_decide_eq_true (by first | (with_reducible assumption) | assumption)
            have q102 : x3_1 < (l0.length : Int) := of_decide_eq_true (by first | (with_reducible assumption) | assumption)
            obtain ⟨ad102, e102, hx102_0, hx102_1⟩ := at_T68 HR0.out x3_1 p102 q102
            obtain rfl : ad101 = ad102 := (by injection e102)
            replace p102 := eq_true p102
            replace q102 := eq_true q102
            go_wp2
            repeat (go_quiet (fail); try go_wp2)
            go_roundg k1
            case measure => have := HK1.out; omega
            case rel => exact ⟨(wrap64 (x3_1 + 1)), (by first | rfl | (simp; done) | (simp [*]; done)), H', ⟨by have := HK1.out; omega⟩, by repeat (first | exact Drawn0.refl _ | apply Drawn0.step)⟩
          · rw [if_neg c4] at H
            have c4b0 : (((rd_T68 l0 x3_1).f0) == ((rd_T68 l0 x3_1).f1)) = false := beq_eq_false_iff_ne.mpr c4
            have c4b1 : (((rd_T68 l0 x3_1).f0) != ((rd_T68 l0 x3_1).f1)) = true := bne_iff_ne.mpr c4
            obtain rfl := Option.some.inj H
            have p101 : 0 ≤ (x3_1 : Int) := of_decide_eq_true (by first | (with_reducible assumption) | assumption)
            have q101 : x3_1 < (l0.length : Int) := of_decide_eq_true (by first | (with_reducible assumption) | assumption)
            obtain ⟨ad101, e101, hx101_0, hx101_1⟩ := at_T68 HR0.out x3_1 p101 q101
            cases e101
            replace p101 := eq_true p101
            replace q101 := eq_true q101
            have p102 : 0 ≤ (x3_1 : Int) := of_decide_eq_true (by first | (with_reducible assumption) | assumption)
            have q102 : x3_1 < (l0.length : Int) := of_decide_eq_true (by first | (with_reducible assumption) | assumption)
            obtain ⟨ad102, e102, hx102_0, hx102_1⟩ := at_T68 HR0.out x3_1 p102 q102
            obtain rfl : ad101 = ad102 := (by injection e102)
            replace p102 := eq_true p102
            replace q102 := eq_true q102
            go_wp2
            repeat (go_quiet (fail); try go_wp2)
            go_ret
            exact ⟨by first | rfl | (simp; done) | (simp [*]; done), by repeat (first | exact Drawn0.refl _ | apply Drawn0.step)⟩
        · rw [if_neg c3] at H
          exact absurd H (by simp)
      · rw [if_neg c2] at H
        have c2b0 : decide (x3_1 < (l0.length : Int)) = false := decide_eq_false c2
        clear c2
        by_cases c5 : (l0.length : Int) > 0
        · rw [if_pos c5] at H
          have c5b0 : decide (0 < (l0.length : Int)) = true := decide_eq_true c5
          have c5b1 : decide (0 < l0.length) = true := decide_eq_true (by omega)
          clear c5
          obtain rfl := Option.some.inj H
          go_wp2
          repeat (go_quiet (fail); try go_wp2)
          go_ret
          exact ⟨by first | rfl | (simp; done) | (simp [*]; done), by repeat (first | exact Drawn0.refl _ | apply Drawn0.step)⟩
        · rw [if_neg c5] at H
          have c5b0 : decide (0 < (l0.length : Int)) = false := decide_eq_false c5
          have c5b1 : decide (0 < l0.length) = false := decide_eq_false (by omega)
          clear c5
          obtain rfl := Option.some.inj H
          go_wp2
          repeat (go_quiet (fail); try go_wp2)
          go_ret
          exact ⟨by first | rfl | (simp; done) | (simp [*]; done), by repeat (first | exact Drawn0.refl _ | apply Drawn0.step)⟩

/-! ### larderlaw0_limits: function 14 -/
def larderlaw0_limits.f  : Option ((List (S68))) := some (([(⟨4096, 4096⟩ : S68), (⟨128, 128⟩ : S68), (⟨8, 8⟩ : S68), (⟨4, 4⟩ : S68), (⟨8, 8⟩ : S68), (⟨256, 256⟩ : S68), (⟨16384, 16384⟩ : S68), (⟨4503599627370496, 4503599627370496⟩ : S68), (⟨255, 255⟩ : S68), (⟨1048576, 1048576⟩ : S68), (⟨1048576, 1048576⟩ : S68), (⟨64, 64⟩ : S68), (⟨64, 64⟩ : S68), (⟨8, 8⟩ : S68), (⟨4096, 4096⟩ : S68), (⟨64, 64⟩ : S68), (⟨64, 64⟩ : S68), (⟨64, 64⟩ : S68), (⟨64, 64⟩ : S68), (⟨1024, 1024⟩ : S68), (⟨65536, 65536⟩ : S68), (⟨65536, 65536⟩ : S68)] : List (S68)))
set_option maxHeartbeats 8000000 in
set_option maxRecDepth 100000 in
theorem larderlaw0_limits.calls  (r : List (S68)) (w : World) (h : larderlaw0_limits.f  = some r) :
    Calls Try.prog 14 #[] w fun e w' => ∃ v0_ : Value, e = .returned (v0_) ∧ Kd.R k68 68 w' w.heap.size (fun _ => True) v0_ r ∧ Below w.heap.size w w' := by
  have hu68 := Try.underlying68
  have HB := Aside0.mk (Below.refl w.heap.size w)
  have H : (some (([(⟨4096, 4096⟩ : S68), (⟨128, 128⟩ : S68), (⟨8, 8⟩ : S68), (⟨4, 4⟩ : S68), (⟨8, 8⟩ : S68), (⟨256, 256⟩ : S68), (⟨16384, 16384⟩ : S68), (⟨4503599627370496, 4503599627370496⟩ : S68), (⟨255, 255⟩ : S68), (⟨1048576, 1048576⟩ : S68), (⟨1048576, 1048576⟩ : S68), (⟨64, 64⟩ : S68), (⟨64, 64⟩ : S68), (⟨8, 8⟩ : S68), (⟨4096, 4096⟩ : S68), (⟨64, 64⟩ : S68), (⟨64, 64⟩ : S68), (⟨64, 64⟩ : S68), (⟨64, 64⟩ : S68), (⟨1024, 1024⟩ : S68), (⟨65536, 65536⟩ : S68), (⟨65536, 65536⟩ : S68)] : List (S68)))) = some r := h
  clear h
  obtain ⟨y103, hy103⟩ : ∃ y_ : List (S68), y_ = (([(⟨4096, 4096⟩ : S68), (⟨128, 128⟩ : S68), (⟨8, 8⟩ : S68), (⟨4, 4⟩ : S68), (⟨8, 8⟩ : S68), (⟨256, 256⟩ : S68), (⟨16384, 16384⟩ : S68), (⟨4503599627370496, 4503599627370496⟩ : S68), (⟨255, 255⟩ : S68), (⟨1048576, 1048576⟩ : S68), (⟨1048576, 1048576⟩ : S68), (⟨64, 64⟩ : S68), (⟨64, 64⟩ : S68), (⟨8, 8⟩ : S68), (⟨4096, 4096⟩ : S68), (⟨64, 64⟩ : S68), (⟨64, 64⟩ : S68), (⟨64, 64⟩ : S68), (⟨64, 64⟩ : S68), (⟨1024, 1024⟩ : S68), (⟨65536, 65536⟩ : S68), (⟨65536, 65536⟩ : S68)] : List (S68))) := ⟨_, rfl⟩
  replace H : (some y103) = some r := by first | (rw [hy103]; with_reducible exact H) | (have H2_ := (Option.bind_some _ _).symm.trans H; rw [hy103]; with_reducible exact H2_) | (have H2_ := (Option.bind_some _ _).symm.trans H; with_reducible exact H2_) | with_reducible exact H | (rw [hy103]; exact H) | exact H
  have Ny103 := Aside0.mk hy103
  clear hy103
  obtain rfl := Option.some.inj H
  go_enter Try.func14, Try.ntmps14
  go_wp2_with (first | ((with_reducible refine gate_dst (N := 23) rfl ?_); refine Kd.R_lit k68 _ 68 ?hg (N := 23) ?hd (xs := ([(⟨4096, 4096⟩ : S68), (⟨128, 128⟩ : S68), (⟨8, 8⟩ : S68), (⟨4, 4⟩ : S68), (⟨8, 8⟩ : S68), (⟨256, 256⟩ : S68), (⟨16384, 16384⟩ : S68), (⟨4503599627370496, 4503599627370496⟩ : S68), (⟨255, 255⟩ : S68), (⟨1048576, 1048576⟩ : S68), (⟨1048576, 1048576⟩ : S68), (⟨64, 64⟩ : S68), (⟨64, 64⟩ : S68), (⟨8, 8⟩ : S68), (⟨4096, 4096⟩ : S68), (⟨64, 64⟩ : S68), (⟨64, 64⟩ : S68), (⟨64, 64⟩ : S68), (⟨64, 64⟩ : S68), (⟨1024, 1024⟩ : S68), (⟨65536, 65536⟩ : S68), (⟨65536, 65536⟩ : S68)] : List (S68))) (inner := [.int .i64 4096, .int .i64 4096, .int .i64 128, .int .i64 128, .int .i64 8, .int .i64 8, .int .i64 4, .int .i64 4, .int .i64 8, .int .i64 8, .int .i64 256, .int .i64 256, .int .i64 16384, .int .i64 16384, .int .i64 4503599627370496, .int .i64 4503599627370496, .int .i64 255, .int .i64 255, .int .i64 1048576, .int .i64 1048576, .int .i64 1048576, .int .i64 1048576, .int .i64 64, .int .i64 64, .int .i64 64, .int .i64 64, .int .i64 8, .int .i64 8, .int .i64 4096, .int .i64 4096, .int .i64 64, .int .i64 64, .int .i64 64, .int .i64 64, .int .i64 64, .int .i64 64, .int .i64 64, .int .i64 64, .int .i64 1024, .int .i64 1024, .int .i64 65536, .int .i64 65536, .int .i64 65536, .int .i64 65536]) (ok := fun _ => True) (okp := fun _ => True) ?hr ?hp (fun _ hk => hk) trivial (Below.refl _ _) (Nat.le_refl _) (by simp) ?_; (case hd => rfl); (case hg => rfl); (case hr => first | (go_simp; done) | (go_simp; rfl)); (case hp => exact (Reps.c2 (show Kd.M k68 _ _ _ (⟨4096, 4096⟩ : S68) [.int .i64 4096, .int .i64 4096] from (k68_mkM _ _ _ (⟨4096, 4096⟩ : S68) )) (Reps.c2 (show Kd.M k68 _ _ _ (⟨128, 128⟩ : S68) [.int .i64 128, .int .i64 128] from (k68_mkM _ _ _ (⟨128, 128⟩ : S68) )) (Reps.c2 (show Kd.M k68 _ _ _ (⟨8, 8⟩ : S68) [.int .i64 8, .int .i64 8] from (k68_mkM _ _ _ (⟨8, 8⟩ : S68) )) (Reps.c2 (show Kd.M k68 _ _ _ (⟨4, 4⟩ : S68) [.int .i64 4, .int .i64 4] from (k68_mkM _ _ _ (⟨4, 4⟩ : S68) )) (Reps.c2 (show Kd.M k68 _ _ _ (⟨8, 8⟩ : S68) [.int .i64 8, .int .i64 8] from (k68_mkM _ _ _ (⟨8, 8⟩ : S68) )) (Reps.c2 (show Kd.M k68 _ _ _ (⟨256, 256⟩ : S68) [.int .i64 256, .int .i64 256] from (k68_mkM _ _ _ (⟨256, 256⟩ : S68) )) (Reps.c2 (show Kd.M k68 _ _ _ (⟨16384, 16384⟩ : S68) [.int .i64 16384, .int .i64 16384] from (k68_mkM _ _ _ (⟨16384, 16384⟩ : S68) )) (Reps.c2 (show Kd.M k68 _ _ _ (⟨4503599627370496, 4503599627370496⟩ : S68) [.int .i64 4503599627370496, .int .i64 4503599627370496] from (k68_mkM _ _ _ (⟨4503599627370496, 4503599627370496⟩ : S68) )) (Reps.c2 (show Kd.M k68 _ _ _ (⟨255, 255⟩ : S68) [.int .i64 255, .int .i64 255] from (k68_mkM _ _ _ (⟨255, 255⟩ : S68) )) (Reps.c2 (show Kd.M k68 _ _ _ (⟨1048576, 1048576⟩ : S68) [.int .i64 1048576, .int .i64 1048576] from (k68_mkM _ _ _ (⟨1048576, 1048576⟩ : S68) )) (Reps.c2 (show Kd.M k68 _ _ _ (⟨1048576, 1048576⟩ : S68) [.int .i64 1048576, .int .i64 1048576] from (k68_mkM _ _ _ (⟨1048576, 1048576⟩ : S68) )) (Reps.c2 (show Kd.M k68 _ _ _ (⟨64, 64⟩ : S68) [.int .i64 64, .int .i64 64] from (k68_mkM _ _ _ (⟨64, 64⟩ : S68) )) (Reps.c2 (show Kd.M k68 _ _ _ (⟨64, 64⟩ : S68) [.int .i64 64, .int .i64 64] from (k68_mkM _ _ _ (⟨64, 64⟩ : S68) )) (Reps.c2 (show Kd.M k68 _ _ _ (⟨8, 8⟩ : S68) [.int .i64 8, .int .i64 8] from (k68_mkM _ _ _ (⟨8, 8⟩ : S68) )) (Reps.c2 (show Kd.M k68 _ _ _ (⟨4096, 4096⟩ : S68) [.int .i64 4096, .int .i64 4096] from (k68_mkM _ _ _ (⟨4096, 4096⟩ : S68) )) (Reps.c2 (show Kd.M k68 _ _ _ (⟨64, 64⟩ : S68) [.int .i64 64, .int .i64 64] from (k68_mkM _ _ _ (⟨64, 64⟩ : S68) )) (Reps.c2 (show Kd.M k68 _ _ _ (⟨64, 64⟩ : S68) [.int .i64 64, .int .i64 64] from (k68_mkM _ _ _ (⟨64, 64⟩ : S68) )) (Reps.c2 (show Kd.M k68 _ _ _ (⟨64, 64⟩ : S68) [.int .i64 64, .int .i64 64] from (k68_mkM _ _ _ (⟨64, 64⟩ : S68) )) (Reps.c2 (show Kd.M k68 _ _ _ (⟨64, 64⟩ : S68) [.int .i64 64, .int .i64 64] from (k68_mkM _ _ _ (⟨64, 64⟩ : S68) )) (Reps.c2 (show Kd.M k68 _ _ _ (⟨1024, 1024⟩ : S68) [.int .i64 1024, .int .i64 1024] from (k68_mkM _ _ _ (⟨1024, 1024⟩ : S68) )) (Reps.c2 (show Kd.M k68 _ _ _ (⟨65536, 65536⟩ : S68) [.int .i64 65536, .int .i64 65536] from (k68_mkM _ _ _ (⟨65536, 65536⟩ : S68) )) (Reps.c2 (show Kd.M k68 _ _ _ (⟨65536, 65536⟩ : S68) [.int .i64 65536, .int .i64 65536] from (k68_mkM _ _ _ (⟨65536, 65536⟩ : S68) )) (Reps.none _ _)))))))))))))))))))))))); intro v104 w1 ho2 hb hg_ hnew_; clear hg_ hnew_; (first | rw [← Ny103.out] at ho2 | (simp only [Int.reduceToNat] at ho2; rw [← Ny103.out] at ho2)); have n0_ := Aside0.mk (Kd.R_lower ho2 (below_size (by repeat (first | (with_reducible first | exact HB.out | apply below_alloc | apply pw_below_drewN | apply below_drew1) | exact HB.out)))); have n1_ := Aside0.mk (below_step (by repeat (first | (with_reducible first | exact HB.out | apply below_alloc | apply pw_below_drewN | apply below_drew1) | exact HB.out)) hb); clear HB; have HO105 := n0_; have HB := n1_; clear n0_ n1_; clear hb ho2))
  go_ret
  exact ⟨_, by first | rfl | (simp [errW_none, errW_some] <;> rfl) | (simp [*, errW_none, errW_some] <;> rfl), by (with_reducible repeat (first | apply Kd.R_alloc | apply Kd.R_drewN | apply Kd.R_drew)); exact HO105.out, by repeat (first | (with_reducible first | exact HB.out | apply below_alloc | apply pw_below_drewN | apply below_drew1) | exact HB.out)⟩

/-! ### larderlaw0_ApiLimits: function 4 -/
def larderlaw0_ApiLimits.f (k : Nat)  : Option (Bool) := (larderlaw0_limits.f).bind fun t106 => ((larderlaw0_all.f k t106).bind fun t109 => (some t109))
theorem larderlaw0_ApiLimits.mono : ∀ k, LeO (larderlaw0_ApiLimits.f k ) (larderlaw0_ApiLimits.f (k + 1) ) := by
  intro  k
  unfold larderlaw0_ApiLimits.f
  repeat' first
      | (with_reducible exact larderlaw0_all.mono _ _)
      | (with_reducible exact LeO.refl _)
      | (with_reducible exact LeO.none _)
      | (with_reducible refine LeO.ite ?_ ?_)
      | (with_reducible refine LeO.bind ?_ (fun _ => ?_))
      | exact larderlaw0_all.mono _ _
      | exact LeO.none _
      | refine LeO.ite ?_ ?_
      | refine LeO.bind ?_ (fun _ => ?_)
set_option maxHeartbeats 8000000 in
set_option maxRecDepth 100000 in
theorem larderlaw0_ApiLimits.calls (k : Nat)  (r : Bool) (w : World) (h : larderlaw0_ApiLimits.f k  = some r) :
    Calls Try.prog 4 #[] w fun e w' => e = .returned (.bool r) ∧ Below w.heap.size w w' := by
  have HB := Aside0.mk (Below.refl w.heap.size w)
  have H : ((larderlaw0_limits.f).bind fun t106 => ((larderlaw0_all.f k t106).bind fun t109 => (some t109))) = some r := h
  clear h
  replace H := Option.bind_eq_some_iff.mp H
  obtain ⟨t106, A10, H⟩ := H
  replace H : ((larderlaw0_all.f k t106).bind fun t109 => (some t109)) = some r := H
  have A1 := Aside0.mk A10
  clear A10
  replace H := Option.bind_eq_some_iff.mp H
  obtain ⟨t109, A20, H⟩ := H
  replace H : (some t109) = some r := H
  have A2 := Aside0.mk A20
  clear A20
  obtain rfl := Option.some.inj H
  go_enter Try.func4, Try.ntmps4
  go_wp2_with (first | ((with_reducible refine gate_callee (f := 14) rfl ?_); refine goesL_ (some 1) rfl rfl Try.func14 (by kernel_rfl) rfl #[] rfl (by (try simp only [List.map_toArray, List.map_cons, List.map_nil]); first | done | rfl | (simp only [List.length_drop, List.length_take]; rfl)) ?_; (with_reducible refine (larderlaw0_limits.calls  t106 _ A1.out).mono ?_); rintro e w3 ⟨v107, rfl, ho0, hb⟩; refine ⟨_, rfl, ?_⟩; have n0_ := Aside0.mk (Kd.R_lower ho0 (below_size (by repeat (first | (with_reducible first | exact HB.out | apply below_alloc | apply pw_below_drewN | apply below_drew1) | exact HB.out)))); have n1_ := Aside0.mk (below_step (by repeat (first | (with_reducible first | exact HB.out | apply below_alloc | apply pw_below_drewN | apply below_drew1) | exact HB.out)) hb); clear HB; have HO108 := n0_; have HB := n1_; clear n0_ n1_; (try clear hb); (try clear hb2); (try clear hk); (try clear hi); (try clear ho0); obtain ⟨Ao4, co4, eo4⟩ := Kd.R_slice HO108.out; subst eo4) | ((with_reducible refine gate_callee (f := 11) rfl ?_); refine goesL_ (some 2) rfl rfl Try.func11 (by kernel_rfl) rfl #[.slice Ao4 t106.length co4] rfl (by (try simp only [List.map_toArray, List.map_cons, List.map_nil]); first | done | rfl | (simp only [List.length_drop, List.length_take]; rfl)) ?_; (with_reducible refine (larderlaw0_all.calls k _ _ t106 t109 _ ?side1 ?side2 A2.out).mono ?_); (case side1 => repeat (first | exact (Kd.R_reads' HO108.out).2.2 | (with_reducible refine Kd.C_alloc ?_ _) | (with_reducible refine Kd.C_drewN ?_ _) | (with_reducible refine Kd.C_drew ?_))); (case side2 => exact (Kd.R_reads' HO108.out).2.1); rintro e w' ⟨rfl, ⟨nd, rfl⟩⟩; refine ⟨_, rfl, ?_⟩))
  go_ret
  exact ⟨by first | rfl | (simp [errW_none, errW_some] <;> rfl) | (simp [*, errW_none, errW_some] <;> rfl), by repeat (first | (with_reducible first | exact HB.out | apply below_alloc | apply pw_below_drewN | apply below_drew1) | exact HB.out)⟩

/-- THE ONE PURE STATEMENT of larderlaw0_ApiLimits: yours. -/
def larderlaw0_ApiLimits.Pure : Prop := ∃ k, larderlaw0_ApiLimits.f k  = some true
theorem larderlaw0_ApiLimits.walk (P : larderlaw0_ApiLimits.Pure)  (w : World)  :
    Calls Try.prog 4 #[] w fun e w' => e = .returned (.bool true) ∧ Below w.heap.size w w' := by
  obtain ⟨k, h⟩ := P  
  refine (larderlaw0_ApiLimits.calls k  true w h).mono ?_
  rintro e w' ⟨rfl, hd⟩
  exact ⟨rfl, hd⟩

end Go.Proofs.Ytdhkhjfjjbdkgaa.PApiLimits
