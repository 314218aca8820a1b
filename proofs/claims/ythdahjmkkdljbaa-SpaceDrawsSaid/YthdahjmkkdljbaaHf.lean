/- Package heap: find and good, Set and Get, walked for small objects. -/
import Derived.Test.YthdahjmkkdljbaaHnew
namespace Go.Proofs.Ythdahjmkkdljbaa.Sp
open Go.RowKit Go.Proofs.YthdahjmkkdljbaaW.PrintWords Go.Proofs.YthdahjmkkdljbaaW.PrintLast Go.Proofs.YthdahjmkkdljbaaW.PrintMore
set_option linter.unusedVariables false
set_option linter.unusedSimpArgs false
theorem gone_and (n : Nat) (h : n < 9223372036854775808) : bits .and .u64 (n : Int) 9223372036854775808 = 0 := by
  have := (bits_nat .u64 64 (by decide) (fun n h0 h1 => by rw [IntKind.wrap_u64]; omega) n 9223372036854775808 (by omega) (by decide)).1
  rw [show ((9223372036854775808 : Nat) : Int) = 9223372036854775808 from rfl] at this
  rw [this]
  have : n &&& 9223372036854775808 = 0 := by
    apply Nat.eq_of_testBit_eq
    intro j
    rw [Nat.testBit_and, Nat.zero_testBit, show (9223372036854775808 : Nat) = 2 ^ 63 from rfl, Nat.testBit_two_pow]
    by_cases e : 63 = j
    · subst e
      rw [Nat.testBit_lt_two_pow (by omega), Bool.false_and]
    · rw [decide_eq_false e, Bool.and_false]
  rw [this]; rfl
set_option maxHeartbeats 4000000 in
set_option maxRecDepth 100000 in
theorem find_small (w : World) (own : Own) (hp : Nat) (M : HM) (x : HX) (H : HMem w own hp M x) (i : Nat) (hi : i < M.half.objs.length) (k r y : Nat) (hs : Shape k r y) (hh : M.half.objs[i].1 = headW k r y) (n : Nat) (hn : n = posOf M.half.objs i) :
    Calls Try.prog 36 #[.pointer (some ⟨hp, 0, none⟩), .int .u64 (n : Int)] w fun e w' => e = .returned (.tuple #[.iface 80 (.pointer (some ⟨x.ph, 0, none⟩)), .int .i64 (n : Int), .bool true]) ∧ w = w' := by
  have c1 := H.c1
  have hfit := H.half.fit
  have hs2 := H.half.s2
  have hpos := pos_used M.half.objs i hi
  have hp1 := pos_pos M.half.objs i
  have hos : 1 ≤ osize M.half.objs[i] := by unfold osize; omega
  rw [← hn] at hpos hp1
  have hgone := gone_and n (by omega)
  have e0 : ((n : Int) == 0) = false := by rw [beq_eq_false_iff_ne]; omega
  have hd : decide (usedOf M.half.objs ≤ n) = false := decide_eq_false (by omega)
  have HH := Lib.hid H; have HS := Lib.hid hs; have HHd := Lib.hid hh; have HN := Lib.hid hn
  clear H hs hh hn hos
  go_enter Try.func36, Try.ntmps36
  go_wp2_with fail
  refine (used_walk w own x.ah x.ph M.half.size M.half.objs HH.out.half).mono ?_
  rintro e w' ⟨rfl, rfl⟩
  go_wp2_with fail
  refine (object_walk w own x.ah x.ph M.half.size M.half.objs HH.out.half i hi k r y HS.out HHd.out (n : Int) (by rw [HN.out])).mono ?_
  rintro e w' ⟨rfl, rfl⟩
  go_wp2_with fail
  go_ret3
  exact ⟨rfl, rfl⟩
set_option maxHeartbeats 4000000 in
theorem good_zero (w : World) (hp : Nat) : Calls Try.prog 37 #[.pointer (some ⟨hp, 0, none⟩), .int .u64 0] w fun e w' => e = .returned (.bool true) ∧ w = w' := by
  go_enter Try.func37, Try.ntmps37
  go_wp2_with fail
  go_ret
  exact ⟨rfl, rfl⟩
set_option maxHeartbeats 4000000 in
theorem good_small (w : World) (own : Own) (hp : Nat) (M : HM) (x : HX) (H : HMem w own hp M x) (i : Nat) (hi : i < M.half.objs.length) (k r y : Nat) (hs : Shape k r y) (hh : M.half.objs[i].1 = headW k r y) (n : Nat) (hn : n = posOf M.half.objs i) :
    Calls Try.prog 37 #[.pointer (some ⟨hp, 0, none⟩), .int .u64 (n : Int)] w fun e w' => e = .returned (.bool true) ∧ w = w' := by
  have hp1 := pos_pos M.half.objs i
  rw [← hn] at hp1
  have e0 : ((n : Int) == 0) = false := by rw [beq_eq_false_iff_ne]; omega
  have HH := Lib.hid H; have HS := Lib.hid hs; have HHd := Lib.hid hh; have HN := Lib.hid hn
  clear H hs hh hn
  go_enter Try.func37, Try.ntmps37
  go_wp2_with fail
  refine (find_small w own hp M x HH.out i hi k r y HS.out HHd.out n HN.out).mono ?_
  rintro e w' ⟨rfl, rfl⟩
  go_wp2_with fail
  go_ret
  exact ⟨rfl, rfl⟩
/-- The words of a large object's ref. -/
theorem big_and (s : Nat) (h : s < 9223372036854775808) : bits .and .u64 ((9223372036854775808 + s : Nat) : Int) 9223372036854775808 = 9223372036854775808 := by
  have := (bits_nat .u64 64 (by decide) (fun n h0 h1 => by rw [IntKind.wrap_u64]; omega) (9223372036854775808 + s) 9223372036854775808 (by omega) (by decide)).1
  rw [show ((9223372036854775808 : Nat) : Int) = 9223372036854775808 from rfl] at this
  rw [this]
  have : (9223372036854775808 + s) &&& 9223372036854775808 = 9223372036854775808 := by
    apply Nat.eq_of_testBit_eq
    intro j
    rw [Nat.testBit_and, show (9223372036854775808 : Nat) = 2 ^ 63 from rfl, Nat.testBit_two_pow]
    by_cases e : 63 = j
    · subst e
      rw [decide_eq_true rfl, Bool.and_true, Nat.testBit_two_pow_add_eq, Nat.testBit_lt_two_pow h]; rfl
    · rw [decide_eq_false e, Bool.and_false]
  rw [this]; rfl
theorem big_andNot (s : Nat) (h : s < 9223372036854775808) : bits .andNot .u64 ((9223372036854775808 + s : Nat) : Int) 9223372036854775808 = (s : Int) := by
  have := u64_andNot_nat (9223372036854775808 + s) 9223372036854775808 (by omega) (by decide)
  rw [show ((9223372036854775808 : Nat) : Int) = 9223372036854775808 from rfl] at this
  rw [this]
  have : (9223372036854775808 + s) &&& (18446744073709551615 - 9223372036854775808) = s := by
    rw [show 18446744073709551615 - 9223372036854775808 = 2 ^ 63 - 1 from rfl, Nat.and_two_pow_sub_one_eq_mod]
    omega
  rw [this]
def HSetPost (w : World) (own : Own) (hp : Nat) (M : HM) (x : HX) (i j v : Nat) (e : Ending) (w' : World) : Prop :=
  e = .returned (.int .i64 0) ∧ (∃ h : i < M.half.objs.length, HMem w' own hp { M with half := ⟨M.half.size, M.half.objs.set i (M.half.objs[i].1, M.half.objs[i].2.set j v)⟩ } x) ∧ HStep w own w' own
set_option maxHeartbeats 4000000 in
set_option maxRecDepth 100000 in
theorem hSet_small (w : World) (own : Own) (hp : Nat) (M : HM) (x : HX) (H : HMem w own hp M x) (i : Nat) (hi : i < M.half.objs.length) (k r y : Nat) (hs : Shape k r y) (hh : M.half.objs[i].1 = headW k r y) (hf : M.half.objs[i].2.length = r + y) (n : Nat) (hn : n = posOf M.half.objs i) (j v : Nat) (hj : j < r + y) (hv : v < 18446744073709551616)
    (hg : j < r → Calls Try.prog 37 #[.pointer (some ⟨hp, 0, none⟩), .int .u64 (v : Int)] w fun e w' => e = .returned (.bool true) ∧ w = w') :
    Calls Try.prog 28 #[.pointer (some ⟨hp, 0, none⟩), .int .u64 (n : Int), .int .i64 (j : Int), .int .u64 (v : Int)] w (HSetPost w own hp M x i j v) := by
  have hr2 := hs.r2; have hx2 := hs.x2
  have HH := Lib.hid H; have HS := Lib.hid hs; have HHd := Lib.hid hh; have HN := Lib.hid hn; have HF := Lib.hid hf; have HG := Lib.hid hg
  clear H hs hh hn hf hg
  have nA : ∀ w : World, (nilAhead 295 80 (.pointer (some ⟨x.ph, 0, none⟩)) "Object").run Try.prog w = .ok (some false) w := fun w => by kernel_rfl
  have mA : ∀ w : World, (method 295 80 (.pointer (some ⟨x.ph, 0, none⟩)) "Object").run Try.prog w = .ok (47, .pointer (some ⟨x.ph, 0, none⟩)) w := fun w => by kernel_rfl
  have nS : ∀ w : World, (nilAhead 295 80 (.pointer (some ⟨x.ph, 0, none⟩)) "Set").run Try.prog w = .ok (some false) w := fun w => by kernel_rfl
  have mS : ∀ w : World, (method 295 80 (.pointer (some ⟨x.ph, 0, none⟩)) "Set").run Try.prog w = .ok (100, .pointer (some ⟨x.ph, 0, none⟩)) w := fun w => by kernel_rfl
  go_enter Try.func28, Try.ntmps28
  go_wp2_with fail
  refine (find_small w own hp M x HH.out i hi k r y HS.out HHd.out n HN.out).mono ?_
  rintro e w' ⟨rfl, rfl⟩
  go_wp2_with fail
  refine (object_walk w own x.ah x.ph M.half.size M.half.objs HH.out.half i hi k r y HS.out HHd.out (n : Int) (by rw [HN.out])).mono ?_
  rintro e w' ⟨rfl, rfl⟩
  have hd : decide ((r : Int) + (y : Int) ≤ (j : Int)) = false := decide_eq_false (by omega)
  have fin : ∀ e w', SetPost w own x.ah x.ph M.half.size M.half.objs i j v e w' → Hid (e = .returned (.int .i64 0) ∧ HSetPost w own hp M x i j v e w') := fun e w' ⟨h1, ⟨h2, h3⟩, h4⟩ => ⟨h1, h1, ⟨h2, HH.out.stepHalf h4 h3⟩, h4.h⟩
  by_cases hc : j < r
  · have hd2 : decide (j < r) = true := decide_eq_true hc
    go_wp2_with fail
    refine (HG.out hc).mono ?_
    rintro e w' ⟨rfl, rfl⟩
    go_wp2_with fail
    refine (arSet_walk w own x.ah x.ph M.half.size M.half.objs HH.out.half i hi k r y HS.out HHd.out HF.out (n : Int) (by rw [HN.out]) j v hj hv HH.out.top).mono ?_
    intro e w' hq
    obtain ⟨rfl, hq⟩ := fin e w' hq
    have HQ := Lib.hid hq
    clear hq fin
    go_wp2_with fail
    go_ret
    exact HQ.out
  · have hd2 : decide (j < r) = false := decide_eq_false hc
    go_wp2_with fail
    refine (arSet_walk w own x.ah x.ph M.half.size M.half.objs HH.out.half i hi k r y HS.out HHd.out HF.out (n : Int) (by rw [HN.out]) j v hj hv HH.out.top).mono ?_
    intro e w' hq
    obtain ⟨rfl, hq⟩ := fin e w' hq
    have HQ := Lib.hid hq
    clear hq fin
    go_wp2_with fail
    go_ret
    exact HQ.out
end Go.Proofs.Ythdahjmkkdljbaa.Sp
