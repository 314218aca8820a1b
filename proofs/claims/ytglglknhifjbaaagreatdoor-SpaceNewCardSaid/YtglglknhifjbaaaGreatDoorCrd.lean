import Derived.Test.YtglglknhifjbaaaGreatDoorVew
import Derived.Test.YtglglknhifjbaaaGreatDoorRows
import Derived.Test.YtglglknhifjbaaaGreatDoorWMore
import Derived.Test.YtglglknhifjbaaaGreatDoorTie
import Derived.Test.YtglglknhifjbaaaGreatDoorCards
import Derived.SizedLaws
import Derived.ChangeSlices
import Derived.SevenTiedAt
import Derived.LaidMore
import Derived.WalkKit
import Derived.ProofKit
import Derived.OpenShut
import Derived.ShutString
import Derived.ChangeOld
import Derived.Below
import Derived.JoinedCond
import Derived.JoinedTies
import Derived.ReadAgain
namespace Go.Proofs.YtglglknhifjbaaaGreatDoor.Sp
open Go.RowKit Go.Proofs.YtglglknhifjbaaaGreatDoorW.PrintWords Go.Proofs.YtglglknhifjbaaaGreatDoorW.PrintLast Go.Proofs.YtglglknhifjbaaaGreatDoorW.PrintMore
open Go.ChangeMaps (setBlock)
set_option linter.unusedVariables false
set_option linter.unusedSimpArgs false
section
variable {n0 : Nat} {w : World} {own : Own} {hp : Nat} {G : Gr} {hs : List Nat} {bs : List (Option Nat)} {tp hd t : Nat} {T : Tab} {rest : Plan} {s mb ck : Nat} {c : SC} {es : Array MapEntry}
theorem quotaS_walk (h : SpS n0 w own hp G hs bs tp hd t T rest s mb c es ck) : Calls Tryz.prog 14 #[.pointer (some ⟨s, 0, none⟩)] w fun e w' => e = .returned (.int .i64 (c.q : Int)) ∧ w = w' := by
  have hc : w.cell? ⟨s, 1, none⟩ = some (.int .i64 (c.q : Int)) := by rw [h.cell 1]; rfl
  clear h
  go_enter Tryz.func14, Tryz.ntmps14
  go_wp2_with fail
  refine bodyPost_ret (results_tmp rfl _ _ _) rfl ?_
  exact ⟨rfl, rfl⟩
theorem seedS_walk (h : SpS n0 w own hp G hs bs tp hd t T rest s mb c es ck) : Calls Tryz.prog 15 #[.pointer (some ⟨s, 0, none⟩)] w fun e w' => e = .returned (.int .u64 (c.seed : Int)) ∧ w = w' := by
  have hc : w.cell? ⟨s, 2, none⟩ = some (.int .u64 (c.seed : Int)) := by rw [h.cell 2]; rfl
  clear h
  go_enter Tryz.func15, Tryz.ntmps15
  go_wp2_with fail
  refine bodyPost_ret (results_tmp rfl _ _ _) rfl ?_
  exact ⟨rfl, rfl⟩
theorem clockS_walk (h : SpS n0 w own hp G hs bs tp hd t T rest s mb c es ck) : Calls Tryz.prog 16 #[.pointer (some ⟨s, 0, none⟩)] w fun e w' => e = .returned (.int .u64 (c.clk : Int)) ∧ w = w' := by
  have hc : w.cell? ⟨s, 3, none⟩ = some (.int .u64 (c.clk : Int)) := by rw [h.cell 3]; rfl
  clear h
  go_enter Tryz.func16, Tryz.ntmps16
  go_wp2_with fail
  refine bodyPost_ret (results_tmp rfl _ _ _) rfl ?_
  exact ⟨rfl, rfl⟩
theorem changed_none (h : SpS n0 w own hp G hs bs tp hd t T rest s mb c es ck) (hch : c.chg = .slice none 0 0) : Calls Tryz.prog 19 #[.pointer (some ⟨s, 0, none⟩)] w fun e w' => e = .returned (.slice none 0 0) ∧ w = w' := by
  have hc : w.cell? ⟨s, 15, none⟩ = some (.slice none 0 0) := by rw [h.cell 15, ← hch]; rfl
  obtain ⟨i0, hi0, -⟩ := Option.map_eq_some_iff.1 info_place
  have hap : ∀ ty, (Builtin.append_ #[41, 41] ty #[.slice none 0 0, .slice none 0 0]).run Tryz.prog w = .ok (.slice none 0 0) w := fun ty => run_append_zero w 41 ty 104 i0 Tryz.underlying41 hi0 none none 0 0 0 (Nat.le_refl _)
  clear h
  go_enter Tryz.func19, Tryz.ntmps19
  go_wp2_with fail
  refine bodyPost_ret (results_tmp rfl _ _ _) rfl ?_
  exact ⟨rfl, rfl⟩
end
set_option maxHeartbeats 4000000 in
set_option maxRecDepth 100000 in
theorem spaceNew_raw {w : World} {q seed : Nat} {m q16 lim : Int} (hm1 : IntKind.i64.wrap (16 * (q : Int)) = q16) (hm2 : IntKind.i64.wrap (q16 + 131072) = lim) (h1 : 256 ≤ q) (h2 : q ≤ 16384)
    (HN : ∀ W, Below w.heap.size w W → w.heap.size < W.heap.size → Calls Tryz.prog 7 #[.int .i64 (q : Int), .int .u64 (seed : Int)] W fun e w1 => ∃ s hp : Nat, e = .returned (.tuple #[.pointer (some ⟨s, 0, none⟩), .int .i64 0]) ∧ Below W.heap.size W w1 ∧
      Hid (∀ W, Below w1.heap.size w1 W → Calls Tryz.prog 9 #[.pointer (some ⟨s, 0, none⟩)] W fun e w' => e = .returned (.pointer (some ⟨hp, 0, none⟩)) ∧ W = w') ∧
      Hid (∀ W, Below w1.heap.size w1 W → Calls Tryz.prog 10 #[.pointer (some ⟨hp, 0, none⟩)] W fun e w' => ∃ x1 x2 x3 x4 x5 x6 x7 x8 : Value, e = .returned (.agg #[.int .i64 lim, x1, x2, x3, x4, x5, x6, x7, x8]) ∧ Below w1.heap.size w1 w') ∧
      Hid (∀ W, Below w1.heap.size w1 W → Calls Tryz.prog 11 #[.pointer (some ⟨hp, 0, none⟩)] W fun e w3 => e = .returned (.tuple #[]) ∧ Below (w.heap.size + 1) W w3 ∧
        Hid (Calls Tryz.prog 9 #[.pointer (some ⟨s, 0, none⟩)] w3 fun e w' => e = .returned (.pointer (some ⟨hp, 0, none⟩)) ∧ w3 = w') ∧
        Hid (Calls Tryz.prog 10 #[.pointer (some ⟨hp, 0, none⟩)] w3 fun e w4 => ∃ (x0 x1 : Int) (us la : Nat) (x4 x5 x6 x7 x8 : Int), e = .returned (.agg #[.int .i64 x0, .int .i64 x1, .int .i64 (us : Int), .int .i64 (la : Int), .int .i64 x4, .int .i64 x5, .int .i64 x6, .int .i64 x7, .int .i64 x8]) ∧ us + la ≤ 256 ∧ Below w3.heap.size w3 w4 ∧
          Hid (∀ W, Below w4.heap.size w4 W → Calls Tryz.prog 13 #[.int .i64 m, .int .i64 64] W fun e w' => e = .returned (.int .i64 (m % 64)) ∧ W = w') ∧
          Hid (∀ W, Below w4.heap.size w4 W → Calls Tryz.prog 12 #[.int .i64 (m % 64), .int .u64 (seed : Int)] W fun e w' => e = .returned (.bool true) ∧ Below W.heap.size W w') ∧
          Hid (∀ W, Below w4.heap.size w4 W → Calls Tryz.prog 14 #[.pointer (some ⟨s, 0, none⟩)] W fun e w' => e = .returned (.int .i64 (q : Int)) ∧ W = w') ∧
          Hid (∀ W, Below w4.heap.size w4 W → Calls Tryz.prog 15 #[.pointer (some ⟨s, 0, none⟩)] W fun e w' => e = .returned (.int .u64 (seed : Int)) ∧ W = w') ∧
          Hid (∀ W, Below w4.heap.size w4 W → Calls Tryz.prog 16 #[.pointer (some ⟨s, 0, none⟩)] W fun e w' => e = .returned (.int .u64 0) ∧ W = w') ∧
          Hid (∀ W, Below w4.heap.size w4 W → Calls Tryz.prog 17 #[.pointer (some ⟨s, 0, none⟩)] W fun e w' => e = .returned (.int .i64 0) ∧ Below W.heap.size W w') ∧
          Hid (∀ W, Below w4.heap.size w4 W → Calls Tryz.prog 18 #[.pointer (some ⟨s, 0, none⟩)] W fun e w' => e = .returned (.slice none 0 0) ∧ Below W.heap.size W w') ∧
          Hid (∀ W, Below w4.heap.size w4 W → Calls Tryz.prog 19 #[.pointer (some ⟨s, 0, none⟩)] W fun e w' => e = .returned (.slice none 0 0) ∧ W = w')))) :
    Calls Tryz.prog 3 #[.agg #[.int .i64 (q : Int), .int .u64 (seed : Int), .int .i64 m]] w fun e w' => e = .returned (.bool true) ∧ Below w.heap.size w w' := by
  obtain ⟨N, hN⟩ : ∃ N, w.heap.size = N := ⟨_, rfl⟩
  obtain ⟨W0, hW0⟩ : ∃ W0, w.alloc (.cells #[.int .i64 (q : Int), .int .u64 (seed : Int), .int .i64 m] 24) = W0 := ⟨_, rfl⟩
  have b0 : Below w.heap.size w W0 := by rw [← hW0]; exact (Below.refl _ _).alloc (Nat.le_refl _) _
  have z0 : W0.heap.size = N + 1 := by rw [← hW0, ← hN]; simp
  have x0 : W0.heap[N]? = some (.cells #[.int .i64 (q : Int), .int .u64 (seed : Int), .int .i64 m] 24 (0, 0)) := by rw [← hW0, ← hN]; exact heap_alloc_new _ _
  have c0 : W0.cell? ⟨N, 0, none⟩ = some (.int .i64 (q : Int)) := by simp [World.cell?, x0]
  have c1 : W0.cell? ⟨N, 1, none⟩ = some (.int .u64 (seed : Int)) := by simp [World.cell?, x0]
  have hu33 := Tryz.underlying33
  have hfield : ∀ (l x1 x2 x3 x4 x5 x6 x7 x8 : Value) (W : World), (Instr.field 33 (.agg #[l, x1, x2, x3, x4, x5, x6, x7, x8]) 0).run Tryz.prog W = .ok l W := fun l x1 x2 x3 x4 x5 x6 x7 x8 W => by kernel_rfl
  have HNum := Lib.hid fun W => num0_walk W 0
  have HN0 := Lib.hid (HN W0 b0 (by omega))
  have HX0 := Lib.hid (And.intro b0 (And.intro z0 x0))
  have HW0 := Lib.hid hW0
  have HhN := Lib.hid hN
  have hq1 : decide ((q : Int) < 256) = false := decide_eq_false (by omega)
  have hq2 : decide ((16384 : Int) < (q : Int)) = false := decide_eq_false (by omega)
  clear HN b0 z0 x0 hW0 h1 h2
  go_enter Tryz.func3, Tryz.ntmps3
  go_upto_region 1 with fail
  rw [HW0.out]
  go_wp2_with fail
  refine HN0.out.mono ?_
  rintro e w1 ⟨s, hp, rfl, b1, HHp, HSt, HCl⟩
  have k1 : ∀ W, Below w1.heap.size w1 W → W.heap[N]? = some (.cells #[.int .i64 (q : Int), .int .u64 (seed : Int), .int .i64 m] 24 (0, 0)) := fun W hb => (hb.block N (by have := HX0.out.2.1; have := b1.size; omega)).trans ((b1.block N (by have := HX0.out.2.1; omega)).trans HX0.out.2.2)
  have HK1 := Lib.hid k1
  have HS1 : Hid (∀ W, Below w1.heap.size w1 W → W.cell? ⟨N, 0, none⟩ = some (.int .i64 (q : Int))) := Lib.hid fun W hb => by simp [World.cell?, k1 W hb]
  have d0 := HS1.out w1 (Below.refl _ _)
  have HB1 := Lib.hid b1
  clear HN0 k1 b1 c0 c1
  go_upto_region 4 with fail
  go_region_held3 (fun W => W.cell? ⟨N, 0, none⟩ = some (.int .i64 (q : Int))) (first | assumption | exact HS1.out _ (Below.refl _ _) | exact HS1.out _ (bd (Below.refl _ _) _) | exact HS1.out _ hb2) (first | (go_at_call 8; refine Calls.mono (HNum.out _) ?_; rintro e w' ⟨rfl, rfl⟩) | (go_at_call 9; refine Calls.mono (HHp.out _ ?_) ?_; (first | exact Below.refl _ _ | exact bd (Below.refl _ _) _ | exact (Below.refl _ _).drew); rintro e w' ⟨rfl, rfl⟩) | (go_at_call 10; refine Calls.mono (HSt.out _ ?_) ?_; (first | exact Below.refl _ _ | exact bd (Below.refl _ _) _ | exact (Below.refl _ _).drew); rintro e w2 ⟨x1, x2, x3, x4, x5, x6, x7, x8, rfl, hb2⟩))
  all_goals (
    have HCl2 := Lib.hid (HCl.out w2 hb2)
    have HHp2 := Lib.hid (HHp.out w2 hb2)
    have HX2 := Lib.hid (HK1.out w2 hb2)
    have HB2 := Lib.hid hb2
    clear hb2 HCl HHp HSt HS1 HK1 d0
    go_wp2_with fail
    refine HHp2.out.mono ?_
    rintro e w' ⟨rfl, rfl⟩
    go_wp2_with fail
    refine HCl2.out.mono ?_
    rintro e w3 ⟨rfl, b3, HHp3, HSt3⟩
    have HX3 := Lib.hid ((b3.block N (by have := HhN.out; omega)).trans HX2.out)
    have HB3 := Lib.hid b3
    clear b3 HCl2 HHp2 HX2
    go_wp2_with fail
    refine HHp3.out.mono ?_
    rintro e w' ⟨rfl, rfl⟩
    go_wp2_with fail
    refine HSt3.out.mono ?_
    rintro e w4 ⟨y0, y1, us, la, y4, y5, y6, y7, y8, rfl, hle, b4, HInto, HMany, HQ, HSd, HCk, HCo, HVw, HCh⟩
    have HX4 := Lib.hid ((b4.block N (blk_lt HX3.out)).trans HX3.out)
    have HB4 := Lib.hid b4
    have HLe := Lib.hid hle
    clear b4 HSt3 HHp3 HX3 hle
    go_upto_region 8 with fail
    obtain ⟨W5, hW5⟩ : ∃ W5, w4.alloc (.cells #[.int .i64 y0, .int .i64 y1, .int .i64 (us : Int), .int .i64 (la : Int), .int .i64 y4, .int .i64 y5, .int .i64 y6, .int .i64 y7, .int .i64 y8] 33) = W5 := ⟨_, rfl⟩
    rw [hW5]
    have b5 : Below w4.heap.size w4 W5 := by rw [← hW5]; exact (Below.refl _ _).alloc (Nat.le_refl _) _
    have t5 : W5.heap[w4.heap.size]? = some (.cells #[.int .i64 y0, .int .i64 y1, .int .i64 (us : Int), .int .i64 (la : Int), .int .i64 y4, .int .i64 y5, .int .i64 y6, .int .i64 y7, .int .i64 y8] 33 (0, 0)) := by rw [← hW5]; exact heap_alloc_new _ _
    obtain ⟨tb, htb⟩ : ∃ tb, w4.heap.size = tb := ⟨_, rfl⟩
    have up : ∀ W, Below W5.heap.size W5 W → Below w4.heap.size w4 W := fun W hb => b5.trans (hb.mono b5.size)
    have kn : ∀ W, Below W5.heap.size W5 W → W.heap[N]? = some (.cells #[.int .i64 (q : Int), .int .u64 (seed : Int), .int .i64 m] 24 (0, 0)) := fun W hb => (hb.block N (by have := blk_lt HX4.out; have := b5.size; omega)).trans ((b5.block N (blk_lt HX4.out)).trans HX4.out)
    have kt : ∀ W, Below W5.heap.size W5 W → W.heap[tb]? = some (.cells #[.int .i64 y0, .int .i64 y1, .int .i64 (us : Int), .int .i64 (la : Int), .int .i64 y4, .int .i64 y5, .int .i64 y6, .int .i64 y7, .int .i64 y8] 33 (0, 0)) := fun W hb => by rw [← htb]; exact (hb.block _ (blk_lt t5)).trans t5
    have HS5 : Hid (∀ W, Below W5.heap.size W5 W → W.cell? ⟨N, 0, none⟩ = some (.int .i64 (q : Int)) ∧ W.cell? ⟨N, 1, none⟩ = some (.int .u64 (seed : Int)) ∧ W.cell? ⟨N, 2, none⟩ = some (.int .i64 m) ∧ W.cell? ⟨tb, 2, none⟩ = some (.int .i64 (us : Int)) ∧ W.cell? ⟨tb, 3, none⟩ = some (.int .i64 (la : Int))) := Lib.hid fun W hb => ⟨by simp [World.cell?, kn W hb], by simp [World.cell?, kn W hb], by simp [World.cell?, kn W hb], by simp [World.cell?, kt W hb], by simp [World.cell?, kt W hb]⟩
    have HInto5 := Lib.hid fun W (hb : Below W5.heap.size W5 W) => HInto.out W (up W hb)
    have HMany5 : Hid (∀ W, Below W5.heap.size W5 W → Calls Tryz.prog 12 #[.int .i64 (m % 64), .int .u64 (seed : Int)] W fun e w' => e = .returned (.bool true) ∧ Below W5.heap.size W5 w') := Lib.hid fun W hb => (HMany.out W (up W hb)).mono fun e w' h => ⟨h.1, hb.trans (h.2.mono hb.size)⟩
    have HQ5 := Lib.hid fun W (hb : Below W5.heap.size W5 W) => HQ.out W (up W hb)
    have HSd5 := Lib.hid fun W (hb : Below W5.heap.size W5 W) => HSd.out W (up W hb)
    have HCk5 := Lib.hid fun W (hb : Below W5.heap.size W5 W) => HCk.out W (up W hb)
    have HCh5 := Lib.hid fun W (hb : Below W5.heap.size W5 W) => HCh.out W (up W hb)
    have HCo5 : Hid (∀ W, Below W5.heap.size W5 W → Calls Tryz.prog 17 #[.pointer (some ⟨s, 0, none⟩)] W fun e w' => e = .returned (.int .i64 0) ∧ Below W5.heap.size W5 w') := Lib.hid fun W hb => (HCo.out W (up W hb)).mono fun e w' h => ⟨h.1, hb.trans (h.2.mono hb.size)⟩
    have HVw5 : Hid (∀ W, Below W5.heap.size W5 W → Calls Tryz.prog 18 #[.pointer (some ⟨s, 0, none⟩)] W fun e w' => e = .returned (.slice none 0 0) ∧ Below W5.heap.size W5 w') := Lib.hid fun W hb => (HVw.out W (up W hb)).mono fun e w' h => ⟨h.1, hb.trans (h.2.mono hb.size)⟩
    have HTop : Hid (Below w4.heap.size w4 W5) := Lib.hid b5
    clear hW5 b5 t5 up kn kt HInto HMany HQ HSd HCk HCo HVw HCh
    go_region_held3 (fun W => W.cell? ⟨N, 0, none⟩ = some (.int .i64 (q : Int)) ∧ W.cell? ⟨N, 1, none⟩ = some (.int .u64 (seed : Int)) ∧ W.cell? ⟨N, 2, none⟩ = some (.int .i64 m) ∧ W.cell? ⟨tb, 2, none⟩ = some (.int .i64 (us : Int)) ∧ W.cell? ⟨tb, 3, none⟩ = some (.int .i64 (la : Int))) (first | assumption | exact HS5.out _ (by first | exact Below.refl _ _ | exact bd (Below.refl _ _) _ | exact (Below.refl _ _).drew | assumption | exact bd (by assumption) _ | exact Below.drew (by assumption))) (first | (go_at_call 13; refine Calls.mono (HInto5.out _ ?_) ?_; (first | exact Below.refl _ _ | exact bd (Below.refl _ _) _ | exact (Below.refl _ _).drew | assumption | exact bd (by assumption) _ | exact Below.drew (by assumption)); rintro e w' ⟨rfl, rfl⟩) | (go_at_call 12; refine Calls.mono (HMany5.out _ ?_) ?_; (first | exact Below.refl _ _ | exact bd (Below.refl _ _) _ | exact (Below.refl _ _).drew | assumption | exact bd (by assumption) _ | exact Below.drew (by assumption)); rintro e w6 ⟨rfl, hb6⟩)))
  all_goals (
    have hsum : IntKind.i64.wrap ((us : Int) + (la : Int)) = (us : Int) + (la : Int) := Go.IntWalk.i64_in _ (by have := HLe.out; omega)
    have hleq : decide ((us : Int) + (la : Int) ≤ 256) = true := decide_eq_true (by have := HLe.out; omega)
    go_upto_region 10 with fail
    go_region_held3 (fun W => W.cell? ⟨N, 0, none⟩ = some (.int .i64 (q : Int)) ∧ W.cell? ⟨N, 1, none⟩ = some (.int .u64 (seed : Int)) ∧ W.cell? ⟨N, 2, none⟩ = some (.int .i64 m) ∧ W.cell? ⟨tb, 2, none⟩ = some (.int .i64 (us : Int)) ∧ W.cell? ⟨tb, 3, none⟩ = some (.int .i64 (la : Int))) (first | assumption | exact HS5.out _ (by first | exact Below.refl _ _ | exact bd (Below.refl _ _) _ | exact (Below.refl _ _).drew | assumption | exact bd (by assumption) _ | exact Below.drew (by assumption))) (first | (go_at_call 14; refine Calls.mono (HQ5.out _ ?_) ?_; (first | exact Below.refl _ _ | exact bd (Below.refl _ _) _ | exact (Below.refl _ _).drew | assumption | exact bd (by assumption) _ | exact Below.drew (by assumption)); rintro e w' ⟨rfl, rfl⟩) | (go_at_call 15; refine Calls.mono (HSd5.out _ ?_) ?_; (first | exact Below.refl _ _ | exact bd (Below.refl _ _) _ | exact (Below.refl _ _).drew | assumption | exact bd (by assumption) _ | exact Below.drew (by assumption)); rintro e w' ⟨rfl, rfl⟩) | (go_at_call 16; refine Calls.mono (HCk5.out _ ?_) ?_; (first | exact Below.refl _ _ | exact bd (Below.refl _ _) _ | exact (Below.refl _ _).drew | assumption | exact bd (by assumption) _ | exact Below.drew (by assumption)); rintro e w' ⟨rfl, rfl⟩) | (go_at_call 19; refine Calls.mono (HCh5.out _ ?_) ?_; (first | exact Below.refl _ _ | exact bd (Below.refl _ _) _ | exact (Below.refl _ _).drew | assumption | exact bd (by assumption) _ | exact Below.drew (by assumption)); rintro e w' ⟨rfl, rfl⟩) | (go_at_call 17; refine Calls.mono (HCo5.out _ ?_) ?_; (first | exact Below.refl _ _ | exact bd (Below.refl _ _) _ | exact (Below.refl _ _).drew | assumption | exact bd (by assumption) _ | exact Below.drew (by assumption)); rintro e w7 ⟨rfl, hb7⟩) | (go_at_call 18; refine Calls.mono (HVw5.out _ ?_) ?_; (first | exact Below.refl _ _ | exact bd (Below.refl _ _) _ | exact (Below.refl _ _).drew | assumption | exact bd (by assumption) _ | exact Below.drew (by assumption)); rintro e w8 ⟨rfl, hb8⟩)))
  all_goals (
    go_wp2_with fail
    refine bodyPost_ret (results_tmp rfl _ _ _) rfl ?_
    refine ⟨rfl, ?_⟩
    have e0 := HX0.out.1
    have e1 := e0.trans (HB1.out.mono e0.size)
    have e2 := e1.trans (HB2.out.mono e1.size)
    have e3 := e2.trans (HB3.out.mono (Nat.le_succ _))
    have e4 := e3.trans (HB4.out.mono e3.size)
    have e5 := e4.trans (HTop.out.mono e4.size)
    exact e5.trans (hb8.mono e5.size))
end Go.Proofs.YtglglknhifjbaaaGreatDoor.Sp
namespace Go.Proofs.YtglglknhifjbaaaGreatDoor.Sp
open Go.RowKit Go.Proofs.YtglglknhifjbaaaGreatDoorW.PrintWords Go.Proofs.YtglglknhifjbaaaGreatDoorW.PrintLast Go.Proofs.YtglglknhifjbaaaGreatDoorW.PrintMore
open Go.ChangeMaps (setBlock)
set_option linter.unusedVariables false
set_option linter.unusedSimpArgs false
theorem spaceNew_in (w : World) (q seed : Nat) (m : Int) (h1 : 256 ≤ q) (h2 : q ≤ 16384) (hsd : seed < 18446744073709551616) (hm0 : -9223372036854775808 ≤ m) (hm1 : m ≤ 9223372036854775807) (g0 : Gl w (fun _ => 0)) :
    Calls Tryz.prog 3 #[.agg #[.int .i64 (q : Int), .int .u64 (seed : Int), .int .i64 m]] w fun e w' => e = .returned (.bool true) ∧ Below w.heap.size w w' := by
  have e1 : IntKind.i64.wrap (16 * (q : Int)) = 16 * (q : Int) := Go.IntWalk.i64_in _ (by omega)
  have e2 : IntKind.i64.wrap (16 * (q : Int) + 131072) = ((16 * q + 131072 : Nat) : Int) := by
    rw [show 16 * (q : Int) + 131072 = ((16 * q + 131072 : Nat) : Int) by omega]
    exact Go.IntWalk.i64_in _ (by omega)
  refine spaceNew_raw e1 e2 h1 h2 (fun W hW hlt => ?_)
  have gW := g0.low hW
  refine (new_walk W q seed gW h1 h2 hsd).mono ?_
  rintro e w1 ⟨s, hp, mb, own, G, hs, bs, x0, x1, x2, x3, rfl, hsn, hsp, hb, ho, he, hnk, hsh, hwt, hlim⟩
  refine ⟨s, hp, rfl, hb, Lib.hid fun V hV => heapOf_walk V s hp ((hsp.below hV).cell 0), Lib.hid fun V hV => ?_, Lib.hid fun V hV => ?_⟩
  · refine (statsG_walk (hsp.below hV).ht.ho).mono ?_
    rintro e w' ⟨hb', half, used, large, nr, k, nc, nz, mv, -, rfl⟩
    exact ⟨_, _, _, _, _, _, _, _, by rw [hlim], hV.trans (hb'.mono hV.size)⟩
  · have hv := hsp.below hV
    refine (collectO_walk hv.ht.ho).mono ?_
    rintro e w3 ⟨rfl, own3, hs3, bs3, H3, st3, hlive⟩
    have HT3 : ∀ {tp hd t : Nat} {T : Tab} {rest : Plan}, HT V own hp G hs bs tp hd t T rest → HT w3 own3 hp G hs3 bs3 tp hd t T rest := fun h => ⟨H3, h.gl.step st3, h.ta.step st3, h.hh, h.ok, h.sat, h.hl, h.en⟩
    obtain ⟨hs3', b3⟩ := hv.step st3 (HT3 hv.ht)
    refine ⟨rfl, b3.mono (by omega), Lib.hid (heapOf_walk w3 s hp (hs3'.cell 0)), Lib.hid ?_⟩
    refine (statsG_walk H3).mono ?_
    rintro e w4 ⟨b4, half, used, large, nr, k, nc, nz, mv, hwd, rfl⟩
    have hle := hwd (Plan.ids (x0.T.plan x0.t ++ tesP [x3, x2, x1])) (fun i hi => hsh.cover hsp.ht.sat ((hlive i).1 hi))
    rw [hsp.ht.sat.wt, hwt] at hle
    have h4 := hs3'.below b4
    have hg4 : Gl w4 (fun _ => 0) := gW.low (hb.trans ((hV.mono hb.size).trans (Below.trans (b3.mono (Nat.le_refl _)) (b4.mono (Nat.le_trans hb.size (Nat.le_trans hV.size st3.fr.size))))))
    refine ⟨_, _, used, large, _, _, _, _, _, rfl, by omega, b4, Lib.hid fun U hU => into_walk U m 64 hm0 hm1 (by decide) (by decide), Lib.hid fun U hU => ?_, Lib.hid fun U hU => quotaS_walk (h4.below hU), Lib.hid fun U hU => seedS_walk (h4.below hU), Lib.hid fun U hU => clockS_walk (h4.below hU), Lib.hid fun U hU => cost_none (h4.below hU), Lib.hid fun U hU => ?_, Lib.hid fun U hU => changed_none (h4.below hU) rfl⟩
    · have h64 : 0 ≤ m % 64 ∧ m % 64 < 64 := ⟨Int.emod_nonneg _ (by decide), Int.emod_lt_of_pos _ (by decide)⟩
      obtain ⟨n, hn⟩ : ∃ n : Nat, m % 64 = (n : Int) := ⟨(m % 64).toNat, by omega⟩
      rw [hn]
      exact many_walk U n seed (by omega) hsd (hg4.low hU)
    · refine view_walk (fun X db hX hdb => ?_)
      have hUX := hU.trans (hX.mono hU.size)
      have hT0 := h4.below hUX
      have hc0 : ∀ i, X.cell? ⟨s, i, none⟩ = ((c0 q seed x1.tp x2.tp x3.tp).cells hp x0.tp mb)[i]? := fun i => hT0.cell i
      have up : ∀ {tp hd t : Nat} {T : Tab} {rest : Plan}, HT w1 own hp G hs bs tp hd t T rest → HT X own3 hp G hs3 bs3 tp hd t T rest := fun h => ((HT3 (h.below hV)).below b4).below hUX
      have hd4 : db = 0 ∨ db = 1 ∨ db = 2 ∨ db = 3 := by omega
      rcases hd4 with rfl | rfl | rfl | rfl
      · exact keys_none (by decide) (up hsp.ht) (hc0 4) ho he
      · obtain ⟨nid, hn⟩ := hsn.new x1 (by simp)
        exact keys_none (by decide) (up (hsn.ht (a := [x3, x2]) (b := [x0]) gW hsd rfl rfl)) (hc0 5) (by rw [hn]; rfl) (by rw [hn]; rfl)
      · obtain ⟨nid, hn⟩ := hsn.new x2 (by simp)
        exact keys_none (by decide) (up (hsn.ht (a := [x3]) (b := [x1, x0]) gW hsd rfl rfl)) (hc0 6) (by rw [hn]; rfl) (by rw [hn]; rfl)
      · obtain ⟨nid, hn⟩ := hsn.new x3 (by simp)
        exact keys_none (by decide) (up (hsn.ht (a := []) (b := [x2, x1, x0]) gW hsd rfl rfl)) (hc0 7) (by rw [hn]; rfl) (by rw [hn]; rfl)
theorem spaceNew_walk (w : World) (q m : Int) (seed : Nat) (hsd : seed < 18446744073709551616) (hm0 : -9223372036854775808 ≤ m) (hm1 : m ≤ 9223372036854775807) (g0 : Gl w (fun _ => 0)) :
    Calls Tryz.prog 3 #[.agg #[.int .i64 q, .int .u64 (seed : Int), .int .i64 m]] w fun e w' => e = .returned (.bool true) ∧ Below w.heap.size w w' := by
  by_cases hq : q < 256 ∨ 16384 < q
  · exact spaceNew_out w q m seed hq
  · obtain ⟨n, hn⟩ : ∃ n : Nat, q = (n : Int) := ⟨q.toNat, by omega⟩
    subst hn
    exact spaceNew_in w n seed m (by omega) (by omega) hsd hm0 hm1 g0
end Go.Proofs.YtglglknhifjbaaaGreatDoor.Sp
namespace Go.Proofs.YtglglknhifjbaaaGreatDoorW.PrintWords
open Go.ChangeShapes Go.WideShapes
end Go.Proofs.YtglglknhifjbaaaGreatDoorW.PrintWords
namespace Go.Proofs.YtglglknhifjbaaaGreatDoor.Sp
open Go.RowKit Go.Proofs.YtglglknhifjbaaaGreatDoorW.PrintWords Go.Proofs.YtglglknhifjbaaaGreatDoorW.PrintLast Go.Proofs.YtglglknhifjbaaaGreatDoorW.PrintMore
set_option linter.unusedVariables false
abbrev MakeT := Int × Int × Int
abbrev kMake : Kd MakeT := Kd.pair (Kd.int .i64) (Kd.pair (Kd.int .u64) (Kd.int .i64))
def gMake (x : MakeT) : Prop := (Lit.int .i64 x.1).wf = true ∧ (Lit.int .u64 x.2.1).wf = true ∧ (Lit.int .i64 x.2.2).wf = true
set_option maxRecDepth 100000 in
theorem opens_make : Opens (Kd.iso kMake id) 24 gMake (fun x => (1 + (1 + 1)) + 1) := by
  refine opens_struct (d := kMake) (G := gMake) (b := fun x => 1 + (1 + 1)) Tryz.underlying24 (by kernel_rfl) ?_ id id (fun _ => rfl)
  refine opensAt_cons (d := Kd.int .i64) (G := fun n => (Lit.int .i64 n).wf = true) (b := fun _ => 1) (G2 := fun (x : Int × Int) => (Lit.int .u64 x.1).wf = true ∧ (Lit.int .i64 x.2).wf = true) (b2 := fun (x : Int × Int) => 1 + 1) ?_ ?_ ?_
    (opensAt_cons (d := Kd.int .u64) (G := fun n => (Lit.int .u64 n).wf = true) (b := fun _ => 1) (G2 := fun n => (Lit.int .i64 n).wf = true) (b2 := fun _ => 1) ?_ ?_ ?_ (opensAt_last ?_ ?_ ?_))
  · rfl
  · kernel_rfl
  · exact opens_int (by kernel_rfl)
  · rfl
  · kernel_rfl
  · exact opens_int (by kernel_rfl)
  · rfl
  · kernel_rfl
  · exact opens_int (by kernel_rfl)
theorem make_K {w : World} {x : MakeT} {cs : List Value} (h : (Kd.iso kMake id).K w x cs) : cs = [.int .i64 x.1, .int .u64 x.2.1, .int .i64 x.2.2] := by
  obtain ⟨_, _, rfl, rfl, ⟨_, _, rfl, h2, h3⟩⟩ := h
  obtain rfl := h3
  obtain rfl := h2
  rfl
theorem wf_u64 {n : Int} (h : (Lit.int .u64 n).wf = true) : 0 ≤ n ∧ n < 18446744073709551616 := by
  simp only [Lit.wf, IntKind.min, IntKind.max, IntKind.signed, IntKind.bits, Bool.and_eq_true] at h
  simp at h
  omega
theorem wf_i64 {n : Int} (h : (Lit.int .i64 n).wf = true) : -9223372036854775808 ≤ n ∧ n ≤ 9223372036854775807 := by
  simp only [Lit.wf, IntKind.min, IntKind.max, IntKind.signed, IntKind.bits, Bool.and_eq_true] at h
  simp at h
  omega
theorem bytes_of_trod {H : Type} {enc : TypeId × Value → H} {W : World} {base : Nat} {sp : Nat → Bool} {held : Bool} {fuel : Nat} {cs : List Value} {p : List MemPlace} {l : List Nat} {n : Nat} (hn : l.length = n) (T : TypeId) (ht : Tryz.prog.underlying T = some (.array n 5)) (hce : Tryz.prog.cellsOf 5 = 1)
    (h : DataW.trod enc Tryz.prog W base sp held fuel T cs = some (.agg (l.map fun (x : Nat) => .lit (.int .u8 (x : Int))), p)) : ∀ j (hj : j < l.length), cs[j]? = some (.int .u8 (l[j] : Int)) := by
  intro j hj
  obtain ⟨xs, m, rfl, hx, hl, hlen, hel⟩ := DataW.trod_array ht h
  have h1 := hel j (by omega)
  rw [hce, Nat.mul_one] at h1
  simp only [Prod.mk.injEq, DataW.agg.injEq] at hx
  have h2 : xs[j]? = some (xs[j]'(by omega)) := List.getElem?_eq_getElem _
  rw [h2] at h1
  have h3 : (xs[j]'(by omega)).1 = .lit (.int .u8 (l[j] : Int)) := by
    have := congrArg (·[j]?) hx.1
    simp only [List.getElem?_map, h2, Option.map_some, List.getElem?_eq_getElem hj] at this
    exact (Option.some.inj this).symm
  obtain ⟨v, hc, hv, -⟩ := DataW.trod_int Tryz.underlying5 h1
  rw [hv] at h3
  have h4 : v = (l[j] : Int) := by simpa using h3
  have h5 : (cs.drop j)[0]? = some (.int .u8 v) := by
    have := congrArg (·[0]?) hc
    simpa using this
  rw [List.getElem?_drop] at h5
  rw [← h4]
  simpa using h5
theorem heap_of_var {W : World} {n : String} {g : Nat} {cs : Array Value} (hg : Tryz.prog.globalNamed n = some g) (h : W.var? Tryz.prog n = some cs) : ∃ t fr, W.heap[g]? = some (.cells cs t fr) := by
  simp only [World.var?, hg, Option.bind_some] at h
  split at h
  · rename_i hh; obtain rfl := Option.some.inj h; exact ⟨_, _, hh⟩
  · cases h
end Go.Proofs.YtglglknhifjbaaaGreatDoor.Sp
namespace Go.Proofs.YtglglknhifjbaaaGreatDoor.spaceNew
open Go.ChangeShapes Go.WideShapes Go.ChangeAt Go.RowKit
open Go.Proofs.YtglglknhifjbaaaGreatDoor.Sp
set_option linter.unusedVariables false
abbrev laids : List (String × DataW Unit) := [("math/bits.deBruijn32tab", Rows.laid_math_bits_deBruijn32tab), ("math/bits.deBruijn64tab", Rows.laid_math_bits_deBruijn64tab)]
theorem own : ownKnob Tryz.prog.godebug = none := by kernel_rfl
theorem laidOut : laidOutB Tryz.prog = true := by kernel_rfl
theorem gVar : Tryz.prog.globalNamed "math/bits.deBruijn64tab" = some 2 := by kernel_rfl
theorem tVar : (Tryz.prog.globals[2]?).map (·.type) = some 310 := by kernel_rfl
theorem datum_is {H : Type} : (Rows.laid_math_bits_deBruijn64tab : DataW H) = .agg (dbN.map fun (x : Nat) => .lit (.int .u8 (x : Int))) := by kernel_rfl
theorem door_met (os : Os) (args : Array Value) : laidMetH Tryz.prog laids ((World.doorLaid Tryz.prog 400 os).forCall (fun _ _ => 0) ⟨#[], args, []⟩).memory :=
  laidMetH_of_parts3 (fuel := 8) (laidMet_of_run' 8 (by kernel_rfl) (by kernel_rfl)) (by kernel_rfl) (by kernel_rfl)
theorem of_laid {W : World} (h : laidMetH Tryz.prog laids W) : Gl W (fun _ => 0) := by
  rw [MakeChecks.laidMetH_plain _ _ _ (by kernel_rfl)] at h
  obtain ⟨ps, ⟨g0, t0, cs0, f0, p0, q0, hg0, ht0, hv0, hd0, ⟨g1, t1, cs1, f1, p1, q1, hg1, ht1, hv1, hd1, -, -⟩, -⟩, -⟩ := h
  obtain rfl := Option.some.inj (gVar.symm.trans hg1)
  obtain rfl := Option.some.inj (tVar.symm.trans ht1)
  rw [datum_is] at hd1
  have e := bytes_of_trod (n := 64) rfl 310 Tryz.underlying310 (by kernel_rfl) hd1
  obtain ⟨t, fr, hh⟩ := heap_of_var gVar hv1
  exact ⟨fun j hj => by
    have := e j hj
    simp [World.cell?, hh]
    simpa using this, blk_lt hh, rfl⟩
set_option maxRecDepth 100000 in
theorem lifted (os : Os) (started : os.Started) (H : Type) (enc : TypeId × Value → H) :
    ReturnsInHanded {} Tryz.checked os 3 .any (fun w args => (Rows.spaceNewSpec.pre enc Tryz.prog Tryz.f3 [] false w args ∧ laidMetH Tryz.prog laids w) ∧ sizedMet enc Tryz.prog Tryz.f3 (OpenSpec.ofChange Rows.spaceNewSpec) false w args)
      (Rows.spaceNewSpec.post enc Tryz.prog Tryz.f3 false true false false) := by
  refine returnsInHanded_of_change_and (C := Tryz.checked) (X := fun w _ => laidMetH Tryz.prog laids w) (fun _ _ _ hh h => h.of_heap hh) own started (by kernel_rfl) Tryz.func3
    (ChangeSpec.witness_shaped (enc := enc) (C := Tryz.checked) (os := os) (X := fun w _ => laidMetH Tryz.prog laids w) false (World.doorLaid Tryz.prog 400 os) #[.agg #[.int .i64 0, .int .u64 0, .int .i64 0]] 8 rfl (World.shaped_of_RefB (by kernel_rfl) (by kernel_rfl)) (by kernel_rfl) (by kernel_rfl) (by kernel_rfl) (door_met os _)) ?_
  intro W base args ds gs before hval0 hW _ _ hL _
  have hval : ∀ (j : Nat) t v, Tryz.f3.params[j]? = some t → args[j]? = some v → Value.okWide Tryz.prog W .any base t v := hval0
  have hW' := hW
  obtain ⟨p, q, hA0, hV, rfl, hfz, hnd⟩ := hW
  have hA : DataW.TrodAll enc Tryz.prog W 0 (fun _ => true) true Tryz.f3.params.toList args.toList ds p := hA0
  rw [Tryz.params3] at hA hval
  obtain ⟨v0, vs0, d0, ds0, p0, q0, hargs, rfl, rfl, h0, r0⟩ := trodAll_cons hA
  obtain ⟨rfl, rfl, rfl⟩ := trodAll_nil r0
  obtain rfl : args = #[v0] := by cases args; simp_all
  obtain ⟨rfl, rfl⟩ := trodVars_none hV
  obtain ⟨cs0, rfl, _⟩ := okWide_struct Tryz.underlying24 (hval 0 24 v0 rfl rfl)
  have k0 := h0
  have lt0 : ∀ x ∈ p0, x.block < W.heap.size := by obtain ⟨m, hm⟩ := k0; exact DataW.trod_lt m _ _ _ hm
  obtain ⟨fuel, hf⟩ := h0
  obtain ⟨x, hx, hg, hb⟩ := opens_make H enc W _ _ _ _ _ _ _ hf
  have e := make_K hx
  have ecs : cs0 = #[.int .i64 x.1, .int .u64 x.2.1, .int .i64 x.2.2] := by
    have e2 : cs0.toList = [.int .i64 x.1, .int .u64 x.2.1, .int .i64 x.2.2] := e
    rw [← Array.toArray_toList (xs := cs0), e2]
  subst ecs
  clear hA0 hval0 hf
  have hu := wf_u64 hg.2.1
  have hi := wf_i64 hg.2.2
  obtain ⟨sd, hsd⟩ := Int.eq_ofNat_of_zero_le hu.1
  have hok := spaceNew_walk W x.1 x.2.2 sd (by omega) hi.1 hi.2 (of_laid hL)
  rw [← hsd] at hok
  refine hok.mono fun e W' ⟨he, bel⟩ => ?_
  subst he
  exact ⟨_, rfl, _, _, _, [], _, [], hW', trodAll_mk1 (shut_bool Tryz.underlying4 _), (trodAll_cons_mk (Below.trod laidOut (by kernel_rfl) (of_decide_eq_true (by kernel_rfl)) k0 bel lt0) trodAll_mk0), rfl, bel.frame _, fun h => by cases h⟩
theorem over : Rows.SpaceNewSaid :=
  OpenClaim.holds_of_wide 3 Tryz.f3 rfl rfl rfl rfl rfl rfl rfl ⟨rfl, rfl, rfl, rfl, rfl⟩ rfl rfl rfl rfl rfl (by kernel_rfl) Tryz.func3 (by kernel_rfl)
    (of_decide_eq_true (by kernel_rfl)) (by unfold Func.isWrapper; first | (rw [if_pos (by decide +kernel)]; kernel_rfl) | (rw [if_neg (by decide +kernel)]; exact ⟨rfl, rfl⟩))
    (fun os started H enc _ => lifted os started H enc)
theorem card : Rows.SpaceNewCardSaid :=
  Claim7.holds_tied_plain_at .later [] [.data, .data] true (true, "4183c4d7b9fb390f47f8ef75fceaaebb5a80d1fc72adef25ee511be4b7052b55") true
    over (fun _ h => by cases h) (by kernel_rfl) (fun _ h => by cases h) spaceNew_row_tie rfl ⟨rfl, rfl⟩ (by kernel_rfl) rfl
    (fun f fn hf hfn => by
      obtain rfl : f = 3 := Option.some.inj ((show Tryz.prog.funcNamed Rows.spaceNewRow.func = some 3 by kernel_rfl).symm.trans hf) |>.symm
      obtain rfl : fn = Tryz.f3 := (Option.some.inj (Tryz.func3.symm.trans hfn)).symm
      exact ⟨by kernel_rfl, fun j t ht => by
        rw [Tryz.params3] at ht
        have hm : t ∈ [24] := by simpa using Array.mem_of_getElem? ht
        have hall : ([24].all fun u => !Tryz.prog.wantsStandIn u) = true := by kernel_rfl
        exact (show Tryz.prog.wantsStandIn t = false by simpa using List.all_eq_true.1 hall t hm)⟩)
    (by kernel_rfl)
#print axioms card
end Go.Proofs.YtglglknhifjbaaaGreatDoor.spaceNew
namespace Go.Proofs.YtglglknhifjbaaaGreatDoor
theorem spaceNew_card : Rows.SpaceNewCardSaid := spaceNew.card
end Go.Proofs.YtglglknhifjbaaaGreatDoor
