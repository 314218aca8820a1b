/- heap.Stats, space.Heap, walked. -/
import Derived.Test.YthdahjmkkdljbaaSnew
namespace Go.Proofs.Ythdahjmkkdljbaa.Sp
open Go.RowKit Go.Proofs.YthdahjmkkdljbaaW.PrintWords Go.Proofs.YthdahjmkkdljbaaW.PrintLast Go.Proofs.YthdahjmkkdljbaaW.PrintMore
set_option linter.unusedVariables false
set_option linter.unusedSimpArgs false
set_option maxHeartbeats 4000000 in
theorem heapOf_walk (w : World) (s hp : Nat) (h : w.cell? ⟨s, 0, none⟩ = some (.pointer (some ⟨hp, 0, none⟩))) :
    Calls Try.prog 16 #[.pointer (some ⟨s, 0, none⟩)] w fun e w' => e = .returned (.pointer (some ⟨hp, 0, none⟩)) ∧ w = w' := by
  go_enter Try.func16, Try.ntmps16
  go_wp2_with fail
  go_ret
  exact ⟨rfl, rfl⟩
def StatsPost (w : World) (M : HM) (e : Ending) (w' : World) : Prop := Below w.heap.size w w' ∧ ∃ k : Int, e = .returned (.agg #[.int .i64 (M.limit : Int), .int .i64 (M.half.size : Int), .int .i64 (usedOf M.half.objs : Int), .int .i64 (M.large : Int), .int .i64 k, .int .i64 (M.nroots : Int), .int .i64 (M.ncoll : Int), .int .i64 (M.nres : Int), .int .i64 (M.moved : Int)])
set_option maxHeartbeats 4000000 in
set_option maxRecDepth 100000 in
theorem stats_none (w : World) (own : Own) (hp : Nat) (M : HM) (x : HX) (H : HMem w own hp M x) (hb : M.blocks = []) :
    Calls Try.prog 17 #[.pointer (some ⟨hp, 0, none⟩)] w (StatsPost w M) := by
  have hlt := blk_lt H.hd
  have c0 := H.c0; have c1 := H.c1; have c3 := H.c3; have c6 := H.c6
  have hbl : x.bl.length = 0 := by have := H.blk.1; rw [hb] at this; simpa using this
  have hrb := H.rb.1
  rw [hbl] at hrb
  obtain ⟨A, cap, hv⟩ := own_slice hrb
  rw [hv] at c3
  have d : ∀ i, w.cell? ⟨hp, 10 + i, none⟩ = (#[.int .i64 0, .int .i64 0, .int .i64 0, .int .i64 0, .int .i64 0, .int .i64 (M.nroots : Int), .int .i64 (M.ncoll : Int), .int .i64 (M.nres : Int), .int .i64 (M.moved : Int)] : Array Value)[i]? := fun i => by
    simp only [World.cell?, H.hd]
    simp [Nat.add_comm]
  have d0 := d 0; have d1 := d 1; have d2 := d 2; have d3 := d 3; have d4 := d 4; have d5 := d 5; have d6 := d 6; have d7 := d 7; have d8 := d 8
  simp at d0 d1 d2 d3 d4 d5 d6 d7 d8
  have hu := Try.underlying63
  have HH := Lib.hid H
  clear H hv hrb hbl d
  go_enter Try.func17, Try.ntmps17
  have hA := fun o1 o2 => ((HH.out.alloc o1).alloc o2).half
  have HA := Lib.hid hA
  clear hA
  go_wp2_with fail
  refine (size_walk _ own x.ah x.ph M.half.size M.half.objs (HA.out _ _)).mono ?_
  rintro e w' ⟨rfl, rfl⟩
  go_wp2_with fail
  refine (used_walk _ own x.ah x.ph M.half.size M.half.objs ((HH.out.alloc _).alloc _).half).mono ?_
  rintro e w' ⟨rfl, rfl⟩
  go_wp2_with fail
  refine wp_loop_rounds 1 ?_
  rw [rounds_succ]
  go_wp2_with fail
  refine bodyPost_ret (v := .agg #[.int .i64 (M.limit : Int), .int .i64 (M.half.size : Int), .int .i64 (usedOf M.half.objs : Int), .int .i64 (M.large : Int), .int .i64 0, .int .i64 (M.nroots : Int), .int .i64 (M.ncoll : Int), .int .i64 (M.nres : Int), .int .i64 (M.moved : Int)]) (by simp [results, Try.results17, go_sem]) rfl ⟨?_, 0, rfl⟩
  exact ((Below.refl _ w).alloc (Nat.le_refl _) _).alloc (by simp) _
end Go.Proofs.Ythdahjmkkdljbaa.Sp
