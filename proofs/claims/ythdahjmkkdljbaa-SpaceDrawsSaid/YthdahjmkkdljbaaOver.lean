/- Over, into, quota, num, larderref10.New: walked. -/
import Derived.Test.YthdahjmkkdljbaaRefL
namespace Go.Proofs.Ythdahjmkkdljbaa.Sp
open Go.RowKit Go.Proofs.YthdahjmkkdljbaaW.PrintWords Go.Proofs.YthdahjmkkdljbaaW.PrintLast Go.Proofs.YthdahjmkkdljbaaW.PrintMore
set_option linter.unusedVariables false
set_option linter.unusedSimpArgs false
theorem kd_keep {w w' : World} {A : Option Addr} {l : List Int} (h : Kd.C (Kd.int .u8) w A l.length l) (hA : ∀ ad, A = some ad → ad.block < w.heap.size → 0 < l.length → w'.heap[ad.block]? = w.heap[ad.block]?) : Kd.C (Kd.int .u8) w' A l.length l := by
  obtain ⟨h1, h2, h3⟩ := Kd.reads_of_C (d := (0 : Int)) h
  refine Kd.C_of_reads (d := (0 : Int)) (h1 := fun _ => rfl) ⟨h1, h2, fun h0 => ?_⟩
  obtain ⟨ad, rfl, hc⟩ := h3 h0
  refine ⟨ad, rfl, fun j hj => ?_⟩
  have e : (ad.add j).block = ad.block := by unfold Addr.add; split <;> rfl
  have hlt := World.block_lt_of_cell? w _ (hc j hj)
  rw [← hc j hj]
  refine World.cell?_of_block ?_
  rw [e] at hlt ⊢
  exact hA ad rfl hlt h0
theorem kd_fr {w w' : World} {P : Nat → Prop} {A : Option Addr} {l : List Int} (h : Kd.C (Kd.int .u8) w A l.length l) (hf : Fr P w w') (hp : ∀ ad, A = some ad → 0 < l.length → ¬ P ad.block) : Kd.C (Kd.int .u8) w' A l.length l :=
  kd_keep h (fun ad ha hlt h0 => hf.block _ hlt (hp ad ha h0))
set_option maxHeartbeats 2000000 in
set_option maxRecDepth 100000 in
theorem over_walk (w : World) (g n c : Nat) (cur : Array Value) (hg : w.heap[g]? = some (.cells cur 5 (0, 0))) (hn : n ≤ cur.size) (hm : n ≤ 140737488351232) :
    Calls Try.prog 21 #[.slice (some ⟨g, 0, none⟩) n c] w fun e w' => e = .returned (.tuple #[]) ∧ Fr (fun k => k = g) w w' := by
  have HG := Lib.hid hg
  clear hg
  go_enter Try.func21, Try.ntmps21
  go_wp2_with fail
  go_loopw [2] (fun v2 wr => ∃ (j : Nat) (cu : Array Value), j ≤ n ∧ v2 = .int .i64 (j : Int) ∧ Hid (wr.heap[g]? = some (.cells cu 5 (0, 0)) ∧ n ≤ cu.size ∧ Fr (fun k => k = g) w wr)) (fun v2 _ => n - (intOf v2).toNat)
  case atStart => exact ⟨0, cur, by omega, rfl, HG.out, hn, Fr.refl _ w⟩
  case round =>
    obtain ⟨j, cu, hj, rfl, HH⟩ := hrel
    by_cases hlt : j < n
    · have p1 : (0 : Int) ≤ (j : Int) := by omega
      have q1 : (j : Int) < (n : Int) := by omega
      obtain ⟨u, hu⟩ : ∃ u, wr.cell? ⟨g, j, none⟩ = some u := by
        have h1 := HH.out.1
        have : j < cu.size := by have := HH.out.2.1; omega
        exact ⟨cu[j], by simp [World.cell?, h1, this]⟩
      have hf : wr.frozen? ⟨g, j, none⟩ = false := by simp [World.frozen?, HH.out.1]
      go_wp2_with fail
      go_roundw
      case rel =>
        refine ⟨j + 1, cu.setIfInBounds j (.int .u8 238), by omega, by go_num, ?_, by simpa using HH.out.2.1, HH.out.2.2.setCell (.inl rfl) _⟩
        rw [setCell_at, if_pos rfl, HH.out.1]
      case measure => simp [intOf]; omega
    · have e2 : (j : Int) < (n : Int) ↔ False := ⟨fun h => by omega, False.elim⟩
      go_wp2_with fail
      go_end0
      exact ⟨rfl, HH.out.2.2⟩
theorem wrapI {x : Int} (h0 : -9223372036854775808 ≤ x) (h1 : x ≤ 9223372036854775807) : IntKind.i64.wrap x = x := Go.IntWalk.i64_in _ (by omega)
set_option maxHeartbeats 2000000 in
set_option maxRecDepth 100000 in
/-- into(n, m): the residue of n that is not below 0. -/
theorem into_walk (w : World) (n m : Int) (hn0 : -9223372036854775808 ≤ n) (hn1 : n ≤ 9223372036854775807) (hm0 : 0 < m) (hm1 : m ≤ 1000000) :
    Calls Try.prog 9 #[.int .i64 n, .int .i64 m] w fun e w' => e = .returned (.int .i64 (n % m)) ∧ w = w' := by
  have hz : (m == 0) = false := by rw [beq_eq_false_iff_ne]; omega
  have hz' : ¬ m = 0 := by omega
  have hz2 : m ≠ -1 := by omega
  obtain ⟨r, hr⟩ : ∃ r, n.tmod m = r := ⟨_, rfl⟩
  have hlt : r < m ∧ -m < r := by
    subst hr
    have h1 := Int.tmod_lt_of_pos n hm0
    refine ⟨h1, ?_⟩
    have h2 := Int.tmod_lt_of_pos (-n) hm0
    rw [Int.neg_tmod] at h2
    omega
  have hw := wrapI (x := r) (by omega) (by omega)
  have hw2 := wrapI (x := r + m) (by omega) (by omega)
  have hfin : n % m = if r < 0 then r + m else r := by
    have h3 := Int.mul_tdiv_add_tmod n m
    rw [hr] at h3
    have h4 : n % m = r % m := by rw [← h3, Int.add_comm, Int.add_mul_emod_self_left]
    rw [h4]
    split
    · rename_i h
      rw [← Int.add_emod_right, Int.emod_eq_of_lt (by omega) (by omega)]
    · rename_i h
      rw [Int.emod_eq_of_lt (by omega) (by omega)]
  have HF := Lib.hid hfin
  clear hfin
  go_enter Try.func9, Try.ntmps9
  by_cases hneg : r < 0
  · go_wp2_with fail
    go_ret
    exact ⟨congrArg (fun x : Int => Ending.returned (.int .i64 x)) (show r + m = n % m by rw [HF.out, if_pos hneg]), rfl⟩
  · go_wp2_with fail
    go_ret
    exact ⟨congrArg (fun x : Int => Ending.returned (.int .i64 x)) (show r = n % m by rw [HF.out, if_neg (by omega)]), rfl⟩
set_option maxHeartbeats 2000000 in
theorem quota_walk (w : World) : Calls Try.prog 12 #[.int .i64 0] w fun e w' => e = .returned (.int .i64 256) ∧ w = w' := by
  go_enter Try.func12, Try.ntmps12
  go_wp2_with fail
  refine (into_walk _ 0 16129 (by decide) (by decide) (by decide) (by decide)).mono ?_
  rintro e w' ⟨rfl, rfl⟩
  go_wp2_with fail
  go_ret
  exact ⟨rfl, rfl⟩
set_option maxHeartbeats 2000000 in
theorem num_walk (w : World) (v : Int) : Calls Try.prog 15 #[.int .i64 v] w fun e w' => e = .returned (.int .i64 v) ∧ w = w' := by
  go_enter Try.func15, Try.ntmps15
  go_wp2_with fail
  go_ret
  exact ⟨rfl, rfl⟩
def RNewPost (w : World) (q : Nat) (seed : Int) (e : Ending) (w' : World) : Prop := e = .returned (.tuple #[.pointer (some ⟨w.heap.size, 0, none⟩), .int .i64 0]) ∧ ∃ C, StQ w' w.heap.size C (.slice none 0 0) [] ∧ Below w.heap.size w w' ∧ w'.heap.size = w.heap.size + 1
set_option maxHeartbeats 2000000 in
theorem rnew_walk (w : World) (seed : Int) : Calls Try.prog 14 #[.int .i64 256, .int .u64 seed] w (RNewPost w 256 seed) := by
  go_enter Try.func14, Try.ntmps14
  go_wp2_with fail
  go_ret2
  refine ⟨rfl, #[.int .i64 256, .int .u64 seed, .int .u64 0, .slice none 0 0, .slice none 0 0, .slice none 0 0, .bool false, .slice none 0 0, .slice none 0 0], ⟨?_, rfl, ?_⟩, ?_, ?_⟩
  · rw [alloc_at, if_pos rfl]; rfl
  · exact ⟨rfl, .inl ⟨rfl, none, rfl, fun a ha => by cases ha⟩⟩
  · exact (Below.refl _ w).alloc (Nat.le_refl _) _
  · simp
end Go.Proofs.Ythdahjmkkdljbaa.Sp
