/- space.Draw and space.Level, walked. -/
import Derived.Test.YthdahjmkkdljbaaQ
import Derived.Test.YthdahjmkkdljbaaSnew
import Derived.StillTailTactics

namespace Go.Proofs.Ythdahjmkkdljbaa.Sp
open Go.RowKit Go.Proofs.YthdahjmkkdljbaaW.PrintWords Go.Proofs.YthdahjmkkdljbaaW.PrintLast Go.Proofs.YthdahjmkkdljbaaW.PrintMore
set_option linter.unusedVariables false
set_option linter.unusedSimpArgs false
/-- A space's struct with draws D in the row v. -/
structure SpQ (w : World) (s : Nat) (C : Array Value) (v : Value) (D : List Int) : Prop where
  hs : w.heap[s]? = some (.cells (C.setIfInBounds 8 v) 70 (0, 0))
  size : C.size = 16
  q : QRow w 0 5 1 v D.length (u8s D)
theorem SpQ.cell {w : World} {s : Nat} {C : Array Value} {v : Value} {D : List Int} (h : SpQ w s C v D) : w.cell? ⟨s, 8, none⟩ = some v := by
  have := h.size
  simp [World.cell?, h.hs, this]
theorem SpQ.fz {w : World} {s : Nat} {C : Array Value} {v : Value} {D : List Int} (h : SpQ w s C v D) : w.frozen? ⟨s, 8, none⟩ = false := by simp [World.frozen?, h.hs]
theorem SpQ.ne {w : World} {s : Nat} {C : Array Value} {v : Value} {D : List Int} (h : SpQ w s C v D) (k : Nat) (hk : v.ownBlock = some k) : k ≠ s := by
  rintro rfl
  obtain ⟨_, cells, hc⟩ := q_typed h.q k hk
  rw [h.hs] at hc
  injection hc with hc
  injection hc with _ h2 _
  exact absurd h2 (by decide)
/-- What a change of the draws leaves. -/
structure SpStep (w w' : World) (s : Nat) (v v' : Value) : Prop where
  fr : Fr (fun k => k = s ∨ v.ownBlock = some k) w w'
  at_ : ∀ k, v'.ownBlock = some k → v.ownBlock = some k ∨ w.heap.size ≤ k
theorem at_of {n : Nat} {v v' : Value} (h : v'.ownBlock = v.ownBlock ∨ ∃ k, v'.ownBlock = some k ∧ n ≤ k) (k : Nat) (hk : v'.ownBlock = some k) : v.ownBlock = some k ∨ n ≤ k := by
  rcases h with e | ⟨q, hq, hle⟩
  · exact .inl (e ▸ hk)
  · rw [hq] at hk; injection hk with hk; exact .inr (hk ▸ hle)
def DrawPost (w : World) (s : Nat) (C : Array Value) (v : Value) (D : List Int) (e : Ending) (w' : World) : Prop := e = .returned (.tuple #[]) ∧ ∃ v', SpQ w' s C v' D ∧ SpStep w w' s v v'
theorem draw_fin {w w1 : World} {s n : Nat} {C : Array Value} {v v1 : Value} {D N : List Int} (h : SpQ w s C v D) (hq : QRow w1 0 5 1 v1 n (u8s D ++ u8s N)) (hn : n = D.length + N.length) (nq : Nat) (hg : (w.drewN nq).grownBy w1 v.ownBlock) (hat : v1.ownBlock = v.ownBlock ∨ ∃ b, v1.ownBlock = some b ∧ (w.drewN nq).heap.size ≤ b) :
    w1.cell? ⟨s, 8, none⟩ = some v ∧ w1.frozen? ⟨s, 8, none⟩ = false ∧ Hid (DrawPost w s C v (D ++ N) (.returned (.tuple #[])) (w1.setCell ⟨s, 8, none⟩ v1)) := by
  have hs1 : w1.heap[s]? = some (.cells (C.setIfInBounds 8 v) 70 (0, 0)) := (hg.block s (blk_lt h.hs) (fun e => h.ne s e.symm rfl)).trans h.hs
  have hsz := h.size
  refine ⟨by simp [World.cell?, hs1, hsz], by simp [World.frozen?, hs1], rfl, v1, ⟨?_, hsz, ?_⟩, ?_, at_of hat⟩
  · rw [setCell_at, if_pos rfl, hs1]
    simp
  · have e : u8s (D ++ N) = u8s D ++ u8s N := by simp [u8s]
    rw [e, List.length_append, ← hn]
    refine q_move hq (fun k hk => ?_)
    rw [setCell_at, if_neg ?_]
    rcases hat with hat | ⟨b, hb, hle⟩
    · exact h.ne k (hat ▸ hk)
    · rw [hb] at hk
      injection hk with hk
      subst hk
      have : w.heap.size ≤ b := hle
      have := blk_lt h.hs
      omega
  · exact (((Fr.refl _ w).drewN nq).grown hg (fun k hk => .inl (.inr hk))).setCell (.inl (.inl rfl)) _
theorem src_take {w : World} {A : Option Addr} {b : List Int} (h : Kd.C (Kd.int .u8) w A b.length b) (m : Nat) (hm : m ≤ b.length) (h0 : 0 < m) (w' : World) (hw : w'.heap = w.heap) : ∃ ad, A = some ad ∧ ∀ j u, (u8s (b.take m))[j]? = some u → w'.cell? (ad.add j) = some u := by
  obtain ⟨ad, e, hc⟩ := u8s_src h (by omega)
  refine ⟨ad, e, fun j u hj => ?_⟩
  have hlt : j < m := by have := (List.getElem?_eq_some_iff.1 hj).1; rw [u8s_len] at this; simp at this; omega
  have e2 : (u8s b)[j]? = some u := by
    rw [← hj]
    unfold u8s
    rw [List.getElem?_map, List.getElem?_map, List.getElem?_take_of_lt hlt]
  rw [← hc j u e2]
  unfold World.cell?
  rw [hw]
attribute [local go_sem] max2_int min2_int max_two min_two
set_option maxHeartbeats 4000000 in
set_option maxRecDepth 100000 in
theorem draw_walk (w : World) (s : Nat) (C : Array Value) (v : Value) (D : List Int) (h : SpQ w s C v D) (hD : D.length ≤ 4096) (A : Option Addr) (c : Nat) (b : List Int) (hb : Kd.C (Kd.int .u8) w A b.length b) (hc : b.length ≤ c) (hm : b.length ≤ 140737488351232) :
    Calls Try.prog 5 #[.pointer (some ⟨s, 0, none⟩), .slice A b.length c] w (DrawPost w s C v (D ++ b.take (4096 - D.length))) := by
  obtain ⟨B, cap, hv, hle⟩ := q_slice h.q
  subst hv
  have k0 := h.cell
  have HH := Lib.hid h; have HB := Lib.hid hb
  clear h hb
  obtain ⟨r, hr⟩ : ∃ r, 4096 - D.length = r := ⟨_, rfl⟩
  rw [hr]
  have hsub : IntKind.i64.wrap (4096 - (D.length : Int)) = (r : Int) := by rw [Go.IntWalk.i64_in _ (by omega)]; omega
  go_enter Try.func5, Try.ntmps5
  by_cases hlt : b.length < r
  · have e1 : decide (b.length < r) = true := decide_eq_true hlt
    have e2 : ((b.length : Int) < (r : Int)) = True := by simp; omega
    rw [List.take_of_length_le (Nat.le_of_lt hlt)]
    go_wp2_with fail
    refine wp_region_held_drew (S := fun _ => True) (by kernel_rfl) trivial (fun hHeld => ?_)
    refine tk (i := 0) (v := ?v1) rfl (by kernel_rfl) (fun _ _ _ h => h) ⟨by rfl, ?y1⟩ trivial ?r1
    case y1 => (intro w_ hSw; simp only [List.getElem_toArray, List.getElem_cons_zero, List.getElem_cons_succ]; go_simp; try with_reducible rfl)
    (try simp only [List.getElem_toArray, List.getElem_cons_zero, List.getElem_cons_succ, Act.put, List.setIfInBounds_toArray, List.set_cons_zero, List.set_cons_succ])
    refine tk (i := 1) (v := ?v2) rfl (by kernel_rfl) (fun _ _ _ h => h) ⟨by rfl, ?y2⟩ trivial ?r2
    case y2 => (intro w_ hSw; simp only [List.getElem_toArray, List.getElem_cons_zero, List.getElem_cons_succ]; go_simp; try with_reducible rfl)
    (try simp only [List.getElem_toArray, List.getElem_cons_zero, List.getElem_cons_succ, Act.put, List.setIfInBounds_toArray, List.set_cons_zero, List.set_cons_succ])
    refine tk (i := 2) (v := ?v3) rfl (by kernel_rfl) (fun _ _ _ h => h) ⟨by rfl, ?y3⟩ trivial ?r3
    case y3 => (intro w_ hSw; simp only [List.getElem_toArray, List.getElem_cons_zero, List.getElem_cons_succ]; go_simp; try with_reducible rfl)
    (try simp only [List.getElem_toArray, List.getElem_cons_zero, List.getElem_cons_succ, Act.put, List.setIfInBounds_toArray, List.set_cons_zero, List.set_cons_succ])
    refine tk (i := 3) (v := ?v4) rfl (by kernel_rfl) (fun _ _ _ h => h) ⟨by rfl, ?y4⟩ trivial ?r4
    case y4 => (intro w_ hSw; simp only [List.getElem_toArray, List.getElem_cons_zero, List.getElem_cons_succ]; go_simp; try with_reducible rfl)
    (try simp only [List.getElem_toArray, List.getElem_cons_zero, List.getElem_cons_succ, Act.put, List.setIfInBounds_toArray, List.set_cons_zero, List.set_cons_succ])
    refine tk (i := 5) (v := ?v5) rfl (by kernel_rfl) (fun _ _ _ h => h) ⟨by rfl, ?y5⟩ trivial ?r5
    case y5 => (intro w_ hSw; simp only [List.getElem_toArray, List.getElem_cons_zero, List.getElem_cons_succ]; go_simp; try with_reducible rfl)
    (try simp only [List.getElem_toArray, List.getElem_cons_zero, List.getElem_cons_succ, Act.put, List.setIfInBounds_toArray, List.set_cons_zero, List.set_cons_succ])
    refine tk (i := 6) (v := ?v6) rfl (by kernel_rfl) (fun _ _ _ h => h) ⟨by rfl, ?y6⟩ trivial ?r6
    case y6 => (intro w_ hSw; simp only [List.getElem_toArray, List.getElem_cons_zero, List.getElem_cons_succ]; go_simp; try with_reducible rfl)
    (try simp only [List.getElem_toArray, List.getElem_cons_zero, List.getElem_cons_succ, Act.put, List.setIfInBounds_toArray, List.set_cons_zero, List.set_cons_succ])
    refine tk (i := 7) (v := ?v7) rfl (by kernel_rfl) (fun _ _ _ h => h) ⟨by rfl, ?y7⟩ trivial ?r7
    case y7 => (intro w_ hSw; simp only [List.getElem_toArray, List.getElem_cons_zero, List.getElem_cons_succ]; go_simp; try with_reducible rfl)
    (try simp only [List.getElem_toArray, List.getElem_cons_zero, List.getElem_cons_succ, Act.put, List.setIfInBounds_toArray, List.set_cons_zero, List.set_cons_succ])
    refine tk (i := 8) (v := ?v8) rfl (by kernel_rfl) (fun _ _ _ h => h) ⟨by rfl, ?y8⟩ trivial ?r8
    case y8 => (intro w_ hSw; simp only [List.getElem_toArray, List.getElem_cons_zero, List.getElem_cons_succ]; go_simp; try with_reducible rfl)
    (try simp only [List.getElem_toArray, List.getElem_cons_zero, List.getElem_cons_succ, Act.put, List.setIfInBounds_toArray, List.set_cons_zero, List.set_cons_succ])
    refine tk (i := 9) (v := ?v9) rfl (by kernel_rfl) (fun _ _ _ h => h) ⟨by rfl, ?y9⟩ trivial ?r9
    case y9 => (intro w_ hSw; simp only [List.getElem_toArray, List.getElem_cons_zero, List.getElem_cons_succ]; go_simp; try with_reducible rfl)
    (try simp only [List.getElem_toArray, List.getElem_cons_zero, List.getElem_cons_succ, Act.put, List.setIfInBounds_toArray, List.set_cons_zero, List.set_cons_succ])
    refine tk (i := 10) (v := ?v10) rfl (by kernel_rfl) (fun _ _ _ h => h) ⟨by rfl, ?y10⟩ trivial ?r10
    case y10 => (intro w_ hSw; simp only [List.getElem_toArray, List.getElem_cons_zero, List.getElem_cons_succ]; go_simp; try with_reducible rfl)
    (try simp only [List.getElem_toArray, List.getElem_cons_zero, List.getElem_cons_succ, Act.put, List.setIfInBounds_toArray, List.set_cons_zero, List.set_cons_succ])
    refine wpAnyH_ready (rs := [4]) (by kernel_rfl) (by simp) ?_
    refine AllReadyH.cons (o := _) rfl (fun K hK => ?_) AllReadyH.nil
    (try simp only [List.getElem_toArray, List.getElem_cons_zero, List.getElem_cons_succ])
    go_simp
    refine hK.out _ _ trivial (fun hHeld => ?_)
    clear hK K
    (try simp only [List.getElem_toArray, List.getElem_cons_zero, List.getElem_cons_succ, Act.put, List.setIfInBounds_toArray, List.set_cons_zero, List.set_cons_succ])
    refine wpAnyH_ready (rs := [11]) (by kernel_rfl) (by simp) ?_
    refine AllReadyH.cons (o := _) rfl (fun K hK => ?_) AllReadyH.nil
    refine step_q w.drew (by rfl) _ _ 42 (by rfl) 0 5 (.int .u8 0) 1 Try.underlying42 infoU8 rfl (.slice B D.length cap) D.length (u8s D) (by rfl) (q_move HH.out.q (fun _ _ => rfl)) A b.length c (u8s (b)) (by rfl) (by rw [u8s_len]) (fun h0 => (by have := src_take HB.out b.length (Nat.le_refl _) h0 w.drew rfl; rwa [List.take_length] at this)) (u8s_one _) (by unfold maxLen; omega) (by omega) (Nat.zero_le _) ?_
    intro v1 w1 hq hg hat
    obtain ⟨B1, c1, rfl, -⟩ := q_slice hq
    obtain ⟨d0, d1, HF⟩ := draw_fin (N := b) HH.out hq (by rfl) 1 hg hat
    refine hK.out _ _ trivial (fun hHeld => ?_)
    clear hK K hq hg hat
    (try simp only [List.getElem_toArray, List.getElem_cons_zero, List.getElem_cons_succ, Act.put, List.setIfInBounds_toArray, List.set_cons_zero, List.set_cons_succ])
    refine tk (i := 12) (v := ?v11) rfl (by kernel_rfl) (fun _ _ _ h => h) ⟨by rfl, ?y11⟩ trivial ?r11
    case y11 => (intro w_ hSw; simp only [List.getElem_toArray, List.getElem_cons_zero, List.getElem_cons_succ]; go_simp; try with_reducible rfl)
    (try simp only [List.getElem_toArray, List.getElem_cons_zero, List.getElem_cons_succ, Act.put, List.setIfInBounds_toArray, List.set_cons_zero, List.set_cons_succ])
    refine tk (i := 13) (v := ?v12) rfl (by kernel_rfl) (fun _ _ _ h => h) ⟨by rfl, ?y12⟩ trivial ?r12
    case y12 => (intro w_ hSw; simp only [List.getElem_toArray, List.getElem_cons_zero, List.getElem_cons_succ]; go_simp; try with_reducible rfl)
    (try simp only [List.getElem_toArray, List.getElem_cons_zero, List.getElem_cons_succ, Act.put, List.setIfInBounds_toArray, List.set_cons_zero, List.set_cons_succ])
    refine wpAnyH_ready (rs := [14]) (by kernel_rfl) (by simp) ?_
    refine AllReadyH.cons (o := _) rfl (fun K hK => ?_) AllReadyH.nil
    (try simp only [List.getElem_toArray, List.getElem_cons_zero, List.getElem_cons_succ])
    go_simp
    refine hK.out _ _ trivial (fun hHeld => ?_)
    clear hK K
    (try simp only [List.getElem_toArray, List.getElem_cons_zero, List.getElem_cons_succ, Act.put, List.setIfInBounds_toArray, List.set_cons_zero, List.set_cons_succ])
    refine wpAnyH_done (by kernel_rfl) ?_ _
    go_wp2_with fail
    go_end0
    exact HF.out
  · have e1 : decide (b.length < r) = false := decide_eq_false hlt
    have e2 : ((b.length : Int) < (r : Int)) = False := by simp; omega
    have hrc : r ≤ c := by omega
    go_wp2_with fail
    refine wp_region_held_drew (S := fun _ => True) (by kernel_rfl) trivial (fun hHeld => ?_)
    refine tk (i := 0) (v := ?v13) rfl (by kernel_rfl) (fun _ _ _ h => h) ⟨by rfl, ?y13⟩ trivial ?r13
    case y13 => (intro w_ hSw; simp only [List.getElem_toArray, List.getElem_cons_zero, List.getElem_cons_succ]; go_simp; try with_reducible rfl)
    (try simp only [List.getElem_toArray, List.getElem_cons_zero, List.getElem_cons_succ, Act.put, List.setIfInBounds_toArray, List.set_cons_zero, List.set_cons_succ])
    refine tk (i := 1) (v := ?v14) rfl (by kernel_rfl) (fun _ _ _ h => h) ⟨by rfl, ?y14⟩ trivial ?r14
    case y14 => (intro w_ hSw; simp only [List.getElem_toArray, List.getElem_cons_zero, List.getElem_cons_succ]; go_simp; try with_reducible rfl)
    (try simp only [List.getElem_toArray, List.getElem_cons_zero, List.getElem_cons_succ, Act.put, List.setIfInBounds_toArray, List.set_cons_zero, List.set_cons_succ])
    refine tk (i := 2) (v := ?v15) rfl (by kernel_rfl) (fun _ _ _ h => h) ⟨by rfl, ?y15⟩ trivial ?r15
    case y15 => (intro w_ hSw; simp only [List.getElem_toArray, List.getElem_cons_zero, List.getElem_cons_succ]; go_simp; try with_reducible rfl)
    (try simp only [List.getElem_toArray, List.getElem_cons_zero, List.getElem_cons_succ, Act.put, List.setIfInBounds_toArray, List.set_cons_zero, List.set_cons_succ])
    refine tk (i := 3) (v := ?v16) rfl (by kernel_rfl) (fun _ _ _ h => h) ⟨by rfl, ?y16⟩ trivial ?r16
    case y16 => (intro w_ hSw; simp only [List.getElem_toArray, List.getElem_cons_zero, List.getElem_cons_succ]; go_simp; try with_reducible rfl)
    (try simp only [List.getElem_toArray, List.getElem_cons_zero, List.getElem_cons_succ, Act.put, List.setIfInBounds_toArray, List.set_cons_zero, List.set_cons_succ])
    refine tk (i := 5) (v := ?v17) rfl (by kernel_rfl) (fun _ _ _ h => h) ⟨by rfl, ?y17⟩ trivial ?r17
    case y17 => (intro w_ hSw; simp only [List.getElem_toArray, List.getElem_cons_zero, List.getElem_cons_succ]; go_simp; try with_reducible rfl)
    (try simp only [List.getElem_toArray, List.getElem_cons_zero, List.getElem_cons_succ, Act.put, List.setIfInBounds_toArray, List.set_cons_zero, List.set_cons_succ])
    refine tk (i := 6) (v := ?v18) rfl (by kernel_rfl) (fun _ _ _ h => h) ⟨by rfl, ?y18⟩ trivial ?r18
    case y18 => (intro w_ hSw; simp only [List.getElem_toArray, List.getElem_cons_zero, List.getElem_cons_succ]; go_simp; try with_reducible rfl)
    (try simp only [List.getElem_toArray, List.getElem_cons_zero, List.getElem_cons_succ, Act.put, List.setIfInBounds_toArray, List.set_cons_zero, List.set_cons_succ])
    refine tk (i := 7) (v := ?v19) rfl (by kernel_rfl) (fun _ _ _ h => h) ⟨by rfl, ?y19⟩ trivial ?r19
    case y19 => (intro w_ hSw; simp only [List.getElem_toArray, List.getElem_cons_zero, List.getElem_cons_succ]; go_simp; try with_reducible rfl)
    (try simp only [List.getElem_toArray, List.getElem_cons_zero, List.getElem_cons_succ, Act.put, List.setIfInBounds_toArray, List.set_cons_zero, List.set_cons_succ])
    refine tk (i := 8) (v := ?v20) rfl (by kernel_rfl) (fun _ _ _ h => h) ⟨by rfl, ?y20⟩ trivial ?r20
    case y20 => (intro w_ hSw; simp only [List.getElem_toArray, List.getElem_cons_zero, List.getElem_cons_succ]; go_simp; try with_reducible rfl)
    (try simp only [List.getElem_toArray, List.getElem_cons_zero, List.getElem_cons_succ, Act.put, List.setIfInBounds_toArray, List.set_cons_zero, List.set_cons_succ])
    refine tk (i := 9) (v := ?v21) rfl (by kernel_rfl) (fun _ _ _ h => h) ⟨by rfl, ?y21⟩ trivial ?r21
    case y21 => (intro w_ hSw; simp only [List.getElem_toArray, List.getElem_cons_zero, List.getElem_cons_succ]; go_simp; try with_reducible rfl)
    (try simp only [List.getElem_toArray, List.getElem_cons_zero, List.getElem_cons_succ, Act.put, List.setIfInBounds_toArray, List.set_cons_zero, List.set_cons_succ])
    refine tk (i := 10) (v := ?v22) rfl (by kernel_rfl) (fun _ _ _ h => h) ⟨by rfl, ?y22⟩ trivial ?r22
    case y22 => (intro w_ hSw; simp only [List.getElem_toArray, List.getElem_cons_zero, List.getElem_cons_succ]; go_simp; try with_reducible rfl)
    (try simp only [List.getElem_toArray, List.getElem_cons_zero, List.getElem_cons_succ, Act.put, List.setIfInBounds_toArray, List.set_cons_zero, List.set_cons_succ])
    refine wpAnyH_ready (rs := [4]) (by kernel_rfl) (by simp) ?_
    refine AllReadyH.cons (o := _) rfl (fun K hK => ?_) AllReadyH.nil
    (try simp only [List.getElem_toArray, List.getElem_cons_zero, List.getElem_cons_succ])
    go_simp
    refine hK.out _ _ trivial (fun hHeld => ?_)
    clear hK K
    (try simp only [List.getElem_toArray, List.getElem_cons_zero, List.getElem_cons_succ, Act.put, List.setIfInBounds_toArray, List.set_cons_zero, List.set_cons_succ])
    refine wpAnyH_ready (rs := [11]) (by kernel_rfl) (by simp) ?_
    refine AllReadyH.cons (o := _) rfl (fun K hK => ?_) AllReadyH.nil
    refine step_q w.drew (by rfl) _ _ 42 (by rfl) 0 5 (.int .u8 0) 1 Try.underlying42 infoU8 rfl (.slice B D.length cap) D.length (u8s D) (by rfl) (q_move HH.out.q (fun _ _ => rfl)) A r c (u8s (b.take r)) (by rfl) (by rw [u8s_len]; simp; omega) (fun h0 => src_take HB.out r (by omega) h0 w.drew rfl) (u8s_one _) (by unfold maxLen; omega) (by omega) (Nat.zero_le _) ?_
    intro v1 w1 hq hg hat
    obtain ⟨B1, c1, rfl, -⟩ := q_slice hq
    obtain ⟨d0, d1, HF⟩ := draw_fin (N := b.take r) HH.out hq (by simp; omega) 1 hg hat
    refine hK.out _ _ trivial (fun hHeld => ?_)
    clear hK K hq hg hat
    (try simp only [List.getElem_toArray, List.getElem_cons_zero, List.getElem_cons_succ, Act.put, List.setIfInBounds_toArray, List.set_cons_zero, List.set_cons_succ])
    refine tk (i := 12) (v := ?v23) rfl (by kernel_rfl) (fun _ _ _ h => h) ⟨by rfl, ?y23⟩ trivial ?r23
    case y23 => (intro w_ hSw; simp only [List.getElem_toArray, List.getElem_cons_zero, List.getElem_cons_succ]; go_simp; try with_reducible rfl)
    (try simp only [List.getElem_toArray, List.getElem_cons_zero, List.getElem_cons_succ, Act.put, List.setIfInBounds_toArray, List.set_cons_zero, List.set_cons_succ])
    refine tk (i := 13) (v := ?v24) rfl (by kernel_rfl) (fun _ _ _ h => h) ⟨by rfl, ?y24⟩ trivial ?r24
    case y24 => (intro w_ hSw; simp only [List.getElem_toArray, List.getElem_cons_zero, List.getElem_cons_succ]; go_simp; try with_reducible rfl)
    (try simp only [List.getElem_toArray, List.getElem_cons_zero, List.getElem_cons_succ, Act.put, List.setIfInBounds_toArray, List.set_cons_zero, List.set_cons_succ])
    refine wpAnyH_ready (rs := [14]) (by kernel_rfl) (by simp) ?_
    refine AllReadyH.cons (o := _) rfl (fun K hK => ?_) AllReadyH.nil
    (try simp only [List.getElem_toArray, List.getElem_cons_zero, List.getElem_cons_succ])
    go_simp
    refine hK.out _ _ trivial (fun hHeld => ?_)
    clear hK K
    (try simp only [List.getElem_toArray, List.getElem_cons_zero, List.getElem_cons_succ, Act.put, List.setIfInBounds_toArray, List.set_cons_zero, List.set_cons_succ])
    refine wpAnyH_done (by kernel_rfl) ?_ _
    go_wp2_with fail
    go_end0
    exact HF.out
end Go.Proofs.Ythdahjmkkdljbaa.Sp
