/- Package heap: handles (held, At, Root), Alloc where there is room, walked. -/
import Derived.Test.YthdahjmkkdljbaaHf
namespace Go.Proofs.Ythdahjmkkdljbaa.Sp
open Go.RowKit Go.Proofs.YthdahjmkkdljbaaW.PrintWords Go.Proofs.YthdahjmkkdljbaaW.PrintLast Go.Proofs.YthdahjmkkdljbaaW.PrintMore
set_option linter.unusedVariables false
set_option linter.unusedSimpArgs false
theorem own_cells {w : World} {e : TypeId} {size n : Nat} {v : Value} {xs : List Value} (h : w.ownsRow 0 e size v n xs) (hn : 0 < n) :
    ∃ g cap, v = .slice (some ⟨g, 0, none⟩) n cap ∧ n ≤ cap ∧ g < w.heap.size ∧ (∀ j (hj : j < xs.length), w.cell? ⟨g, j, none⟩ = some xs[j]) ∧ ∀ j, w.frozen? ⟨g, j, none⟩ = false := by
  rcases h.2 with ⟨_, h0⟩ | ⟨g, cap, cur, rfl, _, hh, h1, h2, h3, h4⟩
  · omega
  · refine ⟨g, cap, rfl, h1, blk_lt hh, fun j hj => ?_, fun j => by simp [World.frozen?, hh]⟩
    have hl := h.1
    have hlt : j < cur.size := by
      rw [h3]
      have : n * size ≤ cap * size := Nat.mul_le_mul_right _ h1
      omega
    have e : cur[j] = xs[j] := by
      have : cur.toList[j]? = xs[j]? := by
        conv => rhs; rw [← h4]
        rw [List.getElem?_take_of_lt (by omega)]
      rw [List.getElem?_eq_getElem hj, List.getElem?_eq_getElem (by simpa using hlt)] at this
      simpa using this
    simp [World.cell?, hh, hlt, e]
theorem rootV_len : ∀ (l : List (Bool × Nat)), (rootV l).length = l.length * 2
  | [] => rfl
  | r :: l => by
    have := rootV_len l
    unfold rootV at this ⊢
    rw [List.flatMap_cons, List.length_append, this]
    simp; omega
theorem rootV_get : ∀ (l : List (Bool × Nat)) (i : Nat) (h : i < l.length), (rootV l)[i * 2]? = some (.bool l[i].1) ∧ (rootV l)[i * 2 + 1]? = some (wv l[i].2)
  | [], i, h => by simp at h
  | r :: l, 0, h => ⟨rfl, rfl⟩
  | r :: l, i + 1, h => by
    have := rootV_get l i (by simpa using h)
    have e : rootV (r :: l) = .bool r.1 :: wv r.2 :: rootV l := rfl
    rw [e, show (i + 1) * 2 = (i * 2 + 1) + 1 by omega, List.getElem?_cons_succ, List.getElem?_cons_succ, List.getElem?_cons_succ, List.getElem?_cons_succ]
    exact this
theorem root_cells {w : World} {own : Own} {hp : Nat} {M : HM} {x : HX} (H : HMem w own hp M x) (i : Nat) (hi : i < M.roots.length) :
    ∃ g cap, x.vt = .slice (some ⟨g, 0, none⟩) M.roots.length cap ∧ M.roots.length ≤ cap ∧ own g = 5 ∧ w.cell? ⟨g, i * 2, none⟩ = some (.bool M.roots[i].1) ∧ w.cell? ⟨g, i * 2 + 1, none⟩ = some (.int .u64 (M.roots[i].2 : Int)) ∧ ∀ j, w.frozen? ⟨g, j, none⟩ = false := by
  obtain ⟨g, cap, hv, hc, hlt, hcell, hf⟩ := own_cells H.rt.1 (by omega)
  obtain ⟨e1, e2⟩ := rootV_get M.roots i hi
  have hl := rootV_len M.roots
  have h1 := hcell (i * 2) (by omega)
  have h2 := hcell (i * 2 + 1) (by omega)
  rw [List.getElem?_eq_getElem (by omega)] at e1 e2
  rw [Option.some.inj e1] at h1
  rw [Option.some.inj e2] at h2
  exact ⟨g, cap, hv, hc, H.rt.2 g (by rw [hv]; rfl), h1, h2, hf⟩
set_option maxHeartbeats 4000000 in
set_option maxRecDepth 100000 in
theorem held_yes (w : World) (own : Own) (hp : Nat) (M : HM) (x : HX) (H : HMem w own hp M x) (i : Nat) (hi : i < M.roots.length) (hu : M.roots[i].1 = true) (hm : M.roots.length ≤ 4611686018427387904) (n : Int) (hn : n = (i : Int) + 1) :
    Calls Try.prog 38 #[.pointer (some ⟨hp, 0, none⟩), .int .i64 n] w fun e w' => e = .returned (.bool true) ∧ w = w' := by
  obtain ⟨g, cap, hv, hc, -, k0, k1, -⟩ := root_cells H i hi
  rw [hu] at k0
  have c9 := H.c9
  rw [hv] at c9
  clear H hv hu
  subst hn
  have e1 : decide (1 ≤ (i : Int) + 1) = true := decide_eq_true (by omega)
  have e2 : decide ((i : Int) + 1 ≤ (M.roots.length : Int)) = true := decide_eq_true (by omega)
  have e3 : ((i : Int) + 1 - 1) = (i : Int) := by omega
  go_enter Try.func38, Try.ntmps38
  go_wp2_with fail
  go_ret
  exact ⟨rfl, rfl⟩
set_option maxHeartbeats 4000000 in
set_option maxRecDepth 100000 in
theorem at_walk (w : World) (own : Own) (hp : Nat) (M : HM) (x : HX) (H : HMem w own hp M x) (i : Nat) (hi : i < M.roots.length) (hu : M.roots[i].1 = true) (hm : M.roots.length ≤ 4611686018427387904) (n : Int) (hn : n = (i : Int) + 1) :
    Calls Try.prog 39 #[.pointer (some ⟨hp, 0, none⟩), .int .i64 n] w fun e w' => e = .returned (.tuple #[.int .u64 (M.roots[i].2 : Int), .int .i64 0]) ∧ w = w' := by
  obtain ⟨g, cap, hv, hc, -, k0, k1, -⟩ := root_cells H i hi
  have c9 := H.c9
  rw [hv] at c9
  subst hn
  have HH := Lib.hid H; have HU := Lib.hid hu
  clear H hv hu k0
  have e3 : ((i : Int) + 1 - 1) = (i : Int) := by omega
  go_enter Try.func39, Try.ntmps39
  go_wp2_with fail
  refine (held_yes w own hp M x HH.out i hi HU.out hm ((i : Int) + 1) rfl).mono ?_
  rintro e w' ⟨rfl, rfl⟩
  go_wp2_with fail
  go_ret2
  exact ⟨rfl, rfl⟩
def HAllocPost (w : World) (own : Own) (hp : Nat) (M : HM) (x : HX) (k r y : Nat) (e : Ending) (w' : World) : Prop :=
  ∃ own', e = .returned (.tuple #[.int .u64 (usedOf M.half.objs : Int), .int .i64 0]) ∧ HMem w' own' hp { M with half := ⟨M.half.size, M.half.objs ++ [(headW k r y, List.replicate (r + y) 0)]⟩ } x ∧ HStep w own w' own'
set_option maxHeartbeats 4000000 in
set_option maxRecDepth 100000 in
theorem hAlloc_room (w : World) (own : Own) (hp : Nat) (M : HM) (x : HX) (H : HMem w own hp M x) (k r y : Nat) (hs : Shape k r y) (hsm : 1 + r + y ≤ 64) (hroom : usedOf M.half.objs + (1 + r + y) ≤ M.half.size) :
    Calls Try.prog 27 #[.pointer (some ⟨hp, 0, none⟩), .int .i64 (k : Int), .int .i64 (r : Int), .int .i64 (y : Int)] w (HAllocPost w own hp M x k r y) := by
  have c1 := H.c1
  have hs2 := H.half.s2
  have hfit := H.half.fit
  have HH := Lib.hid H; have HS := Lib.hid hs
  obtain ⟨hk1, hk2, hr2, hx2⟩ := hs
  clear H
  go_enter Try.func27, Try.ntmps27
  have hd0 : decide ((64 : Int) < 1 + (r : Int) + (y : Int)) = false := decide_eq_false (by omega)
  have hd : decide ((M.half.size : Int) < (usedOf M.half.objs : Int) + (1 + (r : Int) + (y : Int))) = false := decide_eq_false (by omega)
  have hd : decide (M.half.size < usedOf M.half.objs + (1 + r + y)) = false := decide_eq_false (by omega)
  go_wp2_with fail
  go_quiet ((first
    | (go_at_call 25; exact quiet_left (used_walk _ own x.ah x.ph M.half.size M.half.objs (HH.out.half.drewN _)))
    | (go_at_call 24; exact quiet_left (size_walk _ own x.ah x.ph M.half.size M.half.objs (HH.out.half.drewN _)))))
  go_wp2_with fail
  refine (arAlloc_walk _ own x.ah x.ph M.half.size M.half.objs (HH.out.half.drewN _) k r y HS.out hroom (HH.out.drewN _).top).mono ?_
  rintro e w' ⟨own', rfl, h1, h2⟩
  have H1 := Lib.hid h1; have H2 := Lib.hid h2
  clear h1 h2
  go_wp2_with fail
  go_ret2
  exact ⟨own', rfl, (HH.out.drewN _).stepHalf H2.out H1.out, HStep.trans (HStep.drewN _) H2.out.h⟩
end Go.Proofs.Ythdahjmkkdljbaa.Sp
