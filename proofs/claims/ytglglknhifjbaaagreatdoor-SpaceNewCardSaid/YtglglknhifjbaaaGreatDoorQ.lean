import Derived.Test.YtglglknhifjbaaaGreatDoorHf
import Derived.Laws.CopyOwn
import Derived.OrdersHeld
namespace Go.Proofs.YtglglknhifjbaaaGreatDoor.Sp
open Go.RowKit Go.Proofs.YtglglknhifjbaaaGreatDoorW.PrintWords Go.Proofs.YtglglknhifjbaaaGreatDoorW.PrintLast Go.Proofs.YtglglknhifjbaaaGreatDoorW.PrintMore
set_option linter.unusedVariables false
set_option linter.unusedSimpArgs false
theorem own_cells {w : World} {e : TypeId} {size n : Nat} {v : Value} {xs : List Value} (h : w.ownsRow 0 e size v n xs) (hn : 0 < n) :
    ∃ g cap, v = .slice (some ⟨g, 0, none⟩) n cap ∧ n ≤ cap ∧ g < w.heap.size ∧ (∀ j (hj : j < xs.length), w.cell? ⟨g, j, none⟩ = some xs[j]) ∧ ∀ j, w.frozen? ⟨g, j, none⟩ = false := by
  rcases h.2 with ⟨_, h0⟩ | ⟨g, cap, cur, rfl, _, hh, h1, h2, h3, h4⟩
  · omega
  · refine ⟨g, cap, rfl, h1, blk_lt hh, fun j hj => ?_, fun j => by simp [World.frozen?, hh]⟩
    have hl := h.1
    have hlt : j < cur.size := by
      rw [h3]
      have : n * size ≤ cap * size := Nat.mul_le_mul_right _ h1
      omega
    have e : cur[j] = xs[j] := by
      have : cur.toList[j]? = xs[j]? := by
        conv => rhs; rw [← h4]
        rw [List.getElem?_take_of_lt (by omega)]
      rw [List.getElem?_eq_getElem hj, List.getElem?_eq_getElem (by simpa using hlt)] at this
      simpa using this
    simp [World.cell?, hh, hlt, e]
theorem rootV_len : ∀ (l : List (Bool × Nat)), (rootV l).length = l.length * 2
  | [] => rfl
  | r :: l => by
    have := rootV_len l
    unfold rootV at this ⊢
    rw [List.flatMap_cons, List.length_append, this]
    simp; omega
theorem rootV_get : ∀ (l : List (Bool × Nat)) (i : Nat) (h : i < l.length), (rootV l)[i * 2]? = some (.bool l[i].1) ∧ (rootV l)[i * 2 + 1]? = some (wv l[i].2)
  | [], i, h => by simp at h
  | r :: l, 0, h => ⟨rfl, rfl⟩
  | r :: l, i + 1, h => by
    have := rootV_get l i (by simpa using h)
    have e : rootV (r :: l) = .bool r.1 :: wv r.2 :: rootV l := rfl
    rw [e, show (i + 1) * 2 = (i * 2 + 1) + 1 by omega, List.getElem?_cons_succ, List.getElem?_cons_succ, List.getElem?_cons_succ, List.getElem?_cons_succ]
    exact this
theorem root_cells {w : World} {own : Own} {hp : Nat} {M : HM} {x : HX} (H : HMem w own hp M x) (i : Nat) (hi : i < M.roots.length) :
    ∃ g cap, x.vt = .slice (some ⟨g, 0, none⟩) M.roots.length cap ∧ M.roots.length ≤ cap ∧ own g = 5 ∧ w.cell? ⟨g, i * 2, none⟩ = some (.bool M.roots[i].1) ∧ w.cell? ⟨g, i * 2 + 1, none⟩ = some (.int .u64 (M.roots[i].2 : Int)) ∧ ∀ j, w.frozen? ⟨g, j, none⟩ = false := by
  obtain ⟨g, cap, hv, hc, hlt, hcell, hf⟩ := own_cells H.rt.1 (by omega)
  obtain ⟨e1, e2⟩ := rootV_get M.roots i hi
  have hl := rootV_len M.roots
  have h1 := hcell (i * 2) (by omega)
  have h2 := hcell (i * 2 + 1) (by omega)
  rw [List.getElem?_eq_getElem (by omega)] at e1 e2
  rw [Option.some.inj e1] at h1
  rw [Option.some.inj e2] at h2
  exact ⟨g, cap, hv, hc, H.rt.2 g (by rw [hv]; rfl), h1, h2, hf⟩
set_option maxHeartbeats 4000000 in
set_option maxRecDepth 100000 in
theorem held_yes (w : World) (own : Own) (hp : Nat) (M : HM) (x : HX) (H : HMem w own hp M x) (i : Nat) (hi : i < M.roots.length) (hu : M.roots[i].1 = true) (hm : M.roots.length ≤ 4611686018427387904) (n : Int) (hn : n = (i : Int) + 1) :
    Calls Tryz.prog 119 #[.pointer (some ⟨hp, 0, none⟩), .int .i64 n] w fun e w' => e = .returned (.bool true) ∧ w = w' := by
  obtain ⟨g, cap, hv, hc, -, k0, k1, -⟩ := root_cells H i hi
  rw [hu] at k0
  have c9 := H.c9
  rw [hv] at c9
  clear H hv hu
  subst hn
  have e1 : decide (1 ≤ (i : Int) + 1) = true := decide_eq_true (by omega)
  have e2 : decide ((i : Int) + 1 ≤ (M.roots.length : Int)) = true := decide_eq_true (by omega)
  have e3 : ((i : Int) + 1 - 1) = (i : Int) := by omega
  go_enter Tryz.func119, Tryz.ntmps119
  go_wp2_with fail
  go_ret
  exact ⟨rfl, rfl⟩
set_option maxHeartbeats 4000000 in
set_option maxRecDepth 100000 in
theorem at_walk (w : World) (own : Own) (hp : Nat) (M : HM) (x : HX) (H : HMem w own hp M x) (i : Nat) (hi : i < M.roots.length) (hu : M.roots[i].1 = true) (hm : M.roots.length ≤ 4611686018427387904) (n : Int) (hn : n = (i : Int) + 1) :
    Calls Tryz.prog 120 #[.pointer (some ⟨hp, 0, none⟩), .int .i64 n] w fun e w' => e = .returned (.tuple #[.int .u64 (M.roots[i].2 : Int), .int .i64 0]) ∧ w = w' := by
  obtain ⟨g, cap, hv, hc, -, k0, k1, -⟩ := root_cells H i hi
  have c9 := H.c9
  rw [hv] at c9
  subst hn
  have HH := Lib.hid H; have HU := Lib.hid hu
  clear H hv hu k0
  have e3 : ((i : Int) + 1 - 1) = (i : Int) := by omega
  go_enter Tryz.func120, Tryz.ntmps120
  go_wp2_with fail
  refine (held_yes w own hp M x HH.out i hi HU.out hm ((i : Int) + 1) rfl).mono ?_
  rintro e w' ⟨rfl, rfl⟩
  go_wp2_with fail
  go_ret2
  exact ⟨rfl, rfl⟩
def HAllocPost (w : World) (own : Own) (hp : Nat) (M : HM) (x : HX) (k r y : Nat) (e : Ending) (w' : World) : Prop :=
  ∃ own', e = .returned (.tuple #[.int .u64 (usedOf M.half.objs : Int), .int .i64 0]) ∧ HMem w' own' hp { M with half := ⟨M.half.size, M.half.objs ++ [(headW k r y, List.replicate (r + y) 0)]⟩ } x ∧ HStep w own w' own'
end Go.Proofs.YtglglknhifjbaaaGreatDoor.Sp
namespace Go.Proofs.YtglglknhifjbaaaGreatDoor.Sp
open Go.RowKit Go.Proofs.YtglglknhifjbaaaGreatDoorW.PrintWords Go.Proofs.YtglglknhifjbaaaGreatDoorW.PrintLast Go.Proofs.YtglglknhifjbaaaGreatDoorW.PrintMore
set_option linter.unusedVariables false
set_option linter.unusedSimpArgs false
section
variable {P : Program} {ops : Array Oper} {rest : List Oper} {o : Oper} {a : Act} {Q : Exit → Act → World → Prop}
theorem wpList_pushRow (w : World) (hgd : o.guard = none) (s x : Operand) (t e : TypeId) (z : Value) (size bytes : Nat)
    (ho : o.op = .call { callee := .builtin .append, args := #[s, x], argTypes := #[t, t] })
    (ht : P.underlying t = some (.slice e)) (hinfo : (P.info? e).map (fun i => (i.zero, i.size, i.bytes)) = some (some z, size, bytes)) (hz : z.cells.size = size) (hs0 : 0 < size)
    (v : Value) (n : Nat) (xs cs : List Value) (hcs : cs.length = size) (h1 : ∀ u ∈ cs, u.oneCell' = true) (hs : a.eval s = v) (Hn : Nat) (hH : w.heap.size = Hn) (hx : a.eval x = .slice (some ⟨Hn, 0, none⟩) 1 1) (hr : w.ownsRow 0 e size v n xs) (hl : (n + 1) * bytes ≤ 140737488355328) (h63 : n + 1 ≤ maxLen)
    (h : ∀ g' cap' w1, w1.ownsRow 0 e size (.slice (some ⟨g', 0, none⟩) (n + 1) cap') (n + 1) (xs ++ cs) → w.grownBy w1 v.ownBlock → (v.ownBlock = some g' ∨ w.heap.size ≤ g') → wpList P ops Q rest (a.put o.dst (.slice (some ⟨g', 0, none⟩) (n + 1) cap')) w1) :
    wpList P ops Q (o :: rest) a (w.alloc (.cells cs.toArray e)) := by
  subst hH
  obtain ⟨i0, hi, hzz⟩ := Option.map_eq_some_iff.1 hinfo
  simp only [Prod.mk.injEq] at hzz
  obtain ⟨hz0, hz1', hz2⟩ := hzz
  have hr2 : (w.alloc (.cells cs.toArray e)).ownsRow 0 e size v n xs := own_move hr (fun k hk => by
    obtain ⟨cells, hc⟩ := own_typed hr k hk
    rw [alloc_at, if_neg (by have := blk_lt hc; omega)])
  refine wpList_append_lies (w.alloc (.cells cs.toArray e)) hgd s x t ho 0 e i0 z size bytes ht hi hz0 hz1' hz2 hz hs0 v n xs hs hr2 ⟨w.heap.size, 0, none⟩ 1 1 cs hx (by omega) (fun j u hj => ?_) h1 (by decide) h63 hl (Nat.zero_le _) (w.heap.size + 1) (by simp) ?_
  · have e1 : (w.alloc (.cells cs.toArray e)).heap[w.heap.size]? = some (.cells cs.toArray e (0, 0)) := by rw [alloc_at, if_pos rfl]
    have e2 : (⟨w.heap.size, 0, none⟩ : Addr).add j = ⟨w.heap.size, j, none⟩ := by
      unfold Addr.add
      split
      · rename_i h0; subst h0; rfl
      · simp
    rw [e2]
    unfold World.cell?
    simp only [e1]
    simpa using hj
  · intro g' cap' w1 hown hgrow hat hlt
    refine h g' cap' w1 hown ?_ ?_
    · exact ⟨hgrow.os, hgrow.tape, hgrow.output, by have := hgrow.size; simp at this; omega, fun i hi hne => (hgrow.block i (by simp; omega) hne).trans (by rw [alloc_at, if_neg (by omega)])⟩
    · rcases hat with hat | hat
      · exact .inl hat
      · exact .inr (by omega)
end
theorem HMem.updRoots {w w' : World} {own own' : Own} {hp : Nat} {M : HM} {x : HX} (H : HMem w own hp M x) (R : List (Bool × Nat)) (N : Nat) (V : Value) (hf : Fr (fun b => own b = 1 ∨ own b = 5) w w') (ow : Ow own own' w)
    (hd : w'.heap[hp]? = some (.cells #[.int .i64 (M.limit : Int), .pointer (some ⟨x.ph, 0, none⟩), .pointer (some ⟨x.ps, 0, none⟩), x.vb, x.vr, .slice none 0 0, .int .i64 (M.large : Int), .int .i64 (M.since : Int), .int .i64 (M.kept : Int), V,
      .int .i64 0, .int .i64 0, .int .i64 0, .int .i64 0, .int .i64 0, .int .i64 (N : Int), .int .i64 M.ncoll, .int .i64 M.nres, .int .i64 M.moved] 95 (0, 0)))
    (rt : RowV w' own' 5 147 2 V R.length (rootV R)) (top : ∀ b, w'.heap.size ≤ b → own' b = 0) : HMem w' own' hp { M with roots := R, nroots := N } { x with vt := V } :=
  { hd := hd
    ohd := (ow hp (blk_lt H.hd)).trans H.ohd
    half := H.half.fr hf ow (fun b hb => by rcases hb with hb | hb <;> omega)
    spare := H.spare.fr hf ow (fun b hb => by rcases hb with hb | hb <;> omega)
    rb := H.rb.fr hf ow (fun b hb => by rcases hb with hb | hb <;> omega)
    blk := ⟨H.blk.1, fun s p a hs => by
      obtain ⟨A, h1, h2⟩ := H.blk.2 s p a hs
      exact ⟨A, h1, h2.fr hf ow (fun b hb => by rcases hb with hb | hb <;> omega)⟩⟩
    none_ := H.none_
    rr := H.rr.fr hf ow (fun b hb => by rcases hb with hb | hb <;> omega)
    rt := rt
    nums := H.nums
    top := top }
def RootPost (w : World) (own : Own) (hp : Nat) (M : HM) (i v : Nat) (e : Ending) (w' : World) : Prop :=
  ∃ own' x', e = .returned (.tuple #[.int .i64 ((i : Int) + 1), .int .i64 0]) ∧ HMem w' own' hp { M with roots := rootsAt M.roots i v, nroots := M.nroots + 1 } x' ∧ HStep w own w' own'
theorem root_own {w : World} {own : Own} {hp : Nat} {M : HM} {x : HX} {v : Value} (H : HMem w own hp M x) (hv : x.vt = v) (u : Value) : (w.setCell ⟨hp, 15, none⟩ u).ownsRow 0 147 2 v M.roots.length (rootV M.roots) := by
  subst hv
  refine own_move H.rt.1 (fun k hk => ?_)
  rw [setCell_at, if_neg (by rintro rfl; have := H.rt.2 _ hk; have := H.ohd; omega)]
theorem two_one (b : Bool) (v : Int) : ∀ u ∈ [Value.bool b, .int .u64 v], u.oneCell' = true := fun u hu => by
  rcases List.mem_cons.1 hu with rfl | hu
  · rfl
  · rw [List.mem_singleton.1 hu]; rfl
theorem fr_h {w w' : World} {own : Own} (hf : Fr (fun b => own b = 1 ∨ own b = 5) w w') : Fr (fun b => own b ≠ 0) w w' := hf.mono (fun b _ hb => by rcases hb with hb | hb <;> omega)
theorem root_push {w w2 : World} {own : Own} {hp : Nat} {M : HM} {x : HX} {v g2 c2 cap : Nat} {A : Option Addr} (H : HMem w own hp M x) (hvt : x.vt = .slice A M.roots.length cap)
    (hr : w2.ownsRow 0 147 2 (.slice (some ⟨g2, 0, none⟩) (M.roots.length + 1) c2) (M.roots.length + 1) (rootV M.roots ++ [.bool true, .int .u64 (v : Int)])) (hg : (w.setCell ⟨hp, 15, none⟩ (.int .i64 ((M.nroots : Int) + 1))).grownBy w2 (Value.slice A M.roots.length cap).ownBlock)
    (hat : (Value.slice A M.roots.length cap).ownBlock = some g2 ∨ (w.setCell ⟨hp, 15, none⟩ (.int .i64 ((M.nroots : Int) + 1))).heap.size ≤ g2) :
    w2.cell? ⟨hp, 9, none⟩ = some (.slice A M.roots.length cap) ∧ w2.frozen? ⟨hp, 9, none⟩ = false ∧
    Hid (RootPost w own hp M M.roots.length v (.returned (.tuple #[.int .i64 ((M.roots.length : Int) + 1), .int .i64 0])) (w2.setCell ⟨hp, 9, none⟩ (.slice (some ⟨g2, 0, none⟩) (M.roots.length + 1) c2))) := by
  have hsz : (w.setCell ⟨hp, 15, none⟩ (.int .i64 ((M.nroots : Int) + 1))).heap.size = w.heap.size := by simp [World.setCell]
  have hrt := H.rt
  rw [hvt] at hrt
  have hne : ∀ k, (Value.slice A M.roots.length cap).ownBlock = some k → k ≠ hp := fun k hk e => by have := hrt.2 k hk; have := H.ohd; rw [e] at *; omega
  have hg2lt : g2 < w2.heap.size := by
    obtain ⟨cells, hc⟩ := own_typed hr g2 rfl
    exact blk_lt hc
  have hp2 : w2.heap[hp]? = some (.cells #[.int .i64 (M.limit : Int), .pointer (some ⟨x.ph, 0, none⟩), .pointer (some ⟨x.ps, 0, none⟩), x.vb, x.vr, .slice none 0 0, .int .i64 (M.large : Int), .int .i64 (M.since : Int), .int .i64 (M.kept : Int), .slice A M.roots.length cap,
      .int .i64 0, .int .i64 0, .int .i64 0, .int .i64 0, .int .i64 0, .int .i64 ((M.nroots : Int) + 1), .int .i64 M.ncoll, .int .i64 M.nres, .int .i64 M.moved] 95 (0, 0)) := by
    rw [hg.block hp (by rw [hsz]; exact blk_lt H.hd) (fun e => hne hp e.symm rfl), setCell_at, if_pos rfl, H.hd, hvt]; rfl
  have hgne : g2 ≠ hp := by
    rcases hat with hat | hat
    · exact hne g2 hat
    · have := blk_lt H.hd; omega
  have hfr : Fr (fun b => own b = 1 ∨ own b = 5) w (w2.setCell ⟨hp, 9, none⟩ (.slice (some ⟨g2, 0, none⟩) (M.roots.length + 1) c2)) :=
    (((Fr.refl _ w).setCell (.inl (.inl H.ohd)) _).grown hg (fun k hk => .inl (.inr (hrt.2 k hk)))).setCell (.inl (.inl H.ohd)) _
  refine ⟨by simp [World.cell?, hp2], by simp [World.frozen?, hp2], fun b => if b = g2 then 5 else own b, { x with vt := .slice (some ⟨g2, 0, none⟩) (M.roots.length + 1) c2 }, rfl, ?_, fr_h hfr, ?_⟩
  · have hra : rootsAt M.roots M.roots.length v = M.roots ++ [(true, v)] := if_neg (Nat.lt_irrefl _)
    rw [hra]
    refine H.updRoots (M.roots ++ [(true, v)]) (M.nroots + 1) _ hfr ?_ ?_ ⟨?_, fun g hgb => ?_⟩ (fun b hb => ?_)
    · intro b hb
      show (if b = g2 then 5 else own b) = own b
      by_cases e : b = g2
      · rcases hat with hat | hat
        · rw [if_pos e, e, hrt.2 g2 hat]
        · omega
      · rw [if_neg e]
    · rw [setCell_at, if_pos rfl, hp2]
      have : ((M.nroots + 1 : Nat) : Int) = (M.nroots : Int) + 1 := by omega
      rw [this]; rfl
    · have e : rootV (M.roots ++ [(true, v)]) = rootV M.roots ++ [.bool true, .int .u64 (v : Int)] := by unfold rootV; rw [List.flatMap_append]; rfl
      rw [e, List.length_append, List.length_singleton]
      exact own_move hr (fun k hk => by
        have : g2 = k := by simpa [Value.ownBlock] using hk
        subst this
        rw [setCell_at, if_neg hgne])
    · have : g2 = g := by simpa [Value.ownBlock] using hgb
      subst this
      exact if_pos rfl
    · have hb' : w2.heap.size ≤ b := by simpa [World.setCell] using hb
      show (if b = g2 then 5 else own b) = 0
      rw [if_neg (by omega)]
      exact H.top b (by have := hg.size; omega)
  · intro b hb
    show (if b = g2 then 5 else own b) = own b
    by_cases e : b = g2
    · rcases hat with hat | hat
      · rw [if_pos e, e, hrt.2 g2 hat]
      · omega
    · rw [if_neg e]
theorem rootV_set : ∀ (l : List (Bool × Nat)) (i v : Nat), i < l.length → rootV (l.set i (true, v)) = ((rootV l).set (i * 2) (.bool true)).set (i * 2 + 1) (.int .u64 (v : Int))
  | [], i, v, h => by simp at h
  | r :: l, 0, v, h => rfl
  | r :: l, i + 1, v, h => by
    have := rootV_set l i v (by simpa using h)
    have e : ∀ (r : Bool × Nat) (l : List (Bool × Nat)), rootV (r :: l) = .bool r.1 :: wv r.2 :: rootV l := fun _ _ => rfl
    rw [List.set_cons_succ, e, e, this, show (i + 1) * 2 = (i * 2 + 1) + 1 by omega, List.set_cons_succ, List.set_cons_succ, List.set_cons_succ, List.set_cons_succ]
theorem own_set {w : World} {e : TypeId} {size n g cap : Nat} {xs : List Value} (h : w.ownsRow 0 e size (.slice (some ⟨g, 0, none⟩) n cap) n xs) (j : Nat) (u : Value) : (w.setCell ⟨g, j, none⟩ u).ownsRow 0 e size (.slice (some ⟨g, 0, none⟩) n cap) n (xs.set j u) := by
  refine ⟨by rw [List.length_set]; exact h.1, ?_⟩
  rcases h.2 with ⟨h1, _⟩ | ⟨g', cap', cur, hv, hb, hh, h1, h2, h3, h4⟩
  · cases h1
  · injection hv with ha hb' hc
    injection ha with ha
    injection ha with ha
    subst ha hc
    refine .inr ⟨g, cap, cur.setIfInBounds j u, rfl, hb, ?_, h1, h2, by simpa using h3, ?_⟩
    · rw [setCell_at, if_pos rfl, hh]
    · conv => rhs; rw [← h4]
      simp [List.take_set]
theorem root_set {w : World} {own : Own} {hp : Nat} {M : HM} {x : HX} {i v g cap : Nat} {A : Option Addr} (H : HMem w own hp M x) (hi : i < M.roots.length) (hv : v < 18446744073709551616) (hvt : x.vt = .slice A M.roots.length cap) (hA : A = some ⟨g, 0, none⟩) :
    Hid (RootPost w own hp M i v (.returned (.tuple #[.int .i64 ((i : Int) + 1), .int .i64 0])) (((w.setCell ⟨hp, 15, none⟩ (.int .i64 ((M.nroots : Int) + 1))).setCell ⟨g, i * 2, none⟩ (.bool true)).setCell ⟨g, i * 2 + 1, none⟩ (.int .u64 (v : Int)))) := by
  subst hA
  have hrt := H.rt
  rw [hvt] at hrt
  have hg5 : own g = 5 := hrt.2 g rfl
  have hne : hp ≠ g := by rintro rfl; have := H.ohd; omega
  have hr0 : (w.setCell ⟨hp, 15, none⟩ (.int .i64 ((M.nroots : Int) + 1))).ownsRow 0 147 2 (.slice (some ⟨g, 0, none⟩) M.roots.length cap) M.roots.length (rootV M.roots) := by
    have := root_own H hvt (.int .i64 ((M.nroots : Int) + 1)); exact this
  have hr1 := own_set (own_set hr0 (i * 2) (.bool true)) (i * 2 + 1) (.int .u64 (v : Int))
  have hfr : Fr (fun b => own b = 1 ∨ own b = 5) w (((w.setCell ⟨hp, 15, none⟩ (.int .i64 ((M.nroots : Int) + 1))).setCell ⟨g, i * 2, none⟩ (.bool true)).setCell ⟨g, i * 2 + 1, none⟩ (.int .u64 (v : Int))) :=
    (((Fr.refl _ w).setCell (.inl (.inl H.ohd)) _).setCell (.inl (.inr hg5)) _).setCell (.inl (.inr hg5)) _
  refine ⟨own, { x with vt := .slice (some ⟨g, 0, none⟩) M.roots.length cap }, rfl, ?_, fr_h hfr, Ow.refl _ _⟩
  have hra : rootsAt M.roots i v = M.roots.set i (true, v) := if_pos hi
  rw [hra]
  refine H.updRoots (M.roots.set i (true, v)) (M.nroots + 1) _ hfr (Ow.refl _ _) ?_ ⟨?_, fun g' hgb => ?_⟩ (fun b hb => H.top b (by simpa [World.setCell] using hb))
  · rw [setCell_at, if_neg hne, setCell_at, if_neg hne, setCell_at, if_pos rfl, H.hd, hvt]
    have : ((M.nroots + 1 : Nat) : Int) = (M.nroots : Int) + 1 := by omega
    rw [this]; rfl
  · rw [rootV_set _ _ _ hi, List.length_set]
    exact hr1
  · have : g = g' := by simpa [Value.ownBlock] using hgb
    subst this
    exact hg5
set_option maxHeartbeats 4000000 in
set_option maxRecDepth 100000 in
theorem root_walk (w : World) (own : Own) (hp : Nat) (M : HM) (x : HX) (H : HMem w own hp M x) (v : Nat) (hv : v < 18446744073709551616)
    (hg : Calls Tryz.prog 118 #[.pointer (some ⟨hp, 0, none⟩), .int .u64 (v : Int)] w fun e w' => e = .returned (.bool true) ∧ w = w') (i : Nat) (hi : i ≤ M.roots.length) (hu : ∀ j (h : j < M.roots.length), j < i → M.roots[j].1 = true) (hf : ∀ h : i < M.roots.length, M.roots[i].1 = false)
    (hm : M.roots.length ≤ 1099511627776) (hn : M.nroots ≤ 1099511627776) :
    Calls Tryz.prog 71 #[.pointer (some ⟨hp, 0, none⟩), .int .u64 (v : Int)] w (RootPost w own hp M i v) := by
  have c9 := H.c9
  have c15 := H.c15
  have f9 := H.fz 9
  have f15 := H.fz 15
  obtain ⟨A, cap, hvt⟩ := own_slice H.rt.1
  rw [hvt] at c9
  have hle : M.roots.length ≤ cap := by have := own_le (by have := H.rt.1; rwa [hvt] at this); exact this
  have HH := Lib.hid H; have HG := Lib.hid hg; have HU := Lib.hid hu; have HF := Lib.hid hf; have HVT := Lib.hid hvt
  clear H hg hu hf hvt
  go_enter Tryz.func71, Tryz.ntmps71
  go_wp2_with fail
  refine HG.out.mono ?_
  rintro e w' ⟨rfl, rfl⟩
  go_wp2_with fail
  go_loop [25] (fun v25 => ∃ j : Nat, j ≤ i ∧ v25 = .int .i64 (j : Int)) (fun v25 => M.roots.length - (intOf v25).toNat)
  case atStart => exact ⟨0, Nat.zero_le _, rfl⟩
  case round =>
    obtain ⟨j, hj, rfl⟩ := hrel
    by_cases hlt : j < M.roots.length
    · obtain ⟨g, cap', hv', -, hog, k0, k1, kf⟩ := root_cells HH.out j hlt
      have hA := HVT.out.symm.trans hv'
      injection hA with hA hB hC
      subst hA hC
      have hne : g ≠ hp := by rintro rfl; have := HH.out.ohd; omega
      have kf0 := kf (j * 2)
      have kf1 := kf (j * 2 + 1)
      have HK := Lib.hid hv'
      clear hv' kf hB
      by_cases hji : j < i
      · rw [HU.out j hlt hji] at k0
        go_wp2_with fail
        exact ⟨⟨j + 1, by omega, by go_num⟩, by simp [intOf]; omega⟩
      · obtain rfl : j = i := by omega
        rw [HF.out hlt] at k0
        have hu112 := Tryz.underlying147
        have HR := root_set HH.out hlt hv HVT.out rfl
        go_wp2_with fail
        go_ret2
        exact HR.out
    · obtain rfl : j = i := by omega
      obtain rfl : j = M.roots.length := by omega
      go_wp2_with (at_builtin; refine wpList_pushRow _ rfl _ _ 93 147 (.agg #[.bool false, .int .u64 0]) 2 16 rfl Tryz.underlying93 (by kernel_rfl) rfl (by decide) (.slice A M.roots.length cap) M.roots.length (rootV M.roots) [.bool true, .int .u64 (v : Int)] rfl (two_one _ _) (by rfl) w.heap.size (by simp [World.setCell]) (by rfl) (root_own HH.out HVT.out _) (by omega) (by unfold maxLen; omega) ?_; intro g2 c2' w2 hr2 hg2 hat2; obtain ⟨hq0, hq1, HR⟩ := root_push HH.out HVT.out hr2 hg2 hat2; clear hr2 hg2 hat2)
      go_ret2
      exact HR.out
end Go.Proofs.YtglglknhifjbaaaGreatDoor.Sp
namespace Go.Proofs.YtglglknhifjbaaaGreatDoor.Sp
open Go.RowKit Go.Proofs.YtglglknhifjbaaaGreatDoorW.PrintWords Go.Proofs.YtglglknhifjbaaaGreatDoorW.PrintLast Go.Proofs.YtglglknhifjbaaaGreatDoorW.PrintMore
set_option linter.unusedVariables false
set_option linter.unusedSimpArgs false
def HM.add (M : HM) (l : List AO) : HM := { M with half := ⟨M.half.size, M.half.objs ++ l⟩ }
def HM.hold (M : HM) (i v : Nat) : HM := { M with roots := rootsAt M.roots i v, nroots := M.nroots + 1 }
theorem bktShape (n : Nat) (h : n ≤ 1048576) : Shape 5 n 0 := ⟨by decide, by decide, h, by decide⟩
def TabPost (w : World) (own : Own) (hp : Nat) (M : HM) (seed : Nat) (e : Ending) (w' : World) : Prop :=
  ∃ t own' x', e = .returned (.tuple #[.pointer (some ⟨t, 0, none⟩), .int .i64 0]) ∧ w.heap.size ≤ t ∧ own' t = 0 ∧ w'.heap[t]? = some (.cells #[.pointer (some ⟨hp, 0, none⟩), .int .i64 ((M.roots.length : Int) + 1)] 142 (0, 0)) ∧
    HMem w' own' hp ((M.hold M.roots.length (usedOf M.half.objs)).add [(headW 4 2 3, [usedOf M.half.objs + 6, 0, seed, 0, 0]), (headW 5 4 0, [0, 0, 0, 0])]) x' ∧ HStep w own w' own'
end Go.Proofs.YtglglknhifjbaaaGreatDoor.Sp
namespace Go.Proofs.YtglglknhifjbaaaGreatDoor.Sp
open Go.RowKit Go.Proofs.YtglglknhifjbaaaGreatDoorW.PrintWords Go.Proofs.YtglglknhifjbaaaGreatDoorW.PrintLast Go.Proofs.YtglglknhifjbaaaGreatDoorW.PrintMore
set_option linter.unusedVariables false
set_option linter.unusedSimpArgs false
theorem sizeU8 : (Tryz.prog.info? 5).map (·.size) = some 1 := by kernel_rfl
def Halt (p : Prop) : Prop := p
theorem halt {p : Prop} (h : Halt p) : p := h
theorem unhalt {p : Prop} (h : p) : Halt p := h
def u8s (l : List Int) : List Value := l.map fun x => .int .u8 x
theorem u8s_len (l : List Int) : (u8s l).length = l.length := by simp [u8s]
theorem u8s_one (l : List Int) : ∀ v ∈ u8s l, v.oneCell' = true := by intro v hv; simp [u8s] at hv; obtain ⟨x, _, rfl⟩ := hv; rfl
theorem splice_zero {cur cs : List Value} : (splice cur 0 cs).take cs.length = cs := by simp [splice]
end Go.Proofs.YtglglknhifjbaaaGreatDoor.Sp
namespace Go.Proofs.YtglglknhifjbaaaGreatDoor.Sp
open Go.RowKit Go.Proofs.YtglglknhifjbaaaGreatDoorW.PrintWords Go.Proofs.YtglglknhifjbaaaGreatDoorW.PrintLast Go.Proofs.YtglglknhifjbaaaGreatDoorW.PrintMore
set_option linter.unusedVariables false
set_option linter.unusedSimpArgs false
theorem run_append_zero {P : Program} (w : World) (t ty e : TypeId) (i : TypeInfo) (ht : P.underlying t = some (.slice e)) (hi : P.info? e = some i) (B A : Option Addr) (n c c2 : Nat) (hn : n ≤ c) :
    (Builtin.append_ #[t, t] ty #[.slice B n c, .slice A 0 c2]).run P w = .ok (.slice B n c) w := by
  have hl : ∀ (a : Addr) (W : World), (loadCells a 0).run P W = .ok #[] W := fun a W => rfl
  cases A <;> cases B <;> simp [hl, Builtin.append_, Builtin.firstCells, Builtin.lenOf, run_underlying ht, sizeOf, typeInfo, hi, hn, storeCells, loadCellsFrom, Sem.run_bind, Sem.run_pure, Result.andThen]
section
variable {P : Program}
theorem q_app (w : World) (base : Nat) (t ty e : TypeId) (z : Value) (bytes : Nat) (ht : P.underlying t = some (.slice e)) (hinfo : (P.info? e).map (fun i => (i.zero, i.size, i.bytes)) = some (some z, 1, bytes)) (hzs : z.cells.size = 1)
    (v : Value) (n : Nat) (xs : List Value) (hown : QRow w base e 1 v n xs) (A : Option Addr) (m c : Nat) (news : List Value) (hl : news.length = m) (hsrc : 0 < m → ∃ ad, A = some ad ∧ ∀ j u, news[j]? = some u → w.cell? (ad.add j) = some u) (h1 : ∀ u ∈ news, u.oneCell' = true)
    (h63 : n + m ≤ maxLen) (hbytes : (n + m) * bytes ≤ 140737488355328) (hbase : base ≤ w.heap.size) :
    ∃ v' w', (Builtin.append_ #[t, t] ty #[v, .slice A m c]).run P w = .ok v' w' ∧ QRow w' base e 1 v' (n + m) (xs ++ news) ∧ w.grownBy w' v.ownBlock ∧ (v'.ownBlock = v.ownBlock ∨ ∃ b, v'.ownBlock = some b ∧ w.heap.size ≤ b) := by
  obtain ⟨i, hi, hzz⟩ := Option.map_eq_some_iff.1 hinfo
  simp only [Prod.mk.injEq] at hzz
  obtain ⟨hz0, hz1, hz2⟩ := hzz
  by_cases h0 : 0 < m
  · obtain ⟨ad, rfl, hn⟩ := hsrc h0
    exact q_append w base t ty e i z 1 bytes ht hi hz0 hz1 hz2 hzs (by decide) v n xs hown ad m c news (by omega) hn h1 h0 h63 hbytes hbase
  · obtain rfl : m = 0 := by omega
    have hnil : news = [] := List.length_eq_zero_iff.1 hl
    subst hnil
    obtain ⟨B, cap, rfl, hle⟩ := q_slice hown
    refine ⟨_, w, run_append_zero w t ty e i ht hi B A n cap c hle, by rw [List.append_nil, Nat.add_zero]; exact hown, ⟨rfl, rfl, rfl, Nat.le_refl _, fun _ _ _ => rfl⟩, .inl rfl⟩
theorem wpList_q {ops : Array Oper} {rest : List Oper} {o : Oper} {a : Act} {Q : Exit → Act → World → Prop} (w : World) (hgd : o.guard = none) (s x : Operand) (t : TypeId)
    (ho : o.op = .call { callee := .builtin .append, args := #[s, x], argTypes := #[t, t] })
    (base : Nat) (e : TypeId) (z : Value) (bytes : Nat) (ht : P.underlying t = some (.slice e)) (hinfo : (P.info? e).map (fun i => (i.zero, i.size, i.bytes)) = some (some z, 1, bytes)) (hzs : z.cells.size = 1)
    (v : Value) (n : Nat) (xs : List Value) (hs : a.eval s = v) (hown : QRow w base e 1 v n xs) (A : Option Addr) (m c : Nat) (news : List Value) (hx : a.eval x = .slice A m c) (hl : news.length = m) (hsrc : 0 < m → ∃ ad, A = some ad ∧ ∀ j u, news[j]? = some u → w.cell? (ad.add j) = some u) (h1 : ∀ u ∈ news, u.oneCell' = true)
    (h63 : n + m ≤ maxLen) (hbytes : (n + m) * bytes ≤ 140737488355328) (hbase : base ≤ w.heap.size)
    (h : ∀ v' w', QRow w' base e 1 v' (n + m) (xs ++ news) → w.grownBy w' v.ownBlock → (v'.ownBlock = v.ownBlock ∨ ∃ b, v'.ownBlock = some b ∧ w.heap.size ≤ b) → wpList P ops Q rest (a.put o.dst v') w') :
    wpList P ops Q (o :: rest) a w := by
  refine wpList_plain hgd fun K hK => ?_
  obtain ⟨v', w', hr, h2, h3, h4⟩ := q_app (P := P) w base t o.type e z bytes ht hinfo hzs v n xs hown A m c news hl hsrc h1 h63 hbytes hbase
  unfold Oper.wp execOp
  simp only [ho, resolve, invoke, builtin, Sem.run_bind, Sem.run_pure, Result.andThen_ok, List.map_toArray, List.map_cons, List.map_nil, hs, hx, hr]
  exact hK _ _ (h v' w' h2 h3 h4)
end
end Go.Proofs.YtglglknhifjbaaaGreatDoor.Sp
