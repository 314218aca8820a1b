/- larderlaw16.row, walked. -/
import Derived.Test.YtdhkhjfjjbdkgaaTyp
import Derived.Test.YtdhkhjfjjbdkgaaLin
import Derived.Test.YtdhkhjfjjbdkgaaParse
import Derived.Test.YtdhkhjfjjbdkgaaRLx10
import Derived.Deep.RegionHeld3
import Derived.Deep.DeepCutAuto
namespace Go.Proofs.Ytdhkhjfjjbdkgaa.Rec
open List Go.RowKit Go.Proofs.YtdhkhjfjjbdkgaaW.PrintWords Go.Proofs.YtdhkhjfjjbdkgaaW.PrintLast Go.Proofs.YtdhkhjfjjbdkgaaW.PrintMore
set_option linter.unusedVariables false
set_option linter.unusedSimpArgs false
theorem infoI64 : (Try.prog.info? 3).map (fun i => (i.zero, i.size, i.bytes)) = some (some (.int .i64 0), 1, 8) := by kernel_rfl
/-- An entry whose group lies in what came in: its numbers, its group's place, what it reads as. -/
structure HE where
  s : Int
  n : Int
  A : Option Addr
  c : Nat
  G : List S76
def hHd (x : Option Addr × Nat × List S76) : Value := .slice x.1 x.2.2.length x.2.1
def kH : Kd HE := Kd.iso (Kd.pair (Kd.int .i64) (Kd.pair (Kd.int .u64) (Kd.scalar hHd (fun _ => rfl)))) (fun x : HE => (x.s, x.n, (x.A, x.c, x.G)))
def HE.ent (x : HE) : S33 := ⟨x.s, x.n, x.G⟩
theorem kH_mk (w : World) (base : Nat) (ok : Nat → Prop) (x : HE) : kH.M w base ok x [.int .i64 x.s, .int .u64 x.n, .slice x.A x.G.length x.c] := ⟨[_], [_, _], rfl, rfl, ⟨[_], [_], rfl, rfl, rfl⟩⟩
theorem kH_33 {w : World} {A : Option Addr} {n : Nat} {xs : List HE} (h : Kd.C kH w A n xs) (hg : ∀ x ∈ xs, x.G.length ≤ x.c ∧ Kd.C k76 w x.A x.G.length x.G) : Kd.C k33 w A n (xs.map HE.ent) := by
  refine C_map HE.ent rfl (fun x hx cs hK => ?_) h
  obtain ⟨c1, c2, rfl, h1, ⟨c3, c4, rfl, h2, h3⟩⟩ := hK
  obtain rfl : c4 = [hHd (x.A, x.c, x.G)] := h3
  exact ⟨c1, _, rfl, h1, ⟨c3, _, rfl, h2, ⟨x.A, x.c, rfl, (hg x hx).1, (hg x hx).2⟩⟩⟩
/-- One group: an entry more, or none. -/
def rowStep (f st : Int) (acc : List S33 × List Int × List Int) (G : List S76) : List S33 × List Int × List Int :=
  if mayB (f + acc.1.length) (acc.1.length * st) G = true then (acc.1 ++ [⟨f + acc.1.length, acc.1.length * st, G⟩], acc.2.1 ++ frameP (bodyP (f + acc.1.length) (acc.1.length * st) G), acc.2.2 ++ [((acc.2.1.length + (frameP (bodyP (f + acc.1.length) (acc.1.length * st) G)).length : Nat) : Int)]) else acc
def rowP (f st : Int) (Gs : List (List S76)) : List S33 × List Int × List Int := Gs.foldl (rowStep f st) ([], [], [])
theorem rowP_succ (f st : Int) (Gs : List (List S76)) (i : Nat) (h : i < Gs.length) : rowP f st (Gs.take (i + 1)) = rowStep f st (rowP f st (Gs.take i)) Gs[i] := by
  unfold rowP
  rw [List.take_add_one, List.getElem?_eq_getElem h, List.foldl_append]; rfl
theorem at_G {w : World} {A : Option Addr} {n : Nat} {xs : List (List S76)} (h : Kd.C (Kd.slice 76 k76) w A n xs) (i : Nat) (hi : i < xs.length) : ∃ ad A0 c0, A = some ad ∧ w.cell? (ad.add i) = some (.slice A0 xs[i].length c0) ∧ xs[i].length ≤ c0 ∧ k76.C w A0 xs[i].length xs[i] := by
  obtain ⟨ad, e, hc⟩ := h.2.2 (by have := h.1; omega)
  obtain ⟨c, hs, ⟨A0, c0, rfl, hl, hC⟩, hcell⟩ := hc i _ (List.getElem?_eq_getElem hi)
  have := hcell 0 _ rfl
  rw [Nat.add_zero] at this
  exact ⟨ad, A0, c0, e, by simpa [Kd.slice] using this, hl, hC⟩
/-- What stands while the row is made. -/
structure RSt (w wr : World) (cells : Array Value) (vl vg ve : Value) (xs : List HE) (log ends : List Int) : Prop where
  bel : Below w.heap.size w wr
  box : wr.heap[w.heap.size]? = some (.cells cells 59 (0, 0))
  l : kH.R 33 wr w.heap.size (fun _ => True) vl xs
  g : (Kd.int .u8).R 5 wr w.heap.size (fun _ => True) vg log
  e : (Kd.int .i64).R 3 wr w.heap.size (fun _ => True) ve ends
theorem R_apart {α β : Type} {d : Kd α} {d' : Kd β} {e e' : Nat} {w w1 : World} {base base' : Nat} {ok ok' : Nat → Prop} {v v' : Value} {xs : List α} {ys : List β} (h : d.R e w base ok v xs) (h' : d'.R e' w base' ok' v' ys) (hg : w.grownBy w1 v'.ownBlock) (ht : ∀ q ∈ e :: d.E, q ≠ e') : d.R e w1 base ok v xs :=
  Kd.R_mono (Kd.R_grown (Kd.R_bound h) hg (fun k hk e2 => by
    obtain ⟨_, _, _, q, hq, cells, hc⟩ := hk
    obtain ⟨z, hz⟩ := row_type h' k e2.symm
    exact type_ne hc hz (ht q hq) rfl)) (fun _ hk => hk.1)
theorem box_apart {β : Type} {d' : Kd β} {e' t : Nat} {w w1 : World} {base' : Nat} {ok' : Nat → Prop} {v' : Value} {ys : List β} {k : Nat} {cs : Array Value} (h : w.heap[k]? = some (.cells cs t (0, 0))) (h' : d'.R e' w base' ok' v' ys) (hg : w.grownBy w1 v'.ownBlock) (ht : t ≠ e') : w1.heap[k]? = some (.cells cs t (0, 0)) :=
  (hg.block k (Array.getElem?_eq_some_iff.1 h).1 (fun e2 => by
    obtain ⟨z, hz⟩ := row_type h' k e2.symm
    exact type_ne h hz ht rfl)).trans h
theorem RSt.pushL {w wr w1 : World} {cells : Array Value} {vl vg ve v1 : Value} {xs ys : List HE} {log ends : List Int} (h : RSt w wr cells vl vg ve xs log ends) (hg : wr.grownBy w1 vl.ownBlock) (hb : Below w.heap.size w w1) (ho : kH.R 33 w1 w.heap.size (fun _ => True) v1 ys) : RSt w w1 cells v1 vg ve ys log ends :=
  ⟨hb, box_apart h.box h.l hg (by decide), ho, R_apart h.g h.l hg (by decide), R_apart h.e h.l hg (by decide)⟩
theorem kH_E : ∀ q ∈ 33 :: kH.E, q = 33 := by
  intro q hq
  simpa [kH, Kd.iso, Kd.pair, Kd.scalar, Kd.int] using hq
theorem RSt.pushG {w wr w1 : World} {cells : Array Value} {vl vg ve v1 : Value} {xs : List HE} {log ends ys : List Int} (h : RSt w wr cells vl vg ve xs log ends) (hg : wr.grownBy w1 vg.ownBlock) (hb : Below w.heap.size w w1) (ho : (Kd.int .u8).R 5 w1 w.heap.size (fun _ => True) v1 ys) : RSt w w1 cells vl v1 ve xs ys ends :=
  ⟨hb, box_apart h.box h.g hg (by decide), R_apart h.l h.g hg (fun q hq => by rw [kH_E q hq]; decide), ho, R_apart h.e h.g hg (by decide)⟩
theorem RSt.pushE {w wr w1 : World} {cells : Array Value} {vl vg ve v1 : Value} {xs : List HE} {log ends ys : List Int} (h : RSt w wr cells vl vg ve xs log ends) (hg : wr.grownBy w1 ve.ownBlock) (hb : Below w.heap.size w w1) (ho : (Kd.int .i64).R 3 w1 w.heap.size (fun _ => True) v1 ys) : RSt w w1 cells vl vg v1 xs log ys :=
  ⟨hb, box_apart h.box h.e hg (by decide), R_apart h.l h.e hg (fun q hq => by rw [kH_E q hq]; decide), R_apart h.g h.e hg (by decide), ho⟩
theorem rowStep_no (f st : Int) (xs : List HE) (log ends : List Int) (G : List S76) (h : ¬ mayB (f + xs.length) (xs.length * st) G = true) : rowStep f st (xs.map HE.ent, log, ends) G = (xs.map HE.ent, log, ends) := by
  unfold rowStep; simp only [List.length_map]; rw [if_neg h]
theorem rowStep_yes (f st : Int) (xs : List HE) (log ends : List Int) (G : List S76) (A : Option Addr) (c : Nat) (h : mayB (f + xs.length) (xs.length * st) G = true) : rowStep f st (xs.map HE.ent, log, ends) G = ((xs ++ [(⟨f + xs.length, xs.length * st, A, c, G⟩ : HE)]).map HE.ent, log ++ frameP (bodyP (f + xs.length) (xs.length * st) G), ends ++ [(log.length : Int) + ((frameP (bodyP (f + xs.length) (xs.length * st) G)).length : Int)]) := by
  unfold rowStep; simp only [List.length_map]; rw [if_pos h]; simp [HE.ent]
theorem le_step {l i : Nat} (h : l ≤ i * 33587566) : l ≤ (i + 1) * 33587566 := Nat.le_trans h (Nat.mul_le_mul_right _ (Nat.le_succ i))
theorem le_more {l i b : Nat} (h : l ≤ i * 33587566) (hb : b ≤ 33587566) : l + b ≤ (i + 1) * 33587566 := by rw [Nat.succ_mul]; exact Nat.add_le_add h hb
theorem le_fits {l i b : Nat} (h : l ≤ i * 33587566) (hi : i < 40) (hb : b ≤ 33587566) : (l + b) * 1 ≤ 140737488355328 := by
  have h2 : i * 33587566 ≤ 39 * 33587566 := Nat.mul_le_mul_right _ (by omega)
  have h3 : l + b ≤ 39 * 33587566 + 33587566 := Nat.add_le_add (Nat.le_trans h h2) hb
  rw [Nat.mul_one]; exact Nat.le_trans h3 (by decide)
theorem RSt.below {w wr w1 : World} {cells : Array Value} {vl vg ve : Value} {xs : List HE} {log ends : List Int} (h : RSt w wr cells vl vg ve xs log ends) (hb : Below wr.heap.size wr w1) : RSt w w1 cells vl vg ve xs log ends :=
  ⟨h.bel.trans (hb.mono h.bel.size), (hb.block _ (Array.getElem?_eq_some_iff.1 h.box).1).trans h.box, Kd.R_below h.l hb, Kd.R_below h.g hb, Kd.R_below h.e hb⟩
set_option maxHeartbeats 8000000 in
set_option maxRecDepth 100000 in
theorem row_walk_A (k : Nat) (fst step : Int) (A0 : Option Addr) (c0 : Nat) (Gs : List (List S76)) (p1 p2 p3 p4 f st : Int) (w : World) (hr : Kd.C (Kd.slice 76 k76) w A0 Gs.length Gs) (hm : Gs.length ≤ 1048576)
    (h1 : fst < 1) (hf : 1 = f) (hf0 : 1 ≤ f) (hf1 : f ≤ 1099511627776) (hst : Int.tmod step 1099511627776 = st) (hst0 : 0 ≤ st) (hst1 : st < 1099511627776)
    (htw : ∀ j : Nat, j ≤ 40 → ∀ G ∈ Gs, larderlaw16_twin.f k (f + j) (j * st) G = some (f + j, j * st, G))
    (hln : ∀ j : Nat, j ≤ 40 → ∀ G ∈ Gs, record_Line.f k (f + j) (j * st) G = some (if mayB (f + j) (j * st) G = true then (frameP (bodyP (f + j) (j * st) G), 0) else ([], 162))) :
    Calls Try.prog 34 #[.agg #[.int .i64 fst, .int .u64 step, .slice A0 Gs.length c0, .int .i64 p1, .int .i64 p2, .int .i64 p3, .int .u64 p4]] w fun e w' => ∃ vl vg ve xs, e = .returned (.tuple #[vl, vg, ve, .bool true]) ∧ Below w.heap.size w w' ∧ kH.R 33 w' w.heap.size (fun _ => True) vl xs ∧ (Kd.int .u8).R 5 w' w.heap.size (fun _ => True) vg (rowP f st (Gs.take 40)).2.1 ∧ (Kd.int .i64).R 3 w' w.heap.size (fun _ => True) ve (rowP f st (Gs.take 40)).2.2 ∧ xs.map HE.ent = (rowP f st (Gs.take 40)).1 ∧ ∀ x ∈ xs, x.G.length ≤ x.c ∧ Kd.C k76 w x.A x.G.length x.G := by
  have HR := Aside0.mk hr; have HST := Aside0.mk hst; have HTW := Aside0.mk htw; have HLN := Aside0.mk hln; have HF0 := Aside0.mk hf0; have HF1 := Aside0.mk hf1
  clear hr hst htw hln hf0 hf1
  go_enter Try.func34, Try.ntmps34
  subst hf
  go_wp2_with fail
  have hm64 : (Gs.length : Int) ≤ 1048576 := by omega
  have HS := Aside0.mk (show RSt w (w.alloc (.cells #[.int .i64 fst, .int .u64 step, .slice A0 Gs.length c0, .int .i64 p1, .int .i64 p2, .int .i64 p3, .int .u64 p4] 59)) #[.int .i64 fst, .int .u64 step, .slice A0 Gs.length c0, .int .i64 p1, .int .i64 p2, .int .i64 p3, .int .u64 p4] (.slice none 0 0) (.slice none 0 0) (.slice none 0 0) [] [] [] from ⟨(Below.refl _ _).alloc (Nat.le_refl _) _, heap_alloc_new _ _, Kd.R_nil _ _ _ _ _, Kd.R_nil _ _ _ _ _, Kd.R_nil _ _ _ _ _⟩)
  go_loopw [6, 7, 8, 10] (fun v6 v7 v8 v10 wr => ∃ (i : Nat) (xs : List HE) (log ends : List Int), i ≤ Gs.length ∧ i ≤ 40 ∧ v10 = .int .i64 i ∧ RSt w wr #[.int .i64 fst, .int .u64 step, .slice A0 Gs.length c0, .int .i64 p1, .int .i64 p2, .int .i64 p3, .int .u64 p4] v6 v7 v8 xs log ends ∧ (xs.map HE.ent, log, ends) = rowP 1 st (Gs.take i) ∧ xs.length ≤ i ∧ log.length ≤ i * 33587566 ∧ ends.length ≤ i ∧ (∀ x ∈ xs, x.G.length ≤ x.c ∧ Kd.C k76 w x.A x.G.length x.G)) (fun _ _ _ v _ => Gs.length - (intOf v).toNat)
  case atStart => exact ⟨0, [], [], [], Nat.zero_le _, Nat.zero_le _, rfl, HS.out, rfl, by simp, by simp, by simp, fun x hx => by cases hx⟩
  case round =>
    obtain ⟨i, xs, log, ends, hi, hi40, rfl, hS, hP, hx1, hx2, hx3, hX⟩ := hrel
    clear HS
    have HS := Aside0.mk hS; have HP := Aside0.mk hP; have HX1 := Aside0.mk hx1; have HX2 := Aside0.mk hx2; have HX3 := Aside0.mk hx3; have HX := Aside0.mk hX
    clear hS hP hx1 hx2 hx3 hX
    have hb : wr.cell? ⟨w.heap.size, 1, none⟩ = some (.int .u64 step) ∧ wr.cell? ⟨w.heap.size, 2, none⟩ = some (.slice A0 Gs.length c0) := by
      constructor <;> simp [World.cell?, HS.out.box]
    obtain ⟨hb1, hb2⟩ := hb
    by_cases hlt : i < Gs.length
    · have q0 : (0 : Int) ≤ (i : Int) := by omega
      have q1 : (i : Int) < (Gs.length : Int) := by omega
      by_cases h40 : (i : Int) < 40
      · obtain ⟨adG, A2, c2, hA, hG0, hl2, hC2⟩ := at_G HR.out i hlt
        have hmem := List.getElem_mem hlt
        have HSUC := Aside0.mk (rowP_succ 1 st Gs i hlt)
        generalize Gs[i] = G at hG0 hl2 hC2 hmem HSUC
        subst hA
        obtain ⟨Al, cl, rfl⟩ := Kd.R_slice HS.out.l
        have HTW1 := Aside0.mk (HTW.out xs.length (by have := HX1.out; omega) G hmem)
        have HLN1 := Aside0.mk (HLN.out xs.length (by have := HX1.out; omega) G hmem)
        have HC2 := Aside0.mk hC2; have HL2 := Aside0.mk hl2
        have y1 := (HS.out.bel.cell (World.block_lt_of_cell? _ _ hG0)).trans hG0
        have HX1L := HX1.out
        have hw1 : IntKind.i64.wrap (1 + (xs.length : Int)) = 1 + xs.length := by rw [Go.IntWalk.i64_in _ (by have := HF0.out; have := HF1.out; omega)]
        have hmul : IntKind.u64.wrap ((xs.length : Int) * st) = xs.length * st := by
          rw [IntKind.wrap_u64]
          have h1 : (xs.length : Int) * st ≤ 40 * 1099511627776 := Int.mul_le_mul (by omega) (by omega) (by omega) (by omega)
          have h2 : 0 ≤ (xs.length : Int) * st := Int.mul_nonneg (by omega) (by omega)
          omega
        have hcv : IntKind.u64.wrap (xs.length : Int) = xs.length := by rw [IntKind.wrap_u64]; omega
        have hrem := HST.out
        clear hG0 hl2 hC2 hmem
        go_wp2_with fail
        refine wp_region_held_drew (S := fun w' => w'.cell? ⟨w.heap.size, 1, none⟩ = some (.int .u64 step) ∧ w'.cell? ⟨w.heap.size, 2, none⟩ = some (.slice (some adG) Gs.length c0) ∧ w'.cell? (adG.add i) = some (.slice A2 G.length c2)) (by kernel_rfl) ⟨hb1, hb2, y1⟩ (fun hHeld => ?_)
        refine wpAnyH_take (i := 0) (v := ?v1) rfl (by kernel_rfl) (by kernel_rfl) (by kernel_rfl) (fun _ _ _ h => h) (Or.inl ⟨by rfl, ?y1⟩) (by assumption) ?r1
        case y1 => (intro w_ hSw; (try dsimp only at hSw); simp only [List.getElem_toArray, List.getElem_cons_zero, List.getElem_cons_succ]; go_simp; try with_reducible rfl)
        (try simp only [List.getElem_toArray, List.getElem_cons_zero, List.getElem_cons_succ, Act.put, List.setIfInBounds_toArray, List.set_cons_zero, List.set_cons_succ])
        refine wpAnyH_take (i := 1) (v := ?v2) rfl (by kernel_rfl) (by kernel_rfl) (by kernel_rfl) (fun _ _ _ h => h) (Or.inl ⟨by rfl, ?y2⟩) (by assumption) ?r2
        case y2 => (intro w_ hSw; (try dsimp only at hSw); simp only [List.getElem_toArray, List.getElem_cons_zero, List.getElem_cons_succ]; go_simp; try with_reducible rfl)
        (try simp only [List.getElem_toArray, List.getElem_cons_zero, List.getElem_cons_succ, Act.put, List.setIfInBounds_toArray, List.set_cons_zero, List.set_cons_succ])
        refine wpAnyH_take (i := 2) (v := ?v3) rfl (by kernel_rfl) (by kernel_rfl) (by kernel_rfl) (fun _ _ _ h => h) (Or.inl ⟨by rfl, ?y3⟩) (by assumption) ?r3
        case y3 => (intro w_ hSw; (try dsimp only at hSw); simp only [List.getElem_toArray, List.getElem_cons_zero, List.getElem_cons_succ]; go_simp; try with_reducible rfl)
        (try simp only [List.getElem_toArray, List.getElem_cons_zero, List.getElem_cons_succ, Act.put, List.setIfInBounds_toArray, List.set_cons_zero, List.set_cons_succ])
        refine wpAnyH_take (i := 3) (v := ?v4) rfl (by kernel_rfl) (by kernel_rfl) (by kernel_rfl) (fun _ _ _ h => h) (Or.inl ⟨by rfl, ?y4⟩) (by assumption) ?r4
        case y4 => (intro w_ hSw; (try dsimp only at hSw); simp only [List.getElem_toArray, List.getElem_cons_zero, List.getElem_cons_succ]; go_simp; try with_reducible rfl)
        (try simp only [List.getElem_toArray, List.getElem_cons_zero, List.getElem_cons_succ, Act.put, List.setIfInBounds_toArray, List.set_cons_zero, List.set_cons_succ])
        refine wpAnyH_take (i := 4) (v := ?v5) rfl (by kernel_rfl) (by kernel_rfl) (by kernel_rfl) (fun _ _ _ h => h) (Or.inl ⟨by rfl, ?y5⟩) (by assumption) ?r5
        case y5 => (intro w_ hSw; (try dsimp only at hSw); simp only [List.getElem_toArray, List.getElem_cons_zero, List.getElem_cons_succ]; go_simp; try with_reducible rfl)
        (try simp only [List.getElem_toArray, List.getElem_cons_zero, List.getElem_cons_succ, Act.put, List.setIfInBounds_toArray, List.set_cons_zero, List.set_cons_succ])
        refine wpAnyH_take (i := 5) (v := ?v6) rfl (by kernel_rfl) (by kernel_rfl) (by kernel_rfl) (fun _ _ _ h => h) (Or.inl ⟨by rfl, ?y6⟩) (by assumption) ?r6
        case y6 => (intro w_ hSw; (try dsimp only at hSw); simp only [List.getElem_toArray, List.getElem_cons_zero, List.getElem_cons_succ]; go_simp; try with_reducible rfl)
        (try simp only [List.getElem_toArray, List.getElem_cons_zero, List.getElem_cons_succ, Act.put, List.setIfInBounds_toArray, List.set_cons_zero, List.set_cons_succ])
        refine wpAnyH_take (i := 6) (v := ?v7) rfl (by kernel_rfl) (by kernel_rfl) (by kernel_rfl) (fun _ _ _ h => h) (Or.inl ⟨by rfl, ?y7⟩) (by assumption) ?r7
        case y7 => (intro w_ hSw; (try dsimp only at hSw); simp only [List.getElem_toArray, List.getElem_cons_zero, List.getElem_cons_succ]; go_simp; try with_reducible rfl)
        (try simp only [List.getElem_toArray, List.getElem_cons_zero, List.getElem_cons_succ, Act.put, List.setIfInBounds_toArray, List.set_cons_zero, List.set_cons_succ])
        refine wpAnyH_take (i := 7) (v := ?v8) rfl (by kernel_rfl) (by kernel_rfl) (by kernel_rfl) (fun _ _ _ h => h) (Or.inl ⟨by rfl, ?y8⟩) (by assumption) ?r8
        case y8 => (intro w_ hSw; (try dsimp only at hSw); simp only [List.getElem_toArray, List.getElem_cons_zero, List.getElem_cons_succ]; go_simp; try with_reducible rfl)
        (try simp only [List.getElem_toArray, List.getElem_cons_zero, List.getElem_cons_succ, Act.put, List.setIfInBounds_toArray, List.set_cons_zero, List.set_cons_succ])
        refine wpAnyH_take (i := 8) (v := ?v9) rfl (by kernel_rfl) (by kernel_rfl) (by kernel_rfl) (fun _ _ _ h => h) (Or.inl ⟨by rfl, ?y9⟩) (by assumption) ?r9
        case y9 => (intro w_ hSw; (try dsimp only at hSw); simp only [List.getElem_toArray, List.getElem_cons_zero, List.getElem_cons_succ]; go_simp; try with_reducible rfl)
        (try simp only [List.getElem_toArray, List.getElem_cons_zero, List.getElem_cons_succ, Act.put, List.setIfInBounds_toArray, List.set_cons_zero, List.set_cons_succ])
        refine wpAnyH_take (i := 9) (v := ?v10) rfl (by kernel_rfl) (by kernel_rfl) (by kernel_rfl) (fun _ _ _ h => h) (Or.inl ⟨by rfl, ?y10⟩) (by assumption) ?r10
        case y10 => (intro w_ hSw; (try dsimp only at hSw); simp only [List.getElem_toArray, List.getElem_cons_zero, List.getElem_cons_succ]; go_simp; try with_reducible rfl)
        (try simp only [List.getElem_toArray, List.getElem_cons_zero, List.getElem_cons_succ, Act.put, List.setIfInBounds_toArray, List.set_cons_zero, List.set_cons_succ])
        refine wpAnyH_take (i := 10) (v := ?v11) rfl (by kernel_rfl) (by kernel_rfl) (by kernel_rfl) (fun _ _ _ h => h) (Or.inl ⟨by rfl, ?y11⟩) (by assumption) ?r11
        case y11 => (intro w_ hSw; (try dsimp only at hSw); simp only [List.getElem_toArray, List.getElem_cons_zero, List.getElem_cons_succ]; go_simp; try with_reducible rfl)
        (try simp only [List.getElem_toArray, List.getElem_cons_zero, List.getElem_cons_succ, Act.put, List.setIfInBounds_toArray, List.set_cons_zero, List.set_cons_succ])
        refine wpAnyH_take (i := 11) (v := ?v12) rfl (by kernel_rfl) (by kernel_rfl) (by kernel_rfl) (fun _ _ _ h => h) (Or.inl ⟨by rfl, ?y12⟩) (by assumption) ?r12
        case y12 => (intro w_ hSw; (try dsimp only at hSw); simp only [List.getElem_toArray, List.getElem_cons_zero, List.getElem_cons_succ]; go_simp; try with_reducible rfl)
        (try simp only [List.getElem_toArray, List.getElem_cons_zero, List.getElem_cons_succ, Act.put, List.setIfInBounds_toArray, List.set_cons_zero, List.set_cons_succ])
        refine wpAnyH_take (i := 12) (v := ?v13) rfl (by kernel_rfl) (by kernel_rfl) (by kernel_rfl) (fun _ _ _ h => h) (Or.inl ⟨by rfl, ?y13⟩) (by assumption) ?r13
        case y13 => (intro w_ hSw; (try dsimp only at hSw); simp only [List.getElem_toArray, List.getElem_cons_zero, List.getElem_cons_succ]; go_simp; try with_reducible rfl)
        (try simp only [List.getElem_toArray, List.getElem_cons_zero, List.getElem_cons_succ, Act.put, List.setIfInBounds_toArray, List.set_cons_zero, List.set_cons_succ])
        refine wpAnyH_take (i := 13) (v := ?v14) rfl (by kernel_rfl) (by kernel_rfl) (by kernel_rfl) (fun _ _ _ h => h) (Or.inl ⟨by rfl, ?y14⟩) (by assumption) ?r14
        case y14 => (intro w_ hSw; (try dsimp only at hSw); simp only [List.getElem_toArray, List.getElem_cons_zero, List.getElem_cons_succ]; go_simp; try with_reducible rfl)
        (try simp only [List.getElem_toArray, List.getElem_cons_zero, List.getElem_cons_succ, Act.put, List.setIfInBounds_toArray, List.set_cons_zero, List.set_cons_succ])
        refine wpAnyH_take (i := 14) (v := ?v15) rfl (by kernel_rfl) (by kernel_rfl) (by kernel_rfl) (fun _ _ _ h => h) (Or.inl ⟨by rfl, ?y15⟩) (by assumption) ?r15
        case y15 => (intro w_ hSw; (try dsimp only at hSw); simp only [List.getElem_toArray, List.getElem_cons_zero, List.getElem_cons_succ]; go_simp; try with_reducible rfl)
        (try simp only [List.getElem_toArray, List.getElem_cons_zero, List.getElem_cons_succ, Act.put, List.setIfInBounds_toArray, List.set_cons_zero, List.set_cons_succ])
        refine wpAnyH_take (i := 15) (v := ?v16) rfl (by kernel_rfl) (by kernel_rfl) (by kernel_rfl) (fun _ _ _ h => h) (Or.inl ⟨by rfl, ?y16⟩) (by assumption) ?r16
        case y16 => (intro w_ hSw; (try dsimp only at hSw); simp only [List.getElem_toArray, List.getElem_cons_zero, List.getElem_cons_succ]; go_simp; try with_reducible rfl)
        (try simp only [List.getElem_toArray, List.getElem_cons_zero, List.getElem_cons_succ, Act.put, List.setIfInBounds_toArray, List.set_cons_zero, List.set_cons_succ])
        refine wpAnyH_take (i := 16) (v := ?v17) rfl (by kernel_rfl) (by kernel_rfl) (by kernel_rfl) (fun _ _ _ h => h) (Or.inl ⟨by rfl, ?y17⟩) (by assumption) ?r17
        case y17 => (intro w_ hSw; (try dsimp only at hSw); simp only [List.getElem_toArray, List.getElem_cons_zero, List.getElem_cons_succ]; go_simp; try with_reducible rfl)
        (try simp only [List.getElem_toArray, List.getElem_cons_zero, List.getElem_cons_succ, Act.put, List.setIfInBounds_toArray, List.set_cons_zero, List.set_cons_succ])
        refine wpAnyH_ready (rs := [17]) (by kernel_rfl) (by simp) ?_
        refine AllReadyH.cons (o := _) rfl (fun K hK => ?_) AllReadyH.nil
        (try simp only [List.getElem_toArray, List.getElem_cons_zero, List.getElem_cons_succ])
        go_simp
        refine hK.out _ _ (by go_keep) (fun hHeld => ?_)
        clear hK K
        (try simp only [List.getElem_toArray, List.getElem_cons_zero, List.getElem_cons_succ, Act.put, List.setIfInBounds_toArray, List.set_cons_zero, List.set_cons_succ])
        refine wpAnyH_ready (rs := [18]) (by kernel_rfl) (by simp) ?_
        refine AllReadyH.cons (o := _) rfl (fun K hK => ?_) AllReadyH.nil
        (try simp only [List.getElem_toArray, List.getElem_cons_zero, List.getElem_cons_succ])
        go_simp
        refine hK.out _ _ (by go_keep) (fun hHeld => ?_)
        clear hK K
        (try simp only [List.getElem_toArray, List.getElem_cons_zero, List.getElem_cons_succ, Act.put, List.setIfInBounds_toArray, List.set_cons_zero, List.set_cons_succ])
        refine wpAnyH_done (by kernel_rfl) ?_ _
        have hba : Below wr.heap.size wr (wr.drew.alloc (.cells #[.int .i64 (1 + xs.length), .int .u64 (xs.length * st), .slice A2 G.length c2] 33)) := ((Below.refl _ _).drew).alloc (Nat.le_refl _) _
        have HS1 := Aside0.mk (HS.out.below hba)
        have HE1 := Aside0.mk (show (wr.drew.alloc (.cells #[.int .i64 (1 + xs.length), .int .u64 (xs.length * st), .slice A2 G.length c2] 33)).heap[wr.heap.size]? = some (.cells #[.int .i64 (1 + xs.length), .int .u64 (xs.length * st), .slice A2 G.length c2] 33 (0, 0)) from heap_alloc_new wr.drew _)
        have HC21 := Aside0.mk (Kd.C_below HC2.out (HS.out.bel.trans (hba.mono HS.out.bel.size)))
        clear hba y1 hb1 hb2 hw1 hmul hcv hrem HTW HLN HST HS
        go_wp2_with fail
        refine (larderlaw16_twin.calls k (1 + xs.length) (xs.length * st) A2 c2 G (1 + xs.length) (xs.length * st) G _ HC21.out HL2.out HTW1.out).mono ?_
        rintro e w2 ⟨v2, rfl, hv2, hb⟩
        obtain ⟨A3, c3, rfl⟩ := Kd.R_slice hv2
        have HS2 := Aside0.mk (HS1.out.below hb); have HE2 := Aside0.mk ((hb.block _ (Array.getElem?_eq_some_iff.1 HE1.out).1).trans HE1.out); have HV2 := Aside0.mk (Kd.R_reads' hv2).2
        clear hv2 hb HS1 HE1 HC21
        go_wp2_with fail
        obtain ⟨b, er, hber, hline⟩ : ∃ b er, ((mayB (1 + xs.length) (xs.length * st) G = true ∧ b = frameP (bodyP (1 + xs.length) (xs.length * st) G) ∧ er = 0) ∨ (¬ mayB (1 + xs.length) (xs.length * st) G = true ∧ b = [] ∧ er = 162)) ∧ record_Line.f k (1 + xs.length) (xs.length * st) G = some (b, er) := by
          have h := HLN1.out
          by_cases hm : mayB (1 + xs.length) (xs.length * st) G = true
          · rw [if_pos hm] at h; exact ⟨_, _, .inl ⟨hm, rfl, rfl⟩, h⟩
          · rw [if_neg hm] at h; exact ⟨_, _, .inr ⟨hm, rfl, rfl⟩, h⟩
        have HBER := Aside0.mk hber; have HLINE := Aside0.mk hline
        clear hber hline HLN1 HTW1
        refine (record_Line.calls k (1 + xs.length) (xs.length * st) A3 c3 G b er _ HV2.out.2 HV2.out.1 HLINE.out).mono ?_
        rintro e w3 ⟨v3, rfl, hv3, hb⟩
        obtain ⟨A4, c4, rfl⟩ := Kd.R_slice hv3
        have HS3 := Aside0.mk (HS2.out.below hb); have HE3 := Aside0.mk ((hb.block _ (Array.getElem?_eq_some_iff.1 HE2.out).1).trans HE2.out); have HV3 := Aside0.mk hv3
        clear hv3 hb HS2 HE2 HV2
        go_wp2_with fail
        refine (larderlaw16_num.calls er er _ rfl).mono ?_
        rintro e w4 ⟨rfl, n4, hw4⟩
        have hb : Below w3.heap.size w3 w4 := hw4 ▸ pw_below_drewN (Below.refl _ _) n4
        have HS4 := Aside0.mk (HS3.out.below hb); have HE4 := Aside0.mk ((hb.block _ (Array.getElem?_eq_some_iff.1 HE3.out).1).trans HE3.out); have HV4 := Aside0.mk (Kd.R_below HV3.out hb)
        clear hb hw4 HS3 HE3 HV3
        rcases HBER.out with ⟨hmay, hb_, rfl⟩ | ⟨hmay, hb_, rfl⟩
        · have HMAY := Aside0.mk hmay; have HBE := Aside0.mk hb_
          have HBL := Aside0.mk (show b.length ≤ 33587566 by have h1 := bodyP_len hmay; rw [hb_, frameP_len]; omega)
          clear hmay hb_
          obtain ⟨z0, z1, z2, _, _, _⟩ := ent_cells HE4.out
          go_wp2_with ((with_reducible refine gate_dst (N := 62) rfl ?_); refine halt ?_)
          refine unhalt ?_
          have hbl : (xs.length + 1) * 40 ≤ 140737488355328 := by have := HX1.out; omega
          at_builtin
          refine Kd.R_append kH (w0 := w) w.heap.size rfl _ _ 29 33 (.agg #[.int .i64 0, .int .u64 0, .slice none 0 0]) 40 rfl Try.underlying29 info33 rfl (by decide) (by decide) (.slice Al xs.length cl) xs ⟨1 + xs.length, xs.length * st, A2, c2, G⟩ [.int .i64 (1 + xs.length), .int .u64 (xs.length * st), .slice A2 G.length c2] (fun _ => True) (fun _ => False) rfl rfl (kH_mk _ _ _ _) (fun _ h => h.elim) (fun _ _ => trivial) HS4.out.l HS4.out.bel HS4.out.bel.size hbl ?_
          intro v5 w5 ho hb hg hat
          have HS5 := Aside0.mk (HS4.out.pushL hg hb ho); have HV5 := Aside0.mk (R_apart HV4.out HS4.out.l hg (by decide))
          clear ho hb hg hat HS4 HE4 HV4 z0 z1 z2
          go_wp2_with ((with_reducible refine gate_dst (N := 65) rfl ?_); refine halt ?_)
          refine unhalt ?_
          at_builtin
          refine Kd.R_append_rows (Kd.int .u8) (w0 := w) w.heap.size rfl _ _ 37 5 (.int .u8 0) 1 rfl Try.underlying37 infoU8 rfl (by decide) (by omega) u7 log b A4 b.length c4 (fun _ => True) (fun _ => False) rfl rfl HS5.out.g (Kd.R_reads' HV5.out).2.2 (fun _ _ h => h) (fun _ h => h.elim) (fun _ _ => trivial) HS5.out.bel HS5.out.bel.size (le_fits HX2.out (by omega) HBL.out) ?_
          intro v6 w6 ho hb hg hat
          obtain ⟨A6, c6, rfl⟩ := Kd.R_slice ho
          have HS6 := Aside0.mk (HS5.out.pushG hg hb ho)
          clear ho hb hg hat HS5 HV5
          go_wp2_with ((with_reducible refine gate_dst (N := 70) rfl ?_); refine halt ?_)
          refine unhalt ?_
          have hel : (ends.length + 1) * 8 ≤ 140737488355328 := by have := HX3.out; omega
          at_builtin
          refine Kd.R_append (Kd.int .i64) (w0 := w) w.heap.size rfl _ _ 52 3 (.int .i64 0) 8 rfl Try.underlying52 infoI64 rfl (by decide) (by decide) u8 ends ((log.length : Int) + (b.length : Int)) [.int .i64 ((log.length : Int) + (b.length : Int))] (fun _ => True) (fun _ => False) rfl rfl rfl (fun _ h => h.elim) (fun _ _ => trivial) HS6.out.e HS6.out.bel HS6.out.bel.size hel ?_
          intro v7 w7 ho hb hg hat
          have HS7 := Aside0.mk (HS6.out.pushE hg hb ho)
          clear ho hb hg hat HS6
          go_wp2_with fail
          go_roundw
          case rel =>
            have h7 := HS7.out
            have hla : (log ++ b).length = log.length + b.length := List.length_append
            rw [hla] at h7
            refine ⟨i + 1, xs ++ [⟨1 + xs.length, xs.length * st, A2, c2, G⟩], log ++ b, ends ++ [((log.length : Int) + (b.length : Int))], by omega, by omega, by go_num, h7, ?_, by rw [List.length_append]; have := HX1.out; simp; omega, by rw [List.length_append]; exact le_more HX2.out HBL.out, by rw [List.length_append]; have := HX3.out; simp; omega, fun x hx => ?_⟩
            · rw [HSUC.out, ← HP.out, rowStep_yes _ _ _ _ _ _ A2 c2 HMAY.out, HBE.out]
            · rcases List.mem_append.1 hx with hx | hx
              · exact HX.out x hx
              · rw [List.mem_singleton.1 hx]; exact ⟨HL2.out, HC2.out⟩
          case measure => simp [intOf]; omega
        · have HMAY := Aside0.mk hmay
          clear hmay hb_
          go_wp2_with fail
          go_roundw
          case rel => exact ⟨i + 1, xs, log, ends, by omega, by omega, by go_num, HS4.out, by rw [HSUC.out, ← HP.out, rowStep_no _ _ _ _ _ _ HMAY.out], by have := HX1.out; omega, le_step HX2.out, by have := HX3.out; omega, HX.out⟩
          case measure => simp [intOf]; omega
      · go_wp2_with fail
        refine bodyPost_ret (v := .tuple #[u6, u7, u8, .bool true]) (by simp [results, Try.results34, go_sem]) rfl ?_
        have hi2 : i = 40 := by omega
        subst hi2
        have hp := HP.out
        exact ⟨_, _, _, rfl, HS.out.bel, xs, HS.out.l, by rw [← hp]; exact HS.out.g, by rw [← hp]; exact HS.out.e, by rw [← hp], HX.out⟩
    · obtain rfl : i = Gs.length := by omega
      go_wp2_with fail
      refine bodyPost_ret (v := .tuple #[u6, u7, u8, .bool true]) (by simp [results, Try.results34, go_sem]) rfl ?_
      have hp := HP.out
      rw [List.take_length] at hp
      have h40 : Gs.take 40 = Gs := List.take_of_length_le hi40
      rw [h40]
      exact ⟨_, _, _, xs, rfl, HS.out.bel, HS.out.l, by rw [← hp]; exact HS.out.g, by rw [← hp]; exact HS.out.e, by rw [← hp], HX.out⟩
set_option maxHeartbeats 8000000 in
set_option maxRecDepth 100000 in
theorem row_walk_B (k : Nat) (fst step : Int) (A0 : Option Addr) (c0 : Nat) (Gs : List (List S76)) (p1 p2 p3 p4 f st : Int) (w : World) (hr : Kd.C (Kd.slice 76 k76) w A0 Gs.length Gs) (hm : Gs.length ≤ 1048576)
    (h1 : ¬ fst < 1) (h2 : fst > 1099511627776) (hf : 1 = f) (hf0 : 1 ≤ f) (hf1 : f ≤ 1099511627776) (hst : Int.tmod step 1099511627776 = st) (hst0 : 0 ≤ st) (hst1 : st < 1099511627776)
    (htw : ∀ j : Nat, j ≤ 40 → ∀ G ∈ Gs, larderlaw16_twin.f k (f + j) (j * st) G = some (f + j, j * st, G))
    (hln : ∀ j : Nat, j ≤ 40 → ∀ G ∈ Gs, record_Line.f k (f + j) (j * st) G = some (if mayB (f + j) (j * st) G = true then (frameP (bodyP (f + j) (j * st) G), 0) else ([], 162))) :
    Calls Try.prog 34 #[.agg #[.int .i64 fst, .int .u64 step, .slice A0 Gs.length c0, .int .i64 p1, .int .i64 p2, .int .i64 p3, .int .u64 p4]] w fun e w' => ∃ vl vg ve xs, e = .returned (.tuple #[vl, vg, ve, .bool true]) ∧ Below w.heap.size w w' ∧ kH.R 33 w' w.heap.size (fun _ => True) vl xs ∧ (Kd.int .u8).R 5 w' w.heap.size (fun _ => True) vg (rowP f st (Gs.take 40)).2.1 ∧ (Kd.int .i64).R 3 w' w.heap.size (fun _ => True) ve (rowP f st (Gs.take 40)).2.2 ∧ xs.map HE.ent = (rowP f st (Gs.take 40)).1 ∧ ∀ x ∈ xs, x.G.length ≤ x.c ∧ Kd.C k76 w x.A x.G.length x.G := by
  have HR := Aside0.mk hr; have HST := Aside0.mk hst; have HTW := Aside0.mk htw; have HLN := Aside0.mk hln; have HF0 := Aside0.mk hf0; have HF1 := Aside0.mk hf1
  clear hr hst htw hln hf0 hf1
  go_enter Try.func34, Try.ntmps34
  subst hf
  go_wp2_with fail
  have hm64 : (Gs.length : Int) ≤ 1048576 := by omega
  have HS := Aside0.mk (show RSt w (w.alloc (.cells #[.int .i64 fst, .int .u64 step, .slice A0 Gs.length c0, .int .i64 p1, .int .i64 p2, .int .i64 p3, .int .u64 p4] 59)) #[.int .i64 fst, .int .u64 step, .slice A0 Gs.length c0, .int .i64 p1, .int .i64 p2, .int .i64 p3, .int .u64 p4] (.slice none 0 0) (.slice none 0 0) (.slice none 0 0) [] [] [] from ⟨(Below.refl _ _).alloc (Nat.le_refl _) _, heap_alloc_new _ _, Kd.R_nil _ _ _ _ _, Kd.R_nil _ _ _ _ _, Kd.R_nil _ _ _ _ _⟩)
  go_loopw [6, 7, 8, 10] (fun v6 v7 v8 v10 wr => ∃ (i : Nat) (xs : List HE) (log ends : List Int), i ≤ Gs.length ∧ i ≤ 40 ∧ v10 = .int .i64 i ∧ RSt w wr #[.int .i64 fst, .int .u64 step, .slice A0 Gs.length c0, .int .i64 p1, .int .i64 p2, .int .i64 p3, .int .u64 p4] v6 v7 v8 xs log ends ∧ (xs.map HE.ent, log, ends) = rowP 1 st (Gs.take i) ∧ xs.length ≤ i ∧ log.length ≤ i * 33587566 ∧ ends.length ≤ i ∧ (∀ x ∈ xs, x.G.length ≤ x.c ∧ Kd.C k76 w x.A x.G.length x.G)) (fun _ _ _ v _ => Gs.length - (intOf v).toNat)
  case atStart => exact ⟨0, [], [], [], Nat.zero_le _, Nat.zero_le _, rfl, HS.out, rfl, by simp, by simp, by simp, fun x hx => by cases hx⟩
  case round =>
    obtain ⟨i, xs, log, ends, hi, hi40, rfl, hS, hP, hx1, hx2, hx3, hX⟩ := hrel
    clear HS
    have HS := Aside0.mk hS; have HP := Aside0.mk hP; have HX1 := Aside0.mk hx1; have HX2 := Aside0.mk hx2; have HX3 := Aside0.mk hx3; have HX := Aside0.mk hX
    clear hS hP hx1 hx2 hx3 hX
    have hb : wr.cell? ⟨w.heap.size, 1, none⟩ = some (.int .u64 step) ∧ wr.cell? ⟨w.heap.size, 2, none⟩ = some (.slice A0 Gs.length c0) := by
      constructor <;> simp [World.cell?, HS.out.box]
    obtain ⟨hb1, hb2⟩ := hb
    by_cases hlt : i < Gs.length
    · have q0 : (0 : Int) ≤ (i : Int) := by omega
      have q1 : (i : Int) < (Gs.length : Int) := by omega
      by_cases h40 : (i : Int) < 40
      · obtain ⟨adG, A2, c2, hA, hG0, hl2, hC2⟩ := at_G HR.out i hlt
        have hmem := List.getElem_mem hlt
        have HSUC := Aside0.mk (rowP_succ 1 st Gs i hlt)
        generalize Gs[i] = G at hG0 hl2 hC2 hmem HSUC
        subst hA
        obtain ⟨Al, cl, rfl⟩ := Kd.R_slice HS.out.l
        have HTW1 := Aside0.mk (HTW.out xs.length (by have := HX1.out; omega) G hmem)
        have HLN1 := Aside0.mk (HLN.out xs.length (by have := HX1.out; omega) G hmem)
        have HC2 := Aside0.mk hC2; have HL2 := Aside0.mk hl2
        have y1 := (HS.out.bel.cell (World.block_lt_of_cell? _ _ hG0)).trans hG0
        have HX1L := HX1.out
        have hw1 : IntKind.i64.wrap (1 + (xs.length : Int)) = 1 + xs.length := by rw [Go.IntWalk.i64_in _ (by have := HF0.out; have := HF1.out; omega)]
        have hmul : IntKind.u64.wrap ((xs.length : Int) * st) = xs.length * st := by
          rw [IntKind.wrap_u64]
          have h1 : (xs.length : Int) * st ≤ 40 * 1099511627776 := Int.mul_le_mul (by omega) (by omega) (by omega) (by omega)
          have h2 : 0 ≤ (xs.length : Int) * st := Int.mul_nonneg (by omega) (by omega)
          omega
        have hcv : IntKind.u64.wrap (xs.length : Int) = xs.length := by rw [IntKind.wrap_u64]; omega
        have hrem := HST.out
        clear hG0 hl2 hC2 hmem
        go_wp2_with fail
        refine wp_region_held_drew (S := fun w' => w'.cell? ⟨w.heap.size, 1, none⟩ = some (.int .u64 step) ∧ w'.cell? ⟨w.heap.size, 2, none⟩ = some (.slice (some adG) Gs.length c0) ∧ w'.cell? (adG.add i) = some (.slice A2 G.length c2)) (by kernel_rfl) ⟨hb1, hb2, y1⟩ (fun hHeld => ?_)
        refine wpAnyH_take (i := 0) (v := ?v18) rfl (by kernel_rfl) (by kernel_rfl) (by kernel_rfl) (fun _ _ _ h => h) (Or.inl ⟨by rfl, ?y18⟩) (by assumption) ?r18
        case y18 => (intro w_ hSw; (try dsimp only at hSw); simp only [List.getElem_toArray, List.getElem_cons_zero, List.getElem_cons_succ]; go_simp; try with_reducible rfl)
        (try simp only [List.getElem_toArray, List.getElem_cons_zero, List.getElem_cons_succ, Act.put, List.setIfInBounds_toArray, List.set_cons_zero, List.set_cons_succ])
        refine wpAnyH_take (i := 1) (v := ?v19) rfl (by kernel_rfl) (by kernel_rfl) (by kernel_rfl) (fun _ _ _ h => h) (Or.inl ⟨by rfl, ?y19⟩) (by assumption) ?r19
        case y19 => (intro w_ hSw; (try dsimp only at hSw); simp only [List.getElem_toArray, List.getElem_cons_zero, List.getElem_cons_succ]; go_simp; try with_reducible rfl)
        (try simp only [List.getElem_toArray, List.getElem_cons_zero, List.getElem_cons_succ, Act.put, List.setIfInBounds_toArray, List.set_cons_zero, List.set_cons_succ])
        refine wpAnyH_take (i := 2) (v := ?v20) rfl (by kernel_rfl) (by kernel_rfl) (by kernel_rfl) (fun _ _ _ h => h) (Or.inl ⟨by rfl, ?y20⟩) (by assumption) ?r20
        case y20 => (intro w_ hSw; (try dsimp only at hSw); simp only [List.getElem_toArray, List.getElem_cons_zero, List.getElem_cons_succ]; go_simp; try with_reducible rfl)
        (try simp only [List.getElem_toArray, List.getElem_cons_zero, List.getElem_cons_succ, Act.put, List.setIfInBounds_toArray, List.set_cons_zero, List.set_cons_succ])
        refine wpAnyH_take (i := 3) (v := ?v21) rfl (by kernel_rfl) (by kernel_rfl) (by kernel_rfl) (fun _ _ _ h => h) (Or.inl ⟨by rfl, ?y21⟩) (by assumption) ?r21
        case y21 => (intro w_ hSw; (try dsimp only at hSw); simp only [List.getElem_toArray, List.getElem_cons_zero, List.getElem_cons_succ]; go_simp; try with_reducible rfl)
        (try simp only [List.getElem_toArray, List.getElem_cons_zero, List.getElem_cons_succ, Act.put, List.setIfInBounds_toArray, List.set_cons_zero, List.set_cons_succ])
        refine wpAnyH_take (i := 4) (v := ?v22) rfl (by kernel_rfl) (by kernel_rfl) (by kernel_rfl) (fun _ _ _ h => h) (Or.inl ⟨by rfl, ?y22⟩) (by assumption) ?r22
        case y22 => (intro w_ hSw; (try dsimp only at hSw); simp only [List.getElem_toArray, List.getElem_cons_zero, List.getElem_cons_succ]; go_simp; try with_reducible rfl)
        (try simp only [List.getElem_toArray, List.getElem_cons_zero, List.getElem_cons_succ, Act.put, List.setIfInBounds_toArray, List.set_cons_zero, List.set_cons_succ])
        refine wpAnyH_take (i := 5) (v := ?v23) rfl (by kernel_rfl) (by kernel_rfl) (by kernel_rfl) (fun _ _ _ h => h) (Or.inl ⟨by rfl, ?y23⟩) (by assumption) ?r23
        case y23 => (intro w_ hSw; (try dsimp only at hSw); simp only [List.getElem_toArray, List.getElem_cons_zero, List.getElem_cons_succ]; go_simp; try with_reducible rfl)
        (try simp only [List.getElem_toArray, List.getElem_cons_zero, List.getElem_cons_succ, Act.put, List.setIfInBounds_toArray, List.set_cons_zero, List.set_cons_succ])
        refine wpAnyH_take (i := 6) (v := ?v24) rfl (by kernel_rfl) (by kernel_rfl) (by kernel_rfl) (fun _ _ _ h => h) (Or.inl ⟨by rfl, ?y24⟩) (by assumption) ?r24
        case y24 => (intro w_ hSw; (try dsimp only at hSw); simp only [List.getElem_toArray, List.getElem_cons_zero, List.getElem_cons_succ]; go_simp; try with_reducible rfl)
        (try simp only [List.getElem_toArray, List.getElem_cons_zero, List.getElem_cons_succ, Act.put, List.setIfInBounds_toArray, List.set_cons_zero, List.set_cons_succ])
        refine wpAnyH_take (i := 7) (v := ?v25) rfl (by kernel_rfl) (by kernel_rfl) (by kernel_rfl) (fun _ _ _ h => h) (Or.inl ⟨by rfl, ?y25⟩) (by assumption) ?r25
        case y25 => (intro w_ hSw; (try dsimp only at hSw); simp only [List.getElem_toArray, List.getElem_cons_zero, List.getElem_cons_succ]; go_simp; try with_reducible rfl)
        (try simp only [List.getElem_toArray, List.getElem_cons_zero, List.getElem_cons_succ, Act.put, List.setIfInBounds_toArray, List.set_cons_zero, List.set_cons_succ])
        refine wpAnyH_take (i := 8) (v := ?v26) rfl (by kernel_rfl) (by kernel_rfl) (by kernel_rfl) (fun _ _ _ h => h) (Or.inl ⟨by rfl, ?y26⟩) (by assumption) ?r26
        case y26 => (intro w_ hSw; (try dsimp only at hSw); simp only [List.getElem_toArray, List.getElem_cons_zero, List.getElem_cons_succ]; go_simp; try with_reducible rfl)
        (try simp only [List.getElem_toArray, List.getElem_cons_zero, List.getElem_cons_succ, Act.put, List.setIfInBounds_toArray, List.set_cons_zero, List.set_cons_succ])
        refine wpAnyH_take (i := 9) (v := ?v27) rfl (by kernel_rfl) (by kernel_rfl) (by kernel_rfl) (fun _ _ _ h => h) (Or.inl ⟨by rfl, ?y27⟩) (by assumption) ?r27
        case y27 => (intro w_ hSw; (try dsimp only at hSw); simp only [List.getElem_toArray, List.getElem_cons_zero, List.getElem_cons_succ]; go_simp; try with_reducible rfl)
        (try simp only [List.getElem_toArray, List.getElem_cons_zero, List.getElem_cons_succ, Act.put, List.setIfInBounds_toArray, List.set_cons_zero, List.set_cons_succ])
        refine wpAnyH_take (i := 10) (v := ?v28) rfl (by kernel_rfl) (by kernel_rfl) (by kernel_rfl) (fun _ _ _ h => h) (Or.inl ⟨by rfl, ?y28⟩) (by assumption) ?r28
        case y28 => (intro w_ hSw; (try dsimp only at hSw); simp only [List.getElem_toArray, List.getElem_cons_zero, List.getElem_cons_succ]; go_simp; try with_reducible rfl)
        (try simp only [List.getElem_toArray, List.getElem_cons_zero, List.getElem_cons_succ, Act.put, List.setIfInBounds_toArray, List.set_cons_zero, List.set_cons_succ])
        refine wpAnyH_take (i := 11) (v := ?v29) rfl (by kernel_rfl) (by kernel_rfl) (by kernel_rfl) (fun _ _ _ h => h) (Or.inl ⟨by rfl, ?y29⟩) (by assumption) ?r29
        case y29 => (intro w_ hSw; (try dsimp only at hSw); simp only [List.getElem_toArray, List.getElem_cons_zero, List.getElem_cons_succ]; go_simp; try with_reducible rfl)
        (try simp only [List.getElem_toArray, List.getElem_cons_zero, List.getElem_cons_succ, Act.put, List.setIfInBounds_toArray, List.set_cons_zero, List.set_cons_succ])
        refine wpAnyH_take (i := 12) (v := ?v30) rfl (by kernel_rfl) (by kernel_rfl) (by kernel_rfl) (fun _ _ _ h => h) (Or.inl ⟨by rfl, ?y30⟩) (by assumption) ?r30
        case y30 => (intro w_ hSw; (try dsimp only at hSw); simp only [List.getElem_toArray, List.getElem_cons_zero, List.getElem_cons_succ]; go_simp; try with_reducible rfl)
        (try simp only [List.getElem_toArray, List.getElem_cons_zero, List.getElem_cons_succ, Act.put, List.setIfInBounds_toArray, List.set_cons_zero, List.set_cons_succ])
        refine wpAnyH_take (i := 13) (v := ?v31) rfl (by kernel_rfl) (by kernel_rfl) (by kernel_rfl) (fun _ _ _ h => h) (Or.inl ⟨by rfl, ?y31⟩) (by assumption) ?r31
        case y31 => (intro w_ hSw; (try dsimp only at hSw); simp only [List.getElem_toArray, List.getElem_cons_zero, List.getElem_cons_succ]; go_simp; try with_reducible rfl)
        (try simp only [List.getElem_toArray, List.getElem_cons_zero, List.getElem_cons_succ, Act.put, List.setIfInBounds_toArray, List.set_cons_zero, List.set_cons_succ])
        refine wpAnyH_take (i := 14) (v := ?v32) rfl (by kernel_rfl) (by kernel_rfl) (by kernel_rfl) (fun _ _ _ h => h) (Or.inl ⟨by rfl, ?y32⟩) (by assumption) ?r32
        case y32 => (intro w_ hSw; (try dsimp only at hSw); simp only [List.getElem_toArray, List.getElem_cons_zero, List.getElem_cons_succ]; go_simp; try with_reducible rfl)
        (try simp only [List.getElem_toArray, List.getElem_cons_zero, List.getElem_cons_succ, Act.put, List.setIfInBounds_toArray, List.set_cons_zero, List.set_cons_succ])
        refine wpAnyH_take (i := 15) (v := ?v33) rfl (by kernel_rfl) (by kernel_rfl) (by kernel_rfl) (fun _ _ _ h => h) (Or.inl ⟨by rfl, ?y33⟩) (by assumption) ?r33
        case y33 => (intro w_ hSw; (try dsimp only at hSw); simp only [List.getElem_toArray, List.getElem_cons_zero, List.getElem_cons_succ]; go_simp; try with_reducible rfl)
        (try simp only [List.getElem_toArray, List.getElem_cons_zero, List.getElem_cons_succ, Act.put, List.setIfInBounds_toArray, List.set_cons_zero, List.set_cons_succ])
        refine wpAnyH_take (i := 16) (v := ?v34) rfl (by kernel_rfl) (by kernel_rfl) (by kernel_rfl) (fun _ _ _ h => h) (Or.inl ⟨by rfl, ?y34⟩) (by assumption) ?r34
        case y34 => (intro w_ hSw; (try dsimp only at hSw); simp only [List.getElem_toArray, List.getElem_cons_zero, List.getElem_cons_succ]; go_simp; try with_reducible rfl)
        (try simp only [List.getElem_toArray, List.getElem_cons_zero, List.getElem_cons_succ, Act.put, List.setIfInBounds_toArray, List.set_cons_zero, List.set_cons_succ])
        refine wpAnyH_ready (rs := [17]) (by kernel_rfl) (by simp) ?_
        refine AllReadyH.cons (o := _) rfl (fun K hK => ?_) AllReadyH.nil
        (try simp only [List.getElem_toArray, List.getElem_cons_zero, List.getElem_cons_succ])
        go_simp
        refine hK.out _ _ (by go_keep) (fun hHeld => ?_)
        clear hK K
        (try simp only [List.getElem_toArray, List.getElem_cons_zero, List.getElem_cons_succ, Act.put, List.setIfInBounds_toArray, List.set_cons_zero, List.set_cons_succ])
        refine wpAnyH_ready (rs := [18]) (by kernel_rfl) (by simp) ?_
        refine AllReadyH.cons (o := _) rfl (fun K hK => ?_) AllReadyH.nil
        (try simp only [List.getElem_toArray, List.getElem_cons_zero, List.getElem_cons_succ])
        go_simp
        refine hK.out _ _ (by go_keep) (fun hHeld => ?_)
        clear hK K
        (try simp only [List.getElem_toArray, List.getElem_cons_zero, List.getElem_cons_succ, Act.put, List.setIfInBounds_toArray, List.set_cons_zero, List.set_cons_succ])
        refine wpAnyH_done (by kernel_rfl) ?_ _
        have hba : Below wr.heap.size wr (wr.drew.alloc (.cells #[.int .i64 (1 + xs.length), .int .u64 (xs.length * st), .slice A2 G.length c2] 33)) := ((Below.refl _ _).drew).alloc (Nat.le_refl _) _
        have HS1 := Aside0.mk (HS.out.below hba)
        have HE1 := Aside0.mk (show (wr.drew.alloc (.cells #[.int .i64 (1 + xs.length), .int .u64 (xs.length * st), .slice A2 G.length c2] 33)).heap[wr.heap.size]? = some (.cells #[.int .i64 (1 + xs.length), .int .u64 (xs.length * st), .slice A2 G.length c2] 33 (0, 0)) from heap_alloc_new wr.drew _)
        have HC21 := Aside0.mk (Kd.C_below HC2.out (HS.out.bel.trans (hba.mono HS.out.bel.size)))
        clear hba y1 hb1 hb2 hw1 hmul hcv hrem HTW HLN HST HS
        go_wp2_with fail
        refine (larderlaw16_twin.calls k (1 + xs.length) (xs.length * st) A2 c2 G (1 + xs.length) (xs.length * st) G _ HC21.out HL2.out HTW1.out).mono ?_
        rintro e w2 ⟨v2, rfl, hv2, hb⟩
        obtain ⟨A3, c3, rfl⟩ := Kd.R_slice hv2
        have HS2 := Aside0.mk (HS1.out.below hb); have HE2 := Aside0.mk ((hb.block _ (Array.getElem?_eq_some_iff.1 HE1.out).1).trans HE1.out); have HV2 := Aside0.mk (Kd.R_reads' hv2).2
        clear hv2 hb HS1 HE1 HC21
        go_wp2_with fail
        obtain ⟨b, er, hber, hline⟩ : ∃ b er, ((mayB (1 + xs.length) (xs.length * st) G = true ∧ b = frameP (bodyP (1 + xs.length) (xs.length * st) G) ∧ er = 0) ∨ (¬ mayB (1 + xs.length) (xs.length * st) G = true ∧ b = [] ∧ er = 162)) ∧ record_Line.f k (1 + xs.length) (xs.length * st) G = some (b, er) := by
          have h := HLN1.out
          by_cases hm : mayB (1 + xs.length) (xs.length * st) G = true
          · rw [if_pos hm] at h; exact ⟨_, _, .inl ⟨hm, rfl, rfl⟩, h⟩
          · rw [if_neg hm] at h; exact ⟨_, _, .inr ⟨hm, rfl, rfl⟩, h⟩
        have HBER := Aside0.mk hber; have HLINE := Aside0.mk hline
        clear hber hline HLN1 HTW1
        refine (record_Line.calls k (1 + xs.length) (xs.length * st) A3 c3 G b er _ HV2.out.2 HV2.out.1 HLINE.out).mono ?_
        rintro e w3 ⟨v3, rfl, hv3, hb⟩
        obtain ⟨A4, c4, rfl⟩ := Kd.R_slice hv3
        have HS3 := Aside0.mk (HS2.out.below hb); have HE3 := Aside0.mk ((hb.block _ (Array.getElem?_eq_some_iff.1 HE2.out).1).trans HE2.out); have HV3 := Aside0.mk hv3
        clear hv3 hb HS2 HE2 HV2
        go_wp2_with fail
        refine (larderlaw16_num.calls er er _ rfl).mono ?_
        rintro e w4 ⟨rfl, n4, hw4⟩
        have hb : Below w3.heap.size w3 w4 := hw4 ▸ pw_below_drewN (Below.refl _ _) n4
        have HS4 := Aside0.mk (HS3.out.below hb); have HE4 := Aside0.mk ((hb.block _ (Array.getElem?_eq_some_iff.1 HE3.out).1).trans HE3.out); have HV4 := Aside0.mk (Kd.R_below HV3.out hb)
        clear hb hw4 HS3 HE3 HV3
        rcases HBER.out with ⟨hmay, hb_, rfl⟩ | ⟨hmay, hb_, rfl⟩
        · have HMAY := Aside0.mk hmay; have HBE := Aside0.mk hb_
          have HBL := Aside0.mk (show b.length ≤ 33587566 by have h1 := bodyP_len hmay; rw [hb_, frameP_len]; omega)
          clear hmay hb_
          obtain ⟨z0, z1, z2, _, _, _⟩ := ent_cells HE4.out
          go_wp2_with ((with_reducible refine gate_dst (N := 62) rfl ?_); refine halt ?_)
          refine unhalt ?_
          have hbl : (xs.length + 1) * 40 ≤ 140737488355328 := by have := HX1.out; omega
          at_builtin
          refine Kd.R_append kH (w0 := w) w.heap.size rfl _ _ 29 33 (.agg #[.int .i64 0, .int .u64 0, .slice none 0 0]) 40 rfl Try.underlying29 info33 rfl (by decide) (by decide) (.slice Al xs.length cl) xs ⟨1 + xs.length, xs.length * st, A2, c2, G⟩ [.int .i64 (1 + xs.length), .int .u64 (xs.length * st), .slice A2 G.length c2] (fun _ => True) (fun _ => False) rfl rfl (kH_mk _ _ _ _) (fun _ h => h.elim) (fun _ _ => trivial) HS4.out.l HS4.out.bel HS4.out.bel.size hbl ?_
          intro v5 w5 ho hb hg hat
          have HS5 := Aside0.mk (HS4.out.pushL hg hb ho); have HV5 := Aside0.mk (R_apart HV4.out HS4.out.l hg (by decide))
          clear ho hb hg hat HS4 HE4 HV4 z0 z1 z2
          go_wp2_with ((with_reducible refine gate_dst (N := 65) rfl ?_); refine halt ?_)
          refine unhalt ?_
          at_builtin
          refine Kd.R_append_rows (Kd.int .u8) (w0 := w) w.heap.size rfl _ _ 37 5 (.int .u8 0) 1 rfl Try.underlying37 infoU8 rfl (by decide) (by omega) u7 log b A4 b.length c4 (fun _ => True) (fun _ => False) rfl rfl HS5.out.g (Kd.R_reads' HV5.out).2.2 (fun _ _ h => h) (fun _ h => h.elim) (fun _ _ => trivial) HS5.out.bel HS5.out.bel.size (le_fits HX2.out (by omega) HBL.out) ?_
          intro v6 w6 ho hb hg hat
          obtain ⟨A6, c6, rfl⟩ := Kd.R_slice ho
          have HS6 := Aside0.mk (HS5.out.pushG hg hb ho)
          clear ho hb hg hat HS5 HV5
          go_wp2_with ((with_reducible refine gate_dst (N := 70) rfl ?_); refine halt ?_)
          refine unhalt ?_
          have hel : (ends.length + 1) * 8 ≤ 140737488355328 := by have := HX3.out; omega
          at_builtin
          refine Kd.R_append (Kd.int .i64) (w0 := w) w.heap.size rfl _ _ 52 3 (.int .i64 0) 8 rfl Try.underlying52 infoI64 rfl (by decide) (by decide) u8 ends ((log.length : Int) + (b.length : Int)) [.int .i64 ((log.length : Int) + (b.length : Int))] (fun _ => True) (fun _ => False) rfl rfl rfl (fun _ h => h.elim) (fun _ _ => trivial) HS6.out.e HS6.out.bel HS6.out.bel.size hel ?_
          intro v7 w7 ho hb hg hat
          have HS7 := Aside0.mk (HS6.out.pushE hg hb ho)
          clear ho hb hg hat HS6
          go_wp2_with fail
          go_roundw
          case rel =>
            have h7 := HS7.out
            have hla : (log ++ b).length = log.length + b.length := List.length_append
            rw [hla] at h7
            refine ⟨i + 1, xs ++ [⟨1 + xs.length, xs.length * st, A2, c2, G⟩], log ++ b, ends ++ [((log.length : Int) + (b.length : Int))], by omega, by omega, by go_num, h7, ?_, by rw [List.length_append]; have := HX1.out; simp; omega, by rw [List.length_append]; exact le_more HX2.out HBL.out, by rw [List.length_append]; have := HX3.out; simp; omega, fun x hx => ?_⟩
            · rw [HSUC.out, ← HP.out, rowStep_yes _ _ _ _ _ _ A2 c2 HMAY.out, HBE.out]
            · rcases List.mem_append.1 hx with hx | hx
              · exact HX.out x hx
              · rw [List.mem_singleton.1 hx]; exact ⟨HL2.out, HC2.out⟩
          case measure => simp [intOf]; omega
        · have HMAY := Aside0.mk hmay
          clear hmay hb_
          go_wp2_with fail
          go_roundw
          case rel => exact ⟨i + 1, xs, log, ends, by omega, by omega, by go_num, HS4.out, by rw [HSUC.out, ← HP.out, rowStep_no _ _ _ _ _ _ HMAY.out], by have := HX1.out; omega, le_step HX2.out, by have := HX3.out; omega, HX.out⟩
          case measure => simp [intOf]; omega
      · go_wp2_with fail
        refine bodyPost_ret (v := .tuple #[u6, u7, u8, .bool true]) (by simp [results, Try.results34, go_sem]) rfl ?_
        have hi2 : i = 40 := by omega
        subst hi2
        have hp := HP.out
        exact ⟨_, _, _, rfl, HS.out.bel, xs, HS.out.l, by rw [← hp]; exact HS.out.g, by rw [← hp]; exact HS.out.e, by rw [← hp], HX.out⟩
    · obtain rfl : i = Gs.length := by omega
      go_wp2_with fail
      refine bodyPost_ret (v := .tuple #[u6, u7, u8, .bool true]) (by simp [results, Try.results34, go_sem]) rfl ?_
      have hp := HP.out
      rw [List.take_length] at hp
      have h40 : Gs.take 40 = Gs := List.take_of_length_le hi40
      rw [h40]
      exact ⟨_, _, _, xs, rfl, HS.out.bel, HS.out.l, by rw [← hp]; exact HS.out.g, by rw [← hp]; exact HS.out.e, by rw [← hp], HX.out⟩
set_option maxHeartbeats 8000000 in
set_option maxRecDepth 100000 in
theorem row_walk_C (k : Nat) (fst step : Int) (A0 : Option Addr) (c0 : Nat) (Gs : List (List S76)) (p1 p2 p3 p4 f st : Int) (w : World) (hr : Kd.C (Kd.slice 76 k76) w A0 Gs.length Gs) (hm : Gs.length ≤ 1048576)
    (h1 : ¬ fst < 1) (h2 : ¬ fst > 1099511627776) (hf : fst = f) (hf0 : 1 ≤ f) (hf1 : f ≤ 1099511627776) (hst : Int.tmod step 1099511627776 = st) (hst0 : 0 ≤ st) (hst1 : st < 1099511627776)
    (htw : ∀ j : Nat, j ≤ 40 → ∀ G ∈ Gs, larderlaw16_twin.f k (f + j) (j * st) G = some (f + j, j * st, G))
    (hln : ∀ j : Nat, j ≤ 40 → ∀ G ∈ Gs, record_Line.f k (f + j) (j * st) G = some (if mayB (f + j) (j * st) G = true then (frameP (bodyP (f + j) (j * st) G), 0) else ([], 162))) :
    Calls Try.prog 34 #[.agg #[.int .i64 fst, .int .u64 step, .slice A0 Gs.length c0, .int .i64 p1, .int .i64 p2, .int .i64 p3, .int .u64 p4]] w fun e w' => ∃ vl vg ve xs, e = .returned (.tuple #[vl, vg, ve, .bool true]) ∧ Below w.heap.size w w' ∧ kH.R 33 w' w.heap.size (fun _ => True) vl xs ∧ (Kd.int .u8).R 5 w' w.heap.size (fun _ => True) vg (rowP f st (Gs.take 40)).2.1 ∧ (Kd.int .i64).R 3 w' w.heap.size (fun _ => True) ve (rowP f st (Gs.take 40)).2.2 ∧ xs.map HE.ent = (rowP f st (Gs.take 40)).1 ∧ ∀ x ∈ xs, x.G.length ≤ x.c ∧ Kd.C k76 w x.A x.G.length x.G := by
  have HR := Aside0.mk hr; have HST := Aside0.mk hst; have HTW := Aside0.mk htw; have HLN := Aside0.mk hln; have HF0 := Aside0.mk hf0; have HF1 := Aside0.mk hf1
  clear hr hst htw hln hf0 hf1
  go_enter Try.func34, Try.ntmps34
  subst hf
  go_wp2_with fail
  have hm64 : (Gs.length : Int) ≤ 1048576 := by omega
  have HS := Aside0.mk (show RSt w (w.alloc (.cells #[.int .i64 fst, .int .u64 step, .slice A0 Gs.length c0, .int .i64 p1, .int .i64 p2, .int .i64 p3, .int .u64 p4] 59)) #[.int .i64 fst, .int .u64 step, .slice A0 Gs.length c0, .int .i64 p1, .int .i64 p2, .int .i64 p3, .int .u64 p4] (.slice none 0 0) (.slice none 0 0) (.slice none 0 0) [] [] [] from ⟨(Below.refl _ _).alloc (Nat.le_refl _) _, heap_alloc_new _ _, Kd.R_nil _ _ _ _ _, Kd.R_nil _ _ _ _ _, Kd.R_nil _ _ _ _ _⟩)
  go_loopw [6, 7, 8, 10] (fun v6 v7 v8 v10 wr => ∃ (i : Nat) (xs : List HE) (log ends : List Int), i ≤ Gs.length ∧ i ≤ 40 ∧ v10 = .int .i64 i ∧ RSt w wr #[.int .i64 fst, .int .u64 step, .slice A0 Gs.length c0, .int .i64 p1, .int .i64 p2, .int .i64 p3, .int .u64 p4] v6 v7 v8 xs log ends ∧ (xs.map HE.ent, log, ends) = rowP fst st (Gs.take i) ∧ xs.length ≤ i ∧ log.length ≤ i * 33587566 ∧ ends.length ≤ i ∧ (∀ x ∈ xs, x.G.length ≤ x.c ∧ Kd.C k76 w x.A x.G.length x.G)) (fun _ _ _ v _ => Gs.length - (intOf v).toNat)
  case atStart => exact ⟨0, [], [], [], Nat.zero_le _, Nat.zero_le _, rfl, HS.out, rfl, by simp, by simp, by simp, fun x hx => by cases hx⟩
  case round =>
    obtain ⟨i, xs, log, ends, hi, hi40, rfl, hS, hP, hx1, hx2, hx3, hX⟩ := hrel
    clear HS
    have HS := Aside0.mk hS; have HP := Aside0.mk hP; have HX1 := Aside0.mk hx1; have HX2 := Aside0.mk hx2; have HX3 := Aside0.mk hx3; have HX := Aside0.mk hX
    clear hS hP hx1 hx2 hx3 hX
    have hb : wr.cell? ⟨w.heap.size, 1, none⟩ = some (.int .u64 step) ∧ wr.cell? ⟨w.heap.size, 2, none⟩ = some (.slice A0 Gs.length c0) := by
      constructor <;> simp [World.cell?, HS.out.box]
    obtain ⟨hb1, hb2⟩ := hb
    by_cases hlt : i < Gs.length
    · have q0 : (0 : Int) ≤ (i : Int) := by omega
      have q1 : (i : Int) < (Gs.length : Int) := by omega
      by_cases h40 : (i : Int) < 40
      · obtain ⟨adG, A2, c2, hA, hG0, hl2, hC2⟩ := at_G HR.out i hlt
        have hmem := List.getElem_mem hlt
        have HSUC := Aside0.mk (rowP_succ fst st Gs i hlt)
        generalize Gs[i] = G at hG0 hl2 hC2 hmem HSUC
        subst hA
        obtain ⟨Al, cl, rfl⟩ := Kd.R_slice HS.out.l
        have HTW1 := Aside0.mk (HTW.out xs.length (by have := HX1.out; omega) G hmem)
        have HLN1 := Aside0.mk (HLN.out xs.length (by have := HX1.out; omega) G hmem)
        have HC2 := Aside0.mk hC2; have HL2 := Aside0.mk hl2
        have y1 := (HS.out.bel.cell (World.block_lt_of_cell? _ _ hG0)).trans hG0
        have HX1L := HX1.out
        have hw1 : IntKind.i64.wrap (fst + (xs.length : Int)) = fst + xs.length := by rw [Go.IntWalk.i64_in _ (by have := HF0.out; have := HF1.out; omega)]
        have hmul : IntKind.u64.wrap ((xs.length : Int) * st) = xs.length * st := by
          rw [IntKind.wrap_u64]
          have h1 : (xs.length : Int) * st ≤ 40 * 1099511627776 := Int.mul_le_mul (by omega) (by omega) (by omega) (by omega)
          have h2 : 0 ≤ (xs.length : Int) * st := Int.mul_nonneg (by omega) (by omega)
          omega
        have hcv : IntKind.u64.wrap (xs.length : Int) = xs.length := by rw [IntKind.wrap_u64]; omega
        have hrem := HST.out
        clear hG0 hl2 hC2 hmem
        go_wp2_with fail
        refine wp_region_held_drew (S := fun w' => w'.cell? ⟨w.heap.size, 1, none⟩ = some (.int .u64 step) ∧ w'.cell? ⟨w.heap.size, 2, none⟩ = some (.slice (some adG) Gs.length c0) ∧ w'.cell? (adG.add i) = some (.slice A2 G.length c2)) (by kernel_rfl) ⟨hb1, hb2, y1⟩ (fun hHeld => ?_)
        refine wpAnyH_take (i := 0) (v := ?v35) rfl (by kernel_rfl) (by kernel_rfl) (by kernel_rfl) (fun _ _ _ h => h) (Or.inl ⟨by rfl, ?y35⟩) (by assumption) ?r35
        case y35 => (intro w_ hSw; (try dsimp only at hSw); simp only [List.getElem_toArray, List.getElem_cons_zero, List.getElem_cons_succ]; go_simp; try with_reducible rfl)
        (try simp only [List.getElem_toArray, List.getElem_cons_zero, List.getElem_cons_succ, Act.put, List.setIfInBounds_toArray, List.set_cons_zero, List.set_cons_succ])
        refine wpAnyH_take (i := 1) (v := ?v36) rfl (by kernel_rfl) (by kernel_rfl) (by kernel_rfl) (fun _ _ _ h => h) (Or.inl ⟨by rfl, ?y36⟩) (by assumption) ?r36
        case y36 => (intro w_ hSw; (try dsimp only at hSw); simp only [List.getElem_toArray, List.getElem_cons_zero, List.getElem_cons_succ]; go_simp; try with_reducible rfl)
        (try simp only [List.getElem_toArray, List.getElem_cons_zero, List.getElem_cons_succ, Act.put, List.setIfInBounds_toArray, List.set_cons_zero, List.set_cons_succ])
        refine wpAnyH_take (i := 2) (v := ?v37) rfl (by kernel_rfl) (by kernel_rfl) (by kernel_rfl) (fun _ _ _ h => h) (Or.inl ⟨by rfl, ?y37⟩) (by assumption) ?r37
        case y37 => (intro w_ hSw; (try dsimp only at hSw); simp only [List.getElem_toArray, List.getElem_cons_zero, List.getElem_cons_succ]; go_simp; try with_reducible rfl)
        (try simp only [List.getElem_toArray, List.getElem_cons_zero, List.getElem_cons_succ, Act.put, List.setIfInBounds_toArray, List.set_cons_zero, List.set_cons_succ])
        refine wpAnyH_take (i := 3) (v := ?v38) rfl (by kernel_rfl) (by kernel_rfl) (by kernel_rfl) (fun _ _ _ h => h) (Or.inl ⟨by rfl, ?y38⟩) (by assumption) ?r38
        case y38 => (intro w_ hSw; (try dsimp only at hSw); simp only [List.getElem_toArray, List.getElem_cons_zero, List.getElem_cons_succ]; go_simp; try with_reducible rfl)
        (try simp only [List.getElem_toArray, List.getElem_cons_zero, List.getElem_cons_succ, Act.put, List.setIfInBounds_toArray, List.set_cons_zero, List.set_cons_succ])
        refine wpAnyH_take (i := 4) (v := ?v39) rfl (by kernel_rfl) (by kernel_rfl) (by kernel_rfl) (fun _ _ _ h => h) (Or.inl ⟨by rfl, ?y39⟩) (by assumption) ?r39
        case y39 => (intro w_ hSw; (try dsimp only at hSw); simp only [List.getElem_toArray, List.getElem_cons_zero, List.getElem_cons_succ]; go_simp; try with_reducible rfl)
        (try simp only [List.getElem_toArray, List.getElem_cons_zero, List.getElem_cons_succ, Act.put, List.setIfInBounds_toArray, List.set_cons_zero, List.set_cons_succ])
        refine wpAnyH_take (i := 5) (v := ?v40) rfl (by kernel_rfl) (by kernel_rfl) (by kernel_rfl) (fun _ _ _ h => h) (Or.inl ⟨by rfl, ?y40⟩) (by assumption) ?r40
        case y40 => (intro w_ hSw; (try dsimp only at hSw); simp only [List.getElem_toArray, List.getElem_cons_zero, List.getElem_cons_succ]; go_simp; try with_reducible rfl)
        (try simp only [List.getElem_toArray, List.getElem_cons_zero, List.getElem_cons_succ, Act.put, List.setIfInBounds_toArray, List.set_cons_zero, List.set_cons_succ])
        refine wpAnyH_take (i := 6) (v := ?v41) rfl (by kernel_rfl) (by kernel_rfl) (by kernel_rfl) (fun _ _ _ h => h) (Or.inl ⟨by rfl, ?y41⟩) (by assumption) ?r41
        case y41 => (intro w_ hSw; (try dsimp only at hSw); simp only [List.getElem_toArray, List.getElem_cons_zero, List.getElem_cons_succ]; go_simp; try with_reducible rfl)
        (try simp only [List.getElem_toArray, List.getElem_cons_zero, List.getElem_cons_succ, Act.put, List.setIfInBounds_toArray, List.set_cons_zero, List.set_cons_succ])
        refine wpAnyH_take (i := 7) (v := ?v42) rfl (by kernel_rfl) (by kernel_rfl) (by kernel_rfl) (fun _ _ _ h => h) (Or.inl ⟨by rfl, ?y42⟩) (by assumption) ?r42
        case y42 => (intro w_ hSw; (try dsimp only at hSw); simp only [List.getElem_toArray, List.getElem_cons_zero, List.getElem_cons_succ]; go_simp; try with_reducible rfl)
        (try simp only [List.getElem_toArray, List.getElem_cons_zero, List.getElem_cons_succ, Act.put, List.setIfInBounds_toArray, List.set_cons_zero, List.set_cons_succ])
        refine wpAnyH_take (i := 8) (v := ?v43) rfl (by kernel_rfl) (by kernel_rfl) (by kernel_rfl) (fun _ _ _ h => h) (Or.inl ⟨by rfl, ?y43⟩) (by assumption) ?r43
        case y43 => (intro w_ hSw; (try dsimp only at hSw); simp only [List.getElem_toArray, List.getElem_cons_zero, List.getElem_cons_succ]; go_simp; try with_reducible rfl)
        (try simp only [List.getElem_toArray, List.getElem_cons_zero, List.getElem_cons_succ, Act.put, List.setIfInBounds_toArray, List.set_cons_zero, List.set_cons_succ])
        refine wpAnyH_take (i := 9) (v := ?v44) rfl (by kernel_rfl) (by kernel_rfl) (by kernel_rfl) (fun _ _ _ h => h) (Or.inl ⟨by rfl, ?y44⟩) (by assumption) ?r44
        case y44 => (intro w_ hSw; (try dsimp only at hSw); simp only [List.getElem_toArray, List.getElem_cons_zero, List.getElem_cons_succ]; go_simp; try with_reducible rfl)
        (try simp only [List.getElem_toArray, List.getElem_cons_zero, List.getElem_cons_succ, Act.put, List.setIfInBounds_toArray, List.set_cons_zero, List.set_cons_succ])
        refine wpAnyH_take (i := 10) (v := ?v45) rfl (by kernel_rfl) (by kernel_rfl) (by kernel_rfl) (fun _ _ _ h => h) (Or.inl ⟨by rfl, ?y45⟩) (by assumption) ?r45
        case y45 => (intro w_ hSw; (try dsimp only at hSw); simp only [List.getElem_toArray, List.getElem_cons_zero, List.getElem_cons_succ]; go_simp; try with_reducible rfl)
        (try simp only [List.getElem_toArray, List.getElem_cons_zero, List.getElem_cons_succ, Act.put, List.setIfInBounds_toArray, List.set_cons_zero, List.set_cons_succ])
        refine wpAnyH_take (i := 11) (v := ?v46) rfl (by kernel_rfl) (by kernel_rfl) (by kernel_rfl) (fun _ _ _ h => h) (Or.inl ⟨by rfl, ?y46⟩) (by assumption) ?r46
        case y46 => (intro w_ hSw; (try dsimp only at hSw); simp only [List.getElem_toArray, List.getElem_cons_zero, List.getElem_cons_succ]; go_simp; try with_reducible rfl)
        (try simp only [List.getElem_toArray, List.getElem_cons_zero, List.getElem_cons_succ, Act.put, List.setIfInBounds_toArray, List.set_cons_zero, List.set_cons_succ])
        refine wpAnyH_take (i := 12) (v := ?v47) rfl (by kernel_rfl) (by kernel_rfl) (by kernel_rfl) (fun _ _ _ h => h) (Or.inl ⟨by rfl, ?y47⟩) (by assumption) ?r47
        case y47 => (intro w_ hSw; (try dsimp only at hSw); simp only [List.getElem_toArray, List.getElem_cons_zero, List.getElem_cons_succ]; go_simp; try with_reducible rfl)
        (try simp only [List.getElem_toArray, List.getElem_cons_zero, List.getElem_cons_succ, Act.put, List.setIfInBounds_toArray, List.set_cons_zero, List.set_cons_succ])
        refine wpAnyH_take (i := 13) (v := ?v48) rfl (by kernel_rfl) (by kernel_rfl) (by kernel_rfl) (fun _ _ _ h => h) (Or.inl ⟨by rfl, ?y48⟩) (by assumption) ?r48
        case y48 => (intro w_ hSw; (try dsimp only at hSw); simp only [List.getElem_toArray, List.getElem_cons_zero, List.getElem_cons_succ]; go_simp; try with_reducible rfl)
        (try simp only [List.getElem_toArray, List.getElem_cons_zero, List.getElem_cons_succ, Act.put, List.setIfInBounds_toArray, List.set_cons_zero, List.set_cons_succ])
        refine wpAnyH_take (i := 14) (v := ?v49) rfl (by kernel_rfl) (by kernel_rfl) (by kernel_rfl) (fun _ _ _ h => h) (Or.inl ⟨by rfl, ?y49⟩) (by assumption) ?r49
        case y49 => (intro w_ hSw; (try dsimp only at hSw); simp only [List.getElem_toArray, List.getElem_cons_zero, List.getElem_cons_succ]; go_simp; try with_reducible rfl)
        (try simp only [List.getElem_toArray, List.getElem_cons_zero, List.getElem_cons_succ, Act.put, List.setIfInBounds_toArray, List.set_cons_zero, List.set_cons_succ])
        refine wpAnyH_take (i := 15) (v := ?v50) rfl (by kernel_rfl) (by kernel_rfl) (by kernel_rfl) (fun _ _ _ h => h) (Or.inl ⟨by rfl, ?y50⟩) (by assumption) ?r50
        case y50 => (intro w_ hSw; (try dsimp only at hSw); simp only [List.getElem_toArray, List.getElem_cons_zero, List.getElem_cons_succ]; go_simp; try with_reducible rfl)
        (try simp only [List.getElem_toArray, List.getElem_cons_zero, List.getElem_cons_succ, Act.put, List.setIfInBounds_toArray, List.set_cons_zero, List.set_cons_succ])
        refine wpAnyH_take (i := 16) (v := ?v51) rfl (by kernel_rfl) (by kernel_rfl) (by kernel_rfl) (fun _ _ _ h => h) (Or.inl ⟨by rfl, ?y51⟩) (by assumption) ?r51
        case y51 => (intro w_ hSw; (try dsimp only at hSw); simp only [List.getElem_toArray, List.getElem_cons_zero, List.getElem_cons_succ]; go_simp; try with_reducible rfl)
        (try simp only [List.getElem_toArray, List.getElem_cons_zero, List.getElem_cons_succ, Act.put, List.setIfInBounds_toArray, List.set_cons_zero, List.set_cons_succ])
        refine wpAnyH_ready (rs := [17]) (by kernel_rfl) (by simp) ?_
        refine AllReadyH.cons (o := _) rfl (fun K hK => ?_) AllReadyH.nil
        (try simp only [List.getElem_toArray, List.getElem_cons_zero, List.getElem_cons_succ])
        go_simp
        refine hK.out _ _ (by go_keep) (fun hHeld => ?_)
        clear hK K
        (try simp only [List.getElem_toArray, List.getElem_cons_zero, List.getElem_cons_succ, Act.put, List.setIfInBounds_toArray, List.set_cons_zero, List.set_cons_succ])
        refine wpAnyH_ready (rs := [18]) (by kernel_rfl) (by simp) ?_
        refine AllReadyH.cons (o := _) rfl (fun K hK => ?_) AllReadyH.nil
        (try simp only [List.getElem_toArray, List.getElem_cons_zero, List.getElem_cons_succ])
        go_simp
        refine hK.out _ _ (by go_keep) (fun hHeld => ?_)
        clear hK K
        (try simp only [List.getElem_toArray, List.getElem_cons_zero, List.getElem_cons_succ, Act.put, List.setIfInBounds_toArray, List.set_cons_zero, List.set_cons_succ])
        refine wpAnyH_done (by kernel_rfl) ?_ _
        have hba : Below wr.heap.size wr (wr.drew.alloc (.cells #[.int .i64 (fst + xs.length), .int .u64 (xs.length * st), .slice A2 G.length c2] 33)) := ((Below.refl _ _).drew).alloc (Nat.le_refl _) _
        have HS1 := Aside0.mk (HS.out.below hba)
        have HE1 := Aside0.mk (show (wr.drew.alloc (.cells #[.int .i64 (fst + xs.length), .int .u64 (xs.length * st), .slice A2 G.length c2] 33)).heap[wr.heap.size]? = some (.cells #[.int .i64 (fst + xs.length), .int .u64 (xs.length * st), .slice A2 G.length c2] 33 (0, 0)) from heap_alloc_new wr.drew _)
        have HC21 := Aside0.mk (Kd.C_below HC2.out (HS.out.bel.trans (hba.mono HS.out.bel.size)))
        clear hba y1 hb1 hb2 hw1 hmul hcv hrem HTW HLN HST HS
        go_wp2_with fail
        refine (larderlaw16_twin.calls k (fst + xs.length) (xs.length * st) A2 c2 G (fst + xs.length) (xs.length * st) G _ HC21.out HL2.out HTW1.out).mono ?_
        rintro e w2 ⟨v2, rfl, hv2, hb⟩
        obtain ⟨A3, c3, rfl⟩ := Kd.R_slice hv2
        have HS2 := Aside0.mk (HS1.out.below hb); have HE2 := Aside0.mk ((hb.block _ (Array.getElem?_eq_some_iff.1 HE1.out).1).trans HE1.out); have HV2 := Aside0.mk (Kd.R_reads' hv2).2
        clear hv2 hb HS1 HE1 HC21
        go_wp2_with fail
        obtain ⟨b, er, hber, hline⟩ : ∃ b er, ((mayB (fst + xs.length) (xs.length * st) G = true ∧ b = frameP (bodyP (fst + xs.length) (xs.length * st) G) ∧ er = 0) ∨ (¬ mayB (fst + xs.length) (xs.length * st) G = true ∧ b = [] ∧ er = 162)) ∧ record_Line.f k (fst + xs.length) (xs.length * st) G = some (b, er) := by
          have h := HLN1.out
          by_cases hm : mayB (fst + xs.length) (xs.length * st) G = true
          · rw [if_pos hm] at h; exact ⟨_, _, .inl ⟨hm, rfl, rfl⟩, h⟩
          · rw [if_neg hm] at h; exact ⟨_, _, .inr ⟨hm, rfl, rfl⟩, h⟩
        have HBER := Aside0.mk hber; have HLINE := Aside0.mk hline
        clear hber hline HLN1 HTW1
        refine (record_Line.calls k (fst + xs.length) (xs.length * st) A3 c3 G b er _ HV2.out.2 HV2.out.1 HLINE.out).mono ?_
        rintro e w3 ⟨v3, rfl, hv3, hb⟩
        obtain ⟨A4, c4, rfl⟩ := Kd.R_slice hv3
        have HS3 := Aside0.mk (HS2.out.below hb); have HE3 := Aside0.mk ((hb.block _ (Array.getElem?_eq_some_iff.1 HE2.out).1).trans HE2.out); have HV3 := Aside0.mk hv3
        clear hv3 hb HS2 HE2 HV2
        go_wp2_with fail
        refine (larderlaw16_num.calls er er _ rfl).mono ?_
        rintro e w4 ⟨rfl, n4, hw4⟩
        have hb : Below w3.heap.size w3 w4 := hw4 ▸ pw_below_drewN (Below.refl _ _) n4
        have HS4 := Aside0.mk (HS3.out.below hb); have HE4 := Aside0.mk ((hb.block _ (Array.getElem?_eq_some_iff.1 HE3.out).1).trans HE3.out); have HV4 := Aside0.mk (Kd.R_below HV3.out hb)
        clear hb hw4 HS3 HE3 HV3
        rcases HBER.out with ⟨hmay, hb_, rfl⟩ | ⟨hmay, hb_, rfl⟩
        · have HMAY := Aside0.mk hmay; have HBE := Aside0.mk hb_
          have HBL := Aside0.mk (show b.length ≤ 33587566 by have h1 := bodyP_len hmay; rw [hb_, frameP_len]; omega)
          clear hmay hb_
          obtain ⟨z0, z1, z2, _, _, _⟩ := ent_cells HE4.out
          go_wp2_with ((with_reducible refine gate_dst (N := 62) rfl ?_); refine halt ?_)
          refine unhalt ?_
          have hbl : (xs.length + 1) * 40 ≤ 140737488355328 := by have := HX1.out; omega
          at_builtin
          refine Kd.R_append kH (w0 := w) w.heap.size rfl _ _ 29 33 (.agg #[.int .i64 0, .int .u64 0, .slice none 0 0]) 40 rfl Try.underlying29 info33 rfl (by decide) (by decide) (.slice Al xs.length cl) xs ⟨fst + xs.length, xs.length * st, A2, c2, G⟩ [.int .i64 (fst + xs.length), .int .u64 (xs.length * st), .slice A2 G.length c2] (fun _ => True) (fun _ => False) rfl rfl (kH_mk _ _ _ _) (fun _ h => h.elim) (fun _ _ => trivial) HS4.out.l HS4.out.bel HS4.out.bel.size hbl ?_
          intro v5 w5 ho hb hg hat
          have HS5 := Aside0.mk (HS4.out.pushL hg hb ho); have HV5 := Aside0.mk (R_apart HV4.out HS4.out.l hg (by decide))
          clear ho hb hg hat HS4 HE4 HV4 z0 z1 z2
          go_wp2_with ((with_reducible refine gate_dst (N := 65) rfl ?_); refine halt ?_)
          refine unhalt ?_
          at_builtin
          refine Kd.R_append_rows (Kd.int .u8) (w0 := w) w.heap.size rfl _ _ 37 5 (.int .u8 0) 1 rfl Try.underlying37 infoU8 rfl (by decide) (by omega) u7 log b A4 b.length c4 (fun _ => True) (fun _ => False) rfl rfl HS5.out.g (Kd.R_reads' HV5.out).2.2 (fun _ _ h => h) (fun _ h => h.elim) (fun _ _ => trivial) HS5.out.bel HS5.out.bel.size (le_fits HX2.out (by omega) HBL.out) ?_
          intro v6 w6 ho hb hg hat
          obtain ⟨A6, c6, rfl⟩ := Kd.R_slice ho
          have HS6 := Aside0.mk (HS5.out.pushG hg hb ho)
          clear ho hb hg hat HS5 HV5
          go_wp2_with ((with_reducible refine gate_dst (N := 70) rfl ?_); refine halt ?_)
          refine unhalt ?_
          have hel : (ends.length + 1) * 8 ≤ 140737488355328 := by have := HX3.out; omega
          at_builtin
          refine Kd.R_append (Kd.int .i64) (w0 := w) w.heap.size rfl _ _ 52 3 (.int .i64 0) 8 rfl Try.underlying52 infoI64 rfl (by decide) (by decide) u8 ends ((log.length : Int) + (b.length : Int)) [.int .i64 ((log.length : Int) + (b.length : Int))] (fun _ => True) (fun _ => False) rfl rfl rfl (fun _ h => h.elim) (fun _ _ => trivial) HS6.out.e HS6.out.bel HS6.out.bel.size hel ?_
          intro v7 w7 ho hb hg hat
          have HS7 := Aside0.mk (HS6.out.pushE hg hb ho)
          clear ho hb hg hat HS6
          go_wp2_with fail
          go_roundw
          case rel =>
            have h7 := HS7.out
            have hla : (log ++ b).length = log.length + b.length := List.length_append
            rw [hla] at h7
            refine ⟨i + 1, xs ++ [⟨fst + xs.length, xs.length * st, A2, c2, G⟩], log ++ b, ends ++ [((log.length : Int) + (b.length : Int))], by omega, by omega, by go_num, h7, ?_, by rw [List.length_append]; have := HX1.out; simp; omega, by rw [List.length_append]; exact le_more HX2.out HBL.out, by rw [List.length_append]; have := HX3.out; simp; omega, fun x hx => ?_⟩
            · rw [HSUC.out, ← HP.out, rowStep_yes _ _ _ _ _ _ A2 c2 HMAY.out, HBE.out]
            · rcases List.mem_append.1 hx with hx | hx
              · exact HX.out x hx
              · rw [List.mem_singleton.1 hx]; exact ⟨HL2.out, HC2.out⟩
          case measure => simp [intOf]; omega
        · have HMAY := Aside0.mk hmay
          clear hmay hb_
          go_wp2_with fail
          go_roundw
          case rel => exact ⟨i + 1, xs, log, ends, by omega, by omega, by go_num, HS4.out, by rw [HSUC.out, ← HP.out, rowStep_no _ _ _ _ _ _ HMAY.out], by have := HX1.out; omega, le_step HX2.out, by have := HX3.out; omega, HX.out⟩
          case measure => simp [intOf]; omega
      · go_wp2_with fail
        refine bodyPost_ret (v := .tuple #[u6, u7, u8, .bool true]) (by simp [results, Try.results34, go_sem]) rfl ?_
        have hi2 : i = 40 := by omega
        subst hi2
        have hp := HP.out
        exact ⟨_, _, _, rfl, HS.out.bel, xs, HS.out.l, by rw [← hp]; exact HS.out.g, by rw [← hp]; exact HS.out.e, by rw [← hp], HX.out⟩
    · obtain rfl : i = Gs.length := by omega
      go_wp2_with fail
      refine bodyPost_ret (v := .tuple #[u6, u7, u8, .bool true]) (by simp [results, Try.results34, go_sem]) rfl ?_
      have hp := HP.out
      rw [List.take_length] at hp
      have h40 : Gs.take 40 = Gs := List.take_of_length_le hi40
      rw [h40]
      exact ⟨_, _, _, xs, rfl, HS.out.bel, HS.out.l, by rw [← hp]; exact HS.out.g, by rw [← hp]; exact HS.out.e, by rw [← hp], HX.out⟩
theorem row_walk (k : Nat) (fst step : Int) (A0 : Option Addr) (c0 : Nat) (Gs : List (List S76)) (p1 p2 p3 p4 f st : Int) (w : World) (hr : Kd.C (Kd.slice 76 k76) w A0 Gs.length Gs) (hm : Gs.length ≤ 1048576)
    (hf : f = if fst < 1 then 1 else if fst > 1099511627776 then 1 else fst) (hst : Int.tmod step 1099511627776 = st) (hst0 : 0 ≤ st) (hst1 : st < 1099511627776)
    (htw : ∀ j : Nat, j ≤ 40 → ∀ G ∈ Gs, larderlaw16_twin.f k (f + j) (j * st) G = some (f + j, j * st, G))
    (hln : ∀ j : Nat, j ≤ 40 → ∀ G ∈ Gs, record_Line.f k (f + j) (j * st) G = some (if mayB (f + j) (j * st) G = true then (frameP (bodyP (f + j) (j * st) G), 0) else ([], 162))) :
    Calls Try.prog 34 #[.agg #[.int .i64 fst, .int .u64 step, .slice A0 Gs.length c0, .int .i64 p1, .int .i64 p2, .int .i64 p3, .int .u64 p4]] w fun e w' => ∃ vl vg ve xs, e = .returned (.tuple #[vl, vg, ve, .bool true]) ∧ Below w.heap.size w w' ∧ kH.R 33 w' w.heap.size (fun _ => True) vl xs ∧ (Kd.int .u8).R 5 w' w.heap.size (fun _ => True) vg (rowP f st (Gs.take 40)).2.1 ∧ (Kd.int .i64).R 3 w' w.heap.size (fun _ => True) ve (rowP f st (Gs.take 40)).2.2 ∧ xs.map HE.ent = (rowP f st (Gs.take 40)).1 ∧ ∀ x ∈ xs, x.G.length ≤ x.c ∧ Kd.C k76 w x.A x.G.length x.G := by
  by_cases h1 : fst < 1
  · rw [if_pos h1] at hf
    exact row_walk_A k fst step A0 c0 Gs p1 p2 p3 p4 f st w hr hm h1 hf.symm (by omega) (by omega) hst hst0 hst1 htw hln
  · rw [if_neg h1] at hf
    by_cases h2 : fst > 1099511627776
    · rw [if_pos h2] at hf
      exact row_walk_B k fst step A0 c0 Gs p1 p2 p3 p4 f st w hr hm h1 h2 hf.symm (by omega) (by omega) hst hst0 hst1 htw hln
    · rw [if_neg h2] at hf
      exact row_walk_C k fst step A0 c0 Gs p1 p2 p3 p4 f st w hr hm h1 h2 hf.symm (by omega) (by omega) hst hst0 hst1 htw hln
end Go.Proofs.Ytdhkhjfjjbdkgaa.Rec
