/- record.parse. -/
import Derived.Test.YtdhkhjfjjbdkgaaRdr
import Derived.Test.YtdhkhjfjjbdkgaaRLx1
import Derived.Deep.RegionHeld3
import Derived.StillTailTactics
import Derived.Deep.RegionLaw
namespace Go.Proofs.Ytdhkhjfjjbdkgaa.Rec
open List Go.RowKit Go.Proofs.YtdhkhjfjjbdkgaaW.PrintWords Go.Proofs.YtdhkhjfjjbdkgaaW.PrintLast Go.Proofs.YtdhkhjfjjbdkgaaW.PrintMore
attribute [local go_sem] max2_int min2_int max_two min_two max_three min_three max_four min_four
set_option linter.unusedVariables false
set_option linter.unusedSimpArgs false
/-- The arguments of one act, n of them, behind what is there. -/
def pArgs : Nat → List (List Int) → List Int → Bool → List (List Int) × List Int × Bool
  | 0, acc, l, b => (acc, l, b)
  | n + 1, acc, l, b => pArgs n (acc ++ [(rtext l b).1]) (rtext l b).2.1 (rtext l b).2.2
/-- How many arguments there may be. -/
def pMany (l : List Int) (m : Int) : Nat := (mn (numOf l % 4294967296) m).toNat
/-- One act. -/
def pAct (l : List Int) (b : Bool) : S76 × List Int × Bool :=
  let d := rcut l b 1
  let m := rcut d.2.1 d.2.2 4
  let q := pArgs (pMany m.1 129) [] m.2.1 m.2.2
  (⟨numOf d.1 % 256, q.1⟩, q.2.1, q.2.2)
theorem pMany_is (l : List Int) (m : Int) (hm : 0 ≤ m) : mn (numOf l % 4294967296) m = (pMany l m : Int) ∧ (pMany l m : Int) ≤ m := by
  unfold pMany mn
  split <;> omega
def pGroup : Nat → List S76 → List Int → Bool → List S76 × List Int × Bool
  | 0, acc, l, b => (acc, l, b)
  | n + 1, acc, l, b => pGroup n (acc ++ [(pAct l b).1]) (pAct l b).2.1 (pAct l b).2.2
theorem C_byt {w : World} {A : Option Addr} {c : Nat} {l : List Int} (h : Kd.C (Kd.int .u8) w A l.length l) (hc : l.length ≤ c) : Byt w w.heap.size A c l := by
  refine ⟨Kd.reads_of_C (d := (0 : Int)) h, hc, fun ad e h0 => ?_⟩
  subst e
  exact Kd.C_lt h h0 (by decide)
theorem Byt.below {w w' : World} {Z : Nat} {A : Option Addr} {c : Nat} {l : List Int} (h : Byt w Z A c l) (hb : Below w.heap.size w w') : Byt w' Z A c l :=
  ⟨Kd.reads_of_C (d := (0 : Int)) (Kd.C_below h.C hb), h.cap, h.foot⟩
theorem rdr_new {w : World} {A : Option Addr} {c : Nat} {l : List Int} (h : Byt w w.heap.size A c l) (W : World) (hb : Below w.heap.size w W) : Rdr (W.alloc (.cells #[.slice A l.length c, .bool false] 96)) w.heap.size W.heap.size A c l false :=
  ⟨heap_alloc_new _ _, (h.below hb).below ((Below.refl _ _).alloc (Nat.le_refl _) _), hb.size⟩
/-- What stands in the outer loop: the result's block, the entry's block ge, the reader (block w.heap.size + 1), the group's rows in blocks below B. -/
structure POut (w wr : World) (B ge : Nat) (seq now : Int) (vg : Value) (grp : List S76) (l : List Int) (b : Bool) : Prop where
  bel : Below w.heap.size w wr
  res : wr.heap[w.heap.size]? = some (.cells #[.int .i64 0, .int .u64 0, .slice none 0 0] 33 (0, 0))
  ent : wr.heap[ge]? = some (.cells #[.int .i64 seq, .int .u64 now, vg] 33 (0, 0))
  own : Kd.R k76 76 wr w.heap.size (fun k => k < B ∧ k ≠ w.heap.size ∧ k ≠ w.heap.size + 1 ∧ k ≠ ge) vg grp
  rdr : ∃ A c, Rdr wr w.heap.size (w.heap.size + 1) A c l b
  ge1 : w.heap.size + 1 < ge
  geB : ge < B
  lB : B ≤ wr.heap.size
/-- In the inner loop: the act's block ga, its arguments' rows in blocks from B on. -/
structure PInn (w wr : World) (B ge ga : Nat) (seq now : Int) (vg : Value) (grp : List S76) (db : Int) (va : Value) (args : List (List Int)) (l : List Int) (b : Bool) : Prop where
  out : POut w wr B ge seq now vg grp l b
  act : wr.heap[ga]? = some (.cells #[.int .i64 db, va] 76 (0, 0))
  ga1 : B ≤ ga
  args : Kd.R (Kd.slice 5 (Kd.int .u8)) 37 wr w.heap.size (fun k => B ≤ k ∧ k ≠ ga) va args
theorem POut.kb {w wr w' : World} {B ge : Nat} {seq now : Int} {vg : Value} {grp : List S76} {l l' : List Int} {b b' : Bool} (h : POut w wr B ge seq now vg grp l b) (hk : Kb wr w' w.heap.size (w.heap.size + 1)) (hr : ∃ A c, Rdr w' w.heap.size (w.heap.size + 1) A c l' b') : POut w w' B ge seq now vg grp l' b' where
  bel := h.bel.trans hk.1
  res := hk.2.blk h.res (by omega) (by simp)
  ent := hk.2.blk h.ent (by have := h.ge1; omega) (by simp)
  own := Kd.R_keep h.own hk.2 (fun k hk => hk.2.2.1)
  rdr := hr
  ge1 := h.ge1
  geB := h.geB
  lB := Nat.le_trans h.lB hk.2.1
theorem PInn.kb {w wr w' : World} {B ge ga : Nat} {seq now db : Int} {vg va : Value} {grp : List S76} {args : List (List Int)} {l l' : List Int} {b b' : Bool} (h : PInn w wr B ge ga seq now vg grp db va args l b) (hk : Kb wr w' w.heap.size (w.heap.size + 1)) (hr : ∃ A c, Rdr w' w.heap.size (w.heap.size + 1) A c l' b') : PInn w w' B ge ga seq now vg grp db va args l' b' where
  out := h.out.kb hk hr
  act := hk.2.blk h.act (by have := h.out.ge1; have := h.out.geB; have := h.ga1; omega) (by simp)
  ga1 := h.ga1
  args := Kd.R_keep h.args hk.2 (fun k hk => by have := h.out.ge1; have := h.out.geB; omega)
/-- Between rounds: all that is there lies below the heap's end. -/
theorem POut.raise {w wr : World} {B ge : Nat} {seq now : Int} {vg : Value} {grp : List S76} {l : List Int} {b : Bool} (h : POut w wr B ge seq now vg grp l b) : POut w wr wr.heap.size ge seq now vg grp l b where
  bel := h.bel
  res := h.res
  ent := h.ent
  own := Kd.R_mono h.own (fun k hk => ⟨Nat.lt_of_lt_of_le hk.1 h.lB, hk.2⟩)
  rdr := h.rdr
  ge1 := h.ge1
  geB := (Array.getElem?_eq_some_iff.1 h.ent).1
  lB := Nat.le_refl _
/-- An act's block is made. -/
theorem POut.act {w wr : World} {B ge : Nat} {seq now : Int} {vg : Value} {grp : List S76} {l : List Int} {b : Bool} (h : POut w wr B ge seq now vg grp l b) (db : Int) : PInn w (wr.alloc (.cells #[.int .i64 db, .slice none 0 0] 76)) B ge wr.heap.size seq now vg grp db (.slice none 0 0) [] l b where
  out := h.kb (Kb.below ((Below.refl _ _).alloc (Nat.le_refl _) _) h.bel.size) (by obtain ⟨A, c, hr⟩ := h.rdr; exact ⟨A, c, hr.below ((Below.refl _ _).alloc (Nat.le_refl _) _)⟩)
  act := heap_alloc_new _ _
  ga1 := h.lB
  args := Kd.R_nil _ _ _ _ _
/-- A row of bytes is appended to the arguments, and the act's field is set. -/
theorem PInn.push {w wr w2 w3 : World} {B ge ga : Nat} {seq now db : Int} {vg va v1 : Value} {grp : List S76} {args args' : List (List Int)} {l : List Int} {b : Bool} (h : PInn w wr B ge ga seq now vg grp db va args l b) (hb : Below wr.heap.size wr w2) (hg : w2.grownBy w3 va.ownBlock)
    (ho : Kd.R (Kd.slice 5 (Kd.int .u8)) 37 w3 w.heap.size (fun k => B ≤ k ∧ k ≠ ga) v1 args') : PInn w (w3.setCell ⟨ga, 1, none⟩ v1) B ge ga seq now vg grp db v1 args' l b := by
  have e1 := h.out.ge1; have e2 := h.out.geB; have e3 := h.ga1; have e4 := h.out.lB
  have hz := h.out.bel.size
  have hgl := (Array.getElem?_eq_some_iff.1 h.act).1
  have hne : ∀ k, va.ownBlock = some k → B ≤ k ∧ k ≠ ga := fun k hk => h.args.1 k hk
  have blk : ∀ {k : Nat} {o : Obj}, wr.heap[k]? = some o → (k < B ∨ k = ga) → w3.heap[k]? = some o := fun {k o} hk hor => by
    have hlt := (Array.getElem?_eq_some_iff.1 hk).1
    rw [hg.block k (Nat.lt_of_lt_of_le hlt hb.size) (fun e => by have := hne k e.symm; omega), hb.block k hlt]; exact hk
  have hs3 : wr.heap.size ≤ w3.heap.size := Nat.le_trans hb.size hg.size
  have hbel : Below w.heap.size w w3 := (h.out.bel.trans (hb.mono hz)).grown hg (Nat.le_trans hz hb.size) (fun k hk => by have := hne k hk; omega)
  refine ⟨⟨hbel.setCell (by show w.heap.size ≤ ga; omega) _, ?_, ?_, ?_, ?_, e1, e2, by simp [World.setCell]; omega⟩, ?_, e3, ?_⟩
  · rw [heap_setCell_other _ _ _ _ (by show _ ≠ ga; omega)]; exact blk h.out.res (.inl (by omega))
  · rw [heap_setCell_other _ _ _ _ (by show _ ≠ ga; omega)]; exact blk h.out.ent (.inl e2)
  · refine Kd.R_far (p := ⟨ga, 1, none⟩) ?_ (fun k hk => by show k ≠ ga; omega) v1
    exact Kd.R_grown (Kd.R_below h.out.own hb) hg (fun k hk e => by have := hne k e.symm; omega)
  · obtain ⟨A, c, hr⟩ := h.out.rdr
    refine ⟨A, c, ?_, ?_, hr.lo⟩
    · rw [heap_setCell_other _ _ _ _ (by show _ ≠ ga; omega)]; exact blk hr.heap (.inl (by omega))
    · have hk : Below w.heap.size wr (w3.setCell ⟨ga, 1, none⟩ v1) := by
        have := (hb.mono hz).grown hg (Nat.le_trans hz hb.size) (fun k hk => by have := hne k hk; omega)
        exact this.setCell (by show w.heap.size ≤ ga; omega) _
      refine ⟨⟨rfl, hr.byt.rd.2.1, fun h0 => ?_⟩, hr.byt.cap, hr.byt.foot⟩
      obtain ⟨ad, e, hc⟩ := hr.byt.rd.2.2 h0
      refine ⟨ad, e, fun j hj => ?_⟩
      have hf := hr.byt.foot ad e h0
      rw [← hc j hj]
      exact World.cell?_of_block (by rw [add_block]; exact hk.block _ hf)
  · rw [heap_setCell_same _ _ _ _ _ _ (blk h.act (.inr rfl))]; rfl
  · exact Kd.R_far (p := ⟨ga, 1, none⟩) ho (fun k hk => by show k ≠ ga; exact hk.2) v1
/-- The act is appended to the group, and the entry's field is set. -/
theorem PInn.close {w wr w3 : World} {B ge ga : Nat} {seq now db : Int} {vg va v1 : Value} {grp grp' : List S76} {args : List (List Int)} {l : List Int} {b : Bool} (h : PInn w wr B ge ga seq now vg grp db va args l b) (hg : wr.grownBy w3 vg.ownBlock)
    (ho : Kd.R k76 76 w3 w.heap.size (fun k => k ≠ w.heap.size ∧ k ≠ w.heap.size + 1 ∧ k ≠ ge) v1 grp') : POut w (w3.setCell ⟨ge, 2, none⟩ v1) w3.heap.size ge seq now v1 grp' l b := by
  have e1 := h.out.ge1; have e2 := h.out.geB; have e3 := h.ga1; have e4 := h.out.lB
  have hz := h.out.bel.size
  have hgl := (Array.getElem?_eq_some_iff.1 h.out.ent).1
  have hne : ∀ k, vg.ownBlock = some k → k < B ∧ k ≠ w.heap.size ∧ k ≠ w.heap.size + 1 ∧ k ≠ ge := fun k hk => h.out.own.1 k hk
  have hlo : ∀ k, vg.ownBlock = some k → w.heap.size ≤ k := fun k hk => by
    obtain ⟨_, inner, ho2, _⟩ := h.out.own
    exact own_base ho2 k hk
  have blk : ∀ {k : Nat} {o : Obj}, wr.heap[k]? = some o → (k = w.heap.size ∨ k = w.heap.size + 1 ∨ k = ge) → w3.heap[k]? = some o := fun {k o} hk hor => by
    have hlt := (Array.getElem?_eq_some_iff.1 hk).1
    rw [hg.block k hlt (fun e => by have := hne k e.symm; omega)]; exact hk
  have hbel : Below w.heap.size w w3 := h.out.bel.grown hg hz hlo
  refine ⟨hbel.setCell (by show w.heap.size ≤ ge; omega) _, ?_, ?_, ?_, ?_, e1, Nat.lt_of_lt_of_le hgl hg.size, by simp [World.setCell]⟩
  · rw [heap_setCell_other _ _ _ _ (by show _ ≠ ge; omega)]; exact blk h.out.res (.inl rfl)
  · rw [heap_setCell_same _ _ _ _ _ _ (blk h.out.ent (.inr (.inr rfl)))]; rfl
  · refine Kd.R_far (p := ⟨ge, 2, none⟩) ?_ (fun k hk => by show k ≠ ge; omega) v1
    exact Kd.R_mono (Kd.R_bound ho) (fun k hk => ⟨hk.2.2.1, hk.1⟩)
  · obtain ⟨A, c, hr⟩ := h.out.rdr
    refine ⟨A, c, ?_, ?_, hr.lo⟩
    · rw [heap_setCell_other _ _ _ _ (by show _ ≠ ge; omega)]; exact blk hr.heap (.inr (.inl rfl))
    · have hk : Below w.heap.size wr (w3.setCell ⟨ge, 2, none⟩ v1) := ((Below.refl _ _).grown hg hz hlo).setCell (by show w.heap.size ≤ ge; omega) _
      refine ⟨⟨rfl, hr.byt.rd.2.1, fun h0 => ?_⟩, hr.byt.cap, hr.byt.foot⟩
      obtain ⟨ad, e, hc⟩ := hr.byt.rd.2.2 h0
      refine ⟨ad, e, fun j hj => ?_⟩
      have hf := hr.byt.foot ad e h0
      rw [← hc j hj]
      exact World.cell?_of_block (by rw [add_block]; exact hk.block _ hf)
theorem pAct_is {l l5 l6 l' x5 x6 : List Int} {b b5 b6 b' : Bool} {j : Nat} {args : List (List Int)} (h5 : rcut l b 1 = (x5, l5, b5)) (h6 : rcut l5 b5 4 = (x6, l6, b6)) (hM : pMany x6 129 = j) (hA : pArgs (j - j) args l' b' = pArgs j [] l6 b6) : pAct l b = (⟨numOf x5 % 256, args⟩, l', b') := by
  unfold pAct
  simp only [h5, h6, hM]
  rw [← hA, Nat.sub_self]
  rfl
theorem pGroup_next {N i : Nat} {grp : List S76} {l : List Int} {b : Bool} {R : List S76 × List Int × Bool} (hi : i < N) (h : pGroup (N - i) grp l b = R) : pGroup (N - (i + 1)) (grp ++ [(pAct l b).1]) (pAct l b).2.1 (pAct l b).2.2 = R := by
  rw [← h, show N - i = (N - (i + 1)) + 1 by omega]
  rfl
theorem pArgs_next {N i : Nat} {acc : List (List Int)} {l : List Int} {b : Bool} {R : List (List Int) × List Int × Bool} (hi : i < N) (h : pArgs (N - i) acc l b = R) : pArgs (N - (i + 1)) (acc ++ [(rtext l b).1]) (rtext l b).2.1 (rtext l b).2.2 = R := by
  rw [← h, show N - i = (N - (i + 1)) + 1 by omega]
  rfl
theorem ent_cells {wr : World} {ge T : Nat} {a b c : Value} (h : wr.heap[ge]? = some (.cells #[a, b, c] T (0, 0))) : wr.cell? ⟨ge, 0, none⟩ = some a ∧ wr.cell? ⟨ge, 1, none⟩ = some b ∧ wr.cell? ⟨ge, 2, none⟩ = some c ∧ wr.frozen? ⟨ge, 0, none⟩ = false ∧ wr.frozen? ⟨ge, 1, none⟩ = false ∧ wr.frozen? ⟨ge, 2, none⟩ = false := by
  refine ⟨?_, ?_, ?_, ?_, ?_, ?_⟩ <;> simp [World.cell?, World.frozen?, h]
theorem act_cells {wr : World} {ga T : Nat} {a b : Value} (h : wr.heap[ga]? = some (.cells #[a, b] T (0, 0))) : wr.cell? ⟨ga, 0, none⟩ = some a ∧ wr.cell? ⟨ga, 1, none⟩ = some b ∧ wr.frozen? ⟨ga, 0, none⟩ = false ∧ wr.frozen? ⟨ga, 1, none⟩ = false := by
  refine ⟨?_, ?_, ?_, ?_⟩ <;> simp [World.cell?, World.frozen?, h]
theorem infoAct : (Try.prog.info? 76).map (fun i => (i.zero, i.size, i.bytes)) = some (some (.agg #[.int .i64 0, .slice none 0 0]), 2, 32) := by kernel_rfl
theorem infoRow : (Try.prog.info? 37).map (fun i => (i.zero, i.size, i.bytes)) = some (some (.slice none 0 0), 1, 24) := by kernel_rfl
theorem kb_same {w w1 : World} {Z g : Nat} (h : Below w.heap.size w w1) (hZ : Z ≤ w.heap.size) : Kb w w1 Z g := Kb.below h hZ
theorem POut.start {w wr : World} {seq now : Int} {A : Option Addr} {c : Nat} {l : List Int} {b : Bool} (hb : Below w.heap.size w wr) (hres : wr.heap[w.heap.size]? = some (.cells #[.int .i64 0, .int .u64 0, .slice none 0 0] 33 (0, 0))) (hr : Rdr wr w.heap.size (w.heap.size + 1) A c l b) : POut w (wr.alloc (.cells #[.int .i64 seq, .int .u64 now, .slice none 0 0] 33)) (wr.heap.size + 1) wr.heap.size seq now (.slice none 0 0) [] l b where
  bel := hb.alloc hb.size _
  res := by rw [((Below.refl wr.heap.size wr).alloc (Nat.le_refl _) _).block _ (Array.getElem?_eq_some_iff.1 hres).1]; exact hres
  ent := heap_alloc_new _ _
  own := Kd.R_nil _ _ _ _ _
  rdr := ⟨A, c, hr.below ((Below.refl _ _).alloc (Nat.le_refl _) _)⟩
  ge1 := (Array.getElem?_eq_some_iff.1 hr.heap).1
  geB := Nat.lt_succ_self _
  lB := by simp
/-- What parse answers: the entry's number, time and group, and whether it is one. -/
def record_parse.g (l0 : List Int) : Int × Int × List S76 × List Int × Bool :=
  let q1 := rcut l0 false 8
  let q2 := rcut q1.2.1 q1.2.2 8
  let q3 := rcut q2.2.1 q2.2.2 4
  let g := pGroup (pMany q3.1 65) [] q3.2.1 q3.2.2
  (wrap64 (numOf q1.1), numOf q2.1, g.1, g.2.1, g.2.2)
def record_parse.f (k : Nat) (l0 : List Int) : Option (Int × Int × List S76 × Bool) :=
  let g := record_parse.g l0
  if g.2.2.2.2 = true then some (g.1, g.2.1, g.2.2.1, false) else if g.2.2.2.1.length = 0 then (record_writable.f k g.1 g.2.1 g.2.2.1).bind fun t => some (g.1, g.2.1, g.2.2.1, t) else some (g.1, g.2.1, g.2.2.1, false)
theorem record_parse.f_is {k : Nat} {l0 l : List Int} {s n : Int} {grp : List S76} {b : Bool} (h : record_parse.g l0 = (s, n, grp, l, b)) : record_parse.f k l0 = if b = true then some (s, n, grp, false) else if l.length = 0 then (record_writable.f k s n grp).bind fun t => some (s, n, grp, t) else some (s, n, grp, false) := by
  unfold record_parse.f; rw [h]
theorem record_parse.g_is {l0 l1 l2 l3 x1 x2 x3 : List Int} {b1 b2 b3 : Bool} {N : Nat} {grp : List S76} {l : List Int} {b : Bool} (h1 : rcut l0 false 8 = (x1, l1, b1)) (h2 : rcut l1 b1 8 = (x2, l2, b2)) (h3 : rcut l2 b2 4 = (x3, l3, b3)) (hN : pMany x3 65 = N) (hG : pGroup (N - N) grp l b = pGroup N [] l3 b3) : record_parse.g l0 = (wrap64 (numOf x1), numOf x2, grp, l, b) := by
  unfold record_parse.g
  simp only [h1, h2, h3, hN, ← hG, Nat.sub_self]
  rfl
/-- The result is written. -/
theorem POut.finish {w wr : World} {B ge : Nat} {seq now : Int} {vg : Value} {grp : List S76} {l : List Int} {b : Bool} (h : POut w wr B ge seq now vg grp l b) {w1 : World} (hb : Below wr.heap.size wr w1) (W : World) (hW : W = ((w1.setCell ⟨w.heap.size, 0, none⟩ (.int .i64 seq)).setCell ⟨w.heap.size, 1, none⟩ (.int .u64 now)).setCell ⟨w.heap.size, 2, none⟩ vg) : Kd.R k76 76 W w.heap.size (fun _ => True) vg grp ∧ Below w.heap.size w W ∧ W.cell? ⟨w.heap.size, 0, none⟩ = some (.int .i64 seq) ∧ W.cell? ⟨w.heap.size, 1, none⟩ = some (.int .u64 now) ∧ W.cell? ⟨w.heap.size, 2, none⟩ = some vg := by
  subst hW
  have hres : w1.heap[w.heap.size]? = some (.cells #[.int .i64 0, .int .u64 0, .slice none 0 0] 33 (0, 0)) := by rw [hb.block _ (Array.getElem?_eq_some_iff.1 h.res).1]; exact h.res
  have h2 : (((w1.setCell ⟨w.heap.size, 0, none⟩ (.int .i64 seq)).setCell ⟨w.heap.size, 1, none⟩ (.int .u64 now)).setCell ⟨w.heap.size, 2, none⟩ vg).heap[w.heap.size]? = some (.cells #[.int .i64 seq, .int .u64 now, vg] 33 (0, 0)) := by
    rw [heap_setCell_same _ _ _ _ _ _ (by rw [heap_setCell_same _ _ _ _ _ _ (by rw [heap_setCell_same _ _ _ _ _ _ hres])])]; rfl
  refine ⟨?_, ?_, (ent_cells h2).1, (ent_cells h2).2.1, (ent_cells h2).2.2.1⟩
  · refine Kd.R_mono ?_ (ok := fun k => k ≠ w.heap.size) (fun _ _ => trivial)
    have h0 := Kd.R_mono (Kd.R_below h.own hb) (ok' := fun k => k ≠ w.heap.size) (fun k hk => hk.2.1)
    exact Kd.R_far (p := ⟨w.heap.size, 2, none⟩) (Kd.R_far (p := ⟨w.heap.size, 1, none⟩) (Kd.R_far (p := ⟨w.heap.size, 0, none⟩) h0 (fun _ hk => hk) _) (fun _ hk => hk) _) (fun _ hk => hk) _
  · exact (((h.bel.trans (hb.mono h.bel.size)).setCell (Nat.le_refl _) _).setCell (Nat.le_refl _) _).setCell (Nat.le_refl _) _
set_option maxHeartbeats 4000000 in
set_option maxRecDepth 100000 in
theorem record_parse.calls (k : Nat) (A0 : Option Addr) (c0 : Nat) (l0 : List Int) (r1 r2 : Int) (r3 : List S76) (r4 : Bool) (w : World) (hr0 : Kd.C (Kd.int .u8) w A0 l0.length l0) (hc0 : l0.length ≤ c0) (hf : record_parse.f k l0 = some (r1, r2, r3, r4)) :
    Calls Try.prog 65 #[.slice A0 l0.length c0] w fun e w' => ∃ v2_ : Value, e = .returned (.tuple #[.agg #[.int .i64 r1, .int .u64 r2, v2_], .bool r4]) ∧ Kd.R k76 76 w' w.heap.size (fun _ => True) v2_ r3 ∧ Below w.heap.size w w' := by
  have HF := Aside0.mk hf
  clear hf
  have HB0 := Aside0.mk (C_byt hr0 hc0)
  clear hr0
  obtain ⟨⟨x1, l1, b1⟩, q1⟩ : ∃ q, rcut l0 false 8 = q := ⟨_, rfl⟩
  obtain ⟨⟨x2, l2, b2⟩, q2⟩ : ∃ q, rcut l1 b1 8 = q := ⟨_, rfl⟩
  obtain ⟨⟨x3, l3, b3⟩, q3⟩ : ∃ q, rcut l2 b2 4 = q := ⟨_, rfl⟩
  have HQ1 := Aside0.mk q1; have HQ2 := Aside0.mk q2; have HQ3 := Aside0.mk q3
  clear q1 q2 q3
  go_enter Try.func65, Try.ntmps65
  go_wp2_with fail
  have hn1 := rdr_new HB0.out (w.alloc (.cells #[.int .i64 0, .int .u64 0, .slice none 0 0] 33)) ((Below.refl _ _).alloc (Nat.le_refl _) _)
  rw [show (w.alloc (.cells #[.int .i64 0, .int .u64 0, .slice none 0 0] 33)).heap.size = w.heap.size + 1 by simp] at hn1
  have hb1 : Below w.heap.size w ((w.alloc (.cells #[.int .i64 0, .int .u64 0, .slice none 0 0] 33)).alloc (.cells #[.slice A0 l0.length c0, .bool false] 96)) := ((Below.refl _ _).alloc (Nat.le_refl _) _).alloc (by simp) _
  have hs1 : ((w.alloc (.cells #[.int .i64 0, .int .u64 0, .slice none 0 0] 33)).alloc (.cells #[.slice A0 l0.length c0, .bool false] 96)).heap[w.heap.size]? = some (.cells #[.int .i64 0, .int .u64 0, .slice none 0 0] 33 (0, 0)) := by
    rw [((Below.refl _ (w.alloc (.cells #[.int .i64 0, .int .u64 0, .slice none 0 0] 33))).alloc (Nat.le_refl _) _).block _ (by simp)]
    exact heap_alloc_new _ _
  have HN1 := Aside0.mk hn1; have HB1 := Aside0.mk hb1; have HS1 := Aside0.mk hs1
  clear hn1 hb1 hs1
  refine (take64_walk _ w.heap.size (w.heap.size + 1) A0 c0 l0 false 8 (by omega) HN1.out).mono ?_
  rintro e w1 ⟨rfl, ⟨A1, c1, hr1⟩, hk1⟩
  rw [HQ1.out] at hr1
  rw [HQ1.out]
  have HR1 := Aside0.mk hr1
  have HB2 := Aside0.mk (HB1.out.trans hk1.1)
  have HS2 := Aside0.mk (hk1.2.blk HS1.out (by omega) (by simp))
  clear hr1 hk1 HN1 HB1 HS1
  go_wp2_with fail
  refine (take64_walk _ w.heap.size (w.heap.size + 1) A1 c1 l1 b1 8 (by omega) HR1.out).mono ?_
  rintro e w2 ⟨rfl, ⟨A2, c2, hr2⟩, hk2⟩
  rw [HQ2.out] at hr2
  rw [HQ2.out]
  have HR2 := Aside0.mk hr2
  have HB3 := Aside0.mk (HB2.out.trans hk2.1)
  have HS3 := Aside0.mk (hk2.2.blk HS2.out (by omega) (by simp))
  clear hr2 hk2 HB2 HS2 HR1
  simp only
  have HO1 := Aside0.mk (POut.start (seq := wrap64 (numOf x1)) (now := numOf x2) HB3.out HS3.out HR2.out)
  clear HB3 HS3 HR2
  go_wp2_with fail
  obtain ⟨A3, c3, hr3⟩ := HO1.out.rdr
  refine (take32_walk _ w.heap.size (w.heap.size + 1) A3 c3 l2 b2 4 (by omega) hr3).mono ?_
  rintro e w3 ⟨rfl, hr4, hk4⟩
  rw [HQ3.out] at hr4
  rw [HQ3.out]
  have HO2 := Aside0.mk (HO1.out.kb hk4 hr4)
  clear hr3 hr4 hk4 HO1
  simp only
  generalize w2.heap.size = ge at HO2 ⊢
  have hN := pMany_is x3 65 (by omega)
  obtain ⟨N, hNN⟩ : ∃ N, pMany x3 65 = N := ⟨_, rfl⟩
  rw [hNN] at hN
  have HNN := Aside0.mk hNN
  clear hNN
  have hN1 : (if (65 : Int) < numOf x3 % 4294967296 then 65 else numOf x3 % 4294967296) = (N : Int) := hN.1
  have hN2 := hN.2
  clear hN
  go_wp2_with fail
  obtain ⟨wo, rfl⟩ : ∃ wo : World, wo = w3 := ⟨_, rfl⟩
  have HE := Aside0.mk HO2.out.ge1
  go_loopw [6, 19, 28] (fun v6 v19 v28 wr => ∃ (i B : Nat) (vg : Value) (grp : List S76) (l : List Int) (b : Bool), i ≤ N ∧ v19 = .int .u32 i ∧ POut w wr B ge (wrap64 (numOf x1)) (numOf x2) vg grp l b ∧ pGroup (N - i) grp l b = pGroup N [] l3 b3 ∧ grp.length = i) (fun _ v _ _ => N - (intOf v).toNat)
  case atStart => exact ⟨0, _, _, [], l3, b3, Nat.zero_le _, rfl, HO2.out, rfl, rfl⟩
  case round =>
    obtain ⟨i, B, vg, grp, l, b, hi, rfl, hO, hG, hgl⟩ := hrel
    have HO := Aside0.mk hO.raise; have HG := Aside0.mk hG; have HGL := Aside0.mk hgl
    clear hO hG hgl HO2
    by_cases hlt : i < N
    · obtain ⟨A4, c4, hr5⟩ := HO.out.rdr
      have HR5 := Aside0.mk hr5
      clear hr5
      obtain ⟨⟨x5, l5, b5⟩, q5⟩ : ∃ q, rcut l b 1 = q := ⟨_, rfl⟩
      obtain ⟨⟨x6, l6, b6⟩, q6⟩ : ∃ q, rcut l5 b5 4 = q := ⟨_, rfl⟩
      obtain ⟨M, hMM⟩ : ∃ M, pMany x6 129 = M := ⟨_, rfl⟩
      have hM := pMany_is x6 129 (by omega)
      rw [hMM] at hM
      have HM := Aside0.mk hM
      have HMM := Aside0.mk hMM; have HQ5 := Aside0.mk q5; have HQ6 := Aside0.mk q6
      clear hMM q5 q6 hM hN1
      go_wp2_with fail
      refine (take8_walk _ w.heap.size (w.heap.size + 1) A4 c4 l b 1 (by omega) HR5.out).mono ?_
      rintro e w5 ⟨rfl, hr6, hk6⟩
      rw [HQ5.out] at hr6
      rw [HQ5.out]
      simp only
      have HI := Aside0.mk ((HO.out.kb hk6 hr6).act (numOf x5 % 256))
      have HSZ := Aside0.mk hk6.2.1
      clear hr6 hk6 HR5
      go_wp2_with fail
      obtain ⟨A5, c5, hr7⟩ := HI.out.out.rdr
      refine (take32_walk _ w.heap.size (w.heap.size + 1) A5 c5 l5 b5 4 (by omega) hr7).mono ?_
      rintro e w7 ⟨rfl, hr8, hk8⟩
      rw [HQ6.out] at hr8
      rw [HQ6.out]
      simp only
      have HI2 := Aside0.mk (HI.out.kb hk8 hr8)
      clear hr7 hr8 hk8 HI
      have hga : wr.heap.size ≤ w5.heap.size := HSZ.out
      generalize w5.heap.size = ga at HI2 hga ⊢
      have hM1 : (if (129 : Int) < numOf x6 % 4294967296 then 129 else numOf x6 % 4294967296) = (M : Int) := HM.out.1
      have hM2 := HM.out.2
      have HI3 := Aside0.mk HI2.out
      clear HI2
      go_wp2_with fail
      obtain ⟨wq, rfl⟩ : ∃ wq : World, wq = wr := ⟨_, rfl⟩
      obtain ⟨wi, rfl⟩ : ∃ wi : World, wi = w7 := ⟨_, rfl⟩
      go_loopw [28] (fun v28 wx => ∃ (j : Nat) (va : Value) (args : List (List Int)) (l' : List Int) (b' : Bool), j ≤ M ∧ v28 = .int .u32 j ∧ PInn w wx wq.heap.size ge ga (wrap64 (numOf x1)) (numOf x2) vg grp (numOf x5 % 256) va args l' b' ∧ pArgs (M - j) args l' b' = pArgs M [] l6 b6 ∧ args.length = j) (fun v _ => M - (intOf v).toNat)
      case atStart => exact ⟨0, _, [], l6, b6, Nat.zero_le _, rfl, HI3.out, rfl, rfl⟩
      case round =>
        obtain ⟨j, va, args, l', b', hj, rfl, hP, hA, hal⟩ := hrel
        have HP := Aside0.mk hP; have HA := Aside0.mk hA; have HAL := Aside0.mk hal
        clear hP hA hal HI3
        by_cases hlt2 : j < M
        · have hcell : wr.cell? ⟨ga, 1, none⟩ = some va := by simp [World.cell?, HP.out.act]
          have hdr : Kb wr wr.drew w.heap.size (w.heap.size + 1) := Kb.below (Below.refl _ _).drew HP.out.out.bel.size
          obtain ⟨A6, c6, hr9⟩ := HP.out.out.rdr
          have HR9 := Aside0.mk (hr9.below (Below.refl _ _).drew)
          have HPD := Aside0.mk (HP.out.kb hdr ⟨A6, c6, HR9.out⟩)
          have hvb : ∀ k, va.ownBlock = some k → wq.heap.size ≤ k ∧ k ≠ ga ∧ k < wr.drew.heap.size := fun k hk => by
            have := (Kd.R_bound HPD.out.args).1 k hk
            exact ⟨this.1.1, this.1.2, this.2.2.1⟩
          have HVB := Aside0.mk hvb
          clear hr9 hdr hvb
          go_wp2_with fail
          go_region_law (first | (refine Kd.R_append_step (Kd.slice 5 (Kd.int .u8)) (w0 := w) w.heap.size (by rfl) _ _ 34 37 (.slice none 0 0) 24 rfl Try.underlying34 infoRow rfl (by decide) (by decide) va args (rtext l' b').1 _ (fun k => wq.heap.size ≤ k ∧ k ≠ ga) (fun k => wr.drew.heap.size ≤ k) rfl rfl HMY.out HOK.out HFR.out HP5.out.args HP5.out.out.bel HP5.out.out.bel.size HLN.out ?_; intro v1 w9 ho hb hg hat; obtain ⟨A9, c9, rfl⟩ := Kd.R_slice ho; have hac : w9.heap[ga]? = some (.cells #[.int .i64 (numOf x5 % 256), va] 76 (0, 0)) := (hg.block ga (Array.getElem?_eq_some_iff.1 HP5.out.act).1 (fun e => (HVB.out ga e.symm).2.1 rfl)).trans HP5.out.act; obtain ⟨gA0, gA1, kA0, kA1⟩ := act_cells hac; have HPU := Aside0.mk (HP5.out.push (Below.refl _ _) hg ho); clear ho hb hg hat hac) | (go_simp; go_at_call 71; refine (text_walk _ w.heap.size (w.heap.size + 1) A6 c6 l' b' HR9.out).mono ?_; rintro e5 w5 ⟨vy, rfl, hy, hr5, hk5⟩; obtain ⟨Ay, cy, rfl⟩ := Kd.R_slice hy; have HP5 := Aside0.mk (HPD.out.kb hk5 hr5); have hc5 : w5.cell? ⟨ga, 1, none⟩ = some va := (act_cells HP5.out.act).2.1; have hc6 : (w5.alloc (.cells #[.slice Ay (rtext l' b').1.length cy] 37)).cell? ⟨ga, 1, none⟩ = some va := (act_cells (((((Below.refl _ w5).alloc (Nat.le_refl _) (.cells #[.slice Ay (rtext l' b').1.length cy] 37)).block ga (Array.getElem?_eq_some_iff.1 HP5.out.act).1)).trans HP5.out.act)).2.1; have HMY := Aside0.mk (show (Kd.slice 5 (Kd.int .u8)).M w5 w.heap.size (fun k => wr.drew.heap.size ≤ k) (rtext l' b').1 [.slice Ay (rtext l' b').1.length cy] from ⟨_, rfl, Kd.R_lower (Kd.R_mono (Kd.R_bound hy) (fun k hk => hk.2.1)) HPD.out.out.bel.size⟩); have HOK := Aside0.mk (show ∀ k, wr.drew.heap.size ≤ k → (wq.heap.size ≤ k ∧ k ≠ ga) ∧ some k ≠ va.ownBlock from fun k hk => ⟨⟨Nat.le_trans HPD.out.out.lB hk, fun e => by have := (Array.getElem?_eq_some_iff.1 HPD.out.act).1; omega⟩, fun e => by have := (HVB.out k e.symm).2.2; omega⟩); have HFR := Aside0.mk (show ∀ k, w5.heap.size ≤ k → (wq.heap.size ≤ k ∧ k ≠ ga) from fun k hk => (HOK.out k (Nat.le_trans hk5.2.1 hk)).1); have HLN := Aside0.mk (show (args.length + 1) * 24 ≤ 140737488355328 by have := HAL.out; omega); clear hy hr5 hk5))
          all_goals
            go_wp2_with fail
            go_roundw
            case rel =>
              have hpu := HPU.out
              simp only [List.length_append, List.length_singleton] at hpu
              exact ⟨j + 1, _, _, _, _, by omega, by go_num, hpu, pArgs_next hlt2 HA.out, by rw [List.length_append, HAL.out]; rfl⟩
            case measure => simp [intOf]; omega
        · obtain rfl : j = M := by omega
          obtain ⟨hE0, hE1, hE2, fE0, fE1, fE2⟩ := ent_cells HP.out.out.ent
          obtain ⟨hA0, hA1, fA0, fA1⟩ := act_cells HP.out.act
          go_wp2_with ((with_reducible refine gate_dst (N := 42) rfl ?_); refine halt ?_)
          refine unhalt ?_
          have hlB := HP.out.out.lB
          have hne := HP.out.out.own.1
          at_builtin
          refine Kd.R_append k76 (w0 := w) w.heap.size rfl _ _ 31 76 (.agg #[.int .i64 0, .slice none 0 0]) 32 rfl Try.underlying31 infoAct rfl (by decide) (by decide) vg grp ⟨numOf x5 % 256, args⟩ [.int .i64 (numOf x5 % 256), va] (fun k => k ≠ w.heap.size ∧ k ≠ w.heap.size + 1 ∧ k ≠ ge) (fun k => wq.heap.size ≤ k ∧ k ≠ ga) rfl rfl (k76_mkM _ _ _ _ HP.out.args) ?hokp ?hfresh (Kd.R_mono HP.out.out.own (fun k hk => hk.2)) HP.out.out.bel HP.out.out.bel.size ?hl ?_
          case hokp => intro k hk; have := HP.out.out.ge1; have := HP.out.out.geB; exact ⟨by omega, fun e => by have := hne k e.symm; omega⟩
          case hfresh => intro k hk; have := HP.out.out.ge1; have := HP.out.out.geB; omega
          case hl => have := HGL.out; omega
          intro v1 w9 ho hb hg hat
          obtain ⟨A9, c9, rfl⟩ := Kd.R_slice ho
          have HC := Aside0.mk (HP.out.close hg ho)
          have hge9 : w9.heap[ge]? = some (.cells #[.int .i64 (wrap64 (numOf x1)), .int .u64 (numOf x2), vg] 33 (0, 0)) := by
            rw [hg.block ge (Array.getElem?_eq_some_iff.1 HP.out.out.ent).1 (fun e => by have := hne ge e.symm; omega)]; exact HP.out.out.ent
          obtain ⟨gE0, gE1, gE2, kE0, kE1, kE2⟩ := ent_cells hge9
          clear ho hb hg hat hge9 hne hE0 hE1 hE2 fE0 fE1 fE2 hA0 hA1 fA0 fA1
          go_wp2_with fail
          go_roundw
          case rel =>
            have hc := HC.out
            simp only [List.length_append, List.length_singleton] at hc
            have hact := pAct_is HQ5.out HQ6.out HMM.out HA.out
            have hnx := pGroup_next hlt HG.out
            rw [hact] at hnx
            exact ⟨i + 1, w9.heap.size, _, grp ++ [⟨numOf x5 % 256, args⟩], l', b', by omega, by go_num, hc, hnx, by rw [List.length_append, HGL.out]; rfl⟩
          case measure => simp [intOf]; omega
    · obtain rfl : i = N := by omega
      have HGI := Aside0.mk (record_parse.g_is HQ1.out HQ2.out HQ3.out HNN.out HG.out)
      have hfi := record_parse.f_is (k := k) HGI.out
      rw [HF.out] at hfi
      have HFI := Aside0.mk hfi
      clear hfi
      obtain ⟨hE0, hE1, hE2, fE0, fE1, fE2⟩ := ent_cells HO.out.ent
      obtain ⟨hR0, hR1, hR2, kR0, kR1, kR2⟩ := ent_cells HO.out.res
      obtain ⟨A4, c4, hr5⟩ := HO.out.rdr
      obtain ⟨hD0, hD1, gD0, gD1⟩ := hr5.cells
      obtain ⟨Ag, cg, rfl⟩ := Kd.R_slice HO.out.own
      have hge : w.heap.size ≠ ge := by have := HO.out.ge1; omega
      have HGE := Aside0.mk hge
      clear hge hr5 HG HF
      cases b with
      | true =>
        go_wp2_with fail
        refine wp_region_held_drew (S := fun w' => w'.cell? ⟨ge, 0, none⟩ = some (.int .i64 (wrap64 (numOf x1))) ∧ w'.cell? ⟨ge, 1, none⟩ = some (.int .u64 (numOf x2)) ∧ w'.cell? ⟨ge, 2, none⟩ = some (.slice Ag grp.length cg) ∧ w'.cell? ⟨w.heap.size + 1, 0, none⟩ = some (.slice A4 l.length c4) ∧ w'.cell? ⟨w.heap.size + 1, 1, none⟩ = some (.bool true)) (by kernel_rfl) ⟨hE0, hE1, hE2, hD0, hD1⟩ (fun hHeld => ?_)
        refine tk (i := 0) (v := ?v1) rfl (by kernel_rfl) (fun _ _ _ h => h) ⟨by rfl, ?y1⟩ (by assumption) ?r1
        case y1 => (intro w_ hSw; simp only [getElem_toArray, getElem_cons_zero, getElem_cons_succ]; go_simp; try with_reducible rfl)
        (try simp only [getElem_toArray, getElem_cons_zero, getElem_cons_succ, Act.put, setIfInBounds_toArray, set_cons_zero, set_cons_succ])
        refine tk (i := 1) (v := ?v2) rfl (by kernel_rfl) (fun _ _ _ h => h) ⟨by rfl, ?y2⟩ (by assumption) ?r2
        case y2 => (intro w_ hSw; simp only [getElem_toArray, getElem_cons_zero, getElem_cons_succ]; go_simp; try with_reducible rfl)
        (try simp only [getElem_toArray, getElem_cons_zero, getElem_cons_succ, Act.put, setIfInBounds_toArray, set_cons_zero, set_cons_succ])
        refine tk (i := 2) (v := ?v3) rfl (by kernel_rfl) (fun _ _ _ h => h) ⟨by rfl, ?y3⟩ (by assumption) ?r3
        case y3 => (intro w_ hSw; simp only [getElem_toArray, getElem_cons_zero, getElem_cons_succ]; go_simp; try with_reducible rfl)
        (try simp only [getElem_toArray, getElem_cons_zero, getElem_cons_succ, Act.put, setIfInBounds_toArray, set_cons_zero, set_cons_succ])
        refine tk (i := 3) (v := ?v4) rfl (by kernel_rfl) (fun _ _ _ h => h) ⟨by rfl, ?y4⟩ (by assumption) ?r4
        case y4 => (intro w_ hSw; simp only [getElem_toArray, getElem_cons_zero, getElem_cons_succ]; go_simp; try with_reducible rfl)
        (try simp only [getElem_toArray, getElem_cons_zero, getElem_cons_succ, Act.put, setIfInBounds_toArray, set_cons_zero, set_cons_succ])
        refine tk (i := 4) (v := ?v5) rfl (by kernel_rfl) (fun _ _ _ h => h) ⟨by rfl, ?y5⟩ (by assumption) ?r5
        case y5 => (intro w_ hSw; simp only [getElem_toArray, getElem_cons_zero, getElem_cons_succ]; go_simp; try with_reducible rfl)
        (try simp only [getElem_toArray, getElem_cons_zero, getElem_cons_succ, Act.put, setIfInBounds_toArray, set_cons_zero, set_cons_succ])
        refine tk (i := 5) (v := ?v6) rfl (by kernel_rfl) (fun _ _ _ h => h) ⟨by rfl, ?y6⟩ (by assumption) ?r6
        case y6 => (intro w_ hSw; simp only [getElem_toArray, getElem_cons_zero, getElem_cons_succ]; go_simp; try with_reducible rfl)
        (try simp only [getElem_toArray, getElem_cons_zero, getElem_cons_succ, Act.put, setIfInBounds_toArray, set_cons_zero, set_cons_succ])
        refine tk (i := 6) (v := ?v7) rfl (by kernel_rfl) (fun _ _ _ h => h) ⟨by rfl, ?y7⟩ (by assumption) ?r7
        case y7 => (intro w_ hSw; simp only [getElem_toArray, getElem_cons_zero, getElem_cons_succ]; go_simp; try with_reducible rfl)
        (try simp only [getElem_toArray, getElem_cons_zero, getElem_cons_succ, Act.put, setIfInBounds_toArray, set_cons_zero, set_cons_succ])
        refine wpAnyH_take (i := 7) (v := undef) rfl (by kernel_rfl) (by kernel_rfl) (by kernel_rfl) (fun _ _ _ h => h) (Or.inr ⟨by rfl, rfl⟩) (by assumption) ?_
        (try simp only [getElem_toArray, getElem_cons_zero, getElem_cons_succ, Act.put, setIfInBounds_toArray, set_cons_zero, set_cons_succ])
        refine wpAnyH_take (i := 8) (v := undef) rfl (by kernel_rfl) (by kernel_rfl) (by kernel_rfl) (fun _ _ _ h => h) (Or.inr ⟨by rfl, rfl⟩) (by assumption) ?_
        (try simp only [getElem_toArray, getElem_cons_zero, getElem_cons_succ, Act.put, setIfInBounds_toArray, set_cons_zero, set_cons_succ])
        refine wpAnyH_take (i := 9) (v := undef) rfl (by kernel_rfl) (by kernel_rfl) (by kernel_rfl) (fun _ _ _ h => h) (Or.inr ⟨by rfl, rfl⟩) (by assumption) ?_
        (try simp only [getElem_toArray, getElem_cons_zero, getElem_cons_succ, Act.put, setIfInBounds_toArray, set_cons_zero, set_cons_succ])
        refine wpAnyH_take (i := 10) (v := undef) rfl (by kernel_rfl) (by kernel_rfl) (by kernel_rfl) (fun _ _ _ h => h) (Or.inr ⟨by rfl, rfl⟩) (by assumption) ?_
        (try simp only [getElem_toArray, getElem_cons_zero, getElem_cons_succ, Act.put, setIfInBounds_toArray, set_cons_zero, set_cons_succ])
        refine wpAnyH_take (i := 11) (v := undef) rfl (by kernel_rfl) (by kernel_rfl) (by kernel_rfl) (fun _ _ _ h => h) (Or.inr ⟨by rfl, rfl⟩) (by assumption) ?_
        (try simp only [getElem_toArray, getElem_cons_zero, getElem_cons_succ, Act.put, setIfInBounds_toArray, set_cons_zero, set_cons_succ])
        refine wpAnyH_take (i := 12) (v := undef) rfl (by kernel_rfl) (by kernel_rfl) (by kernel_rfl) (fun _ _ _ h => h) (Or.inr ⟨by rfl, rfl⟩) (by assumption) ?_
        (try simp only [getElem_toArray, getElem_cons_zero, getElem_cons_succ, Act.put, setIfInBounds_toArray, set_cons_zero, set_cons_succ])
        refine tk (i := 13) (v := ?v8) rfl (by kernel_rfl) (fun _ _ _ h => h) ⟨by rfl, ?y8⟩ (by assumption) ?r8
        case y8 => (intro w_ hSw; simp only [getElem_toArray, getElem_cons_zero, getElem_cons_succ]; go_simp; try with_reducible rfl)
        (try simp only [getElem_toArray, getElem_cons_zero, getElem_cons_succ, Act.put, setIfInBounds_toArray, set_cons_zero, set_cons_succ])
        refine tk (i := 14) (v := ?v9) rfl (by kernel_rfl) (fun _ _ _ h => h) ⟨by rfl, ?y9⟩ (by assumption) ?r9
        case y9 => (intro w_ hSw; simp only [getElem_toArray, getElem_cons_zero, getElem_cons_succ]; go_simp; try with_reducible rfl)
        (try simp only [getElem_toArray, getElem_cons_zero, getElem_cons_succ, Act.put, setIfInBounds_toArray, set_cons_zero, set_cons_succ])
        refine wpAnyH_take (i := 15) (v := undef) rfl (by kernel_rfl) (by kernel_rfl) (by kernel_rfl) (fun _ _ _ h => h) (Or.inr ⟨by rfl, rfl⟩) (by assumption) ?_
        (try simp only [getElem_toArray, getElem_cons_zero, getElem_cons_succ, Act.put, setIfInBounds_toArray, set_cons_zero, set_cons_succ])
        refine wpAnyH_take (i := 16) (v := undef) rfl (by kernel_rfl) (by kernel_rfl) (by kernel_rfl) (fun _ _ _ h => h) (Or.inr ⟨by rfl, rfl⟩) (by assumption) ?_
        (try simp only [getElem_toArray, getElem_cons_zero, getElem_cons_succ, Act.put, setIfInBounds_toArray, set_cons_zero, set_cons_succ])
        refine tk (i := 17) (v := ?v10) rfl (by kernel_rfl) (fun _ _ _ h => h) ⟨by rfl, ?y10⟩ (by assumption) ?r10
        case y10 => (intro w_ hSw; simp only [getElem_toArray, getElem_cons_zero, getElem_cons_succ]; go_simp; try with_reducible rfl)
        (try simp only [getElem_toArray, getElem_cons_zero, getElem_cons_succ, Act.put, setIfInBounds_toArray, set_cons_zero, set_cons_succ])
        refine wpAnyH_ready (rs := [18]) (by kernel_rfl) (by simp) ?_
        refine AllReadyH.cons (o := _) rfl (fun K hK => ?_) AllReadyH.nil
        (try simp only [List.getElem_toArray, List.getElem_cons_zero, List.getElem_cons_succ])
        go_simp
        refine hK.out _ _ (by (have hg_ := HGE.out; go_keep)) (fun hHeld => ?_)
        clear hK K
        (try simp only [getElem_toArray, getElem_cons_zero, getElem_cons_succ, Act.put, setIfInBounds_toArray, set_cons_zero, set_cons_succ])
        refine tk (i := 19) (v := ?v11) rfl (by kernel_rfl) (fun _ _ _ h => h) ⟨by rfl, ?y11⟩ (by assumption) ?r11
        case y11 => (intro w_ hSw; simp only [getElem_toArray, getElem_cons_zero, getElem_cons_succ]; go_simp; try with_reducible rfl)
        (try simp only [getElem_toArray, getElem_cons_zero, getElem_cons_succ, Act.put, setIfInBounds_toArray, set_cons_zero, set_cons_succ])
        refine wpAnyH_done (by kernel_rfl) ?_ _
        go_wp2_with fail
        obtain ⟨z1, z2, z3, z4, z5⟩ := HO.out.finish (Below.refl _ _).drew ((((wr.setCell ⟨w.heap.size, 0, none⟩ (.int .i64 (wrap64 (numOf x1)))).setCell ⟨w.heap.size, 1, none⟩ (.int .u64 (numOf x2))).setCell ⟨w.heap.size, 2, none⟩ (.slice Ag grp.length cg)).drew) rfl
        refine bodyPost_ret (v := .tuple #[.agg #[.int .i64 (wrap64 (numOf x1)), .int .u64 (numOf x2), .slice Ag grp.length cg], .bool false]) (by simp [results, Try.results65, go_sem, z3, z4, z5]) rfl ?_
        have hfi := HFI.out
        simp at hfi
        obtain ⟨rfl, rfl, rfl, rfl⟩ := hfi
        exact ⟨_, rfl, z1, z2⟩
      | false =>
        by_cases hl0 : l.length = 0
        · have hl1 : ((l.length : Int) == 0) = true := by simpa using hl0
          have HL0 := Aside0.mk hl0
          clear hl0
          have hfi := HFI.out
          simp only [HL0.out, if_true, Bool.false_eq_true, if_false] at hfi
          obtain ⟨rw_, hw_, he_⟩ := Option.bind_eq_some_iff.1 hfi.symm
          have HW := Aside0.mk hw_; have HE_ := Aside0.mk he_; have HWC := Aside0.mk (Kd.R_reads' (Kd.R_below HO.out.own (Below.refl _ _).drew)).2.2; have HWL := Aside0.mk (Kd.R_reads' HO.out.own).2.1
          clear hfi hw_ he_
          go_wp2_with fail
          refine wp_region_held_drew (S := fun w' => w'.cell? ⟨ge, 0, none⟩ = some (.int .i64 (wrap64 (numOf x1))) ∧ w'.cell? ⟨ge, 1, none⟩ = some (.int .u64 (numOf x2)) ∧ w'.cell? ⟨ge, 2, none⟩ = some (.slice Ag grp.length cg) ∧ w'.cell? ⟨w.heap.size + 1, 0, none⟩ = some (.slice A4 l.length c4) ∧ w'.cell? ⟨w.heap.size + 1, 1, none⟩ = some (.bool false)) (by kernel_rfl) ⟨hE0, hE1, hE2, hD0, hD1⟩ (fun hHeld => ?_)
          refine tk (i := 0) (v := ?v12) rfl (by kernel_rfl) (fun _ _ _ h => h) ⟨by rfl, ?y12⟩ (by assumption) ?r12
          case y12 => (intro w_ hSw; simp only [getElem_toArray, getElem_cons_zero, getElem_cons_succ]; go_simp; try with_reducible rfl)
          (try simp only [getElem_toArray, getElem_cons_zero, getElem_cons_succ, Act.put, setIfInBounds_toArray, set_cons_zero, set_cons_succ])
          refine tk (i := 1) (v := ?v13) rfl (by kernel_rfl) (fun _ _ _ h => h) ⟨by rfl, ?y13⟩ (by assumption) ?r13
          case y13 => (intro w_ hSw; simp only [getElem_toArray, getElem_cons_zero, getElem_cons_succ]; go_simp; try with_reducible rfl)
          (try simp only [getElem_toArray, getElem_cons_zero, getElem_cons_succ, Act.put, setIfInBounds_toArray, set_cons_zero, set_cons_succ])
          refine tk (i := 2) (v := ?v14) rfl (by kernel_rfl) (fun _ _ _ h => h) ⟨by rfl, ?y14⟩ (by assumption) ?r14
          case y14 => (intro w_ hSw; simp only [getElem_toArray, getElem_cons_zero, getElem_cons_succ]; go_simp; try with_reducible rfl)
          (try simp only [getElem_toArray, getElem_cons_zero, getElem_cons_succ, Act.put, setIfInBounds_toArray, set_cons_zero, set_cons_succ])
          refine tk (i := 3) (v := ?v15) rfl (by kernel_rfl) (fun _ _ _ h => h) ⟨by rfl, ?y15⟩ (by assumption) ?r15
          case y15 => (intro w_ hSw; simp only [getElem_toArray, getElem_cons_zero, getElem_cons_succ]; go_simp; try with_reducible rfl)
          (try simp only [getElem_toArray, getElem_cons_zero, getElem_cons_succ, Act.put, setIfInBounds_toArray, set_cons_zero, set_cons_succ])
          refine tk (i := 4) (v := ?v16) rfl (by kernel_rfl) (fun _ _ _ h => h) ⟨by rfl, ?y16⟩ (by assumption) ?r16
          case y16 => (intro w_ hSw; simp only [getElem_toArray, getElem_cons_zero, getElem_cons_succ]; go_simp; try with_reducible rfl)
          (try simp only [getElem_toArray, getElem_cons_zero, getElem_cons_succ, Act.put, setIfInBounds_toArray, set_cons_zero, set_cons_succ])
          refine tk (i := 5) (v := ?v17) rfl (by kernel_rfl) (fun _ _ _ h => h) ⟨by rfl, ?y17⟩ (by assumption) ?r17
          case y17 => (intro w_ hSw; simp only [getElem_toArray, getElem_cons_zero, getElem_cons_succ]; go_simp; try with_reducible rfl)
          (try simp only [getElem_toArray, getElem_cons_zero, getElem_cons_succ, Act.put, setIfInBounds_toArray, set_cons_zero, set_cons_succ])
          refine tk (i := 6) (v := ?v18) rfl (by kernel_rfl) (fun _ _ _ h => h) ⟨by rfl, ?y18⟩ (by assumption) ?r18
          case y18 => (intro w_ hSw; simp only [getElem_toArray, getElem_cons_zero, getElem_cons_succ]; go_simp; try with_reducible rfl)
          (try simp only [getElem_toArray, getElem_cons_zero, getElem_cons_succ, Act.put, setIfInBounds_toArray, set_cons_zero, set_cons_succ])
          refine tk (i := 7) (v := ?v19) rfl (by kernel_rfl) (fun _ _ _ h => h) ⟨by rfl, ?y19⟩ (by assumption) ?r19
          case y19 => (intro w_ hSw; simp only [getElem_toArray, getElem_cons_zero, getElem_cons_succ]; go_simp; try with_reducible rfl)
          (try simp only [getElem_toArray, getElem_cons_zero, getElem_cons_succ, Act.put, setIfInBounds_toArray, set_cons_zero, set_cons_succ])
          refine tk (i := 8) (v := ?v20) rfl (by kernel_rfl) (fun _ _ _ h => h) ⟨by rfl, ?y20⟩ (by assumption) ?r20
          case y20 => (intro w_ hSw; simp only [getElem_toArray, getElem_cons_zero, getElem_cons_succ]; go_simp; try with_reducible rfl)
          (try simp only [getElem_toArray, getElem_cons_zero, getElem_cons_succ, Act.put, setIfInBounds_toArray, set_cons_zero, set_cons_succ])
          refine tk (i := 9) (v := ?v21) rfl (by kernel_rfl) (fun _ _ _ h => h) ⟨by rfl, ?y21⟩ (by assumption) ?r21
          case y21 => (intro w_ hSw; simp only [getElem_toArray, getElem_cons_zero, getElem_cons_succ]; go_simp; try with_reducible rfl)
          (try simp only [getElem_toArray, getElem_cons_zero, getElem_cons_succ, Act.put, setIfInBounds_toArray, set_cons_zero, set_cons_succ])
          refine tk (i := 10) (v := ?v22) rfl (by kernel_rfl) (fun _ _ _ h => h) ⟨by rfl, ?y22⟩ (by assumption) ?r22
          case y22 => (intro w_ hSw; simp only [getElem_toArray, getElem_cons_zero, getElem_cons_succ]; go_simp; try with_reducible rfl)
          (try simp only [getElem_toArray, getElem_cons_zero, getElem_cons_succ, Act.put, setIfInBounds_toArray, set_cons_zero, set_cons_succ])
          refine tk (i := 11) (v := ?v23) rfl (by kernel_rfl) (fun _ _ _ h => h) ⟨by rfl, ?y23⟩ (by assumption) ?r23
          case y23 => (intro w_ hSw; simp only [getElem_toArray, getElem_cons_zero, getElem_cons_succ]; go_simp; try with_reducible rfl)
          (try simp only [getElem_toArray, getElem_cons_zero, getElem_cons_succ, Act.put, setIfInBounds_toArray, set_cons_zero, set_cons_succ])
          refine tk (i := 12) (v := ?v24) rfl (by kernel_rfl) (fun _ _ _ h => h) ⟨by rfl, ?y24⟩ (by assumption) ?r24
          case y24 => (intro w_ hSw; simp only [getElem_toArray, getElem_cons_zero, getElem_cons_succ]; go_simp; try with_reducible rfl)
          (try simp only [getElem_toArray, getElem_cons_zero, getElem_cons_succ, Act.put, setIfInBounds_toArray, set_cons_zero, set_cons_succ])
          refine tk (i := 13) (v := ?v25) rfl (by kernel_rfl) (fun _ _ _ h => h) ⟨by rfl, ?y25⟩ (by assumption) ?r25
          case y25 => (intro w_ hSw; simp only [getElem_toArray, getElem_cons_zero, getElem_cons_succ]; go_simp; try with_reducible rfl)
          (try simp only [getElem_toArray, getElem_cons_zero, getElem_cons_succ, Act.put, setIfInBounds_toArray, set_cons_zero, set_cons_succ])
          refine tk (i := 14) (v := ?v26) rfl (by kernel_rfl) (fun _ _ _ h => h) ⟨by rfl, ?y26⟩ (by assumption) ?r26
          case y26 => (intro w_ hSw; simp only [getElem_toArray, getElem_cons_zero, getElem_cons_succ]; go_simp; try with_reducible rfl)
          (try simp only [getElem_toArray, getElem_cons_zero, getElem_cons_succ, Act.put, setIfInBounds_toArray, set_cons_zero, set_cons_succ])
          refine tk (i := 15) (v := ?v27) rfl (by kernel_rfl) (fun _ _ _ h => h) ⟨by rfl, ?y27⟩ (by assumption) ?r27
          case y27 => (intro w_ hSw; simp only [getElem_toArray, getElem_cons_zero, getElem_cons_succ]; go_simp; try with_reducible rfl)
          (try simp only [getElem_toArray, getElem_cons_zero, getElem_cons_succ, Act.put, setIfInBounds_toArray, set_cons_zero, set_cons_succ])
          refine wpAnyH_ready (rs := [16]) (by kernel_rfl) (by simp) ?_
          refine AllReadyH.cons (o := _) rfl (fun K hK => ?_) AllReadyH.nil
          (try simp only [List.getElem_toArray, List.getElem_cons_zero, List.getElem_cons_succ])
          go_simp; go_at_call 43; (refine (record_writable.calls k (wrap64 (numOf x1)) (numOf x2) Ag cg grp rw_ _ HWC.out HWL.out HW.out).mono ?_); rintro e6 w6 ⟨rfl, hb6⟩; have HB6 := Aside0.mk hb6; clear hb6
          refine hK.out _ _ (by exact ⟨(HB6.out.cell (World.block_lt_of_cell? _ _ hE0)).trans hE0, (HB6.out.cell (World.block_lt_of_cell? _ _ hE1)).trans hE1, (HB6.out.cell (World.block_lt_of_cell? _ _ hE2)).trans hE2, (HB6.out.cell (World.block_lt_of_cell? _ _ hD0)).trans hD0, (HB6.out.cell (World.block_lt_of_cell? _ _ hD1)).trans hD1⟩) (fun hHeld => ?_)
          clear hK K
          (try simp only [getElem_toArray, getElem_cons_zero, getElem_cons_succ, Act.put, setIfInBounds_toArray, set_cons_zero, set_cons_succ])
          refine tk (i := 17) (v := ?v28) rfl (by kernel_rfl) (fun _ _ _ h => h) ⟨by rfl, ?y28⟩ (by assumption) ?r28
          case y28 => (intro w_ hSw; simp only [getElem_toArray, getElem_cons_zero, getElem_cons_succ]; go_simp; try with_reducible rfl)
          (try simp only [getElem_toArray, getElem_cons_zero, getElem_cons_succ, Act.put, setIfInBounds_toArray, set_cons_zero, set_cons_succ])
          have HB7 := Aside0.mk ((((Below.refl wr.heap.size wr).drew)).trans HB6.out)
          have hres6 : w6.heap[w.heap.size]? = some (.cells #[.int .i64 0, .int .u64 0, .slice none 0 0] 33 (0, 0)) := (HB7.out.block _ (Array.getElem?_eq_some_iff.1 HO.out.res).1).trans HO.out.res
          obtain ⟨hS0, hS1, hS2, kS0, kS1, kS2⟩ := ent_cells hres6
          clear hres6
          refine wpAnyH_ready (rs := [18]) (by kernel_rfl) (by simp) ?_
          refine AllReadyH.cons (o := _) rfl (fun K hK => ?_) AllReadyH.nil
          (try simp only [List.getElem_toArray, List.getElem_cons_zero, List.getElem_cons_succ])
          go_simp
          refine hK.out _ _ (by (have hg_ := HGE.out; go_keep)) (fun hHeld => ?_)
          clear hK K
          (try simp only [getElem_toArray, getElem_cons_zero, getElem_cons_succ, Act.put, setIfInBounds_toArray, set_cons_zero, set_cons_succ])
          refine tk (i := 19) (v := ?v29) rfl (by kernel_rfl) (fun _ _ _ h => h) ⟨by rfl, ?y29⟩ (by assumption) ?r29
          case y29 => (intro w_ hSw; simp only [getElem_toArray, getElem_cons_zero, getElem_cons_succ]; go_simp; try with_reducible rfl)
          (try simp only [getElem_toArray, getElem_cons_zero, getElem_cons_succ, Act.put, setIfInBounds_toArray, set_cons_zero, set_cons_succ])
          refine wpAnyH_done (by kernel_rfl) ?_ _
          go_wp2_with fail
          obtain ⟨z1, z2, z3, z4, z5⟩ := HO.out.finish HB7.out (((w6.setCell ⟨w.heap.size, 0, none⟩ (.int .i64 (wrap64 (numOf x1)))).setCell ⟨w.heap.size, 1, none⟩ (.int .u64 (numOf x2))).setCell ⟨w.heap.size, 2, none⟩ (.slice Ag grp.length cg)) rfl
          refine bodyPost_ret (v := .tuple #[.agg #[.int .i64 (wrap64 (numOf x1)), .int .u64 (numOf x2), .slice Ag grp.length cg], .bool rw_]) (by simp [results, Try.results65, go_sem, z3, z4, z5]) rfl ?_
          have hfi := HE_.out
          simp at hfi
          obtain ⟨rfl, rfl, rfl, rfl⟩ := hfi
          exact ⟨_, rfl, z1, z2⟩
        · have hl1 : ((l.length : Int) == 0) = false := by simpa using hl0
          go_wp2_with fail
          refine wp_region_held_drew (S := fun w' => w'.cell? ⟨ge, 0, none⟩ = some (.int .i64 (wrap64 (numOf x1))) ∧ w'.cell? ⟨ge, 1, none⟩ = some (.int .u64 (numOf x2)) ∧ w'.cell? ⟨ge, 2, none⟩ = some (.slice Ag grp.length cg) ∧ w'.cell? ⟨w.heap.size + 1, 0, none⟩ = some (.slice A4 l.length c4) ∧ w'.cell? ⟨w.heap.size + 1, 1, none⟩ = some (.bool false)) (by kernel_rfl) ⟨hE0, hE1, hE2, hD0, hD1⟩ (fun hHeld => ?_)
          refine tk (i := 0) (v := ?v30) rfl (by kernel_rfl) (fun _ _ _ h => h) ⟨by rfl, ?y30⟩ (by assumption) ?r30
          case y30 => (intro w_ hSw; simp only [getElem_toArray, getElem_cons_zero, getElem_cons_succ]; go_simp; try with_reducible rfl)
          (try simp only [getElem_toArray, getElem_cons_zero, getElem_cons_succ, Act.put, setIfInBounds_toArray, set_cons_zero, set_cons_succ])
          refine tk (i := 1) (v := ?v31) rfl (by kernel_rfl) (fun _ _ _ h => h) ⟨by rfl, ?y31⟩ (by assumption) ?r31
          case y31 => (intro w_ hSw; simp only [getElem_toArray, getElem_cons_zero, getElem_cons_succ]; go_simp; try with_reducible rfl)
          (try simp only [getElem_toArray, getElem_cons_zero, getElem_cons_succ, Act.put, setIfInBounds_toArray, set_cons_zero, set_cons_succ])
          refine tk (i := 2) (v := ?v32) rfl (by kernel_rfl) (fun _ _ _ h => h) ⟨by rfl, ?y32⟩ (by assumption) ?r32
          case y32 => (intro w_ hSw; simp only [getElem_toArray, getElem_cons_zero, getElem_cons_succ]; go_simp; try with_reducible rfl)
          (try simp only [getElem_toArray, getElem_cons_zero, getElem_cons_succ, Act.put, setIfInBounds_toArray, set_cons_zero, set_cons_succ])
          refine tk (i := 3) (v := ?v33) rfl (by kernel_rfl) (fun _ _ _ h => h) ⟨by rfl, ?y33⟩ (by assumption) ?r33
          case y33 => (intro w_ hSw; simp only [getElem_toArray, getElem_cons_zero, getElem_cons_succ]; go_simp; try with_reducible rfl)
          (try simp only [getElem_toArray, getElem_cons_zero, getElem_cons_succ, Act.put, setIfInBounds_toArray, set_cons_zero, set_cons_succ])
          refine tk (i := 4) (v := ?v34) rfl (by kernel_rfl) (fun _ _ _ h => h) ⟨by rfl, ?y34⟩ (by assumption) ?r34
          case y34 => (intro w_ hSw; simp only [getElem_toArray, getElem_cons_zero, getElem_cons_succ]; go_simp; try with_reducible rfl)
          (try simp only [getElem_toArray, getElem_cons_zero, getElem_cons_succ, Act.put, setIfInBounds_toArray, set_cons_zero, set_cons_succ])
          refine tk (i := 5) (v := ?v35) rfl (by kernel_rfl) (fun _ _ _ h => h) ⟨by rfl, ?y35⟩ (by assumption) ?r35
          case y35 => (intro w_ hSw; simp only [getElem_toArray, getElem_cons_zero, getElem_cons_succ]; go_simp; try with_reducible rfl)
          (try simp only [getElem_toArray, getElem_cons_zero, getElem_cons_succ, Act.put, setIfInBounds_toArray, set_cons_zero, set_cons_succ])
          refine tk (i := 6) (v := ?v36) rfl (by kernel_rfl) (fun _ _ _ h => h) ⟨by rfl, ?y36⟩ (by assumption) ?r36
          case y36 => (intro w_ hSw; simp only [getElem_toArray, getElem_cons_zero, getElem_cons_succ]; go_simp; try with_reducible rfl)
          (try simp only [getElem_toArray, getElem_cons_zero, getElem_cons_succ, Act.put, setIfInBounds_toArray, set_cons_zero, set_cons_succ])
          refine tk (i := 7) (v := ?v37) rfl (by kernel_rfl) (fun _ _ _ h => h) ⟨by rfl, ?y37⟩ (by assumption) ?r37
          case y37 => (intro w_ hSw; simp only [getElem_toArray, getElem_cons_zero, getElem_cons_succ]; go_simp; try with_reducible rfl)
          (try simp only [getElem_toArray, getElem_cons_zero, getElem_cons_succ, Act.put, setIfInBounds_toArray, set_cons_zero, set_cons_succ])
          refine tk (i := 8) (v := ?v38) rfl (by kernel_rfl) (fun _ _ _ h => h) ⟨by rfl, ?y38⟩ (by assumption) ?r38
          case y38 => (intro w_ hSw; simp only [getElem_toArray, getElem_cons_zero, getElem_cons_succ]; go_simp; try with_reducible rfl)
          (try simp only [getElem_toArray, getElem_cons_zero, getElem_cons_succ, Act.put, setIfInBounds_toArray, set_cons_zero, set_cons_succ])
          refine tk (i := 9) (v := ?v39) rfl (by kernel_rfl) (fun _ _ _ h => h) ⟨by rfl, ?y39⟩ (by assumption) ?r39
          case y39 => (intro w_ hSw; simp only [getElem_toArray, getElem_cons_zero, getElem_cons_succ]; go_simp; try with_reducible rfl)
          (try simp only [getElem_toArray, getElem_cons_zero, getElem_cons_succ, Act.put, setIfInBounds_toArray, set_cons_zero, set_cons_succ])
          refine tk (i := 10) (v := ?v40) rfl (by kernel_rfl) (fun _ _ _ h => h) ⟨by rfl, ?y40⟩ (by assumption) ?r40
          case y40 => (intro w_ hSw; simp only [getElem_toArray, getElem_cons_zero, getElem_cons_succ]; go_simp; try with_reducible rfl)
          (try simp only [getElem_toArray, getElem_cons_zero, getElem_cons_succ, Act.put, setIfInBounds_toArray, set_cons_zero, set_cons_succ])
          refine tk (i := 11) (v := ?v41) rfl (by kernel_rfl) (fun _ _ _ h => h) ⟨by rfl, ?y41⟩ (by assumption) ?r41
          case y41 => (intro w_ hSw; simp only [getElem_toArray, getElem_cons_zero, getElem_cons_succ]; go_simp; try with_reducible rfl)
          (try simp only [getElem_toArray, getElem_cons_zero, getElem_cons_succ, Act.put, setIfInBounds_toArray, set_cons_zero, set_cons_succ])
          refine tk (i := 12) (v := ?v42) rfl (by kernel_rfl) (fun _ _ _ h => h) ⟨by rfl, ?y42⟩ (by assumption) ?r42
          case y42 => (intro w_ hSw; simp only [getElem_toArray, getElem_cons_zero, getElem_cons_succ]; go_simp; try with_reducible rfl)
          (try simp only [getElem_toArray, getElem_cons_zero, getElem_cons_succ, Act.put, setIfInBounds_toArray, set_cons_zero, set_cons_succ])
          refine tk (i := 13) (v := ?v43) rfl (by kernel_rfl) (fun _ _ _ h => h) ⟨by rfl, ?y43⟩ (by assumption) ?r43
          case y43 => (intro w_ hSw; simp only [getElem_toArray, getElem_cons_zero, getElem_cons_succ]; go_simp; try with_reducible rfl)
          (try simp only [getElem_toArray, getElem_cons_zero, getElem_cons_succ, Act.put, setIfInBounds_toArray, set_cons_zero, set_cons_succ])
          refine tk (i := 14) (v := ?v44) rfl (by kernel_rfl) (fun _ _ _ h => h) ⟨by rfl, ?y44⟩ (by assumption) ?r44
          case y44 => (intro w_ hSw; simp only [getElem_toArray, getElem_cons_zero, getElem_cons_succ]; go_simp; try with_reducible rfl)
          (try simp only [getElem_toArray, getElem_cons_zero, getElem_cons_succ, Act.put, setIfInBounds_toArray, set_cons_zero, set_cons_succ])
          refine wpAnyH_take (i := 15) (v := undef) rfl (by kernel_rfl) (by kernel_rfl) (by kernel_rfl) (fun _ _ _ h => h) (Or.inr ⟨by rfl, rfl⟩) (by assumption) ?_
          (try simp only [getElem_toArray, getElem_cons_zero, getElem_cons_succ, Act.put, setIfInBounds_toArray, set_cons_zero, set_cons_succ])
          refine wpAnyH_take (i := 16) (v := undef) rfl (by kernel_rfl) (by kernel_rfl) (by kernel_rfl) (fun _ _ _ h => h) (Or.inr ⟨by rfl, rfl⟩) (by assumption) ?_
          (try simp only [getElem_toArray, getElem_cons_zero, getElem_cons_succ, Act.put, setIfInBounds_toArray, set_cons_zero, set_cons_succ])
          refine tk (i := 17) (v := ?v45) rfl (by kernel_rfl) (fun _ _ _ h => h) ⟨by rfl, ?y45⟩ (by assumption) ?r45
          case y45 => (intro w_ hSw; simp only [getElem_toArray, getElem_cons_zero, getElem_cons_succ]; go_simp; try with_reducible rfl)
          (try simp only [getElem_toArray, getElem_cons_zero, getElem_cons_succ, Act.put, setIfInBounds_toArray, set_cons_zero, set_cons_succ])
          refine wpAnyH_ready (rs := [18]) (by kernel_rfl) (by simp) ?_
          refine AllReadyH.cons (o := _) rfl (fun K hK => ?_) AllReadyH.nil
          (try simp only [List.getElem_toArray, List.getElem_cons_zero, List.getElem_cons_succ])
          go_simp
          refine hK.out _ _ (by (have hg_ := HGE.out; go_keep)) (fun hHeld => ?_)
          clear hK K
          (try simp only [getElem_toArray, getElem_cons_zero, getElem_cons_succ, Act.put, setIfInBounds_toArray, set_cons_zero, set_cons_succ])
          refine tk (i := 19) (v := ?v46) rfl (by kernel_rfl) (fun _ _ _ h => h) ⟨by rfl, ?y46⟩ (by assumption) ?r46
          case y46 => (intro w_ hSw; simp only [getElem_toArray, getElem_cons_zero, getElem_cons_succ]; go_simp; try with_reducible rfl)
          (try simp only [getElem_toArray, getElem_cons_zero, getElem_cons_succ, Act.put, setIfInBounds_toArray, set_cons_zero, set_cons_succ])
          refine wpAnyH_done (by kernel_rfl) ?_ _
          go_wp2_with fail
          obtain ⟨z1, z2, z3, z4, z5⟩ := HO.out.finish (Below.refl _ _).drew ((((wr.setCell ⟨w.heap.size, 0, none⟩ (.int .i64 (wrap64 (numOf x1)))).setCell ⟨w.heap.size, 1, none⟩ (.int .u64 (numOf x2))).setCell ⟨w.heap.size, 2, none⟩ (.slice Ag grp.length cg)).drew) rfl
          refine bodyPost_ret (v := .tuple #[.agg #[.int .i64 (wrap64 (numOf x1)), .int .u64 (numOf x2), .slice Ag grp.length cg], .bool false]) (by simp [results, Try.results65, go_sem, z3, z4, z5]) rfl ?_
          have hfi := HFI.out
          simp [hl0] at hfi
          obtain ⟨rfl, rfl, rfl, rfl⟩ := hfi
          exact ⟨_, rfl, z1, z2⟩
end Go.Proofs.Ytdhkhjfjjbdkgaa.Rec
