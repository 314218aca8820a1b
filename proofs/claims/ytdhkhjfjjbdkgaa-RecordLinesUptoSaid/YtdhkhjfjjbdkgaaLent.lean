/- larderlaw16.lent: an entry whose arguments stand in lists of their own, with marks behind them. -/
import Derived.Test.YtdhkhjfjjbdkgaaMarks
namespace Go.Proofs.Ytdhkhjfjjbdkgaa.Rec
open Go.RowKit Go.Proofs.YtdhkhjfjjbdkgaaW.PrintWords Go.Proofs.YtdhkhjfjjbdkgaaW.PrintLast Go.Proofs.YtdhkhjfjjbdkgaaW.PrintMore
set_option linter.unusedVariables false
set_option linter.unusedSimpArgs false
/-- A lent list: its block, its capacity, what it holds. -/
abbrev LE := Nat × Nat × List Int
def eHd (e : LE) : Value := .slice (some ⟨e.1, 0, none⟩) e.2.2.length e.2.1
def kE : Kd LE := Kd.scalar eHd (fun _ => rfl)
structure SE where
  f0 : Int
  f1 : List LE
def kSE : Kd SE := Kd.iso (Kd.pair (Kd.int .i64) (Kd.slice 37 kE)) (fun x : SE => (x.f0, x.f1))
theorem kSE_mkM (w : World) (base : Nat) (ok : Nat → Prop) (x : SE) {v1 : Value} (g1 : kE.R 37 w base ok v1 x.f1) : kSE.M w base ok x [.int .i64 x.f0, v1] := ⟨[.int .i64 x.f0], [v1], rfl, rfl, ⟨v1, rfl, g1⟩⟩
/-- A row of headers leads on to nothing of its own: its own block alone counts. -/
theorem kE_ok {w : World} {base : Nat} {ok ok' : Nat → Prop} {v : Value} {xs : List LE} (h : kE.R 37 w base ok v xs) (hk : ∀ k, v.ownBlock = some k → ok' k) : kE.R 37 w base ok' v xs := ⟨hk, h.2⟩
def flat (acts : List SE) : List LE := acts.flatMap (·.f1)
/-- What stands while an entry is lent: i acts are done, of the next one j arguments. -/
structure LSt (w wr : World) (seq now : Int) (A0 : Option Addr) (c0 : Nat) (G : List S76) (i j : Nat) (vg va vl : Value) (acts : List SE) (cur : List LE) : Prop where
  bel : Below w.heap.size w wr
  box : wr.heap[w.heap.size]? = some (.cells #[.int .i64 seq, .int .u64 now, .slice A0 G.length c0] 33 (0, 0))
  res : wr.heap[w.heap.size + 1]? = some (.cells #[.int .i64 0, .int .u64 0, .slice none 0 0] 33 (0, 0))
  fc : wr.heap[w.heap.size + 2]? = some (.cells #[.int .i64 seq, .int .u64 now, vg] 33 (0, 0))
  own : kSE.R 76 wr w.heap.size (fun k => some k ≠ vl.ownBlock ∧ some k ≠ va.ownBlock) vg acts
  arg : kE.R 37 wr w.heap.size (fun k => some k ≠ vl.ownBlock) va cur
  lst : kE.R 37 wr w.heap.size (fun _ => True) vl (flat acts ++ cur)
  lent : ∀ e ∈ flat acts ++ cur, Lent wr e.1 e.2.1 e.2.2 ∧ w.heap.size ≤ e.1
  nod : ((flat acts ++ cur).map (·.1)).Nodup
  acs : acts.map (fun a => (a.f0, a.f1.map (·.2.2))) = (G.take i).map (fun a => (a.f0, a.f1))
  cus : ∀ a, G[i]? = some a → cur.map (·.2.2) = a.f1.take j
theorem LSt.below {w wr w1 : World} {seq now : Int} {A0 : Option Addr} {c0 : Nat} {G : List S76} {i j : Nat} {vg va vl : Value} {acts : List SE} {cur : List LE} (h : LSt w wr seq now A0 c0 G i j vg va vl acts cur) (hb : Below wr.heap.size wr w1) : LSt w w1 seq now A0 c0 G i j vg va vl acts cur where
  bel := h.bel.trans (hb.mono h.bel.size)
  box := (hb.block _ (Array.getElem?_eq_some_iff.1 h.box).1).trans h.box
  res := (hb.block _ (Array.getElem?_eq_some_iff.1 h.res).1).trans h.res
  fc := (hb.block _ (Array.getElem?_eq_some_iff.1 h.fc).1).trans h.fc
  own := Kd.R_below h.own hb
  arg := Kd.R_below h.arg hb
  lst := Kd.R_below h.lst hb
  lent := fun e he => ⟨(h.lent e he).1.below hb, (h.lent e he).2⟩
  nod := h.nod
  acs := h.acs
  cus := h.cus
/-- A row's own block is of the row's type. -/
theorem row_type {α : Type} {d : Kd α} {e base : Nat} {w : World} {ok : Nat → Prop} {v : Value} {xs : List α} (h : d.R e w base ok v xs) (k : Nat) (hk : v.ownBlock = some k) : ∃ cells, w.heap[k]? = some (.cells cells e (0, 0)) := by
  obtain ⟨inner, ho⟩ := Kd.R_own h
  exact own_typed ho k hk
theorem type_ne {w : World} {k k' : Nat} {cs cs' : Array Value} {t t' : TypeId} (h : w.heap[k]? = some (.cells cs t (0, 0))) (h' : w.heap[k']? = some (.cells cs' t' (0, 0))) (hne : t ≠ t') : k ≠ k' := by
  rintro rfl
  rw [h] at h'
  injection h' with h'
  injection h' with _ h2
  exact hne h2
/-- A header is appended to the current act's arguments. -/
theorem LSt.pushA {w wr w2 : World} {seq now : Int} {A0 : Option Addr} {c0 : Nat} {G : List S76} {i j : Nat} {vg va vl v1 : Value} {acts : List SE} {cur : List LE} {e : LE} (h : LSt w wr seq now A0 c0 G i j vg va vl acts cur) (hl : Lent wr e.1 e.2.1 e.2.2) (hw : w.heap.size ≤ e.1) (hg : wr.grownBy w2 va.ownBlock) (hat : v1.ownBlock = va.ownBlock ∨ ∃ b, v1.ownBlock = some b ∧ wr.heap.size ≤ b)
    (ho : kE.R 37 w2 w.heap.size (fun _ => True) v1 (cur ++ [e])) :
    Below w.heap.size w w2 ∧ w2.heap[w.heap.size]? = some (.cells #[.int .i64 seq, .int .u64 now, .slice A0 G.length c0] 33 (0, 0)) ∧ w2.heap[w.heap.size + 1]? = some (.cells #[.int .i64 0, .int .u64 0, .slice none 0 0] 33 (0, 0)) ∧ w2.heap[w.heap.size + 2]? = some (.cells #[.int .i64 seq, .int .u64 now, vg] 33 (0, 0)) ∧
    kSE.R 76 w2 w.heap.size (fun k => some k ≠ vl.ownBlock ∧ some k ≠ v1.ownBlock) vg acts ∧ kE.R 37 w2 w.heap.size (fun k => some k ≠ vl.ownBlock) v1 (cur ++ [e]) ∧ kE.R 37 w2 w.heap.size (fun k => some k ≠ v1.ownBlock) vl (flat acts ++ cur) ∧
    (∀ x ∈ flat acts ++ cur, Lent w2 x.1 x.2.1 x.2.2) ∧ Lent w2 e.1 e.2.1 e.2.2 := by
  have hz := h.bel.size
  have hba : ∀ k, va.ownBlock = some k → w.heap.size ≤ k := fun k hk => by obtain ⟨inner, ho2⟩ := Kd.R_own h.arg; exact own_base ho2 k hk
  have blk : ∀ {k : Nat} {cs : Array Value} {t : TypeId}, wr.heap[k]? = some (.cells cs t (0, 0)) → t ≠ 37 → w2.heap[k]? = some (.cells cs t (0, 0)) := fun {k cs t} hk ht => by
    rw [hg.block k (Array.getElem?_eq_some_iff.1 hk).1 (fun e2 => by
      obtain ⟨cells, hc⟩ := row_type h.arg k e2.symm
      exact type_ne hk hc ht rfl)]; exact hk
  have hlv : ∀ k, vl.ownBlock = some k → k < wr.heap.size := fun k hk => by obtain ⟨inner, ho2⟩ := Kd.R_own h.lst; exact own_lt ho2 k hk
  have hne : vl.ownBlock = none ∨ vl.ownBlock ≠ v1.ownBlock := by
    cases hv : vl.ownBlock with
    | none => exact .inl rfl
    | some k =>
      right
      intro e2
      rcases hat with h1 | ⟨b, h1, h2⟩
      · exact h.arg.1 k (by rw [← h1]; exact e2.symm) (by rw [hv])
      · rw [h1] at e2
        have := hlv k hv
        injection e2 with e2
        omega
  have lent2 : ∀ {x : LE}, Lent wr x.1 x.2.1 x.2.2 → Lent w2 x.1 x.2.1 x.2.2 := fun {x} hx => by
    obtain ⟨rest, hb⟩ := hx.heap
    exact ⟨⟨rest, blk hb (by decide)⟩, hx.cap, hx.cmax⟩
  refine ⟨h.bel.grown hg hz hba, blk h.box (by decide), blk h.res (by decide), blk h.fc (by decide), ?_, kE_ok ho (fun k hk e2 => ?_), ?_, fun x hx => lent2 (h.lent x hx).1, lent2 hl⟩
  · have h1 := Kd.R_grown (Kd.R_bound h.own) hg (fun k hk => hk.1.2)
    refine Kd.R_mono h1 (fun k hk => ⟨hk.1.1, fun e2 => ?_⟩)
    rcases hat with h3 | ⟨b, h3, h4⟩
    · exact hk.1.2 (by rw [e2, h3])
    · rw [h3] at e2; injection e2 with e2; have := hk.2.2.1; omega
  · rcases hne with h1 | h1
    · rw [h1] at e2; cases e2
    · exact h1 (by rw [← e2, hk])
  · have h1 := Kd.R_grown (kE_ok h.lst (ok' := fun k => some k ≠ va.ownBlock) (fun k hk e2 => h.arg.1 k e2.symm (by rw [hk]))) hg (fun k hk => hk)
    exact kE_ok h1 (fun k hk e2 => by
      rcases hne with h2 | h2
      · rw [h2] at hk; cases hk
      · exact h2 (by rw [hk, e2]))
/-- Between the two appends: the header stands in the act's arguments, not yet in the list. -/
structure LMid (w wr : World) (seq now : Int) (A0 : Option Addr) (c0 : Nat) (G : List S76) (i j : Nat) (vg va vl : Value) (acts : List SE) (cur : List LE) (e : LE) : Prop where
  bel : Below w.heap.size w wr
  box : wr.heap[w.heap.size]? = some (.cells #[.int .i64 seq, .int .u64 now, .slice A0 G.length c0] 33 (0, 0))
  res : wr.heap[w.heap.size + 1]? = some (.cells #[.int .i64 0, .int .u64 0, .slice none 0 0] 33 (0, 0))
  fc : wr.heap[w.heap.size + 2]? = some (.cells #[.int .i64 seq, .int .u64 now, vg] 33 (0, 0))
  own : kSE.R 76 wr w.heap.size (fun k => some k ≠ vl.ownBlock ∧ some k ≠ va.ownBlock) vg acts
  arg : kE.R 37 wr w.heap.size (fun k => some k ≠ vl.ownBlock) va (cur ++ [e])
  lst : kE.R 37 wr w.heap.size (fun k => some k ≠ va.ownBlock) vl (flat acts ++ cur)
  lent : ∀ x ∈ (flat acts ++ cur) ++ [e], Lent wr x.1 x.2.1 x.2.2 ∧ w.heap.size ≤ x.1
  nod : (((flat acts ++ cur) ++ [e]).map (·.1)).Nodup
  acs : acts.map (fun a => (a.f0, a.f1.map (·.2.2))) = (G.take i).map (fun a => (a.f0, a.f1))
  cus : ∀ a, G[i]? = some a → (cur ++ [e]).map (·.2.2) = a.f1.take (j + 1)
theorem LSt.mid {w wr w2 : World} {seq now : Int} {A0 : Option Addr} {c0 : Nat} {G : List S76} {i j : Nat} {vg va vl v1 : Value} {acts : List SE} {cur : List LE} {e : LE} (h : LSt w wr seq now A0 c0 G i j vg va vl acts cur) (hl : Lent wr e.1 e.2.1 e.2.2) (hw : w.heap.size ≤ e.1) (hnew : ∀ x ∈ flat acts ++ cur, x.1 ≠ e.1) (hg : wr.grownBy w2 va.ownBlock) (hat : v1.ownBlock = va.ownBlock ∨ ∃ b, v1.ownBlock = some b ∧ wr.heap.size ≤ b)
    (ho : kE.R 37 w2 w.heap.size (fun _ => True) v1 (cur ++ [e])) (a : S76) (ha : G[i]? = some a) (hj : a.f1[j]? = some e.2.2) : LMid w w2 seq now A0 c0 G i j vg v1 vl acts cur e := by
  obtain ⟨q1, q2, q3, q4, q5, q6, q7, q8, q9⟩ := h.pushA hl hw hg hat ho
  refine ⟨q1, q2, q3, q4, q5, q6, q7, fun x hx => ?_, ?_, h.acs, fun a' ha' => ?_⟩
  · rcases List.mem_append.1 hx with hx | hx
    · exact ⟨q8 x hx, (h.lent x hx).2⟩
    · rw [List.mem_singleton.1 hx]; exact ⟨q9, hw⟩
  · rw [List.map_append, List.map_cons, List.map_nil]
    refine List.nodup_append.2 ⟨h.nod, by simp, fun x hx y hy e2 => ?_⟩
    obtain ⟨z, hz, rfl⟩ := List.mem_map.1 hx
    rw [List.mem_singleton.1 hy] at e2
    exact hnew z hz e2
  · rw [ha] at ha'
    obtain rfl := Option.some.inj ha'
    rw [List.map_append, h.cus a ha, List.map_cons, List.map_nil, List.take_add_one, hj]; rfl
theorem LMid.below {w wr w1 : World} {seq now : Int} {A0 : Option Addr} {c0 : Nat} {G : List S76} {i j : Nat} {vg va vl : Value} {acts : List SE} {cur : List LE} {e : LE} (h : LMid w wr seq now A0 c0 G i j vg va vl acts cur e) (hb : Below wr.heap.size wr w1) : LMid w w1 seq now A0 c0 G i j vg va vl acts cur e where
  bel := h.bel.trans (hb.mono h.bel.size)
  box := (hb.block _ (Array.getElem?_eq_some_iff.1 h.box).1).trans h.box
  res := (hb.block _ (Array.getElem?_eq_some_iff.1 h.res).1).trans h.res
  fc := (hb.block _ (Array.getElem?_eq_some_iff.1 h.fc).1).trans h.fc
  own := Kd.R_below h.own hb
  arg := Kd.R_below h.arg hb
  lst := Kd.R_below h.lst hb
  lent := fun e he => ⟨(h.lent e he).1.below hb, (h.lent e he).2⟩
  nod := h.nod
  acs := h.acs
  cus := h.cus
theorem LMid.list {w wr w2 : World} {seq now : Int} {A0 : Option Addr} {c0 : Nat} {G : List S76} {i j : Nat} {vg va vl v1 : Value} {acts : List SE} {cur : List LE} {e : LE} (h : LMid w wr seq now A0 c0 G i j vg va vl acts cur e) (hg : wr.grownBy w2 vl.ownBlock) (hat : v1.ownBlock = vl.ownBlock ∨ ∃ b, v1.ownBlock = some b ∧ wr.heap.size ≤ b)
    (ho : kE.R 37 w2 w.heap.size (fun _ => True) v1 ((flat acts ++ cur) ++ [e])) : LSt w w2 seq now A0 c0 G i (j + 1) vg va v1 acts (cur ++ [e]) := by
  have hz := h.bel.size
  have hbl : ∀ k, vl.ownBlock = some k → w.heap.size ≤ k := fun k hk => by obtain ⟨inner, ho2⟩ := Kd.R_own h.lst; exact own_base ho2 k hk
  have blk : ∀ {k : Nat} {cs : Array Value} {t : TypeId}, wr.heap[k]? = some (.cells cs t (0, 0)) → t ≠ 37 → w2.heap[k]? = some (.cells cs t (0, 0)) := fun {k cs t} hk ht => by
    rw [hg.block k (Array.getElem?_eq_some_iff.1 hk).1 (fun e2 => by
      obtain ⟨cells, hc⟩ := row_type h.lst k e2.symm
      exact type_ne hk hc ht rfl)]; exact hk
  have hav : ∀ k, va.ownBlock = some k → k < wr.heap.size := fun k hk => by obtain ⟨inner, ho2⟩ := Kd.R_own h.arg; exact own_lt ho2 k hk
  refine ⟨h.bel.grown hg hz hbl, blk h.box (by decide), blk h.res (by decide), blk h.fc (by decide), ?_, ?_, by rw [← List.append_assoc]; exact ho, fun x hx => ?_, by rw [← List.append_assoc]; exact h.nod, h.acs, h.cus⟩
  · have h1 := Kd.R_grown (Kd.R_bound h.own) hg (fun k hk => hk.1.1)
    refine Kd.R_mono h1 (fun k hk => ⟨fun e2 => ?_, hk.1.2⟩)
    rcases hat with h3 | ⟨b, h3, h4⟩
    · exact hk.1.1 (by rw [e2, h3])
    · rw [h3] at e2; injection e2 with e2; have := hk.2.2.1; omega
  · have h1 := Kd.R_grown h.arg hg (fun k hk => hk)
    refine kE_ok h1 (fun k hk e2 => ?_)
    rcases hat with h3 | ⟨b, h3, h4⟩
    · exact h.arg.1 k hk (by rw [e2, h3])
    · rw [h3] at e2; injection e2 with e2; have := hav k hk; omega
  · rw [← List.append_assoc] at hx
    obtain ⟨hx1, hx2⟩ := h.lent x hx
    obtain ⟨rest, hb⟩ := hx1.heap
    exact ⟨⟨⟨rest, blk hb (by decide)⟩, hx1.cap, hx1.cmax⟩, hx2⟩
/-- An act is done: it stands in the group, and the entry's field is set. -/
theorem LSt.close {w wr w3 : World} {seq now : Int} {A0 : Option Addr} {c0 : Nat} {G : List S76} {i j : Nat} {vg va vl v1 : Value} {acts : List SE} {cur : List LE} (h : LSt w wr seq now A0 c0 G i j vg va vl acts cur) (hg : wr.grownBy w3 vg.ownBlock) (a : S76) (ha : G[i]? = some a) (hj : a.f1.length ≤ j)
    (ho : kSE.R 76 w3 w.heap.size (fun k => some k ≠ vl.ownBlock) v1 (acts ++ [⟨a.f0, cur⟩])) : LSt w (w3.setCell ⟨w.heap.size + 2, 2, none⟩ v1) seq now A0 c0 G (i + 1) 0 v1 (.slice none 0 0) vl (acts ++ [⟨a.f0, cur⟩]) [] := by
  have hz := h.bel.size
  have hbg : ∀ k, vg.ownBlock = some k → w.heap.size ≤ k := fun k hk => by obtain ⟨inner, ho2⟩ := Kd.R_own h.own; exact own_base ho2 k hk
  have blk : ∀ {k : Nat} {cs : Array Value} {t : TypeId}, wr.heap[k]? = some (.cells cs t (0, 0)) → t ≠ 76 → w3.heap[k]? = some (.cells cs t (0, 0)) := fun {k cs t} hk ht => by
    rw [hg.block k (Array.getElem?_eq_some_iff.1 hk).1 (fun e2 => by
      obtain ⟨cells, hc⟩ := row_type h.own k e2.symm
      exact type_ne hk hc ht rfl)]; exact hk
  have hfc := blk h.fc (by decide)
  have far : ∀ {k : Nat} {cs : Array Value} {t : TypeId}, w3.heap[k]? = some (.cells cs t (0, 0)) → k ≠ w.heap.size + 2 → (w3.setCell ⟨w.heap.size + 2, 2, none⟩ v1).heap[k]? = some (.cells cs t (0, 0)) := fun {k cs t} hk hne => by
    rw [heap_setCell_other _ _ _ _ hne]; exact hk
  have hfl : flat (acts ++ [⟨a.f0, cur⟩]) = flat acts ++ cur := by simp [flat]
  have hbel : Below w.heap.size w w3 := h.bel.grown hg hz hbg
  refine ⟨hbel.setCell (by show w.heap.size ≤ w.heap.size + 2; omega) _, far (blk h.box (by decide)) (by omega), far (blk h.res (by decide)) (by omega), ?_, ?_, ?_, ?_, fun x hx => ?_, by rw [hfl, List.append_nil]; exact h.nod, ?_, fun a' _ => by simp⟩
  · rw [heap_setCell_same _ _ _ _ _ _ hfc]; rfl
  · have h1 := Kd.R_types ho hfc (t := 33) (fun q hq => by
      have : q = 76 ∨ q = 37 := by simpa [kSE, Kd.iso, Kd.pair, Kd.slice, kE, Kd.scalar, Kd.int] using hq
      rcases this with rfl | rfl <;> decide)
    exact Kd.R_mono (Kd.R_far (p := ⟨w.heap.size + 2, 2, none⟩) h1 (fun k hk => hk.2) v1) (fun k hk => ⟨hk.1, by simp [Value.ownBlock]⟩)
  · exact Kd.R_nil _ _ _ _ _
  · rw [hfl, List.append_nil]
    have h1 : kE.R 37 w3 w.heap.size (fun _ => True) vl (flat acts ++ cur) := by
      refine Kd.R_mono (Kd.R_grown (kE_ok h.lst (ok' := fun k => some k ≠ vg.ownBlock) (fun k hk e2 => ?_)) hg (fun k hk => hk)) (fun _ _ => trivial)
      obtain ⟨c1, hc1⟩ := row_type h.lst k hk
      obtain ⟨c2, hc2⟩ := row_type h.own k e2.symm
      exact type_ne hc1 hc2 (by decide) rfl
    exact Kd.R_set h1 hfc (fun q hq => by
      have : q = 37 := by simpa [kE, Kd.scalar] using hq
      subst this; decide) 2 v1
  · rw [hfl, List.append_nil] at hx
    obtain ⟨hx1, hx2⟩ := h.lent x hx
    obtain ⟨rest, hb⟩ := hx1.heap
    refine ⟨⟨⟨rest, far (blk hb (by decide)) (type_ne (blk hb (by decide)) hfc (by decide))⟩, hx1.cap, hx1.cmax⟩, hx2⟩
  · have hlt := (List.getElem?_eq_some_iff.1 ha).1
    have hge := (List.getElem?_eq_some_iff.1 ha).2
    rw [List.map_append, h.acs, List.take_succ_eq_append_getElem hlt, List.map_append, hge]
    simp only [List.map_cons, List.map_nil]
    rw [h.cus a ha, List.take_of_length_le hj]
end Go.Proofs.Ytdhkhjfjjbdkgaa.Rec
