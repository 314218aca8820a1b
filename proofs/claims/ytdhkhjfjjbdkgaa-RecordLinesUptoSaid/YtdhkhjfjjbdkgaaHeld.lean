/- What stands of a lent entry while its lists' bytes are turned; larderlaw16.back, walked. -/
import Derived.Test.YtdhkhjfjjbdkgaaLentw
namespace Go.Proofs.Ytdhkhjfjjbdkgaa.Rec
open List Go.RowKit Go.Proofs.YtdhkhjfjjbdkgaaW.PrintWords Go.Proofs.YtdhkhjfjjbdkgaaW.PrintLast Go.Proofs.YtdhkhjfjjbdkgaaW.PrintMore
set_option linter.unusedVariables false
set_option linter.unusedSimpArgs false
theorem C_map {α β : Type} {d : Kd α} {d' : Kd β} {w : World} {A : Option Addr} {n : Nat} {xs : List α} (f : α → β) (hsz : d.sz = d'.sz) (hf : ∀ x ∈ xs, ∀ cs, d.K w x cs → d'.K w (f x) cs) (h : d.C w A n xs) : d'.C w A n (xs.map f) := by
  refine ⟨by rw [List.length_map]; exact h.1, h.2.1, fun hn => ?_⟩
  obtain ⟨ad, e, hc⟩ := h.2.2 hn
  refine ⟨ad, e, fun j p hj => ?_⟩
  rw [List.getElem?_map] at hj
  obtain ⟨x, hx, rfl⟩ := Option.map_eq_some_iff.1 hj
  obtain ⟨c, hs, hr, hcell⟩ := hc j x hx
  exact ⟨c, by rw [hs, hsz], hf x (List.mem_of_getElem? hx) c hr, fun i u hu => by rw [← hsz]; exact hcell i u hu⟩
theorem at_kE {w : World} {A : Option Addr} {n : Nat} {xs : List LE} (h : Kd.C kE w A n xs) (i : Nat) (x : LE) (hx : xs[i]? = some x) : ∃ ad, A = some ad ∧ w.cell? (ad.add i) = some (eHd x) := by
  have hlt := (List.getElem?_eq_some_iff.1 hx).1
  obtain ⟨ad, e, hc⟩ := h.2.2 (by have := h.1; omega)
  obtain ⟨c, hs, hr, hcell⟩ := hc i x hx
  obtain rfl : c = [eHd x] := hr
  have := hcell 0 (eHd x) rfl
  rw [Nat.add_zero] at this
  exact ⟨ad, e, by simpa [kE, Kd.scalar] using this⟩
/-- What the group reads as, under the lists' bytes cur. -/
def viewOf (cur : LE → List Int) (acts : List SE) : List S76 := acts.map (fun a => ⟨a.f0, a.f1.map cur⟩)
structure Held (Z : Nat) (w : World) (vg vl : Value) (acts : List SE) (cur : LE → List Int) : Prop where
  own : kSE.R 76 w Z (fun _ => True) vg acts
  lst : kE.R 37 w Z (fun _ => True) vl (flat acts)
  lent : ∀ x ∈ flat acts, Lent w x.1 x.2.1 (cur x) ∧ Z ≤ x.1 ∧ (cur x).length = x.2.2.length
  nod : ((flat acts).map (·.1)).Nodup
theorem LFin.held {w w' : World} {G : List S76} {vg vl : Value} {acts : List SE} (h : LFin w w' G vg vl acts) : Held w.heap.size w' vg vl acts (·.2.2) :=
  ⟨Kd.R_mono h.own (fun _ _ => trivial), h.lst, fun x hx => ⟨(h.lent x hx).1, (h.lent x hx).2, rfl⟩, h.nod⟩
theorem Held.below {Z : Nat} {w w1 : World} {vg vl : Value} {acts : List SE} {cur : LE → List Int} (h : Held Z w vg vl acts cur) (hb : Below w.heap.size w w1) : Held Z w1 vg vl acts cur :=
  ⟨Kd.R_below h.own hb, Kd.R_below h.lst hb, fun x hx => ⟨(h.lent x hx).1.below hb, (h.lent x hx).2⟩, h.nod⟩
theorem nodup_key {l : List LE} (h : (l.map (·.1)).Nodup) {x y : LE} (hx : x ∈ l) (hy : y ∈ l) (he : x.1 = y.1) : x = y := by
  induction l with
  | nil => cases hx
  | cons z l ih =>
    rw [List.map_cons, List.nodup_cons] at h
    rcases List.mem_cons.1 hx with h1 | h1 <;> rcases List.mem_cons.1 hy with h2 | h2
    · rw [h1, h2]
    · exact absurd (by rw [← h1, he]; exact List.mem_map_of_mem (f := (·.1)) h2) h.1
    · exact absurd (by rw [← h2, ← he]; exact List.mem_map_of_mem (f := (·.1)) h1) h.1
    · exact ih h.2 h1 h2
/-- One of the lists has been written over. -/
theorem Held.into {Z : Nat} {w w1 : World} {vg vl : Value} {acts : List SE} {cur : LE → List Int} (h : Held Z w vg vl acts cur) {y : LE} (hy : y ∈ flat acts) {o : List Int} (hk : KeepBut w w1 y.1 none) (hl : Lent w1 y.1 y.2.1 o) (ho : o.length = y.2.2.length) :
    Held Z w1 vg vl acts (fun x => if x.1 = y.1 then o else cur x) := by
  obtain ⟨rest, hblk⟩ := (h.lent y hy).1.heap
  refine ⟨Kd.R_mono (Kd.R_keep (Kd.R_types h.own hblk (t := 5) (fun q hq => ?_)) hk (fun k hk => hk.2)) (fun _ _ => trivial), Kd.R_mono (Kd.R_keep (Kd.R_types h.lst hblk (t := 5) (fun q hq => ?_)) hk (fun k hk => hk.2)) (fun _ _ => trivial), fun x hx => ?_, h.nod⟩
  · have : q = 76 ∨ q = 37 := by simpa [kSE, Kd.iso, Kd.pair, Kd.slice, kE, Kd.scalar, Kd.int] using hq
    rcases this with rfl | rfl <;> decide
  · have : q = 37 := by simpa [kE, Kd.scalar] using hq
    subst this; decide
  · by_cases e : x.1 = y.1
    · obtain rfl := nodup_key h.nod hx hy e
      simp only [if_true]
      exact ⟨hl, (h.lent x hx).2.1, ho⟩
    · simp only [if_neg e]
      obtain ⟨⟨rest2, hb2⟩, h2, h3⟩ := (h.lent x hx).1
      exact ⟨⟨⟨rest2, (hk.2 _ (Array.getElem?_eq_some_iff.1 hb2).1 e (by simp)).trans hb2⟩, h2, h3⟩, (h.lent x hx).2⟩
theorem Held.view {Z : Nat} {w : World} {vg vl : Value} {acts : List SE} {cur : LE → List Int} (h : Held Z w vg vl acts cur) : ∃ A c, vg = .slice A (viewOf cur acts).length c ∧ (viewOf cur acts).length ≤ c ∧ Kd.C k76 w A (viewOf cur acts).length (viewOf cur acts) := by
  obtain ⟨A, c, e, hl, hC⟩ := Kd.R_reads h.own
  have hlen : (viewOf cur acts).length = acts.length := by simp [viewOf]
  rw [hlen]
  refine ⟨A, c, e, hl, C_map _ rfl (fun a ha cs hK => ?_) hC⟩
  have hfa : ∀ x ∈ a.f1, x ∈ flat acts := fun x hx => List.mem_flatMap.2 ⟨a, ha, hx⟩
  obtain ⟨c1, c2, rfl, hK1, ⟨A1, cc, rfl, hl1, hC1⟩⟩ := hK
  refine ⟨c1, _, rfl, hK1, ⟨A1, cc, by rw [List.length_map], by rw [List.length_map]; exact hl1, ?_⟩⟩
  rw [List.length_map]
  refine C_map cur rfl (fun x hx cs hK => ?_) hC1
  obtain rfl : cs = [eHd x] := hK
  obtain ⟨hL, _, hlx⟩ := h.lent x (hfa x hx)
  exact ⟨_, _, by unfold eHd; rw [hlx], by have := hL.cap; omega, hL.C⟩
theorem viewOf_texts (cur : LE → List Int) (acts : List SE) : (viewOf cur acts).flatMap (·.f1) = (flat acts).map cur := by
  induction acts with
  | nil => rfl
  | cons a acts ih =>
    simp only [viewOf, flat, List.map_cons, List.flatMap_cons, List.map_append] at ih ⊢
    rw [ih]
theorem viewOf_same {acts : List SE} {G : List S76} (h : acts.map (fun a => (a.f0, a.f1.map (·.2.2))) = G.map (fun a => (a.f0, a.f1))) : viewOf (·.2.2) acts = G := by
  have h2 := congrArg (List.map (fun p : Int × List (List Int) => (⟨p.1, p.2⟩ : S76))) h
  simp only [List.map_map, Function.comp_def] at h2
  unfold viewOf
  rw [h2]
  simp
/-- Where the place stands that back has come to. -/
theorem at_place (G : List S76) (i j : Nat) (a : S76) (h : G[i]? = some a) (hj : j < a.f1.length) : (G.flatMap (·.f1))[((G.take i).flatMap (·.f1)).length + j]? = some a.f1[j] := by
  have hlt := (List.getElem?_eq_some_iff.1 h).1
  have hge := (List.getElem?_eq_some_iff.1 h).2
  have e : G = G.take i ++ a :: G.drop (i + 1) := by rw [← hge, ← List.drop_eq_getElem_cons hlt, List.take_append_drop]
  conv => lhs; arg 1; rw [e]
  rw [List.flatMap_append, List.flatMap_cons, List.getElem?_append_right (by omega), Nat.add_sub_cancel_left, List.getElem?_append_left hj, List.getElem?_eq_getElem hj]
theorem place_succ (G : List S76) (i : Nat) (a : S76) (h : G[i]? = some a) : ((G.take (i + 1)).flatMap (·.f1)).length = ((G.take i).flatMap (·.f1)).length + a.f1.length := by
  rw [List.take_add_one, h]
  simp
end Go.Proofs.Ytdhkhjfjjbdkgaa.Rec
