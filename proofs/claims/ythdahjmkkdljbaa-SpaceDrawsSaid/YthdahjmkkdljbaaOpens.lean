/- Data with depth that came in: what they read as, kind by kind, and of what bulk that is. -/
import Derived.Test.YthdahjmkkdljbaaRows
import Derived.Test.YthdahjmkkdljbaaWWords
import Derived.Test.YthdahjmkkdljbaaProg
import Derived.ChangeArms
import Derived.DataReads
namespace Go.Proofs.Ythdahjmkkdljbaa.Sp
open Go.RowKit Go.Proofs.YthdahjmkkdljbaaW.PrintWords
set_option linter.unusedVariables false
set_option linter.unusedSimpArgs false
/-- Whatever a datum of type t reads as is of the kind d: it is G, and its measure b is at most its bulk. -/
def Opens {α : Type} (d : Kd α) (t : TypeId) (G : α → Prop) (b : α → Nat) : Prop :=
  ∀ (H : Type) (enc : TypeId × Value → H) (W : World) (base fuel : Nat) (spare : Nat → Bool) (held : Bool) (cs : List Value) (x : DataW H) (ps : List MemPlace), DataW.trod enc Try.prog W base spare held fuel t cs = some (x, ps) → ∃ a : α, d.K W a cs ∧ G a ∧ b a ≤ Rows.uptoBulk x
theorem opens_int {t : TypeId} {k : IntKind} (hu : Try.prog.underlying t = some (.int k)) : Opens (Kd.int k) t (fun n => (Lit.int k n).wf = true) (fun _ => 1) := by
  intro H enc W base fuel spare held cs x ps h
  obtain ⟨n, rfl, hx, hw⟩ := DataW.trod_int hu h
  obtain ⟨rfl, rfl⟩ := Prod.mk.inj hx
  exact ⟨n, rfl, hw, by cases k <;> simp [Rows.uptoBulk]⟩
theorem bulk_all {H : Type} {α : Type} (b : α → Nat) : ∀ (ds : List (DataW H)) (xs : List α), xs.length = ds.length → (∀ (i : Nat) (x : α) (d : DataW H), xs[i]? = some x → ds[i]? = some d → b x ≤ Rows.uptoBulk d) → (xs.map b).sum ≤ Rows.uptoBulkAll ds
  | [], [], _, _ => by simp [Rows.uptoBulkAll]
  | [], x :: xs, h, _ => by simp at h
  | d :: ds, [], h, _ => by simp at h
  | d :: ds, x :: xs, h, hb => by
    have h1 := hb 0 x d rfl rfl
    have h2 := bulk_all b ds xs (by simpa using h) (fun i y e hy he => hb (i + 1) y e (by simpa using hy) (by simpa using he))
    simp only [List.map_cons, List.sum_cons, Rows.uptoBulkAll]
    omega
/-- A choice for each element of a list. -/
theorem choose_all {α : Type} (n : Nat) (p : Nat → α → Prop) (h : ∀ i, i < n → ∃ a, p i a) : ∃ xs : List α, xs.length = n ∧ ∀ i a, xs[i]? = some a → p i a := by
  induction n with
  | zero => exact ⟨[], rfl, fun i a h => by simp at h⟩
  | succ n ih =>
    obtain ⟨xs, hl, hx⟩ := ih (fun i hi => h i (by omega))
    obtain ⟨a, ha⟩ := h n (by omega)
    refine ⟨xs ++ [a], by simp [hl], fun i b hb => ?_⟩
    by_cases hi : i < n
    · rw [List.getElem?_append_left (by omega)] at hb; exact hx i b hb
    · have : i < (xs ++ [a]).length := (List.getElem?_eq_some_iff.1 hb).1
      simp at this
      obtain rfl : i = n := by omega
      rw [List.getElem?_append_right (by omega), hl, Nat.sub_self] at hb
      simp at hb
      subst hb; exact ha
theorem opens_slice {α : Type} {d : Kd α} {t e : TypeId} {G : α → Prop} {b : α → Nat} (hu : Try.prog.underlying t = some (.slice e)) (hsz : Try.prog.cellsOf e = d.sz) (hd : Opens d e G b) :
    Opens (Kd.slice e d) t (fun xs => ∀ x ∈ xs, G x) (fun xs => (xs.map b).sum + 1) := by
  intro H enc W base fuel spare held cs x ps h
  rcases DataW.trod_slice hu h with ⟨rfl, hx⟩ | ⟨a, len, cap, elems, rest, n, rfl, rfl, hx, hb, hl, hm, hlen, hel, hsp, hns⟩
  · obtain ⟨rfl, rfl⟩ := Prod.mk.inj hx
    exact ⟨[], ⟨none, 0, rfl, Nat.le_refl _, rfl, by simp, fun h => absurd h (by simp)⟩, (by simp), by simp [Rows.uptoBulk]⟩
  · have hm2 : len ≤ 9223372036854775807 := Nat.le_trans hl hm
    clear hm hsp hns
    have e1 := congrArg Prod.fst hx
    dsimp only at e1
    subst e1
    clear hx
    have each : ∀ i, i < len → ∃ y : α, (∃ c, c.length = d.sz ∧ d.K W y c ∧ ∀ j u, c[j]? = some u → W.cell? (a.add (i * d.sz + j)) = some u) ∧ G y ∧ ∀ dd, (elems.map (·.1))[i]? = some dd → b y ≤ Rows.uptoBulk dd := fun i hi => by
      have h1 := hel i hi
      have hlt : i < elems.length := by omega
      rw [List.getElem?_eq_getElem hlt, hsz] at h1
      obtain ⟨c, hc, ht⟩ := Option.bind_eq_some_iff.1 h1
      obtain ⟨y, hy, hg, hbk⟩ := hd H enc W base n spare held c elems[i].1 elems[i].2 ht
      obtain ⟨_, hcl, hcell⟩ := World.cells?_some hc
      refine ⟨y, ⟨c, hcl, hy, fun j u hj => ?_⟩, hg, fun dd hdd => ?_⟩
      · have hjl : j < d.sz := by have := (List.getElem?_eq_some_iff.1 hj).1; omega
        rw [← hj, ← hcell j hjl]
        have : ∀ (A : Addr) (p q : Nat), (A.add p).add q = A.add (p + q) := fun A p q => by
          unfold Addr.add
          by_cases h1 : q = 0
          · subst h1; simp
          · by_cases h2 : p = 0
            · subst h2; simp [h1]
            · simp [h1, h2, Nat.add_assoc]
        rw [this]
      · rw [List.getElem?_map, List.getElem?_eq_getElem hlt] at hdd
        obtain rfl := Option.some.inj hdd
        exact hbk
    obtain ⟨xs, hxl, hxs⟩ := choose_all len _ each
    refine ⟨xs, ⟨some a, cap, by rw [hxl], by omega, rfl, by rw [hxl]; exact hm2, fun h0 => ⟨a, rfl, fun j p hj => (hxs j p hj).1⟩⟩, fun y hy => ?_, ?_⟩
    · obtain ⟨i, hi⟩ := List.getElem?_of_mem hy
      exact (hxs i y hi).2.1
    · have := bulk_all b (elems.map (·.1)) xs (by simp [hxl, hlen]) (fun i y dd hy hdd => (hxs i y hy).2.2 dd hdd)
      simp only [Rows.uptoBulk]
      omega
/-- The fields from a place on. -/
def OpensAt {α : Type} (d : Kd α) (off : Nat) (fs : List Field) (G : α → Prop) (b : α → Nat) : Prop :=
  ∀ (H : Type) (enc : TypeId × Value → H) (W : World) (base fuel : Nat) (spare : Nat → Bool) (held : Bool) (cs : List Value) (xs : List (DataW H × List MemPlace)), xs.length = fs.length → cs.length = off + d.sz → (∀ (i : Nat) (f : Field), fs[i]? = some f → DataW.trod enc Try.prog W base spare held fuel f.type ((cs.drop f.offset).take (Try.prog.cellsOf f.type)) = xs[i]?) → ∃ a : α, d.K W a (cs.drop off) ∧ G a ∧ b a ≤ Rows.uptoBulkAll (xs.map (·.1))
theorem opensAt_last {α : Type} {d : Kd α} {off : Nat} {f : Field} {G : α → Prop} {b : α → Nat} (ho : f.offset = off) (hsz : Try.prog.cellsOf f.type = d.sz) (hd : Opens d f.type G b) : OpensAt d off [f] G b := by
  intro H enc W base fuel spare held cs xs hl hcs h
  obtain ⟨y, rfl⟩ : ∃ y, xs = [y] := by
    match xs, hl with
    | [y], _ => exact ⟨y, rfl⟩
  have h1 := h 0 f rfl
  rw [ho, hsz, List.take_of_length_le (by rw [List.length_drop]; omega)] at h1
  obtain ⟨a, hk, hg, hb⟩ := hd H enc W base fuel spare held _ y.1 y.2 h1
  exact ⟨a, hk, hg, by simp only [List.map_cons, List.map_nil, Rows.uptoBulkAll]; omega⟩
theorem opensAt_cons {α β : Type} {d : Kd α} {d2 : Kd β} {off : Nat} {f : Field} {fs : List Field} {G : α → Prop} {G2 : β → Prop} {b : α → Nat} {b2 : β → Nat} (ho : f.offset = off) (hsz : Try.prog.cellsOf f.type = d.sz) (hd : Opens d f.type G b) (h2 : OpensAt d2 (off + d.sz) fs G2 b2) :
    OpensAt (Kd.pair d d2) off (f :: fs) (fun x => G x.1 ∧ G2 x.2) (fun x => b x.1 + b2 x.2) := by
  intro H enc W base fuel spare held cs xs hl hcs h
  obtain ⟨y, ys, rfl⟩ : ∃ y ys, xs = y :: ys := by
    match xs, hl with
    | y :: ys, _ => exact ⟨y, ys, rfl⟩
  have hp : (Kd.pair d d2).sz = d.sz + d2.sz := rfl
  rw [hp] at hcs
  have h1 := h 0 f rfl
  rw [ho, hsz] at h1
  obtain ⟨a, hk, hg, hb⟩ := hd H enc W base fuel spare held _ y.1 y.2 h1
  obtain ⟨a2, hk2, hg2, hb2⟩ := h2 H enc W base fuel spare held cs ys (by simpa using hl) (by omega) (fun i f' hf => by have := h (i + 1) f' (by simpa using hf); simpa using this)
  refine ⟨(a, a2), ⟨(cs.drop off).take d.sz, cs.drop (off + d.sz), ?_, hk, hk2⟩, ⟨hg, hg2⟩, by simp only [List.map_cons, Rows.uptoBulkAll]; omega⟩
  rw [← List.drop_drop]; exact (List.take_append_drop _ _).symm
theorem opens_struct {α β : Type} {d : Kd α} {t : TypeId} {fs : Array Field} {G : α → Prop} {b : α → Nat} (hu : Try.prog.underlying t = some (.struct fs)) (hsz : Try.prog.cellsOf t = d.sz) (h : OpensAt d 0 fs.toList G b) (f : β → α) (g : α → β) (hfg : ∀ a, f (g a) = a) :
    Opens (Kd.iso d f) t (fun x => G (f x)) (fun x => b (f x) + 1) := by
  intro H enc W base fuel spare held cs x ps ht
  obtain ⟨xs, n, rfl, hx, hl, hxl, hel⟩ := DataW.trod_struct hu ht
  obtain ⟨rfl, rfl⟩ := Prod.mk.inj hx
  obtain ⟨a, hk, hg, hb⟩ := h H enc W base n spare held cs xs (by simpa using hxl) (by rw [hl, hsz]; omega) (fun i f' hf => hel i f' (by simpa using hf))
  refine ⟨g a, ?_, ?_, ?_⟩
  · show d.K W (f (g a)) cs
    rw [hfg]; simpa using hk
  · show G (f (g a)); rw [hfg]; exact hg
  · show b (f (g a)) + 1 ≤ _; rw [hfg]; simp only [Rows.uptoBulk]; omega
end Go.Proofs.Ythdahjmkkdljbaa.Sp
