import Derived.Test.YtglglknhifjbaaaGreatDoorMap
namespace Go.Proofs.YtglglknhifjbaaaGreatDoor.Sp
set_option linter.unusedVariables false
set_option linter.unusedSimpArgs false
structure Node where
  kind : Nat
  refs : List Nat
  raws : List Nat
deriving DecidableEq
def Node.size (n : Node) : Nat := 1 + n.refs.length + n.raws.length
structure Node.Ok (n : Node) : Prop where
  sh : Shape n.kind n.refs.length n.raws.length
  lt : ∀ x ∈ n.raws, x < 18446744073709551616
def Node.head (n : Node) : Nat := headW n.kind n.refs.length n.raws.length
def posN (l : List Nat) (k : Nat) : Nat := 1 + (l.take k).sum
theorem posOf_eq : ∀ (l : List AO) (k : Nat), posOf l k = posN (l.map osize) k
  | l, 0 => by rw [pos_zero]; rfl
  | [], k + 1 => by simp [posOf, posN]
  | o :: l, k + 1 => by
    show osize o + posOf l k = _
    rw [posOf_eq l k]; simp [posN]; omega
structure Gr where
  node : Nat → Node
  next : Nat
  hands : List (Nat × Nat)
  limit : Nat
def Gr.sz (G : Gr) (i : Nat) : Nat := (G.node i).size
def plOf (G : Gr) (hs : List Nat) (bs : List (Option Nat)) (i : Nat) : Nat :=
  if i ∈ hs then posN (hs.map G.sz) (hs.idxOf i) else if some i ∈ bs then 9223372036854775808 + bs.idxOf (some i) else 0
abbrev Live (hs : List Nat) (bs : List (Option Nat)) (i : Nat) : Prop := i ∈ hs ∨ some i ∈ bs
structure Lay (G : Gr) (hs : List Nat) (bs : List (Option Nat)) : Prop where
  nx : 1 ≤ G.next
  lo : ∀ i, Live hs bs i → 1 ≤ i ∧ i < G.next
  hnd : hs.Nodup
  bnd : ∀ (s t i : Nat), bs[s]? = some (some i) → bs[t]? = some (some i) → s = t
  dis : ∀ i, i ∈ hs → some i ∉ bs
  ok : ∀ i, Live hs bs i → (G.node i).Ok
  small : ∀ i, i ∈ hs → G.sz i ≤ 64
  big : ∀ i, some i ∈ bs → 64 < G.sz i
  closed : ∀ i, Live hs bs i → ∀ j ∈ (G.node i).refs, j = 0 ∨ Live hs bs j
  hlive : ∀ p ∈ G.hands, p.2 = 0 ∨ Live hs bs p.2
  hkeys : (G.hands.map Prod.fst).Nodup
def encI (G : Gr) (pl : Nat → Nat) (i : Nat) : AO := ((G.node i).head, (G.node i).refs.map pl ++ (G.node i).raws)
theorem enc_size (G : Gr) (pl : Nat → Nat) (i : Nat) : osize (encI G pl i) = G.sz i := by
  simp [encI, osize, Gr.sz, Node.size]; omega
theorem sz_pos (G : Gr) (i : Nat) : 1 ≤ G.sz i := by unfold Gr.sz Node.size; omega
def bsum (G : Gr) (bs : List (Option Nat)) : Nat := (bs.map fun o => match o with | some i => G.sz i + 1 | none => 0).sum
structure Hands (R : List (Bool × Nat)) (hands : List (Nat × Nat)) (pl : Nat → Nat → Nat) : Prop where
  at_ : ∀ k i, (k, i) ∈ hands → R[k]? = some (true, pl k i)
  used : ∀ k v, R[k]? = some (true, v) → ∃ i, (k, i) ∈ hands
  len : R.length ≤ 1000
structure Rep (G : Gr) (hs : List Nat) (bs : List (Option Nat)) (M : HM) : Prop extends Lay G hs bs where
  half : M.half.objs = hs.map (encI G (plOf G hs bs))
  blocks : M.blocks = bs.map (Option.map fun i => ⟨G.sz i + 1, [encI G (plOf G hs bs) i]⟩)
  reached : M.reached = List.replicate bs.length false
  roots : Hands M.roots G.hands (fun _ => plOf G hs bs)
  nroots : M.nroots = G.hands.length
  large : M.large = bsum G bs
  since : M.since ≤ 4194304
  kept : M.kept ≤ 1048576
  s1 : 64 ≤ M.half.size
  s2 : M.spare.size = M.half.size
  s3 : 2 * M.half.size + M.large ≤ M.limit
  s4 : M.limit ≤ 1048576
  lim : M.limit = G.limit
  blen : bs.length ≤ 65536
section place
variable {G : Gr} {hs : List Nat} {bs : List (Option Nat)} {i : Nat}
theorem idx_get {α : Type} [BEq α] [LawfulBEq α] (l : List α) (k : Nat) (h : k < l.length) (nd : l.Nodup) : l.idxOf l[k] = k := List.Nodup.idxOf_getElem nd k h
theorem mem_get {α : Type} {l : List α} {a : α} (h : a ∈ l) : ∃ k, ∃ h : k < l.length, l[k] = a := List.mem_iff_getElem.1 h
theorem pl_small (nd : hs.Nodup) (k : Nat) (h : k < hs.length) : plOf G hs bs hs[k] = posN (hs.map G.sz) k := by
  unfold plOf
  rw [if_pos (List.getElem_mem h), idx_get hs k h nd]
theorem pl_big (hi : i ∉ hs) (s : Nat) (bnd : ∀ (s t i : Nat), bs[s]? = some (some i) → bs[t]? = some (some i) → s = t) (h : bs[s]? = some (some i)) : plOf G hs bs i = 9223372036854775808 + s := by
  unfold plOf
  have hm : some i ∈ bs := List.mem_of_getElem? h
  rw [if_neg hi, if_pos hm]
  have hlt : bs.idxOf (some i) < bs.length := List.idxOf_lt_length_iff.2 hm
  have h2 : bs[bs.idxOf (some i)]? = some (some i) := by rw [List.getElem?_eq_getElem hlt, List.getElem_idxOf hlt]
  rw [bnd _ _ i h2 h]
theorem pl_none (h1 : i ∉ hs) (h2 : some i ∉ bs) : plOf G hs bs i = 0 := by unfold plOf; rw [if_neg h1, if_neg h2]
theorem posN_pos (l : List Nat) (k : Nat) : 1 ≤ posN l k := by unfold posN; omega
theorem posN_succ (l : List Nat) (k : Nat) (h : k < l.length) : posN l (k + 1) = posN l k + l[k] := by
  unfold posN
  rw [List.take_succ_eq_append_getElem h, List.sum_append]; simp; omega
theorem posN_mono (l : List Nat) (j k : Nat) (h : j ≤ k) : posN l j ≤ posN l k := by
  unfold posN
  have : (l.take k).take j = l.take j := by rw [List.take_take, Nat.min_eq_left h]
  have e : (l.take k).sum = (l.take j).sum + ((l.take k).drop j).sum := by
    rw [← this]
    conv => lhs; rw [← List.take_append_drop j (l.take k), List.sum_append]
  omega
theorem posN_inj (l : List Nat) (hp : ∀ x ∈ l, 1 ≤ x) (j k : Nat) (hj : j < l.length) (hk : k < l.length) (h : posN l j = posN l k) : j = k := by
  rcases Nat.lt_trichotomy j k with hlt | e | hlt
  · have h1 := posN_succ l j hj
    have h2 := posN_mono l (j + 1) k hlt
    have := hp _ (List.getElem_mem hj)
    omega
  · exact e
  · have h1 := posN_succ l k hk
    have h2 := posN_mono l (k + 1) j hlt
    have := hp _ (List.getElem_mem hk)
    omega
theorem posN_le (l : List Nat) (k : Nat) : posN l k ≤ 1 + l.sum := by
  have := posN_mono l k (max k l.length) (by omega)
  unfold posN at *
  rw [List.take_of_length_le (show l.length ≤ max k l.length by omega)] at this
  exact this
theorem posN_app (l r : List Nat) (k : Nat) (h : k ≤ l.length) : posN (l ++ r) k = posN l k := by
  unfold posN; rw [List.take_append_of_le_length h]
theorem pl_app (i : Nat) (hi : i ∈ hs) (r : List Nat) : plOf G (hs ++ r) bs i = plOf G hs bs i := by
  unfold plOf
  rw [if_pos (List.mem_append_left _ hi), if_pos hi, List.idxOf_append, if_pos hi, List.map_append, posN_app]
  rw [List.length_map]
  exact Nat.le_of_lt (List.idxOf_lt_length_iff.2 hi)
theorem Lay.zero (L : Lay G hs bs) : plOf G hs bs 0 = 0 := by
  refine pl_none (fun h => ?_) (fun h => ?_)
  · have := L.lo 0 (.inl h); omega
  · have := L.lo 0 (.inr h); omega
theorem Lay.inj (L : Lay G hs bs) (i j : Nat) (hi : Live hs bs i) (hj : Live hs bs j) (hb : (hs.map G.sz).sum < 9223372036854775807) (h : plOf G hs bs i = plOf G hs bs j) : i = j := by
  have cs : ∀ i, i ∈ hs → ∃ k, ∃ h : k < hs.length, hs[k] = i ∧ plOf G hs bs i = posN (hs.map G.sz) k ∧ plOf G hs bs i < 9223372036854775808 := fun i hi => by
    obtain ⟨k, hk, e⟩ := mem_get hi
    refine ⟨k, hk, e, by rw [← e]; exact pl_small L.hnd k hk, ?_⟩
    rw [← e, pl_small L.hnd k hk]
    have := posN_le (hs.map G.sz) k
    omega
  have cb : ∀ i, some i ∈ bs → ∃ s, bs[s]? = some (some i) ∧ plOf G hs bs i = 9223372036854775808 + s := fun i hi => by
    obtain ⟨s, hs1, e⟩ := mem_get hi
    have e2 : bs[s]? = some (some i) := by rw [List.getElem?_eq_getElem hs1, e]
    exact ⟨s, e2, pl_big (fun h => L.dis i h hi) s L.bnd e2⟩
  rcases hi with hi | hi <;> rcases hj with hj | hj
  · obtain ⟨k, hk, e, e2, _⟩ := cs i hi
    obtain ⟨k', hk', e', e2', _⟩ := cs j hj
    have : k = k' := posN_inj (hs.map G.sz) (fun x hx => by obtain ⟨y, _, rfl⟩ := List.mem_map.1 hx; exact sz_pos G y) k k' (by simpa using hk) (by simpa using hk') (by rw [← e2, ← e2', h])
    subst this
    rw [← e, ← e']
  · obtain ⟨k, hk, e, e2, l2⟩ := cs i hi
    obtain ⟨s, _, e3⟩ := cb j hj
    omega
  · obtain ⟨k, hk, e, e2, l2⟩ := cs j hj
    obtain ⟨s, _, e3⟩ := cb i hi
    omega
  · obtain ⟨s, h1, e1⟩ := cb i hi
    obtain ⟨t, h2, e2⟩ := cb j hj
    have : s = t := by omega
    subst this
    rw [h1] at h2
    injection h2 with h2; injection h2
theorem Lay.ne0 (L : Lay G hs bs) (i : Nat) (hi : Live hs bs i) : plOf G hs bs i ≠ 0 := by
  rcases hi with hi | hi
  · obtain ⟨k, hk, e⟩ := mem_get hi
    rw [← e, pl_small L.hnd k hk]
    have := posN_pos (hs.map G.sz) k; omega
  · obtain ⟨s, hs1, e⟩ := mem_get hi
    rw [pl_big (fun h => L.dis i h hi) s L.bnd (by rw [List.getElem?_eq_getElem hs1, e])]
    omega
end place
inductive Reach (G : Gr) : Nat → Prop
  | hand (k i : Nat) : (k, i) ∈ G.hands → i ≠ 0 → Reach G i
  | step (i j : Nat) : Reach G i → j ∈ (G.node i).refs → j ≠ 0 → Reach G j
theorem Lay.reach {G : Gr} {hs : List Nat} {bs : List (Option Nat)} (L : Lay G hs bs) {i : Nat} (h : Reach G i) : Live hs bs i := by
  induction h with
  | hand k i hk h0 =>
    rcases L.hlive _ hk with e | h
    · exact absurd e h0
    · exact h
  | step i j _ hj h0 ih =>
    rcases L.closed i ih j hj with e | h
    · exact absurd e h0
    · exact h
def Gr.wt (G : Gr) (i : Nat) : Nat := if 64 < G.sz i then G.sz i + 1 else G.sz i
def Gr.room (G : Gr) (s : Nat) : Prop := ∃ L : List Nat, (∀ i, Reach G i → i ∈ L) ∧ 2 * ((L.map G.wt).sum + s + 66) ≤ G.limit
theorem sum_erase (f : Nat → Nat) : ∀ (l : List Nat) (a : Nat), a ∈ l → (l.map f).sum = f a + ((l.erase a).map f).sum
  | [], a, h => by simp at h
  | b :: l, a, h => by
    by_cases e : b = a
    · subst e; simp
    · have hm : a ∈ l := by
        rcases List.mem_cons.1 h with h | h
        · exact absurd h.symm e
        · exact h
      rw [List.erase_cons_tail (by simpa using e)]
      simp only [List.map_cons, List.sum_cons]
      rw [sum_erase f l a hm]; omega
theorem sum_sub (f : Nat → Nat) : ∀ (l m : List Nat), l.Nodup → (∀ x ∈ l, x ∈ m) → (l.map f).sum ≤ (m.map f).sum
  | [], m, _, _ => by simp
  | a :: l, m, nd, h => by
    have ha := h a List.mem_cons_self
    rw [sum_erase f m a ha]
    simp only [List.map_cons, List.sum_cons]
    have := sum_sub f l (m.erase a) (List.nodup_cons.1 nd).2 (fun x hx => by
      have hne : x ≠ a := fun e => (List.nodup_cons.1 nd).1 (e ▸ hx)
      exact (List.mem_erase_of_ne hne).2 (h x (List.mem_cons_of_mem _ hx)))
    omega
end Go.Proofs.YtglglknhifjbaaaGreatDoor.Sp
