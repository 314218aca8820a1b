import Derived.Test.YtglglknhifjbaaaGreatDoorGr
namespace Go.Proofs.YtglglknhifjbaaaGreatDoor.Sp
set_option linter.unusedVariables false
set_option linter.unusedSimpArgs false
def encC (G : Gr) (pl' pl : Nat → Nat) (c : Nat → Nat) (i : Nat) : AO :=
  ((G.node i).head, ((G.node i).refs.take (c i)).map pl' ++ ((G.node i).refs.drop (c i)).map pl ++ (G.node i).raws)
def encH (G : Gr) (P : List Nat) (bs : List (Option Nat)) (pl : Nat → Nat) (i : Nat) : AO :=
  (if i ∈ P then 9223372036854775808 + plOf G P bs i else (G.node i).head, (G.node i).refs.map pl ++ (G.node i).raws)
def New (P rs : List Nat) (j : Nat) : Prop := j = 0 ∨ j ∈ P ∨ j ∈ rs
structure Mid (G : Gr) (hs : List Nat) (bs : List (Option Nat)) (P : List Nat) (n : Nat) (rs gs : List Nat) (c : Nat → Nat) (cur q : Nat) (M : HM) : Prop extends Lay G hs bs where
  psub : ∀ i ∈ P, i ∈ hs
  pnd : P.Nodup
  rsub : ∀ i ∈ rs, some i ∈ bs
  rnd : rs.Nodup
  half : M.half.objs = hs.map (encH G P bs (plOf G hs bs))
  spare : M.spare.objs = P.map (encC G (plOf G P bs) (plOf G hs bs) c)
  blocks : M.blocks = bs.map (Option.map fun i => ⟨G.sz i + 1, [encC G (plOf G P bs) (plOf G hs bs) c i]⟩)
  reached : M.reached = bs.map (fun o => match o with | some i => decide (i ∈ rs) | none => false)
  roots : Hands M.roots G.hands (fun k i => if k < q then plOf G P bs i else plOf G hs bs i)
  cok : ∀ i, (i ∈ P ∨ i ∈ rs) → ∀ j ∈ (G.node i).refs.take (c i), New P rs j
  rok : ∀ k i, (k, i) ∈ G.hands → k < q → New P rs i
  czero : ∀ i, i ∉ P → i ∉ rs → c i = 0
  sound : ∀ i, (i ∈ P ∨ i ∈ rs) → Reach G i
  todo : ∀ i, (i ∈ P ∨ i ∈ rs) → i = cur ∨ c i = (G.node i).refs.length ∨ i ∈ P.drop n ∨ ∃ s ∈ gs, bs[s]? = some (some i)
  fresh : ∀ i ∈ P.drop n, i ≠ cur → c i = 0
  gok : ∀ s ∈ gs, ∃ i, bs[s]? = some (some i) ∧ i ∈ rs ∧ c i = 0 ∧ i ≠ cur
  gnd : gs.Nodup
  nle : n ≤ P.length
  fit : M.spare.size = M.half.size
section
variable {G : Gr} {hs : List Nat} {bs : List (Option Nat)} {P : List Nat} {n : Nat} {rs gs : List Nat} {c : Nat → Nat} {cur q : Nat} {M : HM}
theorem pl_keep (L : Lay G hs bs) (hP : ∀ i ∈ P, i ∈ hs) (rsub : ∀ i ∈ rs, some i ∈ bs) (r : List Nat) (hr : ∀ i ∈ r, i ∈ hs) (j : Nat) (hj : New P rs j) : plOf G (P ++ r) bs j = plOf G P bs j := by
  have big : ∀ i, some i ∈ bs → ∀ l : List Nat, (∀ x ∈ l, x ∈ hs) → i ∉ l := fun i hi l hl h => L.dis i (hl i h) hi
  rcases hj with rfl | hj | hj
  · have h0 : ∀ l : List Nat, (∀ x ∈ l, x ∈ hs) → (0 : Nat) ∉ l := fun l hl h => by have := L.lo 0 (.inl (hl 0 h)); omega
    have hb : some 0 ∉ bs := fun h => by have := L.lo 0 (.inr h); omega
    rw [pl_none (h0 P hP) hb, pl_none (h0 (P ++ r) (fun x hx => by rcases List.mem_append.1 hx with h | h; exact hP x h; exact hr x h)) hb]
  · exact pl_app j hj r
  · have hb := rsub j hj
    unfold plOf
    rw [if_neg (big j hb _ (fun x hx => by rcases List.mem_append.1 hx with h | h; exact hP x h; exact hr x h)), if_neg (big j hb _ hP)]
theorem map_congr' {α β : Type} {f g : α → β} {l : List α} (h : ∀ x ∈ l, f x = g x) : l.map f = l.map g := List.map_congr_left h
theorem encC_keep (L : Lay G hs bs) (hP : ∀ i ∈ P, i ∈ hs) (rsub : ∀ i ∈ rs, some i ∈ bs) (r : List Nat) (hr : ∀ i ∈ r, i ∈ hs) (pl : Nat → Nat) (i : Nat) (hc : ∀ j ∈ (G.node i).refs.take (c i), New P rs j) : encC G (plOf G (P ++ r) bs) pl c i = encC G (plOf G P bs) pl c i := by
  unfold encC
  rw [map_congr' (fun j hj => pl_keep L hP rsub r hr j (hc j hj))]
theorem Mid.cok' (h : Mid G hs bs P n rs gs c cur q M) (i : Nat) : ∀ j ∈ (G.node i).refs.take (c i), New P rs j := fun j hj => by
  by_cases hi : i ∈ P ∨ i ∈ rs
  · exact h.cok i hi j hj
  · have : c i = 0 := h.czero i (fun x => hi (.inl x)) (fun x => hi (.inr x))
    rw [this] at hj; simp at hj
theorem New.mono {j : Nat} (h : New P rs j) {P' rs' : List Nat} (hp : ∀ i ∈ P, i ∈ P') (hr : ∀ i ∈ rs, i ∈ rs') : New P' rs' j := by
  rcases h with h | h | h
  · exact .inl h
  · exact .inr (.inl (hp j h))
  · exact .inr (.inr (hr j h))
theorem nodup_inj {α : Type} [DecidableEq α] {l : List α} (nd : l.Nodup) {i j : Nat} (hi : i < l.length) (hj : j < l.length) (e : l[i] = l[j]) : i = j := by
  have h1 := idx_get l i hi nd
  rw [e, idx_get l j hj nd] at h1
  exact h1.symm
theorem set_map {α β : Type} [DecidableEq α] (l : List α) (nd : l.Nodup) (f g : α → β) (k : Nat) (hk : k < l.length) (b : β) (h1 : g l[k] = b) (h2 : ∀ x ∈ l, x ≠ l[k] → g x = f x) : (l.map f).set k b = l.map g := by
  apply List.ext_getElem
  · simp
  · intro i hi1 hi2
    rw [List.getElem_set]
    by_cases e : k = i
    · subst e; rw [if_pos rfl, List.getElem_map, h1]
    · rw [if_neg e, List.getElem_map, List.getElem_map]
      have hil : i < l.length := by simpa using hi2
      exact (h2 _ (List.getElem_mem hil) (fun e2 => e (nodup_inj nd hk hil e2.symm))).symm
theorem Mid.copy (h : Mid G hs bs P n rs gs c cur q M) (k : Nat) (hk : k < hs.length) (hn : hs[k] ∉ P) (hr : Reach G hs[k]) :
    Mid G hs bs (P ++ [hs[k]]) n rs gs c cur q { M with half := ⟨M.half.size, M.half.objs.set k (9223372036854775808 + usedOf M.spare.objs, (G.node hs[k]).refs.map (plOf G hs bs) ++ (G.node hs[k]).raws)⟩, spare := ⟨M.spare.size, M.spare.objs ++ [((G.node hs[k]).head, (G.node hs[k]).refs.map (plOf G hs bs) ++ (G.node hs[k]).raws)]⟩ } ∧
    plOf G (P ++ [hs[k]]) bs hs[k] = usedOf M.spare.objs := by
  have hm : hs[k] ∈ hs := List.getElem_mem hk
  obtain ⟨j, hj⟩ : ∃ j, hs[k] = j := ⟨_, rfl⟩
  rw [hj] at hn hr hm ⊢
  have hnd : (P ++ [j]).Nodup := by
    rw [List.nodup_append]
    exact ⟨h.pnd, by simp, fun a ha b hb e => by rw [List.mem_singleton.1 hb] at e; exact hn (e ▸ ha)⟩
  have hall : ∀ i ∈ [j], i ∈ hs := fun i hi => by rw [List.mem_singleton.1 hi]; exact hm
  have hpl : plOf G (P ++ [j]) bs j = usedOf M.spare.objs := by
    have h1 := pl_small (G := G) (bs := bs) hnd P.length (by simp)
    rw [show (P ++ [j])[P.length]'(by simp) = j by simp] at h1
    rw [h1, List.map_append, posN_app _ _ _ (by simp), h.spare]
    unfold usedOf
    rw [posOf_eq, List.map_map, List.length_map]
    congr 1
    exact map_congr' (fun i _ => by simp [encC, osize, Gr.sz, Node.size, Function.comp]; omega)
  have hjr : j ∉ rs := fun e => h.dis j hm (h.rsub j e)
  have hcj : c j = 0 := h.czero j hn hjr
  have keep : ∀ i, encC G (plOf G (P ++ [j]) bs) (plOf G hs bs) c i = encC G (plOf G P bs) (plOf G hs bs) c i := fun i => encC_keep h.toLay h.psub h.rsub [j] hall _ i (h.cok' i)
  have mono : ∀ {i}, New P rs i → New (P ++ [j]) rs i := fun hi => hi.mono (fun x hx => List.mem_append_left _ hx) (fun x hx => hx)
  refine ⟨?_, hpl⟩
  exact
  { toLay := h.toLay
    psub := fun i hi => by
      rcases List.mem_append.1 hi with hi | hi
      · exact h.psub i hi
      · exact hall i hi
    pnd := hnd
    rsub := h.rsub
    rnd := h.rnd
    half := by
      show M.half.objs.set k _ = _
      rw [h.half]
      refine set_map hs h.hnd _ _ k hk _ ?_ ?_
      · rw [hj]
        unfold encH
        rw [if_pos (by simp), hpl]
      · intro x hx hne
        rw [hj] at hne
        unfold encH
        by_cases hxp : x ∈ P
        · rw [if_pos hxp, if_pos (List.mem_append_left _ hxp), pl_app x hxp]
        · rw [if_neg hxp, if_neg (by simp [hxp, hne])]
    spare := by
      show M.spare.objs ++ _ = _
      rw [h.spare, List.map_append, map_congr' (fun i _ => keep i)]
      congr 1
      show _ = [encC G _ _ c j]
      unfold encC
      rw [hcj]; simp
    blocks := by
      show M.blocks = _
      rw [h.blocks]
      exact map_congr' (fun o _ => by cases o with
        | none => rfl
        | some i => simp [keep])
    reached := h.reached
    roots := ⟨fun k' i hi => by
        have := h.roots.at_ k' i hi
        rw [this]
        by_cases hq : k' < q
        · rw [if_pos hq, if_pos hq, pl_keep h.toLay h.psub h.rsub [j] hall i (h.rok k' i hi hq)]
        · rw [if_neg hq, if_neg hq], h.roots.used, h.roots.len⟩
    cok := fun i hi j' hj' => by
      by_cases e : i = j
      · rw [e, hcj] at hj'; simp at hj'
      · refine mono (h.cok' i j' hj')
    rok := fun k' i hi hq => mono (h.rok k' i hi hq)
    czero := fun i h1 h2 => h.czero i (fun x => h1 (List.mem_append_left _ x)) h2
    sound := fun i hi => by
      by_cases e : i = j
      · rw [e]; exact hr
      · refine h.sound i ?_
        rcases hi with hi | hi
        · rcases List.mem_append.1 hi with hi | hi
          · exact .inl hi
          · exact absurd (List.mem_singleton.1 hi) e
        · exact .inr hi
    todo := fun i hi => by
      have hdrop : (P ++ [j]).drop n = P.drop n ++ [j] := List.drop_append_of_le_length h.nle
      by_cases e : i = j
      · right; right; left
        rw [hdrop, e]; simp
      · have hi' : i ∈ P ∨ i ∈ rs := by
          rcases hi with hi | hi
          · rcases List.mem_append.1 hi with hi | hi
            · exact .inl hi
            · exact absurd (List.mem_singleton.1 hi) e
          · exact .inr hi
        rcases h.todo i hi' with h1 | h1 | h1 | h1
        · exact .inl h1
        · exact .inr (.inl h1)
        · right; right; left; rw [hdrop]; exact List.mem_append_left _ h1
        · exact .inr (.inr (.inr h1))
    fresh := fun i hi hne => by
      have hdrop : (P ++ [j]).drop n = P.drop n ++ [j] := List.drop_append_of_le_length h.nle
      rw [hdrop] at hi
      rcases List.mem_append.1 hi with hi | hi
      · exact h.fresh i hi hne
      · rw [List.mem_singleton.1 hi]; exact hcj
    gok := h.gok
    gnd := h.gnd
    nle := by rw [List.length_append]; exact Nat.le_trans h.nle (Nat.le_add_right _ _)
    fit := h.fit }
theorem Mid.touch (h : Mid G hs bs P n rs gs c cur q M) (s i : Nat) (hs1 : bs[s]? = some (some i)) (hn : i ∉ rs) (hr : Reach G i) (hcur : i ≠ cur) :
    Mid G hs bs P n (rs ++ [i]) (gs ++ [s]) c cur q { M with reached := M.reached.set s true } := by
  have hm : some i ∈ bs := List.mem_of_getElem? hs1
  have hiP : i ∉ P := fun e => h.dis i (h.psub i e) hm
  have hci : c i = 0 := h.czero i hiP hn
  have mono : ∀ {j}, New P rs j → New P (rs ++ [i]) j := fun hj => hj.mono (fun x hx => hx) (fun x hx => List.mem_append_left _ hx)
  have old : ∀ {j}, j ≠ i → (j ∈ P ∨ j ∈ rs ++ [i]) → (j ∈ P ∨ j ∈ rs) := fun {j} e hj => by
    rcases hj with hj | hj
    · exact .inl hj
    · rcases List.mem_append.1 hj with hj | hj
      · exact .inr hj
      · exact absurd (List.mem_singleton.1 hj) e
  exact
  { toLay := h.toLay
    psub := h.psub
    pnd := h.pnd
    rsub := fun j hj => by
      rcases List.mem_append.1 hj with hj | hj
      · exact h.rsub j hj
      · rw [List.mem_singleton.1 hj]; exact hm
    rnd := by
      rw [List.nodup_append]
      exact ⟨h.rnd, by simp, fun a ha b hb e => by rw [List.mem_singleton.1 hb] at e; exact hn (e ▸ ha)⟩
    half := h.half
    spare := h.spare
    blocks := h.blocks
    reached := by
      show M.reached.set s true = _
      rw [h.reached]
      apply List.ext_getElem?
      intro t
      rw [List.getElem?_set, List.getElem?_map, List.getElem?_map]
      have hsl : s < bs.length := (List.getElem?_eq_some_iff.1 hs1).1
      by_cases e : s = t
      · subst e
        rw [if_pos rfl, if_pos (by simpa using hsl), hs1]; simp
      · rw [if_neg e]
        cases hb : bs[t]? with
        | none => rfl
        | some o => cases o with
          | none => rfl
          | some j =>
            have hne : j ≠ i := fun e2 => e (h.bnd s t i hs1 (by rw [hb, e2]))
            simp [hne]
    roots := h.roots
    cok := fun j hj j' hj' => mono (h.cok' j j' hj')
    rok := fun k j hj hq => mono (h.rok k j hj hq)
    czero := fun j h1 h2 => h.czero j h1 (fun x => h2 (List.mem_append_left _ x))
    sound := fun j hj => by
      by_cases e : j = i
      · rw [e]; exact hr
      · exact h.sound j (old e hj)
    todo := fun j hj => by
      by_cases e : j = i
      · right; right; right
        exact ⟨s, by simp, by rw [e]; exact hs1⟩
      · rcases h.todo j (old e hj) with h1 | h1 | h1 | ⟨s', h1, h2⟩
        · exact .inl h1
        · exact .inr (.inl h1)
        · exact .inr (.inr (.inl h1))
        · exact .inr (.inr (.inr ⟨s', List.mem_append_left _ h1, h2⟩))
    fresh := h.fresh
    gok := fun s' hs' => by
      rcases List.mem_append.1 hs' with hs' | hs'
      · obtain ⟨j, h1, h2, h3⟩ := h.gok s' hs'
        exact ⟨j, h1, List.mem_append_left _ h2, h3⟩
      · rw [List.mem_singleton.1 hs']
        exact ⟨i, hs1, by simp, hci, hcur⟩
    gnd := by
      rw [List.nodup_append]
      refine ⟨h.gnd, by simp, fun a ha b hb e => ?_⟩
      rw [List.mem_singleton.1 hb] at e
      obtain ⟨j, h1, h2, _⟩ := h.gok a ha
      rw [e, hs1] at h1
      injection h1 with h1; injection h1 with h1
      exact hn (h1 ▸ h2)
    nle := h.nle
    fit := h.fit }
theorem Mid.bigAt (h : Mid G hs bs P n rs gs c cur q M) (s i : Nat) (hs1 : bs[s]? = some (some i)) : plOf G hs bs i = 9223372036854775808 + s ∧ plOf G P bs i = 9223372036854775808 + s :=
  have hm : some i ∈ bs := List.mem_of_getElem? hs1
  ⟨pl_big (fun e => h.dis i e hm) s h.bnd hs1, pl_big (fun e => h.dis i (h.psub i e) hm) s h.bnd hs1⟩
theorem take_succ' {α : Type} (l : List α) (k : Nat) (h : k < l.length) : l.take (k + 1) = l.take k ++ [l[k]] := List.take_succ_eq_append_getElem h
theorem fields_set (refs raws : List Nat) (pl' pl : Nat → Nat) (t : Nat) (ht : t < refs.length) :
    ((refs.take t).map pl' ++ (refs.drop t).map pl ++ raws).set t (pl' refs[t]) = (refs.take (t + 1)).map pl' ++ (refs.drop (t + 1)).map pl ++ raws := by
  rw [List.drop_eq_getElem_cons ht, take_succ' refs t ht]
  simp only [List.map_append, List.map_cons, List.map_nil, List.append_assoc, List.cons_append, List.nil_append]
  rw [List.set_append, if_neg (by simp; omega)]
  rw [show t - ((refs.take t).map pl').length = 0 by simp; omega, List.set_cons_zero]
theorem field_get (refs raws : List Nat) (pl' pl : Nat → Nat) (t : Nat) (ht : t < refs.length) :
    ((refs.take t).map pl' ++ (refs.drop t).map pl ++ raws)[t]? = some (pl refs[t]) := by
  rw [List.drop_eq_getElem_cons ht]
  simp only [List.map_cons, List.append_assoc, List.cons_append]
  rw [List.getElem?_append_right (by simp; omega)]
  rw [show t - ((refs.take t).map pl').length = 0 by simp; omega]; rfl
theorem Mid.turn (h : Mid G hs bs P n rs gs c cur q M) (hcur : cur ∈ P ∨ cur ∈ rs) (ht : c cur < (G.node cur).refs.length) (hnew : New P rs (G.node cur).refs[c cur]) (M' : HM)
    (hhalf : M'.half = M.half) (hreach : M'.reached = M.reached) (hroots : M'.roots = M.roots) (hsz : M'.spare.size = M.spare.size)
    (hsp : M'.spare.objs = P.map (encC G (plOf G P bs) (plOf G hs bs) (fun i => if i = cur then c i + 1 else c i)))
    (hbl : M'.blocks = bs.map (Option.map fun i => ⟨G.sz i + 1, [encC G (plOf G P bs) (plOf G hs bs) (fun i => if i = cur then c i + 1 else c i) i]⟩)) :
    Mid G hs bs P n rs gs (fun i => if i = cur then c i + 1 else c i) cur q M' :=
  { toLay := h.toLay
    psub := h.psub
    pnd := h.pnd
    rsub := h.rsub
    rnd := h.rnd
    half := by rw [hhalf]; exact h.half
    spare := hsp
    blocks := hbl
    reached := by rw [hreach]; exact h.reached
    roots := by rw [hroots]; exact h.roots
    cok := fun i hi j hj => by
      by_cases e : i = cur
      · subst e
        simp only [if_pos] at hj
        rw [take_succ' _ _ ht] at hj
        rcases List.mem_append.1 hj with hj | hj
        · exact h.cok i hi j hj
        · rw [List.mem_singleton.1 hj]; exact hnew
      · simp only [if_neg e] at hj
        exact h.cok i hi j hj
    rok := h.rok
    czero := fun i h1 h2 => by
      have e : i ≠ cur := fun e => by
        rcases hcur with x | x
        · exact h1 (e ▸ x)
        · exact h2 (e ▸ x)
      simp only [if_neg e]; exact h.czero i h1 h2
    sound := h.sound
    todo := fun i hi => by
      by_cases e : i = cur
      · exact .inl e
      · simp only [if_neg e]; exact h.todo i hi
    fresh := fun i hi hne => by simp only [if_neg hne]; exact h.fresh i hi hne
    gok := fun s hs' => by
      obtain ⟨i, h1, h2, h3, h4⟩ := h.gok s hs'
      exact ⟨i, h1, h2, by simp only [if_neg h4]; exact h3, h4⟩
    gnd := h.gnd
    nle := h.nle
    fit := by rw [hsz, hhalf]; exact h.fit }
theorem encC_other (G : Gr) (pl' pl : Nat → Nat) (c c' : Nat → Nat) (i : Nat) (h : c' i = c i) : encC G pl' pl c' i = encC G pl' pl c i := by unfold encC; rw [h]
theorem Mid.turnSmall (h : Mid G hs bs P n rs gs c cur q M) (k : Nat) (hk : k < P.length) (hcur : P[k] = cur) (ht : c cur < (G.node cur).refs.length) (hnew : New P rs (G.node cur).refs[c cur]) (o : AO) (ho : o = encC G (plOf G P bs) (plOf G hs bs) c cur) :
    Mid G hs bs P n rs gs (fun i => if i = cur then c i + 1 else c i) cur q { M with spare := ⟨M.spare.size, M.spare.objs.set k (o.1, o.2.set (c cur) (plOf G P bs (G.node cur).refs[c cur]))⟩ } := by
  have hm : cur ∈ P := hcur ▸ List.getElem_mem hk
  have hnb : some cur ∉ bs := h.dis cur (h.psub cur hm)
  refine h.turn (.inl hm) ht hnew _ rfl rfl rfl rfl ?_ ?_
  · show M.spare.objs.set k _ = _
    rw [h.spare]
    refine set_map P h.pnd _ _ k hk _ ?_ ?_
    · rw [hcur, ho]
      unfold encC
      dsimp only
      rw [fields_set _ _ _ _ _ ht, if_pos rfl]
    · intro x hx hne
      rw [hcur] at hne
      exact encC_other _ _ _ _ _ _ (if_neg hne)
  · show M.blocks = _
    rw [h.blocks]
    exact map_congr' (fun x hx => by cases x with
      | none => rfl
      | some i =>
        have hne : i ≠ cur := fun e => hnb (e ▸ hx)
        simp only [Option.map_some]
        rw [encC_other G (plOf G P bs) (plOf G hs bs) c (fun i => if i = cur then c i + 1 else c i) i (if_neg hne)])
theorem Mid.turnBig (h : Mid G hs bs P n rs gs c cur q M) (s : Nat) (hs1 : bs[s]? = some (some cur)) (hcur : cur ∈ rs) (ht : c cur < (G.node cur).refs.length) (hnew : New P rs (G.node cur).refs[c cur]) (o : AO) (ho : o = encC G (plOf G P bs) (plOf G hs bs) c cur) :
    Mid G hs bs P n rs gs (fun i => if i = cur then c i + 1 else c i) cur q { M with blocks := M.blocks.set s (some ⟨G.sz cur + 1, [(o.1, o.2.set (c cur) (plOf G P bs (G.node cur).refs[c cur]))]⟩) } := by
  have hm : some cur ∈ bs := h.rsub cur hcur
  have hnp : ∀ i ∈ P, i ≠ cur := fun i hi e => h.dis i (h.psub i hi) (e ▸ hm)
  refine h.turn (.inr hcur) ht hnew _ rfl rfl rfl rfl ?_ ?_
  · show M.spare.objs = _
    rw [h.spare]
    exact map_congr' (fun i hi => (encC_other _ _ _ _ _ _ (if_neg (hnp i hi))).symm)
  · show M.blocks.set s _ = _
    rw [h.blocks]
    apply List.ext_getElem?
    intro t
    have hsl : s < bs.length := (List.getElem?_eq_some_iff.1 hs1).1
    rw [List.getElem?_set, List.getElem?_map, List.getElem?_map]
    by_cases e : s = t
    · subst e
      rw [if_pos rfl, if_pos (by simpa using hsl), hs1, ho]
      simp only [Option.map_some]
      unfold encC
      dsimp only
      rw [fields_set _ _ _ _ _ ht, if_pos rfl]
    · rw [if_neg e]
      cases hb : bs[t]? with
      | none => rfl
      | some x => cases x with
        | none => rfl
        | some i =>
          have hne : i ≠ cur := fun e2 => e (h.bnd s t cur hs1 (by rw [hb, e2]))
          simp only [Option.map_some]
          rw [encC_other G (plOf G P bs) (plOf G hs bs) c (fun i => if i = cur then c i + 1 else c i) i (if_neg hne)]
theorem Mid.hand (h : Mid G hs bs P n rs gs c cur q M) (i : Nat) (hi : (q, i) ∈ G.hands) (hnew : New P rs i) :
    Mid G hs bs P n rs gs c cur (q + 1) { M with roots := M.roots.set q (true, plOf G P bs i) } :=
  have hl : q < M.roots.length := (List.getElem?_eq_some_iff.1 (h.roots.at_ q i hi)).1
  have one : ∀ j, (q, j) ∈ G.hands → j = i := fun j hj => by
    have nd := h.hkeys
    clear h hnew hl
    generalize G.hands = l at *
    induction l with
    | nil => simp at hi
    | cons p l ih =>
      simp only [List.map_cons, List.nodup_cons] at nd
      rcases List.mem_cons.1 hi with e1 | h1 <;> rcases List.mem_cons.1 hj with e2 | h2
      · rw [← e1] at e2; injection e2 with _ e2
      · exact absurd (List.mem_map.2 ⟨(q, j), h2, by rw [← e1]⟩) nd.1
      · exact absurd (List.mem_map.2 ⟨(q, i), h1, by rw [← e2]⟩) nd.1
      · exact ih h1 h2 nd.2
  { toLay := h.toLay
    psub := h.psub
    pnd := h.pnd
    rsub := h.rsub
    rnd := h.rnd
    half := h.half
    spare := h.spare
    blocks := h.blocks
    reached := h.reached
    roots := ⟨fun k j hj => by
        show (M.roots.set q _)[k]? = _
        rw [List.getElem?_set]
        by_cases e : q = k
        · subst e
          rw [if_pos rfl, if_pos hl, one j hj]
          simp
        · rw [if_neg e, h.roots.at_ k j hj]
          by_cases e2 : k < q
          · rw [if_pos e2, if_pos (by omega)]
          · rw [if_neg e2, if_neg (by omega)],
      fun k v hv => by
        have hv : (M.roots.set q (true, plOf G P bs i))[k]? = some (true, v) := hv
        rw [List.getElem?_set] at hv
        by_cases e : q = k
        · subst e; exact ⟨i, hi⟩
        · rw [if_neg e] at hv; exact h.roots.used k v hv,
      by show (M.roots.set q _).length ≤ _; rw [List.length_set]; exact h.roots.len⟩
    cok := h.cok
    rok := fun k j hj hq => by
      by_cases e : k = q
      · subst e; rw [one j hj]; exact hnew
      · exact h.rok k j hj (by omega)
    czero := h.czero
    sound := h.sound
    todo := h.todo
    fresh := h.fresh
    gok := h.gok
    gnd := h.gnd
    nle := h.nle
    fit := h.fit }
theorem Mid.pass (h : Mid G hs bs P n rs gs c cur q M) (hi : ∀ i, (q, i) ∉ G.hands) : Mid G hs bs P n rs gs c cur (q + 1) M :=
  { h with
    roots := ⟨fun k j hj => by
        rw [h.roots.at_ k j hj]
        have : k ≠ q := fun e => hi j (e ▸ hj)
        by_cases e2 : k < q
        · rw [if_pos e2, if_pos (by omega)]
        · rw [if_neg e2, if_neg (by omega)], h.roots.used, h.roots.len⟩
    rok := fun k j hj hq => by
      have : k ≠ q := fun e => hi j (e ▸ hj)
      exact h.rok k j hj (by omega) }
theorem Mid.begin (h : Mid G hs bs P n rs gs c 0 q M) (hn : n < P.length) : Mid G hs bs P n rs gs c P[n] q M ∧ c P[n] = 0 := by
  have hm : P[n] ∈ P.drop n := by rw [List.drop_eq_getElem_cons hn]; exact List.mem_cons_self
  have h0 : P[n] ≠ 0 := fun e => by have := h.lo _ (.inl (h.psub _ (List.getElem_mem hn))); omega
  exact ⟨{ h with
    todo := fun i hi => by
      rcases h.todo i hi with h1 | h1
      · rcases hi with hi | hi
        · have := h.lo i (.inl (h.psub i hi)); omega
        · have := h.lo i (.inr (h.rsub i hi)); omega
      · exact .inr h1
    fresh := fun i hi hne => h.fresh i hi (fun e => by
      have := h.lo i (.inl (h.psub i (List.mem_of_mem_drop hi))); omega)
    gok := fun s hs' => by
      obtain ⟨i, h1, h2, h3, h4⟩ := h.gok s hs'
      exact ⟨i, h1, h2, h3, fun e => h.dis i (e ▸ h.psub _ (List.getElem_mem hn)) (h.rsub i h2)⟩ }, h.fresh _ hm h0⟩
theorem Mid.done (h : Mid G hs bs P n rs gs c cur q M) (hn : n < P.length) (hc : P[n] = cur) (hf : c cur = (G.node cur).refs.length) : Mid G hs bs P (n + 1) rs gs c 0 q M := by
  have hd : P.drop n = cur :: P.drop (n + 1) := by rw [List.drop_eq_getElem_cons hn, hc]
  have hnd : (P.drop n).Nodup := h.pnd.sublist (List.drop_sublist _ _)
  rw [hd] at hnd
  exact { h with
    todo := fun i hi => by
      rcases h.todo i hi with h1 | h1 | h1 | h1
      · right; left; rw [h1]; exact hf
      · exact .inr (.inl h1)
      · rw [hd] at h1
        rcases List.mem_cons.1 h1 with h1 | h1
        · right; left; rw [h1]; exact hf
        · exact .inr (.inr (.inl h1))
      · exact .inr (.inr (.inr h1))
    fresh := fun i hi _ => h.fresh i (by rw [hd]; exact List.mem_cons_of_mem _ hi) (fun e => (List.nodup_cons.1 hnd).1 (e ▸ hi))
    gok := fun s hs' => by
      obtain ⟨i, h1, h2, h3, h4⟩ := h.gok s hs'
      exact ⟨i, h1, h2, h3, fun e => by have := h.lo i (.inr (h.rsub i h2)); omega⟩
    nle := hn }
theorem Mid.beginBig {s : Nat} {gt : List Nat} (h : Mid G hs bs P n rs (s :: gt) c 0 q M) : ∃ i, bs[s]? = some (some i) ∧ i ∈ rs ∧ c i = 0 ∧ Mid G hs bs P n rs gt c i q M := by
  obtain ⟨i, h1, h2, h3, h4⟩ := h.gok s List.mem_cons_self
  refine ⟨i, h1, h2, h3, { h with
    todo := fun j hj => ?_
    fresh := fun j hj hne => h.fresh j hj (fun e => by have := h.lo j (.inl (h.psub j (List.mem_of_mem_drop hj))); omega)
    gok := fun s' hs' => ?_
    gnd := (List.nodup_cons.1 h.gnd).2 }⟩
  · rcases h.todo j hj with e | e | e | ⟨s', e1, e2⟩
    · rcases hj with hj | hj
      · have := h.lo j (.inl (h.psub j hj)); omega
      · have := h.lo j (.inr (h.rsub j hj)); omega
    · exact .inr (.inl e)
    · exact .inr (.inr (.inl e))
    · rcases List.mem_cons.1 e1 with e1 | e1
      · left
        rw [e1, h1] at e2
        injection e2 with e2; injection e2 with e2; exact e2.symm
      · exact .inr (.inr (.inr ⟨s', e1, e2⟩))
  · obtain ⟨j, k1, k2, k3, k4⟩ := h.gok s' (List.mem_cons_of_mem _ hs')
    refine ⟨j, k1, k2, k3, fun e => ?_⟩
    have : s = s' := h.bnd s s' i h1 (by rw [k1, e])
    exact (List.nodup_cons.1 h.gnd).1 (this ▸ hs')
theorem Mid.doneBig (h : Mid G hs bs P n rs gs c cur q M) (hc : some cur ∈ bs) (hf : c cur = (G.node cur).refs.length) : Mid G hs bs P n rs gs c 0 q M :=
  { h with
    todo := fun i hi => by
      rcases h.todo i hi with h1 | h1
      · right; left; rw [h1]; exact hf
      · exact .inr h1
    fresh := fun i hi _ => h.fresh i hi (fun e => h.dis i (h.psub i (List.mem_of_mem_drop hi)) (e ▸ hc))
    gok := fun s hs' => by
      obtain ⟨i, h1, h2, h3, h4⟩ := h.gok s hs'
      exact ⟨i, h1, h2, h3, fun e => by have := h.lo i (.inr (h.rsub i h2)); omega⟩ }
theorem Mid.count (h : Mid G hs bs P n rs gs c cur q M) : n + rs.length ≤ hs.length + bs.length + gs.length ∧ gs.length ≤ rs.length := by
  have e : ∀ l : List Nat, (l.map fun _ => 1).sum = l.length := fun l => by induction l with
    | nil => rfl
    | cons a l ih => simp only [List.map_cons, List.sum_cons, ih, List.length_cons]; omega
  have h1 : P.length ≤ hs.length := by
    have := sum_sub (fun _ => 1) P hs h.pnd h.psub
    rwa [e, e] at this
  have hn := h.nle
  have h2 : rs.length ≤ bs.length := by
    have := sum_sub (fun _ => 1) rs (bs.filterMap id) h.rnd (fun i hi => List.mem_filterMap.2 ⟨some i, h.rsub i hi, rfl⟩)
    have h3 := List.length_filterMap_le id bs
    rw [e, e] at this
    omega
  have h3 : gs.length ≤ rs.length := by
    have hg := h.gok
    have nd := h.gnd
    let f : Nat → Nat := fun s => match bs[s]? with | some (some i) => i | _ => 0
    have hf : ∀ s ∈ gs, f s ∈ rs := fun s hs' => by
      obtain ⟨i, k1, k2, _⟩ := hg s hs'
      show (match bs[s]? with | some (some i) => i | _ => 0) ∈ rs
      rw [k1]; exact k2
    have hnd : (gs.map f).Nodup := by
      rw [List.nodup_iff_pairwise_ne, List.pairwise_map]
      refine List.Pairwise.imp_of_mem ?_ (List.nodup_iff_pairwise_ne.1 nd)
      intro a b ha hb hne e2
      obtain ⟨i, k1, _⟩ := hg a ha
      obtain ⟨j, k2, _⟩ := hg b hb
      have ea : f a = i := by show (match bs[a]? with | some (some i) => i | _ => 0) = i; rw [k1]
      have eb : f b = j := by show (match bs[b]? with | some (some i) => i | _ => 0) = j; rw [k2]
      rw [ea, eb] at e2
      exact hne (h.bnd a b i k1 (by rw [k2, e2]))
    have := sum_sub (fun _ => 1) (gs.map f) rs hnd (fun x hx => by obtain ⟨s, hs', rfl⟩ := List.mem_map.1 hx; exact hf s hs')
    rw [e, e, List.length_map] at this
    exact this
  omega
theorem Mid.roomy (h : Mid G hs bs P n rs gs c cur q M) (j : Nat) (hj : j ∈ hs) (hn : j ∉ P) : usedOf M.spare.objs + G.sz j ≤ usedOf M.half.objs := by
  have e : ∀ (l : List Nat) (f : Nat → AO), (∀ i, osize (f i) = G.sz i) → usedOf (l.map f) = 1 + (l.map G.sz).sum := fun l f hf => by
    unfold usedOf
    rw [posOf_eq, List.map_map]
    unfold posN
    rw [List.take_of_length_le (by simp)]
    congr 2
    exact map_congr' (fun i _ => hf i)
  rw [h.spare, h.half, e P _ (fun i => by simp [encC, osize, Gr.sz, Node.size]; omega), e hs _ (fun i => by simp [encH, osize, Gr.sz, Node.size]; omega)]
  have := sum_sub G.sz (P ++ [j]) hs (by
    rw [List.nodup_append]
    exact ⟨h.pnd, by simp, fun a ha b hb e => by rw [List.mem_singleton.1 hb] at e; exact hn (e ▸ ha)⟩) (fun x hx => by
      rcases List.mem_append.1 hx with hx | hx
      · exact h.psub x hx
      · rw [List.mem_singleton.1 hx]; exact hj)
  rw [List.map_append, List.sum_append] at this
  simp at this
  omega
end
end Go.Proofs.YtglglknhifjbaaaGreatDoor.Sp
