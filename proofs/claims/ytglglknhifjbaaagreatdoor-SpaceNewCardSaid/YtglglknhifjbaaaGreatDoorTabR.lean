import Derived.Test.YtglglknhifjbaaaGreatDoorTabP
namespace Go.Proofs.YtglglknhifjbaaaGreatDoor.Sp
set_option linter.unusedVariables false
set_option linter.unusedSimpArgs false
section
variable {T : Tab}
def Tab.fits (T : Tab) (h : Nat) (e : Ent) : Prop := (if T.inOld h then bkt T.ok (e.hash T.seed) else bkt T.nk (e.hash T.seed)) = T.slot h ∧ (T.inOld h = false → T.oid ≠ 0 → bkt T.ok (e.hash T.seed) < T.moved)
theorem Tab.fits_self (T : Tab) (e : Ent) : T.fits (e.hash T.seed) e := by
  unfold Tab.fits Tab.slot
  refine ⟨by split <;> rfl, fun h1 h2 => ?_⟩
  unfold Tab.inOld at h1
  simp at h1
  have := h1 h2
  omega
theorem Tab.Ok.fits_cur (h : T.Ok) (x : Nat) (hx : x < 18446744073709551616) (e : Ent) (he : e ∈ T.cur x) : T.fits x e := by
  have hs := h.slot_lt x hx
  unfold Tab.fits
  unfold Tab.arr at hs
  by_cases hi : T.inOld x = true
  · rw [hi] at hs ⊢
    simp only [if_true] at hs ⊢
    exact ⟨h.obk _ _ hs e he, fun h2 => by cases h2⟩
  · rw [Bool.not_eq_true] at hi
    rw [hi] at hs ⊢
    simp only [Bool.false_eq_true, if_false] at hs ⊢
    exact ⟨h.nbk _ _ hs e he, fun _ ho => h.nmv ho e (List.mem_flatten.2 ⟨_, List.mem_of_getElem? hs, he⟩)⟩
theorem set_get {α : Type} {l : List α} {i j : Nat} {a b : α} (h : (l.set i a)[j]? = some b) : (j = i ∧ b = a) ∨ (j ≠ i ∧ l[j]? = some b) := by
  rw [List.getElem?_set] at h
  by_cases e : i = j
  · rw [if_pos e] at h
    split at h
    · injection h with h; exact .inl ⟨e.symm, h.symm⟩
    · cases h
  · rw [if_neg e] at h; exact .inr ⟨fun x => e x.symm, h⟩
theorem Tab.Ok.relay (h : T.Ok) (x : Nat) (hx : x < 18446744073709551616) (c : List Ent) (hc : ∀ e ∈ c, T.fits x e) (hok : ∀ e ∈ c, e.Ok) (hk : ((c ++ (T.lay x []).ents).map Ent.key).Nodup) (hsub : ∀ e ∈ (T.lay x []).ents, e ∈ T.ents) : (T.lay x c).Ok := by
  have hp := h.ents_lay x hx c
  have hlt := (List.getElem?_eq_some_iff.1 (h.slot_lt x hx)).1
  have hent : ∀ e ∈ (T.lay x c).ents, e.Ok := fun e he => by
    rcases List.mem_append.1 (hp.mem_iff.1 he) with he | he
    · exact hok e he
    · exact h.ent e (hsub e he)
  have hkeys : ((T.lay x c).ents.map Ent.key).Nodup := (List.Perm.nodup_iff (hp.map Ent.key)).2 hk
  by_cases hi : T.inOld x = true
  · have e1 : T.lay x c = { T with ob := T.ob.set (T.slot x) c } := by unfold Tab.lay; rw [hi]; rfl
    have ho : T.oid ≠ 0 := fun e => by unfold Tab.inOld at hi; simp [e] at hi
    have hsl : T.slot x = bkt T.ok x := by unfold Tab.slot; rw [hi]; rfl
    have hmv : T.moved ≤ T.slot x := by rw [hsl]; unfold Tab.inOld at hi; simp at hi; exact hi.2
    rw [e1] at hent hkeys ⊢
    refine { seed := h.seed, nlen := h.nlen, nk2 := h.nk2, olen := fun _ => ?_, onone := fun e => absurd e ho, mv := ?_, empt := fun i hlt2 => ?_, nbk := h.nbk, obk := fun i c' hc' e he => ?_, nmv := h.nmv, ent := hent, keys := hkeys }
    · obtain ⟨k1, k2⟩ := h.olen ho
      exact ⟨by show (T.ob.set _ _).length = _; rw [List.length_set]; exact k1, k2⟩
    · show T.moved ≤ (T.ob.set _ _).length
      rw [List.length_set]; exact h.mv
    · show (T.ob.set (T.slot x) c)[i]? = _
      have hlt2 : i < T.moved := hlt2
      rw [List.getElem?_set, if_neg (by omega)]; exact h.empt i hlt2
    · rcases set_get (show (T.ob.set (T.slot x) c)[i]? = some c' from hc') with ⟨rfl, rfl⟩ | ⟨_, h2⟩
      · have := (hc e he).1
        rw [hi] at this
        exact this
      · exact h.obk i c' h2 e he
  · rw [Bool.not_eq_true] at hi
    have e1 : T.lay x c = { T with nb := T.nb.set (T.slot x) c } := by unfold Tab.lay; rw [hi]; rfl
    rw [e1] at hent hkeys ⊢
    refine { seed := h.seed, nlen := ?_, nk2 := h.nk2, olen := h.olen, onone := h.onone, mv := h.mv, empt := h.empt, nbk := fun i c' hc' e he => ?_, obk := h.obk, nmv := fun ho e he => ?_, ent := hent, keys := hkeys }
    · show (T.nb.set _ _).length = _
      rw [List.length_set]; exact h.nlen
    · rcases set_get (show (T.nb.set (T.slot x) c)[i]? = some c' from hc') with ⟨rfl, rfl⟩ | ⟨_, h2⟩
      · have := (hc e he).1
        rw [hi] at this
        exact this
      · exact h.nbk i c' h2 e he
    · obtain ⟨i, c', hi2, hx2⟩ := mem_flat (show e ∈ (T.nb.set (T.slot x) c).flatten from he)
      rcases set_get hi2 with ⟨rfl, rfl⟩ | ⟨_, h2⟩
      · exact (hc e hx2).2 hi ho
      · exact h.nmv ho e (List.mem_flatten.2 ⟨_, List.mem_of_getElem? h2, hx2⟩)
theorem Tab.Ok.ents_cur (h : T.Ok) (x : Nat) (hx : x < 18446744073709551616) : T.ents.Perm (T.cur x ++ (T.lay x []).ents) := by
  have := h.ents_lay x hx (T.cur x)
  rwa [h.lay_cur x hx] at this
theorem Tab.Ok.rest_sub (h : T.Ok) (x : Nat) (hx : x < 18446744073709551616) : ∀ e ∈ (T.lay x []).ents, e ∈ T.ents := fun e he => (h.ents_cur x hx).mem_iff.2 (List.mem_append_right _ he)
def Tab.find (T : Tab) (key : List Int) : Option Ent := T.ents.find? fun e => e.key == key
theorem nodup_key {l : List Ent} (nd : (l.map Ent.key).Nodup) {a b : Ent} (ha : a ∈ l) (hb : b ∈ l) (e : a.key = b.key) : a = b := by
  induction l with
  | nil => simp at ha
  | cons c l ih =>
    rw [List.map_cons, List.nodup_cons] at nd
    rcases List.mem_cons.1 ha with ha | ha <;> rcases List.mem_cons.1 hb with hb | hb
    · rw [ha, hb]
    · exact absurd (List.mem_map.2 ⟨b, hb, by rw [← e, ha]⟩) nd.1
    · exact absurd (List.mem_map.2 ⟨a, ha, by rw [e, hb]⟩) nd.1
    · exact ih nd.2 ha hb
theorem Tab.Ok.find_some (h : T.Ok) (key : List Int) (e : Ent) : T.find key = some e ↔ e ∈ T.ents ∧ e.key = key := by
  unfold Tab.find
  constructor
  · intro hf
    exact ⟨List.mem_of_find?_eq_some hf, by have := List.find?_some hf; simpa using this⟩
  · rintro ⟨h1, h2⟩
    cases hf : T.ents.find? fun e => e.key == key with
    | none =>
      have := List.find?_eq_none.1 hf e h1
      simp [h2] at this
    | some e2 =>
      have h3 := List.mem_of_find?_eq_some hf
      have h4 : e2.key = key := by have := List.find?_some hf; simpa using this
      rw [nodup_key h.keys h3 h1 (h4.trans h2.symm)]
theorem Tab.find_none (T : Tab) (key : List Int) : T.find key = none ↔ ∀ e ∈ T.ents, e.key ≠ key := by
  unfold Tab.find
  rw [List.find?_eq_none]
  simp
def Tab.push (T : Tab) (e : Ent) : Tab := T.lay (e.hash T.seed) (e :: T.cur (e.hash T.seed))
theorem Tab.Ok.push (h : T.Ok) (e : Ent) (hx : e.hash T.seed < 18446744073709551616) (he : e.Ok) (hn : T.find e.key = none) : (T.push e).Ok := by
  have hp := h.ents_cur _ hx
  refine h.relay _ hx _ (fun a ha => ?_) (fun a ha => ?_) ?_ (h.rest_sub _ hx)
  · rcases List.mem_cons.1 ha with rfl | ha
    · exact T.fits_self _
    · exact h.fits_cur _ hx a ha
  · rcases List.mem_cons.1 ha with rfl | ha
    · exact he
    · exact h.ent a (T.cur_sub _ ha)
  · rw [List.cons_append, List.map_cons, List.nodup_cons]
    refine ⟨fun hm => ?_, (List.Perm.nodup_iff (hp.map Ent.key)).1 h.keys⟩
    obtain ⟨b, hb, eb⟩ := List.mem_map.1 hm
    exact (T.find_none e.key).1 hn b (hp.mem_iff.2 hb) eb
theorem Tab.Ok.push_ents (h : T.Ok) (e : Ent) (hx : e.hash T.seed < 18446744073709551616) : (T.push e).ents.Perm (e :: T.ents) := by
  unfold Tab.push
  refine (h.ents_lay _ hx _).trans ?_
  rw [List.cons_append]
  exact (h.ents_cur _ hx).symm.cons e
theorem Tab.Ok.edit (h : T.Ok) (x : Nat) (hx : x < 18446744073709551616) (c1 c2 : List Ent) (e e' : Ent) (hc : T.cur x = c1 ++ e :: c2) (hk : e'.key = e.key) (he : e'.Ok) : (T.lay x (c1 ++ e' :: c2)).Ok := by
  have hp := h.ents_cur _ hx
  have hh : e'.hash T.seed = e.hash T.seed := by unfold Ent.hash; rw [hk]
  refine h.relay _ hx _ (fun a ha => ?_) (fun a ha => ?_) ?_ (h.rest_sub _ hx)
  · rcases List.mem_append.1 ha with ha | ha
    · exact h.fits_cur _ hx a (by rw [hc]; exact List.mem_append_left _ ha)
    · rcases List.mem_cons.1 ha with rfl | ha
      · have := h.fits_cur _ hx e (by rw [hc]; simp)
        unfold Tab.fits at this ⊢
        rw [hh]; exact this
      · exact h.fits_cur _ hx a (by rw [hc]; simp [ha])
  · rcases List.mem_append.1 ha with ha | ha
    · exact h.ent a (T.cur_sub x (by rw [hc]; exact List.mem_append_left _ ha))
    · rcases List.mem_cons.1 ha with rfl | ha
      · exact he
      · exact h.ent a (T.cur_sub x (by rw [hc]; simp [ha]))
  · have := (List.Perm.nodup_iff (hp.map Ent.key)).1 h.keys
    rw [hc] at this
    simpa [hk] using this
theorem Tab.Ok.edit_ents (h : T.Ok) (x : Nat) (hx : x < 18446744073709551616) (c1 c2 : List Ent) (e e' : Ent) (hc : T.cur x = c1 ++ e :: c2) : ∃ r, T.ents.Perm (e :: r) ∧ (T.lay x (c1 ++ e' :: c2)).ents.Perm (e' :: r) := by
  refine ⟨c1 ++ c2 ++ (T.lay x []).ents, (h.ents_cur _ hx).trans ?_, (h.ents_lay _ hx _).trans ?_⟩
  · rw [hc, List.append_assoc, List.append_assoc, List.cons_append]; exact List.perm_middle
  · rw [List.append_assoc, List.append_assoc, List.cons_append]; exact List.perm_middle
theorem Tab.Ok.cut (h : T.Ok) (x : Nat) (hx : x < 18446744073709551616) (c1 c2 : List Ent) (e : Ent) (hc : T.cur x = c1 ++ e :: c2) : (T.lay x (c1 ++ c2)).Ok := by
  have hp := h.ents_cur _ hx
  have hm : ∀ a ∈ c1 ++ c2, a ∈ T.cur x := fun a ha => by
    rw [hc]
    rcases List.mem_append.1 ha with ha | ha
    · exact List.mem_append_left _ ha
    · simp [ha]
  refine h.relay _ hx _ (fun a ha => h.fits_cur _ hx a (hm a ha)) (fun a ha => h.ent a (T.cur_sub x (hm a ha))) ?_ (h.rest_sub _ hx)
  have := (List.Perm.nodup_iff (hp.map Ent.key)).1 h.keys
  rw [hc] at this
  refine this.sublist ?_
  refine List.Sublist.map _ (List.Sublist.append_right ?_ _)
  exact List.Sublist.append_left (List.sublist_cons_self _ _) _
end
end Go.Proofs.YtglglknhifjbaaaGreatDoor.Sp
namespace Go.Proofs.YtglglknhifjbaaaGreatDoor.Sp
set_option linter.unusedVariables false
set_option linter.unusedSimpArgs false
def hang1 (k s : Nat) (nb : List (List Ent)) (e : Ent) : List (List Ent) := nb.set (bkt k (e.hash s)) (e :: nb.getD (bkt k (e.hash s)) [])
def hangAll (k s : Nat) (nb : List (List Ent)) (c : List Ent) : List (List Ent) := c.foldl (hang1 k s) nb
theorem hang1_len (k s : Nat) (nb : List (List Ent)) (e : Ent) : (hang1 k s nb e).length = nb.length := by simp [hang1]
theorem hangAll_len (k s : Nat) : ∀ (c : List Ent) (nb : List (List Ent)), (hangAll k s nb c).length = nb.length
  | [], nb => rfl
  | e :: c, nb => by
    show (hangAll k s (hang1 k s nb e) c).length = _
    rw [hangAll_len k s c, hang1_len]
theorem hang1_perm (k s : Nat) (nb : List (List Ent)) (e : Ent) (h : bkt k (e.hash s) < nb.length) : (hang1 k s nb e).flatten.Perm (e :: nb.flatten) := by
  unfold hang1
  refine (flatten_perm nb _ _ h).trans ?_
  rw [List.cons_append]
  refine List.Perm.cons e ?_
  rw [List.getD_eq_getElem?_getD, List.getElem?_eq_getElem h]
  exact (flatten_open nb _ _ (List.getElem?_eq_getElem h)).symm
theorem hangAll_perm (k s : Nat) : ∀ (c : List Ent) (nb : List (List Ent)), (∀ e ∈ c, bkt k (e.hash s) < nb.length) → (hangAll k s nb c).flatten.Perm (c ++ nb.flatten)
  | [], nb, _ => List.Perm.refl _
  | e :: c, nb, h => by
    show (hangAll k s (hang1 k s nb e) c).flatten.Perm _
    refine (hangAll_perm k s c _ (fun a ha => by rw [hang1_len]; exact h a (List.mem_cons_of_mem _ ha))).trans ?_
    refine ((hang1_perm k s nb e (h e List.mem_cons_self)).append_left c).trans ?_
    exact List.perm_middle
theorem hang1_at {k s : Nat} {nb : List (List Ent)} {e : Ent} {i : Nat} {c : List Ent} (h : (hang1 k s nb e)[i]? = some c) (hnb : ∀ i c, nb[i]? = some c → ∀ e ∈ c, bkt k (e.hash s) = i) : ∀ a ∈ c, bkt k (a.hash s) = i := fun a ha => by
  unfold hang1 at h
  rcases set_get h with ⟨rfl, rfl⟩ | ⟨_, h2⟩
  · rcases List.mem_cons.1 ha with rfl | ha
    · rfl
    · rw [List.getD_eq_getElem?_getD] at ha
      cases e2 : nb[bkt k (e.hash s)]? with
      | none => rw [e2] at ha; simp at ha
      | some c2 => rw [e2] at ha; exact hnb _ _ e2 a ha
  · exact hnb i c h2 a ha
theorem hangAll_at {k s : Nat} : ∀ (c : List Ent) (nb : List (List Ent)), (∀ i c, nb[i]? = some c → ∀ e ∈ c, bkt k (e.hash s) = i) → ∀ i c', (hangAll k s nb c)[i]? = some c' → ∀ e ∈ c', bkt k (e.hash s) = i
  | [], nb, h => h
  | e :: c, nb, h => hangAll_at c (hang1 k s nb e) (fun i c' h1 a ha => hang1_at h1 h a ha)
def Tab.nbAt (T : Tab) : Nat → List (List Ent)
  | 0 => T.nb
  | j + 1 => hangAll T.nk T.seed (T.nbAt j) (T.ob.getD (T.moved + j) [])
def Tab.obAt (T : Tab) : Nat → List (List Ent)
  | 0 => T.ob
  | j + 1 => (T.obAt j).set (T.moved + j) []
theorem Tab.nbAt_len (T : Tab) : ∀ j, (T.nbAt j).length = T.nb.length
  | 0 => rfl
  | j + 1 => by rw [Tab.nbAt, hangAll_len, T.nbAt_len j]
theorem Tab.obAt_len (T : Tab) : ∀ j, (T.obAt j).length = T.ob.length
  | 0 => rfl
  | j + 1 => by rw [Tab.obAt, List.length_set, T.obAt_len j]
theorem Tab.obAt_get (T : Tab) : ∀ j i, i < T.moved ∨ T.moved + j ≤ i → (T.obAt j)[i]? = T.ob[i]?
  | 0, i, _ => rfl
  | j + 1, i, h => by
    rw [Tab.obAt, List.getElem?_set, if_neg (by omega)]
    exact T.obAt_get j i (by omega)
theorem Tab.obAt_none (T : Tab) : ∀ j i, T.moved ≤ i → i < T.moved + j → i < T.ob.length → (T.obAt j)[i]? = some []
  | 0, i, h1, h2, _ => by omega
  | j + 1, i, h1, h2, h3 => by
    rw [Tab.obAt, List.getElem?_set]
    by_cases e : T.moved + j = i
    · rw [if_pos e, if_pos (by rw [T.obAt_len]; omega)]
    · rw [if_neg e]; exact T.obAt_none j i h1 (by omega) h3
section
variable {T : Tab}
theorem Tab.Ok.hlt (h : T.Ok) (hH : ∀ (b : List Int), hashN T.seed b < 18446744073709551616) (e : Ent) : bkt T.nk (e.hash T.seed) < T.nb.length := by
  rw [h.nlen]; exact bkt_lt _ _ (by have := h.nk2; omega) (hH _)
theorem Tab.Ok.at_perm (h : T.Ok) (hH : ∀ (b : List Int), hashN T.seed b < 18446744073709551616) : ∀ j, T.moved + j ≤ T.ob.length → ((T.nbAt j).flatten ++ (T.obAt j).flatten).Perm T.ents
  | 0, _ => List.Perm.refl _
  | j + 1, hj => by
    have ih := h.at_perm hH j (by omega)
    have hlt : T.moved + j < (T.obAt j).length := by rw [T.obAt_len]; omega
    have hget : (T.obAt j)[T.moved + j]? = some (T.ob.getD (T.moved + j) []) := by
      rw [T.obAt_get j _ (.inr (Nat.le_refl _)), List.getD_eq_getElem?_getD, List.getElem?_eq_getElem (by omega)]; rfl
    have h1 := flatten_open _ _ _ hget
    have h2 := hangAll_perm T.nk T.seed (T.ob.getD (T.moved + j) []) (T.nbAt j) (fun e _ => by rw [T.nbAt_len]; exact h.hlt hH e)
    rw [Tab.nbAt, Tab.obAt]
    refine (h2.append_right _).trans ?_
    refine List.Perm.trans ?_ ih
    refine List.Perm.trans ?_ (h1.symm.append_left _)
    rw [List.append_assoc]
    refine (List.perm_append_comm).trans ?_
    rw [List.append_assoc]
    refine List.Perm.append_left _ List.perm_append_comm
theorem Tab.Ok.at_nbk (h : T.Ok) : ∀ j i c, (T.nbAt j)[i]? = some c → ∀ e ∈ c, bkt T.nk (e.hash T.seed) = i
  | 0 => h.nbk
  | j + 1 => hangAll_at _ _ (h.at_nbk j)
theorem hangAll_mem (k s : Nat) : ∀ (c : List Ent) (nb : List (List Ent)) (e : Ent), e ∈ (hangAll k s nb c).flatten → e ∈ c ∨ e ∈ nb.flatten
  | [], nb, e, h => .inr h
  | a :: c, nb, e, h => by
    rcases hangAll_mem k s c (hang1 k s nb a) e h with h | h
    · exact .inl (List.mem_cons_of_mem _ h)
    · obtain ⟨i, d, h1, h2⟩ := mem_flat h
      unfold hang1 at h1
      rcases set_get h1 with ⟨rfl, rfl⟩ | ⟨_, h3⟩
      · rcases List.mem_cons.1 h2 with rfl | h2
        · exact .inl List.mem_cons_self
        · exact .inr (mem_getD h2)
      · exact .inr (List.mem_flatten.2 ⟨_, List.mem_of_getElem? h3, h2⟩)
theorem Tab.Ok.at_nmv (h : T.Ok) (ho : T.oid ≠ 0) : ∀ j, ∀ e ∈ (T.nbAt j).flatten, bkt T.ok (e.hash T.seed) < T.moved + j
  | 0, e, he => h.nmv ho e he
  | j + 1, e, he => by
    rcases hangAll_mem _ _ _ _ e he with he | he
    · rw [List.getD_eq_getElem?_getD] at he
      cases e2 : T.ob[T.moved + j]? with
      | none => rw [e2] at he; simp at he
      | some c => rw [e2] at he; have := h.obk _ _ e2 e he; omega
    · have := h.at_nmv ho j e he; omega
def Tab.step (T : Tab) : Tab :=
  if T.oid = 0 then T
  else if T.moved + min (T.ob.length - T.moved) 16 = T.ob.length then { T with nb := T.nbAt (T.ob.length - T.moved), oid := 0, ob := [], moved := 0 }
  else { T with nb := T.nbAt 16, ob := T.obAt 16, moved := T.moved + 16 }
theorem flat_nil {α : Type} {l : List (List α)} (h : ∀ i, i < l.length → l[i]? = some []) : l.flatten = [] := by
  rw [List.flatten_eq_nil_iff]
  intro c hc
  obtain ⟨i, hi, e⟩ := List.mem_iff_getElem.1 hc
  have := h i hi
  rw [List.getElem?_eq_getElem hi, e] at this
  injection this
theorem Tab.Ok.ents_k (h : T.Ok) (hH : ∀ (b : List Int), hashN T.seed b < 18446744073709551616) (k : Nat) (hk : T.moved + k ≤ T.ob.length) : ({ T with nb := T.nbAt k, ob := T.obAt k, moved := T.moved + k } : Tab).ents.Perm T.ents := h.at_perm hH k hk
theorem Tab.Ok.step_ents (h : T.Ok) (hH : ∀ (b : List Int), hashN T.seed b < 18446744073709551616) : T.step.ents.Perm T.ents := by
  unfold Tab.step
  by_cases ho : T.oid = 0
  · rw [if_pos ho]
  · rw [if_neg ho]
    have hmv := h.mv
    by_cases he : T.moved + min (T.ob.length - T.moved) 16 = T.ob.length
    · rw [if_pos he]
      have hp := h.at_perm hH (T.ob.length - T.moved) (by omega)
      have hn : (T.obAt (T.ob.length - T.moved)).flatten = [] := flat_nil (fun i hi => by
        rw [T.obAt_len] at hi
        rcases Nat.lt_or_ge i T.moved with hlt | hge
        · rw [T.obAt_get _ i (.inl hlt)]; exact h.empt i hlt
        · exact T.obAt_none _ i hge (by omega) hi)
      rw [hn, List.append_nil] at hp
      show ((T.nbAt (T.ob.length - T.moved)).flatten ++ ([] : List (List Ent)).flatten).Perm _
      rw [List.flatten_nil, List.append_nil]
      exact hp
    · rw [if_neg he]
      exact h.ents_k hH 16 (by omega)
theorem Tab.Ok.step_k (h : T.Ok) (ho : T.oid ≠ 0) (k : Nat) (hk : T.moved + k ≤ T.ob.length) (hent : ∀ e ∈ ({ T with nb := T.nbAt k, ob := T.obAt k, moved := T.moved + k } : Tab).ents, e.Ok) (hkeys : (({ T with nb := T.nbAt k, ob := T.obAt k, moved := T.moved + k } : Tab).ents.map Ent.key).Nodup) :
    ({ T with nb := T.nbAt k, ob := T.obAt k, moved := T.moved + k } : Tab).Ok := by
  refine { seed := h.seed, nlen := by show (T.nbAt k).length = _; rw [T.nbAt_len]; exact h.nlen, nk2 := h.nk2, olen := fun _ => ?_, onone := fun e => absurd e ho, mv := ?_, empt := fun i hi => ?_, nbk := h.at_nbk k, obk := fun i c hc e hx => ?_, nmv := fun _ => h.at_nmv ho k, ent := hent, keys := hkeys }
  · obtain ⟨k1, k2⟩ := h.olen ho
    exact ⟨by show (T.obAt k).length = _; rw [T.obAt_len]; exact k1, k2⟩
  · show T.moved + k ≤ (T.obAt k).length
    rw [T.obAt_len]; exact hk
  · have hi : i < T.moved + k := hi
    show (T.obAt k)[i]? = _
    rcases Nat.lt_or_ge i T.moved with hlt | hge
    · rw [T.obAt_get _ i (.inl hlt)]; exact h.empt i hlt
    · exact T.obAt_none _ i hge hi (by omega)
  · have hc : (T.obAt k)[i]? = some c := hc
    rcases Nat.lt_or_ge i T.moved with hlt | hge
    · rw [T.obAt_get _ i (.inl hlt)] at hc; exact h.obk i c hc e hx
    · rcases Nat.lt_or_ge i (T.moved + k) with h2 | h2
      · have hil : i < T.ob.length := by have := (List.getElem?_eq_some_iff.1 hc).1; rwa [T.obAt_len] at this
        rw [T.obAt_none _ i hge h2 hil] at hc
        injection hc with hc
        rw [← hc] at hx; simp at hx
      · rw [T.obAt_get _ i (.inr h2)] at hc; exact h.obk i c hc e hx
theorem Tab.Ok.end_k (h : T.Ok) (k : Nat) (hent : ∀ e ∈ ({ T with nb := T.nbAt k, oid := 0, ob := [], moved := 0 } : Tab).ents, e.Ok) (hkeys : (({ T with nb := T.nbAt k, oid := 0, ob := [], moved := 0 } : Tab).ents.map Ent.key).Nodup) :
    ({ T with nb := T.nbAt k, oid := 0, ob := [], moved := 0 } : Tab).Ok :=
  { seed := h.seed, nlen := by show (T.nbAt k).length = _; rw [T.nbAt_len]; exact h.nlen, nk2 := h.nk2, olen := fun e => absurd rfl e, onone := fun _ => ⟨rfl, rfl⟩, mv := Nat.le_refl _, empt := fun i hi => by have hi : i < 0 := hi; omega, nbk := h.at_nbk k, obk := fun i c hc => by simp at hc, nmv := fun e => absurd rfl e, ent := hent, keys := hkeys }
theorem Tab.Ok.step (h : T.Ok) (hH : ∀ (b : List Int), hashN T.seed b < 18446744073709551616) : T.step.Ok := by
  have hp := h.step_ents hH
  have hent : ∀ e ∈ T.step.ents, e.Ok := fun e he => h.ent e (hp.mem_iff.1 he)
  have hkeys : (T.step.ents.map Ent.key).Nodup := (List.Perm.nodup_iff (hp.map Ent.key)).2 h.keys
  have hmv := h.mv
  unfold Tab.step at hent hkeys ⊢
  by_cases ho : T.oid = 0
  · rw [if_pos ho]; exact h
  · rw [if_neg ho] at hent hkeys ⊢
    by_cases he : T.moved + min (T.ob.length - T.moved) 16 = T.ob.length
    · rw [if_pos he] at hent hkeys ⊢
      exact h.end_k _ hent hkeys
    · rw [if_neg he] at hent hkeys ⊢
      exact h.step_k ho 16 (by omega) hent hkeys
end
theorem chain_reach (s : Nat) (l : Plan) (r : List Nat) : ∀ (c : List Ent), (∀ p ∈ chainL s c, p ∈ l) → (∀ e ∈ c, e.id ≠ 0 ∧ e.kid ≠ 0) → (c = [] ∨ PReach l r (headId c)) → ∀ e ∈ c, PReach l r e.id ∧ PReach l r e.kid ∧ (e.ref ≠ 0 → PReach l r e.ref)
  | [], _, _, _, e, he => by simp at he
  | a :: c, hl, h0, hr, e, he => by
    have ha : PReach l r a.id := by
      rcases hr with hr | hr
      · cases hr
      · exact hr
    have hm : (a.id, Item.node (entN s a (headId c))) ∈ l := hl _ List.mem_cons_self
    rcases List.mem_cons.1 he with rfl | he
    · exact ⟨ha, .step e.id e.kid _ ha hm (by simp [Item.refs, entN]) (h0 e List.mem_cons_self).2, fun hne => .step e.id e.ref _ ha hm (by simp [Item.refs, entN]) hne⟩
    · refine chain_reach s l r c (fun p hp => hl p (List.mem_cons_of_mem _ (List.mem_cons_of_mem _ hp))) (fun e he => h0 e (List.mem_cons_of_mem _ he)) ?_ e he
      cases c with
      | nil => exact .inl rfl
      | cons b c => exact .inr (.step a.id b.id _ ha hm (by simp [Item.refs, entN, headId]) (h0 b (by simp)).1)
theorem chain_ids (s : Nat) : ∀ (c : List Ent) (i : Nat), i ∈ Plan.ids (chainL s c) ↔ ∃ e ∈ c, i = e.id ∨ i = e.kid
  | [], i => by simp [chainL, Plan.ids]
  | a :: c, i => by
    show i ∈ a.id :: a.kid :: Plan.ids (chainL s c) ↔ _
    rw [List.mem_cons, List.mem_cons, chain_ids s c i]
    constructor
    · rintro (h | h | ⟨e, he, h⟩)
      · exact ⟨a, List.mem_cons_self, .inl h⟩
      · exact ⟨a, List.mem_cons_self, .inr h⟩
      · exact ⟨e, List.mem_cons_of_mem _ he, h⟩
    · rintro ⟨e, he, h⟩
      rcases List.mem_cons.1 he with rfl | he
      · rcases h with h | h
        · exact .inl h
        · exact .inr (.inl h)
      · exact .inr (.inr ⟨e, he, h⟩)
theorem flat_ids (s : Nat) (l : List (List Ent)) (i : Nat) : i ∈ Plan.ids (l.flatMap (chainL s)) ↔ ∃ e ∈ l.flatten, i = e.id ∨ i = e.kid := by
  induction l with
  | nil => simp [Plan.ids]
  | cons c l ih =>
    rw [List.flatMap_cons, ids_app, List.mem_append, ih, chain_ids]
    simp only [List.flatten_cons, List.mem_append]
    constructor
    · rintro (⟨e, he, h⟩ | ⟨e, he, h⟩)
      · exact ⟨e, .inl he, h⟩
      · exact ⟨e, .inr he, h⟩
    · rintro ⟨e, he | he, h⟩
      · exact .inl ⟨e, he, h⟩
      · exact .inr ⟨e, he, h⟩
theorem Tab.plan_ids (T : Tab) (t i : Nat) : i ∈ Plan.ids (T.plan t) ↔ i = t ∨ i = T.nid ∨ (T.oid ≠ 0 ∧ i = T.oid) ∨ ∃ e ∈ T.ents, i = e.id ∨ i = e.kid := by
  unfold Tab.plan
  rw [ids_cons, ids_cons, List.mem_cons, List.mem_cons, ids_app, ids_app, List.mem_append, List.mem_append, flat_ids, flat_ids]
  have ho : i ∈ Plan.ids (oldL T.oid (T.ob.map headId)) ↔ T.oid ≠ 0 ∧ i = T.oid := by
    unfold oldL
    by_cases e : T.oid = 0
    · rw [if_pos e]; simp [Plan.ids, e]
    · rw [if_neg e]; simp [Plan.ids, e]
  rw [ho]
  unfold Tab.ents
  simp only [List.mem_append]
  constructor
  · rintro (h | h | h | ⟨e, he, h⟩ | ⟨e, he, h⟩)
    · exact .inl h
    · exact .inr (.inl h)
    · exact .inr (.inr (.inl h))
    · exact .inr (.inr (.inr ⟨e, .inl he, h⟩))
    · exact .inr (.inr (.inr ⟨e, .inr he, h⟩))
  · rintro (h | h | h | ⟨e, he | he, h⟩)
    · exact .inl h
    · exact .inr (.inl h)
    · exact .inr (.inr (.inl h))
    · exact .inr (.inr (.inr (.inl ⟨e, he, h⟩)))
    · exact .inr (.inr (.inr (.inr ⟨e, he, h⟩)))
theorem flat_mem (s : Nat) {l : List (List Ent)} {p : Nat × Item} : p ∈ l.flatMap (chainL s) ↔ ∃ c ∈ l, p ∈ chainL s c := List.mem_flatMap
theorem Tab.plan_reach (T : Tab) (t : Nat) (hn0 : T.oid = 0 → T.ob = []) (h0 : ∀ i ∈ Plan.ids (T.plan t), i ≠ 0) : (∀ i ∈ Plan.ids (T.plan t), PReach (T.plan t) [t] i) ∧ ∀ e ∈ T.ents, e.ref ≠ 0 → PReach (T.plan t) [t] e.ref := by
  have hids := T.plan_ids t
  have ht : PReach (T.plan t) [t] t := .root t (by simp)
  have mt : (t, Item.node (T.tabN T.ents.length)) ∈ T.plan t := List.mem_cons_self
  have mn : (T.nid, Item.node (arrN (T.nb.map headId))) ∈ T.plan t := List.mem_cons_of_mem _ List.mem_cons_self
  have hn : PReach (T.plan t) [t] T.nid := .step t T.nid _ ht mt (by simp [Item.refs, Tab.tabN]) (h0 _ ((hids _).2 (.inr (.inl rfl))))
  have ho : T.oid ≠ 0 → PReach (T.plan t) [t] T.oid := fun e => .step t T.oid _ ht mt (by simp [Item.refs, Tab.tabN]) e
  have hents : ∀ e ∈ T.ents, PReach (T.plan t) [t] e.id ∧ PReach (T.plan t) [t] e.kid ∧ (e.ref ≠ 0 → PReach (T.plan t) [t] e.ref) := fun e he => by
    have hz : ∀ a ∈ T.ents, a.id ≠ 0 ∧ a.kid ≠ 0 := fun a ha => ⟨h0 _ ((hids _).2 (.inr (.inr (.inr ⟨a, ha, .inl rfl⟩)))), h0 _ ((hids _).2 (.inr (.inr (.inr ⟨a, ha, .inr rfl⟩))))⟩
    rcases List.mem_append.1 he with he | he
    · obtain ⟨i, c, hi, hx⟩ := mem_flat he
      have hc : c ∈ T.nb := List.mem_of_getElem? hi
      refine chain_reach T.seed _ _ c (fun p hp => ?_) (fun a ha => hz a (List.mem_append_left _ (List.mem_flatten.2 ⟨c, hc, ha⟩))) ?_ e hx
      · unfold Tab.plan
        refine List.mem_cons_of_mem _ (List.mem_cons_of_mem _ (List.mem_append_right _ (List.mem_append_left _ ?_)))
        exact (flat_mem T.seed).2 ⟨c, hc, hp⟩
      · right
        have : headId c ≠ 0 := by
          cases c with
          | nil => simp at hx
          | cons b c => exact (hz b (List.mem_append_left _ (List.mem_flatten.2 ⟨_, hc, by simp⟩))).1
        refine .step T.nid _ _ hn mn ?_ this
        show headId c ∈ T.nb.map headId
        exact List.mem_map.2 ⟨c, hc, rfl⟩
    · obtain ⟨i, c, hi, hx⟩ := mem_flat he
      have hc : c ∈ T.ob := List.mem_of_getElem? hi
      by_cases e0 : T.oid = 0
      · have : e ∈ T.ents := List.mem_append_right _ he
        refine chain_reach T.seed _ _ c (fun p hp => ?_) (fun a ha => hz a (List.mem_append_right _ (List.mem_flatten.2 ⟨c, hc, ha⟩))) ?_ e hx
        · unfold Tab.plan
          refine List.mem_cons_of_mem _ (List.mem_cons_of_mem _ (List.mem_append_right _ (List.mem_append_right _ ?_)))
          exact (flat_mem T.seed).2 ⟨c, hc, hp⟩
        · rw [hn0 e0] at hc; simp at hc
      · refine chain_reach T.seed _ _ c (fun p hp => ?_) (fun a ha => hz a (List.mem_append_right _ (List.mem_flatten.2 ⟨c, hc, ha⟩))) ?_ e hx
        · unfold Tab.plan
          refine List.mem_cons_of_mem _ (List.mem_cons_of_mem _ (List.mem_append_right _ (List.mem_append_right _ ?_)))
          exact (flat_mem T.seed).2 ⟨c, hc, hp⟩
        · right
          have : headId c ≠ 0 := by
            cases c with
            | nil => simp at hx
            | cons b c => exact (hz b (List.mem_append_right _ (List.mem_flatten.2 ⟨_, hc, by simp⟩))).1
          have mo : (T.oid, Item.node (arrN (T.ob.map headId))) ∈ T.plan t := by
            unfold Tab.plan oldL
            rw [if_neg e0]
            exact List.mem_cons_of_mem _ (List.mem_cons_of_mem _ (List.mem_append_left _ (by simp)))
          refine .step T.oid _ _ (ho e0) mo ?_ this
          show headId c ∈ T.ob.map headId
          exact List.mem_map.2 ⟨c, hc, rfl⟩
  refine ⟨fun i hi => ?_, fun e he => (hents e he).2.2⟩
  rcases (hids i).1 hi with rfl | rfl | ⟨e, rfl⟩ | ⟨e, he, rfl | rfl⟩
  · exact ht
  · exact hn
  · exact ho e
  · exact (hents e he).1
  · exact (hents e he).2.1
end Go.Proofs.YtglglknhifjbaaaGreatDoor.Sp
