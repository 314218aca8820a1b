import Derived.Test.YtglglknhifjbaaaGreatDoorTabR
import Derived.Test.YtglglknhifjbaaaGreatDoorTabP
namespace Go.Proofs.YtglglknhifjbaaaGreatDoor.Sp
set_option linter.unusedVariables false
set_option linter.unusedSimpArgs false
def arrsP (T : Tab) : Plan := (T.nid, .node (arrN (T.nb.map headId))) :: oldL T.oid (T.ob.map headId)
def Tab.planL (t : Nat) (T : Tab) (len : Nat) : Plan := (t, .node (T.tabN len)) :: (arrsP T ++ (T.nb.flatMap (chainL T.seed) ++ T.ob.flatMap (chainL T.seed)))
theorem Tab.plan_eq (t : Nat) (T : Tab) : T.plan t = T.planL t T.ents.length := rfl
def Tab.heads (T : Tab) (h : Nat) : List Nat := (T.arr h).map headId
def Tab.other (T : Tab) (h : Nat) : Plan := if T.inOld h then [(T.nid, .node (arrN (T.nb.map headId)))] else oldL T.oid (T.ob.map headId)
theorem inOld_oid {T : Tab} {h : Nat} (hi : T.inOld h = true) : T.oid ≠ 0 := fun e => by unfold Tab.inOld at hi; simp [e] at hi
theorem Tab.arrs_open (T : Tab) (h : Nat) (c : List Ent) : (arrsP (T.lay h c)).Perm ((T.aid h, .node (arrN ((T.heads h).set (T.slot h) (headId c)))) :: T.other h) := by
  unfold arrsP Tab.lay Tab.aid Tab.heads Tab.arr Tab.other
  by_cases hi : T.inOld h = true
  · rw [hi]
    simp only [if_true]
    unfold oldL
    rw [if_neg (inOld_oid hi), List.map_set]
    exact List.Perm.swap _ _ _
  · rw [Bool.not_eq_true] at hi
    rw [hi]
    simp only [Bool.false_eq_true, if_false]
    rw [List.map_set]
theorem Tab.lay_tabN (T : Tab) (h : Nat) (c : List Ent) (len : Nat) : (T.lay h c).tabN len = T.tabN len := by
  unfold Tab.lay Tab.tabN
  split <;> rfl
section
variable {T : Tab} {G : Gr} {t len : Nat} {rest : Plan}
theorem Tab.Ok.open_ (hT : T.Ok) (h : Nat) (hh : h < 18446744073709551616) (c : List Ent) (t len : Nat) :
    ((T.lay h c).planL t len).Perm ((t, .node (T.tabN len)) :: (T.aid h, .node (arrN ((T.heads h).set (T.slot h) (headId c)))) :: (T.other h ++ (chainL T.seed c ++ T.hole h))) := by
  unfold Tab.planL
  rw [T.lay_tabN, T.lay_seed]
  refine List.Perm.cons _ ?_
  exact (T.arrs_open h c).append (hT.chains h hh c)
theorem Tab.Ok.heads_get (hT : T.Ok) (h : Nat) (hh : h < 18446744073709551616) : (T.heads h)[T.slot h]? = some (headId (T.cur h)) := by
  unfold Tab.heads
  rw [List.getElem?_map, hT.slot_lt h hh]; rfl
theorem Sat.tab (S : Sat G (T.planL t len ++ rest)) : G.node t = T.tabN len := S.node (List.mem_append_left _ List.mem_cons_self)
theorem Sat.new (S : Sat G (T.planL t len ++ rest)) : G.node T.nid = arrN (T.nb.map headId) :=
  S.node (List.mem_append_left _ (List.mem_cons_of_mem _ (List.mem_append_left _ List.mem_cons_self)))
theorem Sat.old (S : Sat G (T.planL t len ++ rest)) (ho : T.oid ≠ 0) : G.node T.oid = arrN (T.ob.map headId) :=
  S.node (List.mem_append_left _ (List.mem_cons_of_mem _ (List.mem_append_left _ (List.mem_cons_of_mem _ (by unfold oldL; rw [if_neg ho]; exact List.mem_cons_self)))))
theorem Sat.arr (S : Sat G (T.planL t len ++ rest)) (h : Nat) : G.node (T.aid h) = arrN (T.heads h) := by
  unfold Tab.aid Tab.heads Tab.arr
  by_cases hi : T.inOld h = true
  · rw [hi]
    simp only [if_true]
    exact S.old (inOld_oid hi)
  · rw [Bool.not_eq_true] at hi
    rw [hi]
    simp only [Bool.false_eq_true, if_false]
    exact S.new
theorem chain_mem (s : Nat) : ∀ (c1 c2 : List Ent) (e : Ent), (e.id, Item.node (entN s e (headId c2))) ∈ chainL s (c1 ++ e :: c2) ∧ (e.kid, Item.blob e.key) ∈ chainL s (c1 ++ e :: c2)
  | [], c2, e => ⟨List.mem_cons_self, List.mem_cons_of_mem _ List.mem_cons_self⟩
  | a :: c1, c2, e => ⟨List.mem_cons_of_mem _ (List.mem_cons_of_mem _ (chain_mem s c1 c2 e).1), List.mem_cons_of_mem _ (List.mem_cons_of_mem _ (chain_mem s c1 c2 e).2)⟩
theorem Tab.Ok.chain_in (hT : T.Ok) (h : Nat) (hh : h < 18446744073709551616) {p : Nat × Item} (hp : p ∈ chainL T.seed (T.cur h)) : p ∈ T.planL t len := by
  have h1 := hT.slot_lt h hh
  unfold Tab.planL
  refine List.mem_cons_of_mem _ (List.mem_append_right _ ?_)
  unfold Tab.arr at h1
  by_cases hi : T.inOld h = true
  · rw [hi] at h1
    simp only [if_true] at h1
    exact List.mem_append_right _ ((flat_mem T.seed).2 ⟨_, List.mem_of_getElem? h1, hp⟩)
  · rw [Bool.not_eq_true] at hi
    rw [hi] at h1
    simp only [Bool.false_eq_true, if_false] at h1
    exact List.mem_append_left _ ((flat_mem T.seed).2 ⟨_, List.mem_of_getElem? h1, hp⟩)
theorem Sat.ent (S : Sat G (T.planL t len ++ rest)) (hT : T.Ok) (h : Nat) (hh : h < 18446744073709551616) {c1 c2 : List Ent} {e : Ent} (hc : T.cur h = c1 ++ e :: c2) : G.node e.id = entN T.seed e (headId c2) ∧ BlobN (G.node e.kid) e.key := by
  obtain ⟨m1, m2⟩ := chain_mem T.seed c1 c2 e
  rw [← hc] at m1 m2
  exact ⟨S.node (List.mem_append_left _ (hT.chain_in h hh m1)), S.blob (List.mem_append_left _ (hT.chain_in h hh m2))⟩
theorem Tab.Ok.ob0 (hT : T.Ok) (h : T.oid = 0) : T.ob = [] := (hT.onone h).1
theorem Lay.tab {hs : List Nat} {bs : List (Option Nat)} (L : Lay G hs bs) {hd : Nat} (hh : (hd, t) ∈ G.hands) (hT : T.Ok) (S : Sat G (T.plan t ++ rest)) :
    (∀ i ∈ Plan.ids (T.plan t), Live hs bs i) ∧ ∀ e ∈ T.ents, e.ref = 0 ∨ Live hs bs e.ref := by
  have h0 : ∀ i ∈ Plan.ids (T.plan t), i ≠ 0 := fun i hi => by
    obtain ⟨x, hx⟩ := ids_mem.1 hi
    have := S.lo i x (List.mem_append_left _ hx)
    omega
  have ht0 := h0 t (by unfold Tab.plan; rw [ids_cons]; exact List.mem_cons_self)
  obtain ⟨h1, h2⟩ := T.plan_reach t hT.ob0 h0
  have hr : ∀ i ∈ [t], Reach G i := fun i hi => by
    rw [List.mem_singleton] at hi
    subst hi
    exact .hand hd i hh ht0
  refine ⟨fun i hi => L.reach ((h1 i hi).reach S.left hr), fun e he => ?_⟩
  by_cases e0 : e.ref = 0
  · exact .inl e0
  · exact .inr (L.reach ((h2 e he e0).reach S.left hr))
def Tab.beg (T : Tab) (id k : Nat) : Tab := { T with nid := id, nk := k, nb := List.replicate (2 ^ k) [], oid := T.nid, ok := T.nk, ob := T.nb, moved := 0 }
theorem flatten_nils (n : Nat) : (List.replicate n ([] : List Ent)).flatten = [] := flat_nil (fun i hi => by rw [List.length_replicate] at hi; rw [List.getElem?_replicate, if_pos hi])
theorem Tab.Ok.beg_ents (hT : T.Ok) (h0 : T.oid = 0) (id k : Nat) : (T.beg id k).ents = T.ents := by
  unfold Tab.ents Tab.beg
  rw [hT.ob0 h0, flatten_nils]; simp
theorem Tab.Ok.beg (hT : T.Ok) (h0 : T.oid = 0) (id k : Nat) (hk : 2 ≤ k ∧ k ≤ 20) (hn : T.nid ≠ 0) : (T.beg id k).Ok := by
  have he := hT.beg_ents h0 id k
  refine { seed := hT.seed, nlen := List.length_replicate, nk2 := hk, olen := fun _ => ⟨hT.nlen, hT.nk2⟩, onone := fun e => absurd e hn, mv := Nat.zero_le _, empt := fun i hi => absurd hi (Nat.not_lt_zero _), nbk := fun i c hc e hx => ?_, obk := hT.nbk, nmv := fun _ e hx => ?_, ent := fun e hx => hT.ent e (he ▸ hx), keys := by rw [he]; exact hT.keys }
  · have hc : (List.replicate (2 ^ k) ([] : List Ent))[i]? = some c := hc
    rw [List.getElem?_replicate] at hc
    split at hc
    · injection hc with hc; rw [← hc] at hx; simp at hx
    · cases hc
  · have hx : e ∈ (List.replicate (2 ^ k) ([] : List Ent)).flatten := hx
    rw [flatten_nils] at hx; simp at hx
theorem flatMap_nils (s n : Nat) : (List.replicate n ([] : List Ent)).flatMap (chainL s) = [] := by
  rw [List.flatMap_eq_nil_iff]
  intro c hc
  rw [List.eq_of_mem_replicate hc]; rfl
theorem map_nils (n : Nat) : (List.replicate n ([] : List Ent)).map headId = List.replicate n 0 := by rw [List.map_replicate]; rfl
theorem Tab.Ok.beg_plan (hT : T.Ok) (h0 : T.oid = 0) (id k : Nat) (hn : T.nid ≠ 0) (t len : Nat) :
    (T.beg id k).planL t len = (t, .node ⟨4, [id, T.nid], [T.seed, len, 0]⟩) :: (id, .node (arrN (List.replicate (2 ^ k) 0))) :: (T.planL t len).tail := by
  have hob := hT.ob0 h0
  unfold Tab.planL arrsP Tab.tabN Tab.beg oldL
  simp only [hob, h0, if_neg hn, if_true, flatMap_nils, map_nils, List.tail_cons, List.cons_append, List.nil_append, List.append_nil, List.flatMap_nil]
end
end Go.Proofs.YtglglknhifjbaaaGreatDoor.Sp
namespace Go.Proofs.YtglglknhifjbaaaGreatDoor.Sp
set_option linter.unusedVariables false
set_option linter.unusedSimpArgs false
theorem Sat.turn_of {G : Gr} {i : Nat} {x y : Item} {l l' m : Plan} (h : Sat G l) (h1 : l.Perm ((i, x) :: m)) (n : Node) (hn : y.ok n) (h2 : l'.Perm ((i, y) :: m)) : Sat (G.put i n) l' :=
  ((h.perm h1).turn n hn).perm h2.symm
theorem Sat.turn2_of {G : Gr} {i j : Nat} {x y u v : Item} {l l' m : Plan} (h : Sat G l) (h1 : l.Perm ((i, x) :: (j, u) :: m)) (n k : Node) (hn : y.ok n) (hk : v.ok k) (h2 : l'.Perm ((i, y) :: (j, v) :: m)) : Sat ((G.put i n).put j k) l' :=
  (((h.perm h1).turn n hn).turn_of (List.Perm.swap _ _ _) k hk (h2.trans (List.Perm.swap _ _ _)))
def Tab.midP (T : Tab) (t len mv : Nat) (nb ob : List (List Ent)) (orefs : List Nat) (r : List Ent) : Plan :=
  (t, .node ⟨4, [T.nid, T.oid], [T.seed, len, mv]⟩) :: (T.nid, .node (arrN (nb.map headId))) :: (T.oid, .node (arrN orefs)) :: (nb.flatMap (chainL T.seed) ++ (ob.flatMap (chainL T.seed) ++ chainL T.seed r))
section
variable {T : Tab} {G : Gr} {t len mv : Nat} {rest : Plan} {nb ob : List (List Ent)} {orefs : List Nat} {r : List Ent}
theorem Tab.mid_start (T : Tab) (ho : T.oid ≠ 0) (t len : Nat) : T.planL t len = T.midP t len T.moved T.nb T.ob (T.ob.map headId) [] := by
  unfold Tab.planL Tab.midP arrsP oldL Tab.tabN
  rw [if_neg ho]
  show _ :: (_ :: _ :: ([] ++ _)) = _
  rw [List.nil_append]
  show _ = _ :: _ :: _ :: (_ ++ (_ ++ []))
  rw [List.append_nil]
theorem Sat.mid_mv (S : Sat G (T.midP t len mv nb ob orefs r ++ rest)) (mv' : Nat) : Sat (G.put t ⟨4, [T.nid, T.oid], [T.seed, len, mv']⟩) (T.midP t len mv' nb ob orefs r ++ rest) :=
  S.turn_of (List.Perm.refl _) _ (y := .node _) rfl (List.Perm.refl _)
theorem mid_open (T : Tab) (t len mv : Nat) (nb ob : List (List Ent)) (orefs : List Nat) (i : Nat) (c : List Ent) (hi : ob[i]? = some c) : (T.midP t len mv nb ob orefs []).Perm (T.midP t len mv nb (ob.set i []) orefs c) := by
  unfold Tab.midP
  refine List.Perm.cons _ (List.Perm.cons _ (List.Perm.cons _ (List.Perm.append_left _ ?_)))
  have h := flat_open (chainL T.seed) rfl ob i c hi
  show (ob.flatMap (chainL T.seed) ++ []).Perm _
  rw [List.append_nil]
  exact h.trans List.perm_append_comm
theorem Sat.mid_hang {e : Ent} (S : Sat G (T.midP t len mv nb ob orefs (e :: r) ++ rest)) (b : Nat) (hb : b < nb.length) (hbe : bkt T.nk (e.hash T.seed) = b) :
    Sat ((G.put e.id (entN T.seed e (headId (nb.getD b [])))).put T.nid (arrN ((nb.map headId).set b e.id))) (T.midP t len mv (hang1 T.nk T.seed nb e) ob orefs r ++ rest) := by
  have hg : nb[b]? = some (nb.getD b []) := by rw [List.getD_eq_getElem?_getD, List.getElem?_eq_getElem hb]; rfl
  have p1 := flat_open (chainL T.seed) rfl nb b _ hg
  have p2 := flat_perm (chainL T.seed) rfl nb b (e :: nb.getD b []) hb
  have hm : (hang1 T.nk T.seed nb e).map headId = (nb.map headId).set b e.id := by unfold hang1; rw [hbe, List.map_set]; rfl
  have hf : (hang1 T.nk T.seed nb e).flatMap (chainL T.seed) = (nb.set b (e :: nb.getD b [])).flatMap (chainL T.seed) := by unfold hang1; rw [hbe]
  generalize nb.getD b [] = d at p1 p2 hf ⊢
  refine S.turn2_of (m := (t, .node ⟨4, [T.nid, T.oid], [T.seed, len, mv]⟩) :: (T.oid, .node (arrN orefs)) :: (e.kid, .blob e.key) :: (nb.flatMap (chainL T.seed) ++ (ob.flatMap (chainL T.seed) ++ (chainL T.seed r ++ rest)))) (x := .node (entN T.seed e (headId r))) (u := .node (arrN (nb.map headId))) (y := .node (entN T.seed e (headId d))) (v := .node (arrN ((nb.map headId).set b e.id))) ?_ _ _ rfl rfl ?_
  · rw [List.perm_iff_count]
    intro a
    unfold Tab.midP
    show List.count a (_ :: _ :: _ :: (_ ++ (_ ++ (_ :: _ :: chainL T.seed r))) ++ rest) = _
    simp only [List.count_append, List.count_cons, List.cons_append]
    omega
  · rw [List.perm_iff_count]
    intro a
    have q1 := p1.count_eq a
    have q2 := p2.count_eq a
    unfold Tab.midP
    rw [hm, hf]
    have hc : chainL T.seed (e :: d) = (e.id, .node (entN T.seed e (headId d))) :: (e.kid, .blob e.key) :: chainL T.seed d := rfl
    rw [hc] at q2
    simp only [List.count_append, List.count_cons, List.cons_append] at q1 q2 ⊢
    omega
theorem Sat.mid_clear (S : Sat G (T.midP t len mv nb ob orefs r ++ rest)) (i v : Nat) : Sat (G.put T.oid (arrN (orefs.set i v))) (T.midP t len mv nb ob (orefs.set i v) r ++ rest) :=
  S.turn_of (i := T.oid) (x := .node (arrN orefs)) (y := .node (arrN (orefs.set i v))) (m := (t, .node ⟨4, [T.nid, T.oid], [T.seed, len, mv]⟩) :: (T.nid, .node (arrN (nb.map headId))) :: (nb.flatMap (chainL T.seed) ++ (ob.flatMap (chainL T.seed) ++ chainL T.seed r) ++ rest))
    (by unfold Tab.midP; exact ((List.Perm.cons _ (List.Perm.swap _ _ _)).trans (List.Perm.swap _ _ _))) _ rfl
    (by unfold Tab.midP; exact ((List.Perm.cons _ (List.Perm.swap _ _ _)).trans (List.Perm.swap _ _ _)))
theorem Sat.mid_tab (S : Sat G (T.midP t len mv nb ob orefs r ++ rest)) : G.node t = ⟨4, [T.nid, T.oid], [T.seed, len, mv]⟩ := S.node List.mem_cons_self
theorem Sat.mid_new (S : Sat G (T.midP t len mv nb ob orefs r ++ rest)) : G.node T.nid = arrN (nb.map headId) := S.node (List.mem_cons_of_mem _ List.mem_cons_self)
theorem Sat.mid_old (S : Sat G (T.midP t len mv nb ob orefs r ++ rest)) : G.node T.oid = arrN orefs := S.node (List.mem_cons_of_mem _ (List.mem_cons_of_mem _ List.mem_cons_self))
theorem Sat.mid_ent {e : Ent} (S : Sat G (T.midP t len mv nb ob orefs (e :: r) ++ rest)) : G.node e.id = entN T.seed e (headId r) :=
  S.node (List.mem_append_left _ (List.mem_cons_of_mem _ (List.mem_cons_of_mem _ (List.mem_cons_of_mem _ (List.mem_append_right _ (List.mem_append_right _ List.mem_cons_self))))))
theorem Sat.mid_done {T' : Tab} (S : Sat G (T.midP t len mv nb ob orefs [] ++ rest)) (hob : ob.flatMap (chainL T.seed) = []) (hT' : T' = { T with nb := nb, oid := 0, ob := [], moved := 0 }) :
    Sat (G.put t ⟨4, [T.nid, 0], [T.seed, len, 0]⟩) (T'.planL t len ++ rest) := by
  have hp : ((t, Item.node ⟨4, [T.nid, 0], [T.seed, len, 0]⟩) :: (T.oid, .node (arrN orefs)) :: ((T.nid, Item.node (arrN (nb.map headId))) :: nb.flatMap (chainL T.seed)) ++ rest).Perm ((T.oid, .node (arrN orefs)) :: (T'.planL t len ++ rest)) := by
    subst hT'
    unfold Tab.planL arrsP oldL Tab.tabN
    simp only [if_true, List.cons_append, List.nil_append, List.flatMap_nil, List.append_nil]
    exact List.Perm.swap _ _ _
  refine Sat.tail (p := (T.oid, .node (arrN orefs))) (Sat.perm ?_ hp)
  refine S.turn_of (i := t) (x := .node ⟨4, [T.nid, T.oid], [T.seed, len, mv]⟩) (y := .node ⟨4, [T.nid, 0], [T.seed, len, 0]⟩) (m := (T.oid, .node (arrN orefs)) :: (T.nid, Item.node (arrN (nb.map headId))) :: (nb.flatMap (chainL T.seed) ++ rest)) ?_ _ rfl (List.Perm.refl _)
  unfold Tab.midP
  rw [hob, List.nil_append]
  show ((t, _) :: (T.nid, _) :: (T.oid, _) :: ((nb.flatMap (chainL T.seed) ++ []) ++ rest)).Perm _
  rw [List.append_nil]
  exact List.Perm.cons _ (List.Perm.swap _ _ _)
theorem Sat.edit {h : Nat} {c1 c2 : List Ent} {e e' : Ent} (S : Sat G (T.planL t len ++ rest)) (hT : T.Ok) (hh : h < 18446744073709551616) (hc : T.cur h = c1 ++ e :: c2) (hid : e'.id = e.id) (hkid : e'.kid = e.kid) (hkey : e'.key = e.key) :
    Sat (G.put e.id (entN T.seed e' (headId c2))) ((T.lay h (c1 ++ e' :: c2)).planL t len ++ rest) := by
  have o1 := hT.open_ h hh (T.cur h) t len
  rw [hT.lay_cur h hh, hc] at o1
  have o2 := hT.open_ h hh (c1 ++ e' :: c2) t len
  have hhd : headId (c1 ++ e' :: c2) = headId (c1 ++ e :: c2) := by cases c1 with | nil => exact hid | cons a c1 => rfl
  have k1 : chainL T.seed (c1 ++ e :: c2) = chainTo T.seed c1 e.id ++ ((e.id, .node (entN T.seed e (headId c2))) :: (e.kid, .blob e.key) :: chainL T.seed c2) := chain_app _ _ _
  have k2 : chainL T.seed (c1 ++ e' :: c2) = chainTo T.seed c1 e.id ++ ((e.id, .node (entN T.seed e' (headId c2))) :: (e.kid, .blob e.key) :: chainL T.seed c2) := by
    rw [chain_app]
    show chainTo T.seed c1 e'.id ++ ((e'.id, _) :: (e'.kid, .blob e'.key) :: chainL T.seed c2) = _
    rw [hid, hkid, hkey]
  rw [hhd, k2] at o2
  rw [k1] at o1
  refine S.turn_of (x := .node (entN T.seed e (headId c2))) (y := .node (entN T.seed e' (headId c2))) (m := (t, .node (T.tabN len)) :: (T.aid h, .node (arrN ((T.heads h).set (T.slot h) (headId (c1 ++ e :: c2))))) :: (T.other h ++ (chainTo T.seed c1 e.id ++ ((e.kid, .blob e.key) :: chainL T.seed c2) ++ T.hole h) ++ rest)) ?_ _ rfl ?_
  · rw [List.perm_iff_count]
    intro a
    have q1 := o1.count_eq a
    simp only [List.count_append, List.count_cons, List.cons_append] at q1 ⊢
    omega
  · rw [List.perm_iff_count]
    intro a
    have q1 := o2.count_eq a
    simp only [List.count_append, List.count_cons, List.cons_append] at q1 ⊢
    omega
theorem Sat.push {e : Ent} {nx : Nat} (S : Sat G ((e.id, .node (entN T.seed e nx)) :: (e.kid, .blob e.key) :: (T.planL t len ++ rest))) (hT : T.Ok) (hh : e.hash T.seed < 18446744073709551616) :
    Sat ((G.put e.id (entN T.seed e (headId (T.cur (e.hash T.seed))))).put (T.aid (e.hash T.seed)) (arrN ((T.heads (e.hash T.seed)).set (T.slot (e.hash T.seed)) e.id))) ((T.push e).planL t len ++ rest) := by
  have o1 := hT.open_ _ hh (T.cur (e.hash T.seed)) t len
  rw [hT.lay_cur _ hh] at o1
  have o2 := hT.open_ _ hh (e :: T.cur (e.hash T.seed)) t len
  have hs : (T.heads (e.hash T.seed)).set (T.slot (e.hash T.seed)) (headId (T.cur (e.hash T.seed))) = T.heads (e.hash T.seed) := set_get_self _ _ _ (hT.heads_get _ hh)
  rw [hs] at o1
  unfold Tab.push
  generalize T.lay (e.hash T.seed) (e :: T.cur (e.hash T.seed)) = T2 at o2 ⊢
  have k2 : chainL T.seed (e :: T.cur (e.hash T.seed)) = (e.id, .node (entN T.seed e (headId (T.cur (e.hash T.seed))))) :: (e.kid, .blob e.key) :: chainL T.seed (T.cur (e.hash T.seed)) := rfl
  rw [k2] at o2
  generalize T.cur (e.hash T.seed) = c at o1 o2 ⊢
  have hhd : headId (e :: c) = e.id := rfl
  rw [hhd] at o2
  generalize e.hash T.seed = h at o1 o2 ⊢
  refine S.turn2_of (x := .node (entN T.seed e nx)) (y := .node (entN T.seed e (headId c))) (u := .node (arrN (T.heads h))) (v := .node (arrN ((T.heads h).set (T.slot h) e.id))) (m := (e.kid, .blob e.key) :: (t, .node (T.tabN len)) :: (T.other h ++ (chainL T.seed c ++ T.hole h) ++ rest)) ?_ _ _ rfl rfl ?_
  · rw [List.perm_iff_count]
    intro a
    have q1 := o1.count_eq a
    simp only [List.count_append, List.count_cons, List.cons_append] at q1 ⊢
    omega
  · rw [List.perm_iff_count]
    intro a
    have q1 := o2.count_eq a
    simp only [List.count_append, List.count_cons, List.cons_append] at q1 ⊢
    omega
theorem Sat.setLen (S : Sat G (T.planL t len ++ rest)) (n : Nat) : Sat (G.put t (T.tabN n)) (T.planL t n ++ rest) :=
  S.turn_of (List.Perm.refl _) _ (y := .node _) rfl (List.Perm.refl _)
theorem Sat.beg {id k : Nat} (S : Sat G ((id, .node (arrN (List.replicate (2 ^ k) 0))) :: (T.planL t len ++ rest))) (hT : T.Ok) (h0 : T.oid = 0) (hn : T.nid ≠ 0) :
    Sat (G.put t ⟨4, [id, T.nid], [T.seed, len, 0]⟩) ((T.beg id k).planL t len ++ rest) := by
  rw [hT.beg_plan h0 id k hn]
  have e : T.planL t len = (t, .node (T.tabN len)) :: (T.planL t len).tail := rfl
  rw [e] at S
  exact S.turn_of (List.Perm.swap _ _ _) _ (y := .node _) rfl (List.Perm.refl _)
end
end Go.Proofs.YtglglknhifjbaaaGreatDoor.Sp
namespace Go.Proofs.YtglglknhifjbaaaGreatDoor.Sp
open Go.RowKit Go.Proofs.YtglglknhifjbaaaGreatDoorW.PrintWords Go.Proofs.YtglglknhifjbaaaGreatDoorW.PrintLast Go.Proofs.YtglglknhifjbaaaGreatDoorW.PrintMore
set_option linter.unusedVariables false
set_option linter.unusedSimpArgs false
section
variable {w w' : World} {own own' : Own} {hp : Nat} {G : Gr} {hs : List Nat} {bs : List (Option Nat)} {i : Nat}
theorem HO.lay (H : HO w own hp G hs bs) : Lay G hs bs := by obtain ⟨M, x, hM, R⟩ := H; exact R.toLay
theorem HO.fr {P : Nat → Prop} (H : HO w own hp G hs bs) (hf : Fr P w w') (hP : ∀ b, P b → own b = 0) : HO w' own hp G hs bs := by
  obtain ⟨M, x, hM, R⟩ := H
  exact ⟨M, x, hM.fr hf hP, R⟩
theorem HO.below (H : HO w own hp G hs bs) (hb : Below w.heap.size w w') : HO w' own hp G hs bs := H.fr (Fr.below (P := fun _ => False) hb) (fun b hb => hb.elim)
theorem HO.drewN (H : HO w own hp G hs bs) (n : Nat) : HO (w.drewN n) own hp G hs bs := H.fr ((Fr.refl (fun _ => False) w).drewN n) (fun b hb => hb.elim)
theorem HO.drew (H : HO w own hp G hs bs) : HO w.drew own hp G hs bs := H.fr ((Fr.refl (fun _ => False) w).drew) (fun b hb => hb.elim)
theorem HO.alloc (H : HO w own hp G hs bs) (o : Obj) : HO (w.alloc o) own hp G hs bs := H.fr ((Fr.refl (fun _ => False) w).alloc o) (fun b hb => hb.elim)
theorem HO.top (H : HO w own hp G hs bs) : ∀ b, w.heap.size ≤ b → own b = 0 := by obtain ⟨M, x, hM, R⟩ := H; exact hM.top
theorem HO.ohd (H : HO w own hp G hs bs) : own hp = 1 := by obtain ⟨M, x, hM, R⟩ := H; exact hM.ohd
theorem HO.lt (H : HO w own hp G hs bs) : hp < w.heap.size := by obtain ⟨M, x, hM, R⟩ := H; exact blk_lt hM.hd
theorem HStep.below (own : Own) (hb : Below w.heap.size w w') : HStep w own w' own := ⟨Fr.below hb, Ow.refl own w⟩
theorem HStep.block (h : HStep w own w' own') {b : Nat} (hb : b < w.heap.size) (h0 : own b = 0) : w'.heap[b]? = w.heap[b]? := h.fr.block b hb (by simp [h0])
theorem HStep.own0 (h : HStep w own w' own') {b : Nat} (hb : b < w.heap.size) (h0 : own b = 0) : own' b = 0 := (h.ow b hb).trans h0
theorem HStep.cell (h : HStep w own w' own') {p : Addr} (hb : p.block < w.heap.size) (h0 : own p.block = 0) : w'.cell? p = w.cell? p := h.fr.cell hb (by simp [h0])
theorem bsum_mem (G : Gr) : ∀ (bs : List (Option Nat)) (i : Nat), some i ∈ bs → G.sz i + 1 ≤ bsum G bs
  | [], i, h => by simp at h
  | o :: bs, i, h => by
    unfold bsum
    rw [List.map_cons, List.sum_cons]
    rcases List.mem_cons.1 h with rfl | h
    · show G.sz i + 1 ≤ (G.sz i + 1) + _
      omega
    · have := bsum_mem G bs i h
      unfold bsum at this
      omega
theorem HO.sz_le (H : HO w own hp G hs bs) (h : Live hs bs i) : G.sz i + 1 ≤ 1048576 := by
  obtain ⟨M, x, hM, R⟩ := H
  rcases h with h | h
  · have := R.small i h; omega
  · have h1 := bsum_mem G bs i h
    have h2 := R.large
    have h3 := R.s3
    have h4 := R.s4
    omega
theorem SrcH.b {A : Option Addr} {b : List Nat} (h : SrcH w own A b) : SrcB w A b := fun h0 => by
  obtain ⟨g, o, e, h1, h2, h3⟩ := h h0
  exact ⟨g, o, e, h2, h3⟩
theorem SrcB.below {A : Option Addr} {b : List Nat} (h : SrcB w A b) (hb : Below w.heap.size w w') : SrcB w' A b := fun h0 => by
  obtain ⟨g, o, e, h2, h3⟩ := h h0
  exact ⟨g, o, e, Nat.lt_of_lt_of_le h2 hb.size, fun j hj => by rw [hb.cell h2]; exact h3 j hj⟩
structure TAt (w : World) (own : Own) (hp tp hd : Nat) : Prop where
  cell : w.heap[tp]? = some (.cells #[.pointer (some ⟨hp, 0, none⟩), .int .i64 ((hd : Int) + 1)] 142 (0, 0))
  own0 : own tp = 0
  hl : hd ≤ 1000
theorem TAt.step {tp hd : Nat} (h : TAt w own hp tp hd) (hst : HStep w own w' own') : TAt w' own' hp tp hd :=
  ⟨(hst.block (blk_lt h.cell) h.own0).trans h.cell, hst.own0 (blk_lt h.cell) h.own0, h.hl⟩
theorem TAt.below {tp hd : Nat} (h : TAt w own hp tp hd) (hb : Below w.heap.size w w') : TAt w' own hp tp hd := h.step (HStep.below own hb)
theorem TAt.drewN {tp hd : Nat} (h : TAt w own hp tp hd) (n : Nat) : TAt (w.drewN n) own hp tp hd := h.step (HStep.drewN n)
theorem TAt.c0 {tp hd : Nat} (h : TAt w own hp tp hd) : w.cell? ⟨tp, 0, none⟩ = some (.pointer (some ⟨hp, 0, none⟩)) := by simp [World.cell?, h.cell]
theorem TAt.c1 {tp hd : Nat} (h : TAt w own hp tp hd) : w.cell? ⟨tp, 1, none⟩ = some (.int .i64 ((hd : Int) + 1)) := by simp [World.cell?, h.cell]
end
end Go.Proofs.YtglglknhifjbaaaGreatDoor.Sp
namespace Go.Proofs.YtglglknhifjbaaaGreatDoor.Sp
open Go.RowKit Go.Proofs.YtglglknhifjbaaaGreatDoorW.PrintWords Go.Proofs.YtglglknhifjbaaaGreatDoorW.PrintLast Go.Proofs.YtglglknhifjbaaaGreatDoorW.PrintMore
set_option linter.unusedVariables false
set_option linter.unusedSimpArgs false
def dbN : List Nat := [0, 1, 56, 2, 57, 49, 28, 3, 61, 58, 42, 50, 38, 29, 17, 4, 62, 47, 59, 36, 45, 43, 51, 22, 53, 39, 33, 30, 24, 18, 12, 5, 63, 55, 48, 27, 60, 41, 37, 16, 46, 35, 44, 21, 52, 32, 23, 11, 54, 26, 40, 15, 34, 20, 31, 10, 25, 14, 19, 9, 13, 8, 7, 6]
structure Gl (w : World) (own : Own) : Prop where
  cell : ∀ j (h : j < dbN.length), w.cell? ⟨2, j, none⟩ = some (.int .u8 (dbN[j] : Int))
  lt : 2 < w.heap.size
  own0 : own 2 = 0
theorem Gl.step {w w' : World} {own own' : Own} (h : Gl w own) (hst : HStep w own w' own') : Gl w' own' :=
  ⟨fun j hj => by rw [hst.cell (p := ⟨2, j, none⟩) h.lt h.own0]; exact h.cell j hj, Nat.lt_of_lt_of_le h.lt hst.fr.size, hst.own0 h.lt h.own0⟩
theorem Gl.below {w w' : World} {own : Own} (h : Gl w own) (hb : Below w.heap.size w w') : Gl w' own := h.step (HStep.below own hb)
theorem Gl.drewN {w : World} {own : Own} (h : Gl w own) (n : Nat) : Gl (w.drewN n) own := h.step (HStep.drewN n)
def dbIdx (k : Nat) : Nat := 2 ^ k * 285870213051353865 % 18446744073709551616 / 288230376151711744
theorem db_at : ∀ k, k < 21 → dbN[dbIdx k]? = some k := by decide
theorem and_neg : ∀ k, k < 21 → (2 ^ k) &&& (18446744073709551616 - 2 ^ k) = 2 ^ k := by decide
set_option maxHeartbeats 4000000 in
set_option maxRecDepth 100000 in
theorem tz_walk (w : World) (own : Own) (gl : Gl w own) (k : Nat) (hk : k < 21) :
    Calls Tryz.prog 222 #[.int .u64 ((2 ^ k : Nat) : Int)] w fun e w' => e = .returned (.int .i64 (k : Int)) ∧ w = w' := by
  obtain ⟨hi, hv⟩ := List.getElem?_eq_some_iff.1 (db_at k hk)
  have hc := gl.cell (dbIdx k) hi
  rw [hv] at hc
  have ha := and_neg k hk
  have hx1 : 2 ^ k < 2097152 := Nat.lt_of_lt_of_le (Nat.pow_lt_pow_right (by decide) hk) (by decide)
  have hx0 : 0 < 2 ^ k := Nat.two_pow_pos k
  obtain ⟨q, hq⟩ : ∃ q, dbIdx k = q := ⟨_, rfl⟩
  have hq2 := hq
  unfold dbIdx at hq2
  rw [hq] at hc hi
  have hi64 : q < 64 := hi
  obtain ⟨x, hx⟩ : ∃ x, 2 ^ k = x := ⟨_, rfl⟩
  rw [hx] at ha hx1 hx0 hq2 ⊢
  obtain ⟨m, hm⟩ : ∃ m, x * 285870213051353865 % 18446744073709551616 = m := ⟨_, rfl⟩
  have e1 : IntKind.u64.wrap (-(x : Int)) = ((18446744073709551616 - x : Nat) : Int) := by rw [IntKind.wrap_u64]; omega
  have e2 : bits .and .u64 (x : Int) ((18446744073709551616 - x : Nat) : Int) = (x : Int) := by
    have := (bits_nat .u64 64 (by decide) (fun n h0 h1 => by rw [IntKind.wrap_u64]; omega) x (18446744073709551616 - x) (by omega) (by omega)).1
    rw [this, ha]
  have e3 : IntKind.u64.wrap ((x : Int) * 285870213051353865) = (m : Int) := by rw [IntKind.wrap_u64]; omega
  have e4 : (m : Int) / 288230376151711744 = (q : Int) := by omega
  have e5 : IntKind.i64.wrap (k : Int) = (k : Int) := Go.IntWalk.i64_in _ (by omega)
  have e0 : ((x : Int) == 0) = false := by rw [beq_eq_false_iff_ne]; omega
  obtain ⟨y, hy⟩ : ∃ y, 18446744073709551616 - x = y := ⟨_, rfl⟩
  rw [hy] at e1 e2
  clear hx hq hq2 hm ha hi hv gl hy
  go_enter Tryz.func222, Tryz.ntmps222
  go_wp2
  go_ret
  exact ⟨rfl, rfl⟩
set_option maxHeartbeats 4000000 in
set_option maxRecDepth 100000 in
theorem bucket_walk (w : World) (own : Own) (gl : Gl w own) (k : Nat) (hk : k < 21) (hk2 : 1 ≤ k) (h : Nat) (hh : h < 18446744073709551616) :
    Calls Tryz.prog 194 #[.int .u64 (h : Int), .int .i64 ((2 ^ k : Nat) : Int)] w fun e w' => e = .returned (.int .i64 (bkt k h : Int)) ∧ w = w' := by
  have hT := tz_walk w own gl k hk
  have hx1 : 2 ^ k < 2097152 := Nat.lt_of_lt_of_le (Nat.pow_lt_pow_right (by decide) hk) (by decide)
  have hb : bkt k h < 2 ^ k := bkt_lt k h (by omega) hh
  have hb2 : h / 2 ^ (64 - k) = bkt k h := rfl
  obtain ⟨x, hx⟩ : ∃ x, 2 ^ k = x := ⟨_, rfl⟩
  obtain ⟨q, hq⟩ : ∃ q, bkt k h = q := ⟨_, rfl⟩
  rw [hq] at hb hb2
  rw [hx] at hT hb hx1 ⊢
  rw [hq]
  obtain ⟨r, hr⟩ : ∃ r, 64 - k = r := ⟨_, rfl⟩
  have m0 : IntKind.u64.wrap (x : Int) = (x : Int) := by rw [IntKind.wrap_u64]; omega
  have m1 : IntKind.i64.wrap (64 - (k : Int)) = (r : Int) := by rw [Go.IntWalk.i64_in _ (by omega)]; omega
  have m2 : IntKind.i64.wrap (q : Int) = (q : Int) := Go.IntWalk.i64_in _ (by omega)
  rw [hr] at hb2
  have m3 : (h : Int) / (2 : Int) ^ min r 64 = (q : Int) := by rw [Nat.min_eq_left (by omega), ← hb2]; exact (by norm_cast)
  have m4 : wrap64 (q : Int) = (q : Int) := Go.IntWalk.wrap64_in _ (by omega)
  have HT := Lib.hid hT
  clear hT gl hx hq hr
  go_enter Tryz.func194, Tryz.ntmps194
  go_wp2_with fail
  refine HT.out.mono ?_
  rintro e w' ⟨rfl, rfl⟩
  go_wp2_with fail
  go_ret
  exact ⟨rfl, rfl⟩
section
variable {w : World} {own : Own} {hp : Nat} {G : Gr} {hs : List Nat} {bs : List (Option Nat)} {i tp hd t : Nat}
set_option maxHeartbeats 4000000 in
set_option maxRecDepth 100000 in
theorem tref_walk (H : HO w own hp G hs bs) (ht : TAt w own hp tp hd) (hh : (hd, t) ∈ G.hands) :
    Calls Tryz.prog 73 #[.pointer (some ⟨tp, 0, none⟩)] w fun e w' => e = .returned (.int .u64 (plOf G hs bs t : Int)) ∧ ∃ n, w' = w.drewN n := by
  have k0 := ht.c0
  have k1 := ht.c1
  have HH := Lib.hid H; have HU := Lib.hid hh
  clear H hh ht
  go_enter Tryz.func73, Tryz.ntmps73
  go_wp2_with fail
  go_quiet ((go_at_call 120; exact quiet_left (hAt_walk (HH.out.drewN _) HU.out)))
  go_wp2_with fail
  go_ret
  exact ⟨rfl, _, rfl⟩
set_option maxHeartbeats 4000000 in
set_option maxRecDepth 100000 in
theorem tget_walk (H : HO w own hp G hs bs) (ht : TAt w own hp tp hd) (hl : Live hs bs i) (j : Nat) (hj : j < (G.node i).refs.length + (G.node i).raws.length) :
    Calls Tryz.prog 149 #[.pointer (some ⟨tp, 0, none⟩), .int .u64 (plOf G hs bs i : Int), .int .i64 (j : Int)] w fun e w' => e = .returned (.int .u64 ((G.node i).at (plOf G hs bs) j : Int)) ∧ w = w' := by
  have k0 := ht.c0
  have HG := Lib.hid (hGet_walk H hl j hj)
  obtain ⟨v, hv⟩ : ∃ v, (G.node i).at (plOf G hs bs) j = v := ⟨_, rfl⟩
  obtain ⟨n, hn⟩ : ∃ n, plOf G hs bs i = n := ⟨_, rfl⟩
  rw [hv, hn] at HG
  rw [hv, hn]
  clear H ht hl hv hn hj
  go_enter Tryz.func149, Tryz.ntmps149
  go_wp2_with fail
  refine HG.out.mono ?_
  rintro e w' ⟨rfl, rfl⟩
  go_wp2_with fail
  go_ret
  exact ⟨rfl, rfl⟩
set_option maxHeartbeats 4000000 in
set_option maxRecDepth 100000 in
theorem town_walk (H : HO w own hp G hs bs) (ht : TAt w own hp tp hd) (hh : (hd, t) ∈ G.hands) (hl : Live hs bs t) (j : Nat) (hj : j < (G.node t).refs.length + (G.node t).raws.length) :
    Calls Tryz.prog 146 #[.pointer (some ⟨tp, 0, none⟩), .int .i64 (j : Int)] w fun e w' => e = .returned (.int .u64 ((G.node t).at (plOf G hs bs) j : Int)) ∧ ∃ n, w' = w.drewN n := by
  have HR := Lib.hid (tref_walk H ht hh)
  have HG := Lib.hid (fun n => tget_walk (H.drewN n) (ht.drewN n) hl j hj)
  obtain ⟨v, hv⟩ : ∃ v, (G.node t).at (plOf G hs bs) j = v := ⟨_, rfl⟩
  obtain ⟨n, hn⟩ : ∃ n, plOf G hs bs t = n := ⟨_, rfl⟩
  rw [hv, hn] at HG
  rw [hn] at HR
  rw [hv]
  clear H ht hl hv hn hj hh
  go_enter Tryz.func146, Tryz.ntmps146
  go_wp2_with fail
  refine HR.out.mono ?_
  rintro e w' ⟨rfl, m, rfl⟩
  go_wp2_with fail
  refine (HG.out m).mono ?_
  rintro e w' ⟨rfl, rfl⟩
  go_wp2_with fail
  go_ret
  exact ⟨rfl, m, rfl⟩
set_option maxHeartbeats 4000000 in
set_option maxRecDepth 100000 in
theorem tsize_walk (H : HO w own hp G hs bs) (ht : TAt w own hp tp hd) (hl : Live hs bs i) :
    Calls Tryz.prog 171 #[.pointer (some ⟨tp, 0, none⟩), .int .u64 (plOf G hs bs i : Int)] w fun e w' => e = .returned (.int .i64 ((G.node i).refs.length : Int)) ∧ w = w' := by
  have k0 := ht.c0
  have HG := Lib.hid (hObject_walk H hl)
  obtain ⟨n, hn⟩ : ∃ n, plOf G hs bs i = n := ⟨_, rfl⟩
  obtain ⟨a, ha⟩ : ∃ a, (G.node i).kind = a := ⟨_, rfl⟩
  obtain ⟨b, hb⟩ : ∃ b, (G.node i).refs.length = b := ⟨_, rfl⟩
  obtain ⟨c, hc⟩ : ∃ c, (G.node i).raws.length = c := ⟨_, rfl⟩
  rw [hn, ha, hb, hc] at HG
  rw [hn, hb]
  clear H ht hl hn ha hb hc
  go_enter Tryz.func171, Tryz.ntmps171
  go_wp2_with fail
  refine HG.out.mono ?_
  rintro e w' ⟨rfl, rfl⟩
  go_wp2_with fail
  go_ret
  exact ⟨rfl, rfl⟩
end
end Go.Proofs.YtglglknhifjbaaaGreatDoor.Sp
