import Derived.Test.YtglglknhifjbaaaGreatDoorMid
namespace Go.Proofs.YtglglknhifjbaaaGreatDoor.Sp
set_option linter.unusedVariables false
set_option linter.unusedSimpArgs false
section
variable {G : Gr} {hs : List Nat} {bs : List (Option Nat)} {M : HM}
theorem pl_congr {G G' : Gr} {hs : List Nat} {bs : List (Option Nat)} (h : ∀ i ∈ hs, G'.sz i = G.sz i) : plOf G' hs bs = plOf G hs bs := by
  funext i
  unfold plOf
  rw [map_congr' (f := G'.sz) (g := G.sz) h]
theorem Rep.start (R : Rep G hs bs M) : Mid G hs bs [] 0 [] [] (fun _ => 0) 0 0 { M with spare := ⟨M.spare.size, []⟩ } where
  toLay := R.toLay
  psub := fun i hi => by simp at hi
  pnd := List.nodup_nil
  rsub := fun i hi => by simp at hi
  rnd := List.nodup_nil
  half := by
    show M.half.objs = _
    rw [R.half]
    exact map_congr' (fun i _ => by simp [encI, encH])
  spare := rfl
  blocks := by
    show M.blocks = _
    rw [R.blocks]
    exact map_congr' (fun o _ => by cases o with
      | none => rfl
      | some i => simp [encI, encC])
  reached := by
    show M.reached = _
    rw [R.reached]
    apply List.ext_getElem
    · simp
    · intro i h1 h2
      rw [List.getElem_replicate, List.getElem_map]
      cases bs[i]'(by simpa using h1) with
      | none => rfl
      | some j => simp
  roots := ⟨fun k i hi => by
    rw [if_neg (by omega)]
    exact R.roots.at_ k i hi, R.roots.used, R.roots.len⟩
  cok := fun i hi => by simp at hi
  rok := fun k i _ hq => by omega
  czero := fun _ _ _ => rfl
  sound := fun i hi => by simp at hi
  todo := fun i hi => by simp at hi
  fresh := fun i hi => by simp at hi
  gok := fun s hs => by simp at hs
  gnd := List.nodup_nil
  nle := Nat.le_refl _
  fit := R.s2
def keepB (rs : List Nat) (bs : List (Option Nat)) : List (Option Nat) := bs.map fun o => match o with
  | some i => if i ∈ rs then some i else none
  | none => none
theorem keepB_at {rs : List Nat} {bs : List (Option Nat)} {s i : Nat} : (keepB rs bs)[s]? = some (some i) ↔ bs[s]? = some (some i) ∧ i ∈ rs := by
  unfold keepB
  rw [List.getElem?_map]
  cases bs[s]? with
  | none => simp
  | some o => cases o with
    | none => simp
    | some j =>
      by_cases e : j ∈ rs
      · simp only [Option.map_some, if_pos e, Option.some.injEq]
        constructor
        · rintro rfl; exact ⟨rfl, e⟩
        · exact And.left
      · simp only [Option.map_some, if_neg e, Option.some.injEq]
        constructor
        · intro h; cases h
        · rintro ⟨rfl, h⟩; exact absurd h e
theorem keepB_mem {rs : List Nat} {bs : List (Option Nat)} {i : Nat} : some i ∈ keepB rs bs ↔ some i ∈ bs ∧ i ∈ rs := by
  constructor
  · intro h
    obtain ⟨s, hs, e⟩ := mem_get h
    have := keepB_at.1 (show (keepB rs bs)[s]? = some (some i) by rw [List.getElem?_eq_getElem hs, e])
    exact ⟨List.mem_of_getElem? this.1, this.2⟩
  · rintro ⟨h1, h2⟩
    obtain ⟨s, hs, e⟩ := mem_get h1
    exact List.mem_of_getElem? (keepB_at.2 ⟨show bs[s]? = some (some i) by rw [List.getElem?_eq_getElem hs, e], h2⟩)
theorem bsum_keep (G : Gr) (rs : List Nat) : ∀ bs : List (Option Nat), bsum G (keepB rs bs) ≤ bsum G bs
  | [] => Nat.le_refl _
  | o :: bs => by
    have := bsum_keep G rs bs
    unfold bsum keepB at *
    simp only [List.map_cons, List.sum_cons]
    cases o with
    | none => simpa using this
    | some i =>
      by_cases e : i ∈ rs
      · simp only [if_pos e]; omega
      · simp only [if_neg e]; omega
theorem Mid.all {P rs : List Nat} {c : Nat → Nat} {q : Nat} {M : HM} (h : Mid G hs bs P P.length rs [] c 0 q M) (hq : M.roots.length ≤ q) {i : Nat} (hr : Reach G i) : i ∈ P ∨ i ∈ rs := by
  induction hr with
  | hand k i hk h0 =>
    have := (List.getElem?_eq_some_iff.1 (h.roots.at_ k i hk)).1
    rcases h.rok k i hk (by omega) with e | e
    · exact absurd e h0
    · exact e
  | step i j _ hj h0 ih =>
    have hc : c i = (G.node i).refs.length := by
      rcases h.todo i ih with e | e | e | ⟨s, e, _⟩
      · rcases ih with ih | ih
        · have := h.lo i (.inl (h.psub i ih)); omega
        · have := h.lo i (.inr (h.rsub i ih)); omega
      · exact e
      · simp at e
      · simp at e
    have := h.cok i ih j (by rw [hc, List.take_length]; exact hj)
    rcases this with e | e
    · exact absurd e h0
    · exact e
theorem Mid.finish {P rs : List Nat} {c : Nat → Nat} {q : Nat} {M M0 M' : HM} (R : Rep G hs bs M0) (h : Mid G hs bs P P.length rs [] c 0 q M) (hq : M.roots.length ≤ q)
    (e1 : M'.half = M.spare) (e2 : M'.spare.size = M0.half.size) (e3 : M'.blocks = (keepB rs bs).map (Option.map fun i => ⟨G.sz i + 1, [encC G (plOf G P bs) (plOf G hs bs) c i]⟩)) (e4 : M'.reached = List.replicate bs.length false)
    (e5 : M'.roots = M.roots) (e6 : M'.nroots = M0.nroots) (e7 : M'.large = bsum G (keepB rs bs)) (e8 : M'.since = 0) (e9 : M'.kept = bsum G (keepB rs bs)) (e10 : M'.limit = M0.limit) (e11 : M.spare.size = M0.half.size) :
    Rep G P (keepB rs bs) M' ∧ ∀ i, Live P (keepB rs bs) i ↔ Reach G i := by
  have live : ∀ i, Live P (keepB rs bs) i ↔ i ∈ P ∨ i ∈ rs := fun i => by
    constructor
    · rintro (hi | hi)
      · exact .inl hi
      · exact .inr (keepB_mem.1 hi).2
    · rintro (hi | hi)
      · exact .inl hi
      · exact .inr (keepB_mem.2 ⟨h.rsub i hi, hi⟩)
  have lr : ∀ i, Live P (keepB rs bs) i ↔ Reach G i := fun i => (live i).trans ⟨fun hi => h.sound i hi, fun hr => h.all hq hr⟩
  have old : ∀ i, (i ∈ P ∨ i ∈ rs) → Live hs bs i := fun i hi => by
    rcases hi with hi | hi
    · exact .inl (h.psub i hi)
    · exact .inr (h.rsub i hi)
  have hbnd : ∀ (s t i : Nat), (keepB rs bs)[s]? = some (some i) → (keepB rs bs)[t]? = some (some i) → s = t := fun s t i h1 h2 => h.bnd s t i (keepB_at.1 h1).1 (keepB_at.1 h2).1
  have hpl : ∀ i, New P rs i → plOf G P (keepB rs bs) i = plOf G P bs i := fun i hi => by
    rcases hi with rfl | hi | hi
    · have n1 : (0 : Nat) ∉ P := fun e => by have := h.lo 0 (.inl (h.psub 0 e)); omega
      have n2 : some 0 ∉ bs := fun e => by have := h.lo 0 (.inr e); omega
      rw [pl_none n1 (fun e => n2 (keepB_mem.1 e).1), pl_none n1 n2]
    · unfold plOf; rw [if_pos hi, if_pos hi]
    · obtain ⟨s, hs1, e⟩ := mem_get (h.rsub i hi)
      have e' : bs[s]? = some (some i) := by rw [List.getElem?_eq_getElem hs1, e]
      have hiP : i ∉ P := fun e => h.dis i (h.psub i e) (h.rsub i hi)
      rw [pl_big hiP s hbnd (keepB_at.2 ⟨e', hi⟩), pl_big hiP s h.bnd e']
  have hfull : ∀ i, (i ∈ P ∨ i ∈ rs) → c i = (G.node i).refs.length := fun i ih => by
    rcases h.todo i ih with e | e | e | ⟨s, e, _⟩
    · have := h.lo i (old i ih); omega
    · exact e
    · simp at e
    · simp at e
  have henc : ∀ i, (i ∈ P ∨ i ∈ rs) → encC G (plOf G P bs) (plOf G hs bs) c i = encI G (plOf G P (keepB rs bs)) i := fun i hi => by
    unfold encC encI
    rw [hfull i hi, List.take_length, List.drop_length]
    simp only [List.map_nil, List.append_nil]
    rw [map_congr' (fun j hj => (hpl j (h.cok i hi j (by rw [hfull i hi, List.take_length]; exact hj))).symm)]
  refine ⟨?_, lr⟩
  exact
  { nx := h.nx
    lo := fun i hi => h.lo i (old i ((live i).1 hi))
    hnd := h.pnd
    bnd := hbnd
    dis := fun i hi e => h.dis i (h.psub i hi) (keepB_mem.1 e).1
    ok := fun i hi => h.ok i (old i ((live i).1 hi))
    small := fun i hi => h.small i (h.psub i hi)
    big := fun i hi => h.big i (keepB_mem.1 hi).1
    closed := fun i hi j hj => by
      by_cases e : j = 0
      · exact .inl e
      · exact .inr ((lr j).2 (.step i j ((lr i).1 hi) hj e))
    hlive := fun p hp => by
      by_cases e : p.2 = 0
      · exact .inl e
      · exact .inr ((lr p.2).2 (.hand p.1 p.2 hp e))
    hkeys := h.hkeys
    half := by rw [e1, h.spare]; exact map_congr' (fun i hi => henc i (.inl hi))
    blocks := by
      rw [e3]
      refine map_congr' (fun o ho => ?_)
      cases o with
      | none => rfl
      | some i =>
        simp only [Option.map_some]
        rw [henc i (.inr (keepB_mem.1 ho).2)]
    reached := by rw [e4]; simp [keepB]
    roots := by
      rw [e5]
      refine ⟨fun k i hi => ?_, h.roots.used, h.roots.len⟩
      have hk := h.roots.at_ k i hi
      have hlt := (List.getElem?_eq_some_iff.1 hk).1
      rw [hk]
      rw [if_pos (by omega), hpl i (h.rok k i hi (by omega))]
    nroots := by rw [e6, R.nroots]
    large := e7
    since := by rw [e8]; decide
    kept := by
      rw [e9]
      have := bsum_keep G rs bs
      have h3 := R.s3
      rw [R.large] at h3
      have := R.s4
      omega
    s1 := by rw [e1, e11]; exact R.s1
    s2 := by rw [e1, e2, e11]
    s3 := by
      rw [e1, e11, e7, e10]
      have := bsum_keep G rs bs
      have h3 := R.s3
      rw [R.large] at h3
      omega
    s4 := by rw [e10]; exact R.s4
    lim := by rw [e10]; exact R.lim
    blen := by simp [keepB]; exact R.blen }
def Gr.put (G : Gr) (i : Nat) (n : Node) : Gr := { G with node := fun j => if j = i then n else G.node j }
theorem Gr.put_same (G : Gr) (i : Nat) (n : Node) : (G.put i n).node i = n := if_pos rfl
theorem Gr.put_other (G : Gr) (i : Nat) (n : Node) (j : Nat) (h : j ≠ i) : (G.put i n).node j = G.node j := if_neg h
structure Node.Like (n m : Node) : Prop where
  kind : n.kind = m.kind
  refs : n.refs.length = m.refs.length
  raws : n.raws.length = m.raws.length
theorem Node.Like.size {n m : Node} (h : n.Like m) : n.size = m.size := by unfold Node.size; rw [h.refs, h.raws]
theorem Node.Like.head {n m : Node} (h : n.Like m) : n.head = m.head := by unfold Node.head; rw [h.kind, h.refs, h.raws]
theorem put_sz (G : Gr) (i : Nat) (n : Node) (h : n.Like (G.node i)) (j : Nat) : (G.put i n).sz j = G.sz j := by
  unfold Gr.sz
  by_cases e : j = i
  · subst e; rw [Gr.put_same, h.size]
  · rw [Gr.put_other G i n j e]
theorem put_pl (G : Gr) (i : Nat) (n : Node) (h : n.Like (G.node i)) : plOf (G.put i n) hs bs = plOf G hs bs := pl_congr (fun j _ => put_sz G i n h j)
theorem bsum_congr {G G' : Gr} {bs : List (Option Nat)} (h : ∀ i, some i ∈ bs → G'.sz i = G.sz i) : bsum G' bs = bsum G bs := by
  unfold bsum
  congr 1
  refine List.map_congr_left (fun o ho => ?_)
  cases o with
  | none => rfl
  | some j => simp only [h j ho]
theorem put_bsum (G : Gr) (i : Nat) (n : Node) (h : n.Like (G.node i)) (bs : List (Option Nat)) : bsum (G.put i n) bs = bsum G bs := bsum_congr (fun j _ => put_sz G i n h j)
theorem Lay.put (R : Lay G hs bs) (i : Nat) (n : Node) (h : n.Like (G.node i)) (hok : n.Ok) (hr : ∀ j ∈ n.refs, j = 0 ∨ Live hs bs j) : Lay (G.put i n) hs bs :=
  { nx := R.nx
    lo := R.lo
    hnd := R.hnd
    bnd := R.bnd
    dis := R.dis
    ok := fun j hj => by
      by_cases e : j = i
      · subst e; rw [Gr.put_same]; exact hok
      · rw [Gr.put_other G i n j e]; exact R.ok j hj
    small := fun j hj => by rw [put_sz G i n h]; exact R.small j hj
    big := fun j hj => by rw [put_sz G i n h]; exact R.big j hj
    closed := fun j hj => by
      by_cases e : j = i
      · subst e; rw [Gr.put_same]; exact hr
      · rw [Gr.put_other G i n j e]; exact R.closed j hj
    hlive := R.hlive
    hkeys := R.hkeys }
theorem encI_put_other (G : Gr) (i : Nat) (n : Node) (pl : Nat → Nat) (j : Nat) (e : j ≠ i) : encI (G.put i n) pl j = encI G pl j := by unfold encI; rw [Gr.put_other G i n j e]
theorem Rep.putSmall (R : Rep G hs bs M) (k : Nat) (hk : k < hs.length) (n : Node) (h : n.Like (G.node hs[k])) (hok : n.Ok) (hr : ∀ j ∈ n.refs, j = 0 ∨ Live hs bs j) :
    Rep (G.put hs[k] n) hs bs { M with half := ⟨M.half.size, M.half.objs.set k (n.head, n.refs.map (plOf G hs bs) ++ n.raws)⟩ } :=
  { toLay := R.toLay.put _ n h hok hr
    half := by
      show M.half.objs.set k _ = _
      rw [R.half, put_pl G _ n h]
      refine set_map hs R.hnd _ _ k hk _ ?_ (fun x _ hne => encI_put_other G _ n _ x hne)
      unfold encI
      rw [Gr.put_same]
    blocks := by
      show M.blocks = _
      rw [R.blocks, put_pl G _ n h]
      exact map_congr' (fun o ho => by cases o with
        | none => rfl
        | some j =>
          have hne : j ≠ hs[k] := fun e => R.dis _ (List.getElem_mem hk) (e ▸ ho)
          simp only [Option.map_some]
          rw [put_sz G _ n h, encI_put_other G _ n _ j hne])
    reached := R.reached
    roots := by rw [put_pl G _ n h]; exact R.roots
    nroots := R.nroots
    large := by rw [put_bsum G _ n h]; exact R.large
    since := R.since
    kept := R.kept
    s1 := R.s1
    s2 := R.s2
    s3 := R.s3
    s4 := R.s4
    lim := R.lim
    blen := R.blen }
theorem Rep.putBig (R : Rep G hs bs M) (s i : Nat) (hs1 : bs[s]? = some (some i)) (n : Node) (h : n.Like (G.node i)) (hok : n.Ok) (hr : ∀ j ∈ n.refs, j = 0 ∨ Live hs bs j) :
    Rep (G.put i n) hs bs { M with blocks := M.blocks.set s (some ⟨G.sz i + 1, [(n.head, n.refs.map (plOf G hs bs) ++ n.raws)]⟩) } :=
  { toLay := R.toLay.put _ n h hok hr
    half := by
      show M.half.objs = _
      rw [R.half, put_pl G _ n h]
      exact map_congr' (fun j hj => (encI_put_other G _ n _ j (fun e => R.dis j hj (by rw [e]; exact List.mem_of_getElem? hs1))).symm)
    blocks := by
      show M.blocks.set s _ = _
      rw [R.blocks, put_pl G _ n h]
      apply List.ext_getElem?
      intro t
      have hsl : s < bs.length := (List.getElem?_eq_some_iff.1 hs1).1
      rw [List.getElem?_set, List.getElem?_map, List.getElem?_map]
      by_cases e : s = t
      · subst e
        rw [if_pos rfl, if_pos (by simpa using hsl), hs1]
        simp only [Option.map_some]
        rw [put_sz G _ n h]
        unfold encI
        rw [Gr.put_same]
      · rw [if_neg e]
        cases hb : bs[t]? with
        | none => rfl
        | some x => cases x with
          | none => rfl
          | some j =>
            have hne : j ≠ i := fun e2 => e (R.bnd s t i hs1 (by rw [hb, e2]))
            simp only [Option.map_some]
            rw [put_sz G _ n h, encI_put_other G _ n _ j hne]
    reached := R.reached
    roots := by rw [put_pl G _ n h]; exact R.roots
    nroots := R.nroots
    large := by rw [put_bsum G _ n h]; exact R.large
    since := R.since
    kept := R.kept
    s1 := R.s1
    s2 := R.s2
    s3 := R.s3
    s4 := R.s4
    lim := R.lim
    blen := R.blen }
def Gr.add (G : Gr) (n : Node) : Gr := { G with node := fun j => if j = G.next then n else G.node j, next := G.next + 1 }
def Node.new (k r x : Nat) : Node := ⟨k, List.replicate r 0, List.replicate x 0⟩
theorem Node.new_ok {k r x : Nat} (h : Shape k r x) : (Node.new k r x).Ok := ⟨by simpa [Node.new] using h, fun y hy => by rw [List.eq_of_mem_replicate hy]; decide⟩
theorem Node.new_size (k r x : Nat) : (Node.new k r x).size = 1 + r + x := by simp [Node.new, Node.size]
theorem Gr.add_same (G : Gr) (n : Node) : (G.add n).node G.next = n := if_pos rfl
theorem Gr.add_other (G : Gr) (n : Node) (j : Nat) (h : j ≠ G.next) : (G.add n).node j = G.node j := if_neg h
theorem add_sz (G : Gr) (n : Node) (j : Nat) (h : j < G.next) : (G.add n).sz j = G.sz j := by unfold Gr.sz; rw [Gr.add_other G n j (by omega)]
theorem Lay.fresh (L : Lay G hs bs) : G.next ∉ hs ∧ some G.next ∉ bs := ⟨fun h => by have := L.lo _ (.inl h); omega, fun h => by have := L.lo _ (.inr h); omega⟩
theorem encI_add (G : Gr) (n : Node) (pl : Nat → Nat) (j : Nat) (h : j < G.next) : encI (G.add n) pl j = encI G pl j := by unfold encI; rw [Gr.add_other G n j (by omega)]
theorem bsum_app (G : Gr) (a b : List (Option Nat)) : bsum G (a ++ b) = bsum G a + bsum G b := by unfold bsum; rw [List.map_append, List.sum_append]
theorem new_enc (pl : Nat → Nat) (h0 : pl 0 = 0) (k r x : Nat) : ((Node.new k r x).head, (Node.new k r x).refs.map pl ++ (Node.new k r x).raws) = (headW k r x, List.replicate (r + x) 0) := by
  simp [Node.new, Node.head, h0]
theorem Lay.add {hs' : List Nat} {bs' : List (Option Nat)} (R : Lay G hs bs) (k r x : Nat) (hs0 : Shape k r x) (hl : ∀ i, Live hs' bs' i ↔ Live hs bs i ∨ i = G.next) (hnd : hs'.Nodup)
    (bnd : ∀ (s t i : Nat), bs'[s]? = some (some i) → bs'[t]? = some (some i) → s = t) (dis : ∀ i, i ∈ hs' → some i ∉ bs') (small : ∀ i, i ∈ hs' → (G.add (Node.new k r x)).sz i ≤ 64) (big : ∀ i, some i ∈ bs' → 64 < (G.add (Node.new k r x)).sz i) :
    Lay (G.add (Node.new k r x)) hs' bs' where
  nx := Nat.le_add_left 1 G.next
  lo := fun i hi => by
    show 1 ≤ i ∧ i < G.next + 1
    have := R.nx
    rcases (hl i).1 hi with h | h
    · have := R.lo i h; omega
    · omega
  hnd := hnd
  bnd := bnd
  dis := dis
  ok := fun i hi => by
    by_cases e : i = G.next
    · rw [e, Gr.add_same]; exact Node.new_ok hs0
    · rw [Gr.add_other G _ i e]
      rcases (hl i).1 hi with h | h
      · exact R.ok i h
      · exact absurd h e
  small := small
  big := big
  closed := fun i hi j hj => by
    by_cases e : i = G.next
    · rw [e, Gr.add_same] at hj
      exact .inl (List.eq_of_mem_replicate hj)
    · rw [Gr.add_other G _ i e] at hj
      rcases (hl i).1 hi with h | h
      · rcases R.closed i h j hj with h | h
        · exact .inl h
        · exact .inr ((hl j).2 (.inl h))
      · exact absurd h e
  hlive := fun p hp => by
    rcases R.hlive p hp with h | h
    · exact .inl h
    · exact .inr ((hl _).2 (.inl h))
  hkeys := R.hkeys
theorem Rep.used (R : Rep G hs bs M) : usedOf M.half.objs = posN (hs.map G.sz) hs.length := by
  rw [R.half]
  unfold usedOf
  rw [posOf_eq, List.map_map, List.length_map]
  congr 1
  exact map_congr' (fun i _ => enc_size G _ i)
theorem Rep.addSmall (R : Rep G hs bs M) (k r x : Nat) (hs0 : Shape k r x) (hsm : 1 + r + x ≤ 64) :
    Rep (G.add (Node.new k r x)) (hs ++ [G.next]) bs { M with half := ⟨M.half.size, M.half.objs ++ [(headW k r x, List.replicate (r + x) 0)]⟩ } ∧
    (∀ i, i = 0 ∨ Live hs bs i → plOf (G.add (Node.new k r x)) (hs ++ [G.next]) bs i = plOf G hs bs i) ∧ plOf (G.add (Node.new k r x)) (hs ++ [G.next]) bs G.next = usedOf M.half.objs := by
  obtain ⟨f1, f2⟩ := R.toLay.fresh
  have hlt : ∀ i, Live hs bs i → i < G.next := fun i hi => (R.lo i hi).2
  have hnd : (hs ++ [G.next]).Nodup := by
    rw [List.nodup_append]
    exact ⟨R.hnd, by simp, fun a ha b hb e => by rw [List.mem_singleton.1 hb] at e; exact f1 (e ▸ ha)⟩
  have hszs : hs.map (G.add (Node.new k r x)).sz = hs.map G.sz := map_congr' (fun i hi => add_sz G _ i (hlt i (.inl hi)))
  have hmem : ∀ i, i ∈ hs ++ [G.next] ↔ i ∈ hs ∨ i = G.next := fun i => by simp
  have hl : ∀ i, Live (hs ++ [G.next]) bs i ↔ Live hs bs i ∨ i = G.next := fun i => by
    unfold Live; rw [hmem]
    constructor
    · rintro ((h | h) | h)
      · exact .inl (.inl h)
      · exact .inr h
      · exact .inl (.inr h)
    · rintro ((h | h) | h)
      · exact .inl (.inl h)
      · exact .inr h
      · exact .inl (.inr h)
  have hL : Lay (G.add (Node.new k r x)) (hs ++ [G.next]) bs := R.toLay.add k r x hs0 hl hnd R.bnd (fun i hi => by
      rcases (hmem i).1 hi with h | h
      · exact R.dis i h
      · rw [h]; exact f2) (fun i hi => by
      rcases (hmem i).1 hi with h | h
      · rw [add_sz G _ i (hlt i (.inl h))]; exact R.small i h
      · rw [h]; unfold Gr.sz; rw [Gr.add_same, Node.new_size]; exact hsm) (fun i hi => by rw [add_sz G _ i (hlt i (.inr hi))]; exact R.big i hi)
  have hpl : ∀ i, i = 0 ∨ Live hs bs i → plOf (G.add (Node.new k r x)) (hs ++ [G.next]) bs i = plOf G hs bs i := fun i hi => by
    rcases hi with rfl | hi | hi
    · rw [hL.zero, R.toLay.zero]
    · rw [pl_app i hi, pl_congr (fun j hj => add_sz G _ j (hlt j (.inl hj)))]
    · obtain ⟨s, hs1, e⟩ := mem_get hi
      have e' : bs[s]? = some (some i) := by rw [List.getElem?_eq_getElem hs1, e]
      rw [pl_big (fun h => hL.dis i h hi) s R.bnd e', pl_big (fun h => R.dis i h hi) s R.bnd e']
  have hnew : plOf (G.add (Node.new k r x)) (hs ++ [G.next]) bs G.next = usedOf M.half.objs := by
    have h1 := pl_small (G := G.add (Node.new k r x)) (bs := bs) hnd hs.length (by simp)
    rw [show (hs ++ [G.next])[hs.length]'(by simp) = G.next by simp] at h1
    rw [h1, List.map_append, posN_app _ _ _ (by simp), hszs, R.used]
  have henc : ∀ i, Live hs bs i → encI (G.add (Node.new k r x)) (plOf (G.add (Node.new k r x)) (hs ++ [G.next]) bs) i = encI G (plOf G hs bs) i := fun i hi => by
    rw [encI_add G _ _ i (hlt i hi)]
    unfold encI
    rw [map_congr' (fun j hj => hpl j (R.closed i hi j hj))]
  refine ⟨{ toLay := hL
            half := ?_
            blocks := ?_
            reached := R.reached
            roots := ⟨fun k' i hi => ?_, R.roots.used, R.roots.len⟩
            nroots := R.nroots
            large := ?_
            since := R.since
            kept := R.kept
            s1 := R.s1
            s2 := R.s2
            s3 := R.s3
            s4 := R.s4
            lim := R.lim
            blen := R.blen }, hpl, hnew⟩
  · show M.half.objs ++ _ = _
    rw [R.half, List.map_append, map_congr' (fun i hi => (henc i (.inl hi)).symm)]
    congr 1
    show _ = [encI _ _ G.next]
    unfold encI
    rw [Gr.add_same, new_enc _ hL.zero]
  · show M.blocks = _
    rw [R.blocks]
    exact map_congr' (fun o ho => by cases o with
      | none => rfl
      | some i =>
        simp only [Option.map_some]
        rw [henc i (.inr ho), add_sz G _ i (hlt i (.inr ho))])
  · show M.roots[k']? = _
    rw [R.roots.at_ k' i hi, hpl i (R.hlive _ hi)]
  · show M.large = _
    rw [R.large, bsum_congr (fun i hi => add_sz G _ i (hlt i (.inr hi)))]
theorem bsum_set (G : Gr) : ∀ (bs : List (Option Nat)) (s i : Nat), bs[s]? = some none → bsum G (bs.set s (some i)) = bsum G bs + (G.sz i + 1)
  | [], s, i, h => by simp at h
  | o :: bs, 0, i, h => by
    simp at h
    subst h
    unfold bsum
    simp; omega
  | o :: bs, s + 1, i, h => by
    have := bsum_set G bs s i (by simpa using h)
    unfold bsum at *
    simp only [List.set_cons_succ, List.map_cons, List.sum_cons]
    omega
theorem Rep.addBig (R : Rep G hs bs M) (k r x : Nat) (hs0 : Shape k r x) (hbg : 64 < 1 + r + x) (s : Nat) (bs' : List (Option Nat)) (hb : (bs[s]? = some none ∧ bs' = bs.set s (some G.next)) ∨ (s = bs.length ∧ bs' = bs ++ [some G.next])) (M' : HM)
    (e1 : M'.half = M.half) (e2 : M'.spare = M.spare) (e3 : M'.blocks = (if s < bs.length then M.blocks.set s (some ⟨1 + r + x + 1, [(headW k r x, List.replicate (r + x) 0)]⟩) else M.blocks ++ [some ⟨1 + r + x + 1, [(headW k r x, List.replicate (r + x) 0)]⟩]))
    (e4 : M'.reached = if s < bs.length then M.reached else M.reached ++ [false]) (e5 : M'.roots = M.roots) (e6 : M'.nroots = M.nroots) (e7 : M'.large = M.large + (1 + r + x + 1)) (e8 : M'.since ≤ 4194304) (e9 : M'.kept = M.kept) (e10 : M'.limit = M.limit) (hfit : 2 * M.half.size + M.large + (1 + r + x + 1) ≤ M.limit) (hln : bs'.length ≤ 65536) :
    Rep (G.add (Node.new k r x)) hs bs' M' ∧ (∀ i, i = 0 ∨ Live hs bs i → plOf (G.add (Node.new k r x)) hs bs' i = plOf G hs bs i) ∧ plOf (G.add (Node.new k r x)) hs bs' G.next = 9223372036854775808 + s := by
  obtain ⟨f1, f2⟩ := R.toLay.fresh
  have hlt : ∀ i, Live hs bs i → i < G.next := fun i hi => (R.lo i hi).2
  have hat : ∀ t, bs'[t]? = if t = s then some (some G.next) else bs[t]? := fun t => by
    rcases hb with ⟨h1, rfl⟩ | ⟨rfl, rfl⟩
    · have := (List.getElem?_eq_some_iff.1 h1).1
      rw [List.getElem?_set]
      by_cases e : s = t
      · subst e; rw [if_pos rfl, if_pos this, if_pos rfl]
      · rw [if_neg e, if_neg (fun h => e h.symm)]
    · rw [List.getElem?_append]
      by_cases e : t < bs.length
      · rw [if_pos e, if_neg (by omega)]
      · rw [if_neg e]
        by_cases e2 : t = bs.length
        · subst e2; simp
        · rw [if_neg e2, List.getElem?_eq_none (by simp; omega), List.getElem?_eq_none (by omega)]
  have hold : ∀ i t, bs[t]? = some (some i) → t ≠ s := fun i t h e => by
    subst e
    rcases hb with ⟨h1, _⟩ | ⟨rfl, _⟩
    · rw [h1] at h; cases h
    · simp at h
  have hbm : ∀ i, some i ∈ bs' ↔ some i ∈ bs ∨ i = G.next := fun i => by
    constructor
    · intro h
      obtain ⟨t, ht, e⟩ := mem_get h
      have h1 : bs'[t]? = some (some i) := by rw [List.getElem?_eq_getElem ht, e]
      rw [hat] at h1
      by_cases e2 : t = s
      · rw [if_pos e2] at h1; injection h1 with h1; injection h1 with h1; exact .inr h1.symm
      · rw [if_neg e2] at h1; exact .inl (List.mem_of_getElem? h1)
    · rintro (h | h)
      · obtain ⟨t, ht, e⟩ := mem_get h
        have h1 : bs[t]? = some (some i) := by rw [List.getElem?_eq_getElem ht, e]
        have h2 := hat t
        rw [if_neg (hold i t h1), h1] at h2
        exact List.mem_of_getElem? h2
      · have h2 := hat s
        rw [if_pos rfl, ← h] at h2
        exact List.mem_of_getElem? h2
  have hl : ∀ i, Live hs bs' i ↔ Live hs bs i ∨ i = G.next := fun i => by
    unfold Live; rw [hbm, or_assoc]
  have bnd : ∀ (a b i : Nat), bs'[a]? = some (some i) → bs'[b]? = some (some i) → a = b := fun a b i h1 h2 => by
    rw [hat] at h1 h2
    by_cases ea : a = s <;> by_cases eb : b = s
    · omega
    · rw [if_pos ea] at h1; rw [if_neg eb] at h2
      injection h1 with h1; injection h1 with h1
      exact absurd (h1 ▸ List.mem_of_getElem? h2) f2
    · rw [if_neg ea] at h1; rw [if_pos eb] at h2
      injection h2 with h2; injection h2 with h2
      exact absurd (h2 ▸ List.mem_of_getElem? h1) f2
    · rw [if_neg ea] at h1; rw [if_neg eb] at h2
      exact R.bnd a b i h1 h2
  have hL : Lay (G.add (Node.new k r x)) hs bs' := R.toLay.add k r x hs0 hl R.hnd bnd (fun i hi h => by
      rcases (hbm i).1 h with h | h
      · exact R.dis i hi h
      · exact f1 (h ▸ hi)) (fun i hi => by rw [add_sz G _ i (hlt i (.inl hi))]; exact R.small i hi) (fun i hi => by
      rcases (hbm i).1 hi with h | h
      · rw [add_sz G _ i (hlt i (.inr h))]; exact R.big i h
      · rw [h]; unfold Gr.sz; rw [Gr.add_same, Node.new_size]; exact hbg)
  have hpl : ∀ i, i = 0 ∨ Live hs bs i → plOf (G.add (Node.new k r x)) hs bs' i = plOf G hs bs i := fun i hi => by
    rcases hi with rfl | hi | hi
    · rw [hL.zero, R.toLay.zero]
    · unfold plOf
      rw [if_pos hi, if_pos hi, map_congr' (fun j hj => add_sz G _ j (hlt j (.inl hj)))]
    · obtain ⟨t, hs1, e⟩ := mem_get hi
      have e' : bs[t]? = some (some i) := by rw [List.getElem?_eq_getElem hs1, e]
      have e2 : bs'[t]? = some (some i) := by rw [hat, if_neg (hold i t e'), e']
      rw [pl_big (fun h => R.dis i h hi) t bnd e2, pl_big (fun h => R.dis i h hi) t R.bnd e']
  have hnew : plOf (G.add (Node.new k r x)) hs bs' G.next = 9223372036854775808 + s := pl_big f1 s bnd (by rw [hat, if_pos rfl])
  have henc : ∀ i, Live hs bs i → encI (G.add (Node.new k r x)) (plOf (G.add (Node.new k r x)) hs bs') i = encI G (plOf G hs bs) i := fun i hi => by
    rw [encI_add G _ _ i (hlt i hi)]
    unfold encI
    rw [map_congr' (fun j hj => hpl j (R.closed i hi j hj))]
  have hnode : (⟨(G.add (Node.new k r x)).sz G.next + 1, [encI (G.add (Node.new k r x)) (plOf (G.add (Node.new k r x)) hs bs') G.next]⟩ : AM) = ⟨1 + r + x + 1, [(headW k r x, List.replicate (r + x) 0)]⟩ := by
    unfold Gr.sz encI
    rw [Gr.add_same, Node.new_size, new_enc _ hL.zero]
  have hlen : M.blocks.length = bs.length := by rw [R.blocks, List.length_map]
  refine ⟨{ toLay := hL
            half := ?_
            blocks := ?_
            reached := ?_
            roots := ⟨fun k' i hi => ?_, by rw [e5]; exact R.roots.used, by rw [e5]; exact R.roots.len⟩
            nroots := by rw [e6, R.nroots]; rfl
            large := ?_
            since := e8
            kept := by rw [e9]; exact R.kept
            s1 := by rw [e1]; exact R.s1
            s2 := by rw [e1, e2]; exact R.s2
            s3 := by rw [e1, e7, e10]; omega
            s4 := by rw [e10]; exact R.s4
            lim := by rw [e10]; exact R.lim
            blen := hln }, hpl, hnew⟩
  · rw [e1, R.half]
    exact map_congr' (fun i hi => (henc i (.inl hi)).symm)
  · rw [e3]
    apply List.ext_getElem?
    intro t
    rw [List.getElem?_map, hat]
    have hot : t ≠ s → M.blocks[t]? = Option.map (Option.map fun i => ⟨(G.add (Node.new k r x)).sz i + 1, [encI (G.add (Node.new k r x)) (plOf (G.add (Node.new k r x)) hs bs') i]⟩) bs[t]? := fun hne => by
      rw [R.blocks, List.getElem?_map]
      cases hb : bs[t]? with
      | none => rfl
      | some o => cases o with
        | none => rfl
        | some i =>
          have hm := List.mem_of_getElem? hb
          simp only [Option.map_some]
          rw [henc i (.inr hm), add_sz G _ i (hlt i (.inr hm))]
    by_cases e : t = s
    · subst e
      rw [if_pos rfl]
      simp only [Option.map_some]
      rw [hnode]
      by_cases hlt2 : t < bs.length
      · rw [if_pos hlt2, List.getElem?_set, if_pos rfl, if_pos (by omega)]
      · rw [if_neg hlt2]
        rcases hb with ⟨h1, _⟩ | ⟨rfl, _⟩
        · exact absurd (List.getElem?_eq_some_iff.1 h1).1 hlt2
        · rw [List.getElem?_append_right (by omega), hlen]; simp
    · rw [if_neg e, ← hot e]
      by_cases hlt2 : s < bs.length
      · rw [if_pos hlt2, List.getElem?_set, if_neg (fun h => e h.symm)]
      · rw [if_neg hlt2]
        rcases hb with ⟨h1, _⟩ | ⟨rfl, _⟩
        · exact absurd (List.getElem?_eq_some_iff.1 h1).1 hlt2
        · by_cases e3 : t < bs.length
          · rw [List.getElem?_append_left (by omega)]
          · rw [List.getElem?_eq_none (by simp; omega), List.getElem?_eq_none (by omega)]
  · rw [e4]
    rcases hb with ⟨h1, rfl⟩ | ⟨rfl, rfl⟩
    · rw [if_pos (List.getElem?_eq_some_iff.1 h1).1, R.reached, List.length_set]
    · rw [if_neg (Nat.lt_irrefl _), R.reached, List.length_append, List.length_singleton, ← List.replicate_succ']
  · rw [e5, R.roots.at_ k' i hi, hpl i (R.hlive _ hi)]
  · rw [e7, R.large]
    have hsz : (G.add (Node.new k r x)).sz G.next = 1 + r + x := by unfold Gr.sz; rw [Gr.add_same, Node.new_size]
    have hc : bsum (G.add (Node.new k r x)) bs = bsum G bs := bsum_congr (fun i hi => add_sz G _ i (hlt i (.inr hi)))
    rcases hb with ⟨h1, rfl⟩ | ⟨rfl, rfl⟩
    · rw [bsum_set _ _ _ _ h1, hsz, hc]
    · rw [bsum_app, hc]
      unfold bsum
      simp [hsz]
theorem Rep.hold (R : Rep G hs bs M) (k i : Nat) (hi : i = 0 ∨ Live hs bs i) (hk : k ≤ M.roots.length) (hf : ∀ v, M.roots[k]? ≠ some (true, v)) (hl : k < M.roots.length ∨ M.roots.length < 1000) :
    Rep { G with hands := (k, i) :: G.hands } hs bs { M with roots := rootsAt M.roots k (plOf G hs bs i), nroots := M.nroots + 1 } := by
  have hnk : ∀ j, (k, j) ∉ G.hands := fun j hj => hf _ (R.roots.at_ k j hj)
  have hpl : plOf { G with hands := (k, i) :: G.hands } hs bs = plOf G hs bs := rfl
  have hat : ∀ t, (rootsAt M.roots k (plOf G hs bs i))[t]? = if t = k then some (true, plOf G hs bs i) else M.roots[t]? := fun t => by
    unfold rootsAt
    by_cases e : k < M.roots.length
    · rw [if_pos e, List.getElem?_set]
      by_cases e2 : k = t
      · subst e2; rw [if_pos rfl, if_pos e, if_pos rfl]
      · rw [if_neg e2, if_neg (fun h => e2 h.symm)]
    · rw [if_neg e]
      obtain rfl : k = M.roots.length := by omega
      by_cases e2 : t = M.roots.length
      · subst e2; simp
      · rw [if_neg e2, List.getElem?_append]
        by_cases e3 : t < M.roots.length
        · rw [if_pos e3]
        · rw [if_neg e3, List.getElem?_eq_none (by simp; omega), List.getElem?_eq_none (by omega)]
  exact
  { nx := R.nx
    lo := R.lo
    hnd := R.hnd
    bnd := R.bnd
    dis := R.dis
    ok := R.ok
    small := R.small
    big := R.big
    closed := R.closed
    hlive := fun p hp => by
      rcases List.mem_cons.1 hp with rfl | hp
      · exact hi
      · exact R.hlive p hp
    hkeys := by
      show (List.map Prod.fst ((k, i) :: G.hands)).Nodup
      rw [List.map_cons, List.nodup_cons]
      refine ⟨fun h => ?_, R.hkeys⟩
      obtain ⟨p, hp, e⟩ := List.mem_map.1 h
      exact hnk p.2 (by have e : p.1 = k := e; rw [← e]; exact hp)
    half := R.half
    blocks := R.blocks
    reached := R.reached
    roots := ⟨fun t j hj => by
        show (rootsAt M.roots k _)[t]? = _
        rw [hat]
        rcases List.mem_cons.1 hj with e | hj
        · injection e with e1 e2
          rw [if_pos e1, e2]; rfl
        · have hne : t ≠ k := fun e => hnk j (e ▸ hj)
          rw [if_neg hne]
          exact R.roots.at_ t j hj,
      fun t v hv => by
        have hv : (rootsAt M.roots k _)[t]? = some (true, v) := hv
        rw [hat] at hv
        by_cases e : t = k
        · exact ⟨i, by rw [e]; exact List.mem_cons_self⟩
        · rw [if_neg e] at hv
          obtain ⟨j, hj⟩ := R.roots.used t v hv
          exact ⟨j, List.mem_cons_of_mem _ hj⟩,
      by
        show (rootsAt M.roots k _).length ≤ 1000
        have := R.roots.len
        unfold rootsAt
        split
        · rw [List.length_set]; exact this
        · rw [List.length_append, List.length_singleton]; omega⟩
    nroots := by show M.nroots + 1 = _; rw [R.nroots]; rfl
    large := R.large
    since := R.since
    kept := R.kept
    s1 := R.s1
    s2 := R.s2
    s3 := R.s3
    s4 := R.s4
    lim := R.lim
    blen := R.blen }
def dropH (k : Nat) (l : List (Nat × Nat)) : List (Nat × Nat) := l.filter fun p => p.1 != k
theorem dropH_mem {k : Nat} {l : List (Nat × Nat)} {p : Nat × Nat} : p ∈ dropH k l ↔ p ∈ l ∧ p.1 ≠ k := by unfold dropH; simp
theorem dropH_cons {k i : Nat} {l : List (Nat × Nat)} (h : ∀ j, (k, j) ∉ l) : dropH k ((k, i) :: l) = l := by
  unfold dropH
  rw [List.filter_cons_of_neg (by simp)]
  refine List.filter_eq_self.2 (fun p hp => ?_)
  have : p.1 ≠ k := fun e => h p.2 (by rw [← e]; exact hp)
  simpa using this
theorem dropH_len (k i : Nat) : ∀ (l : List (Nat × Nat)), (k, i) ∈ l → (l.map Prod.fst).Nodup → (dropH k l).length + 1 = l.length
  | [], h, _ => by simp at h
  | p :: l, h, nd => by
    rw [List.map_cons, List.nodup_cons] at nd
    by_cases e : p.1 = k
    · have : dropH k (p :: l) = l := by
        have hp : p = (k, p.2) := by rw [← e]
        rw [hp]
        refine dropH_cons (fun j hj => nd.1 ?_)
        rw [e]
        exact List.mem_map.2 ⟨(k, j), hj, rfl⟩
      rw [this]; rfl
    · have hm : (k, i) ∈ l := by
        rcases List.mem_cons.1 h with h | h
        · exact absurd (by rw [← h]) e
        · exact h
      have ih := dropH_len k i l hm nd.2
      have : dropH k (p :: l) = p :: dropH k l := by unfold dropH; rw [List.filter_cons_of_pos (by simpa using e)]
      rw [this]; simp; omega
theorem Rep.drop (R : Rep G hs bs M) (k i : Nat) (hi : (k, i) ∈ G.hands) :
    Rep { G with hands := dropH k G.hands } hs bs { M with roots := M.roots.set k (false, 0), nroots := M.nroots - 1 } := by
  have hlt := (List.getElem?_eq_some_iff.1 (R.roots.at_ k i hi)).1
  have hat : ∀ t, (M.roots.set k (false, 0))[t]? = if t = k then some (false, 0) else M.roots[t]? := fun t => by
    rw [List.getElem?_set]
    by_cases e2 : k = t
    · subst e2; rw [if_pos rfl, if_pos hlt, if_pos rfl]
    · rw [if_neg e2, if_neg (fun h => e2 h.symm)]
  exact
  { nx := R.nx
    lo := R.lo
    hnd := R.hnd
    bnd := R.bnd
    dis := R.dis
    ok := R.ok
    small := R.small
    big := R.big
    closed := R.closed
    hlive := fun p hp => R.hlive p (dropH_mem.1 hp).1
    hkeys := R.hkeys.sublist (List.Sublist.map _ List.filter_sublist)
    half := R.half
    blocks := R.blocks
    reached := R.reached
    roots := ⟨fun t j hj => by
        show (M.roots.set k _)[t]? = _
        have hj := dropH_mem.1 hj
        rw [hat, if_neg hj.2]
        exact R.roots.at_ t j hj.1,
      fun t v hv => by
        have hv : (M.roots.set k (false, 0))[t]? = some (true, v) := hv
        rw [hat] at hv
        by_cases e : t = k
        · rw [if_pos e] at hv; injection hv with hv; injection hv with hv; cases hv
        · rw [if_neg e] at hv
          obtain ⟨j, hj⟩ := R.roots.used t v hv
          exact ⟨j, dropH_mem.2 ⟨hj, e⟩⟩,
      by show (M.roots.set k _).length ≤ 1000; rw [List.length_set]; exact R.roots.len⟩
    nroots := by
      show M.nroots - 1 = (dropH k G.hands).length
      have := dropH_len k i G.hands hi R.hkeys
      have := R.nroots
      omega
    large := R.large
    since := R.since
    kept := R.kept
    s1 := R.s1
    s2 := R.s2
    s3 := R.s3
    s4 := R.s4
    lim := R.lim
    blen := R.blen }
theorem Rep.resize (R : Rep G hs bs M) (n : Nat) (sp : List AO) (h1 : 64 ≤ n) (h2 : 2 * n + M.large ≤ M.limit) (r : Int) : Rep G hs bs { M with half := ⟨n, M.half.objs⟩, spare := ⟨n, sp⟩, nres := r } :=
  { R with
    half := R.half
    blocks := R.blocks
    reached := R.reached
    roots := R.roots
    nroots := R.nroots
    large := R.large
    since := R.since
    kept := R.kept
    s1 := h1
    s2 := rfl
    s3 := h2
    s4 := R.s4
    lim := R.lim
    blen := R.blen }
end
end Go.Proofs.YtglglknhifjbaaaGreatDoor.Sp
