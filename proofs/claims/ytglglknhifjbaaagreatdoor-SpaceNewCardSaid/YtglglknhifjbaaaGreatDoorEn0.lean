import Derived.Test.YtglglknhifjbaaaGreatDoorPrt
namespace Go.Proofs.YtglglknhifjbaaaGreatDoor.Sp
open Go.RowKit Go.Proofs.YtglglknhifjbaaaGreatDoorW.PrintWords Go.Proofs.YtglglknhifjbaaaGreatDoorW.PrintLast Go.Proofs.YtglglknhifjbaaaGreatDoorW.PrintMore
set_option linter.unusedVariables false
set_option linter.unusedSimpArgs false
theorem Gl.fr {w w' : World} {own : Own} {P : Nat → Prop} (h : Gl w own) (hf : Fr P w w') (hP : ∀ b, P b → 2 < b) : Gl w' own :=
  ⟨fun j hj => by rw [hf.cell (p := ⟨2, j, none⟩) h.lt (fun hp => by have := hP _ hp; exact absurd this (Nat.lt_irrefl _))]; exact h.cell j hj, Nat.lt_of_lt_of_le h.lt hf.size, h.own0⟩
theorem TAt.fr {w w' : World} {own : Own} {hp tp hd : Nat} {P : Nat → Prop} (h : TAt w own hp tp hd) (hf : Fr P w w') (hP : ¬ P tp) : TAt w' own hp tp hd :=
  ⟨(hf.block tp (blk_lt h.cell) hP).trans h.cell, h.own0, h.hl⟩
structure RowX (n₀ : Nat) (X : Nat → Prop) (w : World) (v : Value) (L : List NK) : Prop where
  row : NRow w v n₀ L
  xb : ∀ b, v.ownBlock = some b → X b
  xk : ∀ x ∈ L, X x.g
abbrev XUp (X : Nat → Prop) (w w' : World) : Nat → Prop := fun b => X b ∨ (w.heap.size ≤ b ∧ b < w'.heap.size)
theorem RowX.below {n₀ : Nat} {X : Nat → Prop} {w w' : World} {v : Value} {L : List NK} (h : RowX n₀ X w v L) (hb : Below w.heap.size w w') : RowX n₀ (XUp X w w') w' v L :=
  ⟨h.row.below hb, fun b hb => .inl (h.xb b hb), fun x hx => .inl (h.xk x hx)⟩
theorem RowX.round {n₀ : Nat} {X : Nat → Prop} {w w' : World} {v : Value} {L : List NK} (h : RowX n₀ X w v L) (hr : Rnd n₀ X w w') : RowX n₀ X w' v L :=
  ⟨h.row.fr hr (fun b hb hn => hn.1 (h.xb b hb)) (fun x hx hn => hn.1 (h.xk x hx)), h.xb, h.xk⟩
structure EI (w0 : World) (n₀ b1 b2 ga tp f : Nat) (prs : List Value) (J : List NK → (Nat → Prop) → World → Prop) (pre : List NK) (X : Nat → Prop) (wr : World) : Prop where
  fr : Fr (fun b => n₀ ≤ b) w0 wr
  xn : ∀ b, X b → n₀ ≤ b ∧ b < wr.heap.size
  x1 : X b1
  x2 : X b2
  xa : X ga
  c1 : wr.heap[b1]? = some (.cells #[.pointer (some ⟨tp, 0, none⟩)] 83 (0, 0))
  c2 : wr.heap[b2]? = some (.cells #[.int .u64 (f : Int)] 22 (0, 0))
  ca : ∃ cur, wr.heap[ga]? = some (.cells cur 22 (0, 0)) ∧ cur.toList.take prs.length = prs
  ks : ∀ x ∈ pre, KeyAt wr x ∧ IsB x.k ∧ X x.g
  j : J pre X wr
section
variable {w0 wr W : World} {n₀ b1 b2 ga tp f : Nat} {prs : List Value} {J : List NK → (Nat → Prop) → World → Prop} {pre : List NK} {X : Nat → Prop}
theorem EI.step (hJ : AbM J) (h : EI w0 n₀ b1 b2 ga tp f prs J pre X wr) {P : Nat → Prop} (hf : Fr P wr W) (hP : ∀ b, P b → X b ∧ ∃ cells, wr.heap[b]? = some (.cells cells 215 (0, 0))) : EI w0 n₀ b1 b2 ga tp f prs J pre (XUp X wr W) W := by
  have key : ∀ (b : Nat) (c : Array Value) (t : TypeId), wr.heap[b]? = some (.cells c t (0, 0)) → t ≠ 215 → W.heap[b]? = some (.cells c t (0, 0)) := fun b c t hb ht => by
    refine (hf.block b (blk_lt hb) (fun hp => ?_)).trans hb
    obtain ⟨cells, hc⟩ := (hP b hp).2
    rw [hb] at hc
    injection hc with hc
    injection hc with _ hc _
    exact ht hc
  obtain ⟨cur, ca1, ca2⟩ := h.ca
  refine ⟨h.fr.trans hf (fun b _ hb => (h.xn b (hP b hb).1).1), fun b hb => ?_, .inl h.x1, .inl h.x2, .inl h.xa, key _ _ _ h.c1 (by decide), key _ _ _ h.c2 (by decide), ⟨cur, key _ _ _ ca1 (by decide), ca2⟩, fun x hx => ?_, hJ _ _ _ _ h.j (hf.mono (fun b _ hb => (hP b hb).1))⟩
  · rcases hb with hb | ⟨h1, h2⟩
    · have := h.xn b hb
      exact ⟨this.1, Nat.lt_of_lt_of_le this.2 hf.size⟩
    · have := (h.xn _ h.x1)
      exact ⟨by omega, h2⟩
  · obtain ⟨q1, q2, q3⟩ := h.ks x hx
    exact ⟨key _ _ _ q1 (by decide), q2, .inl q3⟩
theorem EI.below (hJ : AbM J) (h : EI w0 n₀ b1 b2 ga tp f prs J pre X wr) (hb : Below wr.heap.size wr W) : EI w0 n₀ b1 b2 ga tp f prs J pre (XUp X wr W) W :=
  h.step hJ (Fr.below (P := fun _ => False) hb) (fun b hb => hb.elim)
theorem EI.round {x : NK} (h : EI w0 n₀ b1 b2 ga tp f prs J pre X wr) (hr : Rnd n₀ X wr W) (hx : KeyAt wr x ∧ IsB x.k ∧ X x.g) (hj : J (pre ++ [x]) X W) : EI w0 n₀ b1 b2 ga tp f prs J (pre ++ [x]) X W := by
  have key : ∀ (b : Nat) (c : Obj), wr.heap[b]? = some c → X b → W.heap[b]? = some c := fun b c hb hx => (hr.block b (blk_lt hb) (fun hn => hn.1 hx)).trans hb
  obtain ⟨cur, ca1, ca2⟩ := h.ca
  refine ⟨h.fr.trans hr (fun b _ hb => hb.2), fun b hb => ⟨(h.xn b hb).1, Nat.lt_of_lt_of_le (h.xn b hb).2 hr.size⟩, h.x1, h.x2, h.xa, key _ _ h.c1 h.x1, key _ _ h.c2 h.x2, ⟨cur, key _ _ ca1 h.xa, ca2⟩, fun y hy => ?_, hj⟩
  have : KeyAt wr y ∧ IsB y.k ∧ X y.g := by
    rcases List.mem_append.1 hy with hy | hy
    · exact h.ks y hy
    · rw [List.mem_singleton] at hy; subst hy; exact hx
  exact ⟨key _ _ this.1 this.2.2, this.2⟩
theorem EI.k1 (h : EI w0 n₀ b1 b2 ga tp f prs J pre X wr) : wr.cell? ⟨b1, 0, none⟩ = some (.pointer (some ⟨tp, 0, none⟩)) := by simp [World.cell?, h.c1]
theorem EI.k2 (h : EI w0 n₀ b1 b2 ga tp f prs J pre X wr) : wr.cell? ⟨b2, 0, none⟩ = some (.int .u64 (f : Int)) := by simp [World.cell?, h.c2]
theorem EI.ka (h : EI w0 n₀ b1 b2 ga tp f prs J pre X wr) (i : Nat) (hi : i < prs.length) : wr.cell? ⟨ga, i, none⟩ = some prs[i] := by
  obtain ⟨cur, c1, c2⟩ := h.ca
  have h1 : (cur.toList.take prs.length)[i]? = some prs[i] := by rw [c2]; exact List.getElem?_eq_getElem hi
  rw [List.getElem?_take_of_lt hi, Array.getElem?_toList] at h1
  simp only [World.cell?, c1]
  exact h1
theorem RowX.gather {v v' : Value} {L L' : List NK} (h : RowX n₀ X wr v L) (hn : n₀ ≤ wr.heap.size) (hr : NRow W v' n₀ (L ++ L')) (hf : Fr (fun b => v.ownBlock = some b) wr W) (hb : v'.ownBlock = v.ownBlock ∨ ∃ b, v'.ownBlock = some b ∧ wr.heap.size ≤ b) (hk : ∀ x ∈ L', wr.heap.size ≤ x.g) : RowX n₀ (XUp X wr W) W v' (L ++ L') := by
  refine ⟨hr, fun b hb' => ?_, fun x hx => ?_⟩
  · rcases hb with hb | ⟨b2, hb2, h2⟩
    · exact .inl (h.xb b (by rw [← hb]; exact hb'))
    · rw [hb2] at hb'; injection hb' with hb'; subst hb'
      obtain ⟨cells, hc⟩ := own_typed hr.row b2 hb2
      exact .inr ⟨h2, blk_lt hc⟩
  · rcases List.mem_append.1 hx with hx | hx
    · exact .inl (h.xk x hx)
    · exact .inr ⟨hk x hx, blk_lt (hr.keys x (List.mem_append_right _ hx)).1⟩
theorem RowX.typed {v : Value} {L : List NK} (h : RowX n₀ X wr v L) : ∀ b, v.ownBlock = some b → X b ∧ ∃ cells, wr.heap[b]? = some (.cells cells 215 (0, 0)) := fun b hb => ⟨h.xb b hb, own_typed h.row.row b hb⟩
end
structure EnC (w0 : World) (hp tp : Nat) (G : Gr) (hs : List Nat) (bs : List (Option Nat)) (T : Tab) (n₀ : Nat) : Prop where
  c0 : ∀ W, Fr (fun b => n₀ ≤ b) w0 W → Calls Tryz.prog 146 #[.pointer (some ⟨tp, 0, none⟩), .int .i64 0] W fun e w' => e = .returned (.int .u64 (plOf G hs bs T.nid : Int)) ∧ ∃ m, w' = W.drewN m
  c1 : ∀ W, Fr (fun b => n₀ ≤ b) w0 W → Calls Tryz.prog 146 #[.pointer (some ⟨tp, 0, none⟩), .int .i64 1] W fun e w' => e = .returned (.int .u64 (plOf G hs bs T.oid : Int)) ∧ ∃ m, w' = W.drewN m
  cs : ∀ W, Fr (fun b => n₀ ≤ b) w0 W → ∀ a ∈ T.ars, Calls Tryz.prog 171 #[.pointer (some ⟨tp, 0, none⟩), .int .u64 (plOf G hs bs a.1 : Int)] W fun e w' => e = .returned (.int .i64 ((2 ^ a.2.2 : Nat) : Int)) ∧ W = w'
  cb : ∀ W, Fr (fun b => n₀ ≤ b) w0 W → ∀ f : Nat, f < 18446744073709551616 → Calls Tryz.prog 194 #[.int .u64 (f : Int), .int .i64 ((2 ^ T.kp : Nat) : Int)] W fun e w' => e = .returned (.int .i64 (bkt T.kp f : Int)) ∧ W = w'
  cg : ∀ W, Fr (fun b => n₀ ≤ b) w0 W → ∀ a ∈ T.ars, ∀ (i : Nat) (hi : i < a.2.1.length) (A : Option Addr) (n cap : Nat) (L : List NK), NRow W (.slice A n cap) n₀ L → L.length + (a.2.1[i]).length ≤ 1073741824 →
    Calls Tryz.prog 195 #[.pointer (some ⟨tp, 0, none⟩), .slice A n cap, .int .u64 (plOf G hs bs a.1 : Int), .int .i64 (i : Int)] W (GatPost W (.slice A n cap) n₀ L T.seed a.2.1[i])
  k1 : ∀ W, Fr (fun b => n₀ ≤ b) w0 W → ∃ hd : Nat, W.cell? ⟨tp, 1, none⟩ = some (.int .i64 ((hd : Int) + 1))
theorem TAt.c1' {w : World} {own : Own} {hp tp hd : Nat} (h : TAt w own hp tp hd) : w.cell? ⟨tp, 1, none⟩ = some (.int .i64 ((hd : Int) + 1)) := by simp [World.cell?, h.cell]
section
variable {w : World} {own : Own} {hp : Nat} {G : Gr} {hs : List Nat} {bs : List (Option Nat)} {tp hd t len n₀ : Nat} {T : Tab} {rest : Plan}
theorem Tab.Ok.ars_chain (h : T.Ok) {a : Nat × List (List Ent) × Nat} (ha : a ∈ T.ars) (i : Nat) (hi : i < a.2.1.length) {c1 c2 : List Ent} {e : Ent} (hc : a.2.1[i] = c1 ++ e :: c2) : e ∈ T.ents ∧ (∀ p ∈ chainL T.seed (a.2.1[i]), p ∈ T.planL t len) := by
  have hsub : ∀ (bl : List (List Ent)) (hi : i < bl.length), ∀ p ∈ chainL T.seed bl[i], p ∈ bl.flatMap (chainL T.seed) := fun bl hi p hp => List.mem_flatMap.2 ⟨_, List.getElem_mem hi, hp⟩
  have hent : ∀ (bl : List (List Ent)) (hi : i < bl.length), bl[i] = c1 ++ e :: c2 → e ∈ bl.flatten := fun bl hi hc => List.mem_flatten.2 ⟨bl[i], List.getElem_mem hi, by rw [hc]; simp⟩
  unfold Tab.ars at ha
  unfold Tab.planL Tab.ents
  rcases List.mem_cons.1 ha with rfl | ha
  · exact ⟨List.mem_append_left _ (hent _ hi hc), fun p hp => List.mem_cons_of_mem _ (List.mem_append_right _ (List.mem_append_left _ (hsub _ hi p hp)))⟩
  · by_cases ho : T.oid = 0
    · rw [if_pos ho] at ha; cases ha
    · rw [if_neg ho, List.mem_singleton] at ha
      subst ha
      exact ⟨List.mem_append_right _ (hent _ hi hc), fun p hp => List.mem_cons_of_mem _ (List.mem_append_right _ (List.mem_append_right _ (hsub _ hi p hp)))⟩
set_option maxRecDepth 100000 in
theorem enC (H : HO w own hp G hs bs) (gl : Gl w own) (ht : TAt w own hp tp hd) (hh : (hd, t) ∈ G.hands) (h : TSt hs bs t T) (S : Sat G (T.planL t len ++ rest)) (hn : n₀ ≤ w.heap.size) (hown : ∀ b, n₀ ≤ b → own b = 0) (htp : tp < n₀) (hgl : 2 < n₀) (hents : T.ents.length ≤ 1073741824) : EnC w hp tp G hs bs T n₀ := by
  have HF : ∀ W, Fr (fun b => n₀ ≤ b) w W → HO W own hp G hs bs ∧ TAt W own hp tp hd ∧ Gl W own := fun W hf =>
    ⟨H.fr hf hown, ht.fr hf (by omega), gl.fr hf (fun b hb => Nat.lt_of_lt_of_le hgl hb)⟩
  have R := h.raw S
  have kk := h.ok.kp_le
  have harr : ∀ a ∈ T.ars, Live hs bs a.1 ∧ G.node a.1 = arrN (a.2.1.map headId) := fun a ha => by
    unfold Tab.ars at ha
    rcases List.mem_cons.1 ha with rfl | ha
    · exact ⟨h.ln, S.new⟩
    · by_cases ho : T.oid = 0
      · rw [if_pos ho] at ha; cases ha
      · rw [if_neg ho, List.mem_singleton] at ha
        subst ha
        exact ⟨h.lo ho, S.old ho⟩
  refine ⟨fun W hf => ?_, fun W hf => ?_, fun W hf a ha => ?_, fun W hf f hf2 => ?_, fun W hf a ha i hi A n cap L hr hl => ?_, fun W hf => ⟨hd, (HF W hf).2.1.c1'⟩⟩
  · exact own_at (HF W hf).1 (HF W hf).2.1 hh R 0 (by decide) 0
  · exact own_at (HF W hf).1 (HF W hf).2.1 hh R 1 (by decide) 0
  · have q := tsize_walk (HF W hf).1 (HF W hf).2.1 (harr a ha).1
    have e : (G.node a.1).refs.length = 2 ^ a.2.2 := by rw [(harr a ha).2]; show (a.2.1.map headId).length = _; rw [List.length_map]; exact (kk.2.2 a ha).2.2
    rw [e] at q
    exact q
  · exact bucket_walk W own (HF W hf).2.2 T.kp (by have := kk.2.1; omega) (by have := kk.1; omega) f hf2
  · have k2 := kk.2.2 a ha
    refine gather_walk (HF W hf).1 (HF W hf).2.1 T.seed a.2.1[i] a.1 i (a.2.1.map headId) (harr a ha).1 (harr a ha).2 (by rw [List.getElem?_map, List.getElem?_eq_getElem hi]; rfl) ?_ (fun e => hashN_lt _ _) A n cap n₀ L (Nat.le_trans hn hf.size) hown hr hl
    intro c1 e c2 hc
    obtain ⟨he, hpl⟩ := h.ok.ars_chain (t := t) (len := len) ha i hi hc
    have hm := chain_mem T.seed c1 c2 e
    rw [← hc] at hm
    obtain ⟨l1, l2⟩ := h.le he
    exact ⟨l1, l2, S.node (List.mem_append_left _ (hpl _ hm.1)), S.blob (List.mem_append_left _ (hpl _ hm.2))⟩
end
end Go.Proofs.YtglglknhifjbaaaGreatDoor.Sp
