import Derived.Test.YtglglknhifjbaaaGreatDoorDrd
namespace Go.Proofs.YtglglknhifjbaaaGreatDoor.Sp
open Go.RowKit Go.Proofs.YtglglknhifjbaaaGreatDoorW.PrintWords Go.Proofs.YtglglknhifjbaaaGreatDoorW.PrintLast Go.Proofs.YtglglknhifjbaaaGreatDoorW.PrintMore
set_option linter.unusedVariables false
set_option linter.unusedSimpArgs false
theorem Tab.step_seed (T : Tab) : T.step.seed = T.seed := by
  unfold Tab.step
  split
  · rfl
  · split <;> rfl
theorem Tab.push_seed (T : Tab) (e : Ent) : (T.push e).seed = T.seed := T.lay_seed _ _
def NoRoom (G : Gr) (v : Nat) (P : Plan) (s : Nat) : Prop := ∃ G' : Gr, Sat G' P ∧ ¬ G'.room s ∧ G'.limit = G.limit ∧ ∀ p ∈ G'.hands, p ∈ G.hands ∨ p.2 = v ∨ p.2 ∈ Plan.ids P
theorem NoRoom.not {G : Gr} {v : Nat} {P : Plan} {s : Nat} (h : NoRoom G v P s) (hs : Plan.Shut P G.hands) (hv : v = 0 ∨ v ∈ Plan.ids P) : ¬ 2 * (Plan.wt P + s + 66) ≤ G.limit := fun hle => by
  obtain ⟨G', S, hn, hl, hh⟩ := h
  apply hn
  have hsh : Plan.Shut P G'.hands := ⟨hs.refs, fun p hp => by
    rcases hh p hp with h | h | h
    · exact hs.hands p h
    · rw [h]; exact hv
    · exact .inr h⟩
  exact ⟨Plan.ids P, fun i hr => hsh.cover S hr, by rw [S.wt, hl]; exact hle⟩
def PutPost (w : World) (own : Own) (hp : Nat) (G : Gr) (t : Nat) (T : Tab) (rest : Plan) (key : List Int) (v a b : Nat) (e : Ending) (w' : World) : Prop :=
  ∃ own' G' hs' bs' T', Wr w own hp G w' own' G' hs' bs' ∧ T'.Ok ∧ Sat G' (T'.plan t ++ rest) ∧
    ((e = .returned (.tuple #[.bool false, .int .i64 0]) ∧ ∃ c1 x c2, T.step.cur (hashN T.seed key) = c1 ++ x :: c2 ∧ x.key = key ∧ T' = T.step.lay (hashN T.seed key) (c1 ++ { x with ref := v, a := a, b := b } :: c2)) ∨
     (e = .returned (.tuple #[.bool false, .int .i64 31]) ∧ T' = T.step ∧ T.find key = none ∧ (NoRoom G v (T.step.plan t ++ rest) (2 + wordsN key.length) ∨ ∃ id, NoRoom G v ((id, .blob key) :: (T.step.plan t ++ rest)) 7)) ∨
     (e = .returned (.tuple #[.bool true, .int .i64 0]) ∧ T.find key = none ∧ ∃ x : Ent, x.key = key ∧ x.ref = v ∧ x.a = a ∧ x.b = b ∧
        ((T' = T.step.push x ∧ (T.step.oid = 0 → ¬ (T.step.push x).ents.length ≤ 2 ^ T.step.nk → NoRoom G v ((T.step.push x).plan t ++ rest) (1 + 2 ^ (T.step.nk + 1)))) ∨
         (T.step.oid = 0 ∧ ¬ (T.step.push x).ents.length ≤ 2 ^ T.step.nk ∧ ∃ id, T' = (T.step.push x).beg id (T.step.nk + 1)))))
section
variable {w w1 w2 W : World} {own own1 own2 : Own} {hp : Nat} {G G1 G2 : Gr} {hs hs1 hs2 : List Nat} {bs bs1 bs2 : List (Option Nat)} {i tp hd t len : Nat} {T : Tab} {rest : Plan}
theorem Ed.below (h : Ed w own hp G hs bs w1 own1 G1) (hb : Below w1.heap.size w1 w2) : Ed w own hp G hs bs w2 own1 G1 :=
  ⟨h.ho.below hb, h.st.trans (HStep.below own1 hb), h.pl, h.hands, h.next, h.limit⟩
theorem Wr.below (h : Wr w own hp G w1 own1 G1 hs1 bs1) (hb : Below w1.heap.size w1 w2) : Wr w own hp G w2 own1 G1 hs1 bs1 :=
  ⟨h.ho.below hb, h.st.trans (HStep.below own1 hb), h.hands, h.next, h.limit⟩
theorem Wr.close {k v : Nat} {w5 w6 : World} {own5 own6 : Own} {G5 : Gr} {hs5 : List Nat} {bs5 : List (Option Nat)} (h : Wr w1 own1 hp (G.hold k v) w5 own5 G5 hs5 bs5) (st1 : HStep w own w1 own1) (hfree : ∀ j, (k, j) ∉ G.hands) (H6 : HO w6 own6 hp (G5.letGo k) hs5 bs5) (st6 : HStep w5 own5 w6 own6) : Wr w own hp G w6 own6 (G5.letGo k) hs5 bs5 :=
  ⟨H6, (st1.trans h.st).trans st6, by show dropH k G5.hands = _; rw [h.hands]; exact dropH_cons hfree, h.next, h.limit⟩
theorem Tab.arefs_heads (T : Tab) (h : Nat) : T.arefs (T.ob.map headId) h = T.heads h := by
  unfold Tab.arefs Tab.heads Tab.arr
  split <;> rfl
theorem entShape : Shape 6 3 3 := ⟨by decide, by decide, by decide, by decide⟩
theorem Tab.push_nk (T : Tab) (e : Ent) : (T.push e).nk = T.nk ∧ (T.push e).oid = T.oid ∧ (T.push e).nid = T.nid := by
  unfold Tab.push Tab.lay
  split <;> exact ⟨rfl, rfl, rfl⟩
theorem lay_sat {key : List Int} {P : Plan} (S : Sat G P) (h1 : 1 ≤ G.next) (hk : IsB key) (hl : key.length ≤ 4096) : Sat (G.add (blobN (natsOf key))) ((G.next, .blob key) :: P) := by
  have h := blobN_ok (natsOf key) (natsOf_lt hk) (by rw [natsOf_len]; exact hl)
  rw [intsOf_nats hk] at h
  exact S.more h1 _ _ h
structure PutSt (w1 : World) (own1 : Own) (hp : Nat) (G1 : Gr) (t : Nat) (T : Tab) (rest ex : Plan) (w : World) (own : Own) (G : Gr) (hs : List Nat) (bs : List (Option Nat)) : Prop where
  wr : Wr w1 own1 hp G1 w own G hs bs
  sat : Sat G (ex ++ (T.plan t ++ rest))
theorem put_tail {xi ni x v a b : Nat} {key : List Int} (H : HO w own hp G hs bs) (gl : Gl w own) (ht : TAt w own hp tp hd) (hh : (hd, t) ∈ G.hands) (hT : T.Ok) (S : Sat G ((xi, .node (Node.new 6 3 3)) :: (ni, .blob key) :: (T.plan t ++ rest))) (hlx : Live hs bs xi) (hln : Live hs bs ni) (hlv : v = 0 ∨ Live hs bs v)
    (ha : a < 18446744073709551616) (hb : b < 18446744073709551616) (hx : hashN T.seed key = x) :
    Calls Tryz.prog 70 #[.pointer (some ⟨hp, 0, none⟩), .int .u64 (plOf G hs bs xi : Int), .int .i64 1, .int .u64 (plOf G hs bs ni : Int)] w fun e w1 => e = .returned (.int .i64 0) ∧ w1.cell? ⟨tp, 0, none⟩ = some (.pointer (some ⟨hp, 0, none⟩)) ∧
      Hid (Calls Tryz.prog 70 #[.pointer (some ⟨hp, 0, none⟩), .int .u64 (plOf G hs bs xi : Int), .int .i64 3, .int .u64 (x : Int)] w1 fun e w2 => e = .returned (.int .i64 0) ∧
        Hid (Calls Tryz.prog 190 #[.pointer (some ⟨tp, 0, none⟩), .int .u64 (plOf G hs bs xi : Int), .int .u64 (plOf G hs bs v : Int), .int .u64 (a : Int), .int .u64 (b : Int)] w2 fun e w3 => e = .returned (.tuple #[]) ∧
          Hid (Calls Tryz.prog 191 #[.pointer (some ⟨tp, 0, none⟩), .int .u64 (plOf G hs bs xi : Int), .int .u64 (x : Int)] w3 fun e w4 => e = .returned (.tuple #[]) ∧
            Hid (∃ own4 G4, Ed w own hp G hs bs w4 own4 G4 ∧ Sat G4 ((T.push ⟨xi, ni, key, v, a, b⟩).planL t T.ents.length ++ rest))))) := by
  have hxl : x < 18446744073709551616 := by rw [← hx]; exact hashN_lt _ _
  have n0 : G.node xi = ⟨6, [0, 0, 0], [0, 0, 0]⟩ := S.node List.mem_cons_self
  have s1 := setRef_walk H hlx 1 ni (by rw [n0]; decide) (.inr hln)
  rw [n0] at s1
  refine s1.mono ?_
  rintro e w1 ⟨rfl, own1, E1⟩
  refine ⟨rfl, (ht.step E1.st).c0, Lib.hid ?_⟩
  have n1 : (G.put xi (Node.setRef ⟨6, [0, 0, 0], [0, 0, 0]⟩ 1 ni)).node xi = ⟨6, [0, ni, 0], [0, 0, 0]⟩ := Gr.put_same _ _ _
  have s2 := setRw_walk E1.ho hlx 0 3 x (by rw [n1]; show 0 < 3; decide) (by rw [n1]; rfl) hxl
  rw [n1, E1.pl, Gr.put_put] at s2
  refine s2.mono ?_
  rintro e w2 ⟨rfl, own2, E2⟩
  refine ⟨rfl, Lib.hid ?_⟩
  have E12 := E1.trans E2
  have n2 : (G.put xi (Node.setRw ⟨6, [0, ni, 0], [0, 0, 0]⟩ 0 x)).node xi = ⟨6, [0, ni, 0], [x, 0, 0]⟩ := Gr.put_same _ _ _
  have s3 := tlay_walk E12.ho (ht.step E12.st) hlx (by rw [n2]; rfl) (by rw [n2]; rfl) v a b hlv ha hb
  rw [n2, E12.pl, Gr.put_put] at s3
  refine s3.mono ?_
  rintro e w3 ⟨rfl, own3, E3⟩
  refine ⟨rfl, Lib.hid ?_⟩
  have E13 := E12.trans E3
  have hent : (((Node.setRef ⟨6, [0, ni, 0], [x, 0, 0]⟩ 2 v).setRw 1 a).setRw 2 b) = entN T.seed ⟨xi, ni, key, v, a, b⟩ 0 := by
    unfold entN Ent.hash
    rw [hx]; rfl
  rw [hent] at E13
  have S3 : Sat (G.put xi (entN T.seed ⟨xi, ni, key, v, a, b⟩ 0)) ((xi, .node (entN T.seed ⟨xi, ni, key, v, a, b⟩ 0)) :: (ni, .blob key) :: (T.plan t ++ rest)) := S.turn _ rfl
  have hh3 : (hd, t) ∈ (G.put xi (entN T.seed ⟨xi, ni, key, v, a, b⟩ 0)).hands := hh
  have h3 := TSt.of E13.ho hh3 hT S3.tail.tail
  have n3 : (G.put xi (entN T.seed ⟨xi, ni, key, v, a, b⟩ 0)).node xi = entN T.seed ⟨xi, ni, key, v, a, b⟩ 0 := Gr.put_same _ _ _
  have R3 := h3.raw S3.tail.tail
  have hxa : xi ≠ T.aid x := fun q => by
    have := (R3.arr x).1
    rw [← q, n3] at this
    have := congrArg Node.kind this
    exact absurd this (by show ¬ (6 : Nat) = 5; decide)
  have s4 := hang_walk E13.ho (gl.step E13.st) (ht.step E13.st) hh3 R3 x hxl xi hlx (by rw [n3]; show 1 ≤ 3; decide) hxa
  rw [n3, E13.pl, T.arefs_heads] at s4
  have hg := hT.heads_get x hxl
  rw [List.getD_eq_getElem?_getD, hg] at s4
  refine s4.mono ?_
  rintro e w4 ⟨rfl, own4, E4⟩
  refine ⟨rfl, Lib.hid ⟨own4, _, E13.trans E4, ?_⟩⟩
  have hhx : Ent.hash T.seed ⟨xi, ni, key, v, a, b⟩ = x := hx
  have := Sat.push (e := ⟨xi, ni, key, v, a, b⟩) (nx := 0) S3 hT (by rw [hhx]; exact hxl)
  rw [hhx] at this
  exact this
theorem put_tail2 {x : Ent} {n0 : Nat} (H : HO w own hp G hs bs) (ht : TAt w own hp tp hd) (hh : (hd, t) ∈ G.hands) (hT : T.Ok) (hx : x.hash T.seed < 18446744073709551616) (hTP : (T.push x).Ok) (hn0 : T.ents.length = n0) (hle : n0 ≤ 1048576) (S : Sat G ((T.push x).planL t n0 ++ rest)) (hlive : ∀ i ∈ Plan.ids ((T.push x).plan t), Live hs bs i) :
    (∀ W, Dw w W → Hid (Calls Tryz.prog 95 #[.pointer (some ⟨tp, 0, none⟩)] W fun e w' => e = .returned (.int .i64 (n0 : Int)) ∧ ∃ n, w' = W.drewN n) ∧
      Hid (Calls Tryz.prog 73 #[.pointer (some ⟨tp, 0, none⟩)] W fun e w' => e = .returned (.int .u64 (plOf G hs bs t : Int)) ∧ ∃ n, w' = W.drewN n) ∧
      Hid (Calls Tryz.prog 70 #[.pointer (some ⟨hp, 0, none⟩), .int .u64 (plOf G hs bs t : Int), .int .i64 3, .int .u64 ((n0 + 1 : Nat) : Int)] W fun e w1 => e = .returned (.int .i64 0) ∧ w1.cell? ⟨tp, 0, none⟩ = some (.pointer (some ⟨hp, 0, none⟩)) ∧
        ∃ own1 G1, Hid (Ed w own hp G hs bs w1 own1 G1 ∧ Sat G1 ((T.push x).plan t ++ rest)) ∧
          ∀ W1, Dw w1 W1 → Hid (Calls Tryz.prog 146 #[.pointer (some ⟨tp, 0, none⟩), .int .i64 0] W1 fun e w' => e = .returned (.int .u64 (plOf G hs bs T.nid : Int)) ∧ ∃ n, w' = W1.drewN n) ∧
            Hid (Calls Tryz.prog 171 #[.pointer (some ⟨tp, 0, none⟩), .int .u64 (plOf G hs bs T.nid : Int)] W1 fun e w' => e = .returned (.int .i64 ((2 ^ T.nk : Nat) : Int)) ∧ W1 = w'))) := by
  obtain ⟨q1, q2, q3⟩ := T.push_nk x
  have hlen : (T.push x).ents.length = n0 + 1 := by rw [(hT.push_ents x hx).length_eq, List.length_cons, hn0]
  have h : TSt hs bs t (T.push x) := ⟨hTP, hlive, hTP.mvle⟩
  intro W k
  have R := h.raw S
  refine ⟨Lib.hid (len_walk (H.dw k) (ht.dw k) hh R (by omega)), Lib.hid (tref_walk (H.dw k) (ht.dw k) hh), Lib.hid ?_⟩
  have tn : G.node t = (T.push x).tabN n0 := S.tab
  have s1 := setRw_walk (H.dw k) h.lt 1 3 (n0 + 1) (by rw [tn]; show 1 < 3; decide) (by rw [tn]; rfl) (by omega)
  rw [tn] at s1
  refine s1.mono ?_
  rintro e w1 ⟨rfl, own1, E1⟩
  have E01 : Ed w own hp G hs bs w1 own1 (G.put t (((T.push x).tabN n0).setRw 1 (n0 + 1))) := ⟨E1.ho, (HStep.dw own k).trans E1.st, E1.pl, E1.hands, E1.next, E1.limit⟩
  have S1 : Sat (G.put t (((T.push x).tabN n0).setRw 1 (n0 + 1))) ((T.push x).plan t ++ rest) := by
    rw [Tab.plan_eq, hlen]
    exact S.setLen (n0 + 1)
  refine ⟨rfl, (ht.step E01.st).c0, own1, _, Lib.hid ⟨E01, S1⟩, fun W1 k1 => ⟨Lib.hid ?_, Lib.hid ?_⟩⟩
  · have tn1 : (G.put t (((T.push x).tabN n0).setRw 1 (n0 + 1))).node t = (T.push x).tabN (n0 + 1) := Gr.put_same _ _ _
    have := town_walk (E01.ho.dw k1) ((ht.step E01.st).dw k1) (by rw [E01.hands]; exact hh) h.lt 0 (by rw [tn1]; show 0 < 2 + 3; decide)
    rw [tn1, E01.pl] at this
    have e : ((T.push x).tabN (n0 + 1)).at (plOf G hs bs) 0 = plOf G hs bs (T.push x).nid := rfl
    rw [e, q3] at this
    exact this
  · have hln := h.ln
    have hnn := S1.new
    rw [q3] at hln hnn
    have := tsize_walk (E01.ho.dw k1) ((ht.step E01.st).dw k1) hln
    rw [hnn, E01.pl] at this
    have e : (arrN ((T.push x).nb.map headId)).refs.length = 2 ^ T.nk := by
      show ((T.push x).nb.map headId).length = _
      rw [List.length_map, hTP.nlen, q1]
    rwa [e] at this
theorem put_fin {k v a b : Nat} {key : List Int} {T' : Tab} {w5 : World} {own5 : Own} {G5 : Gr} {hs5 : List Nat} {bs5 : List (Option Nat)} {e0 : Ending} (st1 : HStep w own w1 own1) (hfree : ∀ j, (k, j) ∉ G.hands) (h : Wr w1 own1 hp (G.hold k v) w5 own5 G5 hs5 bs5) (hT : T'.Ok) (S : Sat G5 (T'.plan t ++ rest))
    (hq : (e0 = .returned (.tuple #[.bool false, .int .i64 0]) ∧ ∃ c1 x c2, T.step.cur (hashN T.seed key) = c1 ++ x :: c2 ∧ x.key = key ∧ T' = T.step.lay (hashN T.seed key) (c1 ++ { x with ref := v, a := a, b := b } :: c2)) ∨
     (e0 = .returned (.tuple #[.bool false, .int .i64 31]) ∧ T' = T.step ∧ T.find key = none ∧ (NoRoom G v (T.step.plan t ++ rest) (2 + wordsN key.length) ∨ ∃ id, NoRoom G v ((id, .blob key) :: (T.step.plan t ++ rest)) 7)) ∨
     (e0 = .returned (.tuple #[.bool true, .int .i64 0]) ∧ T.find key = none ∧ ∃ x : Ent, x.key = key ∧ x.ref = v ∧ x.a = a ∧ x.b = b ∧
        ((T' = T.step.push x ∧ (T.step.oid = 0 → ¬ (T.step.push x).ents.length ≤ 2 ^ T.step.nk → NoRoom G v ((T.step.push x).plan t ++ rest) (1 + 2 ^ (T.step.nk + 1)))) ∨
         (T.step.oid = 0 ∧ ¬ (T.step.push x).ents.length ≤ 2 ^ T.step.nk ∧ ∃ id, T' = (T.step.push x).beg id (T.step.nk + 1))))) :
    Calls Tryz.prog 72 #[.pointer (some ⟨hp, 0, none⟩), .int .i64 ((k : Int) + 1)] w5 (fun e w6 => e = .returned (.int .i64 0) ∧ PutPost w own hp G t T rest key v a b e0 w6) ∧
    CallsD Tryz.prog 72 #[.pointer (some ⟨hp, 0, none⟩), .int .i64 ((k : Int) + 1)] .returning w5 (fun e u' w6 => u' = .returning ∧ e = .returned (.int .i64 0) ∧ PutPost w own hp G t T rest key v a b e0 w6) := by
  have hkh : (k, v) ∈ G5.hands := by rw [h.hands]; exact List.mem_cons_self
  constructor
  · refine (hDrop_walk h.ho hkh).mono ?_
    rintro e w6 ⟨rfl, own6, H6, st6⟩
    exact ⟨rfl, own6, _, hs5, bs5, T', h.close st1 hfree H6 st6, hT, S.hands _, hq⟩
  · refine (hDrop_deferred .returning h.ho hkh).mono ?_
    rintro e u' w6 ⟨rfl, rfl, own6, H6, st6⟩
    exact ⟨rfl, rfl, own6, _, hs5, bs5, T', h.close st1 hfree H6 st6, hT, S.hands _, hq⟩
set_option maxHeartbeats 2000000 in
set_option maxRecDepth 100000 in
theorem put_walk (H : HO w own hp G hs bs) (gl : Gl w own) (ht : TAt w own hp tp hd) (hh : (hd, t) ∈ G.hands) (hT : T.Ok) (S : Sat G (T.plan t ++ rest)) (hn : G.hands.length < 900) (A : Option Addr) (key : List Int) (c : Nat) (hk : IsB key) (hA : HasB w A key) (hA0 : ∀ g o, A = some ⟨g, o, none⟩ → own g = 0) (hkl : key.length ≤ 4096)
    (v a b : Nat) (hv : v = 0 ∨ Live hs bs v) (ha : a < 18446744073709551616) (hb : b < 18446744073709551616) (hents : T.ents.length ≤ 1048576) :
    Calls Tryz.prog 141 #[.pointer (some ⟨tp, 0, none⟩), .slice A key.length c, .int .u64 (plOf G hs bs v : Int), .int .u64 (a : Int), .int .u64 (b : Int)] w (PutPost w own hp G t T rest key v a b) := by
  have HR := Lib.hid (hRoot_walk H hv (by omega))
  have HA := Lib.hid hA; have HA0 := Lib.hid hA0; have HKB := Lib.hid hk
  have k0 := ht.c0
  have k1 := ht.c1
  have hdl := ht.hl
  have e0 : ((hd : Int) + 1 == 0) = false := by rw [beq_eq_false_iff_ne]; omega
  have d0 : decide ((4096 : Int) < (key.length : Int)) = false := decide_eq_false (by omega)
  have hbk : ∀ W, HStep w own W own → True := fun _ _ => trivial
  obtain ⟨pv, hpv⟩ : ∃ pv, plOf G hs bs v = pv := ⟨_, rfl⟩
  rw [hpv] at HR ⊢
  obtain ⟨kl, hkl0⟩ : ∃ kl, key.length = kl := ⟨_, rfl⟩
  have HKL := Lib.hid (And.intro hkl0 hkl)
  rw [hkl0] at d0 ⊢
  have HIn := Lib.hid (And.intro H (And.intro gl (And.intro ht (And.intro hh (And.intro hT (And.intro S (And.intro hn (And.intro hv (And.intro ha (And.intro hb (And.intro hents hpv)))))))))))
  clear H gl ht hh hT S hn hv ha hb hents hpv hA hA0 hk hkl0 hkl hbk
  go_enter_defers Tryz.func141, Tryz.ntmps141
  go_wp2_with fail
  refine HR.out.mono ?_
  rintro e w1 ⟨k, own1, rfl, hfree, hk1000, H1, st1⟩
  obtain ⟨H, gl, ht, hh, hT, S, hn, hv, ha, hb, hents, hpv⟩ := HIn.out
  have ht1 := ht.step st1
  have hh1 : (hd, t) ∈ (G.hold k v).hands := List.mem_cons_of_mem _ hh
  have S1 : Sat (G.hold k v) (T.plan t ++ rest) := S.hands _
  have h1 := TSt.of H1 hh1 hT S1
  have HSt := Lib.hid (step_walk H1 (gl.step st1) ht1 hh1 h1 S1 (by omega))
  have k0a := ht1.c0
  have HB1 := Lib.hid (And.intro hfree (And.intro H1 st1))
  clear H gl ht hh hT S hn hv ha hb hents hpv ht1 hh1 S1 h1 hfree H1 st1 k0 k1
  go_wp2_with fail
  refine HSt.out.mono ?_
  rintro e w2 ⟨rfl, own2, G2, E2, S2⟩
  obtain ⟨hfree, H1, st1⟩ := HB1.out
  obtain ⟨H, gl, ht, hh, hT, S, hn, hv, ha, hb, hents, hpv⟩ := HIn.out
  have st2 := st1.trans E2.st
  have ht2 := ht.step st2
  have hh2 : (hd, t) ∈ G2.hands := by rw [E2.hands]; exact List.mem_cons_of_mem _ hh
  have hT2 : T.step.Ok := hT.step (hashN_lt T.seed)
  have h2 := TSt.of E2.ho hh2 hT2 S2
  have O2 : Hid (∀ n, Calls Tryz.prog 146 #[.pointer (some ⟨tp, 0, none⟩), .int .i64 2] (w2.drewN n) fun e w' => e = .returned (.int .u64 (T.seed : Int)) ∧ ∃ m, w' = w2.drewN m) := by
    have := own_at E2.ho ht2 hh2 (h2.raw S2) 2 (by decide)
    have e1 : (T.step.tabN T.step.ents.length).at (plOf G2 hs bs) 2 = T.step.seed := rfl
    rw [e1, T.step_seed] at this
    exact Lib.hid this
  have HHash : Hid (∀ W, Below w2.heap.size w2 W → Calls Tryz.prog 148 #[.int .u64 (T.seed : Int), .slice A kl c] W fun e w' => e = .returned (.int .u64 (hashN T.seed key : Int)) ∧ Below w2.heap.size w2 w') := Lib.hid fun W hb => by
    have hA2 : HasB w2 A key := fun h0 => by
      obtain ⟨g, o, e, q1, q2⟩ := HA.out h0
      exact ⟨g, o, e, Nat.lt_of_lt_of_le q1 st2.fr.size, fun j hj => by rw [st2.cell (p := ⟨g, o + j, none⟩) q1 (HA0.out g o e)]; exact q2 j hj⟩
    have := hashW W T.seed hT.seed A key c HKB.out ((srcB_ints HKB.out).2 (hA2.below hb)) HKL.out.2
    rw [HKL.out.1] at this
    refine this.mono ?_
    rintro e w' ⟨rfl, hb2⟩
    exact ⟨rfl, hb.trans (hb2.mono hb.size)⟩
  have HFind : Hid (∀ W, Below w2.heap.size w2 W → Calls Tryz.prog 147 #[.pointer (some ⟨tp, 0, none⟩), .int .u64 (hashN T.seed key : Int), .slice A kl c] W (FindPost W G2 hs bs T.step (hashN T.seed key) key)) := Lib.hid fun W hb => by
    have hA2 : HasB w2 A key := fun h0 => by
      obtain ⟨g, o, e, q1, q2⟩ := HA.out h0
      exact ⟨g, o, e, Nat.lt_of_lt_of_le q1 st2.fr.size, fun j hj => by rw [st2.cell (p := ⟨g, o + j, none⟩) q1 (HA0.out g o e)]; exact q2 j hj⟩
    have := find_walk (E2.ho.below hb) ((gl.step st2).below hb) (ht2.below hb) hh2 h2 S2 A key c HKB.out (hA2.below hb) (hashN T.seed key) (by rw [T.step_seed])
    rw [HKL.out.1] at this
    exact this
  have HB2 := Lib.hid (And.intro E2 S2)
  clear H gl ht hh hT S hn hv ha hb hents hpv ht2 hh2 S2 h2 hfree H1 st1 st2 E2 hT2 HSt k0a
  go_wp2_with fail
  refine (O2.out 0).mono ?_
  rintro e w' ⟨rfl, m, rfl⟩
  go_wp2_with fail
  refine (HHash.out _ (below_drewN m)).mono ?_
  rintro e w3 ⟨rfl, b3⟩
  replace b3 := Lib.hid b3
  obtain ⟨x, hx⟩ : ∃ x, hashN T.seed key = x := ⟨_, rfl⟩
  rw [hx] at HFind ⊢
  replace hx := Lib.hid hx
  go_wp2_with fail
  refine (HFind.out _ b3.out).mono ?_
  rintro e w4 ⟨b4, ⟨p, f, rfl, hnone⟩ | ⟨c1, y, c2, rfl, hcur, hyk⟩⟩
  · replace b4 := Lib.hid b4; replace hnone := Lib.hid hnone
    have k4 : w4.cell? ⟨tp, 0, none⟩ = some (.pointer (some ⟨hp, 0, none⟩)) := (HIn.out.2.2.1.step (HB1.out.2.2.trans (HB2.out.1.below (b3.out.trans (b4.out.mono b3.out.size))).st)).c0
    have hz0 : T.step.find key = none := (HIn.out.2.2.2.2.1.step (hashN_lt T.seed)).find_cur key (by rw [T.step_seed, hx.out]; exact hnone.out)
    have hfn : Hid (T.find key = none) := Lib.hid (by
      rw [Tab.find_none] at hz0 ⊢
      intro e he
      exact hz0 e ((HIn.out.2.2.2.2.1.step_ents (hashN_lt T.seed)).mem_iff.2 he))
    replace hz0 := Lib.hid hz0
    have HNew : Hid (Calls Tryz.prog 133 #[.pointer (some ⟨hp, 0, none⟩), .slice (some ⟨w4.heap.size, 0, none⟩) 1 1] (w4.alloc (.cells #[.slice A kl c] 53)) fun e w6 =>
        (∃ nm : Nat, e = .returned (.tuple #[.int .u64 (nm : Int), .int .i64 0]) ∧ Hid (∃ own6 G6 hs6 bs6 ni, PutSt w1 own1 hp (G.hold k v) t T.step rest [(ni, .blob key)] w6 own6 G6 hs6 bs6 ∧ Live hs6 bs6 ni ∧ plOf G6 hs6 bs6 ni = nm)) ∨
        (e = .returned (.tuple #[.int .u64 0, .int .i64 31]) ∧ Hid (CallsD Tryz.prog 72 #[.pointer (some ⟨hp, 0, none⟩), .int .i64 ((k : Int) + 1)] .returning w6 fun e u' w7 => u' = .returning ∧ e = .returned (.int .i64 0) ∧ PutPost w own hp G t T rest key v a b (.returned (.tuple #[.bool false, .int .i64 31])) w7))) := by
      obtain ⟨E2, S2⟩ := HB2.out
      obtain ⟨hfree, H1, st1⟩ := HB1.out
      obtain ⟨H, gl, ht, hh, hT, S, hn, hv, ha, hb, hents, hpv⟩ := HIn.out
      have b24 := b3.out.trans (b4.out.mono b3.out.size)
      have ba : Below w4.heap.size w4 (w4.alloc (.cells #[.slice A kl c] 53)) := Below.alloc (Below.refl _ _) (Nat.le_refl _) _
      have E4 := E2.below b24
      have E5 := E4.below ba
      have hA5 : HasB (w4.alloc (.cells #[.slice A kl c] 53)) A key := fun h0 => by
        obtain ⟨g, o, e, q1, q2⟩ := HA.out h0
        exact ⟨g, o, e, Nat.lt_of_lt_of_le q1 (st1.trans E5.st).fr.size, fun j hj => by rw [(st1.trans E5.st).cell (p := ⟨g, o + j, none⟩) q1 (HA0.out g o e)]; exact q2 j hj⟩
      have hcell : (w4.alloc (.cells #[.slice A kl c] 53)).cell? ⟨w4.heap.size, 0, none⟩ = some (.slice A key.length c) := by
        rw [HKL.out.1]
        unfold World.cell?
        rw [alloc_at, if_pos rfl]; rfl
      refine Lib.hid ((bNew_walk E5.ho w4.heap.size 1 A key c HKB.out hcell hA5 HKL.out.2).mono ?_)
      rintro e w6 ⟨own6, hs6, bs6, st6, hkeep, ⟨rfl, H6, hl6⟩ | ⟨rfl, H6, hnr⟩⟩
      · left
        refine ⟨_, rfl, Lib.hid ⟨own6, _, hs6, bs6, G2.next, ⟨⟨H6, E5.st.trans st6, E5.hands, ?_, E5.limit⟩, lay_sat S2 E5.ho.lay.nx HKB.out HKL.out.2⟩, hl6, rfl⟩⟩
        have := E5.next
        show _ ≤ G2.next + 1
        omega
      · right
        have W6 : Wr w1 own1 hp (G.hold k v) w6 own6 G2 hs6 bs6 := ⟨H6, E5.st.trans st6, E5.hands, Nat.le_of_eq E5.next.symm, E5.limit⟩
        have hkh : (k, v) ∈ G2.hands := by rw [E2.hands]; exact List.mem_cons_self
        refine ⟨rfl, Lib.hid ((hDrop_deferred .returning H6 hkh).mono ?_)⟩
        rintro e u' w7 ⟨rfl, rfl, own7, H7, st7⟩
        refine ⟨rfl, rfl, own7, _, hs6, bs6, _, W6.close st1 hfree H7 st7, hT.step (hashN_lt T.seed), S2.hands _, .inr (.inl ⟨rfl, rfl, hfn.out, .inl ⟨G2, S2, ?_, E5.limit, fun q hq => ?_⟩⟩)⟩
        · rw [natsOf_len] at hnr; exact hnr
        · rw [E2.hands] at hq
          rcases List.mem_cons.1 hq with rfl | hq
          · exact .inr (.inl rfl)
          · exact .inl hq
    go_wp2_with fail
    refine HNew.out.mono ?_
    rintro e w6 (⟨nm, rfl, H6⟩ | ⟨rfl, HD⟩)
    · obtain ⟨own6, G6, hs6, bs6, ni, P6, hl6, hp6⟩ := H6.out
      have k6 : w6.cell? ⟨tp, 0, none⟩ = some (.pointer (some ⟨hp, 0, none⟩)) := (HIn.out.2.2.1.step (HB1.out.2.2.trans P6.wr.st)).c0
      have HRt : Hid (Calls Tryz.prog 71 #[.pointer (some ⟨hp, 0, none⟩), .int .u64 (nm : Int)] w6 (RootGPost w6 own6 hp G6 hs6 bs6 ni)) := by
        have hn6 : G6.hands.length < 1000 := by
          rw [P6.wr.hands]
          have := HIn.out.2.2.2.2.2.2.1
          show (((k, v) :: G.hands)).length < 1000
          rw [List.length_cons]; omega
        have := hRoot_walk P6.wr.ho (.inr hl6) hn6
        rw [hp6] at this
        exact Lib.hid this
      replace P6 := Lib.hid (And.intro P6 hl6)
      clear hp6 H6 HNew k4
      go_wp2_with fail
      refine HRt.out.mono ?_
      rintro e w7 ⟨k2, own7, rfl, hfree2, hk2, H7, st7⟩
      have k7 : w7.cell? ⟨tp, 0, none⟩ = some (.pointer (some ⟨hp, 0, none⟩)) := (HIn.out.2.2.1.step ((HB1.out.2.2.trans P6.out.1.wr.st).trans st7)).c0
      have HAl := Lib.hid (hAllocO_walk H7 6 3 3 entShape)
      replace H7 := Lib.hid (And.intro hfree2 (And.intro H7 st7))
      clear hfree2 st7 k6
      go_wp2_with fail
      refine HAl.out.mono ?_
      intro e w8 hq
      have hform : ∃ px er : Nat, e = .returned (.tuple #[.int .u64 (px : Int), .int .i64 (er : Int)]) ∧ ∃ own8 G8 hs8 bs8, HO w8 own8 hp G8 hs8 bs8 ∧ HStep w7 own7 w8 own8 ∧ (k2, ni) ∈ G8.hands ∧ dropH k2 G8.hands = G6.hands ∧
          (Live hs8 bs8 ni ∧ (v = 0 ∨ Live hs8 bs8 v) ∧
          ((er = 0 ∧ G8 = (G6.hold k2 ni).add (Node.new 6 3 3) ∧ Live hs8 bs8 G6.next ∧ plOf G8 hs8 bs8 G6.next = px) ∨ (px = 0 ∧ er = 31 ∧ G8 = G6.hold k2 ni ∧ ¬ (G6.hold k2 ni).room 7))) := by
        obtain ⟨own8, hs8, bs8, st8, hkeep, hc⟩ := hq
        have hni0 : ni ≠ 0 := P6.out.1.wr.ho.live_ne _ P6.out.2
        have hln : Live hs8 bs8 ni := hkeep ni (.hand k2 ni List.mem_cons_self hni0)
        have hlv : v = 0 ∨ Live hs8 bs8 v := by
          by_cases hv0 : v = 0
          · exact .inl hv0
          · refine .inr (hkeep v (.hand k v ?_ hv0))
            show (k, v) ∈ (k2, ni) :: G6.hands
            rw [P6.out.1.wr.hands]
            exact List.mem_cons_of_mem _ List.mem_cons_self
        have hdr : dropH k2 ((k2, ni) :: G6.hands) = G6.hands := dropH_cons H7.out.1
        rcases hc with ⟨rfl, H8, hl8⟩ | ⟨rfl, H8, hnr⟩
        · exact ⟨_, 0, rfl, own8, _, hs8, bs8, H8, st8, List.mem_cons_self, hdr, hln, hlv, .inl ⟨rfl, rfl, hl8, rfl⟩⟩
        · exact ⟨0, 31, rfl, own8, _, hs8, bs8, H8, st8, List.mem_cons_self, hdr, hln, hlv, .inr ⟨rfl, rfl, rfl, hnr⟩⟩
      clear hq
      obtain ⟨px, er, rfl, own8, G8, hs8, bs8, H8, st8, hk8, hd8, hrest⟩ := hform
      have ht8 : ∀ W, HStep w8 own8 W own8 → True := fun _ _ => trivial
      have stw8 := ((HB1.out.2.2.trans P6.out.1.wr.st).trans H7.out.2.2).trans st8
      have k8 : w8.cell? ⟨tp, 0, none⟩ = some (.pointer (some ⟨hp, 0, none⟩)) := (HIn.out.2.2.1.step stw8).c0
      have HAt := Lib.hid (hAt_walk H8 hk8)
      have HDr : Hid (Calls Tryz.prog 72 #[.pointer (some ⟨hp, 0, none⟩), .int .i64 ((k2 : Int) + 1)] w8 fun e w9 => e = .returned (.int .i64 0) ∧ w9.cell? ⟨tp, 0, none⟩ = some (.pointer (some ⟨hp, 0, none⟩)) ∧ Hid (∃ own9, HO w9 own9 hp (G8.letGo k2) hs8 bs8 ∧ HStep w8 own8 w9 own9)) := by
        refine Lib.hid ((hDrop_walk H8 hk8).mono ?_)
        rintro e w9 ⟨rfl, own9, H9, st9⟩
        exact ⟨rfl, (HIn.out.2.2.1.step (stw8.trans st9)).c0, Lib.hid ⟨own9, H9, st9⟩⟩
      obtain ⟨pn8, hpn8⟩ : ∃ pn8, plOf G8 hs8 bs8 ni = pn8 := ⟨_, rfl⟩
      rw [hpn8] at HAt
      have HB8 := Lib.hid (And.intro H8 (And.intro st8 (And.intro hd8 (And.intro hrest (And.intro hpn8 stw8)))))
      clear H8 st8 hk8 hd8 hrest hpn8 stw8 ht8 k7
      go_wp2_with fail
      refine HAt.out.mono ?_
      rintro e w' ⟨rfl, rfl⟩
      go_wp2_with fail
      refine HDr.out.mono ?_
      rintro e w9 ⟨rfl, k9, H9⟩
      have hT2 : T.step.Ok := HIn.out.2.2.2.2.1.step (hashN_lt T.seed)
      have hkk : G6.hands = (k, v) :: G.hands := P6.out.1.wr.hands
      obtain ⟨own9, H9, st9⟩ := H9.out
      obtain ⟨H8, st8, hd8, ⟨hln, hlv, hrest⟩, hpn8, stw8⟩ := HB8.out
      have stw9 := stw8.trans st9
      have hW9 : ∀ j, G8.next = G6.next + j → Wr w1 own1 hp (G.hold k v) w9 own9 (G8.letGo k2) hs8 bs8 := fun j hj =>
        ⟨H9, ((P6.out.1.wr.st.trans H7.out.2.2).trans st8).trans st9, by show dropH k2 G8.hands = _; rw [hd8]; exact hkk, by show G.next ≤ G8.next; have := P6.out.1.wr.next; have e : (G.hold k v).next = G.next := rfl; omega, (by
          have := P6.out.1.wr.limit
          rcases hrest with ⟨_, rfl, _⟩ | ⟨_, _, rfl, _⟩ <;> exact this)⟩
      have hkv9 : (k, v) ∈ (G8.letGo k2).hands := by show (k, v) ∈ dropH k2 G8.hands; rw [hd8, hkk]; exact List.mem_cons_self
      rcases hrest with ⟨rfl, hG8, hl8, hp8⟩ | ⟨rfl, rfl, hG8, hnr⟩
      · have hh9 : (hd, t) ∈ (G8.letGo k2).hands := by show (hd, t) ∈ dropH k2 G8.hands; rw [hd8, hkk]; exact List.mem_cons_of_mem _ HIn.out.2.2.2.1
        have S9 : Sat (G8.letGo k2) ((G6.next, .node (Node.new 6 3 3)) :: (ni, .blob key) :: (T.step.plan t ++ rest)) := by
          rw [hG8]
          exact ((P6.out.1.sat.hands ((k2, ni) :: G6.hands)).more P6.out.1.wr.ho.lay.nx (Node.new 6 3 3) (.node (Node.new 6 3 3)) rfl).hands _
        have h9 := TSt.of H9 hh9 hT2 S9.tail.tail
        obtain ⟨H, gl, ht, hh, hT, S, hn, hv, ha, hb, hents, hpv⟩ := HIn.out
        have hxs : hashN T.step.seed key = x := by rw [T.step_seed]; exact hx.out
        have e9 : plOf (G8.letGo k2) hs8 bs8 = plOf G8 hs8 bs8 := rfl
        have HAv := hAt_walk H9 hkv9
        have HTl := put_tail H9 (gl.step stw9) (ht.step stw9) hh9 hT2 S9 hl8 hln hlv ha hb hxs
        obtain ⟨pv9, hpv9⟩ : ∃ pv9, plOf G8 hs8 bs8 v = pv9 := ⟨_, rfl⟩
        rw [e9, hpv9] at HAv
        rw [e9, hp8, hpn8, hpv9] at HTl
        obtain ⟨y, hy⟩ : ∃ y : Ent, (⟨G6.next, ni, key, v, a, b⟩ : Ent) = y := ⟨_, rfl⟩
        rw [hy] at HTl
        have hyf : y.id = G6.next ∧ y.kid = ni ∧ y.key = key ∧ y.ref = v ∧ y.a = a ∧ y.b = b := by rw [← hy]; exact ⟨rfl, rfl, rfl, rfl, rfl, rfl⟩
        have hyh : y.hash T.step.seed < 18446744073709551616 := hashN_lt _ _
        have hyo : y.Ok := ⟨by rw [hyf.2.2.1]; exact HKL.out.2, by rw [hyf.2.2.1]; exact HKB.out.b, by rw [hyf.2.2.2.2.1]; exact ha, by rw [hyf.2.2.2.2.2]; exact hb⟩
        have hTP := hT2.push y hyh hyo (by rw [hyf.2.2.1]; exact hz0.out)
        have hn0 : T.step.ents.length = T.ents.length := (hT.step_ents (hashN_lt T.seed)).length_eq
        obtain ⟨n0, hn00⟩ : ∃ n0, T.step.ents.length = n0 := ⟨_, rfl⟩
        have hlive9 : ∀ i ∈ Plan.ids ((T.step.push y).plan t), Live hs8 bs8 i := fun i hi => by
          obtain ⟨q1, q2, q3⟩ := T.step.push_nk y
          rcases ((T.step.push y).plan_ids t i).1 hi with rfl | rfl | ⟨h1, rfl⟩ | ⟨e, he, h1⟩
          · exact h9.lt
          · rw [q3]; exact h9.ln
          · rw [q2] at h1 ⊢; exact h9.lo h1
          · rcases List.mem_cons.1 ((hT2.push_ents y hyh).mem_iff.1 he) with rfl | he
            · rcases h1 with rfl | rfl
              · rw [hyf.1]; exact hl8
              · rw [hyf.2.1]; exact hln
            · rcases h1 with rfl | rfl
              · exact (h9.le he).1
              · exact (h9.le he).2
        rw [hn00] at HTl
        have hn0b : n0 ≤ 1048576 := by omega
        have ht9 := ht.step stw9
        have W9 := hW9 1 (by rw [hG8]; rfl)
        have HQ9 := Lib.hid (And.intro W9 (And.intro ht9 (And.intro hh9 (And.intro hT2 (And.intro hyh (And.intro hTP (And.intro hn00 (And.intro hlive9 (And.intro hyf h9)))))))))
        have HAv' := Lib.hid HAv
        have HTl' := Lib.hid HTl
        clear hT2 hkk H9 st9 H8 st8 hd8 hln hlv hpn8 stw8 stw9 hW9 hkv9 hG8 hl8 hp8 hh9 S9 h9 H gl ht hh hT S hn hv ha hb hents hpv hxs e9 HAv HTl hpv9 hy hyf hyh hyo hTP hn0 hn00 hlive9 ht9 W9
        go_wp2_with fail
        refine HAv'.out.mono ?_
        rintro e w' ⟨rfl, rfl⟩
        go_wp2_with fail
        refine HTl'.out.mono ?_
        rintro e w10 ⟨rfl, k10, HT1⟩
        go_wp2_with fail
        refine HT1.out.mono ?_
        rintro e w11 ⟨rfl, HT2⟩
        go_wp2_with fail
        refine HT2.out.mono ?_
        rintro e w12 ⟨rfl, HT3⟩
        go_wp2_with fail
        refine HT3.out.mono ?_
        rintro e w13 ⟨rfl, HT4⟩
        obtain ⟨own13, G13, E13, S13⟩ := HT4.out
        obtain ⟨W9, ht9, hh9, hT2, hyh, hTP, hn00, hlive9, hyf, h9⟩ := HQ9.out
        have HT5 := put_tail2 E13.ho (ht9.step E13.st) (by rw [E13.hands]; exact hh9) hT2 hyh hTP hn00 hn0b S13 hlive9
        have hnk := hT2.nk2
        have hcn := pow20 hnk.2
        have hsz : 2 ^ T.step.nk + 2 ≤ 1048576 := by
          have h1 := E13.ho.sz_le (h9.ln)
          obtain ⟨q1, q2, q3⟩ := T.step.push_nk y
          have h2 := S13.new
          rw [q3] at h2
          unfold Gr.sz at h1
          rw [h2] at h1
          have h3 : (arrN ((T.step.push y).nb.map headId)).size = 1 + 2 ^ T.step.nk := by
            unfold Node.size
            show 1 + ((T.step.push y).nb.map headId).length + 0 = _
            rw [List.length_map, hTP.nlen, q1]; rfl
          omega
        obtain ⟨n1, hn1⟩ : ∃ n1, n0 + 1 = n1 := ⟨_, rfl⟩
        obtain ⟨pt13, hpt13⟩ : ∃ pt13, plOf G13 hs8 bs8 t = pt13 := ⟨_, rfl⟩
        obtain ⟨pn13, hpn13⟩ : ∃ pn13, plOf G13 hs8 bs8 T.step.nid = pn13 := ⟨_, rfl⟩
        obtain ⟨cn, hcn0⟩ : ∃ cn, 2 ^ T.step.nk = cn := ⟨_, rfl⟩
        rw [hn1, hpt13, hpn13, hcn0] at HT5
        rw [hcn0] at hsz
        have hpow : 2 ^ (T.step.nk + 1) = 2 * cn := by rw [Nat.pow_succ, hcn0]; omega
        have HC13 : Hid (∀ W, Dw w13 W → W.cell? ⟨tp, 0, none⟩ = some (.pointer (some ⟨hp, 0, none⟩))) := Lib.hid fun W kk => ((ht9.step E13.st).dw kk).c0
        have HT5' := Lib.hid HT5
        have k13 := HC13.out w13 (Dw.refl _)
        have m1 : IntKind.i64.wrap ((n0 : Int) + 1) = (n1 : Int) := by rw [Go.IntWalk.i64_in _ (by omega)]; omega
        have m2 : IntKind.u64.wrap (n1 : Int) = (n1 : Int) := by rw [IntKind.wrap_u64]; omega
        have m3 : IntKind.i64.wrap (2 * (cn : Int)) = ((2 * cn : Nat) : Int) := by rw [Go.IntWalk.i64_in _ (by omega)]; omega
        have HN := Lib.hid (And.intro hn1 (And.intro hcn0 (And.intro hpow hsz)))
        have HW13 := Lib.hid (And.intro (W9.trans E13.wr) (ht9.step E13.st))
        clear E13 S13 W9 ht9 hh9 hT2 hyh hTP hn00 hlive9 hyf h9 HT5 hnk hcn hsz hn1 hpt13 hpn13 hcn0 hpow
        go_wp2_with fail
        refine (HT5'.out w13 (Dw.refl _)).1.out.mono ?_
        rintro e w' ⟨rfl, m13, rfl⟩
        have k13b := HC13.out (w13.drewN m13) ⟨_, rfl⟩
        go_wp2_with fail
        go_region_held3 (fun W => W.cell? ⟨tp, 0, none⟩ = some (.pointer (some ⟨hp, 0, none⟩))) (first | assumption | exact HC13.out _ ⟨_, rfl⟩) (first | (go_at_call 73; refine Calls.mono (HT5'.out _ ?_).2.1.out ?_; (exact ⟨_, rfl⟩); rintro e w2' ⟨rfl, m14, rfl⟩) | (go_at_call 70; refine Calls.mono (HT5'.out _ ?_).2.2.out ?_; (exact ⟨_, rfl⟩); rintro e w14 ⟨rfl, k14, own14, G14, H14, HT6⟩; have HT6' := Lib.hid HT6; clear HT6))
        all_goals (try (go_wp2_with fail))
        all_goals refine (HT6'.out w14 (Dw.refl _)).1.out.mono ?_
        all_goals rintro e w' ⟨rfl, m15, rfl⟩
        all_goals (try (go_wp2_with fail))
        all_goals refine (HT6'.out (w14.drewN m15) ⟨_, rfl⟩).2.out.mono ?_
        all_goals rintro e w' ⟨rfl, rfl⟩
        obtain ⟨hn1, hcn0, hpow, hsz⟩ := HN.out
        obtain ⟨W9, ht9, hh9, hT2, hyh, hTP, hn00, hlive9, hyf, h9⟩ := HQ9.out
        obtain ⟨W13, ht13⟩ := HW13.out
        obtain ⟨E14, S14⟩ := H14.out
        have hplen : (T.step.push y).ents.length = n1 := by rw [(hT2.push_ents y hyh).length_eq, List.length_cons, hn00, hn1]
        obtain ⟨q1, q2, q3⟩ := T.step.push_nk y
        have W15 := (W13.trans E14.wr).dw (⟨m15, rfl⟩ : Dw w14 (w14.drewN m15))
        have hyf' := hyf
        by_cases hcmp : cn < n1
        · have d1 : decide ((cn : Int) < (n1 : Int)) = true := decide_eq_true (by omega)
          have ht15 := (ht13.step E14.st).dw (⟨m15, rfl⟩ : Dw w14 (w14.drewN m15))
          have hh15 : (hd, t) ∈ G14.hands := by rw [W15.hands]; exact List.mem_cons_of_mem _ HIn.out.2.2.2.1
          have hk20 : T.step.nk ≤ 19 := by
            rcases Nat.lt_or_ge T.step.nk 20 with h | h
            · omega
            · have := Nat.pow_le_pow_right (show 0 < 2 by decide) h
              rw [hcn0] at this
              have : (2 : Nat) ^ 20 = 1048576 := by decide
              omega
          have HB := tbegin_walk W15.ho ht15 hh15 hTP S14 (T.step.nk + 1) ⟨by have := hT2.nk2; omega, by omega⟩ (by rw [hplen]; omega)
          have ec : (((2 ^ (T.step.nk + 1) : Nat)) : Int) = 2 * (cn : Int) := by rw [hpow]; omega
          rw [ec] at HB
          have HB' : Hid (Calls Tryz.prog 172 #[.pointer (some ⟨tp, 0, none⟩), .int .i64 (2 * (cn : Int))] (w14.drewN m15) fun e w16 => e = .returned (.tuple #[]) ∧ Hid (CallsD Tryz.prog 72 #[.pointer (some ⟨hp, 0, none⟩), .int .i64 ((k : Int) + 1)] .returning w16 (fun e u' w6 => u' = .returning ∧ e = .returned (.int .i64 0) ∧ PutPost w own hp G t T rest key v a b (.returned (.tuple #[.bool true, .int .i64 0])) w6))) := by
            refine Lib.hid (HB.mono ?_)
            rintro e w16 ⟨rfl, own16, G16, hs16, bs16, W16, ⟨S16, hnr⟩ | ⟨ho16, id16, S16⟩⟩
            · refine ⟨rfl, Lib.hid (put_fin HB1.out.2.2 HB1.out.1 (W15.trans W16) hTP S16 (.inr (.inr ⟨rfl, hfn.out, y, hyf.2.2.1, hyf.2.2.2.1, hyf.2.2.2.2.1, hyf.2.2.2.2.2, .inl ⟨rfl, fun ho _ => ⟨G14, S14, hnr (by rw [q2]; exact ho), W15.limit, fun q hq => ?_⟩⟩⟩))).2⟩
              rw [W15.hands] at hq
              rcases List.mem_cons.1 hq with rfl | hq
              · exact .inr (.inl rfl)
              · exact .inl hq
            · have hnid : (T.step.push y).nid ≠ 0 := by
                rw [q3]
                exact W9.ho.live_ne _ h9.ln
              exact ⟨rfl, Lib.hid (put_fin HB1.out.2.2 HB1.out.1 (W15.trans W16) (hTP.beg ho16 id16 (T.step.nk + 1) ⟨by have := hT2.nk2; omega, by omega⟩ hnid) S16 (.inr (.inr ⟨rfl, hfn.out, y, hyf.2.2.1, hyf.2.2.2.1, hyf.2.2.2.2.1, hyf.2.2.2.2.2, .inr ⟨by rw [← q2]; exact ho16, by rw [hplen, hcn0]; omega, id16, rfl⟩⟩))).2⟩
          clear hn1 hcn0 hpow hsz W9 ht9 hh9 hT2 hyh hTP hn00 hlive9 hyf h9 W13 ht13 E14 S14 hplen q1 q2 q3 W15 hyf' ht15 hh15 hk20 HB ec
          go_wp2_with fail
          refine HB'.out.mono ?_
          rintro e w16 ⟨rfl, HD⟩
          go_wp2_with fail
          refine leaves_cons (f := 72) (args := #[.pointer (some ⟨hp, 0, none⟩), .int .i64 ((k : Int) + 1)]) (by simp) (by simp [go_sem]) ?_
          refine HD.out.mono ?_
          rintro e u' w7 ⟨rfl, rfl, hq⟩
          refine ⟨_, results_tmp2 rfl _ _ _, ?_⟩
          exact hq
        · have d1 : decide ((cn : Int) < (n1 : Int)) = false := decide_eq_false (by omega)
          have HD : Hid (CallsD Tryz.prog 72 #[.pointer (some ⟨hp, 0, none⟩), .int .i64 ((k : Int) + 1)] .returning (w14.drewN m15) (fun e u' w6 => u' = .returning ∧ e = .returned (.int .i64 0) ∧ PutPost w own hp G t T rest key v a b (.returned (.tuple #[.bool true, .int .i64 0])) w6)) :=
            Lib.hid (put_fin HB1.out.2.2 HB1.out.1 W15 hTP S14 (.inr (.inr ⟨rfl, hfn.out, y, hyf.2.2.1, hyf.2.2.2.1, hyf.2.2.2.2.1, hyf.2.2.2.2.2, .inl ⟨rfl, fun _ hc => absurd (by rw [hplen, hcn0]; omega) hc⟩⟩))).2
          clear hn1 hcn0 hpow hsz W9 ht9 hh9 hT2 hyh hTP hn00 hlive9 hyf h9 W13 ht13 E14 S14 hplen q1 q2 q3 W15 hyf'
          go_wp2_with fail
          refine leaves_cons (f := 72) (args := #[.pointer (some ⟨hp, 0, none⟩), .int .i64 ((k : Int) + 1)]) (by simp) (by simp [go_sem]) ?_
          refine HD.out.mono ?_
          rintro e u' w7 ⟨rfl, rfl, hq⟩
          refine ⟨_, results_tmp2 rfl _ _ _, ?_⟩
          exact hq
      · have hQ := (put_fin (key := key) (T := T) (rest := rest) (t := t) (a := a) (b := b) HB1.out.2.2 HB1.out.1 (hW9 0 (by rw [hG8]; rfl)) hT2 (by rw [hG8]; exact (P6.out.1.sat.hands _).tail) (.inr (.inl ⟨rfl, rfl, hfn.out, .inr ⟨ni, G6.hold k2 ni, P6.out.1.sat.hands _, hnr, P6.out.1.wr.limit, fun q hq => ?_⟩⟩))).2
        · have HQ := Lib.hid hQ
          clear hQ hT2 hkk H9 st9 H8 st8 hd8 hln hlv hpn8 stw8 stw9 hW9 hkv9 hG8 hnr
          go_wp2_with fail
          refine leaves_cons (f := 72) (args := #[.pointer (some ⟨hp, 0, none⟩), .int .i64 ((k : Int) + 1)]) (by simp) (by simp [go_sem]) ?_
          refine HQ.out.mono ?_
          rintro e u' w7 ⟨rfl, rfl, hq⟩
          refine ⟨_, results_tmp2 rfl _ _ _, ?_⟩
          exact hq
        · have hq : q ∈ (k2, ni) :: G6.hands := hq
          rcases List.mem_cons.1 hq with rfl | hq
          · exact .inr (.inr List.mem_cons_self)
          · rw [hkk] at hq
            rcases List.mem_cons.1 hq with rfl | hq
            · exact .inr (.inl rfl)
            · exact .inl hq
    · go_wp2_with fail
      refine leaves_cons (f := 72) (args := #[.pointer (some ⟨hp, 0, none⟩), .int .i64 ((k : Int) + 1)]) (by simp) (by simp [go_sem]) ?_
      refine HD.out.mono ?_
      rintro e u' w7 ⟨rfl, rfl, hq⟩
      refine ⟨_, results_tmp2 rfl _ _ _, ?_⟩
      exact hq
  · obtain ⟨E2, S2⟩ := HB2.out
    obtain ⟨hfree, H1, st1⟩ := HB1.out
    obtain ⟨H, gl, ht, hh, hT, S, hn, hv, ha, hb, hents, hpv⟩ := HIn.out
    have hxl : x < 18446744073709551616 := by rw [← hx.out]; exact hashN_lt _ _
    have hT2 : T.step.Ok := hT.step (hashN_lt T.seed)
    have hh2 : (hd, t) ∈ G2.hands := by rw [E2.hands]; exact List.mem_cons_of_mem _ hh
    have h2 := TSt.of E2.ho hh2 hT2 S2
    have E4 := E2.below (b3.out.trans (b4.mono b3.out.size))
    have st4 := st1.trans E4.st
    have ny := (S2.ent hT2 x hxl hcur).1
    have hym : y ∈ T.step.ents := T.step.cur_sub x (by rw [hcur]; simp)
    have hly := (h2.le hym).1
    have hpe0 := E4.ho.lay.ne0 _ hly
    have hlay := tlay_walk E4.ho (ht.step st4) hly (by rw [ny]; rfl) (by rw [ny]; rfl) v a b hv ha hb
    have hplv : plOf G2 hs bs v = pv := by rw [E2.pl]; exact hpv
    rw [hplv, ny] at hlay
    have HLay : Hid (Calls Tryz.prog 190 #[.pointer (some ⟨tp, 0, none⟩), .int .u64 (plOf G2 hs bs y.id : Int), .int .u64 (pv : Int), .int .u64 (a : Int), .int .u64 (b : Int)] w4 fun e w5 => e = .returned (.tuple #[]) ∧ Hid (CallsD Tryz.prog 72 #[.pointer (some ⟨hp, 0, none⟩), .int .i64 ((k : Int) + 1)] .returning w5 fun e u' w6 => u' = .returning ∧ e = .returned (.int .i64 0) ∧ PutPost w own hp G t T rest key v a b (.returned (.tuple #[.bool false, .int .i64 0])) w6)) := by
      refine Lib.hid (hlay.mono ?_)
      rintro e w5 ⟨rfl, own5, E5⟩
      have E25 := E4.trans E5
      have hkh : (k, v) ∈ (G2.put y.id ((((entN T.step.seed y (headId c2)).setRef 2 v).setRw 1 a).setRw 2 b)).hands := by
        show (k, v) ∈ G2.hands
        rw [E2.hands]; exact List.mem_cons_self
      refine ⟨rfl, Lib.hid ((hDrop_deferred .returning E25.ho hkh).mono ?_)⟩
      rintro e u' w6 ⟨rfl, rfl, own6, H6, st6⟩
      have hlen : (T.step.lay x (c1 ++ { y with ref := v, a := a, b := b } :: c2)).ents.length = T.step.ents.length := by
        obtain ⟨r, p1, p2⟩ := hT2.edit_ents x hxl c1 c2 y { y with ref := v, a := a, b := b } hcur
        rw [p1.length_eq, p2.length_eq]; rfl
      have S5 := S2.edit (e' := { y with ref := v, a := a, b := b }) hT2 hxl hcur rfl rfl rfl
      refine ⟨rfl, rfl, own6, _, hs, bs, _, E25.wr.close st1 hfree H6 st6, hT2.edit x hxl c1 c2 y { y with ref := v, a := a, b := b } hcur rfl ?_, ?_, .inl ⟨rfl, c1, y, c2, by rw [hx.out]; exact hcur, hyk, by rw [hx.out]⟩⟩
      · have := hT2.ent y hym
        exact ⟨this.klen, this.kb, ha, hb⟩
      · rw [Tab.plan_eq, hlen]
        exact S5.hands _
    obtain ⟨pe, hpe⟩ : ∃ pe, plOf G2 hs bs y.id = pe := ⟨_, rfl⟩
    obtain ⟨pp, hpp⟩ : ∃ pp, plOf G2 hs bs (T.step.prevId x c1) = pp := ⟨_, rfl⟩
    obtain ⟨pf, hpf⟩ : ∃ pf, T.step.prevFld x c1 = pf := ⟨_, rfl⟩
    rw [hpe] at HLay hpe0
    rw [hpe, hpp, hpf]
    have c0 : ((pe : Int) == 0) = false := by rw [beq_eq_false_iff_ne]; omega
    clear E2 S2 hfree H1 st1 H gl ht hh hT S hn hv ha hb hents hpv hxl hT2 hh2 h2 E4 st4 ny hym hly hpe0 hlay hplv hpe hpp hpf hcur hyk b4
    go_wp2_with fail
    refine HLay.out.mono ?_
    rintro e w5 ⟨rfl, HD⟩
    go_wp2_with fail
    refine leaves_cons (f := 72) (args := #[.pointer (some ⟨hp, 0, none⟩), .int .i64 ((k : Int) + 1)]) (by simp) (by simp [go_sem]) ?_
    refine HD.out.mono ?_
    rintro e u' w6 ⟨rfl, rfl, hq⟩
    refine ⟨_, results_tmp2 rfl _ _ _, ?_⟩
    exact hq
end
end Go.Proofs.YtglglknhifjbaaaGreatDoor.Sp
