import Derived.Test.YtglglknhifjbaaaGreatDoorBgn
import Derived.Test.YtglglknhifjbaaaGreatDoorRn1
namespace Go.Proofs.YtglglknhifjbaaaGreatDoor.Sp
open Go.RowKit Go.Proofs.YtglglknhifjbaaaGreatDoorW.PrintWords Go.Proofs.YtglglknhifjbaaaGreatDoorW.PrintLast Go.Proofs.YtglglknhifjbaaaGreatDoorW.PrintMore
set_option linter.unusedVariables false
set_option linter.unusedSimpArgs false
theorem or_cost (kd cost : Nat) (hk : kd < 256) (hco : cost ≤ 1048576) : bits .or .u64 (kd : Int) ((cost : Int) * 256) = ((kd + 256 * cost : Nat) : Int) := by
  have h1 : (cost : Int) * 256 = ((256 * cost : Nat) : Int) := by omega
  have h2 : 2 ^ 8 * cost + kd = 2 ^ 8 * cost ||| kd := Nat.two_pow_add_eq_or_of_lt hk cost
  have h3 : kd ||| 256 * cost = kd + 256 * cost := by
    rw [Nat.or_comm]
    have e : (2 : Nat) ^ 8 = 256 := by decide
    rw [e] at h2
    omega
  rw [h1, u64_or_nat kd (256 * cost) (by omega) (by omega), h3]
set_option maxHeartbeats 400000 in
set_option maxRecDepth 100000 in
theorem spPut_walk {w : World} {s tp db kd cost pr pk : Nat} (R : Nat → World → Prop) (A : Option Addr) (n c : Nat) (hdb : db < 4) (hk : kd < 256) (hco : cost ≤ 1048576) (hpk : pk = kd + 256 * cost) (hc : w.cell? ⟨s, 4 + db, none⟩ = some (.pointer (some ⟨tp, 0, none⟩)))
    (HP : Calls Tryz.prog 141 #[.pointer (some ⟨tp, 0, none⟩), .slice A n c, .int .u64 (pr : Int), .int .u64 (pk : Int), .int .u64 0] w fun e w' => ∃ (bo : Bool) (er : Nat), e = .returned (.tuple #[.bool bo, .int .i64 (er : Int)]) ∧ R er w') :
    Calls Tryz.prog 91 #[.pointer (some ⟨s, 0, none⟩), .int .i64 (db : Int), .slice A n c, .int .i64 (kd : Int), .int .u64 (pr : Int), .int .u64 0, .int .i64 (cost : Int)] w fun e w' => ∃ er : Nat, e = .returned (.int .i64 (er : Int)) ∧ R er w' := by
  have eor : bits .or .u64 (kd : Int) ((cost : Int) * 256) = (pk : Int) := by rw [hpk]; exact or_cost kd cost hk hco
  clear hpk
  replace HP := Lib.hid HP
  go_enter Tryz.func91, Tryz.ntmps91
  go_wp2_with fail
  refine HP.out.mono ?_
  rintro e w1 ⟨bo, er, rfl, hR⟩
  have HR := Lib.hid hR
  clear hR
  by_cases he : er = 0
  · subst he
    go_wp2_with fail
    refine bodyPost_ret (results_tmp rfl _ _ _) rfl ?_
    exact ⟨0, rfl, HR.out⟩
  · have q0 : ((er : Int) == 0) = false := by rw [beq_eq_false_iff_ne]; omega
    go_wp2_with fail
    refine bodyPost_ret (results_tmp rfl _ _ _) rfl ?_
    exact ⟨er, rfl, HR.out⟩
end Go.Proofs.YtglglknhifjbaaaGreatDoor.Sp
namespace Go.Proofs.YtglglknhifjbaaaGreatDoor.Sp
open Go.RowKit Go.Proofs.YtglglknhifjbaaaGreatDoorW.PrintWords Go.Proofs.YtglglknhifjbaaaGreatDoorW.PrintLast Go.Proofs.YtglglknhifjbaaaGreatDoorW.PrintMore
open Go.ChangeMaps (setBlock)
set_option linter.unusedVariables false
set_option linter.unusedSimpArgs false
structure Byt (w : World) (own : Own) (A : Option Addr) (b : List Int) : Prop where
  isB : IsB b
  has : HasB w A b
  own0 : ∀ g o, A = some ⟨g, o, none⟩ → own g = 0
  pos : 0 < b.length
  len : b.length ≤ 4096
section
variable {n0 : Nat} {w w' : World} {own own' : Own} {hp : Nat} {G : Gr} {hs : List Nat} {bs : List (Option Nat)} {tp hd t : Nat} {T : Tab} {rest : Plan} {s mb ck : Nat} {c : SC} {es : Array MapEntry} {A : Option Addr} {key tx : List Int}
theorem Byt.step (h : Byt w own A key) (st : HStep w own w' own') : Byt w' own' A key := by
  obtain ⟨g, o, e, hl, hc⟩ := h.has h.pos
  exact ⟨h.isB, fun _ => ⟨g, o, e, Nat.lt_of_lt_of_le hl st.fr.size, fun j hj => by rw [st.cell (p := ⟨g, o + j, none⟩) hl (h.own0 g o e)]; exact hc j hj⟩, fun g' o' e' => by
    rw [e] at e'; injection e' with e'; injection e' with e1 e2; subst e1; exact st.own0 hl (h.own0 g o e), h.pos, h.len⟩
theorem Byt.below (h : Byt w own A key) (hb : Below w.heap.size w w') : Byt w' own A key := h.step (HStep.below own hb)
theorem Byt.map (h : Byt w own A key) {es : Array MapEntry} {ck : Nat} (hm : w.heap[mb]? = some (.map es ck)) (o' : Obj) : Byt (setBlock w mb o') own A key := by
  obtain ⟨g, o, e, hl, hc⟩ := h.has h.pos
  have hne : g ≠ mb := fun q => by
    have := hc 0 h.pos
    rw [q] at this
    simp [World.cell?, hm] at this
  have hf : Fr (fun b => b = mb) w (setBlock w mb o') := setBlock_fr w mb _ (blk_lt hm) rfl
  exact ⟨h.isB, fun _ => ⟨g, o, e, Nat.lt_of_lt_of_le hl hf.size, fun j hj => by rw [hf.cell (p := ⟨g, o + j, none⟩) hl hne]; exact hc j hj⟩, h.own0, h.pos, h.len⟩
theorem Byt.set (h : Byt w own A key) {c : SC} {hp tp mb : Nat} (hs_ : w.heap[s]? = some (.cells (c.cells hp tp mb) 86 (0, 0))) (hg : ∀ g o, A = some ⟨g, o, none⟩ → g ≠ s) (i : Nat) (v : Value) : Byt (w.setCell ⟨s, i, none⟩ v) own A key := by
  obtain ⟨g, o, e, hl, hc⟩ := h.has h.pos
  have hf : Fr (fun b => b = s) w (w.setCell ⟨s, i, none⟩ v) := (Fr.refl (fun b => b = s) w).setCell (p := ⟨s, i, none⟩) (.inl rfl) v
  exact ⟨h.isB, fun _ => ⟨g, o, e, Nat.lt_of_lt_of_le hl hf.size, fun j hj => by rw [hf.cell (p := ⟨g, o + j, none⟩) hl (hg g o e)]; exact hc j hj⟩, h.own0, h.pos, h.len⟩
theorem HO.nx1 (H : HO w own hp G hs bs) : 1 ≤ G.next := by obtain ⟨M, x, hM, R⟩ := H; exact R.nx
theorem SpS.build (h : SpS n0 w own hp G hs bs tp hd t T rest s mb c es ck) (lv : Value) (hb : Byt w own A tx) (cp : Nat) (hsh : Plan.Shut (T.plan t ++ rest) G.hands) (hroom : 2 * (Plan.wt (T.plan t ++ rest) + 2000) ≤ G.limit) :
    Calls Tryz.prog 89 #[.pointer (some ⟨s, 0, none⟩), textV A tx.length cp, lv] w fun e w' => ∃ own' G' hs' bs' v, e = .returned (.tuple #[.int .u64 (plOf G' hs' bs' v : Int), .int .i64 0]) ∧ Live hs' bs' v ∧
      SpS n0 w' own' hp G' hs' bs' tp hd t T ((v, .blob tx) :: rest) s mb c es ck ∧ HStep w own w' own' ∧ G'.hands = G.hands ∧ G'.limit = G.limit := by
  have hwd := words_le hb.len
  refine (buildT_walk (fun v er w' => ∃ own' G' hs' bs' i, v = .int .u64 (plOf G' hs' bs' i : Int) ∧ er = 0 ∧ Live hs' bs' i ∧
      SpS n0 w' own' hp G' hs' bs' tp hd t T ((i, .blob tx) :: rest) s mb c es ck ∧ HStep w own w' own' ∧ G'.hands = G.hands ∧ G'.limit = G.limit) lv A tx.length cp (h.cell 0) (fun W g hW hlt hg => ?_)).mono ?_
  · have h1 := h.below hW
    have hb1 := hb.below hW
    refine (bNew_walk h1.ht.ho g 1 A tx cp hb.isB hg hb1.has hb.len).mono ?_
    rintro e w' ⟨own', hs', bs', st, hr, ⟨rfl, H, hl⟩ | ⟨-, H, hn⟩⟩
    · have hnx : 1 ≤ G.next := h.ht.ho.nx1
      have S' := lay_sat (key := tx) h.ht.sat hnx hb.isB hb.len
      have hT : HT w' own' hp (G.add (blobN (natsOf tx))) hs' bs' tp hd t T ((G.next, .blob tx) :: rest) :=
        ⟨H, h1.ht.gl.step st, h1.ht.ta.step st, h.ht.hh, h.ht.ok, S'.perm (by
          rw [List.perm_iff_count]; intro a; simp only [List.count_append, List.count_cons, List.cons_append]; omega), h.ht.hl, h.ht.en⟩
      obtain ⟨h2, b2⟩ := h1.step st hT
      refine ⟨_, 0, rfl, ⟨own', _, hs', bs', G.next, rfl, rfl, hl, h2, (HStep.below own hW).trans st, rfl, rfl⟩, fun b hbb => st.block ?_ ?_⟩
      · rcases hbb with rfl | rfl
        · exact blk_lt h1.hs_
        · exact hlt
      · rcases hbb with rfl | rfl
        · exact h1.os
        · exact h.ht.ho.top _ (Nat.le_refl _)
    · exfalso
      apply hn
      exact ⟨Plan.ids (T.plan t ++ rest), fun i hr => hsh.cover h.ht.sat hr, by rw [h.ht.sat.wt, natsOf_len]; omega⟩
  · rintro e w' ⟨v, er, rfl, own', G', hs', bs', i, rfl, rfl, q⟩
    exact ⟨own', G', hs', bs', i, rfl, q⟩
theorem shut_swap {P rest : Plan} {hands : List (Nat × Nat)} (h : Plan.Shut (P ++ rest) hands) (id : Nat) (b : List Int) : Plan.Shut (P ++ (id, .blob b) :: rest) hands := by
  have h1 := shut_blob h id b
  have hp : ∀ i, i ∈ Plan.ids ((id, .blob b) :: (P ++ rest)) → i ∈ Plan.ids (P ++ (id, .blob b) :: rest) := fun i hi => by
    obtain ⟨x, hx⟩ := ids_mem.1 hi
    exact ids_mem.2 ⟨x, by
      rcases List.mem_cons.1 hx with e | hx
      · rw [e]; exact List.mem_append_right _ List.mem_cons_self
      · rcases List.mem_append.1 hx with hx | hx
        · exact List.mem_append_left _ hx
        · exact List.mem_append_right _ (List.mem_cons_of_mem _ hx)⟩
  refine ⟨fun i x hx j hj => ?_, fun p hp' => (h1.hands p hp').imp_right (hp _)⟩
  refine (h1.refs i x ?_ j hj).imp_right (hp _)
  rcases List.mem_append.1 hx with hx | hx
  · exact List.mem_cons_of_mem _ (List.mem_append_left _ hx)
  · rcases List.mem_cons.1 hx with e | hx
    · rw [e]; exact List.mem_cons_self
    · exact List.mem_cons_of_mem _ (List.mem_append_right _ hx)
theorem SpS.put (h : SpS n0 w own hp G hs bs tp hd t T rest s mb c es ck) (hb : Byt w own A key) (cp : Nat) {kd cost v : Nat} (hk : kd < 256) (hco : cost ≤ 1048576) (ho : T.oid = 0) (hlen : T.ents.length < 2 ^ T.nk) (hf : T.find key = none) (hsh : Plan.Shut (T.plan t ++ rest) G.hands) (hroom : 2 * (Plan.wt (T.plan t ++ rest) + 2000) ≤ G.limit)
    (hv : Live hs bs v) (hvi : v ∈ Plan.ids (T.plan t ++ rest)) (hen : T.ents.length ≤ 50000) :
    Calls Tryz.prog 91 #[.pointer (some ⟨s, 0, none⟩), .int .i64 0, .slice A key.length cp, .int .i64 (kd : Int), .int .u64 (plOf G hs bs v : Int), .int .u64 0, .int .i64 (cost : Int)] w fun e w' => e = .returned (.int .i64 0) ∧ ∃ (own' : Own) (G' : Gr) (hs' : List Nat) (bs' : List (Option Nat)) (T' : Tab) (x : Ent),
      SpS n0 w' own' hp G' hs' bs' tp hd t T' rest s mb c es ck ∧ HStep w own w' own' ∧ G'.hands = G.hands ∧ G'.limit = G.limit ∧ T'.oid = 0 ∧ T'.ents.Perm (x :: T.ents) ∧ x.key = key ∧ x.ref = v ∧ x.a = kd + 256 * cost ∧ x.b = 0 := by
  have HP := put_walk h.ht.ho h.ht.gl h.ht.ta h.ht.hh h.ht.ok h.ht.sat h.ht.hl A key cp hb.isB hb.has hb.own0 hb.len v (kd + 256 * cost) 0 (.inr hv) (by omega) (by omega) (by have := h.ht.en; omega)
  refine (spPut_walk (pk := kd + 256 * cost) (fun er w' => er = 0 ∧ ∃ (own' : Own) (G' : Gr) (hs' : List Nat) (bs' : List (Option Nat)) (T' : Tab) (x : Ent),
      SpS n0 w' own' hp G' hs' bs' tp hd t T' rest s mb c es ck ∧ HStep w own w' own' ∧ G'.hands = G.hands ∧ G'.limit = G.limit ∧ T'.oid = 0 ∧ T'.ents.Perm (x :: T.ents) ∧ x.key = key ∧ x.ref = v ∧ x.a = kd + 256 * cost ∧ x.b = 0) A key.length cp (by decide) hk hco rfl (h.cell 4) (HP.mono ?_)).mono ?_
  · rintro e w' hpp
    obtain ⟨own', G', hs', bs', T', x, rfl, W, hok, S, e1, e2, e3, e4, e5, e6, e7, e8⟩ := put_fresh hpp h.ht.ok ho hlen hf hb.len hsh hvi hroom
    obtain ⟨h2, b2⟩ := h.step W.st (⟨W.ho, h.ht.gl.step W.st, h.ht.ta.step W.st, by rw [W.hands]; exact h.ht.hh, hok, S, by rw [W.hands]; exact h.ht.hl, by rw [e4.length_eq, List.length_cons]; omega⟩ : HT w' own' hp G' hs' bs' tp hd t T' rest)
    exact ⟨true, 0, rfl, rfl, own', G', hs', bs', T', x, h2, W.st, W.hands, W.limit, e1, e4, e5, e6, e7, e8⟩
  · rintro e w' ⟨er, rfl, rfl, q⟩
    exact ⟨rfl, q⟩
theorem SpS.reput (h : SpS n0 w own hp G hs bs tp hd t T rest s mb c es ck) (hb : Byt w own A key) (cp : Nat) {kd cost : Nat} (hk : kd < 256) (hco : cost ≤ 1048576) (ho : T.oid = 0) {y : Ent} (hf : T.find key = some y) :
    Calls Tryz.prog 91 #[.pointer (some ⟨s, 0, none⟩), .int .i64 0, .slice A key.length cp, .int .i64 (kd : Int), .int .u64 (plOf G hs bs y.ref : Int), .int .u64 0, .int .i64 (cost : Int)] w fun e w' => e = .returned (.int .i64 0) ∧ ∃ (own' : Own) (G' : Gr) (hs' : List Nat) (bs' : List (Option Nat)) (T' : Tab),
      SpS n0 w' own' hp G' hs' bs' tp hd t T' rest s mb c es ck ∧ HStep w own w' own' ∧ G'.hands = G.hands ∧ G'.limit = G.limit ∧ T'.oid = 0 ∧ ∃ r, T.ents.Perm (y :: r) ∧ T'.ents.Perm ({ y with ref := y.ref, a := kd + 256 * cost, b := 0 } :: r) := by
  have hy := h.ht.sub key y hf
  have HP := put_walk h.ht.ho h.ht.gl h.ht.ta h.ht.hh h.ht.ok h.ht.sat h.ht.hl A key cp hb.isB hb.has hb.own0 hb.len y.ref (kd + 256 * cost) 0 (h.ht.refs y hy) (by omega) (by omega) (by have := h.ht.en; omega)
  refine (spPut_walk (pk := kd + 256 * cost) (fun er w' => er = 0 ∧ ∃ (own' : Own) (G' : Gr) (hs' : List Nat) (bs' : List (Option Nat)) (T' : Tab),
      SpS n0 w' own' hp G' hs' bs' tp hd t T' rest s mb c es ck ∧ HStep w own w' own' ∧ G'.hands = G.hands ∧ G'.limit = G.limit ∧ T'.oid = 0 ∧ ∃ r, T.ents.Perm (y :: r) ∧ T'.ents.Perm ({ y with ref := y.ref, a := kd + 256 * cost, b := 0 } :: r)) A key.length cp (by decide) hk hco rfl (h.cell 4) (HP.mono ?_)).mono ?_
  · rintro e w' hpp
    obtain ⟨own', G', hs', bs', T', rfl, W, hok, S, e1, e2, e3, r, r1, r2⟩ := put_same hpp h.ht.ok ho hf
    obtain ⟨h2, b2⟩ := h.step W.st (⟨W.ho, h.ht.gl.step W.st, h.ht.ta.step W.st, by rw [W.hands]; exact h.ht.hh, hok, S, by rw [W.hands]; exact h.ht.hl, by
      have := h.ht.en
      rw [r1.length_eq] at this
      rw [r2.length_eq]; exact this⟩ : HT w' own' hp G' hs' bs' tp hd t T' rest)
    exact ⟨false, 0, rfl, rfl, own', G', hs', bs', T', h2, W.st, W.hands, W.limit, e1, r, r1, r2⟩
  · rintro e w' ⟨er, rfl, rfl, q⟩
    exact ⟨rfl, q⟩
end
end Go.Proofs.YtglglknhifjbaaaGreatDoor.Sp
namespace Go.Proofs.YtglglknhifjbaaaGreatDoor.Sp
open Go.RowKit Go.Proofs.YtglglknhifjbaaaGreatDoorW.PrintWords Go.Proofs.YtglglknhifjbaaaGreatDoorW.PrintLast Go.Proofs.YtglglknhifjbaaaGreatDoorW.PrintMore
open Go.ChangeMaps (setBlock)
set_option linter.unusedVariables false
set_option linter.unusedSimpArgs false
structure It (n0 : Nat) (W : World) (own : Own) (r mb ck : Nat) (seen : Array Nat) : Prop where
  at_ : W.heap[r]? = some (.mapIter (some mb) ck seen ck)
  own0 : own r = 0
  ge : n0 ≤ r
section
variable {n0 : Nat} {W W' : World} {own own' : Own} {hp : Nat} {G G' : Gr} {hs hs' : List Nat} {bs bs' : List (Option Nat)} {tp hd t : Nat} {T T' : Tab} {rest rest' : Plan} {s mb ck r : Nat} {c : SC} {es : Array MapEntry} {seen : Array Nat} {A : Option Addr} {key : List Int}
theorem It.below (h : It n0 W own r mb ck seen) (hb : Below W.heap.size W W') : It n0 W' own r mb ck seen := ⟨(hb.block _ (blk_lt h.at_)).trans h.at_, h.own0, h.ge⟩
theorem It.step (h : It n0 W own r mb ck seen) (st : HStep W own W' own') : It n0 W' own' r mb ck seen := ⟨(st.block (blk_lt h.at_) h.own0).trans h.at_, st.own0 (blk_lt h.at_) h.own0, h.ge⟩
theorem It.set {k0 : Nat} (h : It k0 W own r mb ck seen) (H : SpS n0 W own hp G hs bs tp hd t T rest s mb c es ck) (i : Nat) (v : Value) : It k0 (W.setCell ⟨s, i, none⟩ v) own r mb ck seen := by
  have hne : r ≠ s := fun e => by
    have h1 := h.at_
    rw [e, H.hs_] at h1
    cases h1
  have hf : Fr (fun b => b = s) W (W.setCell ⟨s, i, none⟩ v) := (Fr.refl (fun b => b = s) W).setCell (p := ⟨s, i, none⟩) (.inl rfl) v
  exact ⟨(hf.block _ (blk_lt h.at_) hne).trans h.at_, h.own0, h.ge⟩
theorem SpS.fr {P : Nat → Prop} (h : SpS n0 W own hp G hs bs tp hd t T rest s mb c es ck) (hf : Fr P W W') (hP : ∀ b, P b → own b = 0) (h1 : ¬ P tp) (h2 : ¬ P 2) (h3 : ¬ P s) (h4 : ¬ P mb) : SpS n0 W' own hp G hs bs tp hd t T rest s mb c es ck :=
  ⟨h.ht.fr hf hP h1 h2, (hf.block _ (blk_lt h.hs_) h3).trans h.hs_, (hf.block _ (blk_lt h.hm) h4).trans h.hm, h.os, h.om, h.low, h.ns, h.nm, h.nt⟩
theorem SpS.rng {k0 : Nat} (h : SpS n0 W own hp G hs bs tp hd t T rest s mb c es ck) (hk0 : k0 ≤ W.heap.size) : ∃ W0 r, (Instr.range 82 (.map (some mb))).run Tryz.prog W = .ok (.pointer (some ⟨r, 0, none⟩)) W0 ∧ Below W.heap.size W W0 ∧ It k0 W0 own r mb ck #[] :=
  ⟨_, _, run_range_one Tryz.underlying82 h.hm, (Below.refl _ _).alloc (Nat.le_refl _) _, ⟨by rw [alloc_at, if_pos rfl], h.ht.ho.top _ (Nat.le_refl _), hk0⟩⟩
theorem it_ne {k0 : Nat} (h : It k0 W own r mb ck seen) (H : SpS n0 W own hp G hs bs tp hd t T rest s mb c es ck) : r ≠ tp ∧ 2 ≠ r ∧ r ≠ s ∧ r ≠ mb := by
  have h1 := h.at_
  refine ⟨fun e => ?_, fun e => ?_, fun e => ?_, fun e => ?_⟩
  · rw [e, H.ht.ta.cell] at h1; cases h1
  · have h2 := H.ht.gl.cell 0 (by decide)
    rw [e] at h2
    simp [World.cell?, h1] at h2
  · rw [e, H.hs_] at h1; cases h1
  · rw [e, H.hm] at h1; cases h1
theorem SpS.nxt1 {k0 : Nat} {db : Int} {k : ByteArray} {v : Value} {b : Nat} (h : SpS n0 W own hp G hs bs tp hd t T rest s mb c #[⟨plK db k, v, b⟩] ck) (hi : It k0 W own r mb ck #[]) (hb : b < ck) : ∃ W1, (∀ ty, (Instr.next (.pointer (some ⟨r, 0, none⟩)) false ty).run Tryz.prog W = .ok (.tuple #[.bool true, plK db k, v]) W1) ∧ (Instr.entry (.pointer (some ⟨r, 0, none⟩))).run Tryz.prog W1 = .ok (.tuple #[plK db k, v]) W1 ∧
    SpS n0 W1 own hp G hs bs tp hd t T rest s mb c #[⟨plK db k, v, b⟩] ck ∧ It k0 W1 own r mb ck #[b] ∧ Below k0 W W1 := by
  obtain ⟨e1, e2, e3, e4⟩ := it_ne hi h
  have hf : Fr (fun x => x = r) W (setBlock W r (.mapIter (some mb) ck #[b] ck)) := setBlock_fr W r _ (blk_lt hi.at_) rfl
  have h' := h.fr hf (fun x hx => by rw [hx]; exact hi.own0) (fun q => e1 q.symm) e2 (fun q => e3 q.symm) (fun q => e4 q.symm)
  have hr : (setBlock W r (.mapIter (some mb) ck #[b] ck)).heap[r]? = some (.mapIter (some mb) ck #[b] ck) := by rw [setBlock_at _ _ _ _ (blk_lt hi.at_), if_pos rfl]
  exact ⟨_, fun ty => run_next_first ty hi.at_ h.hm hb, run_entry_one hr h'.hm, h', ⟨hr, hi.own0, hi.ge⟩, ⟨hf.os, hf.tape, hf.output, hf.size, fun x hx => hf.block x (Nat.lt_of_lt_of_le hx (Nat.le_of_lt (Nat.lt_of_le_of_lt hi.ge (blk_lt hi.at_)))) (fun q => by have := hi.ge; omega)⟩⟩
theorem SpS.nxt2 {k0 : Nat} {db : Int} {k : ByteArray} {v : Value} {b : Nat} (h : SpS n0 W own hp G hs bs tp hd t T rest s mb c #[⟨plK db k, v, b⟩] ck) (hi : It k0 W own r mb ck #[b]) (hb : b < ck) : ∀ ty, (Instr.next (.pointer (some ⟨r, 0, none⟩)) false ty).run Tryz.prog W = .ok (.tuple #[.bool false]) W :=
  fun ty => run_next_last ty hi.at_ h.hm hb
theorem SpS.nxt0 {k0 : Nat} (h : SpS n0 W own hp G hs bs tp hd t T rest s mb c #[] ck) (hi : It k0 W own r mb ck #[]) : ∀ ty, (Instr.next (.pointer (some ⟨r, 0, none⟩)) false ty).run Tryz.prog W = .ok (.tuple #[.bool false]) W :=
  fun ty => run_next_nil ty hi.at_ h.hm
end
end Go.Proofs.YtglglknhifjbaaaGreatDoor.Sp
namespace Go.Proofs.YtglglknhifjbaaaGreatDoor.Sp
open Go.RowKit Go.Proofs.YtglglknhifjbaaaGreatDoorW.PrintWords Go.Proofs.YtglglknhifjbaaaGreatDoorW.PrintLast Go.Proofs.YtglglknhifjbaaaGreatDoorW.PrintMore
open Go.ChangeMaps (setBlock)
set_option linter.unusedVariables false
set_option linter.unusedSimpArgs false
set_option maxHeartbeats 1000000 in
set_option maxRecDepth 100000 in
theorem store_raw {w : World} {s n m ca cb : Nat} {A B : Option Addr} (R : World → Prop)
    (S1 : Hid (Calls Tryz.prog 84 #[.pointer (some ⟨s, 0, none⟩), .int .i64 0, .slice A n ca] (w.alloc (.cells #[.int .i64 1, .slice B m cb, .slice none 0 0, .slice none 0 0, .slice none 0 0] 58)) fun e w' => e = .returned (.int .i64 0) ∧ w.alloc (.cells #[.int .i64 1, .slice B m cb, .slice none 0 0, .slice none 0 0, .slice none 0 0] 58) = w'))
    (S2 : Hid (∀ W, Below w.heap.size w W → Calls Tryz.prog 85 #[.agg #[.int .i64 1, .slice B m cb, .slice none 0 0, .slice none 0 0, .slice none 0 0]] W fun e w' => e = .returned (.int .i64 0) ∧ Below W.heap.size W w'))
    (S3 : Hid (∀ W, Calls Tryz.prog 86 #[.agg #[.int .i64 1, .slice B m cb, .slice none 0 0, .slice none 0 0, .slice none 0 0]] W fun e w' => e = .returned (.int .i64 1) ∧ Below W.heap.size W w'))
    (S4 : Hid (∀ W, Below w.heap.size w W → Calls Tryz.prog 88 #[.pointer (some ⟨s, 0, none⟩), .int .i64 0, .slice A n ca] W fun e w1 => e = .returned (.tuple #[]) ∧ (∀ b, w.heap.size ≤ b → b < W.heap.size → w1.heap[b]? = W.heap[b]?) ∧ W.heap.size ≤ w1.heap.size ∧
      ∀ lv, Hid (Calls Tryz.prog 89 #[.pointer (some ⟨s, 0, none⟩), .agg #[.int .i64 1, .slice B m cb, .slice none 0 0, .slice none 0 0, .slice none 0 0], lv] w1 fun e w2 => ∃ pv : Nat, e = .returned (.tuple #[.int .u64 (pv : Int), .int .i64 0]) ∧ (∀ b, w.heap.size ≤ b → b < W.heap.size → w2.heap[b]? = w1.heap[b]?) ∧
        Hid (Calls Tryz.prog 91 #[.pointer (some ⟨s, 0, none⟩), .int .i64 0, .slice A n ca, .int .i64 1, .int .u64 (pv : Int), .int .u64 0, .int .i64 0] w2 fun e w' => e = .returned (.int .i64 0) ∧ R w')))) :
    Calls Tryz.prog 45 #[.pointer (some ⟨s, 0, none⟩), .int .i64 0, .slice A n ca, .agg #[.int .i64 1, .slice B m cb, .slice none 0 0, .slice none 0 0, .slice none 0 0]] w fun e w' => e = .returned (.int .i64 0) ∧ R w' := by
  obtain ⟨vb, hvb⟩ : ∃ vb, w.heap.size = vb := ⟨_, rfl⟩
  obtain ⟨V, hV⟩ : ∃ V, w.alloc (.cells #[.int .i64 1, .slice B m cb, .slice none 0 0, .slice none 0 0, .slice none 0 0] 58) = V := ⟨_, rfl⟩
  have bV : Below w.heap.size w V := by rw [← hV]; exact (Below.refl _ _).alloc (Nat.le_refl _) _
  have v0 : V.heap[vb]? = some (.cells #[.int .i64 1, .slice B m cb, .slice none 0 0, .slice none 0 0, .slice none 0 0] 58 (0, 0)) := by rw [← hV, ← hvb]; exact heap_alloc_new _ _
  have HC : ∀ W : World, W.heap[vb]? = some (.cells #[.int .i64 1, .slice B m cb, .slice none 0 0, .slice none 0 0, .slice none 0 0] 58 (0, 0)) → W.cell? ⟨vb, 0, none⟩ = some (.int .i64 1) ∧ W.cell? ⟨vb, 1, none⟩ = some (.slice B m cb) ∧ W.cell? ⟨vb, 2, none⟩ = some (.slice none 0 0) ∧ W.cell? ⟨vb, 3, none⟩ = some (.slice none 0 0) ∧ W.cell? ⟨vb, 4, none⟩ = some (.slice none 0 0) := fun W h => ⟨by simp [World.cell?, h], by simp [World.cell?, h], by simp [World.cell?, h], by simp [World.cell?, h], by simp [World.cell?, h]⟩
  obtain ⟨a0, a1, a2, a3, a4⟩ := HC V v0
  have HCH := Lib.hid HC
  have HV := Lib.hid (And.intro bV v0)
  rw [hV] at S1
  have HhV := Lib.hid hV
  clear HC bV v0 hV
  go_enter Tryz.func45, Tryz.ntmps45
  go_upto_region 1 with fail
  rw [HhV.out]
  go_wp2_with fail
  refine S1.out.mono ?_
  rintro e w1 ⟨rfl, rfl⟩
  clear S1
  go_wp2_with fail
  refine (S2.out _ HV.out.1).mono ?_
  rintro e w2 ⟨rfl, hb2⟩
  obtain ⟨bV, v0⟩ := HV.out
  have v2 := (hb2.block _ (blk_lt v0)).trans v0
  have bw2 := bV.trans (hb2.mono bV.size)
  have H2 := Lib.hid (And.intro bw2 v2)
  clear a0 a1 a2 a3 a4 hb2 bV v0 HV S2 bw2
  obtain ⟨a0, a1, a2, a3, a4⟩ := HCH.out w2 v2
  clear v2
  go_wp2_with fail
  refine (S3.out _).mono ?_
  rintro e w3 ⟨rfl, hb3⟩
  obtain ⟨bw2, v2⟩ := H2.out
  have v3 := (hb3.block _ (blk_lt v2)).trans v2
  have bw3 := bw2.trans (hb3.mono bw2.size)
  have H3 := Lib.hid v3
  have S4a := Lib.hid (S4.out _ bw3)
  clear a0 a1 a2 a3 a4 bw2 v2 hb3 H2 S3 S4 bw3 v3
  go_wp2_with fail
  refine S4a.out.mono ?_
  rintro e w4 ⟨rfl, hk4, hz4, S5⟩
  have v4 := (hk4 vb (by omega) (blk_lt H3.out)).trans H3.out
  have hl4 := blk_lt H3.out
  have H4 := Lib.hid (And.intro v4 hl4)
  obtain ⟨a0, a1, a2, a3, a4⟩ := HCH.out w4 v4
  clear hk4 S4a H3 v4 hl4 hz4
  go_wp2_with fail
  refine (S5 _).out.mono ?_
  rintro e w5 ⟨pv, rfl, hk5, S6⟩
  have v5 := (hk5 vb (by omega) H4.out.2).trans H4.out.1
  clear a0 a1 a2 a3 a4 S5 hk5 H4
  obtain ⟨a0, a1, a2, a3, a4⟩ := HCH.out w5 v5
  clear v5 a1 a2 a3 a4
  go_wp2_with fail
  refine S6.out.mono ?_
  rintro e w6 ⟨rfl, hq⟩
  have HQ := Lib.hid hq
  clear hq
  go_wp2_with fail
  refine bodyPost_ret (results_tmp rfl _ _ _) rfl ?_
  exact ⟨rfl, HQ.out⟩
end Go.Proofs.YtglglknhifjbaaaGreatDoor.Sp
namespace Go.Proofs.YtglglknhifjbaaaGreatDoor.Sp
open Go.RowKit Go.Proofs.YtglglknhifjbaaaGreatDoorW.PrintWords Go.Proofs.YtglglknhifjbaaaGreatDoorW.PrintLast Go.Proofs.YtglglknhifjbaaaGreatDoorW.PrintMore
open Go.ChangeMaps (setBlock)
set_option linter.unusedVariables false
set_option linter.unusedSimpArgs false
section
variable {n0 : Nat} {w : World} {own : Own} {hp : Nat} {G : Gr} {hs : List Nat} {bs : List (Option Nat)} {tp hd t : Nat} {T : Tab} {rest : Plan} {s mb ck : Nat} {c : SC} {es : Array MapEntry} {A B : Option Addr} {key tx : List Int}
theorem setBlock_sz (w : World) (b : Nat) (o : Obj) : (setBlock w b o).heap.size = w.heap.size := by
  show (w.heap.setIfInBounds b o).size = _
  simp
def StoPost (n0 : Nat) (w : World) (own : Own) (hp tp hd t : Nat) (T : Tab) (rest : Plan) (s mb : Nat) (c : SC) (ck : Nat) (key tx : List Int) (G : Gr) (w' : World) : Prop :=
  ∃ (own' : Own) (G' : Gr) (hs' : List Nat) (bs' : List (Option Nat)) (T' : Tab) (x : Ent), SpS n0 w' own' hp G' hs' bs' tp hd t T' ((x.ref, .blob tx) :: rest) s mb c #[⟨plK 0 (bArr key), st0, ck⟩] (ck + 1) ∧ Below n0 w w' ∧ Kp w own s mb w' own' ∧ G'.hands = G.hands ∧ G'.limit = G.limit ∧ T'.oid = 0 ∧ T'.ents.Perm (x :: T.ents) ∧ x.key = key ∧ x.a = 1 ∧ x.b = 0
set_option maxHeartbeats 2000000 in
set_option maxRecDepth 100000 in
theorem store_walk (h : SpS n0 w own hp G hs bs tp hd t T rest s mb c #[] ck) (hr : c.run = true) (hA : Byt w own A key) (ca : Nat) (hB : Byt w own B tx) (cb : Nat) (hok : ∀ a ∈ T.ents, a.a < 9223372036854775808) (ho : T.oid = 0) (hlen : T.ents.length < 2 ^ T.nk) (hf : T.find key = none) (hsh : Plan.Shut (T.plan t ++ rest) G.hands) (hroom : 2 * (Plan.wt (T.plan t ++ rest) + 3000) ≤ G.limit) (hen : T.ents.length ≤ 50000) :
    Calls Tryz.prog 45 #[.pointer (some ⟨s, 0, none⟩), .int .i64 0, .slice A key.length ca, textV B tx.length cb] w fun e w' => e = .returned (.int .i64 0) ∧ StoPost n0 w own hp tp hd t T rest s mb c ck key tx G w' := by
  have hV : Below w.heap.size w (w.alloc (.cells #[.int .i64 1, .slice B tx.length cb, .slice none 0 0, .slice none 0 0, .slice none 0 0] 58)) := (Below.refl _ _).alloc (Nat.le_refl _) _
  have s6 : ∀ (W : World) (own2 : Own) (G2 : Gr) (hs2 : List Nat) (bs2 : List (Option Nat)) (v : Nat), HStep w own w own → SpS n0 W own2 hp G2 hs2 bs2 tp hd t T ((v, .blob tx) :: rest) s mb c #[⟨plK 0 (bArr key), st0, ck⟩] (ck + 1) → Byt W own2 A key → Live hs2 bs2 v → Below n0 w W → Kp w own s mb W own2 → G2.hands = G.hands → G2.limit = G.limit →
      Hid (Calls Tryz.prog 91 #[.pointer (some ⟨s, 0, none⟩), .int .i64 0, .slice A key.length ca, .int .i64 1, .int .u64 (plOf G2 hs2 bs2 v : Int), .int .u64 0, .int .i64 0] W fun e w' => e = .returned (.int .i64 0) ∧ StoPost n0 w own hp tp hd t T rest s mb c ck key tx G w') := fun W own2 G2 hs2 bs2 v _ h2 hA2 hl hb2 hk2 g1 g2 => Lib.hid (by
    have hw : Plan.wt (T.plan t ++ (v, Item.blob tx) :: rest) ≤ Plan.wt (T.plan t ++ rest) + 600 := by
      rw [wt_app, wt_app, wt_cons]
      have := wt_blob tx hB.len
      show _ + ((Item.blob tx).wt + _) ≤ _
      omega
    refine (h2.put hA2 ca (kd := 1) (cost := 0) (v := v) (by decide) (by decide) ho hlen hf (by rw [g1]; exact shut_swap hsh v tx) (by rw [g2]; omega) hl (ids_mem.2 ⟨_, List.mem_append_right _ List.mem_cons_self⟩) hen).mono ?_
    rintro e w' ⟨rfl, own', G', hs', bs', T', x, q1, q2, q3, q4, q5, q6, q7, q8, q9, q10⟩
    have b3 := (h2.step q2 q1.ht).2
    rw [← q8] at q1
    exact ⟨rfl, own', G', hs', bs', T', x, q1, hb2.trans b3, hk2.trans (Kp.step s mb q2), q3.trans g1, q4.trans g2, q5, q6, q7, q9, q10⟩)
  refine store_raw (StoPost n0 w own hp tp hd t T rest s mb c ck key tx G) (Lib.hid ?_) (Lib.hid fun W _ => valid_walk W B tx.length cb hB.len) (Lib.hid fun W => elements_walk W B tx.length cb) (Lib.hid fun W hW => ?_)
  · exact may_walk _ s 0 (by decide) A key.length ca hA.len (by rw [(h.below hV).cell 11, ← hr]; rfl)
  · have h1 := h.below hW
    have a1 := hA.below hW
    have b1 := hB.below hW
    refine (touch_fresh A ca (run_str ca a1.isB rfl a1.pos a1.has) (by rw [h1.cell 13]; rfl) h1.hm (fun W hb => (((h1.below hb).get A key ca a1.isB (a1.below hb).has a1.len hok).mono (fun e w' hg => by
      obtain ⟨hb, ⟨rfl, -⟩ | ⟨a, hfa, -⟩⟩ := hg
      · exact ⟨rfl, hb⟩
      · rw [hf] at hfa; cases hfa)))).mono ?_
    rintro e w' ⟨rfl, w1, hb1, rfl⟩
    have h2 := h1.below hb1
    obtain ⟨h3, b3⟩ := h2.map #[⟨plK 0 (bArr key), st0, ck⟩] (ck + 1)
    have hmw : mb < w.heap.size := blk_lt h.hm
    have hz1 := hb1.size
    have hzw := hW.size
    refine ⟨rfl, fun b hb hbl => ?_, by rw [setBlock_sz]; exact hz1, fun lv => Lib.hid ?_⟩
    · rw [setBlock_at _ _ _ _ (by omega), if_neg (by omega)]
      exact hb1.block b hbl
    have a3 := (a1.below hb1).map h2.hm (.map #[⟨plK 0 (bArr key), st0, ck⟩] (ck + 1))
    have t3 := (b1.below hb1).map h2.hm (.map #[⟨plK 0 (bArr key), st0, ck⟩] (ck + 1))
    refine (h3.build lv t3 cb hsh (by omega)).mono ?_
    rintro e w2 ⟨own', G', hs', bs', v, rfl, hl, h4, st, g1, g2⟩
    refine ⟨_, rfl, fun b hb hbl => st.block (by rw [setBlock_sz]; omega) (h.ht.ho.top b hb), ?_⟩
    exact s6 w2 own' G' hs' bs' v (HStep.below own (Below.refl _ _)) h4 (a3.step st) hl (((h.bel hW).trans (h1.bel hb1)).trans (b3.trans (h3.step st h4.ht).2)) ((((Kp.below own s mb hW).trans (Kp.below own s mb hb1)).trans (Kp.map own s _ (blk_lt h2.hm))).trans (Kp.step s mb st)) g1 g2
end
end Go.Proofs.YtglglknhifjbaaaGreatDoor.Sp
namespace Go.Proofs.YtglglknhifjbaaaGreatDoor.Sp
open Go.RowKit Go.Proofs.YtglglknhifjbaaaGreatDoorW.PrintWords Go.Proofs.YtglglknhifjbaaaGreatDoorW.PrintLast Go.Proofs.YtglglknhifjbaaaGreatDoorW.PrintMore
open Go.ChangeMaps (setBlock)
set_option linter.unusedVariables false
set_option linter.unusedSimpArgs false
structure Has (T : Tab) (rest : Plan) (x : Ent) (key tx : List Int) : Prop where
  find : T.find key = some x
  mem : x ∈ T.ents
  a : x.a % 256 = 1
  b : x.b = 0
  text : (x.ref, .blob tx) ∈ rest
  isB : IsB key
  pos : 0 < key.length
  klen : key.length ≤ 4096
  tlen : tx.length ≤ 4096
  ok : ∀ a ∈ T.ents, a.a < 9223372036854775808
section
variable {n0 : Nat} {w : World} {own : Own} {hp : Nat} {G : Gr} {hs : List Nat} {bs : List (Option Nat)} {tp hd t : Nat} {T : Tab} {rest : Plan} {s mb ck : Nat} {c : SC} {es : Array MapEntry} {A B : Option Addr} {key tx : List Int}
theorem SpS.findH {x : Ent} (h : SpS n0 w own hp G hs bs tp hd t T rest s mb c es ck) (hx : Has T rest x key tx) (A : Option Addr) (cp : Nat) (hA : HasB w A key) :
    Calls Tryz.prog 63 #[.pointer (some ⟨s, 0, none⟩), .int .i64 0, .slice A key.length cp] w fun e w' => e = .returned (.tuple #[.int .i64 1, .int .u64 (plOf G hs bs x.ref : Int)]) ∧ Below w.heap.size w w' :=
  (h.find A key cp hx.isB hA hx.klen hx.ok).mono fun e w' hq => by
    obtain ⟨hb, ⟨-, hn⟩ | ⟨a, ha, rfl⟩⟩ := hq
    · rw [hx.find] at hn; cases hn
    · rw [hx.find] at ha
      injection ha with ha
      subst ha
      exact ⟨by rw [hx.a]; rfl, hb⟩
theorem weigh_walk {x : Ent} (h : SpS n0 w own hp G hs bs tp hd t T rest s mb c es ck) (hx : Has T rest x key tx) :
    Calls Tryz.prog 47 #[.pointer (some ⟨s, 0, none⟩), plK 0 (bArr key)] w fun e w' => e = .returned (.int .i64 (costT key.length tx.length : Int)) ∧ Below w.heap.size w w' := by
  obtain ⟨W0, hW0⟩ : ∃ W0, w.alloc (.cells #[.int .i64 0, .string (bArr key)] 104) = W0 := ⟨_, rfl⟩
  have b0 : Below w.heap.size w W0 := by rw [← hW0]; exact (Below.refl _ _).alloc (Nat.le_refl _) _
  have hp0 : W0.heap[w.heap.size]? = some (.cells #[.int .i64 0, .string (bArr key)] 104 (0, 0)) := by rw [← hW0, alloc_at, if_pos rfl]
  have e1 : W0.cell? ⟨w.heap.size, 1, none⟩ = some (.string (bArr key)) := by simp [World.cell?, hp0]
  obtain ⟨cap, W1, hcv, b1, hB1⟩ := run_byt (W := W0) hx.isB
  have h1 := (h.below b0).below b1
  have bw1 := b0.trans (b1.mono b0.size)
  have hlt1 : w.heap.size < W1.heap.size := Nat.lt_of_lt_of_le (blk_lt hp0) b1.size
  have c1 : ∀ W, Below W1.heap.size W1 W → W.cell? ⟨w.heap.size, 1, none⟩ = some (.string (bArr key)) := fun W hb => (hb.cell (p := ⟨w.heap.size, 1, none⟩) hlt1).trans ((b1.cell (p := ⟨w.heap.size, 1, none⟩) (blk_lt hp0)).trans e1)
  refine weigh_raw (m := tx.length) (pl := plOf G hs bs x.ref) (cap := cap) (fun w' => Below w.heap.size w w') rfl hW0 hcv (bArr_size key) hx.klen (Lib.hid ?_)
  refine (h1.findH hx _ cap hB1).mono ?_
  rintro e w2 ⟨rfl, b2⟩
  refine ⟨rfl, c1 _ b2, Lib.hid ?_⟩
  rintro W ⟨k, rfl⟩
  have b2' := bd b2 k
  refine ((h1.below b2').read hx.mem hx.text).mono ?_
  rintro e w3 ⟨g, rfl, -, -, b3⟩
  have b3' := b2'.trans (b3.mono b2'.size)
  refine ⟨g, rfl, c1 _ b3', Lib.hid ?_⟩
  rintro W ⟨k', rfl⟩
  refine (weight_walk _ key.length hx.klen _ _ _ hx.tlen).mono ?_
  rintro e w4 ⟨rfl, b4⟩
  have b3'' := bd b3' k'
  have b4' := b3''.trans (b4.mono b3''.size)
  exact ⟨rfl, c1 _ b4', bw1.trans (b4'.mono bw1.size)⟩
theorem cost_walk {x : Ent} {b : Nat} (h : SpS n0 w own hp G hs bs tp hd t T rest s mb c #[⟨plK 0 (bArr key), st0, b⟩] ck) (hx : Has T rest x key tx) (hb : b < ck) (hco : c.tot + costT key.length tx.length ≤ 1048576) :
    Calls Tryz.prog 17 #[.pointer (some ⟨s, 0, none⟩)] w fun e w' => e = .returned (.int .i64 ((c.tot + costT key.length tx.length : Nat) : Int)) ∧ Below w.heap.size w w' := by
  obtain ⟨W0, r, hrg, b0, i0⟩ := h.rng (Nat.le_refl w.heap.size)
  have h0 := h.below b0
  obtain ⟨W1, hnx, hen, h1, i1, b1⟩ := h0.nxt1 i0 hb
  have bw1 := b0.trans b1
  refine cost_raw (fun w' => Below w.heap.size w w') (by rw [h.cell 9]; rfl) (by rw [h.cell 13]; rfl) hco hrg hnx hen (fun W hW => ?_)
  have h2 := h1.below hW
  have i2 := i1.below hW
  refine (weigh_walk h2 hx).mono ?_
  rintro e w' ⟨rfl, b4⟩
  refine ⟨rfl, b4, ?_⟩
  rintro W' ⟨k, rfl⟩
  have b5 := bd b4 k
  exact ⟨bw1.trans ((hW.trans (b5.mono hW.size)).mono bw1.size), (h2.below b5).nxt2 (i2.below b5) hb⟩
theorem cost_none (h : SpS n0 w own hp G hs bs tp hd t T rest s mb c #[] ck) :
    Calls Tryz.prog 17 #[.pointer (some ⟨s, 0, none⟩)] w fun e w' => e = .returned (.int .i64 (c.tot : Int)) ∧ Below w.heap.size w w' := by
  obtain ⟨W0, r, hrg, b0, i0⟩ := h.rng (Nat.le_refl w.heap.size)
  have hnx := (h.below b0).nxt0 i0
  have h9 : w.cell? ⟨s, 9, none⟩ = some (.int .i64 (c.tot : Int)) := by rw [h.cell 9]; rfl
  have h13 : w.cell? ⟨s, 13, none⟩ = some (.map (some mb)) := by rw [h.cell 13]; rfl
  have HRg := Lib.hid hrg
  have HNx := Lib.hid hnx
  have HB := Lib.hid b0
  clear h hrg hnx i0 b0
  go_enter Tryz.func17, Tryz.ntmps17
  go_wp2_with (first | (at_range; refine wp_range _ rfl _ _ rfl rfl HRg.out ?_) | fail)
  go_frame
  refine wp_loop_rounds 1 ?_
  rw [rounds_succ]
  go_wp2_with (first | (at_next; refine wp_next _ rfl _ rfl rfl (HNx.out _) ?_) | fail)
  refine bodyPost_ret (results_tmp rfl _ _ _) rfl ?_
  exact ⟨rfl, HB.out⟩
end
end Go.Proofs.YtglglknhifjbaaaGreatDoor.Sp
