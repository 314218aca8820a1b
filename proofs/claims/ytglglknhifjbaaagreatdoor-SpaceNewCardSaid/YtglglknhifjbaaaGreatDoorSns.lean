import Derived.Test.YtglglknhifjbaaaGreatDoorGat
import Derived.Test.YtglglknhifjbaaaGreatDoorMnw
namespace Go.Proofs.YtglglknhifjbaaaGreatDoor.Sp
open Go.RowKit Go.Proofs.YtglglknhifjbaaaGreatDoorW.PrintWords Go.Proofs.YtglglknhifjbaaaGreatDoorW.PrintLast Go.Proofs.YtglglknhifjbaaaGreatDoorW.PrintMore
set_option linter.unusedVariables false
set_option linter.unusedSimpArgs false
def Tab.new (seed nid : Nat) : Tab := ⟨seed, nid, 2, [[], [], [], []], 0, 0, [], 0⟩
theorem Tab.new_ok (seed nid : Nat) (hs : seed < 18446744073709551616) : (Tab.new seed nid).Ok where
  seed := hs
  nlen := rfl
  nk2 := ⟨Nat.le_refl _, by show 2 ≤ 20; decide⟩
  olen := fun h => absurd rfl h
  onone := fun _ => ⟨rfl, rfl⟩
  mv := Nat.le_refl _
  empt := fun i hi => absurd hi (Nat.not_lt_zero _)
  nbk := fun i c hc e he => by
    have hc : ([[], [], [], []] : List (List Ent))[i]? = some c := hc
    have : c ∈ ([[], [], [], []] : List (List Ent)) := List.mem_of_getElem? hc
    simp at this
    subst this; simp at he
  obk := fun i c hc => by simp [Tab.new] at hc
  nmv := fun h => absurd rfl h
  ent := fun e he => by simp [Tab.ents, Tab.new] at he
  keys := by simp [Tab.ents, Tab.new]
theorem Tab.new_plan (seed nid t : Nat) : (Tab.new seed nid).plan t = [(t, .node ⟨4, [nid, 0], [seed, 0, 0]⟩), (nid, .node (arrN [0, 0, 0, 0]))] := rfl
def TNewPost (w : World) (own : Own) (hp : Nat) (G : Gr) (P : Plan) (seed : Nat) (e : Ending) (w' : World) : Prop :=
  ∃ own' G' hs' bs', HO w' own' hp G' hs' bs' ∧ HStep w own w' own' ∧ G.next ≤ G'.next ∧ G'.limit = G.limit ∧
    ((∃ tp hd t nid, e = .returned (.tuple #[.pointer (some ⟨tp, 0, none⟩), .int .i64 0]) ∧ w.heap.size ≤ tp ∧ TAt w' own' hp tp hd ∧ (∀ j, (hd, j) ∉ G.hands) ∧ G'.hands = (hd, t) :: G.hands ∧ G.next ≤ t ∧ Sat G' ((Tab.new seed nid).plan t ++ P)) ∨
     (e = .returned (.tuple #[.pointer none, .int .i64 31]) ∧ G'.hands = G.hands ∧ Sat G' P ∧ (NoRoom G 0 P 6 ∨ ∃ id, NoRoom G 0 ((id, .node ⟨4, [0, 0], [seed, 0, 0]⟩) :: P) 5)))
section
variable {w w1 w2 W : World} {own own1 own2 : Own} {hp : Nat} {G G1 G2 : Gr} {hs hs1 hs2 : List Nat} {bs bs1 bs2 : List (Option Nat)} {P : Plan}
theorem tabShape2 : Shape 4 2 3 := ⟨by decide, by decide, by decide, by decide⟩
set_option maxHeartbeats 1000000 in
set_option maxRecDepth 100000 in
theorem tNew_walk (H : HO w own hp G hs bs) (S : Sat G P) (seed : Nat) (hsd : seed < 18446744073709551616) (hn : G.hands.length < 900) :
    Calls Tryz.prog 38 #[.pointer (some ⟨hp, 0, none⟩), .int .u64 (seed : Int)] w (TNewPost w own hp G P seed) := by
  have HA : Hid (Calls Tryz.prog 69 #[.pointer (some ⟨hp, 0, none⟩), .int .i64 4, .int .i64 2, .int .i64 3] w fun e w1 =>
      (e = .returned (.tuple #[.int .u64 0, .int .i64 31]) ∧ Hid (TNewPost w own hp G P seed (.returned (.tuple #[.pointer none, .int .i64 31])) w1)) ∨
      (∃ pt : Nat, e = .returned (.tuple #[.int .u64 (pt : Int), .int .i64 0]) ∧
        Hid (Calls Tryz.prog 70 #[.pointer (some ⟨hp, 0, none⟩), .int .u64 (pt : Int), .int .i64 2, .int .u64 (seed : Int)] w1 fun e w2 => e = .returned (.int .i64 0) ∧
          Hid (Calls Tryz.prog 71 #[.pointer (some ⟨hp, 0, none⟩), .int .u64 (pt : Int)] w2 fun e w3 => ∃ k : Nat, e = .returned (.tuple #[.int .i64 ((k : Int) + 1), .int .i64 0]) ∧ k ≤ 1000 ∧ (∀ j, (k, j) ∉ G.hands) ∧
            Hid (∃ own3 G3 hs3 bs3 t, HO w3 own3 hp G3 hs3 bs3 ∧ HStep w own w3 own3 ∧ G.next ≤ G3.next ∧ G3.limit = G.limit ∧ G3.hands = (k, t) :: G.hands ∧ G.next ≤ t ∧ Sat G3 ((t, .node ⟨4, [0, 0], [seed, 0, 0]⟩) :: P)))))) := by
    refine Lib.hid ((hAllocO_walk H 4 2 3 tabShape2).mono ?_)
    rintro e w1 ⟨own1, hs1, bs1, st1, hkeep, ⟨rfl, H1, hl1⟩ | ⟨rfl, H1, hnr⟩⟩
    · right
      have S1 : Sat (G.add (Node.new 4 2 3)) ((G.next, .node (Node.new 4 2 3)) :: P) := S.more H.lay.nx (Node.new 4 2 3) (.node (Node.new 4 2 3)) rfl
      refine ⟨_, rfl, Lib.hid ?_⟩
      have n1 : (G.add (Node.new 4 2 3)).node G.next = ⟨4, [0, 0], [0, 0, 0]⟩ := Gr.add_same _ _
      have s1 := setRw_walk H1 hl1 0 2 seed (by rw [n1]; show 0 < 3; decide) (by rw [n1]; rfl) hsd
      rw [n1] at s1
      refine s1.mono ?_
      rintro e w2 ⟨rfl, own2, E2⟩
      refine ⟨rfl, Lib.hid ?_⟩
      have S2 : Sat ((G.add (Node.new 4 2 3)).put G.next (Node.setRw ⟨4, [0, 0], [0, 0, 0]⟩ 0 seed)) ((G.next, .node ⟨4, [0, 0], [seed, 0, 0]⟩) :: P) := S1.turn _ rfl
      have hr := hRoot_walk E2.ho (.inr hl1) (by show G.hands.length < 1000; omega)
      rw [E2.pl] at hr
      refine hr.mono ?_
      rintro e w3 ⟨k, own3, rfl, hfree, hk, H3, st3⟩
      exact ⟨k, rfl, hk, hfree, Lib.hid ⟨own3, _, hs1, bs1, G.next, H3, (st1.trans E2.st).trans st3, Nat.le_succ _, rfl, rfl, Nat.le_refl _, S2.hands _⟩⟩
    · left
      exact ⟨rfl, Lib.hid ⟨own1, G, hs1, bs1, H1, st1, Nat.le_refl _, rfl, .inr ⟨rfl, rfl, S, .inl ⟨G, S, hnr, rfl, fun p hp => .inl hp⟩⟩⟩⟩
  clear S
  go_enter Tryz.func38, Tryz.ntmps38
  go_wp2_with fail
  refine HA.out.mono ?_
  rintro e w1 (⟨rfl, HQ⟩ | ⟨pt, rfl, HS⟩)
  · go_wp2_with fail
    go_ret2
    exact HQ.out
  · go_wp2_with fail
    refine HS.out.mono ?_
    rintro e w2 ⟨rfl, HR⟩
    go_wp2_with fail
    refine HR.out.mono ?_
    rintro e w3 ⟨k, rfl, hk, hfree, H3⟩
    have HA2 : Hid (Calls Tryz.prog 69 #[.pointer (some ⟨hp, 0, none⟩), .int .i64 5, .int .i64 4, .int .i64 0] w3 fun e w4 =>
        (e = .returned (.tuple #[.int .u64 0, .int .i64 31]) ∧ Hid (Calls Tryz.prog 72 #[.pointer (some ⟨hp, 0, none⟩), .int .i64 ((k : Int) + 1)] w4 fun e w5 => e = .returned (.int .i64 0) ∧ Hid (TNewPost w own hp G P seed (.returned (.tuple #[.pointer none, .int .i64 31])) w5))) ∨
        (∃ pa : Nat, e = .returned (.tuple #[.int .u64 (pa : Int), .int .i64 0]) ∧
          ∀ tp w5, w4.heap.size ≤ tp → Below w4.heap.size w4 w5 → w5.heap[tp]? = some (.cells #[.pointer (some ⟨hp, 0, none⟩), .int .i64 ((k : Int) + 1)] 142 (0, 0)) → ∃ pt : Nat,
            Hid (Calls Tryz.prog 73 #[.pointer (some ⟨tp, 0, none⟩)] w5 fun e w' => e = .returned (.int .u64 (pt : Int)) ∧ ∃ n, w' = w5.drewN n) ∧
            Hid (∀ w6, Dw w5 w6 → Calls Tryz.prog 70 #[.pointer (some ⟨hp, 0, none⟩), .int .u64 (pt : Int), .int .i64 0, .int .u64 (pa : Int)] w6 fun e w7 => e = .returned (.int .i64 0) ∧ Hid (TNewPost w own hp G P seed (.returned (.tuple #[.pointer (some ⟨tp, 0, none⟩), .int .i64 0])) w7)))) := by
      obtain ⟨own3, G3, hs3, bs3, t, H3', st3, hnx3, hlm3, hh3, ht3, S3⟩ := H3.out
      refine Lib.hid ((hAllocO_walk H3' 5 4 0 (bktShape 4 (by decide))).mono ?_)
      have ht0 : t ≠ 0 := by have := H.lay.nx; omega
      rintro e w4 ⟨own4, hs4, bs4, st4, hkeep, ⟨rfl, H4, hl4⟩ | ⟨rfl, H4, hnr⟩⟩
      · right
        refine ⟨_, rfl, fun tp w5 htp hb5 hcell => ?_⟩
        have hlt : Live hs4 bs4 t := hkeep t (.hand k t (by rw [hh3]; exact List.mem_cons_self) ht0)
        have hb : Below w4.heap.size w4 w5 := hb5
        have H5 := H4.below hb
        have hta : TAt w5 own4 hp tp k := ⟨hcell, H4.top tp htp, hk⟩
        have hhk : (k, t) ∈ (G3.add (Node.new 5 4 0)).hands := by show (k, t) ∈ G3.hands; rw [hh3]; exact List.mem_cons_self
        have S4 : Sat (G3.add (Node.new 5 4 0)) ((G3.next, .node (arrN [0, 0, 0, 0])) :: (t, .node ⟨4, [0, 0], [seed, 0, 0]⟩) :: P) := S3.more H3'.lay.nx (Node.new 5 4 0) (.node (arrN [0, 0, 0, 0])) rfl
        refine ⟨plOf (G3.add (Node.new 5 4 0)) hs4 bs4 t, Lib.hid (tref_walk H5 hta hhk), Lib.hid fun w6 k6 => ?_⟩
        have nt : (G3.add (Node.new 5 4 0)).node t = ⟨4, [0, 0], [seed, 0, 0]⟩ := S4.node (List.mem_cons_of_mem _ List.mem_cons_self)
        have s6 := setRef_walk (H5.dw k6) hlt 0 G3.next (by rw [nt]; show 0 < 2; decide) (.inr hl4)
        rw [nt] at s6
        refine s6.mono ?_
        rintro e w7 ⟨rfl, own7, E7⟩
        have st7 : HStep w own w7 own7 := (((st3.trans st4).trans (HStep.below own4 hb)).trans (HStep.dw own4 k6)).trans E7.st
        refine ⟨rfl, Lib.hid ⟨own7, _, hs4, bs4, E7.ho, st7, by show G.next ≤ G3.next + 1; omega, hlm3, .inl ⟨tp, k, t, G3.next, rfl, Nat.le_trans (st3.trans st4).fr.size htp, (hta.dw k6).step E7.st, hfree, hh3, ht3, ?_⟩⟩⟩
        rw [Tab.new_plan]
        have S5 : Sat (G3.add (Node.new 5 4 0)) ((t, .node ⟨4, [0, 0], [seed, 0, 0]⟩) :: (G3.next, .node (arrN [0, 0, 0, 0])) :: P) := S4.perm (List.Perm.swap _ _ _)
        exact S5.turn (y := .node ⟨4, [G3.next, 0], [seed, 0, 0]⟩) _ rfl
      · left
        refine ⟨rfl, Lib.hid ?_⟩
        have hhk : (k, t) ∈ G3.hands := by rw [hh3]; exact List.mem_cons_self
        refine (hDrop_walk H4 hhk).mono ?_
        rintro e w5 ⟨rfl, own5, H5, st5⟩
        refine ⟨rfl, Lib.hid ⟨own5, _, hs4, bs4, H5, (st3.trans st4).trans st5, hnx3, hlm3, .inr ⟨rfl, ?_, (S3.hands _).tail, .inr ⟨t, G3, S3, hnr, hlm3, fun p hp => ?_⟩⟩⟩⟩
        · show dropH k G3.hands = _
          rw [hh3]; exact dropH_cons hfree
        · rw [hh3] at hp
          rcases List.mem_cons.1 hp with rfl | hp
          · exact .inr (.inr List.mem_cons_self)
          · exact .inl hp
    clear H hfree
    go_wp2_with fail
    refine HA2.out.mono ?_
    rintro e w4 (⟨rfl, HQ⟩ | ⟨pa, rfl, HC⟩)
    · go_wp2_with fail
      refine HQ.out.mono ?_
      rintro e w5 ⟨rfl, HQ2⟩
      go_wp2_with fail
      go_ret2
      exact HQ2.out
    · replace HC := Lib.hid HC
      go_wp2_with fail
      have hb4 : Below w4.heap.size w4 (w4.alloc (.cells #[.pointer (some ⟨hp, 0, none⟩), .int .i64 ((k : Int) + 1)] 142)) := Below.alloc (Below.refl _ _) (Nat.le_refl _) _
      obtain ⟨pt2, HR2, HS2⟩ := HC.out w4.heap.size _ (Nat.le_refl _) hb4 (by rw [alloc_at, if_pos rfl])
      clear hb4
      refine HR2.out.mono ?_
      rintro e w' ⟨rfl, m, rfl⟩
      go_wp2_with fail
      refine Calls.mono (HS2.out _ ?_) ?_
      · exact ⟨_, rfl⟩
      rintro e w7 ⟨rfl, HQ⟩
      go_wp2_with fail
      go_ret2
      exact HQ.out
end
end Go.Proofs.YtglglknhifjbaaaGreatDoor.Sp
namespace Go.Proofs.YtglglknhifjbaaaGreatDoor.Sp
open Go.RowKit Go.Proofs.YtglglknhifjbaaaGreatDoorW.PrintWords Go.Proofs.YtglglknhifjbaaaGreatDoorW.PrintLast Go.Proofs.YtglglknhifjbaaaGreatDoorW.PrintMore
set_option linter.unusedVariables false
set_option linter.unusedSimpArgs false
def Gr.empty (limit : Nat) : Gr := ⟨fun _ => ⟨0, [], []⟩, 1, [], limit⟩
theorem rep_empty (limit : Nat) (h1 : 128 ≤ limit) (h2 : limit ≤ 1048576) : Rep (Gr.empty limit) [] [] (HM.new limit) where
  nx := Nat.le_refl _
  lo := fun i h => by rcases h with h | h <;> simp at h
  hnd := List.nodup_nil
  bnd := fun s t i h => by simp at h
  dis := fun i h => by simp at h
  ok := fun i h => by rcases h with h | h <;> simp at h
  small := fun i h => by simp at h
  big := fun i h => by simp at h
  closed := fun i h => by rcases h with h | h <;> simp at h
  hlive := fun p h => by simp [Gr.empty] at h
  hkeys := List.nodup_nil
  half := rfl
  blocks := rfl
  reached := rfl
  roots := ⟨fun k i h => by simp [Gr.empty] at h, fun k v h => by simp [HM.new] at h, by show 0 ≤ 1000; decide⟩
  nroots := rfl
  large := rfl
  since := Nat.zero_le _
  kept := Nat.zero_le _
  s1 := Nat.le_refl _
  s2 := rfl
  s3 := by show 2 * 64 + 0 ≤ limit; omega
  s4 := h2
  lim := rfl
  blen := Nat.zero_le _
theorem sat_empty (limit : Nat) : Sat (Gr.empty limit) [] := ⟨List.nodup_nil, fun i x h => by simp at h, fun i x h => by simp at h⟩
structure TE where
  tp : Nat
  hd : Nat
  t : Nat
  T : Tab
def ptrO : Option Nat → Value
  | some t => .pointer (some ⟨t, 0, none⟩)
  | none => .pointer none
def spNew (hp q seed mb : Nat) (ts : List Nat) : Array Value := #[.pointer (some ⟨hp, 0, none⟩), .int .i64 (q : Int), .int .u64 (seed : Int), .int .u64 0, ptrO ts[0]?, ptrO ts[1]?, ptrO ts[2]?, ptrO ts[3]?, .slice none 0 0, .int .i64 0, .int .u64 0, .bool false, .int .i64 0, .map (some mb), .slice none 0 0, .slice none 0 0]
def tesP : List TE → Plan
  | [] => []
  | x :: l => x.T.plan x.t ++ tesP l
def tesH (l : List TE) : List (Nat × Nat) := l.map fun x => (x.hd, x.t)
structure SnL (w wr : World) (q seed s hp mb : Nat) (own : Own) (G : Gr) (hs : List Nat) (bs : List (Option Nat)) (l : List TE) : Prop where
  ho : HO wr own hp G hs bs
  sat : Sat G (tesP l)
  hands : G.hands = tesH l
  limit : G.limit = 16 * q + 131072
  new : ∀ x ∈ l, ∃ nid, x.T = Tab.new seed nid
  hs_ : wr.heap[s]? = some (.cells (spNew hp q seed mb (l.reverse.map TE.tp)) 86 (0, 0))
  os : own s = 0
  hb : wr.heap[mb]? = some (.map #[] 0)
  ob : own mb = 0
  tab : ∀ x ∈ l, TAt wr own hp x.tp x.hd ∧ ¬ x.tp < w.heap.size
  bel : Below w.heap.size w wr
  old : ∀ b, b < w.heap.size → own b = 0
  snew : ¬ s < w.heap.size
  mnew : ¬ mb < w.heap.size
  hpn : ¬ hp < w.heap.size
theorem tesP_shut (seed : Nat) : ∀ (l : List TE), (∀ x ∈ l, ∃ nid, x.T = Tab.new seed nid) → Plan.Shut (tesP l) (tesH l) ∧ Plan.wt (tesP l) = 11 * l.length
  | [], _ => ⟨⟨fun i x h => by simp [tesP] at h, fun p h => by simp [tesH] at h⟩, rfl⟩
  | x :: l, h => by
    obtain ⟨i1, i2⟩ := tesP_shut seed l (fun y hy => h y (List.mem_cons_of_mem _ hy))
    obtain ⟨nid, hn⟩ := h x List.mem_cons_self
    have hp : tesP (x :: l) = (x.t, .node ⟨4, [nid, 0], [seed, 0, 0]⟩) :: (nid, .node (arrN [0, 0, 0, 0])) :: tesP l := by
      show x.T.plan x.t ++ tesP l = _
      rw [hn, Tab.new_plan]; rfl
    rw [hp]
    refine ⟨⟨fun i y hy j hj => ?_, fun p hp' => ?_⟩, ?_⟩
    · rw [ids_cons, ids_cons]
      rcases List.mem_cons.1 hy with e | hy
      · injection e with e1 e2
        subst e2
        have hj : j ∈ [nid, 0] := hj
        simp at hj
        rcases hj with rfl | rfl
        · exact .inr (List.mem_cons_of_mem _ List.mem_cons_self)
        · exact .inl rfl
      · rcases List.mem_cons.1 hy with e | hy
        · injection e with e1 e2
          subst e2
          have hj : j ∈ [0, 0, 0, 0] := hj
          simp at hj
          exact .inl hj
        · rcases i1.refs i y hy j hj with h | h
          · exact .inl h
          · exact .inr (List.mem_cons_of_mem _ (List.mem_cons_of_mem _ h))
    · rw [ids_cons, ids_cons]
      have hp' : p ∈ (x.hd, x.t) :: tesH l := hp'
      rcases List.mem_cons.1 hp' with rfl | hp'
      · exact .inr List.mem_cons_self
      · rcases i1.hands p hp' with h | h
        · exact .inl h
        · exact .inr (List.mem_cons_of_mem _ (List.mem_cons_of_mem _ h))
    · rw [wt_cons, wt_cons, i2, List.length_cons]
      show 6 + (5 + 11 * l.length) = _
      omega
theorem shut_one {P : Plan} {hands : List (Nat × Nat)} (h : Plan.Shut P hands) (id k : Nat) (raws : List Nat) : Plan.Shut ((id, .node ⟨k, [0, 0], raws⟩) :: P) hands :=
  ⟨fun i y hy j hj => by
    rw [ids_cons]
    rcases List.mem_cons.1 hy with e | hy
    · injection e with e1 e2
      subst e2
      have hj : j ∈ [0, 0] := hj
      simp at hj
      exact .inl hj
    · rcases h.refs i y hy j hj with h | h
      · exact .inl h
      · exact .inr (List.mem_cons_of_mem _ h), fun p hp => by
    rw [ids_cons]
    rcases h.hands p hp with h | h
    · exact .inl h
    · exact .inr (List.mem_cons_of_mem _ h)⟩
theorem ptrO_app (ts : List Nat) (t i : Nat) (h : i ≠ ts.length) : ptrO (ts ++ [t])[i]? = ptrO ts[i]? := by
  by_cases e : i < ts.length
  · rw [List.getElem?_append_left e]
  · rw [List.getElem?_eq_none (by simp; omega), List.getElem?_eq_none (by omega)]
theorem snl_start {w w1 : World} {q seed hp : Nat} {own1 : Own} {x1 : HX} (hq : 16 * q + 131072 ≤ 1048576) (hm : HMem w1 own1 hp (HM.new (16 * q + 131072)) x1) (hb : Below w.heap.size w w1) (ho : ∀ b, b < w.heap.size → own1 b = 0) :
    SnL w ((w1.alloc (.map #[] 0)).alloc (.cells #[.pointer (some ⟨hp, 0, none⟩), .int .i64 (q : Int), .int .u64 (seed : Int), .int .u64 0, .pointer none, .pointer none, .pointer none, .pointer none, .slice none 0 0, .int .i64 0, .int .u64 0, .bool false, .int .i64 0, .map (some w1.heap.size), .slice none 0 0, .slice none 0 0] 86)) q seed (w1.heap.size + 1) hp w1.heap.size own1 (Gr.empty (16 * q + 131072)) [] [] [] where
  ho := ⟨_, x1, (hm.alloc _).alloc _, rep_empty _ (by omega) hq⟩
  sat := sat_empty _
  hands := rfl
  limit := rfl
  new := fun x hx => by simp at hx
  hs_ := by rw [alloc_at, if_pos (by simp)]; rfl
  os := hm.top _ (by omega)
  hb := by rw [alloc_at, if_neg (by simp), alloc_at, if_pos rfl]
  ob := hm.top _ (Nat.le_refl _)
  tab := fun x hx => by simp at hx
  bel := (hb.alloc hb.size _).alloc (by have := hb.size; simp; omega) _
  old := ho
  snew := by have := hb.size; omega
  mnew := by have := hb.size; omega
  hpn := fun h => by have h1 := ho hp h; have h2 := hm.ohd; omega
theorem snl_next {w wr w2 : World} {q seed s hp mb : Nat} {own : Own} {G : Gr} {hs : List Nat} {bs : List (Option Nat)} {l : List TE} {e : Ending} (h : SnL w wr q seed s hp mb own G hs bs l) (hl : l.length < 4) (hp2 : TNewPost wr.drew own hp G (tesP l) seed e w2) :
    ∃ tp, e = .returned (.tuple #[.pointer (some ⟨tp, 0, none⟩), .int .i64 0]) ∧ w2.cell? ⟨s, 4 + l.length, none⟩ = some (.pointer none) ∧ (∀ i, w2.frozen? ⟨s, i, none⟩ = false) ∧
      Hid (∃ own' G' hs' bs' x, x.tp = tp ∧ SnL w (w2.setCell ⟨s, 4 + l.length, none⟩ (.pointer (some ⟨tp, 0, none⟩))) q seed s hp mb own' G' hs' bs' (x :: l)) := by
  obtain ⟨own', G', hs', bs', H', st, hnx, hlm, hc⟩ := hp2
  obtain ⟨hsh, hwt⟩ := tesP_shut seed l h.new
  have hsh' : Plan.Shut (tesP l) G.hands := by rw [h.hands]; exact hsh
  rcases hc with ⟨tp, hd, t, nid, rfl, htp, hta, hfree, hh, ht, S'⟩ | ⟨rfl, hh, S', hn⟩
  · have hst : HStep wr own w2 own' := (HStep.drew wr own).trans st
    have hs2 : w2.heap[s]? = some (.cells (spNew hp q seed mb (l.reverse.map TE.tp)) 86 (0, 0)) := (hst.block (blk_lt h.hs_) h.os).trans h.hs_
    have hos' : own' s = 0 := hst.own0 (blk_lt h.hs_) h.os
    have hlen : (l.reverse.map TE.tp).length = l.length := by simp
    have hts : tp ≠ s := by have := blk_lt h.hs_; have : wr.drew.heap.size = wr.heap.size := rfl; omega
    have hfr : Fr (fun b => b = s) w2 (w2.setCell ⟨s, 4 + l.length, none⟩ (.pointer (some ⟨tp, 0, none⟩))) := (Fr.refl (fun b => b = s) w2).setCell (p := ⟨s, 4 + l.length, none⟩) (.inl rfl) _
    have hne : ∀ {p d : Nat} {W : World}, W.heap[p]? = some (.cells #[.pointer (some ⟨hp, 0, none⟩), .int .i64 ((d : Int) + 1)] 142 (0, 0)) → W.heap[s]? = some (.cells (spNew hp q seed mb (l.reverse.map TE.tp)) 86 (0, 0)) → p ≠ s := fun {p d W} h1 h2 e => by
      subst e
      rw [h2] at h1
      injection h1 with h1
      injection h1 with _ h1 _
      exact absurd h1 (by decide)
    refine ⟨tp, rfl, ?_, fun i => by simp [World.frozen?, hs2], Lib.hid ⟨own', G', hs', bs', ⟨tp, hd, t, Tab.new seed nid⟩, rfl, ?_⟩⟩
    · have hnone : (l.reverse.map TE.tp)[l.length]? = none := List.getElem?_eq_none (by omega)
      have hs3 := hs2
      obtain ⟨ts, hts'⟩ : ∃ ts, l.reverse.map TE.tp = ts := ⟨_, rfl⟩
      rw [hts'] at hs3 hnone
      have : l.length = 0 ∨ l.length = 1 ∨ l.length = 2 ∨ l.length = 3 := by omega
      rcases this with e | e | e | e <;> (rw [e] at hnone ⊢; simp [World.cell?, hs3, spNew, hnone, ptrO])
    · exact
      { ho := H'.fr hfr (fun b hb => by subst hb; exact hos')
        sat := S'
        hands := by rw [hh, h.hands]; rfl
        limit := hlm.trans h.limit
        new := fun x hx => by
          rcases List.mem_cons.1 hx with rfl | hx
          · exact ⟨nid, rfl⟩
          · exact h.new x hx
        hs_ := by
          rw [setCell_at, if_pos rfl, hs2]
          have hrv : ((⟨tp, hd, t, Tab.new seed nid⟩ :: l : List TE).reverse.map TE.tp) = l.reverse.map TE.tp ++ [tp] := by simp
          rw [hrv]
          have ha := fun i (hi : i ≠ l.length) => ptrO_app (l.reverse.map TE.tp) tp i (by rw [hlen]; exact hi)
          have hj : ptrO (l.reverse.map TE.tp ++ [tp])[l.length]? = .pointer (some ⟨tp, 0, none⟩) := by
            rw [List.getElem?_append_right (by omega), hlen, Nat.sub_self]; rfl
          have : l.length = 0 ∨ l.length = 1 ∨ l.length = 2 ∨ l.length = 3 := by omega
          rcases this with e | e | e | e
          · rw [e] at ha hj ⊢; simp only [spNew, hj, ha 1 (by decide), ha 2 (by decide), ha 3 (by decide)]; rfl
          · rw [e] at ha hj ⊢; simp only [spNew, hj, ha 0 (by decide), ha 2 (by decide), ha 3 (by decide)]; rfl
          · rw [e] at ha hj ⊢; simp only [spNew, hj, ha 0 (by decide), ha 1 (by decide), ha 3 (by decide)]; rfl
          · rw [e] at ha hj ⊢; simp only [spNew, hj, ha 0 (by decide), ha 1 (by decide), ha 2 (by decide)]; rfl
        os := hos'
        hb := by
          have hnm : mb ≠ s := by
            rintro rfl
            have h1 := h.hb; rw [h.hs_] at h1; cases h1
          rw [setCell_at, if_neg hnm, hst.block (blk_lt h.hb) h.ob, h.hb]
        ob := hst.own0 (blk_lt h.hb) h.ob
        tab := fun x hx => by
          rcases List.mem_cons.1 hx with rfl | hx
          · refine ⟨⟨?_, hta.own0, hta.hl⟩, ?_⟩
            · rw [setCell_at, if_neg hts]; exact hta.cell
            · have := h.bel.size
              have e2 : wr.drew.heap.size = wr.heap.size := rfl
              show ¬ tp < w.heap.size
              omega
          · obtain ⟨h1, h2⟩ := h.tab x hx
            have h3 := h1.step hst
            exact ⟨⟨by rw [setCell_at, if_neg (hne h3.cell hs2)]; exact h3.cell, h3.own0, h3.hl⟩, h2⟩
        bel := by
          have b1 : Below w.heap.size w w2 := ⟨hst.fr.os.trans h.bel.os, hst.fr.tape.trans h.bel.tape, hst.fr.output.trans h.bel.output, Nat.le_trans h.bel.size hst.fr.size, fun i hi => (hst.block (Nat.lt_of_lt_of_le hi h.bel.size) (h.old i hi)).trans (h.bel.block i hi)⟩
          exact b1.setCell (by have := h.snew; show w.heap.size ≤ s; omega) _
        old := fun b hb => (hst.ow b (Nat.lt_of_lt_of_le hb h.bel.size)).trans (h.old b hb)
        snew := h.snew
        mnew := h.mnew
        hpn := h.hpn }
  · exfalso
    have hlim := h.limit
    rcases hn with hn | ⟨id, hn⟩
    · exact hn.not hsh' (.inl rfl) (by rw [hwt]; omega)
    · refine hn.not (shut_one hsh' id 4 _) (.inl rfl) ?_
      rw [wt_cons, hwt]
      show 2 * (6 + 11 * l.length + 5 + 66) ≤ _
      omega
def SpNewPost (w : World) (q seed : Nat) (e : Ending) (w' : World) : Prop :=
  ∃ s hp mb own G hs bs l, e = .returned (.tuple #[.pointer (some ⟨s, 0, none⟩), .int .i64 0]) ∧ l.length = 4 ∧ SnL w w' q seed s hp mb own G hs bs l
set_option maxHeartbeats 8000000 in
set_option maxRecDepth 100000 in
theorem spNew_walk (w : World) (q seed : Nat) (h1 : 256 ≤ q) (h2 : q ≤ 16384) (hsd : seed < 18446744073709551616) : Calls Tryz.prog 7 #[.int .i64 (q : Int), .int .u64 (seed : Int)] w (SpNewPost w q seed) := by
  go_enter Tryz.func7, Tryz.ntmps7
  go_wp2_with fail
  rw [show (16 : Int) * (q : Int) + 131072 = ((16 * q + 131072 : Nat) : Int) by omega]
  refine (heapNew_walk w (16 * q + 131072) (by omega) (by omega)).mono ?_
  rintro e w1 ⟨hp, own1, x1, rfl, hm1, hb1, ho1⟩
  have HS := Lib.hid (snl_start (seed := seed) (by omega) hm1 hb1 ho1)
  clear hm1 hb1 ho1
  have hmm : ∀ W : World, (Instr.makeMap 82 none).run Tryz.prog W = .ok (.map (some W.heap.size)) (W.alloc (.map #[] 0)) := fun W => by
    exact run_makeMap _ W
  go_wp2_with fail
  go_loopw [31] (fun v31 wr => ∃ (own : Own) (G : Gr) (hs : List Nat) (bs : List (Option Nat)) (l : List TE), l.length ≤ 4 ∧ v31 = .int .i64 (l.length : Int) ∧ Hid (SnL w wr q seed (w1.heap.size + 1) hp w1.heap.size own G hs bs l)) (fun v31 _ => 4 - (intOf v31).toNat)
  case atStart => exact ⟨own1, _, [], [], [], by simp, rfl, HS⟩
  case round =>
    obtain ⟨own, G, hs, bs, l, hj, rfl, HL⟩ := hrel
    obtain ⟨j, hjl⟩ : ∃ j, l.length = j := ⟨_, rfl⟩
    rw [hjl] at hj ⊢
    by_cases hlt : j < 4
    · have HC : Hid (Calls Tryz.prog 38 #[.pointer (some ⟨hp, 0, none⟩), .int .u64 (seed : Int)] wr.drew fun e w2 => ∃ tp, e = .returned (.tuple #[.pointer (some ⟨tp, 0, none⟩), .int .i64 0]) ∧ w2.cell? ⟨w1.heap.size + 1, 4 + j, none⟩ = some (.pointer none) ∧ (∀ i, w2.frozen? ⟨w1.heap.size + 1, i, none⟩ = false) ∧
          Hid (∃ own' G' hs' bs' x, x.tp = tp ∧ SnL w (w2.setCell ⟨w1.heap.size + 1, 4 + j, none⟩ (.pointer (some ⟨tp, 0, none⟩))) q seed (w1.heap.size + 1) hp w1.heap.size own' G' hs' bs' (x :: l))) := by
        have hn : G.hands.length < 900 := by rw [HL.out.hands]; unfold tesH; rw [List.length_map]; omega
        refine Lib.hid ((tNew_walk HL.out.ho.drew HL.out.sat seed hsd hn).mono fun e w2 hq => ?_)
        have := snl_next HL.out (by omega) hq
        rw [hjl] at this
        exact this
      replace hjl := Lib.hid hjl
      go_wp2_with fail
      go_region_held3 (fun _ => True) (trivial) ((go_at_call 38; refine HC.out.mono ?_; rintro e w2 ⟨t, rfl, k0, k1, HN⟩; have k2 := k1 (4 + j); clear k1))
      go_wp2_with fail
      go_roundw
      case rel =>
        obtain ⟨own', G', hs', bs', x, hx, hN⟩ := HN.out
        exact ⟨own', G', hs', bs', x :: l, by rw [List.length_cons, hjl.out]; omega, by rw [List.length_cons, hjl.out]; go_num, Lib.hid hN⟩
      case measure => simp [intOf]; omega
    · obtain rfl : j = 4 := by omega
      go_wp2_with fail
      go_ret2
      exact ⟨w1.heap.size + 1, hp, w1.heap.size, own, G, hs, bs, l, rfl, hjl, HL.out⟩
end Go.Proofs.YtglglknhifjbaaaGreatDoor.Sp
namespace Go.Proofs.YtglglknhifjbaaaGreatDoor.Sp
open Go.RowKit Go.Proofs.YtglglknhifjbaaaGreatDoorW.PrintWords Go.Proofs.YtglglknhifjbaaaGreatDoorW.PrintLast Go.Proofs.YtglglknhifjbaaaGreatDoorW.PrintMore
open Go.ChangeMaps (setBlock)
set_option linter.unusedVariables false
set_option linter.unusedSimpArgs false
theorem tesP_app : ∀ (a b : List TE), tesP (a ++ b) = tesP a ++ tesP b
  | [], b => rfl
  | x :: a, b => by
    show x.T.plan x.t ++ tesP (a ++ b) = (x.T.plan x.t ++ tesP a) ++ tesP b
    rw [tesP_app a b, List.append_assoc]
theorem tesP_open (a : List TE) (x : TE) (b : List TE) : (tesP (a ++ x :: b)).Perm (x.T.plan x.t ++ tesP (a ++ b)) := by
  rw [tesP_app, tesP_app]
  show (tesP a ++ (x.T.plan x.t ++ tesP b)).Perm _
  rw [List.perm_iff_count]
  intro p
  simp only [List.count_append]
  omega
theorem shut_perm {P Q : Plan} {hands : List (Nat × Nat)} (p : P.Perm Q) (h : Plan.Shut P hands) : Plan.Shut Q hands := by
  have hi : ∀ i, i ∈ Plan.ids P → i ∈ Plan.ids Q := fun i hi => by
    obtain ⟨x, hx⟩ := ids_mem.1 hi
    exact ids_mem.2 ⟨x, p.mem_iff.1 hx⟩
  exact ⟨fun i x hx j hj => (h.refs i x (p.mem_iff.2 hx) j hj).imp_right (hi j), fun q hq => (h.hands q hq).imp_right (hi _)⟩
theorem wt_perm {P Q : Plan} (p : P.Perm Q) : Plan.wt P = Plan.wt Q := by
  unfold Plan.wt
  exact (p.map _).sum_nat
section
variable {w wr : World} {q seed s hp mb : Nat} {own : Own} {G : Gr} {hs : List Nat} {bs : List (Option Nat)} {l : List TE}
theorem SnL.gl (h : SnL w wr q seed s hp mb own G hs bs l) (g0 : Gl w (fun _ => 0)) : Gl wr own :=
  ⟨fun j hj => by rw [h.bel.cell (p := ⟨2, j, none⟩) g0.lt]; exact g0.cell j hj, Nat.lt_of_lt_of_le g0.lt h.bel.size, h.old _ g0.lt⟩
theorem SnL.ht (h : SnL w wr q seed s hp mb own G hs bs l) (g0 : Gl w (fun _ => 0)) (hsd : seed < 18446744073709551616) (hl : l.length = 4) {a b : List TE} {x : TE} (hx : l = a ++ x :: b) : HT wr own hp G hs bs x.tp x.hd x.t x.T (tesP (a ++ b)) := by
  have hm : x ∈ l := by rw [hx]; simp
  obtain ⟨nid, hn⟩ := h.new x hm
  refine ⟨h.ho, h.gl g0, (h.tab x hm).1, ?_, by rw [hn]; exact Tab.new_ok seed nid hsd, h.sat.perm (by rw [hx]; exact tesP_open a x b), ?_, by rw [hn]; show 0 ≤ 100000; omega⟩
  · rw [h.hands]
    exact List.mem_map.2 ⟨x, hm, rfl⟩
  · rw [h.hands]
    unfold tesH
    rw [List.length_map, hl]
    decide
def c0 (q seed : Nat) (t1 t2 t3 : Nat) : SC := ⟨q, seed, 0, .pointer (some ⟨t1, 0, none⟩), .pointer (some ⟨t2, 0, none⟩), .pointer (some ⟨t3, 0, none⟩), .slice none 0 0, 0, 0, false, 0, .slice none 0 0, .slice none 0 0⟩
theorem SnL.sps {x0 x1 x2 x3 : TE} (h : SnL w wr q seed s hp mb own G hs bs [x3, x2, x1, x0]) (g0 : Gl w (fun _ => 0)) (hsd : seed < 18446744073709551616) :
    SpS w.heap.size wr own hp G hs bs x0.tp x0.hd x0.t x0.T (tesP [x3, x2, x1]) s mb (c0 q seed x1.tp x2.tp x3.tp) #[] 0 :=
  ⟨h.ht (a := [x3, x2, x1]) (b := []) g0 hsd rfl rfl, h.hs_, h.hb, h.os, h.ob, h.old, Nat.le_of_not_lt h.snew, Nat.le_of_not_lt h.mnew, Nat.le_of_not_lt (h.tab x0 (by simp)).2⟩
end
def NewSp (w : World) (q seed : Nat) (e : Ending) (w' : World) : Prop :=
  ∃ (s hp mb : Nat) (own : Own) (G : Gr) (hs : List Nat) (bs : List (Option Nat)) (x0 x1 x2 x3 : TE), e = .returned (.tuple #[.pointer (some ⟨s, 0, none⟩), .int .i64 0]) ∧ SnL w w' q seed s hp mb own G hs bs [x3, x2, x1, x0] ∧
    SpS w.heap.size w' own hp G hs bs x0.tp x0.hd x0.t x0.T (tesP [x3, x2, x1]) s mb (c0 q seed x1.tp x2.tp x3.tp) #[] 0 ∧ Below w.heap.size w w' ∧ x0.T.oid = 0 ∧ x0.T.ents = [] ∧ x0.T.nk = 2 ∧
    Plan.Shut (x0.T.plan x0.t ++ tesP [x3, x2, x1]) G.hands ∧ Plan.wt (x0.T.plan x0.t ++ tesP [x3, x2, x1]) = 44 ∧ G.limit = 16 * q + 131072
theorem new_walk (w : World) (q seed : Nat) (g0 : Gl w (fun _ => 0)) (h1 : 256 ≤ q) (h2 : q ≤ 16384) (hsd : seed < 18446744073709551616) : Calls Tryz.prog 7 #[.int .i64 (q : Int), .int .u64 (seed : Int)] w (NewSp w q seed) := by
  refine (spNew_walk w q seed h1 h2 hsd).mono ?_
  rintro e w' ⟨s, hp, mb, own, G, hs, bs, l, rfl, hl, h⟩
  match l, hl with
  | [x3, x2, x1, x0], _ =>
    obtain ⟨nid, hn⟩ := h.new x0 (by simp)
    obtain ⟨sh, wt⟩ := tesP_shut seed _ h.new
    have hp1 := tesP_open [x3, x2, x1] x0 []
    have hsh := shut_perm hp1 sh
    rw [← h.hands] at hsh
    exact ⟨s, hp, mb, own, G, hs, bs, x0, x1, x2, x3, rfl, h, h.sps g0 hsd, h.bel, by rw [hn]; rfl, by rw [hn]; rfl, by rw [hn]; rfl, hsh, (wt_perm hp1).symm.trans wt, h.limit⟩
set_option maxHeartbeats 1000000 in
theorem new_refused (w : World) (q : Int) (seed : Nat) (h : q < 256 ∨ 16384 < q) : Calls Tryz.prog 7 #[.int .i64 q, .int .u64 (seed : Int)] w fun e w' => e = .returned (.tuple #[.pointer none, .int .i64 100]) ∧ w = w' := by
  rcases h with h | h
  · have h1 : decide (q < 256) = true := decide_eq_true h
    go_enter Tryz.func7, Tryz.ntmps7
    go_wp2_with fail
    refine bodyPost_ret (results_tmp2 rfl _ _ _) rfl ?_
    exact ⟨rfl, rfl⟩
  · have h1 : decide (q < 256) = false := decide_eq_false (by omega)
    have h2 : decide (16384 < q) = true := decide_eq_true h
    go_enter Tryz.func7, Tryz.ntmps7
    go_wp2_with fail
    refine bodyPost_ret (results_tmp2 rfl _ _ _) rfl ?_
    exact ⟨rfl, rfl⟩
end Go.Proofs.YtglglknhifjbaaaGreatDoor.Sp
