import Derived.Test.YtglglknhifjbaaaGreatDoorRep
import Derived.Test.YtglglknhifjbaaaGreatDoorBys
import Derived.Test.YtglglknhifjbaaaGreatDoorHdr
namespace Go.Proofs.YtglglknhifjbaaaGreatDoor.Sp
set_option linter.unusedVariables false
set_option linter.unusedSimpArgs false
def wordsN (n : Nat) : Nat := (n + 7) / 8
structure BlobN (n : Node) (b : List Int) : Prop where
  kind : n.kind = 1
  refs : n.refs = []
  len : n.raws.length = 1 + wordsN b.length
  first : n.raws[0]? = some b.length
  byte : ∀ j (h : j < b.length), (getB n.raws (8 + j) : Int) = b[j]
  max : b.length ≤ 4096
inductive Item where
  | node (n : Node)
  | blob (b : List Int)
deriving DecidableEq
def Item.ok : Item → Node → Prop
  | .node m, n => n = m
  | .blob b, n => BlobN n b
def Item.refs : Item → List Nat
  | .node n => n.refs
  | .blob _ => []
def Item.size : Item → Nat
  | .node n => n.size
  | .blob b => 2 + wordsN b.length
theorem Item.ok_refs {x : Item} {n : Node} (h : x.ok n) : n.refs = x.refs := by
  cases x with
  | node m => rw [show n = m from h]; rfl
  | blob b => exact BlobN.refs h
theorem Item.ok_size {x : Item} {n : Node} (h : x.ok n) : n.size = x.size := by
  cases x with
  | node m => rw [show n = m from h]; rfl
  | blob b =>
    have h : BlobN n b := h
    unfold Node.size
    rw [h.refs, h.len]
    show 1 + 0 + _ = 2 + wordsN b.length
    omega
abbrev Plan := List (Nat × Item)
def Plan.ids (l : Plan) : List Nat := l.map Prod.fst
theorem ids_app (a b : Plan) : (Plan.ids (a ++ b)) = Plan.ids a ++ Plan.ids b := by simp [Plan.ids]
theorem ids_cons (p : Nat × Item) (b : Plan) : Plan.ids (p :: b) = p.1 :: Plan.ids b := rfl
theorem ids_mem {l : Plan} {i : Nat} : i ∈ Plan.ids l ↔ ∃ x, (i, x) ∈ l := by
  unfold Plan.ids
  rw [List.mem_map]
  constructor
  · rintro ⟨p, hp, rfl⟩; exact ⟨p.2, hp⟩
  · rintro ⟨x, hx⟩; exact ⟨_, hx, rfl⟩
structure Sat (G : Gr) (l : Plan) : Prop where
  nd : (Plan.ids l).Nodup
  lo : ∀ i x, (i, x) ∈ l → 1 ≤ i ∧ i < G.next
  at_ : ∀ i x, (i, x) ∈ l → x.ok (G.node i)
theorem Sat.perm {G : Gr} {l m : Plan} (h : Sat G l) (p : l.Perm m) : Sat G m :=
  ⟨(List.Perm.nodup_iff (p.map Prod.fst)).1 h.nd, fun i x hx => h.lo i x (p.mem_iff.2 hx), fun i x hx => h.at_ i x (p.mem_iff.2 hx)⟩
theorem Sat.node {G : Gr} {l : Plan} (h : Sat G l) {i : Nat} {n : Node} (hm : (i, .node n) ∈ l) : G.node i = n := h.at_ i _ hm
theorem Sat.blob {G : Gr} {l : Plan} (h : Sat G l) {i : Nat} {b : List Int} (hm : (i, .blob b) ∈ l) : BlobN (G.node i) b := h.at_ i _ hm
theorem Sat.right {G : Gr} {l m : Plan} (h : Sat G (l ++ m)) : Sat G m :=
  ⟨(by have := h.nd; rw [ids_app, List.nodup_append] at this; exact this.2.1), fun i x hx => h.lo i x (List.mem_append_right _ hx), fun i x hx => h.at_ i x (List.mem_append_right _ hx)⟩
theorem Sat.left {G : Gr} {l m : Plan} (h : Sat G (l ++ m)) : Sat G l :=
  ⟨(by have := h.nd; rw [ids_app, List.nodup_append] at this; exact this.1), fun i x hx => h.lo i x (List.mem_append_left _ hx), fun i x hx => h.at_ i x (List.mem_append_left _ hx)⟩
theorem Sat.tail {G : Gr} {p : Nat × Item} {m : Plan} (h : Sat G (p :: m)) : Sat G m := Sat.right (l := [p]) h
theorem Sat.ne {G : Gr} {i : Nat} {x : Item} {m : Plan} (h : Sat G ((i, x) :: m)) {j : Nat} {y : Item} (hj : (j, y) ∈ m) : j ≠ i := fun e => by
  have := h.nd
  rw [ids_cons, List.nodup_cons] at this
  exact this.1 (ids_mem.2 ⟨y, e ▸ hj⟩)
theorem Sat.turn {G : Gr} {i : Nat} {x y : Item} {m : Plan} (h : Sat G ((i, x) :: m)) (n : Node) (hn : y.ok n) : Sat (G.put i n) ((i, y) :: m) :=
  ⟨h.nd, fun j z hz => by
      rcases List.mem_cons.1 hz with e | hz
      · injection e with e1 e2
        rw [e1]
        exact h.lo i x List.mem_cons_self
      · exact h.lo j z (List.mem_cons_of_mem _ hz),
    fun j z hz => by
      rcases List.mem_cons.1 hz with e | hz
      · injection e with e1 e2
        rw [e1, e2, Gr.put_same]; exact hn
      · rw [Gr.put_other G i n j (h.ne hz)]
        exact h.at_ j z (List.mem_cons_of_mem _ hz)⟩
theorem Sat.more {G : Gr} {m : Plan} (h : Sat G m) (h1 : 1 ≤ G.next) (n : Node) (y : Item) (hn : y.ok n) : Sat (G.add n) ((G.next, y) :: m) :=
  ⟨by
    rw [ids_cons, List.nodup_cons]
    refine ⟨fun hm => ?_, h.nd⟩
    obtain ⟨x, hx⟩ := ids_mem.1 hm
    have := h.lo _ _ hx
    omega,
   fun j z hz => by
    show 1 ≤ j ∧ j < G.next + 1
    rcases List.mem_cons.1 hz with e | hz
    · injection e with e1 e2; omega
    · have := h.lo j z hz; omega,
   fun j z hz => by
    rcases List.mem_cons.1 hz with e | hz
    · injection e with e1 e2
      rw [e1, e2, Gr.add_same]; exact hn
    · have := h.lo j z hz
      rw [Gr.add_other G n j (by omega)]
      exact h.at_ j z hz⟩
theorem Sat.hands {G : Gr} {m : Plan} (h : Sat G m) (l : List (Nat × Nat)) : Sat { G with hands := l } m := ⟨h.nd, h.lo, h.at_⟩
inductive PReach (l : Plan) (r : List Nat) : Nat → Prop
  | root (i : Nat) : i ∈ r → PReach l r i
  | step (i j : Nat) (x : Item) : PReach l r i → (i, x) ∈ l → j ∈ x.refs → j ≠ 0 → PReach l r j
theorem PReach.mono {l m : Plan} {r s : List Nat} (h1 : ∀ p ∈ l, p ∈ m) (h2 : ∀ i ∈ r, PReach m s i) {i : Nat} (h : PReach l r i) : PReach m s i := by
  induction h with
  | root i hi => exact h2 i hi
  | step i j x _ hx hj h0 ih => exact .step i j x ih (h1 _ hx) hj h0
theorem PReach.reach {G : Gr} {l : Plan} {r : List Nat} (h : Sat G l) (hr : ∀ i ∈ r, Reach G i) {i : Nat} (hp : PReach l r i) : Reach G i := by
  induction hp with
  | root i hi => exact hr i hi
  | step i j x _ hx hj h0 ih => exact .step i j ih (by rw [Item.ok_refs (h.at_ i x hx)]; exact hj) h0
structure Plan.Shut (l : Plan) (hands : List (Nat × Nat)) : Prop where
  refs : ∀ i x, (i, x) ∈ l → ∀ j ∈ x.refs, j = 0 ∨ j ∈ Plan.ids l
  hands : ∀ p ∈ hands, p.2 = 0 ∨ p.2 ∈ Plan.ids l
theorem Plan.Shut.cover {G : Gr} {l : Plan} (s : Plan.Shut l G.hands) (h : Sat G l) {i : Nat} (hr : Reach G i) : i ∈ Plan.ids l := by
  induction hr with
  | hand k i hk h0 => exact (s.hands _ hk).resolve_left h0
  | step i j _ hj h0 ih =>
    obtain ⟨x, hx⟩ := ids_mem.1 ih
    rw [Item.ok_refs (h.at_ i x hx)] at hj
    exact (s.refs i x hx j hj).resolve_left h0
def Item.wt (x : Item) : Nat := if 64 < x.size then x.size + 1 else x.size
def Plan.wt (l : Plan) : Nat := (l.map fun p => p.2.wt).sum
theorem wt_app (a b : Plan) : Plan.wt (a ++ b) = Plan.wt a + Plan.wt b := by simp [Plan.wt]
theorem wt_cons (p : Nat × Item) (b : Plan) : Plan.wt (p :: b) = p.2.wt + Plan.wt b := rfl
theorem Sat.wt {G : Gr} : ∀ {l : Plan}, Sat G l → ((Plan.ids l).map G.wt).sum = Plan.wt l
  | [], _ => rfl
  | p :: l, h => by
    rw [ids_cons, List.map_cons, List.sum_cons, h.tail.wt, wt_cons]
    have hs := Item.ok_size (h.at_ p.1 p.2 List.mem_cons_self)
    have e : G.wt p.1 = p.2.wt := by
      unfold Gr.wt Item.wt Gr.sz
      rw [hs]
    rw [e]
end Go.Proofs.YtglglknhifjbaaaGreatDoor.Sp
namespace Go.Proofs.YtglglknhifjbaaaGreatDoor.Sp
open Go.RowKit Go.Proofs.YtglglknhifjbaaaGreatDoorW.PrintWords Go.Proofs.YtglglknhifjbaaaGreatDoorW.PrintLast Go.Proofs.YtglglknhifjbaaaGreatDoorW.PrintMore
set_option linter.unusedVariables false
set_option linter.unusedSimpArgs false
theorem words_walk (w : World) (n : Nat) (hn : n ≤ 1048576) :
    Calls Tryz.prog 192 #[.int .i64 (n : Int)] w fun e w' => e = .returned (.int .i64 (wordsN n : Int)) ∧ w = w' := by
  by_cases h : n < 1
  · have d : decide ((n : Int) < 1) = true := decide_eq_true (by omega)
    obtain rfl : n = 0 := by omega
    go_enter Tryz.func192, Tryz.ntmps192
    go_wp2_with fail
    go_ret
    exact ⟨rfl, rfl⟩
  · have d : decide ((n : Int) < 1) = false := decide_eq_false (by omega)
    obtain ⟨q, hq⟩ : ∃ q, wordsN n = q := ⟨_, rfl⟩
    obtain ⟨r, hr⟩ : ∃ r : Nat, (n - 1) / 8 = r := ⟨_, rfl⟩
    have hqr : q = r + 1 := by unfold wordsN at hq; omega
    have m1 : IntKind.i64.wrap ((n : Int) - 1) = (n : Int) - 1 := Go.IntWalk.i64_in _ (by omega)
    have m2 : ((n : Int) - 1).tdiv 8 = (r : Int) := by rw [Int.tdiv_eq_ediv_of_nonneg (by omega)]; omega
    have m3 : IntKind.i64.wrap (r : Int) = (r : Int) := Go.IntWalk.i64_in _ (by omega)
    have m4 : IntKind.i64.wrap ((r : Int) + 1) = (r : Int) + 1 := Go.IntWalk.i64_in _ (by omega)
    rw [hq, hqr]
    clear hq hr hqr
    go_enter Tryz.func192, Tryz.ntmps192
    go_wp2_with fail
    go_ret
    exact ⟨by simp, rfl⟩
theorem add_put (G : Gr) (m n : Node) : (G.add m).put G.next n = G.add n := by
  unfold Gr.add Gr.put
  congr 1
  funext j
  by_cases e : j = G.next
  · simp [e]
  · simp [e]
theorem SrcH.step {w w' : World} {own own' : Own} {A : Option Addr} {b : List Nat} (h : SrcH w own A b) (hst : HStep w own w' own') : SrcH w' own' A b := fun h0 => by
  obtain ⟨g, o, e, h1, h2, h3⟩ := h h0
  have hb := hst.fr.block g h2 (by simp [h1])
  refine ⟨g, o, e, by rw [hst.ow g h2]; exact h1, by rw [← hb] at *; exact Nat.lt_of_lt_of_le h2 hst.fr.size, fun j hj => ?_⟩
  have h5 := h3 j hj
  unfold World.cell? at h5 ⊢
  simp only [hb]
  exact h5
def blobN (b : List Nat) : Node := ⟨1, [], setBs ((List.replicate (1 + wordsN b.length) 0).set 0 b.length) 8 b⟩
def intsOf (b : List Nat) : List Int := b.map Int.ofNat
theorem intsOf_len (b : List Nat) : (intsOf b).length = b.length := by simp [intsOf]
theorem setBs_head : ∀ (b raws : List Nat) (f : Nat), 8 ≤ f → (setBs raws f b)[0]? = raws[0]?
  | [], raws, f, _ => rfl
  | c :: b, raws, f, h => by
    show (setBs (setB raws f c) (f + 1) b)[0]? = _
    rw [setBs_head b _ _ (by omega)]
    unfold setB
    rw [List.getElem?_set, if_neg (by omega)]
theorem blobN_ok (b : List Nat) (hb : ∀ y ∈ b, y < 256) (hl : b.length ≤ 4096) : BlobN (blobN b) (intsOf b) := by
  have hrl : ∀ x ∈ (List.replicate (1 + wordsN b.length) 0).set 0 b.length, x < 18446744073709551616 := fun x hx => by
    rcases List.mem_or_eq_of_mem_set hx with hx | rfl
    · rw [List.eq_of_mem_replicate hx]; decide
    · omega
  have hw : 8 + b.length ≤ 8 * (1 + wordsN b.length) := by unfold wordsN; omega
  have hlen : ((List.replicate (1 + wordsN b.length) 0).set 0 b.length).length = 1 + wordsN b.length := by simp
  have hby : ∀ j, getB (blobN b).raws j = if 8 ≤ j ∧ j < 8 + b.length then b.getD (j - 8) 0 else getB ((List.replicate (1 + wordsN b.length) 0).set 0 b.length) j := fun j => getB_sets b _ 8 j hrl hb (by rw [hlen]; exact hw)
  exact
  { kind := rfl
    refs := rfl
    len := by show (setBs _ _ _).length = _; rw [setBs_len, hlen, intsOf_len]
    first := by
      rw [intsOf_len]
      show (setBs _ _ _)[0]? = _
      rw [setBs_head _ _ _ (by omega), List.getElem?_set, if_pos rfl, if_pos (by rw [List.length_replicate]; omega)]
    byte := fun j hj => by
      have hj' : j < b.length := by rw [intsOf_len] at hj; exact hj
      rw [hby, if_pos ⟨by omega, by omega⟩, show (intsOf b)[j] = (b[j] : Int) by simp [intsOf], show 8 + j - 8 = j by omega, List.getD_eq_getElem?_getD, List.getElem?_eq_getElem hj']
      rfl
    max := by rw [intsOf_len]; exact hl }
def LayPost (w : World) (own : Own) (hp : Nat) (G : Gr) (b : List Nat) (e : Ending) (w' : World) : Prop :=
  ∃ own' hs' bs', HStep w own w' own' ∧ (∀ i, Reach G i → Live hs' bs' i) ∧
    ((e = .returned (.tuple #[.int .u64 (plOf (G.add (blobN b)) hs' bs' G.next : Int), .int .i64 0]) ∧ HO w' own' hp (G.add (blobN b)) hs' bs' ∧ Live hs' bs' G.next) ∨
     (e = .returned (.tuple #[.int .u64 0, .int .i64 31]) ∧ HO w' own' hp G hs' bs' ∧ ¬ G.room (2 + wordsN b.length)))
theorem add_congr {G : Gr} {m n : Node} (h : n.Like m) (hs : List Nat) (bs : List (Option Nat)) : plOf (G.add n) hs bs = plOf (G.add m) hs bs := by
  rw [← add_put G m n]
  exact put_pl (G.add m) G.next n (by rw [Gr.add_same]; exact h)
set_option maxHeartbeats 4000000 in
set_option maxRecDepth 100000 in
theorem lay_walk {w : World} {own : Own} {hp : Nat} {G : Gr} {hs : List Nat} {bs : List (Option Nat)} (H : HO w own hp G hs bs) (A : Option Addr) (b : List Nat) (c : Nat) (hb : ∀ y ∈ b, y < 256) (hA : SrcH w own A b) (hl : b.length ≤ 4096) :
    Calls Tryz.prog 184 #[.pointer (some ⟨hp, 0, none⟩), .slice A b.length c] w (LayPost w own hp G b) := by
  obtain ⟨n, hn⟩ : ∃ n, b.length = n := ⟨_, rfl⟩
  obtain ⟨q, hq⟩ : ∃ q, wordsN n = q := ⟨_, rfl⟩
  have hq9 : q ≤ 513 ∧ n ≤ 8 * q := by unfold wordsN at hq; omega
  have HWd := Lib.hid (words_walk w n (by omega))
  have hsh : Shape 1 0 (1 + q) := ⟨by omega, by omega, by omega, by omega⟩
  have HAl := Lib.hid (hAllocO_walk H 1 0 (1 + q) hsh)
  rw [hq] at HWd
  have m1 : IntKind.i64.wrap (1 + (q : Int)) = ((1 + q : Nat) : Int) := by rw [Go.IntWalk.i64_in _ (by omega)]; omega
  have hrest : ∀ w1 own1 hs1 bs1, HStep w own w1 own1 → (∀ i, Reach G i → Live hs1 bs1 i) → HO w1 own1 hp (G.add (Node.new 1 0 (1 + q))) hs1 bs1 → Live hs1 bs1 G.next →
      Calls Tryz.prog 70 #[.pointer (some ⟨hp, 0, none⟩), .int .u64 (plOf (G.add (Node.new 1 0 (1 + q))) hs1 bs1 G.next : Int), .int .i64 0, .int .u64 (n : Int)] w1 fun e w2 => e = .returned (.int .i64 0) ∧
        Hid (Calls Tryz.prog 216 #[.pointer (some ⟨hp, 0, none⟩), .int .u64 (plOf (G.add (Node.new 1 0 (1 + q))) hs1 bs1 G.next : Int), .int .i64 8, .slice A n c] w2 fun e w3 => e = .returned (.int .i64 0) ∧
          Hid (LayPost w own hp G b (.returned (.tuple #[.int .u64 (plOf (G.add (Node.new 1 0 (1 + q))) hs1 bs1 G.next : Int), .int .i64 0])) w3)) := fun w1 own1 hs1 bs1 hst hkeep hH hlv => by
    have hnode : (G.add (Node.new 1 0 (1 + q))).node G.next = Node.new 1 0 (1 + q) := Gr.add_same _ _
    have hn1 : (⟨1, [], (List.replicate (1 + q) 0).set 0 n⟩ : Node).Like (Node.new 1 0 (1 + q)) := ⟨rfl, by simp [Node.new], by simp [Node.new]⟩
    have hok1 : (⟨1, [], (List.replicate (1 + q) 0).set 0 n⟩ : Node).Ok := ⟨by simpa using hsh, fun x hx => by
      rcases List.mem_or_eq_of_mem_set hx with hx | rfl
      · rw [List.eq_of_mem_replicate hx]; decide
      · omega⟩
    have hS := hSet_walk hH hlv 0 n (by rw [hnode]; simp [Node.new]; omega) (by omega) ⟨1, [], (List.replicate (1 + q) 0).set 0 n⟩ (by rw [hnode]; exact hn1) hok1 (fun t ht => by simp at ht) (by rw [hnode]; simp [Node.new]) (fun h => by rw [hnode] at h; simp [Node.new] at h)
    refine hS.mono ?_
    rintro e w2 ⟨rfl, own2, hH2, hst2⟩
    refine ⟨rfl, ?_⟩
    rw [add_put] at hH2
    have hpl := add_congr (G := G) hn1 hs1 bs1
    have hnode2 : (G.add (⟨1, [], (List.replicate (1 + q) 0).set 0 n⟩ : Node)).node G.next = ⟨1, [], (List.replicate (1 + q) 0).set 0 n⟩ := Gr.add_same _ _
    have hB := hSetBytes_walk hH2 hlv 8 A b c hb ((hA.step hst).step hst2) (by rw [hnode2]; simp) (by rw [hnode2]; simp; omega)
    rw [hpl, hn] at hB
    show Calls _ _ _ _ _
    refine hB.mono ?_
    rintro e w3 ⟨rfl, own3, hH3, hst3⟩
    refine ⟨rfl, own3, hs1, bs1, (hst.trans hst2).trans hst3, hkeep, .inl ?_⟩
    rw [add_put, hnode2] at hH3
    have e : (Node.setRaw ⟨1, [], (List.replicate (1 + q) 0).set 0 n⟩ 8 b) = blobN b := by unfold Node.setRaw blobN; rw [hn, hq]
    rw [e] at hH3
    have hlk : (blobN b).Like (Node.new 1 0 (1 + q)) := by
      rw [← e]
      have h1 := Node.setRaw_like ⟨1, [], (List.replicate (1 + q) 0).set 0 n⟩ 8 b
      exact ⟨h1.kind.trans hn1.kind, h1.refs.trans hn1.refs, h1.raws.trans hn1.raws⟩
    exact ⟨by rw [add_congr hlk], hH3, hlv⟩
  have hfail : ∀ w1 own1 hs1 bs1, HStep w own w1 own1 → (∀ i, Reach G i → Live hs1 bs1 i) → HO w1 own1 hp G hs1 bs1 → ¬ G.room (1 + 0 + (1 + q)) → LayPost w own hp G b (.returned (.tuple #[.int .u64 0, .int .i64 31])) w1 := fun w1 own1 hs1 bs1 h1 h2 h3 h4 =>
    ⟨own1, hs1, bs1, h1, h2, .inr ⟨rfl, h3, by rw [hn, hq, show 2 + q = 1 + 0 + (1 + q) by omega]; exact h4⟩⟩
  have hpls : ∀ w1 own1 hs1 bs1, HO w1 own1 hp (G.add (Node.new 1 0 (1 + q))) hs1 bs1 → plOf (G.add (Node.new 1 0 (1 + q))) hs1 bs1 G.next < 18446744073709551616 := fun w1 own1 hs1 bs1 h => pl_lt h _
  have HRest := Lib.hid hrest; have HFail := Lib.hid hfail
  have ewn : IntKind.u64.wrap (n : Int) = (n : Int) := by rw [IntKind.wrap_u64]; omega
  rw [hn]
  obtain ⟨qq, hqq⟩ : ∃ qq, 1 + q = qq := ⟨_, rfl⟩
  rw [hqq] at m1 HAl HRest HFail
  clear hrest hfail H hA hb hsh hq hn hpls hqq
  go_enter Tryz.func184, Tryz.ntmps184
  go_wp2_with fail
  refine HWd.out.mono ?_
  rintro e w' ⟨rfl, rfl⟩
  go_wp2_with fail
  refine HAl.out.mono ?_
  rintro e w1 ⟨own1, hs1, bs1, h1, h2, ⟨rfl, h3, h4⟩ | ⟨rfl, h3, h4⟩⟩
  · have HR := Lib.hid (HRest.out w1 own1 hs1 bs1 h1 h2 h3 h4)
    clear h1 h2 h3 h4
    go_wp2_with fail
    refine HR.out.mono ?_
    rintro e w2 ⟨rfl, h⟩
    have HR2 := Lib.hid h.out
    clear h
    go_wp2_with fail
    refine HR2.out.mono ?_
    rintro e w3 ⟨rfl, h⟩
    have HR3 := Lib.hid h.out
    clear h
    go_wp2_with fail
    go_ret2
    exact HR3.out
  · have HQ := Lib.hid (HFail.out w1 own1 hs1 bs1 h1 h2 h3 h4)
    clear h1 h2 h3 h4
    go_wp2_with fail
    go_ret2
    exact HQ.out
end Go.Proofs.YtglglknhifjbaaaGreatDoor.Sp
namespace Go.Proofs.YtglglknhifjbaaaGreatDoor.Sp
open Go.RowKit Go.Proofs.YtglglknhifjbaaaGreatDoorW.PrintWords Go.Proofs.YtglglknhifjbaaaGreatDoorW.PrintLast Go.Proofs.YtglglknhifjbaaaGreatDoorW.PrintMore
set_option linter.unusedVariables false
set_option linter.unusedSimpArgs false
section
variable {w : World} {own : Own} {hp : Nat} {G : Gr} {hs : List Nat} {bs : List (Option Nat)} {i : Nat}
set_option maxHeartbeats 4000000 in
set_option maxRecDepth 100000 in
theorem hObject_walk (H : HO w own hp G hs bs) (h : Live hs bs i) :
    Calls Tryz.prog 152 #[.pointer (some ⟨hp, 0, none⟩), .int .u64 (plOf G hs bs i : Int)] w fun e w' => e = .returned (.tuple #[.int .i64 ((G.node i).kind : Int), .int .i64 ((G.node i).refs.length : Int), .int .i64 ((G.node i).raws.length : Int), .int .i64 0]) ∧ w = w' := by
  obtain ⟨M, x, hM, R⟩ := H
  obtain ⟨p, a, A, k, hh, hF⟩ := find_home hM R h
  have hsh := (R.ok i h).sh
  have hO := object_walk w own a p A.size A.objs hh.ar k hh.lt _ _ _ hsh (by rw [hh.obj]; rfl) (posOf A.objs k : Int) rfl
  obtain ⟨pi, hpi⟩ : ∃ pi, plOf G hs bs i = pi := ⟨_, rfl⟩
  obtain ⟨q, hq⟩ : ∃ q, posOf A.objs k = q := ⟨_, rfl⟩
  obtain ⟨k0, hk0⟩ : ∃ k0, (G.node i).kind = k0 := ⟨_, rfl⟩
  obtain ⟨r, hr⟩ : ∃ r, (G.node i).refs.length = r := ⟨_, rfl⟩
  obtain ⟨y, hy⟩ : ∃ y, (G.node i).raws.length = y := ⟨_, rfl⟩
  rw [hq] at hO hF
  rw [hk0, hr, hy] at hO
  rw [hpi] at hF
  rw [hpi, hk0, hr, hy]
  have HF := Lib.hid hF; have HO' := Lib.hid hO
  have nA : ∀ w : World, (nilAhead 441 89 (.pointer (some ⟨p, 0, none⟩)) "Object").run Tryz.prog w = .ok (some false) w := fun w => by kernel_rfl
  have mA : ∀ w : World, (method 441 89 (.pointer (some ⟨p, 0, none⟩)) "Object").run Tryz.prog w = .ok (122, .pointer (some ⟨p, 0, none⟩)) w := fun w => by kernel_rfl
  clear hF hO hM R hpi hq hk0 hr hy hh hsh h
  go_enter Tryz.func152, Tryz.ntmps152
  go_wp2_with fail
  refine HF.out.mono ?_
  rintro e w' ⟨rfl, rfl⟩
  go_wp2_with fail
  refine HO'.out.mono ?_
  rintro e w' ⟨rfl, rfl⟩
  go_wp2_with fail
  exact bodyPost_ret (results_tmp4 rfl _ _ _) rfl ⟨rfl, rfl⟩
set_option maxHeartbeats 4000000 in
set_option maxRecDepth 100000 in
theorem bLen_walk (H : HO w own hp G hs bs) (h : Live hs bs i) (b : List Int) (hb : BlobN (G.node i) b) :
    Calls Tryz.prog 150 #[.pointer (some ⟨hp, 0, none⟩), .int .u64 (plOf G hs bs i : Int)] w fun e w' => e = .returned (.tuple #[.int .i64 (b.length : Int), .int .i64 0]) ∧ w = w' := by
  have HOb := hObject_walk H h
  have HGt := hGet_walk H h 0 (by rw [hb.refs, hb.len]; simp; omega)
  have hat : (G.node i).at (plOf G hs bs) 0 = b.length := by
    unfold Node.at
    rw [hb.refs, List.getD_eq_getElem?_getD]
    show ((G.node i).raws[0]?).getD 0 = _
    rw [hb.first]; rfl
  have hmx := hb.max
  rw [hat] at HGt
  rw [hb.kind] at HOb
  obtain ⟨n, hn⟩ : ∃ n, b.length = n := ⟨_, rfl⟩
  obtain ⟨pi, hpi⟩ : ∃ pi, plOf G hs bs i = pi := ⟨_, rfl⟩
  obtain ⟨r, hr⟩ : ∃ r, (G.node i).refs.length = r := ⟨_, rfl⟩
  obtain ⟨y, hy⟩ : ∃ y, (G.node i).raws.length = y := ⟨_, rfl⟩
  rw [hr, hy, hpi] at HOb
  rw [hn, hpi] at HGt
  rw [hn] at hmx
  rw [hpi, hn]
  have ew : IntKind.i64.wrap (n : Int) = (n : Int) := Go.IntWalk.i64_in _ (by omega)
  replace HOb := Lib.hid HOb; replace HGt := Lib.hid HGt
  clear H h hb hat hn hpi hr hy
  go_enter Tryz.func150, Tryz.ntmps150
  go_wp2_with fail
  refine HOb.out.mono ?_
  rintro e w' ⟨rfl, rfl⟩
  go_wp2_with fail
  refine HGt.out.mono ?_
  rintro e w' ⟨rfl, rfl⟩
  go_wp2_with fail
  go_ret2
  exact ⟨rfl, rfl⟩
theorem getBs_blob {N : Node} {b : List Int} (hb : BlobN N b) (f n : Nat) (hfn : f + n ≤ b.length) : intsOf (getBs N.raws (8 + f) n) = (b.drop f).take n := by
  apply List.ext_getElem
  · simp [intsOf, getBs]; omega
  · intro j h1 h2
    have hj : j < n := by simpa [intsOf, getBs] using h1
    have h3 := hb.byte (f + j) (by omega)
    simp only [intsOf, getBs, List.getElem_map, List.getElem_range, List.getElem_take, List.getElem_drop]
    rw [← h3, show 8 + f + j = 8 + (f + j) by omega]
    rfl
set_option maxHeartbeats 4000000 in
set_option maxRecDepth 100000 in
theorem bSlice_walk (H : HO w own hp G hs bs) (h : Live hs bs i) (b : List Int) (hb : BlobN (G.node i) b) (f n : Nat) (hfn : f + n ≤ b.length) :
    Calls Tryz.prog 151 #[.pointer (some ⟨hp, 0, none⟩), .int .u64 (plOf G hs bs i : Int), .int .i64 (f : Int), .int .i64 (n : Int)] w (BytesPost w (getBs (G.node i).raws (8 + f) n)) := by
  have hmx := hb.max
  have HL := bLen_walk H h b hb
  have hw : b.length ≤ 8 * wordsN b.length := by unfold wordsN; omega
  have HB := hBytes_walk H h (8 + f) n (by rw [hb.len]; omega) (by rw [hb.len]; omega)
  obtain ⟨L, hL⟩ : ∃ L, getBs (G.node i).raws (8 + f) n = L := ⟨_, rfl⟩
  obtain ⟨m, hm⟩ : ∃ m, b.length = m := ⟨_, rfl⟩
  obtain ⟨pi, hpi⟩ : ∃ pi, plOf G hs bs i = pi := ⟨_, rfl⟩
  obtain ⟨ff, hff⟩ : ∃ ff, 8 + f = ff := ⟨_, rfl⟩
  rw [hL] at HB ⊢
  rw [hm] at HL hfn hmx
  rw [hpi] at HL HB ⊢
  rw [hff] at HB
  have m1 : IntKind.i64.wrap (8 + (f : Int)) = (ff : Int) := by rw [Go.IntWalk.i64_in _ (by omega)]; omega
  have m2 : IntKind.i64.wrap ((m : Int) - (f : Int)) = (m : Int) - (f : Int) := Go.IntWalk.i64_in _ (by omega)
  have d1 : decide ((m : Int) < (f : Int)) = false := decide_eq_false (by omega)
  have d1' : decide (m < f) = false := decide_eq_false (by omega)
  have d2 : decide ((m : Int) - (f : Int) < (n : Int)) = false := decide_eq_false (by omega)
  replace HL := Lib.hid HL; replace HB := Lib.hid HB
  clear H h hb hL hm hpi hff hw
  go_enter Tryz.func151, Tryz.ntmps151
  go_wp2_with fail
  refine HL.out.mono ?_
  rintro e w' ⟨rfl, rfl⟩
  go_wp2_with fail
  refine HB.out.mono ?_
  rintro e w' ⟨g, rfl, h1, h2, h3⟩
  have H1 := Lib.hid h1; have H2 := Lib.hid h2; have H3 := Lib.hid h3
  clear h1 h2 h3
  go_wp2_with fail
  go_ret2
  exact ⟨g, rfl, H1.out, H2.out, H3.out⟩
set_option maxHeartbeats 4000000 in
set_option maxRecDepth 100000 in
theorem bRead_walk (H : HO w own hp G hs bs) (h : Live hs bs i) (b : List Int) (hb : BlobN (G.node i) b) :
    Calls Tryz.prog 104 #[.pointer (some ⟨hp, 0, none⟩), .int .u64 (plOf G hs bs i : Int)] w (BytesPost w (getBs (G.node i).raws 8 b.length)) := by
  have HL := bLen_walk H h b hb
  have HB := bSlice_walk H h b hb 0 b.length (by omega)
  obtain ⟨L, hL⟩ : ∃ L, getBs (G.node i).raws 8 b.length = L := ⟨_, rfl⟩
  rw [Nat.add_zero, hL] at HB
  rw [hL]
  obtain ⟨m, hm⟩ : ∃ m, b.length = m := ⟨_, rfl⟩
  obtain ⟨pi, hpi⟩ : ∃ pi, plOf G hs bs i = pi := ⟨_, rfl⟩
  rw [hm] at HL HB
  rw [hpi] at HL HB ⊢
  replace HL := Lib.hid HL; replace HB := Lib.hid HB
  clear H h hb hL hm hpi
  go_enter Tryz.func104, Tryz.ntmps104
  go_wp2_with fail
  refine HL.out.mono ?_
  rintro e w' ⟨rfl, rfl⟩
  go_wp2_with fail
  refine HB.out.mono ?_
  rintro e w' ⟨g, rfl, h1, h2, h3⟩
  have H1 := Lib.hid h1; have H2 := Lib.hid h2; have H3 := Lib.hid h3
  clear h1 h2 h3
  go_wp2_with fail
  go_ret2
  exact ⟨g, rfl, H1.out, H2.out, H3.out⟩
end
end Go.Proofs.YtglglknhifjbaaaGreatDoor.Sp
namespace Go.Proofs.YtglglknhifjbaaaGreatDoor.Sp
set_option linter.unusedVariables false
set_option linter.unusedSimpArgs false
def W64 : Nat := 18446744073709551616
def mixN (x : Nat) : Nat :=
  let a := x ^^^ (x / 4294967296)
  let b := a * 15466983567672013453 % W64
  let c := b ^^^ (b / 536870912)
  let d := c * 12920666929402377605 % W64
  d ^^^ (d / 4294967296)
def packN : List Int → List Nat
  | [] => []
  | a :: b :: c :: d :: e :: f :: g :: h :: l => (a.toNat + 256 * (b.toNat + 256 * (c.toNat + 256 * (d.toNat + 256 * (e.toNat + 256 * (f.toNat + 256 * (g.toNat + 256 * h.toNat))))))) :: packN l
  | l => [l.foldr (fun x n => x.toNat + 256 * n) 0]
def hashN (seed : Nat) (b : List Int) : Nat := (packN b).foldl (fun h w => mixN (h ^^^ w)) (mixN ((seed + b.length) % W64))
end Go.Proofs.YtglglknhifjbaaaGreatDoor.Sp
namespace Go.Proofs.YtglglknhifjbaaaGreatDoor.Sp
open Go.RowKit Go.Proofs.YtglglknhifjbaaaGreatDoorW.PrintWords Go.Proofs.YtglglknhifjbaaaGreatDoorW.PrintLast Go.Proofs.YtglglknhifjbaaaGreatDoorW.PrintMore
set_option linter.unusedVariables false
set_option linter.unusedSimpArgs false
set_option maxHeartbeats 4000000 in
theorem mix_walk (w : World) (x : Nat) (hx : x < 18446744073709551616) :
    Calls Tryz.prog 202 #[.int .u64 (x : Int)] w fun e w' => e = .returned (.int .u64 (mixN x : Int)) ∧ w = w' := by
  have xs : ∀ (X s : Nat), X < 18446744073709551616 → X ^^^ X / s < 18446744073709551616 := fun X s h => by
    have h1 : X / s < 2 ^ 64 := Nat.lt_of_le_of_lt (Nat.div_le_self _ _) h
    exact Nat.xor_lt_two_pow (n := 64) h h1
  obtain ⟨x1, h1⟩ : ∃ x1, x ^^^ (x / 4294967296) = x1 := ⟨_, rfl⟩
  obtain ⟨x2, h2⟩ : ∃ x2, x1 * 15466983567672013453 % 18446744073709551616 = x2 := ⟨_, rfl⟩
  obtain ⟨x3, h3⟩ : ∃ x3, x2 ^^^ (x2 / 536870912) = x3 := ⟨_, rfl⟩
  obtain ⟨x4, h4⟩ : ∃ x4, x3 * 12920666929402377605 % 18446744073709551616 = x4 := ⟨_, rfl⟩
  obtain ⟨x5, h5⟩ : ∃ x5, x4 ^^^ (x4 / 4294967296) = x5 := ⟨_, rfl⟩
  have e1 : bits .xor .u64 (x : Int) ((x : Int) / 4294967296) = (x1 : Int) := by rw [← h1]; exact xorShift_u64 x 4294967296 hx
  have e2 : IntKind.u64.wrap ((x1 : Int) * 15466983567672013453) = (x2 : Int) := by rw [IntKind.wrap_u64]; omega
  have e3 : bits .xor .u64 (x2 : Int) ((x2 : Int) / 536870912) = (x3 : Int) := by rw [← h3]; exact xorShift_u64 x2 536870912 (by omega)
  have e4 : IntKind.u64.wrap ((x3 : Int) * 12920666929402377605) = (x4 : Int) := by rw [IntKind.wrap_u64]; omega
  have e5 : bits .xor .u64 (x4 : Int) ((x4 : Int) / 4294967296) = (x5 : Int) := by rw [← h5]; exact xorShift_u64 x4 4294967296 (by omega)
  have hm : mixN x = x5 := by
    rw [← h5, ← h4, ← h3, ← h2, ← h1]; rfl
  rw [hm]
  clear hm h1 h2 h3 h4 h5 xs
  go_enter Tryz.func202, Tryz.ntmps202
  go_wp2_with fail
  go_ret
  exact ⟨rfl, rfl⟩
theorem xor_lt64 {a b : Nat} (ha : a < 18446744073709551616) (hb : b < 18446744073709551616) : a ^^^ b < 18446744073709551616 := Nat.xor_lt_two_pow (n := 64) ha hb
theorem mixN_lt (x : Nat) : mixN x < 18446744073709551616 := by
  unfold mixN W64
  have h : ∀ y, y < 18446744073709551616 → y ^^^ y / 4294967296 < 18446744073709551616 := fun y hy => xor_lt64 hy (Nat.lt_of_le_of_lt (Nat.div_le_self _ _) hy)
  exact h _ (Nat.mod_lt _ (by decide))
theorem foldl_mix_lt (l : List Nat) (h : Nat) (hh : h < 18446744073709551616) : l.foldl (fun h w => mixN (h ^^^ w)) h < 18446744073709551616 := by
  induction l generalizing h with
  | nil => exact hh
  | cons a l ih => exact ih _ (mixN_lt _)
theorem hashN_lt (seed : Nat) (b : List Int) : hashN seed b < 18446744073709551616 := foldl_mix_lt _ _ (mixN_lt _)
end Go.Proofs.YtglglknhifjbaaaGreatDoor.Sp
