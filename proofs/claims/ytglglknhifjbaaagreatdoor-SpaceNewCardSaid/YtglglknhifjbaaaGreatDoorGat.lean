import Derived.Test.YtglglknhifjbaaaGreatDoorPut
import Derived.RangeFuncNested
import Derived.RangeFuncBound
import Derived.RangeFuncCalls
import Derived.RangeFuncLeaves
namespace Go.Proofs.YtglglknhifjbaaaGreatDoor.Sp
open Go.RowKit Go.Proofs.YtglglknhifjbaaaGreatDoorW.PrintWords Go.Proofs.YtglglknhifjbaaaGreatDoorW.PrintLast Go.Proofs.YtglglknhifjbaaaGreatDoorW.PrintMore
set_option linter.unusedVariables false
set_option linter.unusedSimpArgs false
def DelPost (w : World) (own : Own) (hp : Nat) (G : Gr) (t : Nat) (T : Tab) (rest : Plan) (key : List Int) (e : Ending) (w' : World) : Prop :=
  ∃ own' G' hs' bs' T', Wr w own hp G w' own' G' hs' bs' ∧ T'.Ok ∧ Sat G' (T'.plan t ++ rest) ∧
    ((e = .returned (.int .i64 63) ∧ T.find key = none ∧ T' = T.step) ∨
     (e = .returned (.int .i64 0) ∧ ∃ c1 x c2 T2, T.step.cur (hashN T.seed key) = c1 ++ x :: c2 ∧ x.key = key ∧ T2 = T.step.lay (hashN T.seed key) (c1 ++ c2) ∧
        ((T' = T2 ∧ (T2.oid = 0 → 4 < 2 ^ T2.nk → 4 * T2.ents.length < 2 ^ T2.nk → NoRoom G 0 (T2.plan t ++ rest) (1 + 2 ^ (T2.nk - 1)))) ∨
         (T2.oid = 0 ∧ 4 < 2 ^ T2.nk ∧ 4 * T2.ents.length < 2 ^ T2.nk ∧ ∃ id, T' = T2.beg id (T2.nk - 1)))))
section
variable {w w1 w2 W : World} {own own1 own2 : Own} {hp : Nat} {G G1 G2 : Gr} {hs hs1 hs2 : List Nat} {bs bs1 bs2 : List (Option Nat)} {i tp hd t len : Nat} {T : Tab} {rest : Plan}
end
end Go.Proofs.YtglglknhifjbaaaGreatDoor.Sp
namespace Go.Proofs.YtglglknhifjbaaaGreatDoor.Sp
open Go.RowKit Go.Proofs.YtglglknhifjbaaaGreatDoorW.PrintWords Go.Proofs.YtglglknhifjbaaaGreatDoorW.PrintLast Go.Proofs.YtglglknhifjbaaaGreatDoorW.PrintMore
set_option linter.unusedVariables false
set_option linter.unusedSimpArgs false
def AbM {α : Type} (J : List α → (Nat → Prop) → World → Prop) : Prop := ∀ s X A B, J s X A → Fr X A B → J s (fun b => X b ∨ (A.heap.size ≤ b ∧ b < B.heap.size)) B
abbrev Rnd (n₀ : Nat) (X : Nat → Prop) (A B : World) : Prop := Fr (fun b => ¬ X b ∧ n₀ ≤ b) A B
def SeqM {α : Type} (F : Fence) (n : Nat) (P : Program) (g : Nat) (lb : Array Value) (encs : α → Array Value) (n₀ : Nat) (V : List α → (Nat → Prop) → α → World → Prop) (S Sp : List α → (Nat → Prop) → World → Prop) (X₀ : Nat → Prop) (W : World) : Prop :=
  ∀ (l : Nat) (J Jx : List α → (Nat → Prop) → World → Prop), AbM J → AbM Jx →
    (∀ pre X x W1, J pre X W1 → V pre X x W1 → YieldAt F (n - 1) P l (encs x) W1 fun e W' =>
      (e = .returned (.bool true) ∧ J (pre ++ [x]) X W' ∧ Rnd n₀ X W1 W') ∨ (e = .returned (.bool false) ∧ Jx (pre ++ [x]) X W' ∧ Rnd n₀ X W1 W')) →
    J [] X₀ W →
    CallsIn F n P g (#[.func (.yield l) #[] #[]] ++ lb) W fun e W' => (∃ v, e = .returned v) ∧ ((∃ xs X, S xs X W' ∧ J xs X W') ∨ (∃ pre X, Sp pre X W' ∧ Jx pre X W'))
def ownPostM {α : Type} (n₀ : Nat) (I : List α → (Nat → Prop) → World → Prop) (Ix : Code → List α → (Nat → Prop) → World → Prop) (xs : List α) (X : Nat → Prop) (W : World) : Exit → Act → World → Prop
  | .normal, _, W' => KeepsOthers W W' ∧ Rnd n₀ X W W' ∧ I xs X W'
  | .ret, _, W' => KeepsOthers W W' ∧ Rnd n₀ X W W' ∧ Ix .ret xs X W'
  | .exit id, _, W' => KeepsOthers W W' ∧ Rnd n₀ X W W' ∧ Ix (.exit id) xs X W'
  | .goto t, _, W' => KeepsOthers W W' ∧ Rnd n₀ X W W' ∧ Ix (.goto t) xs X W'
  | .panic _, _, _ => False
  | .outgrown, _, _ => False
def PutM {α : Type} (B : Nat) (I : List α → (Nat → Prop) → World → Prop) : Prop := ∀ s X W l o o', I s X W → B ≤ l → W.heap[l]? = some o → o.isCells = false → I s X (W.putObj l o')
theorem putObj_fr (W : World) (l : Nat) (o : Obj) : Fr (fun b => b = l) W (W.putObj l o) := ⟨rfl, rfl, rfl, by simp, fun i hi hn => World.putObj_heap_other hn⟩
variable {F : Fence} {n : Nat} {P : Program}
theorem wpIn_rangeFunc_mine {α : Type} {g : Operand} {ps : Array Tmp} {assign body : Code} {Q : Exit → Act → World → Prop} {a : Act} {w : World}
    (hro : F.round = none) (h1 : 1 ≤ n) {gf : Nat} {lb : Array Value} (hg : a.eval g = .func (.func gf) #[] lb) (hFg : F.fn gf) (eg : ∀ args w, (callFunc gf args).run P w = .ok (.enter gf args) w)
    {encs : α → Array Value} {n₀ : Nat} {V : List α → (Nat → Prop) → α → World → Prop} {S Sp : List α → (Nat → Prop) → World → Prop} (hn₀ : n₀ ≤ w.heap.size) {X₀ : Nat → Prop} (hX₀ : ∀ b, X₀ b → b < w.heap.size) (hseq : ∀ o1 o2, SeqM F (n - 1) P gf lb encs n₀ V S Sp X₀ ((w.alloc o1).alloc o2))
    (hSp : ∀ xs X W l o, S xs X W → ¬ X l → S xs X (W.putObj l o)) (hSpp : ∀ xs X W l o, Sp xs X W → ¬ X l → Sp xs X (W.putObj l o)) (hps : ∀ x, (encs x).size = ps.size)
    (I : List α → (Nat → Prop) → World → Prop) (Ix : Code → List α → (Nat → Prop) → World → Prop) (hI : AbM I) (hIx : ∀ c, AbM (Ix c)) (hIp : PutM w.heap.size I) (hIxp : ∀ c, PutM w.heap.size (Ix c)) (h0 : ∀ o1 o2, I [] X₀ ((w.alloc o1).alloc o2))
    (hround : ∀ (l : Nat) (pre : List α) (X : Nat → Prop) (x : α) (W : World), I pre X W → V pre X x W → w.heap.size ≤ l → ¬ X l → (∃ o : Obj, W.heap[l]? = some o ∧ o.isCells = false) →
      assign.wpIn (F.inRound l) (n - 1 - 1) P (Exit.then (fun a' Wa => KeepsOthers W Wa ∧ Rnd n₀ X W Wa ∧ ∀ o : Obj, o.isCells = false → body.wpIn (F.inRound l) (n - 1 - 1) P (ownPostM n₀ I Ix (pre ++ [x]) X (Wa.putObj l o)) a' (Wa.putObj l o)) (fun _ _ _ => False)) { tmps := (ps.zip (encs x)).foldl (fun t (p, v) => t.setIfInBounds p v) a.tmps, defers := [] } W)
    (hdone : ∀ (D : Nat) (xs : List α) (X : Nat → Prop) (W : World), w.heap.size ≤ D → ¬ X D → S xs X W → I xs X W → W.heap[D]? = some (.deferred (some [])) → Q .normal { a with defers := { target := .collected D, args := #[] } :: a.defers } W)
    (hstop : ∀ (D : Nat) (c : Code) (pre : List α) (X : Nat → Prop) (W : World), w.heap.size ≤ D → ¬ X D → Sp pre X W → Ix c pre X W → W.heap[D]? = some (.deferred (some [])) → c.wpIn F n P Q { a with defers := { target := .collected D, args := #[] } :: a.defers } W) :
    (Code.rangeFunc g ps assign body).wpIn F n P Q a w := by
  refine wpIn_rangeFunc ?_
  intro fn hfn
  rw [hro]
  obtain ⟨rec, hrec⟩ : ∃ rec : LoopState → Option Code → Loop, rec = fun st pe => { state := st, pending := pe, fn, tmps := a.tmps, params := ps, assign, body, defers := w.heap.size } := ⟨_, rfl⟩
  obtain ⟨W1, hW1⟩ : ∃ W1, (w.alloc (.deferred (some []))).alloc (.loop (rec .ready none)) = W1 := ⟨_, rfl⟩
  have hL1 : W1.heap[w.heap.size + 1]? = some (.loop (rec .ready none)) := by
    rw [← hW1]; have := World.alloc_heap_new (w.alloc (.deferred (some []))) (.loop (rec .ready none)); rwa [World.size_alloc] at this
  have hK1 : W1.heap[w.heap.size]? = some (.deferred (some [])) := by
    rw [← hW1]; exact (Below.heap_alloc _ _ _ (by simp)).trans (World.alloc_heap_new w _)
  have hI1 : I [] X₀ W1 := by rw [← hW1]; exact h0 _ _
  refine ⟨w.heap.size + 1, [{ target := .collected w.heap.size, args := #[] }], W1, { target := .fn (.func gf) lb, args := #[.func (.yield (w.heap.size + 1)) #[] #[]] }, W1, gf,
    #[.func (.yield (w.heap.size + 1)) #[] #[]] ++ lb, W1, ?_, ?_, ?_, ?_, fun _ => h1, ?_⟩
  · rw [← hW1, hrec]; exact run_enterLoop_outer _ _ _ _ _
  · simp only [resolve, hg]
    simp [go_sem]
  · intro f' hf'; simp [Target.leads] at hf'; subst hf'; exact hFg
  · simp [invoke, go_sem, eg]
  · have hab : ∀ (r : Obj) (K : List α → (Nat → Prop) → World → Prop), AbM K → AbM (fun pre X W => K pre X W ∧ (¬ X (w.heap.size + 1) ∧ ¬ X w.heap.size) ∧ W.heap[w.heap.size + 1]? = some r ∧ W.heap[w.heap.size]? = some (.deferred (some []))) := fun r K hK s X A B hs hf => by
      have l1 := blk_lt hs.2.2.1
      have l2 := blk_lt hs.2.2.2
      refine ⟨hK s X A B hs.1 hf, ⟨fun h => ?_, fun h => ?_⟩, (hf.block _ l1 hs.2.1.1).trans hs.2.2.1, (hf.block _ l2 hs.2.1.2).trans hs.2.2.2⟩
      · rcases h with h | h
        · exact hs.2.1.1 h
        · omega
      · rcases h with h | h
        · exact hs.2.1.2 h
        · omega
    refine ((by rw [← hW1]; exact hseq _ _ : SeqM F (n - 1) P gf lb encs n₀ V S Sp X₀ W1) (w.heap.size + 1)
      (fun pre X W => I pre X W ∧ (¬ X (w.heap.size + 1) ∧ ¬ X w.heap.size) ∧ W.heap[w.heap.size + 1]? = some (.loop (rec .ready none)) ∧ W.heap[w.heap.size]? = some (.deferred (some [])))
      (fun pre X W => ∃ c, Ix c pre X W ∧ (¬ X (w.heap.size + 1) ∧ ¬ X w.heap.size) ∧ W.heap[w.heap.size + 1]? = some (.loop (rec .done (some c))) ∧ W.heap[w.heap.size]? = some (.deferred (some [])))
      (hab _ I hI)
      (fun s X A B hs hf => by
        obtain ⟨c, hc⟩ := hs
        exact ⟨c, hab _ (Ix c) (hIx c) s X A B hc hf⟩)
      ?_ ⟨hI1, ⟨fun h => (by have := hX₀ _ h; omega), fun h => (by have := hX₀ _ h; omega)⟩, hL1, hK1⟩).mono ?_
    · -- one round
      rintro pre X x W ⟨hi, ⟨hxl, hxd⟩, hl, hk⟩ hv
      have hlt : w.heap.size + 1 < W.heap.size := blk_lt hl
      have hy := run_yield (P := P) (args := encs x) hl (by rw [hrec]; exact hps x)
      rw [hrec] at hy
      have hput : ∀ (A : World) (o : Obj), Rnd n₀ X A (A.putObj (w.heap.size + 1) o) := fun A o => (putObj_fr A _ o).mono (fun b _ hb => by subst hb; exact ⟨hxl, by omega⟩)
      have htr : ∀ {A B C : World}, Rnd n₀ X A B → Rnd n₀ X B C → Rnd n₀ X A C := fun h k => h.trans k (fun _ _ h => h)
      refine ⟨fn, _, assign, body, hy, roundIn_of_wpIn hfn (wpIn_mono (hround (w.heap.size + 1) pre X x W hi hv (by omega) hxl ⟨_, hl, rfl⟩) ?_)⟩
      rintro e0 a0 Wa hp0
      cases e0 with
      | normal =>
        obtain ⟨hka, hra, hb⟩ := hp0
        have hla : Wa.heap[w.heap.size + 1]? = some (.loop (rec .ready none)) := hka.same _ _ hl rfl
        have hda : Wa.heap[w.heap.size]? = some (.deferred (some [])) := hka.same _ _ hk rfl
        have hlta : w.heap.size + 1 < Wa.heap.size := blk_lt hla
        have hl2 : (Wa.putObj (w.heap.size + 1) (.loop { rec .ready none with state := .busy })).heap[w.heap.size + 1]? = some (.loop { rec .ready none with state := .busy }) := World.putObj_heap_same hlta
        have hk2 : (Wa.putObj (w.heap.size + 1) (.loop { rec .ready none with state := .busy })).heap[w.heap.size]? = some (.deferred (some [])) := (World.putObj_heap_other (by omega)).trans hda
        have fin : ∀ (jump : Option Code) (W3 : World), KeepsOthers (Wa.putObj (w.heap.size + 1) (.loop { rec .ready none with state := .busy })) W3 →
            (Instr.endRound (w.heap.size + 1) jump).run P W3 = .ok (.bool jump.isNone) (W3.putObj (w.heap.size + 1) (.loop (rec (if jump.isNone then .ready else .done) jump))) ∧
            W3.heap[w.heap.size + 1]? = some (.loop { rec .ready none with state := .busy }) ∧
            (W3.putObj (w.heap.size + 1) (.loop (rec (if jump.isNone then .ready else .done) jump))).heap[w.heap.size + 1]? = some (.loop (rec (if jump.isNone then .ready else .done) jump)) ∧
            (W3.putObj (w.heap.size + 1) (.loop (rec (if jump.isNone then .ready else .done) jump))).heap[w.heap.size]? = some (.deferred (some [])) := fun jump W3 hk3 => by
          have hl3 := hk3.same _ _ hl2 rfl
          have := run_endRound (P := P) jump hl3
          rw [hrec] at this ⊢
          exact ⟨this, by rw [hrec] at hl3; exact hl3, World.putObj_heap_same (blk_lt hl3), (World.putObj_heap_other (by omega)).trans (hk3.same _ _ hk2 rfl)⟩
        refine ⟨_, run_beginRound hla (by rw [hrec]), wpIn_mono (hb _ rfl) ?_⟩
        rintro e a3 W3 hp
        cases e with
        | normal =>
          obtain ⟨hk3, hkp3, hi3⟩ := hp
          obtain ⟨hr, hl3, hl4, hk4⟩ := fin none W3 hk3
          exact ⟨_, _, hr, .inl ⟨rfl, ⟨hIp _ _ _ _ _ _ hi3 (by omega) hl3 rfl, ⟨hxl, hxd⟩, hl4, hk4⟩, htr (htr (htr hra (hput _ _)) hkp3) (hput _ _)⟩⟩
        | ret =>
          obtain ⟨hk3, hkp3, hi3⟩ := hp
          obtain ⟨hr, hl3, hl4, hk4⟩ := fin (some .ret) W3 hk3
          exact ⟨_, _, hr, .inr ⟨rfl, ⟨.ret, hIxp _ _ _ _ _ _ _ hi3 (by omega) hl3 rfl, ⟨hxl, hxd⟩, hl4, hk4⟩, htr (htr (htr hra (hput _ _)) hkp3) (hput _ _)⟩⟩
        | exit id =>
          obtain ⟨hk3, hkp3, hi3⟩ := hp
          obtain ⟨hr, hl3, hl4, hk4⟩ := fin (some (.exit id)) W3 hk3
          exact ⟨_, _, hr, .inr ⟨rfl, ⟨.exit id, hIxp _ _ _ _ _ _ _ hi3 (by omega) hl3 rfl, ⟨hxl, hxd⟩, hl4, hk4⟩, htr (htr (htr hra (hput _ _)) hkp3) (hput _ _)⟩⟩
        | goto t =>
          obtain ⟨hk3, hkp3, hi3⟩ := hp
          obtain ⟨hr, hl3, hl4, hk4⟩ := fin (some (.goto t)) W3 hk3
          exact ⟨_, _, hr, .inr ⟨rfl, ⟨.goto t, hIxp _ _ _ _ _ _ _ hi3 (by omega) hl3 rfl, ⟨hxl, hxd⟩, hl4, hk4⟩, htr (htr (htr hra (hput _ _)) hkp3) (hput _ _)⟩⟩
        | panic ch => exact hp.elim
        | outgrown => exact hp.elim
      | ret => exact hp0.elim
      | exit id => exact hp0.elim
      | goto t => exact hp0.elim
      | panic ch => exact hp0.elim
      | outgrown => exact hp0.elim
    · rintro e W2 ⟨⟨v, rfl⟩, (⟨xs, X, hS, hi, hx, hl, hk⟩ | ⟨pre, X, hSp', c, hi, hx, hl, hk⟩)⟩
      · exact ⟨none, _, by have := run_endLoop (P := P) hl (by rw [hrec]; simp); rw [hrec] at this; exact this, hdone _ xs X _ (Nat.le_refl _) hx.2 (hSp _ _ _ _ _ hS hx.1) (hIp _ _ _ _ _ _ hi (by omega) hl rfl) ((World.putObj_heap_other (by omega)).trans hk)⟩
      · exact ⟨some c, _, by have := run_endLoop (P := P) hl (by rw [hrec]; simp); rw [hrec] at this; exact this, hstop _ c pre X _ (Nat.le_refl _) hx.2 (hSpp _ _ _ _ _ hSp' hx.1) (hIxp c _ _ _ _ _ _ hi (by omega) hl rfl) ((World.putObj_heap_other (by omega)).trans hk)⟩
end Go.Proofs.YtglglknhifjbaaaGreatDoor.Sp
namespace Go.Proofs.YtglglknhifjbaaaGreatDoor.Sp
open Go.RowKit Go.Proofs.YtglglknhifjbaaaGreatDoorW.PrintWords Go.Proofs.YtglglknhifjbaaaGreatDoorW.PrintLast Go.Proofs.YtglglknhifjbaaaGreatDoorW.PrintMore
set_option linter.unusedVariables false
set_option linter.unusedSimpArgs false
structure NK where
  h : Nat
  k : List Int
  g : Nat
deriving Inhabited
def nkV (x : NK) : List Value := [.int .u64 (x.h : Int), .slice (some ⟨x.g, 0, none⟩) x.k.length x.k.length]
def KeyAt (w : World) (x : NK) : Prop := w.heap[x.g]? = some (.cells (u8s x.k).toArray 5 (0, 0))
structure NRow (w : World) (v : Value) (N : Nat) (L : List NK) : Prop where
  row : w.ownsRow 0 215 2 v L.length (L.flatMap nkV)
  lo : ∀ b, v.ownBlock = some b → N ≤ b
  keys : ∀ x ∈ L, KeyAt w x ∧ N ≤ x.g ∧ IsB x.k ∧ v.ownBlock ≠ some x.g
theorem NRow.fr {w w' : World} {v : Value} {N : Nat} {L : List NK} {P : Nat → Prop} (h : NRow w v N L) (hf : Fr P w w') (hP : ∀ b, v.ownBlock = some b → ¬ P b) (hk : ∀ x ∈ L, ¬ P x.g) : NRow w' v N L :=
  ⟨own_move h.row (fun k hk => by
    obtain ⟨cells, hc⟩ := own_typed h.row k hk
    exact hf.block k (blk_lt hc) (hP k hk)), h.lo, fun x hx => by
    obtain ⟨h1, h2⟩ := h.keys x hx
    exact ⟨(hf.block _ (blk_lt h1) (hk x hx)).trans h1, h2⟩⟩
theorem NRow.below {w w' : World} {v : Value} {N : Nat} {L : List NK} (h : NRow w v N L) (hb : Below w.heap.size w w') : NRow w' v N L := h.fr (Fr.below (P := fun _ => False) hb) (fun _ _ => id) (fun _ _ => id)
theorem nk_one (x : NK) : ∀ u ∈ nkV x, u.oneCell' = true := fun u hu => by
  rcases List.mem_cons.1 hu with rfl | hu
  · rfl
  · rw [List.mem_singleton] at hu; subst hu; rfl
theorem NRow.push {w w' : World} {v : Value} {N n g cap : Nat} {L : List NK} {x : NK} (h : NRow w v N L) (hn : L.length = n) (hr : w'.ownsRow 0 215 2 (.slice (some ⟨g, 0, none⟩) (n + 1) cap) (n + 1) (L.flatMap nkV ++ nkV x)) (hg : w.grownBy w' v.ownBlock) (hat : v.ownBlock = some g ∨ w.heap.size ≤ g)
    (hN : N ≤ w.heap.size) (hx : KeyAt w x) (hxN : N ≤ x.g) (hxb : IsB x.k) (hxv : v.ownBlock ≠ some x.g) : NRow w' (.slice (some ⟨g, 0, none⟩) (n + 1) cap) N (L ++ [x]) := by
  have hkey : ∀ y, KeyAt w y → v.ownBlock ≠ some y.g → KeyAt w' y ∧ (some g : Option Nat) ≠ some y.g := fun y hy hv => by
    refine ⟨(hg.block y.g (blk_lt hy) (fun e => hv e.symm)).trans hy, fun e => ?_⟩
    injection e with e
    rcases hat with h1 | h1
    · rw [h1, e] at hv; exact hv rfl
    · have := blk_lt hy; omega
  refine ⟨?_, fun b hb => ?_, fun y hy => ?_⟩
  · rw [List.length_append, List.length_singleton, hn, List.flatMap_append, List.flatMap_singleton]; exact hr
  · have : g = b := by simpa [Value.ownBlock] using hb
    subst this
    rcases hat with h1 | h1
    · exact h.lo _ h1
    · omega
  · rcases List.mem_append.1 hy with hy | hy
    · obtain ⟨q1, q2, q3, q4⟩ := h.keys y hy
      obtain ⟨r1, r2⟩ := hkey y q1 q4
      exact ⟨r1, q2, q3, r2⟩
    · rw [List.mem_singleton] at hy
      subst hy
      obtain ⟨r1, r2⟩ := hkey y hx hxv
      exact ⟨r1, hxN, hxb, r2⟩
def hkOf (x : NK) : Nat × List Int := (x.h, x.k)
def GatPost (w : World) (v : Value) (N : Nat) (L : List NK) (s : Nat) (c : List Ent) (e : Ending) (w' : World) : Prop :=
  ∃ A n cap L', e = .returned (.slice A n cap) ∧ NRow w' (.slice A n cap) N (L ++ L') ∧ L'.map hkOf = c.map (fun e => (e.hash s, e.key)) ∧ Fr (fun b => v.ownBlock = some b) w w' ∧ ((Value.slice A n cap).ownBlock = v.ownBlock ∨ ∃ b, (Value.slice A n cap).ownBlock = some b ∧ w.heap.size ≤ b) ∧ ∀ x ∈ L', w.heap.size ≤ x.g
theorem infoNamed : (Tryz.prog.info? 215).map (fun i => (i.zero, i.size, i.bytes)) = some (some (.agg #[.int .u64 0, .slice none 0 0]), 2, 32) := by kernel_rfl
section
variable {w : World} {own : Own} {hp : Nat} {G : Gr} {hs : List Nat} {bs : List (Option Nat)} {tp hd t : Nat}
set_option maxHeartbeats 1000000 in
set_option maxRecDepth 100000 in
theorem gather_walk (H : HO w own hp G hs bs) (ht : TAt w own hp tp hd) (s : Nat) (c : List Ent) (aid i : Nat) (refs : List Nat) (hal : Live hs bs aid) (han : G.node aid = arrN refs) (hi : refs[i]? = some (headId c))
    (hch : ∀ c1 e c2, c = c1 ++ e :: c2 → Live hs bs e.id ∧ Live hs bs e.kid ∧ G.node e.id = entN s e (headId c2) ∧ BlobN (G.node e.kid) e.key) (hsl : ∀ e : Ent, e.hash s < 18446744073709551616)
    (A : Option Addr) (n cap N : Nat) (L : List NK) (hN : N ≤ w.heap.size) (hown : ∀ b, N ≤ b → own b = 0) (hnrow : NRow w (.slice A n cap) N L) (hbd : L.length + c.length ≤ 1073741824) :
    Calls Tryz.prog 195 #[.pointer (some ⟨tp, 0, none⟩), .slice A n cap, .int .u64 (plOf G hs bs aid : Int), .int .i64 (i : Int)] w (GatPost w (.slice A n cap) N L s c) := by
  have hil : i < refs.length := (List.getElem?_eq_some_iff.1 hi).1
  have hz : plOf G hs bs 0 = 0 := pl_zero H.lay
  have HG0 := tget_walk H ht hal i (by rw [han]; show i < refs.length + 0; omega)
  have e0 : (G.node aid).at (plOf G hs bs) i = plOf G hs bs (headId c) := by
    rw [han, arr_at, List.getD_eq_getElem?_getD, List.getElem?_map, hi]; rfl
  rw [e0] at HG0
  have hfr : ∀ W, Fr (fun b => (Value.slice A n cap).ownBlock = some b) w W → HO W own hp G hs bs ∧ TAt W own hp tp hd := fun W hf => by
    have hz0 : ∀ b, (Value.slice A n cap).ownBlock = some b → own b = 0 := fun b hb => hown b (hnrow.lo b hb)
    refine ⟨H.fr hf hz0, ⟨(hf.block tp (blk_lt ht.cell) (fun hb => ?_)).trans ht.cell, ht.own0, ht.hl⟩⟩
    obtain ⟨cells, hc⟩ := own_typed hnrow.row tp hb
    rw [ht.cell] at hc
    injection hc with hc
    injection hc with _ hc _
    exact absurd hc (by decide)
  have HEnt : ∀ c1 e c2, c = c1 ++ e :: c2 → plOf G hs bs e.id ≠ 0 ∧ ∀ W, Fr (fun b => (Value.slice A n cap).ownBlock = some b) w W →
      W.cell? ⟨tp, 0, none⟩ = some (.pointer (some ⟨hp, 0, none⟩)) ∧
      Hid (∀ W', Dw W W' → Calls Tryz.prog 149 #[.pointer (some ⟨tp, 0, none⟩), .int .u64 (plOf G hs bs e.id : Int), .int .i64 0] W' fun q w' => q = .returned (.int .u64 (plOf G hs bs (headId c2) : Int)) ∧ W' = w') ∧
      Hid (∀ W', Dw W W' → Calls Tryz.prog 149 #[.pointer (some ⟨tp, 0, none⟩), .int .u64 (plOf G hs bs e.id : Int), .int .i64 1] W' fun q w' => q = .returned (.int .u64 (plOf G hs bs e.kid : Int)) ∧ W' = w') ∧
      Hid (∀ W', Dw W W' → Calls Tryz.prog 149 #[.pointer (some ⟨tp, 0, none⟩), .int .u64 (plOf G hs bs e.id : Int), .int .i64 3] W' fun q w' => q = .returned (.int .u64 (e.hash s : Int)) ∧ W' = w') ∧
      Hid (∀ W', Dw W W' → Calls Tryz.prog 104 #[.pointer (some ⟨hp, 0, none⟩), .int .u64 (plOf G hs bs e.kid : Int)] W' (BReadPost W' e.key)) ∧ IsB e.key := fun c1 e c2 hc => by
    obtain ⟨l1, l2, n1, n2⟩ := hch c1 e c2 hc
    refine ⟨H.lay.ne0 _ l1, fun W hf => ?_⟩
    obtain ⟨HW, htW⟩ := hfr W hf
    have g := fun j (hj : j < 6) W' (k : Dw W W') => tget_walk (HW.dw k) (htW.dw k) l1 j (by rw [n1]; exact hj)
    have g0 := g 0 (by decide)
    have g1 := g 1 (by decide)
    have g3 := g 3 (by decide)
    rw [n1] at g0 g1 g3
    exact ⟨htW.c0, Lib.hid g0, Lib.hid g1, Lib.hid g3, Lib.hid fun W' k => bReadI_walk (HW.dw k) l2 e.key n2, blob_isB n2⟩
  obtain ⟨pa, hpa⟩ : ∃ pa, plOf G hs bs aid = pa := ⟨_, rfl⟩
  rw [hpa] at HG0 ⊢
  replace HG0 := Lib.hid HG0; replace HEnt := Lib.hid HEnt; replace hz := Lib.hid hz; replace hnrow := Lib.hid hnrow; replace hsl := Lib.hid hsl
  obtain ⟨v0, hv0⟩ : ∃ v0, Value.slice A n cap = v0 := ⟨_, rfl⟩
  have HV0 := Lib.hid hv0
  clear H ht hal han hi hch hil e0 hfr hpa hown hv0
  go_enter Tryz.func195, Tryz.ntmps195
  go_wp2_with fail
  refine HG0.out.mono ?_
  rintro e w' ⟨rfl, rfl⟩
  go_wp2_with fail
  go_loopg [9, 1] c.length (fun gq v9 v1 wr => ∃ (c1 c2 : List Ent) (A' : Option Addr) (n' cap' : Nat) (L' : List NK), v9 = .int .u64 (plOf G hs bs (headId c2) : Int) ∧ v1 = .slice A' n' cap' ∧ Hid (c = c1 ++ c2 ∧ NRow wr (.slice A' n' cap') N (L ++ L') ∧ L'.map hkOf = c1.map (fun e => (e.hash s, e.key)) ∧ Fr (fun b => (Value.slice A n cap).ownBlock = some b) w wr ∧ ((Value.slice A' n' cap').ownBlock = (Value.slice A n cap).ownBlock ∨ ∃ b, (Value.slice A' n' cap').ownBlock = some b ∧ w.heap.size ≤ b) ∧ c2.length = gq ∧ ∀ x ∈ L', w.heap.size ≤ x.g))
  case atStart => exact ⟨[], c, A, n, cap, [], rfl, rfl, Lib.hid ⟨rfl, by rw [List.append_nil]; exact hnrow.out, rfl, Fr.refl _ _, .inl rfl, rfl, fun x hx => by cases hx⟩⟩
  case round =>
    obtain ⟨c1, c2, A', n', cap', L', rfl, rfl, HS⟩ := hrel
    cases c2 with
    | nil =>
      have hz0 : plOf G hs bs (headId ([] : List Ent)) = 0 := hz.out
      rw [hz0]
      clear hz0
      go_wp2_with fail
      go_ret
      obtain ⟨q1, q2, q3, q4, q5, q6, q7⟩ := HS.out
      rw [List.append_nil] at q1
      exact ⟨A', n', cap', L', rfl, q2, by rw [q1]; exact q3, q4, q5, q7⟩
    | cons e c2 =>
      obtain ⟨p0, hW⟩ := HEnt.out c1 e c2 HS.out.1
      obtain ⟨k0, -, g1, -, gr, hib⟩ := hW wr HS.out.2.2.2.1
      replace hW := Lib.hid hW
      have hd0 : headId (e :: c2) = e.id := rfl
      rw [hd0]
      obtain ⟨pe, hpe⟩ : ∃ pe, plOf G hs bs e.id = pe := ⟨_, rfl⟩
      obtain ⟨pk, hpk⟩ : ∃ pk, plOf G hs bs e.kid = pk := ⟨_, rfl⟩
      obtain ⟨kl, hkl⟩ : ∃ kl, e.key.length = kl := ⟨_, rfl⟩
      rw [hpe] at p0 g1 hW
      rw [hpk] at g1 gr
      rw [hpe]
      have c0 : ((pe : Int) == 0) = false := by rw [beq_eq_false_iff_ne]; omega
      have HRd : Hid (∀ W', Dw wr W' → Calls Tryz.prog 104 #[.pointer (some ⟨hp, 0, none⟩), .int .u64 (pk : Int)] W' fun q w2 => ∃ g, q = .returned (.tuple #[.slice (some ⟨g, 0, none⟩) kl kl, .int .i64 0]) ∧ w2.cell? ⟨tp, 0, none⟩ = some (.pointer (some ⟨hp, 0, none⟩)) ∧ Hid (wr.heap.size ≤ g ∧ w2.heap[g]? = some (.cells (u8s e.key).toArray 5 (0, 0)) ∧ Below wr.heap.size wr w2)) := Lib.hid fun W' k => by
        refine (gr.out W' k).mono ?_
        rintro q w2 ⟨g, rfl, h1, h2, h3⟩
        obtain ⟨m, rfl⟩ := k
        have hb : Below wr.heap.size wr w2 := (below_drewN m).trans h3
        exact ⟨g, by rw [hkl], by rw [hb.cell (by have := k0; unfold World.cell? at this; cases hq : wr.heap[tp]? with | none => rw [hq] at this; simp at this | some o => exact blk_lt hq)]; exact k0, Lib.hid ⟨h1, h2, hb⟩⟩
      have HCell : Hid (∀ W', Dw wr W' → W'.cell? ⟨tp, 0, none⟩ = some (.pointer (some ⟨hp, 0, none⟩))) := Lib.hid fun W' k => by obtain ⟨m, rfl⟩ := k; exact k0
      have HE := Lib.hid (And.intro hib hkl)
      clear gr hib hkl hpe hpk p0 hd0
      go_wp2_with fail
      go_region_held3 (fun W => W.cell? ⟨tp, 0, none⟩ = some (.pointer (some ⟨hp, 0, none⟩))) (first | assumption | exact HCell.out _ ((Dw.refl _).drew)) (first | (go_at_call 149; refine Calls.mono (g1.out _ ?_) ?_; (exact (Dw.refl _).drew); rintro q w2 ⟨rfl, rfl⟩) | (go_at_call 104; refine Calls.mono (HRd.out _ ?_) ?_; (exact (Dw.refl _).drew); rintro q w2 ⟨g, rfl, k2, H2⟩))
      all_goals (try (go_wp2_with fail))
      have hfr2 : Fr (fun b => (Value.slice A n cap).ownBlock = some b) w w2 := HS.out.2.2.2.1.trans (Fr.below (P := fun _ => False) H2.out.2.2) (fun _ _ h => h.elim)
      obtain ⟨-, -, -, g3, -, -⟩ := hW.out w2 hfr2
      have hxl := hsl.out e
      obtain ⟨hx, hhx⟩ : ∃ hx, e.hash s = hx := ⟨_, rfl⟩
      rw [hhx] at g3 hxl
      have hrow2 := HS.out.2.1.below H2.out.2.2
      obtain ⟨A3, cap3, e3⟩ := own_slice hrow2.row
      injection e3 with e3a e3b e3c
      have hrw := hrow2.row
      rw [← e3b] at hrw
      have hlen : n' ≤ 1073741823 := by
        have q1 := congrArg List.length HS.out.1
        have q3 := congrArg List.length HS.out.2.2.1
        simp only [List.length_append, List.length_map, List.length_cons] at q1 q3 e3b
        omega
      replace hrow2 := Lib.hid hrow2; replace e3b := Lib.hid e3b; replace hfr2 := Lib.hid hfr2; replace hrw := Lib.hid hrw; replace hhx := Lib.hid hhx
      clear e3a e3c
      refine (g3.out w2 (Dw.refl _)).mono ?_
      rintro q w' ⟨rfl, rfl⟩
      go_wp2_with (at_builtin; refine wpList_pushRow w2 rfl _ _ 266 215 (.agg #[.int .u64 0, .slice none 0 0]) 2 32 rfl Tryz.underlying266 infoNamed rfl (by decide) (.slice A' n' cap') n' ((L ++ L').flatMap nkV) [.int .u64 (hx : Int), .slice (some ⟨g, 0, none⟩) kl kl] rfl (by intro u hu; rcases List.mem_cons.1 hu with rfl | hu; rfl; rw [List.mem_singleton] at hu; subst hu; rfl) (by rfl) w2.heap.size rfl (by rfl) hrw.out (by omega) (by unfold maxLen; omega) ?_; intro g2 c2' w3 hr3 hg3 hat3; have H3 := Lib.hid (And.intro hr3 (And.intro hg3 hat3)); clear hr3 hg3 hat3)
      have hob := HS.out.2.2.2.2.1
      have hfr3 : Fr (fun b => (Value.slice A n cap).ownBlock = some b) w w3 := hfr2.out.grown H3.out.2.1 (fun k hk => by
        rcases hob with h | ⟨b, h, hb⟩
        · exact .inl (h.symm.trans hk)
        · rw [h] at hk; injection hk with hk; subst hk; exact .inr hb)
      obtain ⟨-, g0, -, -, -, -⟩ := hW.out w3 hfr3
      have hwl := HS.out.2.2.2.1.size
      have hnew : NRow w3 (.slice (some ⟨g2, 0, none⟩) (n' + 1) c2') N ((L ++ L') ++ [⟨hx, e.key, g⟩]) := by
        have hg1 := H2.out.1
        refine NRow.push hrow2.out e3b.out.symm ?_ H3.out.2.1 H3.out.2.2 (by have := hfr2.out.size; omega) H2.out.2.1 (by show N ≤ g; omega) HE.out.1 (fun hq => ?_)
        · have : nkV ⟨hx, e.key, g⟩ = [.int .u64 (hx : Int), .slice (some ⟨g, 0, none⟩) kl kl] := by unfold nkV; rw [HE.out.2]
          rw [this]
          exact H3.out.1
        · have hq : (Value.slice A' n' cap').ownBlock = some g := hq
          obtain ⟨cells, hc⟩ := own_typed HS.out.2.1.row g hq
          have := blk_lt hc
          omega
      replace hfr3 := Lib.hid hfr3; replace hnew := Lib.hid hnew; replace hob := Lib.hid hob
      obtain ⟨pr, hpr⟩ : ∃ pr, plOf G hs bs (headId c2) = pr := ⟨_, rfl⟩
      rw [hpr] at g0
      replace hpr := Lib.hid hpr
      clear g3 g1 hwl
      refine (g0.out w3 (Dw.refl _)).mono ?_
      rintro q w' ⟨rfl, rfl⟩
      go_wp2_with fail
      go_roundg c2.length
      case measure => rw [← HS.out.2.2.2.2.2.1]; simp
      case rel =>
        refine ⟨c1 ++ [e], c2, some ⟨g2, 0, none⟩, n' + 1, c2', L' ++ [⟨hx, e.key, g⟩], by rw [hpr.out], rfl, Lib.hid ⟨by rw [HS.out.1]; simp, by rw [← List.append_assoc]; exact hnew.out, ?_, hfr3.out, ?_, rfl, ?_⟩⟩
        · rw [List.map_append, List.map_append, HS.out.2.2.1]
          have : hkOf ⟨hx, e.key, g⟩ = (e.hash s, e.key) := by unfold hkOf; rw [hhx.out]
          simp [this]
        · rcases H3.out.2.2 with h | h
          · rcases hob.out with h2 | ⟨b, h2, hb⟩
            · exact .inl (by rw [← h2, h]; rfl)
            · rw [h2] at h; injection h with h; subst h
              exact .inr ⟨b, rfl, hb⟩
          · exact .inr ⟨g2, rfl, by have := hfr2.out.size; omega⟩
        · intro x hx
          rcases List.mem_append.1 hx with hx | hx
          · exact HS.out.2.2.2.2.2.2 x hx
          · rw [List.mem_singleton] at hx
            subst hx
            exact Nat.le_trans HS.out.2.2.2.1.size H2.out.1
end
end Go.Proofs.YtglglknhifjbaaaGreatDoor.Sp
