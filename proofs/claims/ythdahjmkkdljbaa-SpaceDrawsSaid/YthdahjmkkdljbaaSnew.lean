/- space.New, walked. -/
import Derived.Test.YthdahjmkkdljbaaTnew
namespace Go.Proofs.Ythdahjmkkdljbaa.Sp
open Go.RowKit Go.Proofs.YthdahjmkkdljbaaW.PrintWords Go.Proofs.YthdahjmkkdljbaaW.PrintLast Go.Proofs.YthdahjmkkdljbaaW.PrintMore
set_option linter.unusedVariables false
set_option linter.unusedSimpArgs false
/-- A pointer to a database's table, or none yet. -/
def dbV (ts : List Nat) (i : Nat) : Value := match ts[i]? with
  | some t => .pointer (some ⟨t, 0, none⟩)
  | none => .pointer none
/-- A new space's struct. -/
def spV (hp q seed mb : Nat) (ts : List Nat) : Array Value := #[.pointer (some ⟨hp, 0, none⟩), .int .i64 (q : Int), .int .u64 (seed : Int), .int .u64 0, dbV ts 0, dbV ts 1, dbV ts 2, dbV ts 3, .slice none 0 0, .int .i64 0, .int .u64 0, .bool false, .int .i64 0, .map (some mb), .slice none 0 0, .slice none 0 0]
/-- What a new heap with some new tables holds. -/
structure NewH (M : HM) (q j : Nat) : Prop where
  limit : M.limit = 16 * q + 131072
  hsize : M.half.size = 64
  used : usedOf M.half.objs = 1 + 11 * j
  nroots : M.nroots = j
  rlen : M.roots.length = j
  rall : ∀ i (h : i < M.roots.length), M.roots[i].1 = true
  blocks : M.blocks = []
structure SLoop (w wr : World) (q seed s hp mb j : Nat) (own : Own) (M : HM) (x : HX) (ts : List Nat) : Prop where
  mem : HMem wr own hp M x
  new : NewH M q j
  len : ts.length = j
  hs : wr.heap[s]? = some (.cells (spV hp q seed mb ts) 70 (0, 0))
  os : own s = 0
  hb : wr.heap[mb]? = some (.map #[] 0)
  ob : own mb = 0
  tab : ∀ i t : Nat, ts[i]? = some t → wr.heap[t]? = some (.cells #[.pointer (some ⟨hp, 0, none⟩), .int .i64 ((i : Int) + 1)] 95 (0, 0)) ∧ own t = 0
  bel : Below w.heap.size w wr
  old : ∀ b, b < w.heap.size → own b = 0
  snew : ¬ s < w.heap.size
theorem sloop_start {w w1 : World} {q seed hp : Nat} {own1 : Own} {x1 : HX} (hm : HMem w1 own1 hp (HM.new (16 * q + 131072)) x1) (hb : Below w.heap.size w w1) (ho : ∀ b, b < w.heap.size → own1 b = 0) :
    SLoop w ((w1.alloc (.map #[] 0)).alloc (.cells #[.pointer (some ⟨hp, 0, none⟩), .int .i64 (q : Int), .int .u64 (seed : Int), .int .u64 0, .pointer none, .pointer none, .pointer none, .pointer none, .slice none 0 0, .int .i64 0, .int .u64 0, .bool false, .int .i64 0, .map (some w1.heap.size), .slice none 0 0, .slice none 0 0] 70)) q seed (w1.heap.size + 1) hp w1.heap.size 0 own1 (HM.new (16 * q + 131072)) x1 [] where
  mem := (hm.alloc _).alloc _
  new := ⟨rfl, rfl, rfl, rfl, rfl, fun i h => by simp [HM.new] at h, rfl⟩
  len := rfl
  hs := by rw [alloc_at, if_pos (by simp)]; rfl
  os := hm.top _ (by omega)
  hb := by rw [alloc_at, if_neg (by simp), alloc_at, if_pos rfl]
  ob := hm.top _ (Nat.le_refl _)
  tab := fun i t h => by simp at h
  bel := (hb.alloc hb.size _).alloc (by have := hb.size; simp; omega) _
  old := ho
  snew := by have := hb.size; omega
theorem HMem.drew {w : World} {own : Own} {hp : Nat} {M : HM} {x : HX} (h : HMem w own hp M x) : HMem w.drew own hp M x := h.fr ((Fr.refl (fun _ => False) w).drew) (fun b hb => hb.elim)
theorem sloop_next {w wr w2 : World} {q seed s hp mb j t : Nat} {own own' : Own} {M : HM} {x x' : HX} {ts : List Nat} (h : SLoop w wr q seed s hp mb j own M x ts) (hj : j < 4) (ht0 : wr.drew.heap.size ≤ t) (ht1 : own' t = 0) (ht2 : w2.heap[t]? = some (.cells #[.pointer (some ⟨hp, 0, none⟩), .int .i64 ((M.roots.length : Int) + 1)] 95 (0, 0)))
    (ht3 : HMem w2 own' hp ((M.hold M.roots.length (usedOf M.half.objs)).add [(headW 4 2 3, [usedOf M.half.objs + 6, 0, seed, 0, 0]), (headW 5 4 0, [0, 0, 0, 0])]) x') (ht4 : HStep wr.drew own w2 own') :
    w2.cell? ⟨s, 4 + j, none⟩ = some (.pointer none) ∧ (∀ i, w2.frozen? ⟨s, i, none⟩ = false) ∧ Hid (∃ M', SLoop w (w2.setCell ⟨s, 4 + j, none⟩ (.pointer (some ⟨t, 0, none⟩))) q seed s hp mb (j + 1) own' M' x' (ts ++ [t])) := by
  have ho : ∀ b, own b = 0 → b < wr.heap.size → w2.heap[b]? = wr.heap[b]? := fun b hb hlt => ht4.fr.block b hlt (by rw [hb]; simp)
  have hw : ∀ b, b < wr.heap.size → own' b = own b := fun b hb => ht4.ow b hb
  have hs2 : w2.heap[s]? = some (.cells (spV hp q seed mb ts) 70 (0, 0)) := (ho s h.os (blk_lt h.hs)).trans h.hs
  have hlen := h.len
  have hts : t ≠ s := by have := blk_lt h.hs; have : wr.drew.heap.size = wr.heap.size := rfl; omega
  have hos' : own' s = 0 := (hw s (blk_lt h.hs)).trans h.os
  have hnone : ts[j]? = none := List.getElem?_eq_none (by omega)
  have hdb : ∀ i, i ≠ j → dbV (ts ++ [t]) i = dbV ts i := fun i hi => by
    unfold dbV
    by_cases e : i < ts.length
    · rw [List.getElem?_append_left e]
    · rw [List.getElem?_eq_none (by simp; omega), List.getElem?_eq_none (by omega)]
  have hdj : dbV (ts ++ [t]) j = .pointer (some ⟨t, 0, none⟩) := by
    unfold dbV
    rw [← hlen, List.getElem?_append_right (Nat.le_refl _), Nat.sub_self]; rfl
  have hdn : dbV ts j = .pointer none := by unfold dbV; rw [hnone]
  refine ⟨?_, fun i => by simp [World.frozen?, hs2], (M.hold M.roots.length (usedOf M.half.objs)).add [(headW 4 2 3, [usedOf M.half.objs + 6, 0, seed, 0, 0]), (headW 5 4 0, [0, 0, 0, 0])], ?_, ?_, by simp [hlen], ?_, hos', ?_, (hw mb (blk_lt h.hb)).trans h.ob, ?_, ?_, ?_, h.snew⟩
  · have : j = 0 ∨ j = 1 ∨ j = 2 ∨ j = 3 := by omega
    rcases this with rfl | rfl | rfl | rfl <;> simp [World.cell?, hs2, spV, hdn]
  · exact ht3.out hos' _ _
  · have hra : rootsAt M.roots M.roots.length (usedOf M.half.objs) = M.roots ++ [(true, usedOf M.half.objs)] := if_neg (Nat.lt_irrefl _)
    have n := h.new
    refine ⟨n.limit, n.hsize, ?_, ?_, ?_, ?_, n.blocks⟩
    · show usedOf (M.half.objs ++ [(headW 4 2 3, [usedOf M.half.objs + 6, 0, seed, 0, 0]), (headW 5 4 0, [0, 0, 0, 0])]) = _
      have e : M.half.objs ++ [(headW 4 2 3, [usedOf M.half.objs + 6, 0, seed, 0, 0]), (headW 5 4 0, [0, 0, 0, 0])] = (M.half.objs ++ [(headW 4 2 3, [usedOf M.half.objs + 6, 0, seed, 0, 0])]) ++ [(headW 5 4 0, [0, 0, 0, 0])] := by rw [List.append_assoc]; rfl
      rw [e, used_snoc, used_snoc, n.used]
      simp [osize]; omega
    · show M.nroots + 1 = _
      rw [n.nroots]
    · show (rootsAt M.roots M.roots.length (usedOf M.half.objs)).length = _
      rw [hra]; simp [n.rlen]
    · intro i hi
      have hi' : i < (rootsAt M.roots M.roots.length (usedOf M.half.objs)).length := hi
      show (rootsAt M.roots M.roots.length (usedOf M.half.objs))[i].1 = true
      simp only [hra] at hi' ⊢
      by_cases e : i < M.roots.length
      · rw [List.getElem_append_left e]; exact n.rall i e
      · rw [List.getElem_append_right (by omega)]; simp
  · rw [setCell_at, if_pos rfl, hs2]
    have : j = 0 ∨ j = 1 ∨ j = 2 ∨ j = 3 := by omega
    rcases this with rfl | rfl | rfl | rfl
    · simp only [spV, hdj, hdb 1 (by decide), hdb 2 (by decide), hdb 3 (by decide)]; rfl
    · simp only [spV, hdj, hdb 0 (by decide), hdb 2 (by decide), hdb 3 (by decide)]; rfl
    · simp only [spV, hdj, hdb 0 (by decide), hdb 1 (by decide), hdb 3 (by decide)]; rfl
    · simp only [spV, hdj, hdb 0 (by decide), hdb 1 (by decide), hdb 2 (by decide)]; rfl
  · have hne : mb ≠ s := by
      rintro rfl
      have h1 := h.hb; rw [h.hs] at h1; cases h1
    rw [setCell_at, if_neg hne, ho mb h.ob (blk_lt h.hb), h.hb]
  · intro i t' hi
    by_cases e : i < ts.length
    · rw [List.getElem?_append_left e] at hi
      obtain ⟨h1, h2⟩ := h.tab i t' hi
      have hne : t' ≠ s := by
        rintro rfl
        rw [h.hs] at h1
        injection h1 with h1
        injection h1 with _ h3 _
        exact absurd h3 (by decide)
      refine ⟨?_, (hw t' (blk_lt h1)).trans h2⟩
      rw [setCell_at, if_neg hne, ho t' h2 (blk_lt h1)]; exact h1
    · rw [List.getElem?_append_right (by omega)] at hi
      have hi0 : i = ts.length := by
        have : i - ts.length < [t].length := (List.getElem?_eq_some_iff.1 hi).1
        simp at this; omega
      subst hi0
      rw [Nat.sub_self] at hi
      have : t = t' := by simpa using hi
      subst this
      refine ⟨?_, ht1⟩
      rw [setCell_at, if_neg hts, ht2, h.new.rlen, h.len]
  · have b1 : Below w.heap.size w w2 := ⟨ht4.fr.os.trans h.bel.os, ht4.fr.tape.trans h.bel.tape, ht4.fr.output.trans h.bel.output, Nat.le_trans h.bel.size ht4.fr.size, fun i hi => (ho i (h.old i hi) (Nat.lt_of_lt_of_le hi h.bel.size)).trans (h.bel.block i hi)⟩
    refine b1.setCell ?_ _
    show w.heap.size ≤ s
    by_cases e : w.heap.size ≤ s
    · exact e
    · exfalso
      exact h.snew (by omega)
  · intro b hb
    exact (hw b (Nat.lt_of_lt_of_le hb h.bel.size)).trans (h.old b hb)
def SNewPost (w : World) (q seed : Nat) (e : Ending) (w' : World) : Prop :=
  ∃ s hp mb own M x ts, e = .returned (.tuple #[.pointer (some ⟨s, 0, none⟩), .int .i64 0]) ∧ w.heap.size ≤ s ∧ SLoop w w' q seed s hp mb 4 own M x ts
set_option maxHeartbeats 8000000 in
set_option maxRecDepth 100000 in
theorem spaceNew_walk (w : World) (q seed : Nat) (h1 : 256 ≤ q) (h2 : q ≤ 16384) (hs : seed < 18446744073709551616) : Calls Try.prog 13 #[.int .i64 (q : Int), .int .u64 (seed : Int)] w (SNewPost w q seed) := by
  go_enter Try.func13, Try.ntmps13
  go_wp2_with fail
  rw [show (16 : Int) * (q : Int) + 131072 = ((16 * q + 131072 : Nat) : Int) by omega]
  refine (heapNew_walk w (16 * q + 131072) (by omega) (by omega)).mono ?_
  rintro e w1 ⟨hp, own1, x1, rfl, hm1, hb1, ho1⟩
  have HM1 := Lib.hid hm1; have HB1 := Lib.hid hb1; have HO1 := Lib.hid ho1
  clear hm1 hb1 ho1
  have HS := Lib.hid (sloop_start (seed := seed) HM1.out HB1.out HO1.out)
  clear HM1 HB1 HO1
  have hmm : ∀ W : World, (Instr.makeMap 67 none).run Try.prog W = .ok (.map (some W.heap.size)) (W.alloc (.map #[] 0)) := fun W => by
    exact run_makeMap _ W
  go_wp2_with fail
  go_loopw [31] (fun v31 wr => ∃ (j : Nat) (own : Own) (M : HM) (x : HX) (ts : List Nat), j ≤ 4 ∧ v31 = .int .i64 (j : Int) ∧ Hid (SLoop w wr q seed (w1.heap.size + 1) hp w1.heap.size j own M x ts)) (fun v31 _ => 4 - (intOf v31).toNat)
  case atStart => exact ⟨0, own1, _, x1, [], by omega, rfl, HS⟩
  case round =>
    obtain ⟨j, own, M, x, ts, hj, rfl, HL⟩ := hrel
    by_cases hlt : j < 4
    · have hused := HL.out.new.used
      have hsz := HL.out.new.hsize
      have hrl := HL.out.new.rlen
      have hnr := HL.out.new.nroots
      have hc := tabNew_room wr.drew own hp M x HL.out.mem.drew seed hs (by omega) HL.out.new.rall (by omega) (by omega)
      have HC := Lib.hid hc
      clear hc hused hsz hrl hnr
      go_wp2_with fail
      go_region_held3 (fun _ => True) (trivial) ((go_at_call 23; refine HC.out.mono ?_; rintro e w2 ⟨t, own', x', rfl, ht0, ht1, ht2, ht3, ht4⟩; obtain ⟨k0, k1, HN⟩ := sloop_next HL.out hlt ht0 ht1 ht2 ht3 ht4; have k2 := k1 (4 + j); clear k1 ht0 ht1 ht2 ht3 ht4))
      go_wp2_with fail
      go_roundw
      case rel => obtain ⟨M', hN⟩ := HN; exact ⟨j + 1, own', M', x', ts ++ [t], by omega, by go_num, hN⟩
      case measure => simp [intOf]; omega
    · obtain rfl : j = 4 := by omega
      go_wp2_with fail
      go_ret2
      exact ⟨w1.heap.size + 1, hp, w1.heap.size, own, M, x, ts, rfl, by have := HL.out.snew; omega, HL.out⟩
end Go.Proofs.Ythdahjmkkdljbaa.Sp
