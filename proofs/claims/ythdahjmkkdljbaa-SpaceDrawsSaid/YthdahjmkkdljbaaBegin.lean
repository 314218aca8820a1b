/- larderlaw10.begin, walked, for the least quota. -/
import Derived.Test.YthdahjmkkdljbaaBack
import Derived.Test.YthdahjmkkdljbaaStats
namespace Go.Proofs.Ythdahjmkkdljbaa.Sp
open Go.RowKit Go.Proofs.YthdahjmkkdljbaaW.PrintWords Go.Proofs.YthdahjmkkdljbaaW.PrintLast Go.Proofs.YthdahjmkkdljbaaW.PrintMore
set_option linter.unusedVariables false
set_option linter.unusedSimpArgs false
structure BegQ (w w' : World) (t s rs : Nat) (C C1 C2 : Array Value) : Prop where
  st : StG w' t C (.slice none 0 0) (.slice none 0 0)
  c0 : w'.cell? ⟨t, 0, none⟩ = some (.pointer (some ⟨s, 0, none⟩))
  c2 : w'.cell? ⟨t, 2, none⟩ = some (.pointer (some ⟨rs, 0, none⟩))
  sp : SpQ w' s C1 (.slice none 0 0) []
  rf : StQ w' rs C2 (.slice none 0 0) []
  bel : Below w.heap.size w w'
  tn : w.heap.size ≤ t
  sn : t < s
  rn : s < rs
def BegPost (w : World) (e : Ending) (w' : World) : Prop := ∃ t s rs C C1 C2, e = .returned (.tuple #[.pointer (some ⟨t, 0, none⟩), .bool true]) ∧ BegQ w w' t s rs C C1 C2
set_option maxRecDepth 100000 in
theorem field_limit (a b c d e f g h i : Int) (w : World) : Sem.run Try.prog (Instr.field 63 (.agg #[.int .i64 a, .int .i64 b, .int .i64 c, .int .i64 d, .int .i64 e, .int .i64 f, .int .i64 g, .int .i64 h, .int .i64 i]) 0) w = .ok (.int .i64 a) w := by
  first | rfl | kernel_rfl | simp [Instr.field, go_sem, Try.underlying63]
def stV (bk : Option Addr) : Array Value := #[.pointer none, .pointer none, .pointer none, .pointer none, .bool true, .bool false, .bool false, .pointer bk, .slice none 0 0, .slice none 0 0, .slice none 0 0, .slice none 0 0]
theorem beg_start {w wa w1 w2 w3 : World} {seed s hp mb : Nat} {own : Own} {M : HM} {x : HX} {ts : List Nat} {bk : Option Addr} (L1 : SLoop wa w1 256 seed s hp mb 4 own M x ts) (B2 : Below w1.heap.size w1 w2) (B3 : Below w2.heap.size w2 w3) (hwa : wa = w.alloc (.cells (stV bk) 47)) (a c d : Nat) :
    (∀ i, w3.cell? ⟨w.heap.size, i, none⟩ = (stV bk)[i]?) ∧ (∀ i, w3.frozen? ⟨w.heap.size, i, none⟩ = false) ∧ True := by
  subst hwa
  have h0 : (w.alloc (.cells (stV bk) 47)).heap[w.heap.size]? = some (.cells (stV bk) 47 (0, 0)) := by rw [alloc_at, if_pos rfl]
  have h1 := (L1.bel.block _ (blk_lt h0)).trans h0
  have h2 := (B2.block _ (blk_lt h1)).trans h1
  have h3 := (B3.block _ (blk_lt h2)).trans h2
  exact ⟨fun i => by simp [World.cell?, h3], fun i => by simp [World.frozen?, h3], trivial⟩
theorem beg_end {w wa w1 w2 w3 : World} {seed s hp mb : Nat} {own : Own} {M : HM} {x : HX} {ts : List Nat} {bk : Option Addr} {C2 : Array Value} (L1 : SLoop wa w1 256 seed s hp mb 4 own M x ts) (B2 : Below w1.heap.size w1 w2) (B3 : Below w2.heap.size w2 w3) (hns : wa.heap.size ≤ s) (R2 : StQ w2 w1.heap.size C2 (.slice none 0 0) []) (hz2 : w2.heap.size = w1.heap.size + 1) (hwa : wa = w.alloc (.cells (stV bk) 47)) :
    (w3.setCell ⟨w.heap.size, 0, none⟩ (.pointer (some ⟨s, 0, none⟩))).cell? ⟨s, 0, none⟩ = some (.pointer (some ⟨hp, 0, none⟩)) ∧ Hid (BegQ w (((w3.setCell ⟨w.heap.size, 0, none⟩ (.pointer (some ⟨s, 0, none⟩))).setCell ⟨w.heap.size, 1, none⟩ (.pointer (some ⟨hp, 0, none⟩))).setCell ⟨w.heap.size, 2, none⟩ (.pointer (some ⟨w1.heap.size, 0, none⟩))) w.heap.size s w1.heap.size ((((stV bk).setIfInBounds 0 (.pointer (some ⟨s, 0, none⟩))).setIfInBounds 1 (.pointer (some ⟨hp, 0, none⟩))).setIfInBounds 2 (.pointer (some ⟨w1.heap.size, 0, none⟩))) (spV hp 256 seed mb ts) C2) := by
  subst hwa
  have hts : w.heap.size < s := by simp at hns; omega
  have hsl := blk_lt L1.hs
  have h0 : (w.alloc (.cells (stV bk) 47)).heap[w.heap.size]? = some (.cells (stV bk) 47 (0, 0)) := by rw [alloc_at, if_pos rfl]
  have h1 := (L1.bel.block _ (blk_lt h0)).trans h0
  have h2 := (B2.block _ (blk_lt h1)).trans h1
  have h3 := (B3.block _ (blk_lt h2)).trans h2
  have s3 := (B3.block _ (blk_lt ((B2.block _ hsl).trans L1.hs))).trans ((B2.block _ hsl).trans L1.hs)
  have r3 := (B3.block _ (blk_lt R2.hs)).trans R2.hs
  have f3 : Fr (fun k => k = w.heap.size) w3 (((w3.setCell ⟨w.heap.size, 0, none⟩ (.pointer (some ⟨s, 0, none⟩))).setCell ⟨w.heap.size, 1, none⟩ (.pointer (some ⟨hp, 0, none⟩))).setCell ⟨w.heap.size, 2, none⟩ (.pointer (some ⟨w1.heap.size, 0, none⟩))) :=
    Fr.setCell (P := fun k => k = w.heap.size) (Fr.setCell (P := fun k => k = w.heap.size) (Fr.setCell (P := fun k => k = w.heap.size) (Fr.refl _ w3) (.inl rfl) _) (.inl rfl) _) (.inl rfl) _
  have ht : (((w3.setCell ⟨w.heap.size, 0, none⟩ (.pointer (some ⟨s, 0, none⟩))).setCell ⟨w.heap.size, 1, none⟩ (.pointer (some ⟨hp, 0, none⟩))).setCell ⟨w.heap.size, 2, none⟩ (.pointer (some ⟨w1.heap.size, 0, none⟩))).heap[w.heap.size]? = some (.cells ((((stV bk).setIfInBounds 0 (.pointer (some ⟨s, 0, none⟩))).setIfInBounds 1 (.pointer (some ⟨hp, 0, none⟩))).setIfInBounds 2 (.pointer (some ⟨w1.heap.size, 0, none⟩))) 47 (0, 0)) := by
    rw [setCell_at, if_pos rfl, setCell_at, if_pos rfl, setCell_at, if_pos rfl, h3]
  refine ⟨?_, ⟨?_, ?_⟩, ?_, ?_, ⟨?_, rfl, qnil _ _ _⟩, ⟨?_, R2.size, qnil _ _ _⟩, ?_, Nat.le_refl _, hts, hsl⟩
  · have e : (w3.setCell ⟨w.heap.size, 0, none⟩ (.pointer (some ⟨s, 0, none⟩))).heap[s]? = w3.heap[s]? := by rw [setCell_at, if_neg (by omega)]
    rw [World.cell?_of_block e]
    simp [World.cell?, s3, spV]
  · rw [ht]; rfl
  · rfl
  · simp only [World.cell?, ht]; rfl
  · simp only [World.cell?, ht]; rfl
  · rw [f3.block s (blk_lt s3) (by omega), s3]; rfl
  · rw [f3.block _ (blk_lt r3) (by omega), r3]
  · have bs := B2.size; have bs3 := B3.size; have ls := L1.bel.size
    simp at ls
    refine ⟨f3.os.trans (B3.os.trans (B2.os.trans L1.bel.os)), f3.tape.trans (B3.tape.trans (B2.tape.trans L1.bel.tape)), f3.output.trans (B3.output.trans (B2.output.trans L1.bel.output)), ?_, fun i hi => ?_⟩
    · have := f3.size; omega
    · rw [f3.block i (by omega) (by omega), B3.block i (by omega), B2.block i (by omega), L1.bel.block i (by simp; omega), Below.heap_alloc _ _ _ hi]
set_option maxHeartbeats 1000000 in
set_option maxRecDepth 100000 in
theorem beginq_walk (w : World) (seed : Nat) (hs : seed < 18446744073709551616) (bk : Option Addr) :
    Calls Try.prog 4 #[.int .i64 0, .int .u64 (seed : Int), .pointer bk, .bool false] w (BegPost w) := by
  have hq := Lib.hid (quota_walk w)
  go_enter Try.func4, Try.ntmps4
  go_wp2_with fail
  refine hq.out.mono ?_
  rintro e w' ⟨rfl, rfl⟩
  go_wp2_with fail
  refine (spaceNew_walk _ 256 seed (by decide) (by decide) hs).mono ?_
  rintro e w1 ⟨s, hp, mb, own, M, x, ts, rfl, hns, HL⟩
  have L1 := Lib.hid HL
  clear HL
  go_wp2_with fail
  refine (rnew_walk w1 (seed : Int)).mono ?_
  rintro e w2 ⟨rfl, C2, hst, hb2, hz2⟩
  have R2 := Lib.hid hst; have B2 := Lib.hid hb2
  clear hst hb2
  go_wp2_with fail
  refine (num_walk w2 0).mono ?_
  rintro e w' ⟨rfl, rfl⟩
  have S2 := Lib.hid ((B2.out.block s (blk_lt L1.out.hs)).trans L1.out.hs)
  have c0 : w2.cell? ⟨s, 0, none⟩ = some (.pointer (some ⟨hp, 0, none⟩)) := by simp [World.cell?, S2.out, spV]
  go_wp2_with fail
  refine (heapOf_walk w2 s hp c0).mono ?_
  rintro e w' ⟨rfl, rfl⟩
  go_wp2_with fail
  refine (heapOf_walk w2 s hp c0).mono ?_
  rintro e w' ⟨rfl, rfl⟩
  go_wp2_with fail
  refine (stats_none w2 own hp M x (L1.out.mem.fr (Fr.below (P := fun _ => False) B2.out) (fun b hb => hb.elim)) L1.out.new.blocks).mono ?_
  rintro e w3 ⟨hb3, k, rfl⟩
  have hfl := field_limit 135168 M.half.size (usedOf M.half.objs) M.large k M.nroots M.ncoll M.nres M.moved w3
  have hlim : (M.limit : Int) = 135168 := by rw [L1.out.new.limit]; rfl
  have B3 := Lib.hid hb3
  clear hb3
  rw [hlim]
  have T3 := Lib.hid (beg_start L1.out B2.out B3.out rfl)
  obtain ⟨tc, tf, HT⟩ := T3.out s hp w1.heap.size
  have t0 := tc 0; have t1 := tc 1; have t2 := tc 2; have f0 := tf 0; have f1 := tf 1; have f2 := tf 2
  simp [stV] at t0 t1 t2
  clear tc tf
  clear T3
  go_wp2_with fail
  obtain ⟨cs, HE⟩ := beg_end L1.out B2.out B3.out hns R2.out hz2 rfl
  refine (heapOf_walk _ s hp cs).mono ?_
  rintro e w' ⟨rfl, rfl⟩
  go_wp2_with fail
  go_ret2
  exact ⟨_, s, _, _, _, C2, rfl, HE⟩
end Go.Proofs.Ythdahjmkkdljbaa.Sp
