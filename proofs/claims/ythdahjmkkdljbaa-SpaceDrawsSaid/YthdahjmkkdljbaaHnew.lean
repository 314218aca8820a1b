/- heap.New, walked. -/
import Derived.Test.YthdahjmkkdljbaaHm
namespace Go.Proofs.Ythdahjmkkdljbaa.Sp
open Go.RowKit Go.Proofs.YthdahjmkkdljbaaW.PrintWords Go.Proofs.YthdahjmkkdljbaaW.PrintLast Go.Proofs.YthdahjmkkdljbaaW.PrintMore
set_option linter.unusedVariables false
set_option linter.unusedSimpArgs false
theorem IsAr.own {w : World} {own own' : Own} {a p size : Nat} {l : List AO} (h : IsAr w own a p size l) (ho : ∀ b, own b ≠ 0 → own' b = own b) : IsAr w own' a p size l := by
  obtain ⟨gw, gf, cw, cf, bs, h1, h2, h3, h4, h5, h6, h7⟩ := h.out
  exact ⟨⟨gw, gf, cw, cf, bs, h1, h2, h3, h4, by rw [ho p (by omega)]; exact h5, by rw [ho gw (by omega)]; exact h6, by rw [ho gf (by omega)]; exact h7⟩, h.s1, h.s2, h.fit, h.lt⟩
def HM.new (limit : Nat) : HM := ⟨limit, ⟨64, []⟩, ⟨64, []⟩, [], [], 0, 0, 0, [], 0, 0, 0, 0⟩
def HNewPost (w : World) (limit : Nat) (e : Ending) (w' : World) : Prop :=
  ∃ hp own x, e = .returned (.tuple #[.pointer (some ⟨hp, 0, none⟩), .int .i64 0]) ∧ HMem w' own hp (HM.new limit) x ∧ Below w.heap.size w w' ∧ ∀ b, b < w.heap.size → own b = 0
theorem hnew_fin {w w1 w2 : World} {limit p1 p2 : Nat} {own1 own2 : Own}
    (b1 : Below (w.heap.size + 1) (w.alloc (.cells #[.int .i64 (limit : Int), .pointer none, .pointer none, .slice none 0 0, .slice none 0 0, .slice none 0 0, .int .i64 0, .int .i64 0, .int .i64 0, .slice none 0 0, .int .i64 0, .int .i64 0, .int .i64 0, .int .i64 0, .int .i64 0, .int .i64 0, .int .i64 0, .int .i64 0, .int .i64 0] 85)) w1)
    (o1 : Ow (fun _ => 0) own1 (w.alloc (.cells #[.int .i64 (limit : Int), .pointer none, .pointer none, .slice none 0 0, .slice none 0 0, .slice none 0 0, .int .i64 0, .int .i64 0, .int .i64 0, .slice none 0 0, .int .i64 0, .int .i64 0, .int .i64 0, .int .i64 0, .int .i64 0, .int .i64 0, .int .i64 0, .int .i64 0, .int .i64 0] 85)))
    (i1 : IsAr w1 own1 0 p1 64 []) (b2 : Below w1.heap.size (w1.setCell ⟨w.heap.size, 1, none⟩ (.pointer (some ⟨p1, 0, none⟩))) w2) (o2 : Ow own1 own2 (w1.setCell ⟨w.heap.size, 1, none⟩ (.pointer (some ⟨p1, 0, none⟩)))) (i2 : IsAr w2 own2 1 p2 64 []) (t2 : ∀ b, w2.heap.size ≤ b → own2 b = 0) :
    HNewPost w limit (.returned (.tuple #[.pointer (some ⟨w.heap.size, 0, none⟩), .int .i64 0])) (w2.setCell ⟨w.heap.size, 2, none⟩ (.pointer (some ⟨p2, 0, none⟩))) := by
  obtain ⟨A, hA⟩ : ∃ A, w.alloc (.cells #[.int .i64 (limit : Int), .pointer none, .pointer none, .slice none 0 0, .slice none 0 0, .slice none 0 0, .int .i64 0, .int .i64 0, .int .i64 0, .slice none 0 0, .int .i64 0, .int .i64 0, .int .i64 0, .int .i64 0, .int .i64 0, .int .i64 0, .int .i64 0, .int .i64 0, .int .i64 0] 85) = A := ⟨_, rfl⟩
  have hAs : A.heap.size = w.heap.size + 1 := by rw [← hA]; simp
  have hAh : A.heap[w.heap.size]? = some (.cells #[.int .i64 (limit : Int), .pointer none, .pointer none, .slice none 0 0, .slice none 0 0, .slice none 0 0, .int .i64 0, .int .i64 0, .int .i64 0, .slice none 0 0, .int .i64 0, .int .i64 0, .int .i64 0, .int .i64 0, .int .i64 0, .int .i64 0, .int .i64 0, .int .i64 0, .int .i64 0] 85 (0, 0)) := by rw [← hA, alloc_at, if_pos rfl]
  have hbA : Below w.heap.size w A := by rw [← hA]; exact (Below.refl _ w).alloc (Nat.le_refl _) _
  rw [hA] at b1 o1
  have hs1 := b1.size
  have h1 : w1.heap[w.heap.size]? = _ := (b1.block w.heap.size (by omega)).trans hAh
  have hsz : (w1.setCell ⟨w.heap.size, 1, none⟩ (.pointer (some ⟨p1, 0, none⟩))).heap.size = w1.heap.size := by simp [World.setCell]
  have hs2 := b2.size
  rw [hsz] at hs2
  have h2 : w2.heap[w.heap.size]? = some (.cells #[.int .i64 (limit : Int), .pointer (some ⟨p1, 0, none⟩), .pointer none, .slice none 0 0, .slice none 0 0, .slice none 0 0, .int .i64 0, .int .i64 0, .int .i64 0, .slice none 0 0, .int .i64 0, .int .i64 0, .int .i64 0, .int .i64 0, .int .i64 0, .int .i64 0, .int .i64 0, .int .i64 0, .int .i64 0] 85 (0, 0)) := by
    rw [b2.block w.heap.size (by omega), setCell_at, if_pos rfl, h1]; rfl
  have z1 : own1 w.heap.size = 0 := o1 _ (by omega)
  have z2 : own2 w.heap.size = 0 := (o2 _ (by omega)).trans z1
  have i1a : IsAr (w1.setCell ⟨w.heap.size, 1, none⟩ (.pointer (some ⟨p1, 0, none⟩))) own1 0 p1 64 [] := i1.fr ((Fr.refl (fun c => c = w.heap.size) w1).setCell (.inl rfl) _) (Ow.refl _ _) (fun b hb => by rw [hb, z1]; decide)
  have i1b : IsAr w2 own2 0 p1 64 [] := i1a.fr (Fr.below (P := fun _ => False) (by rw [hsz]; exact b2)) o2 (fun b hb => hb.elim)
  have i1c : IsAr (w2.setCell ⟨w.heap.size, 2, none⟩ (.pointer (some ⟨p2, 0, none⟩))) own2 0 p1 64 [] := i1b.fr ((Fr.refl (fun c => c = w.heap.size) w2).setCell (.inl rfl) _) (Ow.refl _ _) (fun b hb => by rw [hb, z2]; decide)
  have i2c : IsAr (w2.setCell ⟨w.heap.size, 2, none⟩ (.pointer (some ⟨p2, 0, none⟩))) own2 1 p2 64 [] := i2.fr ((Fr.refl (fun c => c = w.heap.size) w2).setCell (.inl rfl) _) (Ow.refl _ _) (fun b hb => by rw [hb, z2]; decide)
  have hown : ∀ b, own2 b ≠ 0 → (fun b => if b = w.heap.size then 1 else own2 b) b = own2 b := fun b hb => by
    dsimp only
    rw [if_neg (by rintro rfl; exact hb z2)]
  have nil : ∀ (W : World) (o : Own) (t : Nat) (e : TypeId) (s : Nat), RowV W o t e s (.slice none 0 0) 0 [] := fun W o t e s => ⟨⟨by simp, .inl ⟨rfl, rfl⟩⟩, fun g hg => by cases hg⟩
  refine ⟨w.heap.size, fun b => if b = w.heap.size then 1 else own2 b, ⟨p1, 0, p2, 1, .slice none 0 0, .slice none 0 0, .slice none 0 0, []⟩, rfl, ⟨?_, if_pos rfl, i1c.own hown, i2c.own hown, nil _ _ _ _ _, ⟨rfl, fun s p a h => by simp at h⟩, fun s h => by simp [HM.new] at h, nil _ _ _ _ _, nil _ _ _ _ _, by simp, fun b hb => ?_⟩, ?_, fun b hb => ?_⟩
  · rw [setCell_at, if_pos rfl, h2]; rfl
  · have hb' : w2.heap.size ≤ b := by simpa [World.setCell] using hb
    show (if b = w.heap.size then 1 else own2 b) = 0
    rw [if_neg (by omega)]; exact t2 b hb'
  · have e1 := (hbA.trans (b1.mono (by omega))).setCell (p := ⟨w.heap.size, 1, none⟩) (Nat.le_refl _) (.pointer (some ⟨p1, 0, none⟩))
    exact (e1.trans (b2.mono (by omega))).setCell (Nat.le_refl _) _
  · show (if b = w.heap.size then 1 else own2 b) = 0
    rw [if_neg (by omega)]
    exact (o2 b (by omega)).trans (o1 b (by omega))
set_option maxHeartbeats 4000000 in
set_option maxRecDepth 100000 in
theorem heapNew_walk (w : World) (limit : Nat) (h1 : 128 ≤ limit) (h2 : limit ≤ 1048576) : Calls Try.prog 22 #[.int .i64 (limit : Int)] w (HNewPost w limit) := by
  go_enter Try.func22, Try.ntmps22
  go_wp2_with fail
  refine (arNew_walk _ (fun _ => 0) 0 64 (by decide) (by decide) (fun b hb => rfl)).mono ?_
  rintro e w1 ⟨p1, own1, rfl, hp1, hb1, ho1, hi1, ht1⟩
  have hb1' : Below (w.heap.size + 1) _ w1 := hb1.mono (by simp)
  have hX : w1.heap[w.heap.size]? = some (.cells #[.int .i64 (limit : Int), .pointer none, .pointer none, .slice none 0 0, .slice none 0 0, .slice none 0 0, .int .i64 0, .int .i64 0, .int .i64 0, .slice none 0 0, .int .i64 0, .int .i64 0, .int .i64 0, .int .i64 0, .int .i64 0, .int .i64 0, .int .i64 0, .int .i64 0, .int .i64 0] 85 (0, 0)) := by
    rw [hb1'.block w.heap.size (by omega), alloc_at, if_pos rfl]
  have x1 : w1.cell? ⟨w.heap.size, 1, none⟩ = some (.pointer none) := by simp [World.cell?, hX]
  have x2 : w1.frozen? ⟨w.heap.size, 1, none⟩ = false := by simp [World.frozen?, hX]
  have HB1 := Lib.hid hb1'; have HO1 := Lib.hid ho1; have HI1 := Lib.hid hi1; have HT1 := Lib.hid ht1; have HX := Lib.hid hX
  have hsz1 := hb1'.size
  clear hb1' hb1 ho1 hi1 ht1 hX hp1
  go_wp2_with fail
  refine (arNew_walk _ own1 1 64 (by decide) (by decide) (fun b hb => HT1.out b (by simpa [World.setCell] using hb))).mono ?_
  rintro e w2 ⟨p2, own2, rfl, hp2, hb2, ho2, hi2, ht2⟩
  have hb2' : Below w1.heap.size (w1.setCell ⟨w.heap.size, 1, none⟩ (.pointer (some ⟨p1, 0, none⟩))) w2 := by
    have e1 : (w1.setCell ⟨w.heap.size, 1, none⟩ (.pointer (some ⟨p1, 0, none⟩))).heap.size = w1.heap.size := by simp [World.setCell]
    rwa [e1] at hb2
  have hlt1 : w.heap.size < w1.heap.size := by
    have : (w.alloc (.cells #[.int .i64 (limit : Int), .pointer none, .pointer none, .slice none 0 0, .slice none 0 0, .slice none 0 0, .int .i64 0, .int .i64 0, .int .i64 0, .slice none 0 0, .int .i64 0, .int .i64 0, .int .i64 0, .int .i64 0, .int .i64 0, .int .i64 0, .int .i64 0, .int .i64 0, .int .i64 0] 85)).heap.size = w.heap.size + 1 := by simp
    omega
  have hX2 : w2.heap[w.heap.size]? = some (.cells #[.int .i64 (limit : Int), .pointer (some ⟨p1, 0, none⟩), .pointer none, .slice none 0 0, .slice none 0 0, .slice none 0 0, .int .i64 0, .int .i64 0, .int .i64 0, .slice none 0 0, .int .i64 0, .int .i64 0, .int .i64 0, .int .i64 0, .int .i64 0, .int .i64 0, .int .i64 0, .int .i64 0, .int .i64 0] 85 (0, 0)) := by
    rw [hb2'.block w.heap.size hlt1, setCell_at, if_pos rfl, HX.out]; rfl
  have y1 : w2.cell? ⟨w.heap.size, 2, none⟩ = some (.pointer none) := by simp [World.cell?, hX2]
  have y2 : w2.frozen? ⟨w.heap.size, 2, none⟩ = false := by simp [World.frozen?, hX2]
  have HF := Lib.hid (hnew_fin HB1.out HO1.out HI1.out hb2' ho2 hi2 ht2)
  clear hb2 hb2' ho2 hi2 ht2 hp2 hX2 x1 x2
  go_wp2_with fail
  go_ret2
  exact HF.out
end Go.Proofs.Ythdahjmkkdljbaa.Sp
