-- printed by print.py
import Derived.Test.YtdhkhjfjjbdkgaaRLx0
import Derived.Test.YtdhkhjfjjbdkgaaRLx7
import Derived.Test.YtdhkhjfjjbdkgaaRLx7b
namespace Go.Proofs.Ytdhkhjfjjbdkgaa.Rec
open Go.RowKit Go.Proofs.YtdhkhjfjjbdkgaaW.PrintWords Go.Proofs.YtdhkhjfjjbdkgaaW.PrintLast Go.Proofs.YtdhkhjfjjbdkgaaW.PrintMore
attribute [local go_sem] max2_int min2_int max_two min_two max_three min_three max_four min_four
set_option linter.unusedVariables false
set_option linter.unusedSimpArgs false

/-! ### larderref16_Eye_entry: function 68 -/
mutual
def larderref16_Eye_entry.l0 : Nat → Int → Int → List Int → Int → Bool → Int → Int → List (S76) → Option (Int × Int × (List (S76)) × Int × Bool)
 | 0, _, _, _, _, _, _, _, _ => none
 | k + 1, x4, x5, x1000, x1001, x1002, x339000, x339001, x339002 => if x5 < x4 then (larderref16_Eye_entry.j1 k x4 x5 (!x1002) x1000 x1001 x1002 x339000 x339001 x339002) else (larderref16_Eye_entry.j1 k x4 x5 false x1000 x1001 x1002 x339000 x339001 x339002)
def larderref16_Eye_entry.j1 : Nat → Int → Int → Bool → List Int → Int → Bool → Int → Int → List (S76) → Option (Int × Int × (List (S76)) × Int × Bool)
 | 0, _, _, _, _, _, _, _, _, _ => none
 | k + 1, x4, x5, x28, x1000, x1001, x1002, x339000, x339001, x339002 => if x28 = true then ((larderref16_Eye_num.f k x1000 x1001 x1002 1).bind fun bt349 => ((larderref16_Eye_num.f k x1000 bt349.2.1 bt349.2.2 4).bind fun bt352 => (larderref16_Eye_entry.l1 k x4 x5 bt352.1 0 x1000 bt352.2.1 bt352.2.2 x339000 x339001 x339002 (wrap64 (bt349.1)) ([] : List (List Int))))) else (some (x339000, x339001, x339002, x1001, x1002))
def larderref16_Eye_entry.l1 : Nat → Int → Int → Int → Int → List Int → Int → Bool → Int → Int → List (S76) → Int → List (List Int) → Option (Int × Int × (List (S76)) × Int × Bool)
 | 0, _, _, _, _, _, _, _, _, _, _, _, _ => none
 | k + 1, x4, x5, x7, x8, x1000, x1001, x1002, x339000, x339001, x339002, x349000, x349001 => if x8 < x7 then (if x1002 = true then (if x339002.length < 4398046511104 then (larderref16_Eye_entry.l0 k x4 (IntKind.u64.wrap (x5 + 1)) x1000 x1001 x1002 x339000 x339001 (x339002 ++ [(⟨x349000, x349001⟩ : S76)])) else (none)) else ((larderref16_Eye_text.f k x1000 x1001 x1002).bind fun bt358 => (if x349001.length < 5864062014805 then (larderref16_Eye_entry.l1 k x4 x5 x7 (IntKind.u64.wrap (x8 + 1)) x1000 bt358.2.1 bt358.2.2 x339000 x339001 x339002 x349000 (x349001 ++ [bt358.1])) else (none)))) else (if x339002.length < 4398046511104 then (larderref16_Eye_entry.l0 k x4 (IntKind.u64.wrap (x5 + 1)) x1000 x1001 x1002 x339000 x339001 (x339002 ++ [(⟨x349000, x349001⟩ : S76)])) else (none))
end
def larderref16_Eye_entry.f (k : Nat) (s0_0 : List Int) (s0_1 : Int) (s0_2 : Bool) : Option (Int × Int × (List (S76)) × Int × Bool) := (larderref16_Eye_num.f k s0_0 s0_1 s0_2 8).bind fun bt339 => ((larderref16_Eye_num.f k s0_0 bt339.2.1 bt339.2.2 8).bind fun bt342 => ((larderref16_Eye_num.f k s0_0 bt342.2.1 bt342.2.2 4).bind fun bt345 => (larderref16_Eye_entry.l0 k bt345.1 0 s0_0 bt345.2.1 bt345.2.2 (wrap64 (bt339.1)) bt342.1 ([] : List (S76)))))
theorem larderref16_Eye_entry.mono_l : ∀ k, (∀ y0 y1 y2 y3 y4 y5 y6 y7, LeO (larderref16_Eye_entry.l0 k y0 y1 y2 y3 y4 y5 y6 y7) (larderref16_Eye_entry.l0 (k + 1) y0 y1 y2 y3 y4 y5 y6 y7)) ∧ (∀ y0 y1 y2 y3 y4 y5 y6 y7 y8, LeO (larderref16_Eye_entry.j1 k y0 y1 y2 y3 y4 y5 y6 y7 y8) (larderref16_Eye_entry.j1 (k + 1) y0 y1 y2 y3 y4 y5 y6 y7 y8)) ∧ (∀ y0 y1 y2 y3 y4 y5 y6 y7 y8 y9 y10 y11, LeO (larderref16_Eye_entry.l1 k y0 y1 y2 y3 y4 y5 y6 y7 y8 y9 y10 y11) (larderref16_Eye_entry.l1 (k + 1) y0 y1 y2 y3 y4 y5 y6 y7 y8 y9 y10 y11))
 | 0 => ⟨fun _ _ _ _ _ _ _ _ r h => by simp [larderref16_Eye_entry.l0] at h, fun _ _ _ _ _ _ _ _ _ r h => by simp [larderref16_Eye_entry.j1] at h, fun _ _ _ _ _ _ _ _ _ _ _ _ r h => by simp [larderref16_Eye_entry.l1] at h⟩
 | k + 1 => by
  obtain ⟨ih0, ih1, ih2⟩ := larderref16_Eye_entry.mono_l k
  refine ⟨?_, ?_, ?_⟩
  ·
   intro y0 y1 y2 y3 y4 y5 y6 y7
   unfold larderref16_Eye_entry.l0
   repeat' first
   | (with_reducible exact ih0 _ _ _ _ _ _ _ _)
   | (with_reducible exact ih1 _ _ _ _ _ _ _ _ _)
   | (with_reducible exact ih2 _ _ _ _ _ _ _ _ _ _ _ _)
   | (with_reducible exact larderref16_Eye_num.mono _ _ _ _ _)
   | (with_reducible exact larderref16_Eye_text.mono _ _ _ _)
   | (with_reducible exact LeO.refl _)
   | (with_reducible exact LeO.none _)
   | (with_reducible refine LeO.ite ?_ ?_)
   | (with_reducible refine LeO.bind ?_ (fun _ => ?_))
  ·
   intro y0 y1 y2 y3 y4 y5 y6 y7 y8
   unfold larderref16_Eye_entry.j1
   repeat' first
   | (with_reducible exact ih0 _ _ _ _ _ _ _ _)
   | (with_reducible exact ih1 _ _ _ _ _ _ _ _ _)
   | (with_reducible exact ih2 _ _ _ _ _ _ _ _ _ _ _ _)
   | (with_reducible exact larderref16_Eye_num.mono _ _ _ _ _)
   | (with_reducible exact larderref16_Eye_text.mono _ _ _ _)
   | (with_reducible exact LeO.refl _)
   | (with_reducible exact LeO.none _)
   | (with_reducible refine LeO.ite ?_ ?_)
   | (with_reducible refine LeO.bind ?_ (fun _ => ?_))
  ·
   intro y0 y1 y2 y3 y4 y5 y6 y7 y8 y9 y10 y11
   unfold larderref16_Eye_entry.l1
   repeat' first
   | (with_reducible exact ih0 _ _ _ _ _ _ _ _)
   | (with_reducible exact ih1 _ _ _ _ _ _ _ _ _)
   | (with_reducible exact ih2 _ _ _ _ _ _ _ _ _ _ _ _)
   | (with_reducible exact larderref16_Eye_num.mono _ _ _ _ _)
   | (with_reducible exact larderref16_Eye_text.mono _ _ _ _)
   | (with_reducible exact LeO.refl _)
   | (with_reducible exact LeO.none _)
   | (with_reducible refine LeO.ite ?_ ?_)
   | (with_reducible refine LeO.bind ?_ (fun _ => ?_))
theorem larderref16_Eye_entry.mono : ∀ a0 a1 a2 k, LeO (larderref16_Eye_entry.f k a0 a1 a2) (larderref16_Eye_entry.f (k + 1) a0 a1 a2) := by
 intro a0 a1 a2 k
 obtain ⟨ih0, ih1, ih2⟩ := larderref16_Eye_entry.mono_l k
 unfold larderref16_Eye_entry.f
 repeat' first
   | (with_reducible exact ih0 _ _ _ _ _ _ _ _)
   | (with_reducible exact ih1 _ _ _ _ _ _ _ _ _)
   | (with_reducible exact ih2 _ _ _ _ _ _ _ _ _ _ _ _)
   | (with_reducible exact larderref16_Eye_num.mono _ _ _ _ _)
   | (with_reducible exact larderref16_Eye_text.mono _ _ _ _)
   | (with_reducible exact LeO.refl _)
   | (with_reducible exact LeO.none _)
   | (with_reducible refine LeO.ite ?_ ?_)
   | (with_reducible refine LeO.bind ?_ (fun _ => ?_))
def larderref16_Eye_entry.T14 : Bool × List (List Nat × List Nat) := (true, [([], []), ([0], [0]), ([], []), ([2], [2]), ([3], [3]), ([1, 4, 3], [1, 4]), ([0, 1, 2, 3, 4, 5], []), ([6, 5, 5, 0, 1, 2, 3, 4, 5], [5, 6])])
def larderref16_Eye_entry.B14 : List Nat := [0, 1, 0, 4, 12, 31, 63, 127]
theorem larderref16_Eye_entry.tab14 : rtab .any (opsOf Try.f68 14) = larderref16_Eye_entry.T14 := by kernel_rfl
theorem larderref16_Eye_entry.bits14 : waitsOk larderref16_Eye_entry.T14.2 larderref16_Eye_entry.B14 = true := by kernel_rfl
set_option maxHeartbeats 8000000 in
set_option maxRecDepth 100000 in
theorem larderref16_Eye_entry.calls (k : Nat) (g : Nat) (s0_0 : List Int) (s0_1 : Int) (s0_2 : Bool) (r1 : Int) (r2 : Int) (r3 : List (S76)) (r4 : Int) (r5 : Bool) (w0 w : World) (hI : IsS104 w0 w g s0_0 s0_1 s0_2) (hB : Below w0.heap.size w0 w) (h : larderref16_Eye_entry.f k s0_0 s0_1 s0_2 = some (r1, r2, r3, r4, r5)) :
  Calls Try.prog 68 #[.pointer (some ⟨g, 0, none⟩)] w fun e w' => ∃ v2_ : Value, e = .returned (.agg #[.int .i64 r1, .int .u64 r2, v2_]) ∧ Kd.R k76 76 w' w.heap.size (fun _ => True) v2_ r3 ∧ IsS104 w0 w' g s0_0 r4 r5 ∧ Below w0.heap.size w0 w' ∧ KeepBut w w' g none := by
 have hu33 := Try.underlying33
 have hu76 := Try.underlying76
 have HI0 := ak hI
 have HK := ak (KeepBut.refl w g none)
 have HL := ak hB.size
 clear hI
 have HW0 := ak hB.size
 have HB := ak hB
 clear hB
 have H : ((larderref16_Eye_num.f k s0_0 s0_1 s0_2 8).bind fun bt339 => ((larderref16_Eye_num.f k s0_0 bt339.2.1 bt339.2.2 8).bind fun bt342 => ((larderref16_Eye_num.f k s0_0 bt342.2.1 bt342.2.2 4).bind fun bt345 => (larderref16_Eye_entry.l0 k bt345.1 0 s0_0 bt345.2.1 bt345.2.2 (wrap64 (bt339.1)) bt342.1 ([] : List (S76)))))) = some (r1, r2, r3, r4, r5) := h
 clear h
 replace H := Option.bind_eq_some_iff.mp H
 obtain ⟨⟨t339, t340, t341⟩, A20, H⟩ := H
 replace H : ((larderref16_Eye_num.f k s0_0 t340 t341 8).bind fun bt342 => ((larderref16_Eye_num.f k s0_0 bt342.2.1 bt342.2.2 4).bind fun bt345 => (larderref16_Eye_entry.l0 k bt345.1 0 s0_0 bt345.2.1 bt345.2.2 (wrap64 (t339)) bt342.1 ([] : List (S76))))) = some (r1, r2, r3, r4, r5) := H
 have A2 := ak A20
 clear A20
 replace H := Option.bind_eq_some_iff.mp H
 obtain ⟨⟨t342, t343, t344⟩, A30, H⟩ := H
 replace H : ((larderref16_Eye_num.f k s0_0 t343 t344 4).bind fun bt345 => (larderref16_Eye_entry.l0 k bt345.1 0 s0_0 bt345.2.1 bt345.2.2 (wrap64 (t339)) t342 ([] : List (S76)))) = some (r1, r2, r3, r4, r5) := H
 have A3 := ak A30
 clear A30
 replace H := Option.bind_eq_some_iff.mp H
 obtain ⟨⟨t345, t346, t347⟩, A40, H⟩ := H
 replace H : (larderref16_Eye_entry.l0 k t345 0 s0_0 t346 t347 (wrap64 (t339)) t342 ([] : List (S76))) = some (r1, r2, r3, r4, r5) := H
 have A4 := ak A40
 clear A40
 have H' := ak H
 clear H
 go_enter Try.func68, Try.ntmps68
 go_wp2_with (first | ((with_reducible refine gate_dst (N := 2) rfl ?_); refine box_event ?hg (N := 2) ?hd (cs := #[.int .i64 0, .int .u64 0, .slice none 0 0]) (t := 33) ?hr ?_; (case hd => rfl); (case hg => rfl); (case hr => first | (go_simp; done) | (go_simp; rfl)); intro gb337 hg w5 hbox hb; have n0_ := ak (IsS104.below (by repeat (first | (with_reducible first | exact HI0.out | apply IsS104.alloc | apply IsS104.drewN | apply IsS104.drew | apply IsS104.set_1 | apply IsS104.set_2) | exact HI0.out)) hb); have n1_ := ak (KeepBut.trans (by repeat (first | (with_reducible first | exact HK.out | apply KeepBut.set_ | apply keep_drewN | apply keep_drew | apply keep_alloc) | exact HK.out)) (KeepBut.of_below hb g none) (.inl rfl)); have n2_ := ak (below_step (by repeat (first | (with_reducible first | exact HB.out | apply bA | apply bN | apply b1 | refine below_set ?_ (IsS104.ge HI0.out)) | exact HB.out)) hb); have n3_ := ak (hbox); have n4_ := ak ((by rw [hg]; exact (keep_size (w := w) (g := g) (row := none) (by repeat (first | (with_reducible first | exact HK.out | apply KeepBut.set_ | apply keep_drewN | apply keep_drew | apply keep_alloc) | exact HK.out))) : w.heap.size ≤ gb337)); have n5_ := ak ((Nat.le_trans HW0.out (by rw [hg]; exact (keep_size (w := w) (g := g) (row := none) (by repeat (first | (with_reducible first | exact HK.out | apply KeepBut.set_ | apply keep_drewN | apply keep_drew | apply keep_alloc) | exact HK.out))) : w.heap.size ≤ gb337) : w0.heap.size ≤ gb337)); have n6_ := ak ((by rw [hg]; exact Nat.ne_of_lt (IsS104.lt (show IsS104 w0 _ g s0_0 s0_1 s0_2 from by repeat (first | (with_reducible first | exact HI0.out | apply IsS104.alloc | apply IsS104.drewN | apply IsS104.drew | apply IsS104.set_1 | apply IsS104.set_2) | exact HI0.out))) : g ≠ gb337)); have n7_ := ak ((by rw [hg]; exact Nat.ne_of_gt (IsS104.lt (show IsS104 w0 _ g s0_0 s0_1 s0_2 from by repeat (first | (with_reducible first | exact HI0.out | apply IsS104.alloc | apply IsS104.drewN | apply IsS104.drew | apply IsS104.set_1 | apply IsS104.set_2) | exact HI0.out))) : gb337 ≠ g)); clear HI0; clear HK; clear HB; have HI0 := n0_; have HK := n1_; have HB := n2_; have BK337 := n3_; have GW337 := n4_; have GE337 := n5_; have NB0_337 := n6_; have NB337_0 := n7_; clear n0_ n1_ n2_ n3_ n4_ n5_ n6_ n7_; clear hb hbox hg) | ((with_reducible refine gate_dst (N := 3) rfl ?_); refine box_event ?hg (N := 3) ?hd (cs := #[.int .i64 0, .int .u64 0, .slice none 0 0]) (t := 33) ?hr ?_; (case hd => rfl); (case hg => rfl); (case hr => first | (go_simp; done) | (go_simp; rfl)); intro gb338 hg w6 hbox hb; have n0_ := ak (IsS104.below (by repeat (first | (with_reducible first | exact HI0.out | apply IsS104.alloc | apply IsS104.drewN | apply IsS104.drew | apply IsS104.set_1 | apply IsS104.set_2 | refine IsS104.far ?_ NB0_337.out _) | exact HI0.out)) hb); have n1_ := ak (blk_below (g := gb337) (o := .cells #[.int .i64 0, .int .u64 0, .slice none 0 0] 33 (0, 0)) (by (with_reducible repeat (first | refine blk_drewN ?_ _ | refine blk_drew ?_ | refine blk_alloc ?_ _)); exact BK337.out) hb); have n2_ := ak (KeepBut.trans (by repeat (first | (with_reducible first | exact HK.out | apply KeepBut.set_ | apply keep_drewN | apply keep_drew | apply keep_alloc | refine keep_far ?_ GW337.out _) | exact HK.out)) (KeepBut.of_below hb g none) (.inl rfl)); have n3_ := ak (below_step (by repeat (first | (with_reducible first | exact HB.out | apply bA | apply bN | apply b1 | refine below_set ?_ (IsS104.ge HI0.out) | refine below_set ?_ GE337.out) | exact HB.out)) hb); have n4_ := ak (hbox); have n5_ := ak ((by rw [hg]; exact (keep_size (w := w) (g := g) (row := none) (by repeat (first | (with_reducible first | exact HK.out | apply KeepBut.set_ | apply keep_drewN | apply keep_drew | apply keep_alloc | refine keep_far ?_ GW337.out _) | exact HK.out))) : w.heap.size ≤ gb338)); have n6_ := ak ((Nat.le_trans HW0.out (by rw [hg]; exact (keep_size (w := w) (g := g) (row := none) (by repeat (first | (with_reducible first | exact HK.out | apply KeepBut.set_ | apply keep_drewN | apply keep_drew | apply keep_alloc | refine keep_far ?_ GW337.out _) | exact HK.out))) : w.heap.size ≤ gb338) : w0.heap.size ≤ gb338)); have n7_ := ak ((by rw [hg]; exact Nat.ne_of_lt (blk_lt (g := gb337) (o := .cells #[.int .i64 0, .int .u64 0, .slice none 0 0] 33 (0, 0)) (by (with_reducible repeat (first | refine blk_drewN ?_ _ | refine blk_drew ?_ | refine blk_alloc ?_ _)); exact BK337.out)) : gb337 ≠ gb338)); have n8_ := ak ((by rw [hg]; exact Nat.ne_of_gt (blk_lt (g := gb337) (o := .cells #[.int .i64 0, .int .u64 0, .slice none 0 0] 33 (0, 0)) (by (with_reducible repeat (first | refine blk_drewN ?_ _ | refine blk_drew ?_ | refine blk_alloc ?_ _)); exact BK337.out)) : gb338 ≠ gb337)); have n9_ := ak ((by rw [hg]; exact Nat.ne_of_lt (IsS104.lt (show IsS104 w0 _ g s0_0 s0_1 s0_2 from by repeat (first | (with_reducible first | exact HI0.out | apply IsS104.alloc | apply IsS104.drewN | apply IsS104.drew | apply IsS104.set_1 | apply IsS104.set_2 | refine IsS104.far ?_ NB0_337.out _) | exact HI0.out))) : g ≠ gb338)); have n10_ := ak ((by rw [hg]; exact Nat.ne_of_gt (IsS104.lt (show IsS104 w0 _ g s0_0 s0_1 s0_2 from by repeat (first | (with_reducible first | exact HI0.out | apply IsS104.alloc | apply IsS104.drewN | apply IsS104.drew | apply IsS104.set_1 | apply IsS104.set_2 | refine IsS104.far ?_ NB0_337.out _) | exact HI0.out))) : gb338 ≠ g)); clear HI0; clear BK337; clear HK; clear HB; have HI0 := n0_; have BK337 := n1_; have HK := n2_; have HB := n3_; have BK338 := n4_; have GW338 := n5_; have GE338 := n6_; have NB337_338 := n7_; have NB338_337 := n8_; have NB0_338 := n9_; have NB338_0 := n10_; clear n0_ n1_ n2_ n3_ n4_ n5_ n6_ n7_ n8_ n9_ n10_; clear hb hbox hg; have hnb7 := NB338_337.out; have hnc7 := NB337_338.out; have hnb8 := NB338_0.out; have hnc8 := NB0_338.out; have hcz9_0 : w6.cell? ⟨gb338, 0, none⟩ = some (.int .i64 0) := (blk_cell BK338.out 0).trans rfl; have hcz9_1 : w6.cell? ⟨gb338, 1, none⟩ = some (.int .u64 0) := (blk_cell BK338.out 1).trans rfl; have hcz9_2 : w6.cell? ⟨gb338, 2, none⟩ = some (.slice none 0 0) := (blk_cell BK338.out 2).trans rfl; have hfz9_0 := blk_frozen BK338.out 0; have hfz9_1 := blk_frozen BK338.out 1; have hfz9_2 := blk_frozen BK338.out 2) | ((with_reducible refine gate_callee (f := 66) rfl ?_); refine goesL_ (some 11) rfl rfl Try.func66 (by kernel_rfl) rfl #[.pointer (some ⟨g, 0, none⟩), .int .i64 8] rfl (by (try simp only [List.map_toArray, List.map_cons, List.map_nil]); first | done | rfl) ?_; (with_reducible refine (larderref16_Eye_num.calls k g s0_0 s0_1 s0_2 8 t339 t340 t341 w0 _ ?side1 ?side2 A2.out).mono ?_); (case side1 => repeat (first | (with_reducible first | exact HI0.out | apply IsS104.alloc | apply IsS104.drewN | apply IsS104.drew | apply IsS104.set_1 | apply IsS104.set_2 | refine IsS104.far ?_ NB0_337.out _ | refine IsS104.far ?_ NB0_338.out _) | exact HI0.out)); (case side2 => repeat (first | (with_reducible first | exact HB.out | apply bA | apply bN | apply b1 | refine below_set ?_ (IsS104.ge HI0.out) | refine below_set ?_ GE337.out | refine below_set ?_ GE338.out) | exact HB.out)); rintro e w10 ⟨rfl, hi, hb, hk⟩; refine ⟨_, rfl, ?_⟩; have n0_ := ak (KeepBut.blk hk (g' := gb337) (o := .cells #[.int .i64 0, .int .u64 0, .slice none 0 0] 33 (0, 0)) (by (with_reducible repeat (first | refine blk_drewN ?_ _ | refine blk_drew ?_ | refine blk_alloc ?_ _)); refine blk_far ?_ NB337_338.out _; (with_reducible repeat (first | refine blk_drewN ?_ _ | refine blk_drew ?_ | refine blk_alloc ?_ _)); refine blk_far ?_ NB337_338.out _; (with_reducible repeat (first | refine blk_drewN ?_ _ | refine blk_drew ?_ | refine blk_alloc ?_ _)); refine blk_far ?_ NB337_338.out _; (with_reducible repeat (first | refine blk_drewN ?_ _ | refine blk_drew ?_ | refine blk_alloc ?_ _)); exact BK337.out) NB337_0.out (by simp)); have n1_ := ak (KeepBut.blk hk (g' := gb338) (o := .cells #[.int .i64 0, .int .u64 0, .slice none 0 0] 33 (0, 0)) (by (with_reducible repeat (first | refine blk_drewN ?_ _ | refine blk_drew ?_ | refine blk_alloc ?_ _)); refine blk_put (cs := #[.int .i64 0, .int .u64 0, .slice none 0 0]) ?_ 2 _ rfl; (with_reducible repeat (first | refine blk_drewN ?_ _ | refine blk_drew ?_ | refine blk_alloc ?_ _)); refine blk_put (cs := #[.int .i64 0, .int .u64 0, .slice none 0 0]) ?_ 1 _ rfl; (with_reducible repeat (first | refine blk_drewN ?_ _ | refine blk_drew ?_ | refine blk_alloc ?_ _)); refine blk_put (cs := #[.int .i64 0, .int .u64 0, .slice none 0 0]) ?_ 0 _ rfl; (with_reducible repeat (first | refine blk_drewN ?_ _ | refine blk_drew ?_ | refine blk_alloc ?_ _)); exact BK338.out) NB338_0.out (by simp)); have n2_ := ak (KeepBut.trans (by repeat (first | (with_reducible first | exact HK.out | apply KeepBut.set_ | apply keep_drewN | apply keep_drew | apply keep_alloc | refine keep_far ?_ GW337.out _ | refine keep_far ?_ GW338.out _) | exact HK.out)) hk (.inl rfl)); have n3_ := ak (hb); have n4_ := ak (hi); clear BK337; clear BK338; clear HK; clear HB; clear HI0; have BK337 := n0_; have BK338 := n1_; have HK := n2_; have HB := n3_; have HI0 := n4_; clear n0_ n1_ n2_ n3_ n4_; (try clear hb); (try clear hb2); (try clear hk); (try clear hi); have hcz11_0 : w10.cell? ⟨gb338, 0, none⟩ = some (.int .i64 0) := (blk_cell BK338.out 0).trans rfl; have hcz11_1 : w10.cell? ⟨gb338, 1, none⟩ = some (.int .u64 0) := (blk_cell BK338.out 1).trans rfl; have hcz11_2 : w10.cell? ⟨gb338, 2, none⟩ = some (.slice none 0 0) := (blk_cell BK338.out 2).trans rfl; have hfz11_0 := blk_frozen BK338.out 0; have hfz11_1 := blk_frozen BK338.out 1; have hfz11_2 := blk_frozen BK338.out 2) | ((with_reducible refine gate_callee (f := 66) rfl ?_); refine goesL_ (some 15) rfl rfl Try.func66 (by kernel_rfl) rfl #[.pointer (some ⟨g, 0, none⟩), .int .i64 8] rfl (by (try simp only [List.map_toArray, List.map_cons, List.map_nil]); first | done | rfl) ?_; (with_reducible refine (larderref16_Eye_num.calls k g s0_0 t340 t341 8 t342 t343 t344 w0 _ ?side1 ?side2 A3.out).mono ?_); (case side1 => repeat (first | (with_reducible first | exact HI0.out | apply IsS104.alloc | apply IsS104.drewN | apply IsS104.drew | apply IsS104.set_1 | apply IsS104.set_2 | refine IsS104.far ?_ NB0_337.out _ | refine IsS104.far ?_ NB0_338.out _) | exact HI0.out)); (case side2 => repeat (first | (with_reducible first | exact HB.out | apply bA | apply bN | apply b1 | refine below_set ?_ (IsS104.ge HI0.out) | refine below_set ?_ GE337.out | refine below_set ?_ GE338.out) | exact HB.out)); rintro e w12 ⟨rfl, hi, hb, hk⟩; refine ⟨_, rfl, ?_⟩; have n0_ := ak (KeepBut.blk hk (g' := gb337) (o := .cells #[.int .i64 0, .int .u64 0, .slice none 0 0] 33 (0, 0)) (by (with_reducible repeat (first | refine blk_drewN ?_ _ | refine blk_drew ?_ | refine blk_alloc ?_ _)); refine blk_far ?_ NB337_338.out _; (with_reducible repeat (first | refine blk_drewN ?_ _ | refine blk_drew ?_ | refine blk_alloc ?_ _)); exact BK337.out) NB337_0.out (by simp)); have n1_ := ak (KeepBut.blk hk (g' := gb338) (o := .cells #[.int .i64 (wrap64 (t339)), .int .u64 0, .slice none 0 0] 33 (0, 0)) (by (with_reducible repeat (first | refine blk_drewN ?_ _ | refine blk_drew ?_ | refine blk_alloc ?_ _)); refine blk_put (cs := #[.int .i64 0, .int .u64 0, .slice none 0 0]) ?_ 0 _ rfl; (with_reducible repeat (first | refine blk_drewN ?_ _ | refine blk_drew ?_ | refine blk_alloc ?_ _)); exact BK338.out) NB338_0.out (by simp)); have n2_ := ak (KeepBut.trans (by repeat (first | (with_reducible first | exact HK.out | apply KeepBut.set_ | apply keep_drewN | apply keep_drew | apply keep_alloc | refine keep_far ?_ GW337.out _ | refine keep_far ?_ GW338.out _) | exact HK.out)) hk (.inl rfl)); have n3_ := ak (hb); have n4_ := ak (hi); clear BK337; clear BK338; clear HK; clear HB; clear HI0; have BK337 := n0_; have BK338 := n1_; have HK := n2_; have HB := n3_; have HI0 := n4_; clear n0_ n1_ n2_ n3_ n4_; (try clear hb); (try clear hb2); (try clear hk); (try clear hi); have hcz13_0 : w12.cell? ⟨gb338, 0, none⟩ = some (.int .i64 (wrap64 (t339))) := (blk_cell BK338.out 0).trans rfl; have hcz13_1 : w12.cell? ⟨gb338, 1, none⟩ = some (.int .u64 0) := (blk_cell BK338.out 1).trans rfl; have hcz13_2 : w12.cell? ⟨gb338, 2, none⟩ = some (.slice none 0 0) := (blk_cell BK338.out 2).trans rfl; have hfz13_0 := blk_frozen BK338.out 0; have hfz13_1 := blk_frozen BK338.out 1; have hfz13_2 := blk_frozen BK338.out 2) | ((with_reducible refine gate_callee (f := 66) rfl ?_); refine goesL_ (some 18) rfl rfl Try.func66 (by kernel_rfl) rfl #[.pointer (some ⟨g, 0, none⟩), .int .i64 4] rfl (by (try simp only [List.map_toArray, List.map_cons, List.map_nil]); first | done | rfl) ?_; (with_reducible refine (larderref16_Eye_num.calls k g s0_0 t343 t344 4 t345 t346 t347 w0 _ ?side1 ?side2 A4.out).mono ?_); (case side1 => repeat (first | (with_reducible first | exact HI0.out | apply IsS104.alloc | apply IsS104.drewN | apply IsS104.drew | apply IsS104.set_1 | apply IsS104.set_2 | refine IsS104.far ?_ NB0_337.out _ | refine IsS104.far ?_ NB0_338.out _) | exact HI0.out)); (case side2 => repeat (first | (with_reducible first | exact HB.out | apply bA | apply bN | apply b1 | refine below_set ?_ (IsS104.ge HI0.out) | refine below_set ?_ GE337.out | refine below_set ?_ GE338.out) | exact HB.out)); rintro e w14 ⟨rfl, hi, hb, hk⟩; refine ⟨_, rfl, ?_⟩; have n0_ := ak (KeepBut.blk hk (g' := gb337) (o := .cells #[.int .i64 0, .int .u64 0, .slice none 0 0] 33 (0, 0)) (by (with_reducible repeat (first | refine blk_drewN ?_ _ | refine blk_drew ?_ | refine blk_alloc ?_ _)); refine blk_far ?_ NB337_338.out _; (with_reducible repeat (first | refine blk_drewN ?_ _ | refine blk_drew ?_ | refine blk_alloc ?_ _)); exact BK337.out) NB337_0.out (by simp)); have n1_ := ak (KeepBut.blk hk (g' := gb338) (o := .cells #[.int .i64 (wrap64 (t339)), .int .u64 t342, .slice none 0 0] 33 (0, 0)) (by (with_reducible repeat (first | refine blk_drewN ?_ _ | refine blk_drew ?_ | refine blk_alloc ?_ _)); refine blk_put (cs := #[.int .i64 (wrap64 (t339)), .int .u64 0, .slice none 0 0]) ?_ 1 _ rfl; (with_reducible repeat (first | refine blk_drewN ?_ _ | refine blk_drew ?_ | refine blk_alloc ?_ _)); exact BK338.out) NB338_0.out (by simp)); have n2_ := ak (KeepBut.trans (by repeat (first | (with_reducible first | exact HK.out | apply KeepBut.set_ | apply keep_drewN | apply keep_drew | apply keep_alloc | refine keep_far ?_ GW337.out _ | refine keep_far ?_ GW338.out _) | exact HK.out)) hk (.inl rfl)); have n3_ := ak (hb); have n4_ := ak (hi); clear BK337; clear BK338; clear HK; clear HB; clear HI0; have BK337 := n0_; have BK338 := n1_; have HK := n2_; have HB := n3_; have HI0 := n4_; clear n0_ n1_ n2_ n3_ n4_; (try clear hb); (try clear hb2); (try clear hk); (try clear hi)))
 go_loopg [5] k (fun kq v5 w' => ∃ (x5_1 : Int) (x1001_1 : Int) (x1002_1 : Bool) (x339002_1 : List (S76)) (u339002 : Value), v5 = .int .u64 x5_1 ∧ Aside0 (larderref16_Eye_entry.l0 kq t345 x5_1 s0_0 x1001_1 x1002_1 (wrap64 (t339)) t342 x339002_1 = some (r1, r2, r3, r4, r5)) ∧ Aside0 (kq ≤ k) ∧ Aside0 (Kd.R k76 76 w' w.heap.size (fun _ => True) u339002 x339002_1) ∧ Aside0 (w'.heap[gb337]? = some (.cells #[.int .i64 0, .int .u64 0, (.slice none 0 0)] 33 (0, 0))) ∧ Aside0 (w'.heap[gb338]? = some (.cells #[.int .i64 (wrap64 (t339)), .int .u64 t342, u339002] 33 (0, 0))) ∧ Aside0 (IsS104 w0 w' g s0_0 x1001_1 x1002_1) ∧ Aside0 (KeepBut w w' g none) ∧ Aside0 (Below w0.heap.size w0 w'))
 case atStart => exact ⟨(0), (t346), (t347), (([] : List (S76))), (.slice none 0 0), (by first | rfl | (simp; done) | (simp [*]; done)), H', ⟨Nat.le_refl _⟩, ⟨by first | exact Kd.R_nil _ _ _ _ _ | exact Kd.N_nil _ _ _ _ _ | exact Kd.V_nil _ _ _ _ _ | exact Kd.Q_nil _ _ _ _ _ | exact Kd.S_nil _ _ _ _ _⟩, ⟨by (with_reducible repeat (first | refine blk_drewN ?_ _ | refine blk_drew ?_ | refine blk_alloc ?_ _)); exact BK337.out⟩, ⟨by (with_reducible repeat (first | refine blk_drewN ?_ _ | refine blk_drew ?_ | refine blk_alloc ?_ _)); exact BK338.out⟩, ⟨by repeat (first | (with_reducible first | exact HI0.out | apply IsS104.alloc | apply IsS104.drewN | apply IsS104.drew | apply IsS104.set_1 | apply IsS104.set_2 | refine IsS104.far ?_ NB0_337.out _ | refine IsS104.far ?_ NB0_338.out _) | exact HI0.out)⟩, ⟨by repeat (first | (with_reducible first | exact HK.out | apply KeepBut.set_ | apply keep_drewN | apply keep_drew | apply keep_alloc | refine keep_far ?_ GW337.out _ | refine keep_far ?_ GW338.out _) | exact HK.out)⟩, ⟨by repeat (first | (with_reducible first | exact HB.out | apply bA | apply bN | apply b1 | refine below_set ?_ (IsS104.ge HI0.out) | refine below_set ?_ GE337.out | refine below_set ?_ GE338.out) | exact HB.out)⟩⟩
 case round =>
  clear H'
  try clear p2
  try clear c6
  try clear p6
  try clear c7
  try clear c8
  try clear hcz11_0
  try clear hcz11_1
  try clear hcz11_2
  try clear hcz13_0
  try clear hcz13_1
  try clear hcz13_2
  try clear hcz9_0
  try clear hcz9_1
  try clear hcz9_2
  try clear hfz11_0
  try clear hfz11_1
  try clear hfz11_2
  try clear hfz13_0
  try clear hfz13_1
  try clear hfz13_2
  try clear hfz9_0
  try clear hfz9_1
  try clear hfz9_2
  obtain ⟨x5_1, x1001_1, x1002_1, x339002_1, u339002, rfl, HA, HK1, HO_339002, BK337, BK338, HI0, HK, HB⟩ := hrel
  cases gk with
  | zero => exact absurd HA.out (by simp [larderref16_Eye_entry.l0])
  | succ k1 =>
   have H := HA.out
   clear HA
   simp only [larderref16_Eye_entry.l0] at H
   have HC15 := ak H
   clear H
   go_upto_region 6 with (fail)
   go_cut [28] (fun v28 wc => ∃ (kq : Nat) (x28_14 : Bool), v28 = .bool x28_14 ∧ Aside0 (larderref16_Eye_entry.j1 kq t345 x5_1 x28_14 s0_0 x1001_1 x1002_1 (wrap64 (t339)) t342 x339002_1 = some (r1, r2, r3, r4, r5)) ∧ Aside0 (kq ≤ k1) ∧ Aside0 (Kd.R k76 76 wc w.heap.size (fun _ => True) u339002 x339002_1) ∧ Aside0 (wc.heap[gb337]? = some (.cells #[.int .i64 0, .int .u64 0, (.slice none 0 0)] 33 (0, 0))) ∧ Aside0 (wc.heap[gb338]? = some (.cells #[.int .i64 (wrap64 (t339)), .int .u64 t342, u339002] 33 (0, 0))) ∧ Aside0 (IsS104 w0 wc g s0_0 x1001_1 x1002_1) ∧ Aside0 (KeepBut w wc g none) ∧ Aside0 (Below w0.heap.size w0 wc))
   case first =>
    have H := HC15.out
    clear HC15
    by_cases c16 : x5_1 < t345
    ·
     rw [if_pos c16] at H
     have c16b0 : decide (x5_1 < t345) = true := decide_eq_true c16
     clear c16
     (first | rw [c16b0] | (simp only [i64_w, i32_w]; rw [c16b0]) | skip)
     have H' := ak H
     clear H
     obtain ⟨ASz17_0, cSz17_0, HGz17, hgz17, HSz17_0⟩ := HI0.out
     have hcz17_0 := cellS104_0 HGz17
     have hcz17_1 := cellS104_1 HGz17
     have hcz17_2 := cellS104_2 HGz17
     have hfz17_1 := blk_frozen HGz17 1
     have hfz17_2 := blk_frozen HGz17 2
     clear HGz17 hgz17
     go_wp2
     go_meet
     case rel => exact ⟨_, (!x1002_1), (by first | rfl | (simp; done) | (simp [*]; done)), H', ⟨by have := HK1.out; first | omega | exact Nat.le_refl _⟩, ⟨by (with_reducible repeat (first | apply Kd.R_alloc | apply Kd.R_drewN | apply Kd.R_drew)); exact HO_339002.out⟩, ⟨by (with_reducible repeat (first | refine blk_drewN ?_ _ | refine blk_drew ?_ | refine blk_alloc ?_ _)); exact BK337.out⟩, ⟨by (with_reducible repeat (first | refine blk_drewN ?_ _ | refine blk_drew ?_ | refine blk_alloc ?_ _)); exact BK338.out⟩, ⟨by repeat (first | (with_reducible first | exact HI0.out | apply IsS104.alloc | apply IsS104.drewN | apply IsS104.drew | apply IsS104.set_1 | apply IsS104.set_2 | refine IsS104.far ?_ NB0_337.out _ | refine IsS104.far ?_ NB0_338.out _) | exact HI0.out)⟩, ⟨by repeat (first | (with_reducible first | exact HK.out | apply KeepBut.set_ | apply keep_drewN | apply keep_drew | apply keep_alloc | refine keep_far ?_ GW337.out _ | refine keep_far ?_ GW338.out _) | exact HK.out)⟩, ⟨by repeat (first | (with_reducible first | exact HB.out | apply bA | apply bN | apply b1 | refine below_set ?_ (IsS104.ge HI0.out) | refine below_set ?_ GE337.out | refine below_set ?_ GE338.out) | exact HB.out)⟩⟩
    ·
     rw [if_neg c16] at H
     have c16b0 : decide (x5_1 < t345) = false := decide_eq_false c16
     clear c16
     (first | rw [c16b0] | (simp only [i64_w, i32_w]; rw [c16b0]) | skip)
     have H' := ak H
     clear H
     go_wp2
     go_meet
     case rel => exact ⟨_, (false), (by first | rfl | (simp; done) | (simp [*]; done)), H', ⟨by have := HK1.out; first | omega | exact Nat.le_refl _⟩, ⟨by (with_reducible repeat (first | apply Kd.R_alloc | apply Kd.R_drewN | apply Kd.R_drew)); exact HO_339002.out⟩, ⟨by (with_reducible repeat (first | refine blk_drewN ?_ _ | refine blk_drew ?_ | refine blk_alloc ?_ _)); exact BK337.out⟩, ⟨by (with_reducible repeat (first | refine blk_drewN ?_ _ | refine blk_drew ?_ | refine blk_alloc ?_ _)); exact BK338.out⟩, ⟨by repeat (first | (with_reducible first | exact HI0.out | apply IsS104.alloc | apply IsS104.drewN | apply IsS104.drew | apply IsS104.set_1 | apply IsS104.set_2 | refine IsS104.far ?_ NB0_337.out _ | refine IsS104.far ?_ NB0_338.out _) | exact HI0.out)⟩, ⟨by repeat (first | (with_reducible first | exact HK.out | apply KeepBut.set_ | apply keep_drewN | apply keep_drew | apply keep_alloc | refine keep_far ?_ GW337.out _ | refine keep_far ?_ GW338.out _) | exact HK.out)⟩, ⟨by repeat (first | (with_reducible first | exact HB.out | apply bA | apply bN | apply b1 | refine below_set ?_ (IsS104.ge HI0.out) | refine below_set ?_ GE337.out | refine below_set ?_ GE338.out) | exact HB.out)⟩⟩
   case rest =>
    clear HC15
    try clear c1
    try clear p2
    try clear c6
    try clear p6
    try clear c7
    try clear c8
    try clear c16
    try clear c16b0
    try clear hcz11_0
    try clear hcz11_1
    try clear hcz11_2
    try clear hcz13_0
    try clear hcz13_1
    try clear hcz13_2
    try clear hcz17_0
    try clear hcz17_1
    try clear hcz17_2
    try clear hcz9_0
    try clear hcz9_1
    try clear hcz9_2
    try clear hfz11_0
    try clear hfz11_1
    try clear hfz11_2
    try clear hfz13_0
    try clear hfz13_1
    try clear hfz13_2
    try clear hfz17_1
    try clear hfz17_2
    try clear hfz9_0
    try clear hfz9_1
    try clear hfz9_2
    try clear p2
    try clear p6
    obtain ⟨kq, x28_14, rfl, HA, HJ14, HO_339002, BK337, BK338, HI0, HK, HB⟩ := hcut
    cases kq with
    | zero => exact absurd HA.out (by simp [larderref16_Eye_entry.j1])
    | succ kj14 =>
     have H := HA.out
     clear HA
     simp only [larderref16_Eye_entry.j1] at H
     by_cases c18 : x28_14 = true
     ·
      subst c18
      have H1 : ((larderref16_Eye_num.f kj14 s0_0 x1001_1 x1002_1 1).bind fun bt349 => ((larderref16_Eye_num.f kj14 s0_0 bt349.2.1 bt349.2.2 4).bind fun bt352 => (larderref16_Eye_entry.l1 kj14 t345 x5_1 bt352.1 0 s0_0 bt352.2.1 bt352.2.2 (wrap64 (t339)) t342 x339002_1 (wrap64 (bt349.1)) ([] : List (List Int))))) = some (r1, r2, r3, r4, r5) := by rw [if_pos rfl] at H; exact H
      clear H
      have H := H1
      clear H1
      replace H := Option.bind_eq_some_iff.mp H
      obtain ⟨⟨t349, t350, t351⟩, A190, H⟩ := H
      replace H : ((larderref16_Eye_num.f kj14 s0_0 t350 t351 4).bind fun bt352 => (larderref16_Eye_entry.l1 kj14 t345 x5_1 bt352.1 0 s0_0 bt352.2.1 bt352.2.2 (wrap64 (t339)) t342 x339002_1 (wrap64 (t349)) ([] : List (List Int)))) = some (r1, r2, r3, r4, r5) := H
      have A19 := ak A190
      clear A190
      replace H := Option.bind_eq_some_iff.mp H
      obtain ⟨⟨t352, t353, t354⟩, A200, H⟩ := H
      replace H : (larderref16_Eye_entry.l1 kj14 t345 x5_1 t352 0 s0_0 t353 t354 (wrap64 (t339)) t342 x339002_1 (wrap64 (t349)) ([] : List (List Int))) = some (r1, r2, r3, r4, r5) := H
      have A20 := ak A200
      clear A200
      have H' := ak H
      clear H
      go_wp2_with (first | ((with_reducible refine gate_dst (N := 6) rfl ?_); refine box_event ?hg (N := 6) ?hd (cs := #[.int .i64 0, .slice none 0 0]) (t := 76) ?hr ?_; (case hd => rfl); (case hg => rfl); (case hr => first | (go_simp; done) | (go_simp; rfl)); intro gb348 hg w21 hbox hb; have n0_ := ak (Kd.R_below (Kd.R_elderB (by (with_reducible repeat (first | apply Kd.R_alloc | apply Kd.R_drewN | apply Kd.R_drew)); exact HO_339002.out) gb348 (Nat.le_of_eq hg.symm)) hb); have n1_ := ak (blk_below (g := gb337) (o := .cells #[.int .i64 0, .int .u64 0, .slice none 0 0] 33 (0, 0)) (by (with_reducible repeat (first | refine blk_drewN ?_ _ | refine blk_drew ?_ | refine blk_alloc ?_ _)); exact BK337.out) hb); have n2_ := ak (blk_below (g := gb338) (o := .cells #[.int .i64 (wrap64 (t339)), .int .u64 t342, u339002] 33 (0, 0)) (by (with_reducible repeat (first | refine blk_drewN ?_ _ | refine blk_drew ?_ | refine blk_alloc ?_ _)); exact BK338.out) hb); have n3_ := ak (IsS104.below (by repeat (first | (with_reducible first | exact HI0.out | apply IsS104.alloc | apply IsS104.drewN | apply IsS104.drew | apply IsS104.set_1 | apply IsS104.set_2 | refine IsS104.far ?_ NB0_337.out _ | refine IsS104.far ?_ NB0_338.out _) | exact HI0.out)) hb); have n4_ := ak (KeepBut.trans (by repeat (first | (with_reducible first | exact HK.out | apply KeepBut.set_ | apply keep_drewN | apply keep_drew | apply keep_alloc | refine keep_far ?_ GW337.out _ | refine keep_far ?_ GW338.out _) | exact HK.out)) (KeepBut.of_below hb g none) (.inl rfl)); have n5_ := ak (below_step (by repeat (first | (with_reducible first | exact HB.out | apply bA | apply bN | apply b1 | refine below_set ?_ (IsS104.ge HI0.out) | refine below_set ?_ GE337.out | refine below_set ?_ GE338.out) | exact HB.out)) hb); have n6_ := ak (hbox); have n7_ := ak ((by rw [hg]; exact (keep_size (w := w) (g := g) (row := none) (by repeat (first | (with_reducible first | exact HK.out | apply KeepBut.set_ | apply keep_drewN | apply keep_drew | apply keep_alloc | refine keep_far ?_ GW337.out _ | refine keep_far ?_ GW338.out _) | exact HK.out))) : w.heap.size ≤ gb348)); have n8_ := ak ((Nat.le_trans HW0.out (by rw [hg]; exact (keep_size (w := w) (g := g) (row := none) (by repeat (first | (with_reducible first | exact HK.out | apply KeepBut.set_ | apply keep_drewN | apply keep_drew | apply keep_alloc | refine keep_far ?_ GW337.out _ | refine keep_far ?_ GW338.out _) | exact HK.out))) : w.heap.size ≤ gb348) : w0.heap.size ≤ gb348)); have n9_ := ak ((by rw [hg]; exact Nat.ne_of_lt (blk_lt (g := gb337) (o := .cells #[.int .i64 0, .int .u64 0, .slice none 0 0] 33 (0, 0)) (by (with_reducible repeat (first | refine blk_drewN ?_ _ | refine blk_drew ?_ | refine blk_alloc ?_ _)); exact BK337.out)) : gb337 ≠ gb348)); have n10_ := ak ((by rw [hg]; exact Nat.ne_of_gt (blk_lt (g := gb337) (o := .cells #[.int .i64 0, .int .u64 0, .slice none 0 0] 33 (0, 0)) (by (with_reducible repeat (first | refine blk_drewN ?_ _ | refine blk_drew ?_ | refine blk_alloc ?_ _)); exact BK337.out)) : gb348 ≠ gb337)); have n11_ := ak ((by rw [hg]; exact Nat.ne_of_lt (blk_lt (g := gb338) (o := .cells #[.int .i64 (wrap64 (t339)), .int .u64 t342, u339002] 33 (0, 0)) (by (with_reducible repeat (first | refine blk_drewN ?_ _ | refine blk_drew ?_ | refine blk_alloc ?_ _)); exact BK338.out)) : gb338 ≠ gb348)); have n12_ := ak ((by rw [hg]; exact Nat.ne_of_gt (blk_lt (g := gb338) (o := .cells #[.int .i64 (wrap64 (t339)), .int .u64 t342, u339002] 33 (0, 0)) (by (with_reducible repeat (first | refine blk_drewN ?_ _ | refine blk_drew ?_ | refine blk_alloc ?_ _)); exact BK338.out)) : gb348 ≠ gb338)); have n13_ := ak ((by rw [hg]; exact Nat.ne_of_lt (IsS104.lt (show IsS104 w0 _ g s0_0 x1001_1 x1002_1 from by repeat (first | (with_reducible first | exact HI0.out | apply IsS104.alloc | apply IsS104.drewN | apply IsS104.drew | apply IsS104.set_1 | apply IsS104.set_2 | refine IsS104.far ?_ NB0_337.out _ | refine IsS104.far ?_ NB0_338.out _) | exact HI0.out))) : g ≠ gb348)); have n14_ := ak ((by rw [hg]; exact Nat.ne_of_gt (IsS104.lt (show IsS104 w0 _ g s0_0 x1001_1 x1002_1 from by repeat (first | (with_reducible first | exact HI0.out | apply IsS104.alloc | apply IsS104.drewN | apply IsS104.drew | apply IsS104.set_1 | apply IsS104.set_2 | refine IsS104.far ?_ NB0_337.out _ | refine IsS104.far ?_ NB0_338.out _) | exact HI0.out))) : gb348 ≠ g)); clear HO_339002; clear BK337; clear BK338; clear HI0; clear HK; clear HB; have HO_339002 := n0_; have BK337 := n1_; have BK338 := n2_; have HI0 := n3_; have HK := n4_; have HB := n5_; have BK348 := n6_; have GW348 := n7_; have GE348 := n8_; have NB337_348 := n9_; have NB348_337 := n10_; have NB338_348 := n11_; have NB348_338 := n12_; have NB0_348 := n13_; have NB348_0 := n14_; clear n0_ n1_ n2_ n3_ n4_ n5_ n6_ n7_ n8_ n9_ n10_ n11_ n12_ n13_ n14_; clear hb hbox hg; have hnb22 := NB348_337.out; have hnc22 := NB337_348.out; have hnb23 := NB348_338.out; have hnc23 := NB338_348.out; have hnb24 := NB348_0.out; have hnc24 := NB0_348.out; have hcz25_0 : w21.cell? ⟨gb348, 0, none⟩ = some (.int .i64 0) := (blk_cell BK348.out 0).trans rfl; have hcz25_1 : w21.cell? ⟨gb348, 1, none⟩ = some (.slice none 0 0) := (blk_cell BK348.out 1).trans rfl; have hfz25_0 := blk_frozen BK348.out 0; have hfz25_1 := blk_frozen BK348.out 1) | ((with_reducible refine gate_callee (f := 66) rfl ?_); refine goesL_ (some 33) rfl rfl Try.func66 (by kernel_rfl) rfl #[.pointer (some ⟨g, 0, none⟩), .int .i64 1] rfl (by (try simp only [List.map_toArray, List.map_cons, List.map_nil]); first | done | rfl) ?_; (with_reducible refine (larderref16_Eye_num.calls kj14 g s0_0 x1001_1 x1002_1 1 t349 t350 t351 w0 _ ?side1 ?side2 A19.out).mono ?_); (case side1 => repeat (first | (with_reducible first | exact HI0.out | apply IsS104.alloc | apply IsS104.drewN | apply IsS104.drew | apply IsS104.set_1 | apply IsS104.set_2 | refine IsS104.far ?_ NB0_337.out _ | refine IsS104.far ?_ NB0_338.out _ | refine IsS104.far ?_ NB0_348.out _) | exact HI0.out)); (case side2 => repeat (first | (with_reducible first | exact HB.out | apply bA | apply bN | apply b1 | refine below_set ?_ (IsS104.ge HI0.out) | refine below_set ?_ GE337.out | refine below_set ?_ GE338.out | refine below_set ?_ GE348.out) | exact HB.out)); rintro e w26 ⟨rfl, hi, hb, hk⟩; refine ⟨_, rfl, ?_⟩; have n0_ := ak (Kd.R_mono (Kd.R_keep (IsS104.apart (show IsS104 w0 _ g s0_0 x1001_1 x1002_1 from by repeat (first | (with_reducible first | exact HI0.out | apply IsS104.alloc | apply IsS104.drewN | apply IsS104.drew | apply IsS104.set_1 | apply IsS104.set_2 | refine IsS104.far ?_ NB0_337.out _ | refine IsS104.far ?_ NB0_338.out _ | refine IsS104.far ?_ NB0_348.out _) | exact HI0.out)) (by (with_reducible repeat (first | apply Kd.R_alloc | apply Kd.R_drewN | apply Kd.R_drew)); exact (Kd.R_mono (Kd.R_far (p := ⟨gb348, 1, none⟩) (Kd.R_far (p := ⟨gb348, 0, none⟩) (Kd.R_mono HO_339002.out (fun k_ hk => (⟨hk, hk.2⟩ : _ ∧ k_ ≠ gb348))) (fun _ hk => hk.2) (.int .i64 0)) (fun _ hk => hk.2) (.slice none 0 0)) (fun _ h_ => h_.1))) (by decide)) hk (fun _ h => h.2)) (fun _ h => h.1)); have n1_ := ak (KeepBut.blk hk (g' := gb337) (o := .cells #[.int .i64 0, .int .u64 0, .slice none 0 0] 33 (0, 0)) (by (with_reducible repeat (first | refine blk_drewN ?_ _ | refine blk_drew ?_ | refine blk_alloc ?_ _)); refine blk_far ?_ NB337_348.out _; (with_reducible repeat (first | refine blk_drewN ?_ _ | refine blk_drew ?_ | refine blk_alloc ?_ _)); refine blk_far ?_ NB337_348.out _; (with_reducible repeat (first | refine blk_drewN ?_ _ | refine blk_drew ?_ | refine blk_alloc ?_ _)); exact BK337.out) NB337_0.out (by simp)); have n2_ := ak (KeepBut.blk hk (g' := gb338) (o := .cells #[.int .i64 (wrap64 (t339)), .int .u64 t342, u339002] 33 (0, 0)) (by (with_reducible repeat (first | refine blk_drewN ?_ _ | refine blk_drew ?_ | refine blk_alloc ?_ _)); refine blk_far ?_ NB338_348.out _; (with_reducible repeat (first | refine blk_drewN ?_ _ | refine blk_drew ?_ | refine blk_alloc ?_ _)); refine blk_far ?_ NB338_348.out _; (with_reducible repeat (first | refine blk_drewN ?_ _ | refine blk_drew ?_ | refine blk_alloc ?_ _)); exact BK338.out) NB338_0.out (by simp)); have n3_ := ak (KeepBut.blk hk (g' := gb348) (o := .cells #[.int .i64 0, .slice none 0 0] 76 (0, 0)) (by (with_reducible repeat (first | refine blk_drewN ?_ _ | refine blk_drew ?_ | refine blk_alloc ?_ _)); refine blk_put (cs := #[.int .i64 0, .slice none 0 0]) ?_ 1 _ rfl; (with_reducible repeat (first | refine blk_drewN ?_ _ | refine blk_drew ?_ | refine blk_alloc ?_ _)); refine blk_put (cs := #[.int .i64 0, .slice none 0 0]) ?_ 0 _ rfl; (with_reducible repeat (first | refine blk_drewN ?_ _ | refine blk_drew ?_ | refine blk_alloc ?_ _)); exact BK348.out) NB348_0.out (by simp)); have n4_ := ak (KeepBut.trans (by repeat (first | (with_reducible first | exact HK.out | apply KeepBut.set_ | apply keep_drewN | apply keep_drew | apply keep_alloc | refine keep_far ?_ GW337.out _ | refine keep_far ?_ GW338.out _ | refine keep_far ?_ GW348.out _) | exact HK.out)) hk (.inl rfl)); have n5_ := ak (hb); have n6_ := ak (hi); clear HO_339002; clear BK337; clear BK338; clear BK348; clear HK; clear HB; clear HI0; have HO_339002 := n0_; have BK337 := n1_; have BK338 := n2_; have BK348 := n3_; have HK := n4_; have HB := n5_; have HI0 := n6_; clear n0_ n1_ n2_ n3_ n4_ n5_ n6_; (try clear hb); (try clear hb2); (try clear hk); (try clear hi); have hcz27_0 : w26.cell? ⟨gb348, 0, none⟩ = some (.int .i64 0) := (blk_cell BK348.out 0).trans rfl; have hcz27_1 : w26.cell? ⟨gb348, 1, none⟩ = some (.slice none 0 0) := (blk_cell BK348.out 1).trans rfl; have hfz27_0 := blk_frozen BK348.out 0; have hfz27_1 := blk_frozen BK348.out 1) | ((with_reducible refine gate_callee (f := 66) rfl ?_); refine goesL_ (some 37) rfl rfl Try.func66 (by kernel_rfl) rfl #[.pointer (some ⟨g, 0, none⟩), .int .i64 4] rfl (by (try simp only [List.map_toArray, List.map_cons, List.map_nil]); first | done | rfl) ?_; (with_reducible refine (larderref16_Eye_num.calls kj14 g s0_0 t350 t351 4 t352 t353 t354 w0 _ ?side1 ?side2 A20.out).mono ?_); (case side1 => repeat (first | (with_reducible first | exact HI0.out | apply IsS104.alloc | apply IsS104.drewN | apply IsS104.drew | apply IsS104.set_1 | apply IsS104.set_2 | refine IsS104.far ?_ NB0_337.out _ | refine IsS104.far ?_ NB0_338.out _ | refine IsS104.far ?_ NB0_348.out _) | exact HI0.out)); (case side2 => repeat (first | (with_reducible first | exact HB.out | apply bA | apply bN | apply b1 | refine below_set ?_ (IsS104.ge HI0.out) | refine below_set ?_ GE337.out | refine below_set ?_ GE338.out | refine below_set ?_ GE348.out) | exact HB.out)); rintro e w28 ⟨rfl, hi, hb, hk⟩; refine ⟨_, rfl, ?_⟩; have n0_ := ak (Kd.R_mono (Kd.R_keep (IsS104.apart (show IsS104 w0 _ g s0_0 t350 t351 from by repeat (first | (with_reducible first | exact HI0.out | apply IsS104.alloc | apply IsS104.drewN | apply IsS104.drew | apply IsS104.set_1 | apply IsS104.set_2 | refine IsS104.far ?_ NB0_337.out _ | refine IsS104.far ?_ NB0_338.out _ | refine IsS104.far ?_ NB0_348.out _) | exact HI0.out)) (by (with_reducible repeat (first | apply Kd.R_alloc | apply Kd.R_drewN | apply Kd.R_drew)); exact (Kd.R_mono (Kd.R_far (p := ⟨gb348, 0, none⟩) (Kd.R_mono HO_339002.out (fun k_ hk => (⟨hk, hk.2⟩ : _ ∧ k_ ≠ gb348))) (fun _ hk => hk.2) (.int .i64 (wrap64 (t349)))) (fun _ h_ => h_.1))) (by decide)) hk (fun _ h => h.2)) (fun _ h => h.1)); have n1_ := ak (KeepBut.blk hk (g' := gb337) (o := .cells #[.int .i64 0, .int .u64 0, .slice none 0 0] 33 (0, 0)) (by (with_reducible repeat (first | refine blk_drewN ?_ _ | refine blk_drew ?_ | refine blk_alloc ?_ _)); refine blk_far ?_ NB337_348.out _; (with_reducible repeat (first | refine blk_drewN ?_ _ | refine blk_drew ?_ | refine blk_alloc ?_ _)); exact BK337.out) NB337_0.out (by simp)); have n2_ := ak (KeepBut.blk hk (g' := gb338) (o := .cells #[.int .i64 (wrap64 (t339)), .int .u64 t342, u339002] 33 (0, 0)) (by (with_reducible repeat (first | refine blk_drewN ?_ _ | refine blk_drew ?_ | refine blk_alloc ?_ _)); refine blk_far ?_ NB338_348.out _; (with_reducible repeat (first | refine blk_drewN ?_ _ | refine blk_drew ?_ | refine blk_alloc ?_ _)); exact BK338.out) NB338_0.out (by simp)); have n3_ := ak (KeepBut.blk hk (g' := gb348) (o := .cells #[.int .i64 (wrap64 (t349)), .slice none 0 0] 76 (0, 0)) (by (with_reducible repeat (first | refine blk_drewN ?_ _ | refine blk_drew ?_ | refine blk_alloc ?_ _)); refine blk_put (cs := #[.int .i64 0, .slice none 0 0]) ?_ 0 _ rfl; (with_reducible repeat (first | refine blk_drewN ?_ _ | refine blk_drew ?_ | refine blk_alloc ?_ _)); exact BK348.out) NB348_0.out (by simp)); have n4_ := ak (KeepBut.trans (by repeat (first | (with_reducible first | exact HK.out | apply KeepBut.set_ | apply keep_drewN | apply keep_drew | apply keep_alloc | refine keep_far ?_ GW337.out _ | refine keep_far ?_ GW338.out _ | refine keep_far ?_ GW348.out _) | exact HK.out)) hk (.inl rfl)); have n5_ := ak (hb); have n6_ := ak (hi); clear HO_339002; clear BK337; clear BK338; clear BK348; clear HK; clear HB; clear HI0; have HO_339002 := n0_; have BK337 := n1_; have BK338 := n2_; have BK348 := n3_; have HK := n4_; have HB := n5_; have HI0 := n6_; clear n0_ n1_ n2_ n3_ n4_ n5_ n6_; (try clear hb); (try clear hb2); (try clear hk); (try clear hi)))
      go_loopg [8] kj14 (fun kq v8 w' => ∃ (x8_3 : Int) (x1001_3 : Int) (x1002_3 : Bool) (x349001_3 : List (List Int)) (u349001 : Value), v8 = .int .u64 x8_3 ∧ Aside0 (larderref16_Eye_entry.l1 kq t345 x5_1 t352 x8_3 s0_0 x1001_3 x1002_3 (wrap64 (t339)) t342 x339002_1 (wrap64 (t349)) x349001_3 = some (r1, r2, r3, r4, r5)) ∧ Aside0 (kq ≤ kj14) ∧ Aside0 (Kd.R k76 76 w' w.heap.size (fun k_ => some k_ ≠ (u349001 : Value).ownBlock ∧ k_ ≠ gb348) u339002 x339002_1) ∧ Aside0 (Kd.S (Kd.slice 5 (Kd.int .u8)) 37 w' w.heap.size (fun _ => True) u349001 x349001_3) ∧ Aside0 (w'.heap[gb337]? = some (.cells #[.int .i64 0, .int .u64 0, (.slice none 0 0)] 33 (0, 0))) ∧ Aside0 (w'.heap[gb338]? = some (.cells #[.int .i64 (wrap64 (t339)), .int .u64 t342, u339002] 33 (0, 0))) ∧ Aside0 (w'.heap[gb348]? = some (.cells #[.int .i64 (wrap64 (t349)), u349001] 76 (0, 0))) ∧ Aside0 (IsS104 w0 w' g s0_0 x1001_3 x1002_3) ∧ Aside0 (KeepBut w w' g none) ∧ Aside0 (Below w0.heap.size w0 w'))
      case atStart => exact ⟨(0), (t353), (t354), (([] : List (List Int))), (.slice none 0 0), (by first | rfl | (simp; done) | (simp [*]; done)), H', ⟨Nat.le_refl _⟩, ⟨by (with_reducible repeat (first | apply Kd.R_alloc | apply Kd.R_drewN | apply Kd.R_drew)); exact Kd.R_mono HO_339002.out (fun _ hk => ⟨(by simp [Value.ownBlock]), hk.2⟩)⟩, ⟨by first | exact Kd.S_nil _ _ _ _ _ | exact Kd.N_nil _ _ _ _ _ | exact Kd.V_nil _ _ _ _ _ | exact Kd.Q_nil _ _ _ _ _ | exact Kd.R_nil _ _ _ _ _⟩, ⟨by (with_reducible repeat (first | refine blk_drewN ?_ _ | refine blk_drew ?_ | refine blk_alloc ?_ _)); exact BK337.out⟩, ⟨by (with_reducible repeat (first | refine blk_drewN ?_ _ | refine blk_drew ?_ | refine blk_alloc ?_ _)); exact BK338.out⟩, ⟨by (with_reducible repeat (first | refine blk_drewN ?_ _ | refine blk_drew ?_ | refine blk_alloc ?_ _)); exact BK348.out⟩, ⟨by repeat (first | (with_reducible first | exact HI0.out | apply IsS104.alloc | apply IsS104.drewN | apply IsS104.drew | apply IsS104.set_1 | apply IsS104.set_2 | refine IsS104.far ?_ NB0_337.out _ | refine IsS104.far ?_ NB0_338.out _ | refine IsS104.far ?_ NB0_348.out _) | exact HI0.out)⟩, ⟨by repeat (first | (with_reducible first | exact HK.out | apply KeepBut.set_ | apply keep_drewN | apply keep_drew | apply keep_alloc | refine keep_far ?_ GW337.out _ | refine keep_far ?_ GW338.out _ | refine keep_far ?_ GW348.out _) | exact HK.out)⟩, ⟨by repeat (first | (with_reducible first | exact HB.out | apply bA | apply bN | apply b1 | refine below_set ?_ (IsS104.ge HI0.out) | refine below_set ?_ GE337.out | refine below_set ?_ GE338.out | refine below_set ?_ GE348.out) | exact HB.out)⟩⟩
      case round =>
       clear H'
       try clear c1
       try clear c2
       try clear p2
       try clear c6
       try clear p6
       try clear c7
       try clear c8
       try clear c16
       try clear c16b0
       try clear c18
       try clear c22
       try clear c23
       try clear c24
       try clear hcz11_0
       try clear hcz11_1
       try clear hcz11_2
       try clear hcz13_0
       try clear hcz13_1
       try clear hcz13_2
       try clear hcz17_0
       try clear hcz17_1
       try clear hcz17_2
       try clear hcz25_0
       try clear hcz25_1
       try clear hcz27_0
       try clear hcz27_1
       try clear hcz9_0
       try clear hcz9_1
       try clear hcz9_2
       try clear hfz11_0
       try clear hfz11_1
       try clear hfz11_2
       try clear hfz13_0
       try clear hfz13_1
       try clear hfz13_2
       try clear hfz17_1
       try clear hfz17_2
       try clear hfz25_0
       try clear hfz25_1
       try clear hfz27_0
       try clear hfz27_1
       try clear hfz9_0
       try clear hfz9_1
       try clear hfz9_2
       try clear p2
       try clear p6
       obtain ⟨x8_3, x1001_3, x1002_3, x349001_3, u349001, rfl, HA, HK3, HO_339002, HO_349001, BK337, BK338, BK348, HI0, HK, HB⟩ := hrel
       cases gk with
       | zero => exact absurd HA.out (by simp [larderref16_Eye_entry.l1])
       | succ k3 =>
        have H := HA.out
        clear HA
        simp only [larderref16_Eye_entry.l1] at H
        by_cases c29 : x8_3 < t352
        ·
         rw [if_pos c29] at H
         have c29b0 : decide (x8_3 < t352) = true := decide_eq_true c29
         clear c29
         by_cases c30 : x1002_3 = true
         ·
          subst c30
          have H1 : (if x339002_1.length < 4398046511104 then (larderref16_Eye_entry.l0 k3 t345 (IntKind.u64.wrap (x5_1 + 1)) s0_0 x1001_3 true (wrap64 (t339)) t342 (x339002_1 ++ [(⟨(wrap64 (t349)), x349001_3⟩ : S76)])) else (none)) = some (r1, r2, r3, r4, r5) := by rw [if_pos rfl] at H; exact H
          clear H
          have H := H1
          clear H1
          by_cases c31 : x339002_1.length < 4398046511104
          ·
           rw [if_pos c31] at H
           have LMc31 := ak c31
           clear c31
           obtain ⟨y355, hy355⟩ : ∃ y_ : List (S76), y_ = (x339002_1 ++ [(⟨(wrap64 (t349)), x349001_3⟩ : S76)]) := ⟨_, rfl⟩
           replace H : (larderref16_Eye_entry.l0 k3 t345 (IntKind.u64.wrap (x5_1 + 1)) s0_0 x1001_3 true (wrap64 (t339)) t342 y355) = some (r1, r2, r3, r4, r5) := by first | (rw [hy355]; with_reducible exact H) | (have H2_ := (Option.bind_some _ _).symm.trans H; rw [hy355]; with_reducible exact H2_) | (have H2_ := (Option.bind_some _ _).symm.trans H; with_reducible exact H2_) | with_reducible exact H | (rw [hy355]; exact H) | exact H
           have Ny355 := ak hy355
           clear hy355
           have H' := ak H
           clear H
           obtain ⟨ASz32_0, cSz32_0, HGz32, hgz32, HSz32_0⟩ := HI0.out
           have hcz32_0 := cellS104_0 HGz32
           have hcz32_1 := cellS104_1 HGz32
           have hcz32_2 := cellS104_2 HGz32
           have hfz32_1 := blk_frozen HGz32 1
           have hfz32_2 := blk_frozen HGz32 2
           clear HGz32 hgz32
           have hnb33 := NB338_337.out
           have hnc33 := NB337_338.out
           have hnb34 := NB338_348.out
           have hnc34 := NB348_338.out
           have hnb35 := NB338_0.out
           have hnc35 := NB0_338.out
           have hcz36_0 : wr.cell? ⟨gb338, 0, none⟩ = some (.int .i64 (wrap64 (t339))) := (blk_cell BK338.out 0).trans rfl
           have hcz36_1 : wr.cell? ⟨gb338, 1, none⟩ = some (.int .u64 t342) := (blk_cell BK338.out 1).trans rfl
           have hcz36_2 : wr.cell? ⟨gb338, 2, none⟩ = some (u339002) := (blk_cell BK338.out 2).trans rfl
           have hfz36_0 := blk_frozen BK338.out 0
           have hfz36_1 := blk_frozen BK338.out 1
           have hfz36_2 := blk_frozen BK338.out 2
           have hnb37 := NB348_337.out
           have hnc37 := NB337_348.out
           have hnb38 := NB348_0.out
           have hnc38 := NB0_348.out
           have hcz39_0 : wr.cell? ⟨gb348, 0, none⟩ = some (.int .i64 (wrap64 (t349))) := (blk_cell BK348.out 0).trans rfl
           have hcz39_1 : wr.cell? ⟨gb348, 1, none⟩ = some (u349001) := (blk_cell BK348.out 1).trans rfl
           have hfz39_0 := blk_frozen BK348.out 0
           have hfz39_1 := blk_frozen BK348.out 1
           obtain ⟨Ao41, co41, eo41⟩ := Kd.S_slice HO_349001.out
           subst eo41
           go_wp2_with (first | ((with_reducible refine gate_builtin (b := .append) (xs := #[.tmp 58, .tmp 60]) rfl ?_); at_builtin; refine Kd.R_append k76 w.heap.size rfl (.tmp 58) (.tmp 60) 31 76 (.agg #[(.int .i64 0), (.slice none 0 0)]) 32 rfl Try.underlying31 info76 rfl (by decide) (by omega) u339002 x339002_1 (⟨(wrap64 (t349)), x349001_3⟩ : S76) [.int .i64 (wrap64 (t349)), .slice Ao41 x349001_3.length co41] (fun k_ => k_ ≠ gb348) (fun k_ => ((fun k_ => k_ ≠ gb348)) k_ ∧ some k_ ≠ (u339002 : Value).ownBlock) rfl rfl ?aP (fun _ hk => hk) ?aF ?aO (Below.refl _ _) ?aS ?aL ?_; (case aP => exact k76_mkM _ _ _ (⟨(wrap64 (t349)), x349001_3⟩ : S76) (Kd.R_mono (Kd.R_types (Kd.R_apart' ((Kd.S_R HO_349001.out)) (Kd.R_typed HO_339002.out) (by decide)) BK348.out (by decide)) (fun k_ hk => ⟨hk.2, hk.1.2⟩))); (case aF => exact (fun k_ hk => Kd.freshB (g := gb348) (o := .cells #[.int .i64 (wrap64 (t349)), .slice Ao41 x349001_3.length co41] 76 (0, 0)) (by (with_reducible repeat (first | refine blk_drewN ?_ _ | refine blk_drew ?_ | refine blk_alloc ?_ _)); exact BK348.out) k_ hk)); (case aO => exact (by (with_reducible repeat (first | apply Kd.R_alloc | apply Kd.R_drewN | apply Kd.R_drew)); exact Kd.R_mono HO_339002.out (fun _ hk => hk.2))); (case aS => exact (keep_size (w := w) (g := g) (row := none) (by repeat (first | (with_reducible first | exact HK.out | apply KeepBut.set_ | apply keep_drewN | apply keep_drew | apply keep_alloc | refine keep_far ?_ GW337.out _ | refine keep_far ?_ GW338.out _ | refine keep_far ?_ GW348.out _) | exact HK.out)))); (case aL => have := LMc31.out; omega); intro v356 w40 ho hb hg hat; rw [← Ny355.out] at ho; have n0_ := ak (blk_grown (g := gb337) (o := .cells #[.int .i64 0, .int .u64 0, .slice none 0 0] 33 (0, 0)) (by (with_reducible repeat (first | refine blk_drewN ?_ _ | refine blk_drew ?_ | refine blk_alloc ?_ _)); exact BK337.out) hg (Kd.R_ne HO_339002.out BK337.out (by decide))); have n1_ := ak (blk_grown (g := gb338) (o := .cells #[.int .i64 (wrap64 (t339)), .int .u64 t342, u339002] 33 (0, 0)) (by (with_reducible repeat (first | refine blk_drewN ?_ _ | refine blk_drew ?_ | refine blk_alloc ?_ _)); exact BK338.out) hg (Kd.R_ne HO_339002.out BK338.out (by decide))); have n2_ := ak (blk_grown (g := gb348) (o := .cells #[.int .i64 (wrap64 (t349)), .slice Ao41 x349001_3.length co41] 76 (0, 0)) (by (with_reducible repeat (first | refine blk_drewN ?_ _ | refine blk_drew ?_ | refine blk_alloc ?_ _)); exact BK348.out) hg (Kd.R_away HO_339002.out (fun _ hk => hk.2))); have n3_ := ak (IsS104.grown (by repeat (first | (with_reducible first | exact HI0.out | apply IsS104.alloc | apply IsS104.drewN | apply IsS104.drew | apply IsS104.set_1 | apply IsS104.set_2 | refine IsS104.far ?_ NB0_337.out _ | refine IsS104.far ?_ NB0_338.out _ | refine IsS104.far ?_ NB0_348.out _) | exact HI0.out)) hg (IsS104.own_ne HI0.out HO_339002.out (by decide))); have n4_ := ak (below_weaken (by repeat (first | (with_reducible first | exact HB.out | apply bA | apply bN | apply b1 | refine below_set ?_ (IsS104.ge HI0.out) | refine below_set ?_ GE337.out | refine below_set ?_ GE338.out | refine below_set ?_ GE348.out) | exact HB.out)) HL.out hb); have n5_ := ak (KeepBut.trans (by repeat (first | (with_reducible first | exact HK.out | apply KeepBut.set_ | apply keep_drewN | apply keep_drew | apply keep_alloc | refine keep_far ?_ GW337.out _ | refine keep_far ?_ GW338.out _ | refine keep_far ?_ GW348.out _) | exact HK.out)) (KeepBut.of_grown hg g) (Kd.R_base2 HO_339002.out)); have n6_ := ak (ho); clear BK337; clear BK338; clear BK348; clear HI0; clear HB; clear HK; clear HO_339002; clear HO_349001; have BK337 := n0_; have BK338 := n1_; have BK348 := n2_; have HI0 := n3_; have HB := n4_; have HK := n5_; have HO357 := n6_; clear n0_ n1_ n2_ n3_ n4_ n5_ n6_; clear ho hb hg hat; obtain ⟨Ao42, co42, eo42⟩ := Kd.R_slice HO357.out; subst eo42; have hcz43_0 : w40.cell? ⟨gb338, 0, none⟩ = some (.int .i64 (wrap64 (t339))) := (blk_cell BK338.out 0).trans rfl; have hcz43_1 : w40.cell? ⟨gb338, 1, none⟩ = some (.int .u64 t342) := (blk_cell BK338.out 1).trans rfl; have hcz43_2 : w40.cell? ⟨gb338, 2, none⟩ = some (u339002) := (blk_cell BK338.out 2).trans rfl; have hfz43_0 := blk_frozen BK338.out 0; have hfz43_1 := blk_frozen BK338.out 1; have hfz43_2 := blk_frozen BK338.out 2))
           go_roundg k3
           case measure => have := HK1.out; have := HJ14.out; have := HK3.out; omega
           case rel => exact ⟨(IntKind.u64.wrap (x5_1 + 1)), (x1001_3), (true), (y355), (.slice Ao42 y355.length co42), (by first | rfl | (simp; done) | (simp [*]; done)), H', ⟨by have := HK1.out; have := HJ14.out; have := HK3.out; omega⟩, ⟨by (with_reducible repeat (first | apply Kd.R_alloc | apply Kd.R_drewN | apply Kd.R_drew)); exact Kd.R_mono (Kd.R_far (p := ⟨gb338, 2, none⟩) (Kd.R_types HO357.out BK338.out (by decide)) (fun _ hk => hk.2) (.slice Ao42 y355.length co42)) (fun _ hk => trivial)⟩, ⟨by (with_reducible repeat (first | refine blk_drewN ?_ _ | refine blk_drew ?_ | refine blk_alloc ?_ _)); refine blk_far ?_ NB337_338.out _; (with_reducible repeat (first | refine blk_drewN ?_ _ | refine blk_drew ?_ | refine blk_alloc ?_ _)); exact BK337.out⟩, ⟨by (with_reducible repeat (first | refine blk_drewN ?_ _ | refine blk_drew ?_ | refine blk_alloc ?_ _)); refine blk_put (cs := #[.int .i64 (wrap64 (t339)), .int .u64 t342, u339002]) ?_ 2 _ rfl; (with_reducible repeat (first | refine blk_drewN ?_ _ | refine blk_drew ?_ | refine blk_alloc ?_ _)); exact BK338.out⟩, ⟨by repeat (first | (with_reducible first | exact HI0.out | apply IsS104.alloc | apply IsS104.drewN | apply IsS104.drew | apply IsS104.set_1 | apply IsS104.set_2 | refine IsS104.far ?_ NB0_337.out _ | refine IsS104.far ?_ NB0_338.out _ | refine IsS104.far ?_ NB0_348.out _) | exact HI0.out)⟩, ⟨by repeat (first | (with_reducible first | exact HK.out | apply KeepBut.set_ | apply keep_drewN | apply keep_drew | apply keep_alloc | refine keep_far ?_ GW337.out _ | refine keep_far ?_ GW338.out _ | refine keep_far ?_ GW348.out _) | exact HK.out)⟩, ⟨by repeat (first | (with_reducible first | exact HB.out | apply bA | apply bN | apply b1 | refine below_set ?_ (IsS104.ge HI0.out) | refine below_set ?_ GE337.out | refine below_set ?_ GE338.out | refine below_set ?_ GE348.out) | exact HB.out)⟩⟩
          ·
           rw [if_neg c31] at H
           exact absurd H (by simp)
         ·
          replace c30 := Bool.eq_false_iff.mpr c30
          subst c30
          have H1 : ((larderref16_Eye_text.f k3 s0_0 x1001_3 false).bind fun bt358 => (if x349001_3.length < 5864062014805 then (larderref16_Eye_entry.l1 k3 t345 x5_1 t352 (IntKind.u64.wrap (x8_3 + 1)) s0_0 bt358.2.1 bt358.2.2 (wrap64 (t339)) t342 x339002_1 (wrap64 (t349)) (x349001_3 ++ [bt358.1])) else (none))) = some (r1, r2, r3, r4, r5) := by rw [if_neg (show ¬ (false = true) by decide)] at H; exact H
          clear H
          have H := H1
          clear H1
          replace H := Option.bind_eq_some_iff.mp H
          obtain ⟨⟨t358, t361, t362⟩, A440, H⟩ := H
          replace H : (if x349001_3.length < 5864062014805 then (larderref16_Eye_entry.l1 k3 t345 x5_1 t352 (IntKind.u64.wrap (x8_3 + 1)) s0_0 t361 t362 (wrap64 (t339)) t342 x339002_1 (wrap64 (t349)) (x349001_3 ++ [t358])) else (none)) = some (r1, r2, r3, r4, r5) := H
          have A44 := ak A440
          clear A440
          by_cases c45 : x349001_3.length < 5864062014805
          ·
           rw [if_pos c45] at H
           have LMc45 := ak c45
           clear c45
           obtain ⟨y363, hy363⟩ : ∃ y_ : List (List Int), y_ = (x349001_3 ++ [t358]) := ⟨_, rfl⟩
           replace H : (larderref16_Eye_entry.l1 k3 t345 x5_1 t352 (IntKind.u64.wrap (x8_3 + 1)) s0_0 t361 t362 (wrap64 (t339)) t342 x339002_1 (wrap64 (t349)) y363) = some (r1, r2, r3, r4, r5) := by first | (rw [hy363]; with_reducible exact H) | (have H2_ := (Option.bind_some _ _).symm.trans H; rw [hy363]; with_reducible exact H2_) | (have H2_ := (Option.bind_some _ _).symm.trans H; with_reducible exact H2_) | with_reducible exact H | (rw [hy363]; exact H) | exact H
           have Ny363 := ak hy363
           clear hy363
           have H' := ak H
           clear H
           obtain ⟨ASz46_0, cSz46_0, HGz46, hgz46, HSz46_0⟩ := HI0.out
           have hcz46_0 := cellS104_0 HGz46
           have hcz46_1 := cellS104_1 HGz46
           have hcz46_2 := cellS104_2 HGz46
           have hfz46_1 := blk_frozen HGz46 1
           have hfz46_2 := blk_frozen HGz46 2
           clear HGz46 hgz46
           try go_wp2
           have n0_ := ak (Kd.R_drew HO_339002.out)
           have n1_ := ak (Kd.S_drew HO_349001.out)
           have n2_ := ak (blk_drew BK337.out)
           have n3_ := ak (blk_drew BK338.out)
           have n4_ := ak (blk_drew BK348.out)
           have n5_ := ak (IsS104.drew HI0.out)
           have n6_ := ak (keep_drew HK.out)
           have n7_ := ak (below_drew1 HB.out)
           clear HO_339002
           clear HO_349001
           clear BK337
           clear BK338
           clear BK348
           clear HI0
           clear HK
           clear HB
           have HO_339002 := n0_
           have HO_349001 := n1_
           have BK337 := n2_
           have BK338 := n3_
           have BK348 := n4_
           have HI0 := n5_
           have HK := n6_
           have HB := n7_
           clear n0_ n1_ n2_ n3_ n4_ n5_ n6_ n7_
           refine start_ (n := 8) (S := fun w' => w'.cell? ⟨gb348, 0, none⟩ = some (.int .i64 (wrap64 (t349))) ∧ w'.cell? ⟨gb348, 1, none⟩ = some (u349001)) (ds := [7]) #[false, false, false, false, false, false, false, false] (by kernel_rfl) rfl rfl ⟨(blk_cell BK348.out 0).trans rfl, (blk_cell BK348.out 1).trans rfl⟩ (fun hHeld => ?_); refine with_tabW larderref16_Eye_entry.tab14 larderref16_Eye_entry.bits14 (fun HT_ HW_ => ?_)
           generalize wr.drew = w47 at HO_339002 HO_349001 BK337 BK338 BK348 HI0 HK HB hHeld ⊢
           refine pure_ (i := 0) (N := some 50) (v := ?_) (a' := ?_) #[true, false, false, false, false, false, false, false] rfl rfl (any_of HT_.out (by kernel_rfl)) (fun _ _ _ h => h) (Or.inl ⟨by rfl, ?_⟩) ?_ ?_
           rotate_left
           ·
            intro w'
            go_simp
            with_reducible rfl
           rotate_left
           ·
            simp only [Act.put, List.setIfInBounds_toArray, List.set_cons_zero, List.set_cons_succ, i64_w, i32_w]
            rfl
           refine pure_ (i := 2) (N := some 52) (v := ?_) (a' := ?_) #[true, false, true, false, false, false, false, false] rfl rfl (any_of HT_.out (by kernel_rfl)) (fun _ _ _ h => h) (Or.inl ⟨by rfl, ?_⟩) ?_ ?_
           rotate_left
           ·
            intro w'
            go_simp
            with_reducible rfl
           rotate_left
           ·
            simp only [Act.put, List.setIfInBounds_toArray, List.set_cons_zero, List.set_cons_succ, i64_w, i32_w]
            rfl
           refine take_ (i := 1) (N := some 51) (v := ?_) (a' := ?_) #[true, true, true, false, false, false, false, false] rfl rfl (take_ofW HT_.out HW_.out (by kernel_rfl)) (fun _ _ _ h => h) (Or.inl ⟨by rfl, ?_⟩) hHeld ?_ ?_
           rotate_left
           ·
            rintro w' ⟨s0, s1⟩
            go_simp
            with_reducible rfl
           rotate_left
           ·
            simp only [Act.put, List.setIfInBounds_toArray, List.set_cons_zero, List.set_cons_succ, i64_w, i32_w]
            rfl
           refine one_ (i := 3) (N := some 53) #[true, true, true, true, false, false, false, false] rfl rfl (one_of HT_.out (by kernel_rfl)) (by decide) (fun K hK => ?_)
           refine goes_ Try.func72 (by kernel_rfl) rfl #[.pointer (some ⟨g, 0, none⟩)] (by rfl) rfl rfl (by (try simp only [List.map_toArray, List.map_cons, List.map_nil]); first | done | rfl) ?_
           with_reducible refine (larderref16_Eye_text.calls k3 g s0_0 x1001_3 false t358 t361 t362 w0 _ ?side1 ?side2 A44.out).mono ?_
           (case side1 => repeat (first | (with_reducible first | exact HI0.out | apply IsS104.alloc | apply IsS104.drewN | apply IsS104.drew | apply IsS104.set_1 | apply IsS104.set_2 | refine IsS104.far ?_ NB0_337.out _ | refine IsS104.far ?_ NB0_338.out _ | refine IsS104.far ?_ NB0_348.out _) | exact HI0.out))
           (case side2 => repeat (first | (with_reducible first | exact HB.out | apply bA | apply bN | apply b1 | refine below_set ?_ (IsS104.ge HI0.out) | refine below_set ?_ GE337.out | refine below_set ?_ GE338.out | refine below_set ?_ GE348.out) | exact HB.out))
           rintro e w48 ⟨v359, rfl, ho0, hi, hb, hk⟩
           refine ⟨_, rfl, ?_⟩
           have n0_ := ak (Kd.R_mono (Kd.R_told (Kd.R_oldK (IsS104.apart (show IsS104 w0 _ g s0_0 x1001_3 false from by repeat (first | (with_reducible first | exact HI0.out | apply IsS104.alloc | apply IsS104.drewN | apply IsS104.drew | apply IsS104.set_1 | apply IsS104.set_2 | refine IsS104.far ?_ NB0_337.out _ | refine IsS104.far ?_ NB0_338.out _ | refine IsS104.far ?_ NB0_348.out _) | exact HI0.out)) (by (with_reducible repeat (first | apply Kd.R_alloc | apply Kd.R_drewN | apply Kd.R_drew)); exact HO_339002.out) (by decide)) hk) (Kd.R_base ho0)) (fun _ h_ => h_.1))
           have n1_ := ak (Kd.S_mono (Kd.S_told (Kd.S_oldK (IsS104.apartS (show IsS104 w0 _ g s0_0 x1001_3 false from by repeat (first | (with_reducible first | exact HI0.out | apply IsS104.alloc | apply IsS104.drewN | apply IsS104.drew | apply IsS104.set_1 | apply IsS104.set_2 | refine IsS104.far ?_ NB0_337.out _ | refine IsS104.far ?_ NB0_338.out _ | refine IsS104.far ?_ NB0_348.out _) | exact HI0.out)) (by (with_reducible repeat (first | apply Kd.S_alloc | apply Kd.S_drewN | apply Kd.S_drew)); exact HO_349001.out) (by decide)) hk) (Kd.R_base ho0)) (fun _ h_ => h_.1))
           have n2_ := ak (KeepBut.blk hk (g' := gb337) (o := .cells #[.int .i64 0, .int .u64 0, .slice none 0 0] 33 (0, 0)) (by (with_reducible repeat (first | refine blk_drewN ?_ _ | refine blk_drew ?_ | refine blk_alloc ?_ _)); exact BK337.out) NB337_0.out (by simp))
           have n3_ := ak (KeepBut.blk hk (g' := gb338) (o := .cells #[.int .i64 (wrap64 (t339)), .int .u64 t342, u339002] 33 (0, 0)) (by (with_reducible repeat (first | refine blk_drewN ?_ _ | refine blk_drew ?_ | refine blk_alloc ?_ _)); exact BK338.out) NB338_0.out (by simp))
           have n4_ := ak (KeepBut.blk hk (g' := gb348) (o := .cells #[.int .i64 (wrap64 (t349)), u349001] 76 (0, 0)) (by (with_reducible repeat (first | refine blk_drewN ?_ _ | refine blk_drew ?_ | refine blk_alloc ?_ _)); exact BK348.out) NB348_0.out (by simp))
           have n5_ := ak (Kd.R_lower ho0 (keep_size (w := w) (g := g) (row := none) (by repeat (first | (with_reducible first | exact HK.out | apply KeepBut.set_ | apply keep_drewN | apply keep_drew | apply keep_alloc | refine keep_far ?_ GW337.out _ | refine keep_far ?_ GW338.out _ | refine keep_far ?_ GW348.out _) | exact HK.out))))
           have n6_ := ak (KeepBut.trans (by repeat (first | (with_reducible first | exact HK.out | apply KeepBut.set_ | apply keep_drewN | apply keep_drew | apply keep_alloc | refine keep_far ?_ GW337.out _ | refine keep_far ?_ GW338.out _ | refine keep_far ?_ GW348.out _) | exact HK.out)) hk (.inl rfl))
           have n7_ := ak (hb)
           have n8_ := ak (hi)
           clear HO_339002
           clear HO_349001
           clear BK337
           clear BK338
           clear BK348
           clear HK
           clear HB
           clear HI0
           have HO_339002 := n0_
           have HO_349001 := n1_
           have BK337 := n2_
           have BK338 := n3_
           have BK348 := n4_
           have HO360 := n5_
           have HK := n6_
           have HB := n7_
           have HI0 := n8_
           clear n0_ n1_ n2_ n3_ n4_ n5_ n6_ n7_ n8_
           (try clear hb)
           (try clear hb2)
           (try clear hk)
           (try clear hi)
           (try clear ho0)
           obtain ⟨Ao50, co50, eo50⟩ := Kd.R_slice HO360.out
           (first | subst eo50 | (injection eo50 with f1_ f2_ f3_; have f4_ := f1_.symm; have f5_ := f3_.symm; clear f1_ f2_ f3_; subst f4_; subst f5_))
           refine hK.out _ _ ⟨(blk_cell BK348.out 0).trans rfl, (blk_cell BK348.out 1).trans rfl⟩ (fun hHeld => ?_)
           clear hK K
           refine norm_ (a' := ?_) ?_ ?_
           rotate_left
           ·
            show Act.put _ (some 53) _ = _
            simp only [Act.put, List.setIfInBounds_toArray, List.set_cons_zero, List.set_cons_succ, i64_w, i32_w]
            rfl
           refine one_ (i := 4) (N := some 54) #[true, true, true, true, true, false, false, false] rfl rfl (one_of HT_.out (by kernel_rfl)) (by decide) (fun K hK => ?_)
           refine value_ (w1 := ?_) (v := ?_) (by rfl) rfl ?_ ?_
           rotate_left 2
           ·
            go_simp
            constructor
            ·
             rfl
            ·
             rfl
           refine hK.out _ _ ⟨(blk_cell (blk_alloc BK348.out _) 0).trans rfl, (blk_cell (blk_alloc BK348.out _) 1).trans rfl⟩ (fun hHeld => ?_)
           clear hK K
           refine norm_ (a' := ?_) ?_ ?_
           rotate_left
           ·
            show Act.put _ (some 54) _ = _
            simp only [Act.put, List.setIfInBounds_toArray, List.set_cons_zero, List.set_cons_succ, i64_w, i32_w]
            rfl
           refine one_ (i := 5) (N := some 55) #[true, true, true, true, true, true, false, false] rfl rfl (one_of HT_.out (by kernel_rfl)) (by decide) (fun K hK => ?_)
           refine Kd.S_append_step (Kd.slice 5 (Kd.int .u8)) w.heap.size (by rfl) (.tmp 51) (.tmp 54) 34 37 (.slice none 0 0) 24 rfl Try.underlying34 info37 rfl (by decide) (by omega) u349001 x349001_3 t358 [.slice Ao50 t358.length co50] (fun _ => True) (fun k_ => some k_ = (.slice Ao50 t358.length co50 : Value).ownBlock) rfl rfl ?aP (fun k_ hk_ => ((Kd.R_mono (ok' := fun k_ => ((fun _ => True)) k_ ∧ some k_ ≠ (u349001 : Value).ownBlock) (Kd.R_apart' (HO360.out) (Kd.S_typed HO_349001.out) (by decide)) (fun k_ hk => ⟨trivial, hk.2⟩))).1 k_ hk_.symm) ?aF ?aO (Below.refl _ _) ?aS ?aL ?_
           (case aP => exact Kd.M_row (Kd.R_mono (Kd.R_tight rfl (Kd.R_mono (ok' := fun k_ => ((fun _ => True)) k_ ∧ some k_ ≠ (u349001 : Value).ownBlock) (Kd.R_apart' (HO360.out) (Kd.S_typed HO_349001.out) (by decide)) (fun k_ hk => ⟨trivial, hk.2⟩))) (fun _ h_ => h_)))
           (case aF => exact (fun _ _ => trivial))
           (case aO => exact (by (with_reducible repeat (first | apply Kd.S_alloc | apply Kd.S_drewN | apply Kd.S_drew)); exact Kd.S_mono HO_349001.out (fun k_ hk => ⟨trivial, fun e_ => hk.2 e_⟩)))
           (case aS => exact (keep_size (w := w) (g := g) (row := none) (by repeat (first | (with_reducible first | exact HK.out | apply KeepBut.set_ | apply keep_drewN | apply keep_drew | apply keep_alloc | refine keep_far ?_ GW337.out _ | refine keep_far ?_ GW338.out _ | refine keep_far ?_ GW348.out _) | exact HK.out))))
           (case aL => have := LMc45.out; omega)
           intro v364 w49 ho hb hg hat
           rw [← Ny363.out] at ho
           have n0_ := ak (Kd.R_after (ok := (fun k_ => some k_ ≠ (.slice Ao50 t358.length co50 : Value).ownBlock ∧ k_ ≠ gb348)) (by (with_reducible repeat (first | apply Kd.R_alloc | apply Kd.R_drewN | apply Kd.R_drew)); exact Kd.R_mono HO_339002.out (fun _ hk => ⟨⟨hk.2, hk.1.2⟩, hk.1.1⟩)) hg hat)
           have n1_ := ak (blk_grown (g := gb337) (o := .cells #[.int .i64 0, .int .u64 0, .slice none 0 0] 33 (0, 0)) (by (with_reducible repeat (first | refine blk_drewN ?_ _ | refine blk_drew ?_ | refine blk_alloc ?_ _)); exact BK337.out) hg (Kd.S_ne HO_349001.out BK337.out (by decide)))
           have n2_ := ak (blk_grown (g := gb338) (o := .cells #[.int .i64 (wrap64 (t339)), .int .u64 t342, u339002] 33 (0, 0)) (by (with_reducible repeat (first | refine blk_drewN ?_ _ | refine blk_drew ?_ | refine blk_alloc ?_ _)); exact BK338.out) hg (Kd.S_ne HO_349001.out BK338.out (by decide)))
           have n3_ := ak (blk_grown (g := gb348) (o := .cells #[.int .i64 (wrap64 (t349)), u349001] 76 (0, 0)) (by (with_reducible repeat (first | refine blk_drewN ?_ _ | refine blk_drew ?_ | refine blk_alloc ?_ _)); exact BK348.out) hg (Kd.S_ne HO_349001.out BK348.out (by decide)))
           have n4_ := ak (IsS104.grown (by repeat (first | (with_reducible first | exact HI0.out | apply IsS104.alloc | apply IsS104.drewN | apply IsS104.drew | apply IsS104.set_1 | apply IsS104.set_2 | refine IsS104.far ?_ NB0_337.out _ | refine IsS104.far ?_ NB0_338.out _ | refine IsS104.far ?_ NB0_348.out _) | exact HI0.out)) hg (IsS104.own_neS HI0.out HO_349001.out (by decide)))
           have n5_ := ak (below_weaken (by repeat (first | (with_reducible first | exact HB.out | apply bA | apply bN | apply b1 | refine below_set ?_ (IsS104.ge HI0.out) | refine below_set ?_ GE337.out | refine below_set ?_ GE338.out | refine below_set ?_ GE348.out) | exact HB.out)) HL.out hb)
           have n6_ := ak (KeepBut.trans (by repeat (first | (with_reducible first | exact HK.out | apply KeepBut.set_ | apply keep_drewN | apply keep_drew | apply keep_alloc | refine keep_far ?_ GW337.out _ | refine keep_far ?_ GW338.out _ | refine keep_far ?_ GW348.out _) | exact HK.out)) (KeepBut.of_grown hg g) (Kd.S_base2 HO_349001.out))
           have n7_ := ak (ho)
           clear HO_339002
           clear BK337
           clear BK338
           clear BK348
           clear HI0
           clear HB
           clear HK
           clear HO_349001
           clear HO360
           have HO_339002 := n0_
           have BK337 := n1_
           have BK338 := n2_
           have BK348 := n3_
           have HI0 := n4_
           have HB := n5_
           have HK := n6_
           have HO365 := n7_
           clear n0_ n1_ n2_ n3_ n4_ n5_ n6_ n7_
           clear ho hb hg hat
           obtain ⟨Ao51, co51, eo51⟩ := Kd.S_slice HO365.out
           (first | subst eo51 | (injection eo51 with f1_ f2_ f3_; have f4_ := f1_.symm; have f5_ := f3_.symm; clear f1_ f2_ f3_; subst f4_; subst f5_))
           refine hK.out _ _ ⟨(blk_cell BK348.out 0).trans rfl, (blk_cell BK348.out 1).trans rfl⟩ (fun hHeld => ?_)
           clear hK K
           refine norm_ (a' := ?_) ?_ ?_
           rotate_left
           ·
            show Act.put _ (some 55) _ = _
            simp only [Act.put, List.setIfInBounds_toArray, List.set_cons_zero, List.set_cons_succ, i64_w, i32_w]
            rfl
           refine pure_ (i := 6) (N := some 56) (v := ?_) (a' := ?_) #[true, true, true, true, true, true, true, false] rfl rfl (any_of HT_.out (by kernel_rfl)) (fun _ _ _ h => h) (Or.inl ⟨by rfl, ?_⟩) ?_ ?_
           rotate_left
           ·
            intro w'
            go_simp
            with_reducible rfl
           rotate_left
           ·
            simp only [Act.put, List.setIfInBounds_toArray, List.set_cons_zero, List.set_cons_succ, i64_w, i32_w]
            rfl
           refine last_ (i := 7) (N := none) #[true, true, true, true, true, true, true, true] rfl rfl (one_of HT_.out (by kernel_rfl)) (by decide) (fun K hK => ?_)
           have hs52 : w49.cell? ⟨gb348, 1, none⟩ = some (u349001) := (blk_cell BK348.out 1).trans rfl
           have hfs52 := blk_frozen BK348.out 1
           have hns52_0 := NB337_348.out
           have hns52_1 := NB338_348.out
           have hms52_0 := NB348_337.out
           have hms52_1 := NB348_338.out
           refine skip_ (w1 := ?_) (by rfl) rfl ?_ ?_
           rotate_left
           ·
            go_simp
            rfl
           refine hK.out _ _ ?_
           clear hK K
           refine done_ (done_of HT_.out (by kernel_rfl)) ?_
           try go_wp2
           go_roundg k3
           case measure => have := HK1.out; have := HJ14.out; have := HK3.out; omega
           case rel => exact ⟨(IntKind.u64.wrap (x8_3 + 1)), (t361), (t362), (y363), (.slice Ao51 y363.length co51), (by first | rfl | (simp; done) | (simp [*]; done)), H', ⟨by have := HK1.out; have := HJ14.out; have := HK3.out; omega⟩, ⟨by (with_reducible repeat (first | apply Kd.R_alloc | apply Kd.R_drewN | apply Kd.R_drew)); exact Kd.R_mono (Kd.R_far (p := ⟨gb348, 1, none⟩) (Kd.R_mono HO_339002.out (fun k_ hk => (⟨hk, hk.1.2⟩ : _ ∧ k_ ≠ gb348))) (fun _ hk => hk.2) (.slice Ao51 y363.length co51)) (fun _ hk => ⟨hk.1.2, hk.1.1.2⟩)⟩, ⟨by (with_reducible repeat (first | apply Kd.S_alloc | apply Kd.S_drewN | apply Kd.S_drew)); exact Kd.S_mono (Kd.S_far (p := ⟨gb348, 1, none⟩) (Kd.S_types HO365.out BK348.out (by decide)) (fun _ hk => hk.2) (.slice Ao51 y363.length co51)) (fun _ hk => trivial)⟩, ⟨by (with_reducible repeat (first | refine blk_drewN ?_ _ | refine blk_drew ?_ | refine blk_alloc ?_ _)); refine blk_far ?_ NB337_348.out _; (with_reducible repeat (first | refine blk_drewN ?_ _ | refine blk_drew ?_ | refine blk_alloc ?_ _)); exact BK337.out⟩, ⟨by (with_reducible repeat (first | refine blk_drewN ?_ _ | refine blk_drew ?_ | refine blk_alloc ?_ _)); refine blk_far ?_ NB338_348.out _; (with_reducible repeat (first | refine blk_drewN ?_ _ | refine blk_drew ?_ | refine blk_alloc ?_ _)); exact BK338.out⟩, ⟨by (with_reducible repeat (first | refine blk_drewN ?_ _ | refine blk_drew ?_ | refine blk_alloc ?_ _)); refine blk_put (cs := #[.int .i64 (wrap64 (t349)), u349001]) ?_ 1 _ rfl; (with_reducible repeat (first | refine blk_drewN ?_ _ | refine blk_drew ?_ | refine blk_alloc ?_ _)); exact BK348.out⟩, ⟨by repeat (first | (with_reducible first | exact HI0.out | apply IsS104.alloc | apply IsS104.drewN | apply IsS104.drew | apply IsS104.set_1 | apply IsS104.set_2 | refine IsS104.far ?_ NB0_337.out _ | refine IsS104.far ?_ NB0_338.out _ | refine IsS104.far ?_ NB0_348.out _) | exact HI0.out)⟩, ⟨by repeat (first | (with_reducible first | exact HK.out | apply KeepBut.set_ | apply keep_drewN | apply keep_drew | apply keep_alloc | refine keep_far ?_ GW337.out _ | refine keep_far ?_ GW338.out _ | refine keep_far ?_ GW348.out _) | exact HK.out)⟩, ⟨by repeat (first | (with_reducible first | exact HB.out | apply bA | apply bN | apply b1 | refine below_set ?_ (IsS104.ge HI0.out) | refine below_set ?_ GE337.out | refine below_set ?_ GE338.out | refine below_set ?_ GE348.out) | exact HB.out)⟩⟩
          ·
           rw [if_neg c45] at H
           exact absurd H (by simp)
        ·
         rw [if_neg c29] at H
         have c29b0 : decide (x8_3 < t352) = false := decide_eq_false c29
         clear c29
         by_cases c53 : x339002_1.length < 4398046511104
         ·
          rw [if_pos c53] at H
          have LMc53 := ak c53
          clear c53
          obtain ⟨y366, hy366⟩ : ∃ y_ : List (S76), y_ = (x339002_1 ++ [(⟨(wrap64 (t349)), x349001_3⟩ : S76)]) := ⟨_, rfl⟩
          replace H : (larderref16_Eye_entry.l0 k3 t345 (IntKind.u64.wrap (x5_1 + 1)) s0_0 x1001_3 x1002_3 (wrap64 (t339)) t342 y366) = some (r1, r2, r3, r4, r5) := by first | (rw [hy366]; with_reducible exact H) | (have H2_ := (Option.bind_some _ _).symm.trans H; rw [hy366]; with_reducible exact H2_) | (have H2_ := (Option.bind_some _ _).symm.trans H; with_reducible exact H2_) | with_reducible exact H | (rw [hy366]; exact H) | exact H
          have Ny366 := ak hy366
          clear hy366
          have H' := ak H
          clear H
          have hnb54 := NB338_337.out
          have hnc54 := NB337_338.out
          have hnb55 := NB338_348.out
          have hnc55 := NB348_338.out
          have hnb56 := NB338_0.out
          have hnc56 := NB0_338.out
          have hcz57_0 : wr.cell? ⟨gb338, 0, none⟩ = some (.int .i64 (wrap64 (t339))) := (blk_cell BK338.out 0).trans rfl
          have hcz57_1 : wr.cell? ⟨gb338, 1, none⟩ = some (.int .u64 t342) := (blk_cell BK338.out 1).trans rfl
          have hcz57_2 : wr.cell? ⟨gb338, 2, none⟩ = some (u339002) := (blk_cell BK338.out 2).trans rfl
          have hfz57_0 := blk_frozen BK338.out 0
          have hfz57_1 := blk_frozen BK338.out 1
          have hfz57_2 := blk_frozen BK338.out 2
          have hnb58 := NB348_337.out
          have hnc58 := NB337_348.out
          have hnb59 := NB348_0.out
          have hnc59 := NB0_348.out
          have hcz60_0 : wr.cell? ⟨gb348, 0, none⟩ = some (.int .i64 (wrap64 (t349))) := (blk_cell BK348.out 0).trans rfl
          have hcz60_1 : wr.cell? ⟨gb348, 1, none⟩ = some (u349001) := (blk_cell BK348.out 1).trans rfl
          have hfz60_0 := blk_frozen BK348.out 0
          have hfz60_1 := blk_frozen BK348.out 1
          obtain ⟨Ao62, co62, eo62⟩ := Kd.S_slice HO_349001.out
          subst eo62
          go_wp2_with (first | ((with_reducible refine gate_builtin (b := .append) (xs := #[.tmp 58, .tmp 60]) rfl ?_); at_builtin; refine Kd.R_append k76 w.heap.size rfl (.tmp 58) (.tmp 60) 31 76 (.agg #[(.int .i64 0), (.slice none 0 0)]) 32 rfl Try.underlying31 info76 rfl (by decide) (by omega) u339002 x339002_1 (⟨(wrap64 (t349)), x349001_3⟩ : S76) [.int .i64 (wrap64 (t349)), .slice Ao62 x349001_3.length co62] (fun k_ => k_ ≠ gb348) (fun k_ => ((fun k_ => k_ ≠ gb348)) k_ ∧ some k_ ≠ (u339002 : Value).ownBlock) rfl rfl ?aP (fun _ hk => hk) ?aF ?aO (Below.refl _ _) ?aS ?aL ?_; (case aP => exact k76_mkM _ _ _ (⟨(wrap64 (t349)), x349001_3⟩ : S76) (Kd.R_mono (Kd.R_types (Kd.R_apart' ((Kd.S_R HO_349001.out)) (Kd.R_typed HO_339002.out) (by decide)) BK348.out (by decide)) (fun k_ hk => ⟨hk.2, hk.1.2⟩))); (case aF => exact (fun k_ hk => Kd.freshB (g := gb348) (o := .cells #[.int .i64 (wrap64 (t349)), .slice Ao62 x349001_3.length co62] 76 (0, 0)) (by (with_reducible repeat (first | refine blk_drewN ?_ _ | refine blk_drew ?_ | refine blk_alloc ?_ _)); exact BK348.out) k_ hk)); (case aO => exact (by (with_reducible repeat (first | apply Kd.R_alloc | apply Kd.R_drewN | apply Kd.R_drew)); exact Kd.R_mono HO_339002.out (fun _ hk => hk.2))); (case aS => exact (keep_size (w := w) (g := g) (row := none) (by repeat (first | (with_reducible first | exact HK.out | apply KeepBut.set_ | apply keep_drewN | apply keep_drew | apply keep_alloc | refine keep_far ?_ GW337.out _ | refine keep_far ?_ GW338.out _ | refine keep_far ?_ GW348.out _) | exact HK.out)))); (case aL => have := LMc53.out; omega); intro v367 w61 ho hb hg hat; rw [← Ny366.out] at ho; have n0_ := ak (blk_grown (g := gb337) (o := .cells #[.int .i64 0, .int .u64 0, .slice none 0 0] 33 (0, 0)) (by (with_reducible repeat (first | refine blk_drewN ?_ _ | refine blk_drew ?_ | refine blk_alloc ?_ _)); exact BK337.out) hg (Kd.R_ne HO_339002.out BK337.out (by decide))); have n1_ := ak (blk_grown (g := gb338) (o := .cells #[.int .i64 (wrap64 (t339)), .int .u64 t342, u339002] 33 (0, 0)) (by (with_reducible repeat (first | refine blk_drewN ?_ _ | refine blk_drew ?_ | refine blk_alloc ?_ _)); exact BK338.out) hg (Kd.R_ne HO_339002.out BK338.out (by decide))); have n2_ := ak (blk_grown (g := gb348) (o := .cells #[.int .i64 (wrap64 (t349)), .slice Ao62 x349001_3.length co62] 76 (0, 0)) (by (with_reducible repeat (first | refine blk_drewN ?_ _ | refine blk_drew ?_ | refine blk_alloc ?_ _)); exact BK348.out) hg (Kd.R_away HO_339002.out (fun _ hk => hk.2))); have n3_ := ak (IsS104.grown (by repeat (first | (with_reducible first | exact HI0.out | apply IsS104.alloc | apply IsS104.drewN | apply IsS104.drew | apply IsS104.set_1 | apply IsS104.set_2 | refine IsS104.far ?_ NB0_337.out _ | refine IsS104.far ?_ NB0_338.out _ | refine IsS104.far ?_ NB0_348.out _) | exact HI0.out)) hg (IsS104.own_ne HI0.out HO_339002.out (by decide))); have n4_ := ak (below_weaken (by repeat (first | (with_reducible first | exact HB.out | apply bA | apply bN | apply b1 | refine below_set ?_ (IsS104.ge HI0.out) | refine below_set ?_ GE337.out | refine below_set ?_ GE338.out | refine below_set ?_ GE348.out) | exact HB.out)) HL.out hb); have n5_ := ak (KeepBut.trans (by repeat (first | (with_reducible first | exact HK.out | apply KeepBut.set_ | apply keep_drewN | apply keep_drew | apply keep_alloc | refine keep_far ?_ GW337.out _ | refine keep_far ?_ GW338.out _ | refine keep_far ?_ GW348.out _) | exact HK.out)) (KeepBut.of_grown hg g) (Kd.R_base2 HO_339002.out)); have n6_ := ak (ho); clear BK337; clear BK338; clear BK348; clear HI0; clear HB; clear HK; clear HO_339002; clear HO_349001; have BK337 := n0_; have BK338 := n1_; have BK348 := n2_; have HI0 := n3_; have HB := n4_; have HK := n5_; have HO368 := n6_; clear n0_ n1_ n2_ n3_ n4_ n5_ n6_; clear ho hb hg hat; obtain ⟨Ao63, co63, eo63⟩ := Kd.R_slice HO368.out; subst eo63; have hcz64_0 : w61.cell? ⟨gb338, 0, none⟩ = some (.int .i64 (wrap64 (t339))) := (blk_cell BK338.out 0).trans rfl; have hcz64_1 : w61.cell? ⟨gb338, 1, none⟩ = some (.int .u64 t342) := (blk_cell BK338.out 1).trans rfl; have hcz64_2 : w61.cell? ⟨gb338, 2, none⟩ = some (u339002) := (blk_cell BK338.out 2).trans rfl; have hfz64_0 := blk_frozen BK338.out 0; have hfz64_1 := blk_frozen BK338.out 1; have hfz64_2 := blk_frozen BK338.out 2))
          go_roundg k3
          case measure => have := HK1.out; have := HJ14.out; have := HK3.out; omega
          case rel => exact ⟨(IntKind.u64.wrap (x5_1 + 1)), (x1001_3), (x1002_3), (y366), (.slice Ao63 y366.length co63), (by first | rfl | (simp; done) | (simp [*]; done)), H', ⟨by have := HK1.out; have := HJ14.out; have := HK3.out; omega⟩, ⟨by (with_reducible repeat (first | apply Kd.R_alloc | apply Kd.R_drewN | apply Kd.R_drew)); exact Kd.R_mono (Kd.R_far (p := ⟨gb338, 2, none⟩) (Kd.R_types HO368.out BK338.out (by decide)) (fun _ hk => hk.2) (.slice Ao63 y366.length co63)) (fun _ hk => trivial)⟩, ⟨by (with_reducible repeat (first | refine blk_drewN ?_ _ | refine blk_drew ?_ | refine blk_alloc ?_ _)); refine blk_far ?_ NB337_338.out _; (with_reducible repeat (first | refine blk_drewN ?_ _ | refine blk_drew ?_ | refine blk_alloc ?_ _)); exact BK337.out⟩, ⟨by (with_reducible repeat (first | refine blk_drewN ?_ _ | refine blk_drew ?_ | refine blk_alloc ?_ _)); refine blk_put (cs := #[.int .i64 (wrap64 (t339)), .int .u64 t342, u339002]) ?_ 2 _ rfl; (with_reducible repeat (first | refine blk_drewN ?_ _ | refine blk_drew ?_ | refine blk_alloc ?_ _)); exact BK338.out⟩, ⟨by repeat (first | (with_reducible first | exact HI0.out | apply IsS104.alloc | apply IsS104.drewN | apply IsS104.drew | apply IsS104.set_1 | apply IsS104.set_2 | refine IsS104.far ?_ NB0_337.out _ | refine IsS104.far ?_ NB0_338.out _ | refine IsS104.far ?_ NB0_348.out _) | exact HI0.out)⟩, ⟨by repeat (first | (with_reducible first | exact HK.out | apply KeepBut.set_ | apply keep_drewN | apply keep_drew | apply keep_alloc | refine keep_far ?_ GW337.out _ | refine keep_far ?_ GW338.out _ | refine keep_far ?_ GW348.out _) | exact HK.out)⟩, ⟨by repeat (first | (with_reducible first | exact HB.out | apply bA | apply bN | apply b1 | refine below_set ?_ (IsS104.ge HI0.out) | refine below_set ?_ GE337.out | refine below_set ?_ GE338.out | refine below_set ?_ GE348.out) | exact HB.out)⟩⟩
         ·
          rw [if_neg c53] at H
          exact absurd H (by simp)
     ·
      replace c18 := Bool.eq_false_iff.mpr c18
      subst c18
      have H1 : (some ((wrap64 (t339)), t342, x339002_1, x1001_1, x1002_1)) = some (r1, r2, r3, r4, r5) := by rw [if_neg (show ¬ (false = true) by decide)] at H; exact H
      clear H
      have H := H1
      clear H1
      simp only [Option.some.injEq, Prod.mk.injEq] at H
      obtain ⟨rfl, rfl, rfl, rfl, rfl⟩ := H
      have hnb65 := NB338_337.out
      have hnc65 := NB337_338.out
      have hnb66 := NB338_0.out
      have hnc66 := NB0_338.out
      have hcz67_0 : wc.cell? ⟨gb338, 0, none⟩ = some (.int .i64 (wrap64 (t339))) := (blk_cell BK338.out 0).trans rfl
      have hcz67_1 : wc.cell? ⟨gb338, 1, none⟩ = some (.int .u64 t342) := (blk_cell BK338.out 1).trans rfl
      have hcz67_2 : wc.cell? ⟨gb338, 2, none⟩ = some (u339002) := (blk_cell BK338.out 2).trans rfl
      have hfz67_0 := blk_frozen BK338.out 0
      have hfz67_1 := blk_frozen BK338.out 1
      have hfz67_2 := blk_frozen BK338.out 2
      have hnb68 := NB337_0.out
      have hnc68 := NB0_337.out
      have hcz69_0 : wc.cell? ⟨gb337, 0, none⟩ = some (.int .i64 0) := (blk_cell BK337.out 0).trans rfl
      have hcz69_1 : wc.cell? ⟨gb337, 1, none⟩ = some (.int .u64 0) := (blk_cell BK337.out 1).trans rfl
      have hcz69_2 : wc.cell? ⟨gb337, 2, none⟩ = some (.slice none 0 0) := (blk_cell BK337.out 2).trans rfl
      have hfz69_0 := blk_frozen BK337.out 0
      have hfz69_1 := blk_frozen BK337.out 1
      have hfz69_2 := blk_frozen BK337.out 2
      obtain ⟨Ao70, co70, eo70⟩ := Kd.R_slice HO_339002.out
      subst eo70
      go_wp2
      refine bodyPost_ret (results_cell_row rfl _ _ gb337 33 #[.int .i64 (wrap64 (t339)), .int .u64 t342, .slice Ao70 x339002_1.length co70] (0, 0) _ rfl (by (with_reducible repeat (first | refine blk_drewN ?_ _ | refine blk_drew ?_ | refine blk_alloc ?_ _)); refine blk_put (cs := #[.int .i64 (wrap64 (t339)), .int .u64 t342, .slice none 0 0]) ?_ 2 _ rfl; (with_reducible repeat (first | refine blk_drewN ?_ _ | refine blk_drew ?_ | refine blk_alloc ?_ _)); refine blk_put (cs := #[.int .i64 (wrap64 (t339)), .int .u64 0, .slice none 0 0]) ?_ 1 _ rfl; (with_reducible repeat (first | refine blk_drewN ?_ _ | refine blk_drew ?_ | refine blk_alloc ?_ _)); refine blk_put (cs := #[.int .i64 0, .int .u64 0, .slice none 0 0]) ?_ 0 _ rfl; (with_reducible repeat (first | refine blk_drewN ?_ _ | refine blk_drew ?_ | refine blk_alloc ?_ _)); exact BK337.out) Try.underlying33 rfl (by kernel_rfl)) rfl ?_
      exact ⟨_, by first | rfl | (simp [errW_none, errW_some] <;> rfl) | (simp [*, errW_none, errW_some] <;> rfl), by (with_reducible repeat (first | apply Kd.R_alloc | apply Kd.R_drewN | apply Kd.R_drew)); exact Kd.R_mono (Kd.R_far (p := ⟨gb337, 2, none⟩) (Kd.R_far (p := ⟨gb337, 1, none⟩) (Kd.R_far (p := ⟨gb337, 0, none⟩) (Kd.R_types HO_339002.out BK337.out (by decide)) (fun _ hk => hk.2) (.int .i64 (wrap64 (t339)))) (fun _ hk => hk.2) (.int .u64 t342)) (fun _ hk => hk.2) (.slice Ao70 x339002_1.length co70)) (fun _ hk => trivial), by repeat (first | (with_reducible first | exact HI0.out | apply IsS104.alloc | apply IsS104.drewN | apply IsS104.drew | apply IsS104.set_1 | apply IsS104.set_2 | refine IsS104.far ?_ NB0_337.out _ | refine IsS104.far ?_ NB0_338.out _) | exact HI0.out), by repeat (first | (with_reducible first | exact HB.out | apply bA | apply bN | apply b1 | refine below_set ?_ (IsS104.ge HI0.out) | refine below_set ?_ GE337.out | refine below_set ?_ GE338.out) | exact HB.out), by repeat (first | (with_reducible first | exact HK.out | apply KeepBut.set_ | apply keep_drewN | apply keep_drew | apply keep_alloc | refine keep_far ?_ GW337.out _ | refine keep_far ?_ GW338.out _) | exact HK.out)⟩

end Go.Proofs.Ytdhkhjfjjbdkgaa.Rec
