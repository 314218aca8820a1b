/- The contracts of api.Bad and larderlaw0.text: Bad's reply bears the text of the number; text answers true. -/
import Derived.Test.YtdhkhjfjjbdkgaaTxt
import Derived.Lib.ConvBytes
import Derived.Laws.IdiomStrings
import Derived.Deep.RegionHeld3
import Derived.Outline
import Derived.Laws.Rows
import Derived.Deep.DeepMust
namespace Go.Proofs.Ytdhkhjfjjbdkgaa.Txt
open Go.RowKit
set_option linter.unusedVariables false
set_option linter.unusedSimpArgs false
/-- The reply of Bad lies in memory: its slice of bytes reads as the text. -/
def BadOf (s : ByteArray) (w : World) (r : Ending) (w' : World) : Prop :=
  ∃ b c : Nat, r = .returned (.agg #[.int .i64 2, .int .i64 0, .slice (some ⟨b, 0, none⟩) s.size c, .slice none 0 0]) ∧
    w.heap.size ≤ b ∧ b < w'.heap.size ∧ (∀ j, j < s.size → w'.cell? ⟨b, j, none⟩ = some (.int .u8 (s.data.toList.getD j 0).toNat)) ∧ Below w.heap.size w w'
set_option maxHeartbeats 1000000 in
theorem bad_core (e : Int) (s : ByteArray) (w : World) (H : Hid (∀ w, Calls Try.prog 17 #[.int .i64 e] w fun r w' => r = .returned (.string s) ∧ Below w.heap.size w w')) : Calls Try.prog 41 #[.int .i64 e] w (BadOf s w) := by
  go_enter Try.func41, Try.ntmps41
  go_wp2_with fail
  refine (H.out _).mono ?_
  rintro r w1 ⟨rfl, hb⟩
  have hcv := fun (W : World) => Lib.run_convert_string_bytes (P := Try.prog) W 9 37 5 s Try.underlying9 Try.underlying37 Try.underlying5
  have hsz := hb.size
  rw [World.size_alloc] at hsz
  have hg1 : w1.heap[w.heap.size]? = some (.cells #[.int .i64 0, .int .i64 0, .slice none 0 0, .slice none 0 0] 71 (0, 0)) := by
    rw [hb.block _ (by simp)]; exact heap_alloc_new _ _
  have hg2 : (Lib.bytesWorld w1 5 s).heap[w.heap.size]? = some (.cells #[.int .i64 0, .int .i64 0, .slice none 0 0, .slice none 0 0] 71 (0, 0)) := by
    rw [Lib.bytesWorld_at_old _ _ _ _ (by omega)]; exact hg1
  have hB : Below w.heap.size w (Lib.bytesWorld w1 5 s) := by
    have h2 : Below w.heap.size w w1 := ((Below.refl _ _).alloc (Nat.le_refl _) _).trans (hb.mono (by simp))
    exact h2.trans ⟨rfl, rfl, rfl, by rw [Lib.bytesWorld_size]; omega, fun k hk => Lib.bytesWorld_at_old _ _ _ _ (by omega)⟩
  have hcell := Lib.bytesWorld_cell w1 5 s
  have hz := Lib.bytesWorld_size w1 5 s
  have HG := Lib.hid hg2; have HB := Lib.hid hB; have HC := Lib.hid hcell; have HZ := Lib.hid hz; have HS := Lib.hid hsz
  clear hg1 hg2 hB hcell hz hsz hb
  go_wp2_with (refine wpList_store_row rfl 71 _ _ rfl w.heap.size #[.int .i64 2, .int .i64 0, .slice (some ⟨w1.heap.size, 0, none⟩) s.size (grownCap w1 s.size 0 5), .slice none 0 0] rfl rfl 71 _ HG.out (by kernel_rfl) rfl (by kernel_rfl) ?_)
  refine bodyPost_ret (results_cell_row rfl _ _ w.heap.size 71 _ (0, 0) _ rfl (setRow_heap _ _ _ _ _ _ HG.out) Try.underlying71 rfl (by kernel_rfl)) rfl ?_
  refine ⟨w1.heap.size, _, rfl, by have := HS.out; omega, by rw [setRow_size, HZ.out]; omega, fun j hj => ?_, below_setRow HB.out (Nat.le_refl _) _⟩
  rw [cell_setRow_other _ _ _ _ (by have := HS.out; simp only; omega)]
  exact HC.out j hj
theorem bad (e : Int) (w : World) (h0 : -9223372036854775808 ≤ e) (h1 : e ≤ 9223372036854775807) : Calls Try.prog 41 #[.int .i64 e] w (BadOf (txt e) w) :=
  bad_core e _ w (fun w => text e w h0 h1)
def HeldS (g b c : Nat) (s : ByteArray) (w' : World) : Prop := w'.cell? ⟨g, 0, none⟩ = some (.int .i64 2) ∧ w'.cell? ⟨g, 1, none⟩ = some (.int .i64 0) ∧ w'.cell? ⟨g, 2, none⟩ = some (.slice (some ⟨b, 0, none⟩) s.size c) ∧ w'.cell? ⟨g, 3, none⟩ = some (.slice none 0 0) ∧ Sem.run Try.prog (convert 37 9 (.slice (some ⟨b, 0, none⟩) s.size c)) w' = .ok (.string s) w'
theorem held_mk {g b c : Nat} {s : ByteArray} {w' : World} (h : ∀ k v, #[Value.int .i64 2, .int .i64 0, .slice (some ⟨b, 0, none⟩) s.size c, .slice none 0 0][k]? = some v → w'.cell? ⟨g, k, none⟩ = some v)
    (hc : ∀ j, j < s.size → w'.cell? ⟨b, j, none⟩ = some (.int .u8 (s.data.toList.getD j 0).toNat)) : HeldS g b c s w' := by
  refine ⟨h 0 _ rfl, h 1 _ rfl, h 2 _ rfl, h 3 _ rfl, ?_⟩
  have := run_convert_bytes_back (P := Try.prog) w' 37 9 5 ⟨b, 0, none⟩ c s.data.toList Try.underlying37 Try.underlying5 Try.underlying9 (fun j hj => by
    have hj' : j < s.size := by simpa using hj
    have e : (⟨b, 0, none⟩ : Addr).add j = ⟨b, j, none⟩ := by unfold Addr.add; split <;> simp_all
    rw [e, hc j hj']
    simp [List.getD, List.getElem?_eq_getElem hj])
  simpa using this
set_option maxHeartbeats 2000000 in
set_option maxRecDepth 100000 in
theorem says_core (e : Int) (s : ByteArray) (w : World) (H17 : Hid (∀ w, Calls Try.prog 17 #[.int .i64 e] w fun r w' => r = .returned (.string s) ∧ Below w.heap.size w w'))
    (H41 : Hid (∀ w, Calls Try.prog 41 #[.int .i64 e] w (BadOf s w))) (H42 : Hid (∀ w, Calls Try.prog 42 #[.int .i64 e] w fun r w' => r = .returned (.string s) ∧ w = w')) :
    Calls Try.prog 16 #[.int .i64 e] w fun r w' => r = .returned (.bool true) ∧ Below w.heap.size w w' := by
  go_enter Try.func16, Try.ntmps16
  go_wp2_with fail
  refine (H41.out _).mono ?_
  rintro r w1 ⟨b, c, rfl, hb0, hb1, hcell, hb⟩
  have hz := hb.size
  have HB := Lib.hid hb; clear hb
  have HC := Lib.hid hcell; clear hcell
  go_wp2_with (refine store_new rfl _ _ _ rfl #[.int .i64 2, .int .i64 0, .slice (some ⟨b, 0, none⟩) s.size c, .slice none 0 0] rfl rfl (by kernel_rfl) (by kernel_rfl) (by kernel_rfl) ?_; intro W hc hB hZ; have HD := Lib.hid hc; clear hc; have HE := Lib.hid hB; clear hB; have HZ := Lib.hid hZ; clear hZ)
  have HK : Hid (∀ w2, Below W.heap.size W w2 → HeldS w1.heap.size b c s w2) := fun w2 h2 => held_mk (fun k v hk => by rw [h2.cell (by show w1.heap.size < W.heap.size; rw [HZ.out]; omega), HD.out k]; exact hk) (fun j hj => by
    rw [h2.cell (by show b < W.heap.size; rw [HZ.out]; omega), HE.out.cell hb1]; exact HC.out j hj)
  obtain ⟨f0, f1, f2, f3, _⟩ := HK.out W (Below.refl _ _)
  obtain ⟨_, _, _, _, f4⟩ := HK.out W.drew (Below.refl _ _).drew
  go_region_held3 (fun w' => w'.cell? ⟨w1.heap.size, 0, none⟩ = some (.int .i64 2) ∧ w'.cell? ⟨w1.heap.size, 1, none⟩ = some (.int .i64 0) ∧ w'.cell? ⟨w1.heap.size, 2, none⟩ = some (.slice (some ⟨b, 0, none⟩) s.size c) ∧ w'.cell? ⟨w1.heap.size, 3, none⟩ = some (.slice none 0 0) ∧ Sem.run Try.prog (convert 37 9 (.slice (some ⟨b, 0, none⟩) s.size c)) w' = .ok (.string s) w')
    (first | exact ⟨by assumption, by assumption, by assumption, by assumption, by assumption⟩)
    (first | (go_at_call 17; refine (H17.out _).mono ?_; rintro r w2 ⟨rfl, hb2⟩; obtain ⟨g0, g1, g2, g3, g4⟩ := HK.out w2 ((Below.refl _ _).drew.trans (by exact hb2)); have HL := Lib.hid hb2; clear hb2) | (go_at_call 42; refine (H42.out _).mono ?_; rintro r w3 ⟨rfl, rfl⟩))
  go_wp2
  go_ret
  have h1 : Below w.heap.size w W := HB.out.trans (HE.out.mono hz)
  exact ⟨rfl, h1.trans (((Below.refl _ _).drew.trans HL.out).mono (by have := HZ.out; show w.heap.size ≤ W.heap.size; omega))⟩
theorem says (e : Int) (w : World) (h0 : -9223372036854775808 ≤ e) (h1 : e ≤ 9223372036854775807) : Calls Try.prog 16 #[.int .i64 e] w fun r w' => r = .returned (.bool true) ∧ Below w.heap.size w w' :=
  says_core e (txt e) w (fun w => text e w h0 h1) (fun w => bad e w h0 h1) (fun w => ztext e w)
end Go.Proofs.Ytdhkhjfjjbdkgaa.Txt
