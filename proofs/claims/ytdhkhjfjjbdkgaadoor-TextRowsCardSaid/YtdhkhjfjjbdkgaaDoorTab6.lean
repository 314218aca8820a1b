/- The references' rows: larderref12.Names, Row, read; larderref13.row, Commands. -/
import Derived.Test.YtdhkhjfjjbdkgaaDoorTab5
namespace Go.Proofs.YtdhkhjfjjbdkgaaDoor.Tab
open Go.RowKit
set_option linter.unusedVariables false
set_option linter.unusedSimpArgs false
theorem bel {a b c : World} (h : Below a.heap.size a b) (k : Below b.heap.size b c) : Below a.heap.size a c := h.trans (k.mono h.size)
set_option maxHeartbeats 1000000 in
theorem row19 (s : ByteArray) (a : Int) (b : Bool) (f l t c : Int) (w : World) : Calls Tryd.prog 19 #[.string s, .int .i64 a, .bool b, .int .i64 f, .int .i64 l, .int .i64 t, .int .i64 c] w fun e w' =>
    e = .returned (.agg #[.string s, .int .i64 a, .bool b, .int .i64 f, .int .i64 l, .int .i64 t, .int .i64 c]) ∧ Below w.heap.size w w' := by
  go_enter Tryd.func19, Tryd.ntmps19
  go_wp2
  exact bodyPost_ret (v := .agg #[.string s, .int .i64 a, .bool b, .int .i64 f, .int .i64 l, .int .i64 t, .int .i64 c]) (by simp [results, Tryd.results19, go_sem]) rfl ⟨rfl, (Below.refl _ _).alloc (Nat.le_refl _) _⟩

def nest1 : List Value := [.string ⟨#[72, 68, 69, 76]⟩, .int .i64 (-3), .bool true, .int .i64 (1), .int .i64 (1), .int .i64 (1), .int .i64 (0), .string ⟨#[72, 69, 88, 73, 83, 84, 83]⟩, .int .i64 (3), .bool false, .int .i64 (1), .int .i64 (1), .int .i64 (1), .int .i64 (0), .string ⟨#[72, 71, 69, 84]⟩, .int .i64 (3), .bool false, .int .i64 (1), .int .i64 (1), .int .i64 (1), .int .i64 (0), .string ⟨#[72, 71, 69, 84, 65, 76, 76]⟩, .int .i64 (2), .bool false, .int .i64 (1), .int .i64 (1), .int .i64 (1), .int .i64 (0), .string ⟨#[72, 73, 78, 67, 82, 66, 89]⟩, .int .i64 (4), .bool true, .int .i64 (1), .int .i64 (1), .int .i64 (1), .int .i64 (0), .string ⟨#[72, 75, 69, 89, 83]⟩, .int .i64 (2), .bool false, .int .i64 (1), .int .i64 (1), .int .i64 (1), .int .i64 (0), .string ⟨#[72, 76, 69, 78]⟩, .int .i64 (2), .bool false, .int .i64 (1), .int .i64 (1), .int .i64 (1), .int .i64 (0), .string ⟨#[72, 77, 71, 69, 84]⟩, .int .i64 (-3), .bool false, .int .i64 (1), .int .i64 (1), .int .i64 (1), .int .i64 (0), .string ⟨#[72, 83, 67, 65, 78]⟩, .int .i64 (-3), .bool false, .int .i64 (1), .int .i64 (1), .int .i64 (1), .int .i64 (0), .string ⟨#[72, 83, 69, 84]⟩, .int .i64 (-4), .bool true, .int .i64 (1), .int .i64 (1), .int .i64 (1), .int .i64 (0), .string ⟨#[72, 83, 69, 84, 78, 88]⟩, .int .i64 (4), .bool true, .int .i64 (1), .int .i64 (1), .int .i64 (1), .int .i64 (0), .string ⟨#[72, 83, 84, 82, 76, 69, 78]⟩, .int .i64 (3), .bool false, .int .i64 (1), .int .i64 (1), .int .i64 (1), .int .i64 (0), .string ⟨#[72, 86, 65, 76, 83]⟩, .int .i64 (2), .bool false, .int .i64 (1), .int .i64 (1), .int .i64 (1), .int .i64 (0)]
def nest2 : List Value := [.string ⟨#[83, 65, 68, 68]⟩, .int .i64 (-3), .bool true, .int .i64 (1), .int .i64 (1), .int .i64 (1), .int .i64 (0), .string ⟨#[83, 67, 65, 82, 68]⟩, .int .i64 (2), .bool false, .int .i64 (1), .int .i64 (1), .int .i64 (1), .int .i64 (0), .string ⟨#[83, 68, 73, 70, 70]⟩, .int .i64 (-2), .bool false, .int .i64 (1), .int .i64 (-1), .int .i64 (1), .int .i64 (0), .string ⟨#[83, 68, 73, 70, 70, 83, 84, 79, 82, 69]⟩, .int .i64 (-3), .bool true, .int .i64 (1), .int .i64 (-1), .int .i64 (1), .int .i64 (0), .string ⟨#[83, 73, 78, 84, 69, 82]⟩, .int .i64 (-2), .bool false, .int .i64 (1), .int .i64 (-1), .int .i64 (1), .int .i64 (0), .string ⟨#[83, 73, 78, 84, 69, 82, 67, 65, 82, 68]⟩, .int .i64 (-3), .bool false, .int .i64 (0), .int .i64 (0), .int .i64 (0), .int .i64 (1), .string ⟨#[83, 73, 78, 84, 69, 82, 83, 84, 79, 82, 69]⟩, .int .i64 (-3), .bool true, .int .i64 (1), .int .i64 (-1), .int .i64 (1), .int .i64 (0), .string ⟨#[83, 73, 83, 77, 69, 77, 66, 69, 82]⟩, .int .i64 (3), .bool false, .int .i64 (1), .int .i64 (1), .int .i64 (1), .int .i64 (0), .string ⟨#[83, 77, 69, 77, 66, 69, 82, 83]⟩, .int .i64 (2), .bool false, .int .i64 (1), .int .i64 (1), .int .i64 (1), .int .i64 (0), .string ⟨#[83, 77, 73, 83, 77, 69, 77, 66, 69, 82]⟩, .int .i64 (-3), .bool false, .int .i64 (1), .int .i64 (1), .int .i64 (1), .int .i64 (0), .string ⟨#[83, 77, 79, 86, 69]⟩, .int .i64 (4), .bool true, .int .i64 (1), .int .i64 (2), .int .i64 (1), .int .i64 (0), .string ⟨#[83, 80, 79, 80]⟩, .int .i64 (-2), .bool true, .int .i64 (1), .int .i64 (1), .int .i64 (1), .int .i64 (0), .string ⟨#[83, 82, 69, 77]⟩, .int .i64 (-3), .bool true, .int .i64 (1), .int .i64 (1), .int .i64 (1), .int .i64 (0), .string ⟨#[83, 83, 67, 65, 78]⟩, .int .i64 (-3), .bool false, .int .i64 (1), .int .i64 (1), .int .i64 (1), .int .i64 (0), .string ⟨#[83, 85, 78, 73, 79, 78]⟩, .int .i64 (-2), .bool false, .int .i64 (1), .int .i64 (-1), .int .i64 (1), .int .i64 (0), .string ⟨#[83, 85, 78, 73, 79, 78, 83, 84, 79, 82, 69]⟩, .int .i64 (-3), .bool true, .int .i64 (1), .int .i64 (-1), .int .i64 (1), .int .i64 (0)]
theorem nest_all : nest1 ++ nest2 = nestC.flatMap Cmd.cells := by kernel_rfl
theorem nest1_one : ∀ u ∈ nest1, u.oneCell' = true := by
  have h : nest1.all (·.oneCell') = true := by kernel_rfl
  exact fun u hu => List.all_eq_true.1 h u hu
theorem nest2_one : ∀ u ∈ nest2, u.oneCell' = true := by
  have h : nest2.all (·.oneCell') = true := by kernel_rfl
  exact fun u hu => List.all_eq_true.1 h u hu
def names : List ByteArray := [⟨#[76, 73, 78, 68, 69, 88]⟩, ⟨#[76, 73, 78, 83, 69, 82, 84]⟩, ⟨#[76, 76, 69, 78]⟩, ⟨#[76, 77, 79, 86, 69]⟩, ⟨#[76, 77, 80, 79, 80]⟩, ⟨#[76, 80, 79, 80]⟩, ⟨#[76, 80, 79, 83]⟩, ⟨#[76, 80, 85, 83, 72]⟩, ⟨#[76, 80, 85, 83, 72, 88]⟩, ⟨#[76, 82, 65, 78, 71, 69]⟩, ⟨#[76, 82, 69, 77]⟩, ⟨#[76, 83, 69, 84]⟩, ⟨#[76, 84, 82, 73, 77]⟩, ⟨#[82, 80, 79, 80]⟩, ⟨#[82, 80, 79, 80, 76, 80, 85, 83, 72]⟩, ⟨#[82, 80, 85, 83, 72]⟩, ⟨#[82, 80, 85, 83, 72, 88]⟩]
theorem names_at : ∀ k, k < 17 → names.getD k ⟨#[]⟩ = (rowsC.getD k zc).name := by
  intro k hk
  match k, hk with
  | 0, _ => rfl
  | 1, _ => rfl
  | 2, _ => rfl
  | 3, _ => rfl
  | 4, _ => rfl
  | 5, _ => rfl
  | 6, _ => rfl
  | 7, _ => rfl
  | 8, _ => rfl
  | 9, _ => rfl
  | 10, _ => rfl
  | 11, _ => rfl
  | 12, _ => rfl
  | 13, _ => rfl
  | 14, _ => rfl
  | 15, _ => rfl
  | 16, _ => rfl
  | k + 17, h => exact absurd h (by omega)
set_option maxHeartbeats 4000000 in
set_option maxRecDepth 100000 in
theorem ref_names (w : World) : Calls Tryd.prog 10 #[] w fun e w' => e = .returned (.slice (some ⟨w.heap.size, 0, none⟩) 17 17) ∧ (∀ k, k < 17 → w'.cell? ⟨w.heap.size, k, none⟩ = some (.string (rowsC.getD k zc).name)) ∧ w.heap.size < w'.heap.size ∧ Below w.heap.size w w' := by
  go_enter Tryd.func10, Tryd.ntmps10
  go_wp2_with fail
  go_ret
  refine ⟨rfl, fun k hk => ?_, by simp, (Below.refl _ _).alloc (Nat.le_refl _) _⟩
  have := names_at k hk
  rw [← this, World.cell?, heap_alloc_new]
  match k, hk with
  | 0, _ => rfl
  | 1, _ => rfl
  | 2, _ => rfl
  | 3, _ => rfl
  | 4, _ => rfl
  | 5, _ => rfl
  | 6, _ => rfl
  | 7, _ => rfl
  | 8, _ => rfl
  | 9, _ => rfl
  | 10, _ => rfl
  | 11, _ => rfl
  | 12, _ => rfl
  | 13, _ => rfl
  | 14, _ => rfl
  | 15, _ => rfl
  | 16, _ => rfl
  | k + 17, h => exact absurd h (by omega)
set_option maxHeartbeats 4000000 in
set_option maxRecDepth 100000 in
theorem ref_row0 (w : World) : Calls Tryd.prog 11 #[.string ⟨#[76, 73, 78, 68, 69, 88]⟩] w fun e w' => e = .returned (.tuple #[.agg #[.string ⟨#[76, 73, 78, 68, 69, 88]⟩, .int .i64 (3), .bool false, .int .i64 (1), .int .i64 (1), .int .i64 (1), .int .i64 (0)], .bool true]) ∧ Below w.heap.size w w' := by
  go_enter Tryd.func11, Tryd.ntmps11
  go_wp2
  refine bodyPost_ret (v := .tuple #[.agg #[.string ⟨#[76, 73, 78, 68, 69, 88]⟩, .int .i64 (3), .bool false, .int .i64 (1), .int .i64 (1), .int .i64 (1), .int .i64 (0)], .bool true]) (by simp [results, Tryd.results17, go_sem]) rfl ?_
  go_wp2
  exact bodyPost_ret (v := .tuple #[.agg #[.string ⟨#[76, 73, 78, 68, 69, 88]⟩, .int .i64 (3), .bool false, .int .i64 (1), .int .i64 (1), .int .i64 (1), .int .i64 (0)], .bool true]) (by simp [results, Tryd.results11, go_sem]) rfl ⟨rfl, by repeat (first | exact Below.refl _ _ | (refine Below.alloc ?_ (by simp <;> omega) _))⟩
set_option maxHeartbeats 4000000 in
set_option maxRecDepth 100000 in
theorem ref_row1 (w : World) : Calls Tryd.prog 11 #[.string ⟨#[76, 73, 78, 83, 69, 82, 84]⟩] w fun e w' => e = .returned (.tuple #[.agg #[.string ⟨#[76, 73, 78, 83, 69, 82, 84]⟩, .int .i64 (5), .bool true, .int .i64 (1), .int .i64 (1), .int .i64 (1), .int .i64 (0)], .bool true]) ∧ Below w.heap.size w w' := by
  go_enter Tryd.func11, Tryd.ntmps11
  go_wp2
  exact bodyPost_ret (v := .tuple #[.agg #[.string ⟨#[76, 73, 78, 83, 69, 82, 84]⟩, .int .i64 (5), .bool true, .int .i64 (1), .int .i64 (1), .int .i64 (1), .int .i64 (0)], .bool true]) (by simp [results, Tryd.results11, go_sem]) rfl ⟨rfl, by repeat (first | exact Below.refl _ _ | (refine Below.alloc ?_ (by simp <;> omega) _))⟩
set_option maxHeartbeats 4000000 in
set_option maxRecDepth 100000 in
theorem ref_row2 (w : World) : Calls Tryd.prog 11 #[.string ⟨#[76, 76, 69, 78]⟩] w fun e w' => e = .returned (.tuple #[.agg #[.string ⟨#[76, 76, 69, 78]⟩, .int .i64 (2), .bool false, .int .i64 (1), .int .i64 (1), .int .i64 (1), .int .i64 (0)], .bool true]) ∧ Below w.heap.size w w' := by
  go_enter Tryd.func11, Tryd.ntmps11
  go_wp2
  refine bodyPost_ret (v := .tuple #[.agg #[.string ⟨#[76, 76, 69, 78]⟩, .int .i64 (2), .bool false, .int .i64 (1), .int .i64 (1), .int .i64 (1), .int .i64 (0)], .bool true]) (by simp [results, Tryd.results17, go_sem]) rfl ?_
  go_wp2
  exact bodyPost_ret (v := .tuple #[.agg #[.string ⟨#[76, 76, 69, 78]⟩, .int .i64 (2), .bool false, .int .i64 (1), .int .i64 (1), .int .i64 (1), .int .i64 (0)], .bool true]) (by simp [results, Tryd.results11, go_sem]) rfl ⟨rfl, by repeat (first | exact Below.refl _ _ | (refine Below.alloc ?_ (by simp <;> omega) _))⟩
set_option maxHeartbeats 4000000 in
set_option maxRecDepth 100000 in
theorem ref_row3 (w : World) : Calls Tryd.prog 11 #[.string ⟨#[76, 77, 79, 86, 69]⟩] w fun e w' => e = .returned (.tuple #[.agg #[.string ⟨#[76, 77, 79, 86, 69]⟩, .int .i64 (5), .bool true, .int .i64 (1), .int .i64 (2), .int .i64 (1), .int .i64 (0)], .bool true]) ∧ Below w.heap.size w w' := by
  go_enter Tryd.func11, Tryd.ntmps11
  go_wp2
  exact bodyPost_ret (v := .tuple #[.agg #[.string ⟨#[76, 77, 79, 86, 69]⟩, .int .i64 (5), .bool true, .int .i64 (1), .int .i64 (2), .int .i64 (1), .int .i64 (0)], .bool true]) (by simp [results, Tryd.results11, go_sem]) rfl ⟨rfl, by repeat (first | exact Below.refl _ _ | (refine Below.alloc ?_ (by simp <;> omega) _))⟩
set_option maxHeartbeats 4000000 in
set_option maxRecDepth 100000 in
theorem ref_row4 (w : World) : Calls Tryd.prog 11 #[.string ⟨#[76, 77, 80, 79, 80]⟩] w fun e w' => e = .returned (.tuple #[.agg #[.string ⟨#[76, 77, 80, 79, 80]⟩, .int .i64 (-4), .bool true, .int .i64 (0), .int .i64 (0), .int .i64 (0), .int .i64 (1)], .bool true]) ∧ Below w.heap.size w w' := by
  go_enter Tryd.func11, Tryd.ntmps11
  go_wp2
  exact bodyPost_ret (v := .tuple #[.agg #[.string ⟨#[76, 77, 80, 79, 80]⟩, .int .i64 (-4), .bool true, .int .i64 (0), .int .i64 (0), .int .i64 (0), .int .i64 (1)], .bool true]) (by simp [results, Tryd.results11, go_sem]) rfl ⟨rfl, by repeat (first | exact Below.refl _ _ | (refine Below.alloc ?_ (by simp <;> omega) _))⟩
set_option maxHeartbeats 4000000 in
set_option maxRecDepth 100000 in
theorem ref_row5 (w : World) : Calls Tryd.prog 11 #[.string ⟨#[76, 80, 79, 80]⟩] w fun e w' => e = .returned (.tuple #[.agg #[.string ⟨#[76, 80, 79, 80]⟩, .int .i64 (-2), .bool true, .int .i64 (1), .int .i64 (1), .int .i64 (1), .int .i64 (0)], .bool true]) ∧ Below w.heap.size w w' := by
  go_enter Tryd.func11, Tryd.ntmps11
  go_wp2
  exact bodyPost_ret (v := .tuple #[.agg #[.string ⟨#[76, 80, 79, 80]⟩, .int .i64 (-2), .bool true, .int .i64 (1), .int .i64 (1), .int .i64 (1), .int .i64 (0)], .bool true]) (by simp [results, Tryd.results11, go_sem]) rfl ⟨rfl, by repeat (first | exact Below.refl _ _ | (refine Below.alloc ?_ (by simp <;> omega) _))⟩
set_option maxHeartbeats 4000000 in
set_option maxRecDepth 100000 in
theorem ref_row6 (w : World) : Calls Tryd.prog 11 #[.string ⟨#[76, 80, 79, 83]⟩] w fun e w' => e = .returned (.tuple #[.agg #[.string ⟨#[76, 80, 79, 83]⟩, .int .i64 (-3), .bool false, .int .i64 (1), .int .i64 (1), .int .i64 (1), .int .i64 (0)], .bool true]) ∧ Below w.heap.size w w' := by
  go_enter Tryd.func11, Tryd.ntmps11
  go_wp2
  refine bodyPost_ret (v := .tuple #[.agg #[.string ⟨#[76, 80, 79, 83]⟩, .int .i64 (-3), .bool false, .int .i64 (1), .int .i64 (1), .int .i64 (1), .int .i64 (0)], .bool true]) (by simp [results, Tryd.results17, go_sem]) rfl ?_
  go_wp2
  exact bodyPost_ret (v := .tuple #[.agg #[.string ⟨#[76, 80, 79, 83]⟩, .int .i64 (-3), .bool false, .int .i64 (1), .int .i64 (1), .int .i64 (1), .int .i64 (0)], .bool true]) (by simp [results, Tryd.results11, go_sem]) rfl ⟨rfl, by repeat (first | exact Below.refl _ _ | (refine Below.alloc ?_ (by simp <;> omega) _))⟩
set_option maxHeartbeats 4000000 in
set_option maxRecDepth 100000 in
theorem ref_row7 (w : World) : Calls Tryd.prog 11 #[.string ⟨#[76, 80, 85, 83, 72]⟩] w fun e w' => e = .returned (.tuple #[.agg #[.string ⟨#[76, 80, 85, 83, 72]⟩, .int .i64 (-3), .bool true, .int .i64 (1), .int .i64 (1), .int .i64 (1), .int .i64 (0)], .bool true]) ∧ Below w.heap.size w w' := by
  go_enter Tryd.func11, Tryd.ntmps11
  go_wp2
  exact bodyPost_ret (v := .tuple #[.agg #[.string ⟨#[76, 80, 85, 83, 72]⟩, .int .i64 (-3), .bool true, .int .i64 (1), .int .i64 (1), .int .i64 (1), .int .i64 (0)], .bool true]) (by simp [results, Tryd.results11, go_sem]) rfl ⟨rfl, by repeat (first | exact Below.refl _ _ | (refine Below.alloc ?_ (by simp <;> omega) _))⟩
set_option maxHeartbeats 4000000 in
set_option maxRecDepth 100000 in
theorem ref_row8 (w : World) : Calls Tryd.prog 11 #[.string ⟨#[76, 80, 85, 83, 72, 88]⟩] w fun e w' => e = .returned (.tuple #[.agg #[.string ⟨#[76, 80, 85, 83, 72, 88]⟩, .int .i64 (-3), .bool true, .int .i64 (1), .int .i64 (1), .int .i64 (1), .int .i64 (0)], .bool true]) ∧ Below w.heap.size w w' := by
  go_enter Tryd.func11, Tryd.ntmps11
  go_wp2
  exact bodyPost_ret (v := .tuple #[.agg #[.string ⟨#[76, 80, 85, 83, 72, 88]⟩, .int .i64 (-3), .bool true, .int .i64 (1), .int .i64 (1), .int .i64 (1), .int .i64 (0)], .bool true]) (by simp [results, Tryd.results11, go_sem]) rfl ⟨rfl, by repeat (first | exact Below.refl _ _ | (refine Below.alloc ?_ (by simp <;> omega) _))⟩
set_option maxHeartbeats 4000000 in
set_option maxRecDepth 100000 in
theorem ref_row9 (w : World) : Calls Tryd.prog 11 #[.string ⟨#[76, 82, 65, 78, 71, 69]⟩] w fun e w' => e = .returned (.tuple #[.agg #[.string ⟨#[76, 82, 65, 78, 71, 69]⟩, .int .i64 (4), .bool false, .int .i64 (1), .int .i64 (1), .int .i64 (1), .int .i64 (0)], .bool true]) ∧ Below w.heap.size w w' := by
  go_enter Tryd.func11, Tryd.ntmps11
  go_wp2
  refine bodyPost_ret (v := .tuple #[.agg #[.string ⟨#[76, 82, 65, 78, 71, 69]⟩, .int .i64 (4), .bool false, .int .i64 (1), .int .i64 (1), .int .i64 (1), .int .i64 (0)], .bool true]) (by simp [results, Tryd.results17, go_sem]) rfl ?_
  go_wp2
  exact bodyPost_ret (v := .tuple #[.agg #[.string ⟨#[76, 82, 65, 78, 71, 69]⟩, .int .i64 (4), .bool false, .int .i64 (1), .int .i64 (1), .int .i64 (1), .int .i64 (0)], .bool true]) (by simp [results, Tryd.results11, go_sem]) rfl ⟨rfl, by repeat (first | exact Below.refl _ _ | (refine Below.alloc ?_ (by simp <;> omega) _))⟩
set_option maxHeartbeats 4000000 in
set_option maxRecDepth 100000 in
theorem ref_row10 (w : World) : Calls Tryd.prog 11 #[.string ⟨#[76, 82, 69, 77]⟩] w fun e w' => e = .returned (.tuple #[.agg #[.string ⟨#[76, 82, 69, 77]⟩, .int .i64 (4), .bool true, .int .i64 (1), .int .i64 (1), .int .i64 (1), .int .i64 (0)], .bool true]) ∧ Below w.heap.size w w' := by
  go_enter Tryd.func11, Tryd.ntmps11
  go_wp2
  exact bodyPost_ret (v := .tuple #[.agg #[.string ⟨#[76, 82, 69, 77]⟩, .int .i64 (4), .bool true, .int .i64 (1), .int .i64 (1), .int .i64 (1), .int .i64 (0)], .bool true]) (by simp [results, Tryd.results11, go_sem]) rfl ⟨rfl, by repeat (first | exact Below.refl _ _ | (refine Below.alloc ?_ (by simp <;> omega) _))⟩
set_option maxHeartbeats 4000000 in
set_option maxRecDepth 100000 in
theorem ref_row11 (w : World) : Calls Tryd.prog 11 #[.string ⟨#[76, 83, 69, 84]⟩] w fun e w' => e = .returned (.tuple #[.agg #[.string ⟨#[76, 83, 69, 84]⟩, .int .i64 (4), .bool true, .int .i64 (1), .int .i64 (1), .int .i64 (1), .int .i64 (0)], .bool true]) ∧ Below w.heap.size w w' := by
  go_enter Tryd.func11, Tryd.ntmps11
  go_wp2
  exact bodyPost_ret (v := .tuple #[.agg #[.string ⟨#[76, 83, 69, 84]⟩, .int .i64 (4), .bool true, .int .i64 (1), .int .i64 (1), .int .i64 (1), .int .i64 (0)], .bool true]) (by simp [results, Tryd.results11, go_sem]) rfl ⟨rfl, by repeat (first | exact Below.refl _ _ | (refine Below.alloc ?_ (by simp <;> omega) _))⟩
set_option maxHeartbeats 4000000 in
set_option maxRecDepth 100000 in
theorem ref_row12 (w : World) : Calls Tryd.prog 11 #[.string ⟨#[76, 84, 82, 73, 77]⟩] w fun e w' => e = .returned (.tuple #[.agg #[.string ⟨#[76, 84, 82, 73, 77]⟩, .int .i64 (4), .bool true, .int .i64 (1), .int .i64 (1), .int .i64 (1), .int .i64 (0)], .bool true]) ∧ Below w.heap.size w w' := by
  go_enter Tryd.func11, Tryd.ntmps11
  go_wp2
  exact bodyPost_ret (v := .tuple #[.agg #[.string ⟨#[76, 84, 82, 73, 77]⟩, .int .i64 (4), .bool true, .int .i64 (1), .int .i64 (1), .int .i64 (1), .int .i64 (0)], .bool true]) (by simp [results, Tryd.results11, go_sem]) rfl ⟨rfl, by repeat (first | exact Below.refl _ _ | (refine Below.alloc ?_ (by simp <;> omega) _))⟩
set_option maxHeartbeats 4000000 in
set_option maxRecDepth 100000 in
theorem ref_row13 (w : World) : Calls Tryd.prog 11 #[.string ⟨#[82, 80, 79, 80]⟩] w fun e w' => e = .returned (.tuple #[.agg #[.string ⟨#[82, 80, 79, 80]⟩, .int .i64 (-2), .bool true, .int .i64 (1), .int .i64 (1), .int .i64 (1), .int .i64 (0)], .bool true]) ∧ Below w.heap.size w w' := by
  go_enter Tryd.func11, Tryd.ntmps11
  go_wp2
  exact bodyPost_ret (v := .tuple #[.agg #[.string ⟨#[82, 80, 79, 80]⟩, .int .i64 (-2), .bool true, .int .i64 (1), .int .i64 (1), .int .i64 (1), .int .i64 (0)], .bool true]) (by simp [results, Tryd.results11, go_sem]) rfl ⟨rfl, by repeat (first | exact Below.refl _ _ | (refine Below.alloc ?_ (by simp <;> omega) _))⟩
set_option maxHeartbeats 4000000 in
set_option maxRecDepth 100000 in
theorem ref_row14 (w : World) : Calls Tryd.prog 11 #[.string ⟨#[82, 80, 79, 80, 76, 80, 85, 83, 72]⟩] w fun e w' => e = .returned (.tuple #[.agg #[.string ⟨#[82, 80, 79, 80, 76, 80, 85, 83, 72]⟩, .int .i64 (3), .bool true, .int .i64 (1), .int .i64 (2), .int .i64 (1), .int .i64 (0)], .bool true]) ∧ Below w.heap.size w w' := by
  go_enter Tryd.func11, Tryd.ntmps11
  go_wp2
  exact bodyPost_ret (v := .tuple #[.agg #[.string ⟨#[82, 80, 79, 80, 76, 80, 85, 83, 72]⟩, .int .i64 (3), .bool true, .int .i64 (1), .int .i64 (2), .int .i64 (1), .int .i64 (0)], .bool true]) (by simp [results, Tryd.results11, go_sem]) rfl ⟨rfl, by repeat (first | exact Below.refl _ _ | (refine Below.alloc ?_ (by simp <;> omega) _))⟩
set_option maxHeartbeats 4000000 in
set_option maxRecDepth 100000 in
theorem ref_row15 (w : World) : Calls Tryd.prog 11 #[.string ⟨#[82, 80, 85, 83, 72]⟩] w fun e w' => e = .returned (.tuple #[.agg #[.string ⟨#[82, 80, 85, 83, 72]⟩, .int .i64 (-3), .bool true, .int .i64 (1), .int .i64 (1), .int .i64 (1), .int .i64 (0)], .bool true]) ∧ Below w.heap.size w w' := by
  go_enter Tryd.func11, Tryd.ntmps11
  go_wp2
  exact bodyPost_ret (v := .tuple #[.agg #[.string ⟨#[82, 80, 85, 83, 72]⟩, .int .i64 (-3), .bool true, .int .i64 (1), .int .i64 (1), .int .i64 (1), .int .i64 (0)], .bool true]) (by simp [results, Tryd.results11, go_sem]) rfl ⟨rfl, by repeat (first | exact Below.refl _ _ | (refine Below.alloc ?_ (by simp <;> omega) _))⟩
set_option maxHeartbeats 4000000 in
set_option maxRecDepth 100000 in
theorem ref_row16 (w : World) : Calls Tryd.prog 11 #[.string ⟨#[82, 80, 85, 83, 72, 88]⟩] w fun e w' => e = .returned (.tuple #[.agg #[.string ⟨#[82, 80, 85, 83, 72, 88]⟩, .int .i64 (-3), .bool true, .int .i64 (1), .int .i64 (1), .int .i64 (1), .int .i64 (0)], .bool true]) ∧ Below w.heap.size w w' := by
  go_enter Tryd.func11, Tryd.ntmps11
  go_wp2
  exact bodyPost_ret (v := .tuple #[.agg #[.string ⟨#[82, 80, 85, 83, 72, 88]⟩, .int .i64 (-3), .bool true, .int .i64 (1), .int .i64 (1), .int .i64 (1), .int .i64 (0)], .bool true]) (by simp [results, Tryd.results11, go_sem]) rfl ⟨rfl, by repeat (first | exact Below.refl _ _ | (refine Below.alloc ?_ (by simp <;> omega) _))⟩
theorem ref_row (k : Nat) (hk : k < 17) (w : World) : Calls Tryd.prog 11 #[.string (rowsC.getD k zc).name] w fun e w' => e = .returned (.tuple #[.agg (rowsC.getD k zc).cells.toArray, .bool true]) ∧ Below w.heap.size w w' := by
  match k, hk with
  | 0, _ => exact ref_row0 w
  | 1, _ => exact ref_row1 w
  | 2, _ => exact ref_row2 w
  | 3, _ => exact ref_row3 w
  | 4, _ => exact ref_row4 w
  | 5, _ => exact ref_row5 w
  | 6, _ => exact ref_row6 w
  | 7, _ => exact ref_row7 w
  | 8, _ => exact ref_row8 w
  | 9, _ => exact ref_row9 w
  | 10, _ => exact ref_row10 w
  | 11, _ => exact ref_row11 w
  | 12, _ => exact ref_row12 w
  | 13, _ => exact ref_row13 w
  | 14, _ => exact ref_row14 w
  | 15, _ => exact ref_row15 w
  | 16, _ => exact ref_row16 w
  | k + 17, h => exact absurd h (by omega)
end Go.Proofs.YtdhkhjfjjbdkgaaDoor.Tab
