/- The contracts of api.Text, larderref0.Text and larderref0.more: each answers the text of the number. No conditions beside that the number is an int. -/
import Derived.Test.YtdhkhjfjjbdkgaaProg
import Derived.WalkKit
import Derived.KernelRfl
import Derived.Below
import Derived.RowKit3
import Derived.Lib.Hide
import Derived.WalkLawsBesides
import Derived.WalkSpells
import Derived.Laws.Tables
namespace Go.Proofs.Ytdhkhjfjjbdkgaa.Txt
open Go.RowKit
set_option linter.unusedVariables false
set_option linter.unusedSimpArgs false
def txt (e : Int) : ByteArray :=
  if e = 301 then ⟨#[69, 82, 82, 32, 80, 114, 111, 116, 111, 99, 111, 108, 32, 101, 114, 114, 111, 114]⟩
  else if e = 302 then ⟨#[69, 82, 82, 32, 117, 110, 107, 110, 111, 119, 110, 32, 99, 111, 109, 109, 97, 110, 100]⟩
  else if e = 303 then ⟨#[69, 82, 82, 32, 119, 114, 111, 110, 103, 32, 110, 117, 109, 98, 101, 114, 32, 111, 102, 32, 97, 114, 103, 117, 109, 101, 110, 116, 115]⟩
  else if e = 304 then ⟨#[69, 82, 82, 32, 115, 121, 110, 116, 97, 120]⟩
  else if e = 305 then ⟨#[69, 82, 82, 32, 110, 111, 116, 32, 97, 110, 32, 105, 110, 116, 101, 103, 101, 114]⟩
  else if e = 306 then ⟨#[69, 82, 82, 32, 111, 117, 116, 32, 111, 102, 32, 114, 97, 110, 103, 101]⟩
  else if e = 307 then ⟨#[87, 82, 79, 78, 71, 84, 89, 80, 69, 32, 97, 110, 111, 116, 104, 101, 114, 32, 107, 105, 110, 100, 32, 111, 102, 32, 118, 97, 108, 117, 101]⟩
  else if e = 308 then ⟨#[69, 82, 82, 32, 110, 111, 32, 115, 117, 99, 104, 32, 107, 101, 121]⟩
  else if e = 309 then ⟨#[69, 82, 82, 32, 116, 111, 111, 32, 108, 111, 110, 103]⟩
  else if e = 310 then ⟨#[69, 82, 82, 32, 111, 118, 101, 114, 102, 108, 111, 119]⟩
  else if e = 311 then ⟨#[69, 82, 82, 32, 98, 97, 100, 32, 116, 105, 109, 101]⟩
  else if e = 312 then ⟨#[79, 79, 77]⟩
  else if e = 313 then ⟨#[69, 82, 82, 32, 77, 85, 76, 84, 73, 32, 105, 110, 115, 105, 100, 101, 32, 77, 85, 76, 84, 73]⟩
  else if e = 314 then ⟨#[69, 82, 82, 32, 69, 88, 69, 67, 32, 119, 105, 116, 104, 111, 117, 116, 32, 77, 85, 76, 84, 73]⟩
  else if e = 315 then ⟨#[69, 82, 82, 32, 68, 73, 83, 67, 65, 82, 68, 32, 119, 105, 116, 104, 111, 117, 116, 32, 77, 85, 76, 84, 73]⟩
  else if e = 316 then ⟨#[69, 88, 69, 67, 65, 66, 79, 82, 84]⟩
  else if e = 317 then ⟨#[69, 82, 82, 32, 87, 65, 84, 67, 72, 32, 105, 110, 115, 105, 100, 101, 32, 77, 85, 76, 84, 73]⟩
  else if e = 318 then ⟨#[69, 82, 82, 32, 110, 111, 116, 32, 110, 111, 119]⟩
  else if e = 319 then ⟨#[69, 82, 82, 32, 116, 111, 111, 32, 109, 97, 110, 121]⟩
  else if e = 320 then ⟨#[69, 82, 82, 32, 110, 111, 32, 115, 117, 99, 104, 32, 100, 97, 116, 97, 98, 97, 115, 101]⟩
  else if e = 321 then ⟨#[69, 82, 82, 32, 98, 97, 100, 32, 98, 111, 117, 110, 100]⟩
  else if e = 322 then ⟨#[69, 82, 82, 32, 98, 97, 100, 32, 99, 117, 114, 115, 111, 114]⟩
  else if e = 323 then ⟨#[69, 82, 82, 32, 115, 97, 109, 101, 32, 112, 108, 97, 99, 101]⟩
  else if e = 324 then ⟨#[69, 82, 82, 32, 98, 97, 100, 32, 98, 105, 116]⟩
  else if e = 325 then ⟨#[69, 82, 82, 32, 98, 97, 100, 32, 102, 105, 101, 108, 100, 32, 116, 121, 112, 101]⟩
  else ⟨#[]⟩
def Out (e : Int) : Prop := e < 301 ∨ 325 < e
theorem txt_out {e : Int} (h : Out e) : txt e = ⟨#[]⟩ := by
  unfold Out at h
  unfold txt
  rw [if_neg (by omega)]
  rw [if_neg (by omega)]
  rw [if_neg (by omega)]
  rw [if_neg (by omega)]
  rw [if_neg (by omega)]
  rw [if_neg (by omega)]
  rw [if_neg (by omega)]
  rw [if_neg (by omega)]
  rw [if_neg (by omega)]
  rw [if_neg (by omega)]
  rw [if_neg (by omega)]
  rw [if_neg (by omega)]
  rw [if_neg (by omega)]
  rw [if_neg (by omega)]
  rw [if_neg (by omega)]
  rw [if_neg (by omega)]
  rw [if_neg (by omega)]
  rw [if_neg (by omega)]
  rw [if_neg (by omega)]
  rw [if_neg (by omega)]
  rw [if_neg (by omega)]
  rw [if_neg (by omega)]
  rw [if_neg (by omega)]
  rw [if_neg (by omega)]
  rw [if_neg (by omega)]

theorem parts {e : Int} : Out e ∨ e = 301 ∨ e = 302 ∨ e = 303 ∨ e = 304 ∨ e = 305 ∨ e = 306 ∨ e = 307 ∨ e = 308 ∨ e = 309 ∨ e = 310 ∨ e = 311 ∨ e = 312 ∨ e = 313 ∨ e = 314 ∨ e = 315 ∨ e = 316 ∨ e = 317 ∨ e = 318 ∨ e = 319 ∨ e = 320 ∨ e = 321 ∨ e = 322 ∨ e = 323 ∨ e = 324 ∨ e = 325 := by
  unfold Out; omega
theorem ret_str {a b : ByteArray} (h : a = b) : Ending.returned (.string a) = .returned (.string b) := by rw [h]
set_option maxHeartbeats 4000000 in
set_option maxRecDepth 100000 in
theorem more_out (e : Int) (w : World) (h : Out e) : Calls Try.prog 56 #[.int .i64 e] w fun r w' => r = .returned (.string ⟨#[]⟩) ∧ w = w' := by
  unfold Out at h
  have b301 : (e == 301) = false := beq_eq_false_iff_ne.2 (by omega)
  have b302 : (e == 302) = false := beq_eq_false_iff_ne.2 (by omega)
  have b303 : (e == 303) = false := beq_eq_false_iff_ne.2 (by omega)
  have b304 : (e == 304) = false := beq_eq_false_iff_ne.2 (by omega)
  have b305 : (e == 305) = false := beq_eq_false_iff_ne.2 (by omega)
  have b306 : (e == 306) = false := beq_eq_false_iff_ne.2 (by omega)
  have b307 : (e == 307) = false := beq_eq_false_iff_ne.2 (by omega)
  have b308 : (e == 308) = false := beq_eq_false_iff_ne.2 (by omega)
  have b309 : (e == 309) = false := beq_eq_false_iff_ne.2 (by omega)
  have b310 : (e == 310) = false := beq_eq_false_iff_ne.2 (by omega)
  have b311 : (e == 311) = false := beq_eq_false_iff_ne.2 (by omega)
  have b312 : (e == 312) = false := beq_eq_false_iff_ne.2 (by omega)
  have b313 : (e == 313) = false := beq_eq_false_iff_ne.2 (by omega)
  have b314 : (e == 314) = false := beq_eq_false_iff_ne.2 (by omega)
  have b315 : (e == 315) = false := beq_eq_false_iff_ne.2 (by omega)
  have b316 : (e == 316) = false := beq_eq_false_iff_ne.2 (by omega)
  have b317 : (e == 317) = false := beq_eq_false_iff_ne.2 (by omega)
  have b318 : (e == 318) = false := beq_eq_false_iff_ne.2 (by omega)
  have b319 : (e == 319) = false := beq_eq_false_iff_ne.2 (by omega)
  have b320 : (e == 320) = false := beq_eq_false_iff_ne.2 (by omega)
  have b321 : (e == 321) = false := beq_eq_false_iff_ne.2 (by omega)
  have b322 : (e == 322) = false := beq_eq_false_iff_ne.2 (by omega)
  have b323 : (e == 323) = false := beq_eq_false_iff_ne.2 (by omega)
  have b324 : (e == 324) = false := beq_eq_false_iff_ne.2 (by omega)
  have b325 : (e == 325) = false := beq_eq_false_iff_ne.2 (by omega)
  clear h
  go_enter Try.func56, Try.ntmps56
  go_wp2
  go_ret
  exact ⟨rfl, rfl⟩
set_option maxHeartbeats 8000000 in
set_option maxRecDepth 100000 in
theorem more_in (e : Int) (w : World) (h : e = 313 ∨ e = 314 ∨ e = 315 ∨ e = 316 ∨ e = 317 ∨ e = 318 ∨ e = 319 ∨ e = 320 ∨ e = 321 ∨ e = 322 ∨ e = 323 ∨ e = 324 ∨ e = 325) : Calls Try.prog 56 #[.int .i64 e] w fun r w' => r = .returned (.string (txt e)) ∧ w = w' := by
  rcases h with rfl | rfl | rfl | rfl | rfl | rfl | rfl | rfl | rfl | rfl | rfl | rfl | rfl
  all_goals
    go_enter Try.func56, Try.ntmps56
    go_wp2
    go_ret
    exact ⟨rfl, rfl⟩
set_option maxHeartbeats 4000000 in
set_option maxRecDepth 100000 in
theorem ztext_out (e : Int) (w : World) (h : Out e) : Calls Try.prog 42 #[.int .i64 e] w fun r w' => r = .returned (.string ⟨#[]⟩) ∧ w = w' := by
  unfold Out at h
  have b301 : (e == 301) = false := beq_eq_false_iff_ne.2 (by omega)
  have b302 : (e == 302) = false := beq_eq_false_iff_ne.2 (by omega)
  have b303 : (e == 303) = false := beq_eq_false_iff_ne.2 (by omega)
  have b304 : (e == 304) = false := beq_eq_false_iff_ne.2 (by omega)
  have b305 : (e == 305) = false := beq_eq_false_iff_ne.2 (by omega)
  have b306 : (e == 306) = false := beq_eq_false_iff_ne.2 (by omega)
  have b307 : (e == 307) = false := beq_eq_false_iff_ne.2 (by omega)
  have b308 : (e == 308) = false := beq_eq_false_iff_ne.2 (by omega)
  have b309 : (e == 309) = false := beq_eq_false_iff_ne.2 (by omega)
  have b310 : (e == 310) = false := beq_eq_false_iff_ne.2 (by omega)
  have b311 : (e == 311) = false := beq_eq_false_iff_ne.2 (by omega)
  have b312 : (e == 312) = false := beq_eq_false_iff_ne.2 (by omega)
  have b313 : (e == 313) = false := beq_eq_false_iff_ne.2 (by omega)
  have b314 : (e == 314) = false := beq_eq_false_iff_ne.2 (by omega)
  have b315 : (e == 315) = false := beq_eq_false_iff_ne.2 (by omega)
  have b316 : (e == 316) = false := beq_eq_false_iff_ne.2 (by omega)
  have b317 : (e == 317) = false := beq_eq_false_iff_ne.2 (by omega)
  have b318 : (e == 318) = false := beq_eq_false_iff_ne.2 (by omega)
  have b319 : (e == 319) = false := beq_eq_false_iff_ne.2 (by omega)
  have b320 : (e == 320) = false := beq_eq_false_iff_ne.2 (by omega)
  have b321 : (e == 321) = false := beq_eq_false_iff_ne.2 (by omega)
  have b322 : (e == 322) = false := beq_eq_false_iff_ne.2 (by omega)
  have b323 : (e == 323) = false := beq_eq_false_iff_ne.2 (by omega)
  have b324 : (e == 324) = false := beq_eq_false_iff_ne.2 (by omega)
  have b325 : (e == 325) = false := beq_eq_false_iff_ne.2 (by omega)
  clear h
  go_enter Try.func42, Try.ntmps42
  go_wp2
  go_ret
  exact ⟨rfl, rfl⟩
set_option maxHeartbeats 8000000 in
set_option maxRecDepth 100000 in
theorem ztext_in (e : Int) (w : World) (h : e = 301 ∨ e = 302 ∨ e = 303 ∨ e = 304 ∨ e = 305 ∨ e = 306 ∨ e = 307 ∨ e = 308 ∨ e = 309 ∨ e = 310 ∨ e = 311 ∨ e = 312 ∨ e = 313 ∨ e = 314 ∨ e = 315 ∨ e = 316 ∨ e = 317 ∨ e = 318 ∨ e = 319 ∨ e = 320 ∨ e = 321 ∨ e = 322 ∨ e = 323 ∨ e = 324 ∨ e = 325) : Calls Try.prog 42 #[.int .i64 e] w fun r w' => r = .returned (.string (txt e)) ∧ w = w' := by
  rcases h with rfl | rfl | rfl | rfl | rfl | rfl | rfl | rfl | rfl | rfl | rfl | rfl | rfl | rfl | rfl | rfl | rfl | rfl | rfl | rfl | rfl | rfl | rfl | rfl | rfl
  all_goals
    go_enter Try.func42, Try.ntmps42
    go_wp2
    go_ret
    exact ⟨rfl, rfl⟩
theorem ztext (e : Int) (w : World) : Calls Try.prog 42 #[.int .i64 e] w fun r w' => r = .returned (.string (txt e)) ∧ w = w' := by
  rcases parts (e := e) with h | h
  · rw [txt_out h]; exact ztext_out e w h
  · exact ztext_in e w h
def arr : Array Value := #[.string ⟨#[69, 82, 82, 32, 80, 114, 111, 116, 111, 99, 111, 108, 32, 101, 114, 114, 111, 114]⟩, .string ⟨#[69, 82, 82, 32, 117, 110, 107, 110, 111, 119, 110, 32, 99, 111, 109, 109, 97, 110, 100]⟩, .string ⟨#[69, 82, 82, 32, 119, 114, 111, 110, 103, 32, 110, 117, 109, 98, 101, 114, 32, 111, 102, 32, 97, 114, 103, 117, 109, 101, 110, 116, 115]⟩, .string ⟨#[69, 82, 82, 32, 115, 121, 110, 116, 97, 120]⟩, .string ⟨#[69, 82, 82, 32, 110, 111, 116, 32, 97, 110, 32, 105, 110, 116, 101, 103, 101, 114]⟩, .string ⟨#[69, 82, 82, 32, 111, 117, 116, 32, 111, 102, 32, 114, 97, 110, 103, 101]⟩, .string ⟨#[87, 82, 79, 78, 71, 84, 89, 80, 69, 32, 97, 110, 111, 116, 104, 101, 114, 32, 107, 105, 110, 100, 32, 111, 102, 32, 118, 97, 108, 117, 101]⟩, .string ⟨#[69, 82, 82, 32, 110, 111, 32, 115, 117, 99, 104, 32, 107, 101, 121]⟩, .string ⟨#[69, 82, 82, 32, 116, 111, 111, 32, 108, 111, 110, 103]⟩, .string ⟨#[69, 82, 82, 32, 111, 118, 101, 114, 102, 108, 111, 119]⟩, .string ⟨#[69, 82, 82, 32, 98, 97, 100, 32, 116, 105, 109, 101]⟩, .string ⟨#[79, 79, 77]⟩, .string ⟨#[69, 82, 82, 32, 77, 85, 76, 84, 73, 32, 105, 110, 115, 105, 100, 101, 32, 77, 85, 76, 84, 73]⟩, .string ⟨#[69, 82, 82, 32, 69, 88, 69, 67, 32, 119, 105, 116, 104, 111, 117, 116, 32, 77, 85, 76, 84, 73]⟩, .string ⟨#[69, 82, 82, 32, 68, 73, 83, 67, 65, 82, 68, 32, 119, 105, 116, 104, 111, 117, 116, 32, 77, 85, 76, 84, 73]⟩, .string ⟨#[69, 88, 69, 67, 65, 66, 79, 82, 84]⟩, .string ⟨#[69, 82, 82, 32, 87, 65, 84, 67, 72, 32, 105, 110, 115, 105, 100, 101, 32, 77, 85, 76, 84, 73]⟩, .string ⟨#[69, 82, 82, 32, 110, 111, 116, 32, 110, 111, 119]⟩, .string ⟨#[69, 82, 82, 32, 116, 111, 111, 32, 109, 97, 110, 121]⟩, .string ⟨#[69, 82, 82, 32, 110, 111, 32, 115, 117, 99, 104, 32, 100, 97, 116, 97, 98, 97, 115, 101]⟩, .string ⟨#[69, 82, 82, 32, 98, 97, 100, 32, 98, 111, 117, 110, 100]⟩, .string ⟨#[69, 82, 82, 32, 98, 97, 100, 32, 99, 117, 114, 115, 111, 114]⟩, .string ⟨#[69, 82, 82, 32, 115, 97, 109, 101, 32, 112, 108, 97, 99, 101]⟩, .string ⟨#[69, 82, 82, 32, 98, 97, 100, 32, 98, 105, 116]⟩, .string ⟨#[69, 82, 82, 32, 98, 97, 100, 32, 102, 105, 101, 108, 100, 32, 116, 121, 112, 101]⟩]
theorem wpList_build' {P : Program} {ops : Array Oper} {rest : List Oper} {o : Oper} {a : Act} {w : World} {Q : Exit → Act → World → Prop} (hg : o.guard = none) (t : TypeId) (parts : Array (Nat × Operand)) (ho : o.op = .build t parts)
    (cells : Array Value) (hf : P.built t (parts.map fun (i, x) => (i, a.eval x)).toList = some cells)
    (h : wpList P ops Q rest (a.put o.dst (.agg cells)) w) : wpList P ops Q (o :: rest) a w :=
  wpList_build hg t parts ho (by rw [hf]; rfl) (by rw [hf]; exact h)
theorem below_setRow {B : Nat} {w w1 : World} (h : Below B w w1) {g : Nat} (hg : B ≤ g) (cs : Array Value) : Below B w (w1.setRow g cs) :=
  ⟨h.os, h.tape, h.output, by rw [setRow_size]; exact h.size, fun k hk => by rw [setRow_other _ _ _ _ (by omega)]; exact h.block k hk⟩
theorem wrapE {e : Int} (h : Out e) (h0 : -9223372036854775808 ≤ e) (h1 : e ≤ 9223372036854775807) : ∃ i, wrap64 (e - 301) = i ∧ (i < 0 ∨ 25 ≤ i) := by
  refine ⟨_, rfl, ?_⟩
  unfold Out at h; unfold wrap64; omega
theorem store_new {P : Program} {ops : Array Oper} {rest : List Oper} {o : Oper} {a : Act} {w0 : World} {Q : Exit → Act → World → Prop} {t : TypeId} {old : Array Value} (hgd : o.guard = none) (ty : TypeId) (x y : Operand) (ho : o.op = .store ty x y)
    (cells : Array Value) (hx : a.eval x = .pointer (some ⟨w0.heap.size, 0, none⟩)) (hy : a.eval y = .agg cells)
    (hi : (P.info? ty).map (·.size) = some cells.size) (hold : old.size = cells.size) (h1 : cells.all (·.oneCell') = true)
    (h : ∀ W, (∀ k, W.cell? ⟨w0.heap.size, k, none⟩ = cells[k]?) → Below w0.heap.size w0 W → W.heap.size = w0.heap.size + 1 → wpList P ops Q rest (a.put o.dst undef) W) :
    wpList P ops Q (o :: rest) a (w0.alloc (.cells old t)) :=
  wpList_store_row hgd ty x y ho w0.heap.size cells hx hy t old (heap_alloc_new _ _) hi hold h1
    (h _ (fun k => cell_setRow_same _ _ _ _ _ _ _ (heap_alloc_new _ _)) (below_setRow ((Below.refl _ _).alloc (Nat.le_refl _) _) (Nat.le_refl _) _) (by simp))
set_option maxHeartbeats 4000000 in
set_option maxRecDepth 100000 in
theorem text_lo (e i : Int) (w : World) (hi : wrap64 (e - 301) = i) (hr : i < 0) : Calls Try.prog 17 #[.int .i64 e] w fun r w' => r = .returned (.string ⟨#[]⟩) ∧ Below w.heap.size w w' := by
  go_enter Try.func17, Try.ntmps17
  iterate 11 go_step
  refine wpList_build' rfl _ _ rfl arr (by kernel_rfl) ?_
  go_wp2_with (refine store_new rfl _ _ _ rfl arr rfl rfl (by kernel_rfl) (by kernel_rfl) (by kernel_rfl) ?_; intro W hc hB hz; clear hc hz)
  go_ret
  exact ⟨rfl, hB⟩
set_option maxHeartbeats 4000000 in
set_option maxRecDepth 100000 in
theorem text_hi (e i : Int) (w : World) (hi : wrap64 (e - 301) = i) (hr : 25 ≤ i) : Calls Try.prog 17 #[.int .i64 e] w fun r w' => r = .returned (.string ⟨#[]⟩) ∧ Below w.heap.size w w' := by
  go_enter Try.func17, Try.ntmps17
  iterate 11 go_step
  refine wpList_build' rfl _ _ rfl arr (by kernel_rfl) ?_
  go_wp2_with (refine store_new rfl _ _ _ rfl arr rfl rfl (by kernel_rfl) (by kernel_rfl) (by kernel_rfl) ?_; intro W hc hB hz; clear hc hz)
  go_ret
  exact ⟨rfl, hB⟩
set_option maxHeartbeats 4000000 in
set_option maxRecDepth 100000 in
theorem text_301 (w : World) (s : ByteArray) (hs : arr[0]? = some (.string s)) : Calls Try.prog 17 #[.int .i64 301] w fun r w' => r = .returned (.string s) ∧ Below w.heap.size w w' := by
  go_enter Try.func17, Try.ntmps17
  iterate 11 go_step
  refine wpList_build' rfl _ _ rfl arr (by kernel_rfl) ?_
  go_wp2_with (refine store_new rfl _ _ _ rfl arr rfl rfl (by kernel_rfl) (by kernel_rfl) (by kernel_rfl) ?_; intro W hc hB hz; have hk : W.cell? ⟨w.heap.size, 0, none⟩ = some (.string s) := (hc 0).trans hs; clear hs; clear hc hz)
  go_ret
  exact ⟨rfl, hB⟩
set_option maxHeartbeats 4000000 in
set_option maxRecDepth 100000 in
theorem text_302 (w : World) (s : ByteArray) (hs : arr[1]? = some (.string s)) : Calls Try.prog 17 #[.int .i64 302] w fun r w' => r = .returned (.string s) ∧ Below w.heap.size w w' := by
  go_enter Try.func17, Try.ntmps17
  iterate 11 go_step
  refine wpList_build' rfl _ _ rfl arr (by kernel_rfl) ?_
  go_wp2_with (refine store_new rfl _ _ _ rfl arr rfl rfl (by kernel_rfl) (by kernel_rfl) (by kernel_rfl) ?_; intro W hc hB hz; have hk : W.cell? ⟨w.heap.size, 1, none⟩ = some (.string s) := (hc 1).trans hs; clear hs; clear hc hz)
  go_ret
  exact ⟨rfl, hB⟩
set_option maxHeartbeats 4000000 in
set_option maxRecDepth 100000 in
theorem text_303 (w : World) (s : ByteArray) (hs : arr[2]? = some (.string s)) : Calls Try.prog 17 #[.int .i64 303] w fun r w' => r = .returned (.string s) ∧ Below w.heap.size w w' := by
  go_enter Try.func17, Try.ntmps17
  iterate 11 go_step
  refine wpList_build' rfl _ _ rfl arr (by kernel_rfl) ?_
  go_wp2_with (refine store_new rfl _ _ _ rfl arr rfl rfl (by kernel_rfl) (by kernel_rfl) (by kernel_rfl) ?_; intro W hc hB hz; have hk : W.cell? ⟨w.heap.size, 2, none⟩ = some (.string s) := (hc 2).trans hs; clear hs; clear hc hz)
  go_ret
  exact ⟨rfl, hB⟩
set_option maxHeartbeats 4000000 in
set_option maxRecDepth 100000 in
theorem text_304 (w : World) (s : ByteArray) (hs : arr[3]? = some (.string s)) : Calls Try.prog 17 #[.int .i64 304] w fun r w' => r = .returned (.string s) ∧ Below w.heap.size w w' := by
  go_enter Try.func17, Try.ntmps17
  iterate 11 go_step
  refine wpList_build' rfl _ _ rfl arr (by kernel_rfl) ?_
  go_wp2_with (refine store_new rfl _ _ _ rfl arr rfl rfl (by kernel_rfl) (by kernel_rfl) (by kernel_rfl) ?_; intro W hc hB hz; have hk : W.cell? ⟨w.heap.size, 3, none⟩ = some (.string s) := (hc 3).trans hs; clear hs; clear hc hz)
  go_ret
  exact ⟨rfl, hB⟩
set_option maxHeartbeats 4000000 in
set_option maxRecDepth 100000 in
theorem text_305 (w : World) (s : ByteArray) (hs : arr[4]? = some (.string s)) : Calls Try.prog 17 #[.int .i64 305] w fun r w' => r = .returned (.string s) ∧ Below w.heap.size w w' := by
  go_enter Try.func17, Try.ntmps17
  iterate 11 go_step
  refine wpList_build' rfl _ _ rfl arr (by kernel_rfl) ?_
  go_wp2_with (refine store_new rfl _ _ _ rfl arr rfl rfl (by kernel_rfl) (by kernel_rfl) (by kernel_rfl) ?_; intro W hc hB hz; have hk : W.cell? ⟨w.heap.size, 4, none⟩ = some (.string s) := (hc 4).trans hs; clear hs; clear hc hz)
  go_ret
  exact ⟨rfl, hB⟩
set_option maxHeartbeats 4000000 in
set_option maxRecDepth 100000 in
theorem text_306 (w : World) (s : ByteArray) (hs : arr[5]? = some (.string s)) : Calls Try.prog 17 #[.int .i64 306] w fun r w' => r = .returned (.string s) ∧ Below w.heap.size w w' := by
  go_enter Try.func17, Try.ntmps17
  iterate 11 go_step
  refine wpList_build' rfl _ _ rfl arr (by kernel_rfl) ?_
  go_wp2_with (refine store_new rfl _ _ _ rfl arr rfl rfl (by kernel_rfl) (by kernel_rfl) (by kernel_rfl) ?_; intro W hc hB hz; have hk : W.cell? ⟨w.heap.size, 5, none⟩ = some (.string s) := (hc 5).trans hs; clear hs; clear hc hz)
  go_ret
  exact ⟨rfl, hB⟩
set_option maxHeartbeats 4000000 in
set_option maxRecDepth 100000 in
theorem text_307 (w : World) (s : ByteArray) (hs : arr[6]? = some (.string s)) : Calls Try.prog 17 #[.int .i64 307] w fun r w' => r = .returned (.string s) ∧ Below w.heap.size w w' := by
  go_enter Try.func17, Try.ntmps17
  iterate 11 go_step
  refine wpList_build' rfl _ _ rfl arr (by kernel_rfl) ?_
  go_wp2_with (refine store_new rfl _ _ _ rfl arr rfl rfl (by kernel_rfl) (by kernel_rfl) (by kernel_rfl) ?_; intro W hc hB hz; have hk : W.cell? ⟨w.heap.size, 6, none⟩ = some (.string s) := (hc 6).trans hs; clear hs; clear hc hz)
  go_ret
  exact ⟨rfl, hB⟩
set_option maxHeartbeats 4000000 in
set_option maxRecDepth 100000 in
theorem text_308 (w : World) (s : ByteArray) (hs : arr[7]? = some (.string s)) : Calls Try.prog 17 #[.int .i64 308] w fun r w' => r = .returned (.string s) ∧ Below w.heap.size w w' := by
  go_enter Try.func17, Try.ntmps17
  iterate 11 go_step
  refine wpList_build' rfl _ _ rfl arr (by kernel_rfl) ?_
  go_wp2_with (refine store_new rfl _ _ _ rfl arr rfl rfl (by kernel_rfl) (by kernel_rfl) (by kernel_rfl) ?_; intro W hc hB hz; have hk : W.cell? ⟨w.heap.size, 7, none⟩ = some (.string s) := (hc 7).trans hs; clear hs; clear hc hz)
  go_ret
  exact ⟨rfl, hB⟩
set_option maxHeartbeats 4000000 in
set_option maxRecDepth 100000 in
theorem text_309 (w : World) (s : ByteArray) (hs : arr[8]? = some (.string s)) : Calls Try.prog 17 #[.int .i64 309] w fun r w' => r = .returned (.string s) ∧ Below w.heap.size w w' := by
  go_enter Try.func17, Try.ntmps17
  iterate 11 go_step
  refine wpList_build' rfl _ _ rfl arr (by kernel_rfl) ?_
  go_wp2_with (refine store_new rfl _ _ _ rfl arr rfl rfl (by kernel_rfl) (by kernel_rfl) (by kernel_rfl) ?_; intro W hc hB hz; have hk : W.cell? ⟨w.heap.size, 8, none⟩ = some (.string s) := (hc 8).trans hs; clear hs; clear hc hz)
  go_ret
  exact ⟨rfl, hB⟩
set_option maxHeartbeats 4000000 in
set_option maxRecDepth 100000 in
theorem text_310 (w : World) (s : ByteArray) (hs : arr[9]? = some (.string s)) : Calls Try.prog 17 #[.int .i64 310] w fun r w' => r = .returned (.string s) ∧ Below w.heap.size w w' := by
  go_enter Try.func17, Try.ntmps17
  iterate 11 go_step
  refine wpList_build' rfl _ _ rfl arr (by kernel_rfl) ?_
  go_wp2_with (refine store_new rfl _ _ _ rfl arr rfl rfl (by kernel_rfl) (by kernel_rfl) (by kernel_rfl) ?_; intro W hc hB hz; have hk : W.cell? ⟨w.heap.size, 9, none⟩ = some (.string s) := (hc 9).trans hs; clear hs; clear hc hz)
  go_ret
  exact ⟨rfl, hB⟩
set_option maxHeartbeats 4000000 in
set_option maxRecDepth 100000 in
theorem text_311 (w : World) (s : ByteArray) (hs : arr[10]? = some (.string s)) : Calls Try.prog 17 #[.int .i64 311] w fun r w' => r = .returned (.string s) ∧ Below w.heap.size w w' := by
  go_enter Try.func17, Try.ntmps17
  iterate 11 go_step
  refine wpList_build' rfl _ _ rfl arr (by kernel_rfl) ?_
  go_wp2_with (refine store_new rfl _ _ _ rfl arr rfl rfl (by kernel_rfl) (by kernel_rfl) (by kernel_rfl) ?_; intro W hc hB hz; have hk : W.cell? ⟨w.heap.size, 10, none⟩ = some (.string s) := (hc 10).trans hs; clear hs; clear hc hz)
  go_ret
  exact ⟨rfl, hB⟩
set_option maxHeartbeats 4000000 in
set_option maxRecDepth 100000 in
theorem text_312 (w : World) (s : ByteArray) (hs : arr[11]? = some (.string s)) : Calls Try.prog 17 #[.int .i64 312] w fun r w' => r = .returned (.string s) ∧ Below w.heap.size w w' := by
  go_enter Try.func17, Try.ntmps17
  iterate 11 go_step
  refine wpList_build' rfl _ _ rfl arr (by kernel_rfl) ?_
  go_wp2_with (refine store_new rfl _ _ _ rfl arr rfl rfl (by kernel_rfl) (by kernel_rfl) (by kernel_rfl) ?_; intro W hc hB hz; have hk : W.cell? ⟨w.heap.size, 11, none⟩ = some (.string s) := (hc 11).trans hs; clear hs; clear hc hz)
  go_ret
  exact ⟨rfl, hB⟩
set_option maxHeartbeats 4000000 in
set_option maxRecDepth 100000 in
theorem text_313 (w : World) (s : ByteArray) (hs : arr[12]? = some (.string s)) : Calls Try.prog 17 #[.int .i64 313] w fun r w' => r = .returned (.string s) ∧ Below w.heap.size w w' := by
  go_enter Try.func17, Try.ntmps17
  iterate 11 go_step
  refine wpList_build' rfl _ _ rfl arr (by kernel_rfl) ?_
  go_wp2_with (refine store_new rfl _ _ _ rfl arr rfl rfl (by kernel_rfl) (by kernel_rfl) (by kernel_rfl) ?_; intro W hc hB hz; have hk : W.cell? ⟨w.heap.size, 12, none⟩ = some (.string s) := (hc 12).trans hs; clear hs; clear hc hz)
  go_ret
  exact ⟨rfl, hB⟩
set_option maxHeartbeats 4000000 in
set_option maxRecDepth 100000 in
theorem text_314 (w : World) (s : ByteArray) (hs : arr[13]? = some (.string s)) : Calls Try.prog 17 #[.int .i64 314] w fun r w' => r = .returned (.string s) ∧ Below w.heap.size w w' := by
  go_enter Try.func17, Try.ntmps17
  iterate 11 go_step
  refine wpList_build' rfl _ _ rfl arr (by kernel_rfl) ?_
  go_wp2_with (refine store_new rfl _ _ _ rfl arr rfl rfl (by kernel_rfl) (by kernel_rfl) (by kernel_rfl) ?_; intro W hc hB hz; have hk : W.cell? ⟨w.heap.size, 13, none⟩ = some (.string s) := (hc 13).trans hs; clear hs; clear hc hz)
  go_ret
  exact ⟨rfl, hB⟩
set_option maxHeartbeats 4000000 in
set_option maxRecDepth 100000 in
theorem text_315 (w : World) (s : ByteArray) (hs : arr[14]? = some (.string s)) : Calls Try.prog 17 #[.int .i64 315] w fun r w' => r = .returned (.string s) ∧ Below w.heap.size w w' := by
  go_enter Try.func17, Try.ntmps17
  iterate 11 go_step
  refine wpList_build' rfl _ _ rfl arr (by kernel_rfl) ?_
  go_wp2_with (refine store_new rfl _ _ _ rfl arr rfl rfl (by kernel_rfl) (by kernel_rfl) (by kernel_rfl) ?_; intro W hc hB hz; have hk : W.cell? ⟨w.heap.size, 14, none⟩ = some (.string s) := (hc 14).trans hs; clear hs; clear hc hz)
  go_ret
  exact ⟨rfl, hB⟩
set_option maxHeartbeats 4000000 in
set_option maxRecDepth 100000 in
theorem text_316 (w : World) (s : ByteArray) (hs : arr[15]? = some (.string s)) : Calls Try.prog 17 #[.int .i64 316] w fun r w' => r = .returned (.string s) ∧ Below w.heap.size w w' := by
  go_enter Try.func17, Try.ntmps17
  iterate 11 go_step
  refine wpList_build' rfl _ _ rfl arr (by kernel_rfl) ?_
  go_wp2_with (refine store_new rfl _ _ _ rfl arr rfl rfl (by kernel_rfl) (by kernel_rfl) (by kernel_rfl) ?_; intro W hc hB hz; have hk : W.cell? ⟨w.heap.size, 15, none⟩ = some (.string s) := (hc 15).trans hs; clear hs; clear hc hz)
  go_ret
  exact ⟨rfl, hB⟩
set_option maxHeartbeats 4000000 in
set_option maxRecDepth 100000 in
theorem text_317 (w : World) (s : ByteArray) (hs : arr[16]? = some (.string s)) : Calls Try.prog 17 #[.int .i64 317] w fun r w' => r = .returned (.string s) ∧ Below w.heap.size w w' := by
  go_enter Try.func17, Try.ntmps17
  iterate 11 go_step
  refine wpList_build' rfl _ _ rfl arr (by kernel_rfl) ?_
  go_wp2_with (refine store_new rfl _ _ _ rfl arr rfl rfl (by kernel_rfl) (by kernel_rfl) (by kernel_rfl) ?_; intro W hc hB hz; have hk : W.cell? ⟨w.heap.size, 16, none⟩ = some (.string s) := (hc 16).trans hs; clear hs; clear hc hz)
  go_ret
  exact ⟨rfl, hB⟩
set_option maxHeartbeats 4000000 in
set_option maxRecDepth 100000 in
theorem text_318 (w : World) (s : ByteArray) (hs : arr[17]? = some (.string s)) : Calls Try.prog 17 #[.int .i64 318] w fun r w' => r = .returned (.string s) ∧ Below w.heap.size w w' := by
  go_enter Try.func17, Try.ntmps17
  iterate 11 go_step
  refine wpList_build' rfl _ _ rfl arr (by kernel_rfl) ?_
  go_wp2_with (refine store_new rfl _ _ _ rfl arr rfl rfl (by kernel_rfl) (by kernel_rfl) (by kernel_rfl) ?_; intro W hc hB hz; have hk : W.cell? ⟨w.heap.size, 17, none⟩ = some (.string s) := (hc 17).trans hs; clear hs; clear hc hz)
  go_ret
  exact ⟨rfl, hB⟩
set_option maxHeartbeats 4000000 in
set_option maxRecDepth 100000 in
theorem text_319 (w : World) (s : ByteArray) (hs : arr[18]? = some (.string s)) : Calls Try.prog 17 #[.int .i64 319] w fun r w' => r = .returned (.string s) ∧ Below w.heap.size w w' := by
  go_enter Try.func17, Try.ntmps17
  iterate 11 go_step
  refine wpList_build' rfl _ _ rfl arr (by kernel_rfl) ?_
  go_wp2_with (refine store_new rfl _ _ _ rfl arr rfl rfl (by kernel_rfl) (by kernel_rfl) (by kernel_rfl) ?_; intro W hc hB hz; have hk : W.cell? ⟨w.heap.size, 18, none⟩ = some (.string s) := (hc 18).trans hs; clear hs; clear hc hz)
  go_ret
  exact ⟨rfl, hB⟩
set_option maxHeartbeats 4000000 in
set_option maxRecDepth 100000 in
theorem text_320 (w : World) (s : ByteArray) (hs : arr[19]? = some (.string s)) : Calls Try.prog 17 #[.int .i64 320] w fun r w' => r = .returned (.string s) ∧ Below w.heap.size w w' := by
  go_enter Try.func17, Try.ntmps17
  iterate 11 go_step
  refine wpList_build' rfl _ _ rfl arr (by kernel_rfl) ?_
  go_wp2_with (refine store_new rfl _ _ _ rfl arr rfl rfl (by kernel_rfl) (by kernel_rfl) (by kernel_rfl) ?_; intro W hc hB hz; have hk : W.cell? ⟨w.heap.size, 19, none⟩ = some (.string s) := (hc 19).trans hs; clear hs; clear hc hz)
  go_ret
  exact ⟨rfl, hB⟩
set_option maxHeartbeats 4000000 in
set_option maxRecDepth 100000 in
theorem text_321 (w : World) (s : ByteArray) (hs : arr[20]? = some (.string s)) : Calls Try.prog 17 #[.int .i64 321] w fun r w' => r = .returned (.string s) ∧ Below w.heap.size w w' := by
  go_enter Try.func17, Try.ntmps17
  iterate 11 go_step
  refine wpList_build' rfl _ _ rfl arr (by kernel_rfl) ?_
  go_wp2_with (refine store_new rfl _ _ _ rfl arr rfl rfl (by kernel_rfl) (by kernel_rfl) (by kernel_rfl) ?_; intro W hc hB hz; have hk : W.cell? ⟨w.heap.size, 20, none⟩ = some (.string s) := (hc 20).trans hs; clear hs; clear hc hz)
  go_ret
  exact ⟨rfl, hB⟩
set_option maxHeartbeats 4000000 in
set_option maxRecDepth 100000 in
theorem text_322 (w : World) (s : ByteArray) (hs : arr[21]? = some (.string s)) : Calls Try.prog 17 #[.int .i64 322] w fun r w' => r = .returned (.string s) ∧ Below w.heap.size w w' := by
  go_enter Try.func17, Try.ntmps17
  iterate 11 go_step
  refine wpList_build' rfl _ _ rfl arr (by kernel_rfl) ?_
  go_wp2_with (refine store_new rfl _ _ _ rfl arr rfl rfl (by kernel_rfl) (by kernel_rfl) (by kernel_rfl) ?_; intro W hc hB hz; have hk : W.cell? ⟨w.heap.size, 21, none⟩ = some (.string s) := (hc 21).trans hs; clear hs; clear hc hz)
  go_ret
  exact ⟨rfl, hB⟩
set_option maxHeartbeats 4000000 in
set_option maxRecDepth 100000 in
theorem text_323 (w : World) (s : ByteArray) (hs : arr[22]? = some (.string s)) : Calls Try.prog 17 #[.int .i64 323] w fun r w' => r = .returned (.string s) ∧ Below w.heap.size w w' := by
  go_enter Try.func17, Try.ntmps17
  iterate 11 go_step
  refine wpList_build' rfl _ _ rfl arr (by kernel_rfl) ?_
  go_wp2_with (refine store_new rfl _ _ _ rfl arr rfl rfl (by kernel_rfl) (by kernel_rfl) (by kernel_rfl) ?_; intro W hc hB hz; have hk : W.cell? ⟨w.heap.size, 22, none⟩ = some (.string s) := (hc 22).trans hs; clear hs; clear hc hz)
  go_ret
  exact ⟨rfl, hB⟩
set_option maxHeartbeats 4000000 in
set_option maxRecDepth 100000 in
theorem text_324 (w : World) (s : ByteArray) (hs : arr[23]? = some (.string s)) : Calls Try.prog 17 #[.int .i64 324] w fun r w' => r = .returned (.string s) ∧ Below w.heap.size w w' := by
  go_enter Try.func17, Try.ntmps17
  iterate 11 go_step
  refine wpList_build' rfl _ _ rfl arr (by kernel_rfl) ?_
  go_wp2_with (refine store_new rfl _ _ _ rfl arr rfl rfl (by kernel_rfl) (by kernel_rfl) (by kernel_rfl) ?_; intro W hc hB hz; have hk : W.cell? ⟨w.heap.size, 23, none⟩ = some (.string s) := (hc 23).trans hs; clear hs; clear hc hz)
  go_ret
  exact ⟨rfl, hB⟩
set_option maxHeartbeats 4000000 in
set_option maxRecDepth 100000 in
theorem text_325 (w : World) (s : ByteArray) (hs : arr[24]? = some (.string s)) : Calls Try.prog 17 #[.int .i64 325] w fun r w' => r = .returned (.string s) ∧ Below w.heap.size w w' := by
  go_enter Try.func17, Try.ntmps17
  iterate 11 go_step
  refine wpList_build' rfl _ _ rfl arr (by kernel_rfl) ?_
  go_wp2_with (refine store_new rfl _ _ _ rfl arr rfl rfl (by kernel_rfl) (by kernel_rfl) (by kernel_rfl) ?_; intro W hc hB hz; have hk : W.cell? ⟨w.heap.size, 24, none⟩ = some (.string s) := (hc 24).trans hs; clear hs; clear hc hz)
  go_ret
  exact ⟨rfl, hB⟩
theorem text_in (e : Int) (w : World) (h : e = 301 ∨ e = 302 ∨ e = 303 ∨ e = 304 ∨ e = 305 ∨ e = 306 ∨ e = 307 ∨ e = 308 ∨ e = 309 ∨ e = 310 ∨ e = 311 ∨ e = 312 ∨ e = 313 ∨ e = 314 ∨ e = 315 ∨ e = 316 ∨ e = 317 ∨ e = 318 ∨ e = 319 ∨ e = 320 ∨ e = 321 ∨ e = 322 ∨ e = 323 ∨ e = 324 ∨ e = 325) : Calls Try.prog 17 #[.int .i64 e] w fun r w' => r = .returned (.string (txt e)) ∧ Below w.heap.size w w' := by
  rcases h with rfl | rfl | rfl | rfl | rfl | rfl | rfl | rfl | rfl | rfl | rfl | rfl | rfl | rfl | rfl | rfl | rfl | rfl | rfl | rfl | rfl | rfl | rfl | rfl | rfl
  · exact text_301 w _ (by kernel_rfl)
  · exact text_302 w _ (by kernel_rfl)
  · exact text_303 w _ (by kernel_rfl)
  · exact text_304 w _ (by kernel_rfl)
  · exact text_305 w _ (by kernel_rfl)
  · exact text_306 w _ (by kernel_rfl)
  · exact text_307 w _ (by kernel_rfl)
  · exact text_308 w _ (by kernel_rfl)
  · exact text_309 w _ (by kernel_rfl)
  · exact text_310 w _ (by kernel_rfl)
  · exact text_311 w _ (by kernel_rfl)
  · exact text_312 w _ (by kernel_rfl)
  · exact text_313 w _ (by kernel_rfl)
  · exact text_314 w _ (by kernel_rfl)
  · exact text_315 w _ (by kernel_rfl)
  · exact text_316 w _ (by kernel_rfl)
  · exact text_317 w _ (by kernel_rfl)
  · exact text_318 w _ (by kernel_rfl)
  · exact text_319 w _ (by kernel_rfl)
  · exact text_320 w _ (by kernel_rfl)
  · exact text_321 w _ (by kernel_rfl)
  · exact text_322 w _ (by kernel_rfl)
  · exact text_323 w _ (by kernel_rfl)
  · exact text_324 w _ (by kernel_rfl)
  · exact text_325 w _ (by kernel_rfl)
theorem text (e : Int) (w : World) (h0 : -9223372036854775808 ≤ e) (h1 : e ≤ 9223372036854775807) : Calls Try.prog 17 #[.int .i64 e] w fun r w' => r = .returned (.string (txt e)) ∧ Below w.heap.size w w' := by
  rcases parts (e := e) with h | h
  · rw [txt_out h]
    obtain ⟨i, hi, hr | hr⟩ := wrapE h h0 h1
    · exact text_lo e i w hi hr
    · exact text_hi e i w hi hr
  · exact text_in e w h
end Go.Proofs.Ytdhkhjfjjbdkgaa.Txt
