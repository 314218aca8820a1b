/- The contracts of rows.Commands and nest.Commands: a new list that holds the table's rows. -/
import Derived.Test.YtdhkhjfjjbdkgaaDoorTab4
import Derived.Laws.Rows
namespace Go.Proofs.YtdhkhjfjjbdkgaaDoor.Tab
open Go.RowKit
set_option linter.unusedVariables false
set_option linter.unusedSimpArgs false
theorem flat_take_succ (xs : List Cmd) (k : Nat) (hk : k < xs.length) : (xs.take (k + 1)).flatMap Cmd.cells = (xs.take k).flatMap Cmd.cells ++ (xs.getD k zc).cells := by
  rw [List.take_succ_eq_append_getElem hk, List.flatMap_append]
  simp [List.getD_eq_getElem?_getD, List.getElem?_eq_getElem hk]
theorem flat_extract (xs : List Cmd) : ∀ k, k < xs.length → ((xs.flatMap Cmd.cells).drop (k * 7)).take 7 = (xs.getD k zc).cells := by
  induction xs with
  | nil => intro k hk; simp at hk
  | cons x r ih =>
    intro k hk
    have hl : x.cells.length = 7 := rfl
    rw [List.flatMap_cons]
    cases k with
    | zero => rw [Nat.zero_mul, List.drop_zero, List.take_append_of_le_length (by omega), List.take_of_length_le (by omega)]; rfl
    | succ k =>
      rw [show (k + 1) * 7 = x.cells.length + k * 7 from by omega, ← List.drop_drop, List.drop_left]
      exact ih k (by simpa using hk)
theorem run_index_cmd (T n k : Nat) (ht : Tryd.prog.underlying T = some (.array n 28)) (xs : List Cmd) (hx : xs.length = n) (hk : k < n) (W : World) :
    (Instr.index T (.agg (xs.flatMap Cmd.cells).toArray) (.int .i64 (k : Int))).run Tryd.prog W = .ok (.agg (xs.getD k zc).cells.toArray) W := by
  have hs : (sizeOf 28).run Tryd.prog W = .ok 7 W := by kernel_rfl
  have ha : (isAgg 28).run Tryd.prog W = .ok true W := by kernel_rfl
  have e := flat_extract xs k (by omega)
  have he : ((xs.flatMap Cmd.cells).toArray.extract (k * 7) (k * 7 + 7)) = (xs.getD k zc).cells.toArray := by
    rw [← e]
    apply Array.ext'
    simp [List.take_drop]
  simp only [Instr.index, asIntOf, Sem.run_bind, Sem.run_pure, Result.andThen_ok, run_underlying ht]
  rw [if_pos (by omega)]
  simp only [Sem.run_bind, hs, Result.andThen_ok, part, ha, Int.toNat_natCast, if_true, Sem.run_pure, he]

def rowsC : List Cmd := [⟨⟨#[76, 73, 78, 68, 69, 88]⟩, 3, false, 1, 1, 1, 0⟩, ⟨⟨#[76, 73, 78, 83, 69, 82, 84]⟩, 5, true, 1, 1, 1, 0⟩, ⟨⟨#[76, 76, 69, 78]⟩, 2, false, 1, 1, 1, 0⟩, ⟨⟨#[76, 77, 79, 86, 69]⟩, 5, true, 1, 2, 1, 0⟩, ⟨⟨#[76, 77, 80, 79, 80]⟩, -4, true, 0, 0, 0, 1⟩, ⟨⟨#[76, 80, 79, 80]⟩, -2, true, 1, 1, 1, 0⟩, ⟨⟨#[76, 80, 79, 83]⟩, -3, false, 1, 1, 1, 0⟩, ⟨⟨#[76, 80, 85, 83, 72]⟩, -3, true, 1, 1, 1, 0⟩, ⟨⟨#[76, 80, 85, 83, 72, 88]⟩, -3, true, 1, 1, 1, 0⟩, ⟨⟨#[76, 82, 65, 78, 71, 69]⟩, 4, false, 1, 1, 1, 0⟩, ⟨⟨#[76, 82, 69, 77]⟩, 4, true, 1, 1, 1, 0⟩, ⟨⟨#[76, 83, 69, 84]⟩, 4, true, 1, 1, 1, 0⟩, ⟨⟨#[76, 84, 82, 73, 77]⟩, 4, true, 1, 1, 1, 0⟩, ⟨⟨#[82, 80, 79, 80]⟩, -2, true, 1, 1, 1, 0⟩, ⟨⟨#[82, 80, 79, 80, 76, 80, 85, 83, 72]⟩, 3, true, 1, 2, 1, 0⟩, ⟨⟨#[82, 80, 85, 83, 72]⟩, -3, true, 1, 1, 1, 0⟩, ⟨⟨#[82, 80, 85, 83, 72, 88]⟩, -3, true, 1, 1, 1, 0⟩]
theorem rowsC_len : rowsC.length = 17 := rfl
set_option maxHeartbeats 2000000 in
set_option maxRecDepth 100000 in
theorem rowsC_asks (t : TypeId) (fr : Nat × Nat) : Asks 13 1 (.cells (rowsC.flatMap Cmd.cells).toArray t fr) rowsC := by
  intro w hg
  obtain ⟨xs, hxs⟩ : ∃ xs, xs = rowsC := ⟨_, rfl⟩
  have hlen : xs.length = 17 := by rw [hxs]; rfl
  rw [← hxs] at hg ⊢
  have hsz : ((xs.flatMap Cmd.cells).toArray).size = 119 := by rw [List.size_toArray, flat_length, hlen]
  have hidx := fun k hk => run_index_cmd 40 17 k Tryd.underlying40 xs hlen hk
  have HI := Lib.hid hidx; have HG := Lib.hid hg; have HL := Lib.hid hlen; have HZ := Lib.hid hsz
  clear hidx hg hlen hsz hxs
  obtain ⟨i8, ha0, ha1, ha2, ha3⟩ := info_parts info28
  obtain ⟨cs, hcs⟩ : ∃ cs, cs = (xs.flatMap Cmd.cells).toArray := ⟨_, rfl⟩
  rw [← hcs] at HI HG HZ
  have hi40 : (Tryd.prog.info? 40).map (·.size) = some cs.size := by rw [HZ.out]; kernel_rfl
  have HI40 := Lib.hid hi40
  clear hcs hi40
  go_enter Tryd.func13, Tryd.ntmps13
  go_wp2_with (refine wpList_load_row rfl 40 _ rfl 1 rfl t cs fr _ HG.out Tryd.underlying40 rfl HI40.out ?_)
  go_loopw [1, 5] (fun v i wr => ∃ k : Nat, k ≤ 17 ∧ i = .int .i64 k ∧ wr.ownsRow w.heap.size 28 7 v k ((xs.take k).flatMap Cmd.cells) ∧ Below w.heap.size w wr) (fun _ i _ => 17 - (intOf i).toNat)
  case atStart => exact ⟨0, by omega, rfl, w.ownsRow_nil _ _ _, Below.refl _ _⟩
  case round =>
    obtain ⟨k, hk, rfl, ho, hB⟩ := hrel
    have HO := Lib.hid ho; have HB := Lib.hid hB; clear ho hB
    by_cases hlt : k < 17
    · have hx := HI.out k hlt
      have hsucc := flat_take_succ xs k (by rw [HL.out]; exact hlt)
      obtain ⟨⟨nm, ar, wb, fi, la, st, co⟩, hc⟩ : ∃ c, xs.getD k zc = c := ⟨_, rfl⟩
      rw [hc] at hx hsucc
      have hx2 : ∀ W : World, (Instr.index 40 (.agg cs) (.int .i64 (k : Int))).run Tryd.prog W = .ok (.agg #[.string nm, .int .i64 ar, .bool wb, .int .i64 fi, .int .i64 la, .int .i64 st, .int .i64 co]) W := hx
      have HS := Lib.hid hsucc; clear hsucc hx hc
      have hbd : (k + 1) * 64 ≤ 140737488355328 := by omega
      have hml : k + 1 ≤ maxLen := by unfold maxLen; omega
      have HBD := Lib.hid hbd; have HML := Lib.hid hml; clear hbd hml
      have hsz := HB.out.size
      go_wp2_with ((at_builtin; refine wpList_append_own _ rfl _ _ 23 rfl w.heap.size 28 i8 _ 7 64 Tryd.underlying23 ha0 ha1 ha2 ha3 rfl (by decide) _ k _ rfl ((HO.out.alloc _).alloc _) ⟨wr.heap.size + 1, 0, none⟩ 1 1 [.string nm, .int .i64 ar, .bool wb, .int .i64 fi, .int .i64 la, .int .i64 st, .int .i64 co] rfl rfl (news_two wr _ _ _) (by simp [Value.oneCell']) HML.out HBD.out (by simp; omega) ?_; intro v2 w2 ho2 hg2 _; have HO2 := Lib.hid ho2; have HG2 := Lib.hid hg2; clear ho2 hg2))
      go_roundw
      case rel => exact ⟨k + 1, by omega, by go_num, by rw [HS.out]; exact HO2.out, ((HB.out.alloc hsz _).alloc (by simp; omega) _).grown HG2.out (by simp; omega) (fun b hb => (HO.out.lt b hb).1)⟩
      case measure => simp [intOf]; omega
    · obtain rfl : k = 17 := by omega
      have hfin : xs.take 17 = xs := by rw [← HL.out, List.take_length]
      have HF := Lib.hid hfin; clear hfin
      go_wp2_with fail
      go_ret
      refine ⟨_, rfl, ?_, HB.out⟩
      have := HO.out
      rw [HF.out] at this
      rw [HL.out]
      exact this
def nestC : List Cmd := [⟨⟨#[72, 68, 69, 76]⟩, -3, true, 1, 1, 1, 0⟩, ⟨⟨#[72, 69, 88, 73, 83, 84, 83]⟩, 3, false, 1, 1, 1, 0⟩, ⟨⟨#[72, 71, 69, 84]⟩, 3, false, 1, 1, 1, 0⟩, ⟨⟨#[72, 71, 69, 84, 65, 76, 76]⟩, 2, false, 1, 1, 1, 0⟩, ⟨⟨#[72, 73, 78, 67, 82, 66, 89]⟩, 4, true, 1, 1, 1, 0⟩, ⟨⟨#[72, 75, 69, 89, 83]⟩, 2, false, 1, 1, 1, 0⟩, ⟨⟨#[72, 76, 69, 78]⟩, 2, false, 1, 1, 1, 0⟩, ⟨⟨#[72, 77, 71, 69, 84]⟩, -3, false, 1, 1, 1, 0⟩, ⟨⟨#[72, 83, 67, 65, 78]⟩, -3, false, 1, 1, 1, 0⟩, ⟨⟨#[72, 83, 69, 84]⟩, -4, true, 1, 1, 1, 0⟩, ⟨⟨#[72, 83, 69, 84, 78, 88]⟩, 4, true, 1, 1, 1, 0⟩, ⟨⟨#[72, 83, 84, 82, 76, 69, 78]⟩, 3, false, 1, 1, 1, 0⟩, ⟨⟨#[72, 86, 65, 76, 83]⟩, 2, false, 1, 1, 1, 0⟩, ⟨⟨#[83, 65, 68, 68]⟩, -3, true, 1, 1, 1, 0⟩, ⟨⟨#[83, 67, 65, 82, 68]⟩, 2, false, 1, 1, 1, 0⟩, ⟨⟨#[83, 68, 73, 70, 70]⟩, -2, false, 1, -1, 1, 0⟩, ⟨⟨#[83, 68, 73, 70, 70, 83, 84, 79, 82, 69]⟩, -3, true, 1, -1, 1, 0⟩, ⟨⟨#[83, 73, 78, 84, 69, 82]⟩, -2, false, 1, -1, 1, 0⟩, ⟨⟨#[83, 73, 78, 84, 69, 82, 67, 65, 82, 68]⟩, -3, false, 0, 0, 0, 1⟩, ⟨⟨#[83, 73, 78, 84, 69, 82, 83, 84, 79, 82, 69]⟩, -3, true, 1, -1, 1, 0⟩, ⟨⟨#[83, 73, 83, 77, 69, 77, 66, 69, 82]⟩, 3, false, 1, 1, 1, 0⟩, ⟨⟨#[83, 77, 69, 77, 66, 69, 82, 83]⟩, 2, false, 1, 1, 1, 0⟩, ⟨⟨#[83, 77, 73, 83, 77, 69, 77, 66, 69, 82]⟩, -3, false, 1, 1, 1, 0⟩, ⟨⟨#[83, 77, 79, 86, 69]⟩, 4, true, 1, 2, 1, 0⟩, ⟨⟨#[83, 80, 79, 80]⟩, -2, true, 1, 1, 1, 0⟩, ⟨⟨#[83, 82, 69, 77]⟩, -3, true, 1, 1, 1, 0⟩, ⟨⟨#[83, 83, 67, 65, 78]⟩, -3, false, 1, 1, 1, 0⟩, ⟨⟨#[83, 85, 78, 73, 79, 78]⟩, -2, false, 1, -1, 1, 0⟩, ⟨⟨#[83, 85, 78, 73, 79, 78, 83, 84, 79, 82, 69]⟩, -3, true, 1, -1, 1, 0⟩]
theorem nestC_len : nestC.length = 29 := rfl
set_option maxHeartbeats 2000000 in
set_option maxRecDepth 100000 in
theorem nestC_asks (t : TypeId) (fr : Nat × Nat) : Asks 14 2 (.cells (nestC.flatMap Cmd.cells).toArray t fr) nestC := by
  intro w hg
  obtain ⟨xs, hxs⟩ : ∃ xs, xs = nestC := ⟨_, rfl⟩
  have hlen : xs.length = 29 := by rw [hxs]; rfl
  rw [← hxs] at hg ⊢
  have hsz : ((xs.flatMap Cmd.cells).toArray).size = 203 := by rw [List.size_toArray, flat_length, hlen]
  have hidx := fun k hk => run_index_cmd 41 29 k Tryd.underlying41 xs hlen hk
  have HI := Lib.hid hidx; have HG := Lib.hid hg; have HL := Lib.hid hlen; have HZ := Lib.hid hsz
  clear hidx hg hlen hsz hxs
  obtain ⟨i8, ha0, ha1, ha2, ha3⟩ := info_parts info28
  obtain ⟨cs, hcs⟩ : ∃ cs, cs = (xs.flatMap Cmd.cells).toArray := ⟨_, rfl⟩
  rw [← hcs] at HI HG HZ
  have hi40 : (Tryd.prog.info? 41).map (·.size) = some cs.size := by rw [HZ.out]; kernel_rfl
  have HI40 := Lib.hid hi40
  clear hcs hi40
  go_enter Tryd.func14, Tryd.ntmps14
  go_wp2_with (refine wpList_load_row rfl 41 _ rfl 2 rfl t cs fr _ HG.out Tryd.underlying41 rfl HI40.out ?_)
  go_loopw [1, 5] (fun v i wr => ∃ k : Nat, k ≤ 29 ∧ i = .int .i64 k ∧ wr.ownsRow w.heap.size 28 7 v k ((xs.take k).flatMap Cmd.cells) ∧ Below w.heap.size w wr) (fun _ i _ => 29 - (intOf i).toNat)
  case atStart => exact ⟨0, by omega, rfl, w.ownsRow_nil _ _ _, Below.refl _ _⟩
  case round =>
    obtain ⟨k, hk, rfl, ho, hB⟩ := hrel
    have HO := Lib.hid ho; have HB := Lib.hid hB; clear ho hB
    by_cases hlt : k < 29
    · have hx := HI.out k hlt
      have hsucc := flat_take_succ xs k (by rw [HL.out]; exact hlt)
      obtain ⟨⟨nm, ar, wb, fi, la, st, co⟩, hc⟩ : ∃ c, xs.getD k zc = c := ⟨_, rfl⟩
      rw [hc] at hx hsucc
      have hx2 : ∀ W : World, (Instr.index 41 (.agg cs) (.int .i64 (k : Int))).run Tryd.prog W = .ok (.agg #[.string nm, .int .i64 ar, .bool wb, .int .i64 fi, .int .i64 la, .int .i64 st, .int .i64 co]) W := hx
      have HS := Lib.hid hsucc; clear hsucc hx hc
      have hbd : (k + 1) * 64 ≤ 140737488355328 := by omega
      have hml : k + 1 ≤ maxLen := by unfold maxLen; omega
      have HBD := Lib.hid hbd; have HML := Lib.hid hml; clear hbd hml
      have hsz := HB.out.size
      go_wp2_with ((at_builtin; refine wpList_append_own _ rfl _ _ 23 rfl w.heap.size 28 i8 _ 7 64 Tryd.underlying23 ha0 ha1 ha2 ha3 rfl (by decide) _ k _ rfl ((HO.out.alloc _).alloc _) ⟨wr.heap.size + 1, 0, none⟩ 1 1 [.string nm, .int .i64 ar, .bool wb, .int .i64 fi, .int .i64 la, .int .i64 st, .int .i64 co] rfl rfl (news_two wr _ _ _) (by simp [Value.oneCell']) HML.out HBD.out (by simp; omega) ?_; intro v2 w2 ho2 hg2 _; have HO2 := Lib.hid ho2; have HG2 := Lib.hid hg2; clear ho2 hg2))
      go_roundw
      case rel => exact ⟨k + 1, by omega, by go_num, by rw [HS.out]; exact HO2.out, ((HB.out.alloc hsz _).alloc (by simp; omega) _).grown HG2.out (by simp; omega) (fun b hb => (HO.out.lt b hb).1)⟩
      case measure => simp [intOf]; omega
    · obtain rfl : k = 29 := by omega
      have hfin : xs.take 29 = xs := by rw [← HL.out, List.take_length]
      have HF := Lib.hid hfin; clear hfin
      go_wp2_with fail
      go_ret
      refine ⟨_, rfl, ?_, HB.out⟩
      have := HO.out
      rw [HF.out] at this
      rw [HL.out]
      exact this
end Go.Proofs.YtdhkhjfjjbdkgaaDoor.Tab
