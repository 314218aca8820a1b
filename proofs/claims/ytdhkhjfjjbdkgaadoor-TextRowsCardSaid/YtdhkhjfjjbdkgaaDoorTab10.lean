/- The contract of text.Commands: a new list that holds the table's rows. -/
import Derived.Test.YtdhkhjfjjbdkgaaDoorTab5
namespace Go.Proofs.YtdhkhjfjjbdkgaaDoor.Tab
open Go.RowKit
set_option linter.unusedVariables false
set_option linter.unusedSimpArgs false

def textC : List Cmd := [⟨⟨#[65, 80, 80, 69, 78, 68]⟩, 3, true, 1, 1, 1, 0⟩, ⟨⟨#[66, 73, 84, 67, 79, 85, 78, 84]⟩, -2, false, 1, 1, 1, 0⟩, ⟨⟨#[66, 73, 84, 70, 73, 69, 76, 68]⟩, -2, true, 1, 1, 1, 0⟩, ⟨⟨#[66, 73, 84, 79, 80]⟩, -4, true, 2, -1, 1, 0⟩, ⟨⟨#[66, 73, 84, 80, 79, 83]⟩, -3, false, 1, 1, 1, 0⟩, ⟨⟨#[68, 69, 67, 82]⟩, 2, true, 1, 1, 1, 0⟩, ⟨⟨#[68, 69, 67, 82, 66, 89]⟩, 3, true, 1, 1, 1, 0⟩, ⟨⟨#[71, 69, 84]⟩, 2, false, 1, 1, 1, 0⟩, ⟨⟨#[71, 69, 84, 66, 73, 84]⟩, 3, false, 1, 1, 1, 0⟩, ⟨⟨#[71, 69, 84, 68, 69, 76]⟩, 2, true, 1, 1, 1, 0⟩, ⟨⟨#[71, 69, 84, 69, 88]⟩, -2, true, 1, 1, 1, 0⟩, ⟨⟨#[71, 69, 84, 82, 65, 78, 71, 69]⟩, 4, false, 1, 1, 1, 0⟩, ⟨⟨#[71, 69, 84, 83, 69, 84]⟩, 3, true, 1, 1, 1, 0⟩, ⟨⟨#[73, 78, 67, 82]⟩, 2, true, 1, 1, 1, 0⟩, ⟨⟨#[73, 78, 67, 82, 66, 89]⟩, 3, true, 1, 1, 1, 0⟩, ⟨⟨#[77, 71, 69, 84]⟩, -2, false, 1, -1, 1, 0⟩, ⟨⟨#[77, 83, 69, 84]⟩, -3, true, 1, -1, 2, 0⟩, ⟨⟨#[77, 83, 69, 84, 78, 88]⟩, -3, true, 1, -1, 2, 0⟩, ⟨⟨#[80, 83, 69, 84, 69, 88]⟩, 4, true, 1, 1, 1, 0⟩, ⟨⟨#[83, 69, 84]⟩, -3, true, 1, 1, 1, 0⟩, ⟨⟨#[83, 69, 84, 66, 73, 84]⟩, 4, true, 1, 1, 1, 0⟩, ⟨⟨#[83, 69, 84, 69, 88]⟩, 4, true, 1, 1, 1, 0⟩, ⟨⟨#[83, 69, 84, 78, 88]⟩, 3, true, 1, 1, 1, 0⟩, ⟨⟨#[83, 69, 84, 82, 65, 78, 71, 69]⟩, 4, true, 1, 1, 1, 0⟩, ⟨⟨#[83, 84, 82, 76, 69, 78]⟩, 2, false, 1, 1, 1, 0⟩]
theorem textC_len : textC.length = 25 := rfl
set_option maxHeartbeats 2000000 in
set_option maxRecDepth 100000 in
theorem textC_asks (t : TypeId) (fr : Nat × Nat) : Asks 6 0 (.cells (textC.flatMap Cmd.cells).toArray t fr) textC := by
  intro w hg
  obtain ⟨xs, hxs⟩ : ∃ xs, xs = textC := ⟨_, rfl⟩
  have hlen : xs.length = 25 := by rw [hxs]; rfl
  rw [← hxs] at hg ⊢
  have hsz : ((xs.flatMap Cmd.cells).toArray).size = 175 := by rw [List.size_toArray, flat_length, hlen]
  have hidx := fun k hk => run_index_cmd 37 25 k Tryd.underlying37 xs hlen hk
  have HI := Lib.hid hidx; have HG := Lib.hid hg; have HL := Lib.hid hlen; have HZ := Lib.hid hsz
  clear hidx hg hlen hsz hxs
  obtain ⟨i8, ha0, ha1, ha2, ha3⟩ := info_parts info28
  obtain ⟨cs, hcs⟩ : ∃ cs, cs = (xs.flatMap Cmd.cells).toArray := ⟨_, rfl⟩
  rw [← hcs] at HI HG HZ
  have hi40 : (Tryd.prog.info? 37).map (·.size) = some cs.size := by rw [HZ.out]; kernel_rfl
  have HI40 := Lib.hid hi40
  clear hcs hi40
  go_enter Tryd.func6, Tryd.ntmps6
  go_wp2_with (refine wpList_load_row rfl 37 _ rfl 0 rfl t cs fr _ HG.out Tryd.underlying37 rfl HI40.out ?_)
  go_loopw [1, 5] (fun v i wr => ∃ k : Nat, k ≤ 25 ∧ i = .int .i64 k ∧ wr.ownsRow w.heap.size 28 7 v k ((xs.take k).flatMap Cmd.cells) ∧ Below w.heap.size w wr) (fun _ i _ => 25 - (intOf i).toNat)
  case atStart => exact ⟨0, by omega, rfl, w.ownsRow_nil _ _ _, Below.refl _ _⟩
  case round =>
    obtain ⟨k, hk, rfl, ho, hB⟩ := hrel
    have HO := Lib.hid ho; have HB := Lib.hid hB; clear ho hB
    by_cases hlt : k < 25
    · have hx := HI.out k hlt
      have hsucc := flat_take_succ xs k (by rw [HL.out]; exact hlt)
      obtain ⟨⟨nm, ar, wb, fi, la, st, co⟩, hc⟩ : ∃ c, xs.getD k zc = c := ⟨_, rfl⟩
      rw [hc] at hx hsucc
      have hx2 : ∀ W : World, (Instr.index 37 (.agg cs) (.int .i64 (k : Int))).run Tryd.prog W = .ok (.agg #[.string nm, .int .i64 ar, .bool wb, .int .i64 fi, .int .i64 la, .int .i64 st, .int .i64 co]) W := hx
      have HS := Lib.hid hsucc; clear hsucc hx hc
      have hbd : (k + 1) * 64 ≤ 140737488355328 := by omega
      have hml : k + 1 ≤ maxLen := by unfold maxLen; omega
      have HBD := Lib.hid hbd; have HML := Lib.hid hml; clear hbd hml
      have hsz := HB.out.size
      go_wp2_with ((at_builtin; refine wpList_append_own _ rfl _ _ 23 rfl w.heap.size 28 i8 _ 7 64 Tryd.underlying23 ha0 ha1 ha2 ha3 rfl (by decide) _ k _ rfl ((HO.out.alloc _).alloc _) ⟨wr.heap.size + 1, 0, none⟩ 1 1 [.string nm, .int .i64 ar, .bool wb, .int .i64 fi, .int .i64 la, .int .i64 st, .int .i64 co] rfl rfl (news_two wr _ _ _) (by simp [Value.oneCell']) HML.out HBD.out (by simp; omega) ?_; intro v2 w2 ho2 hg2 _; have HO2 := Lib.hid ho2; have HG2 := Lib.hid hg2; clear ho2 hg2))
      go_roundw
      case rel => exact ⟨k + 1, by omega, by go_num, by rw [HS.out]; exact HO2.out, ((HB.out.alloc hsz _).alloc (by simp; omega) _).grown HG2.out (by simp; omega) (fun b hb => (HO.out.lt b hb).1)⟩
      case measure => simp [intOf]; omega
    · obtain rfl : k = 25 := by omega
      have hfin : xs.take 25 = xs := by rw [← HL.out, List.take_length]
      have HF := Lib.hid hfin; clear hfin
      go_wp2_with fail
      go_ret
      refine ⟨_, rfl, ?_, HB.out⟩
      have := HO.out
      rw [HF.out] at this
      rw [HL.out]
      exact this
end Go.Proofs.YtdhkhjfjjbdkgaaDoor.Tab
