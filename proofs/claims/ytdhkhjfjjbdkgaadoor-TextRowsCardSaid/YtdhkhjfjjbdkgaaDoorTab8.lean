/- RowsTable and NestTable walked; what the laid tables are in memory. -/
import Derived.Test.YtdhkhjfjjbdkgaaDoorTab7
import Derived.Test.YtdhkhjfjjbdkgaaDoorRows
import Derived.ProofKit
import Derived.LaidMore
import Derived.OpenShut
import Derived.Stop.Joined
namespace Go.Proofs.YtdhkhjfjjbdkgaaDoor.Tab
open Go.RowKit
set_option linter.unusedVariables false
set_option linter.unusedSimpArgs false
theorem call13 : ∀ W, Sem.run Tryd.prog (callFunc 13 #[]) W = .ok (.enter 13 #[]) W := fun W => by kernel_rfl
theorem call14 : ∀ W, Sem.run Tryd.prog (callFunc 14 #[]) W = .ok (.enter 14 #[]) W := fun W => by kernel_rfl
theorem reads_of_own {w : World} {base : Nat} {p : Sl} {n : Nat} {xs : List Cmd} (hl : xs.length = n) (h : ∀ j, j < n * 7 → w.cell? ⟨p.1, j, none⟩ = (xs.flatMap Cmd.cells)[j]?) : Reads w p.1 xs := fun i j u hi hu => by
  have hj : j < 7 := by
    have := (List.getElem?_eq_some_iff.1 hu).1
    have e : ((xs.getD i zc).cells).length = 7 := rfl
    omega
  rw [h _ (by omega)]
  exact cells_flat xs i j u hi hu
set_option maxHeartbeats 1000000 in
theorem nest_walk (n : Int) (w : World) (t : TypeId) (fr : Nat × Nat) (hg : w.heap[2]? = some (.cells (nestC.flatMap Cmd.cells).toArray t fr)) :
    Calls Tryd.prog 5 #[.int .i64 n] w fun e w' => e = .returned (.bool true) ∧ Below w.heap.size w w' := by
  have hlt : 2 < w.heap.size := (Array.getElem?_eq_some_iff.1 hg).1
  have HG := Lib.hid hg; clear hg
  go_enter Tryd.func5, Tryd.ntmps5
  go_wp2_with fail
  refine (ref13 _).mono ?_
  rintro e w1 ⟨v, rfl, ho, hb⟩
  obtain ⟨⟨g1, n1, c1⟩, rfl, hp1, hp2, hp3, hp4⟩ := own_sl ho (by omega)
  have e1 : n1 = 29 := hp1
  subst e1
  have HRD := Lib.hid (reads_of_own (base := 0) nestC_len hp4)
  have hlt1 : g1 < w1.heap.size := hp2.2.2.1
  have HB := Lib.hid hb
  have HG1 := Lib.hid (show w1.heap[2]? = some (.cells (nestC.flatMap Cmd.cells).toArray t fr) by rw [hb.block 2 hlt]; exact HG.out)
  have hlt2 : 2 < w1.heap.size := Nat.lt_of_lt_of_le hlt hb.size
  rw [show val (g1, 29, c1) = .slice (some ⟨g1, 0, none⟩) 29 c1 from rfl]
  clear ho hp1 hp2 hp3 hp4 hb
  go_wp2_with fail
  refine (table 14 2 call14 _ nestC (nestC_asks t fr) w1 hlt2 HG1 g1 c1 HRD hlt1 29 nestC_len.symm (by omega) (by omega) n).mono ?_
  rintro e w2 ⟨rfl, hb2⟩
  have HB2 := Lib.hid hb2; clear hb2
  go_wp2_with fail
  go_ret
  exact ⟨rfl, bel HB.out HB2.out⟩
set_option maxHeartbeats 2000000 in
theorem rows_walk (n : Int) (w : World) (t : TypeId) (fr : Nat × Nat) (hg : w.heap[1]? = some (.cells (rowsC.flatMap Cmd.cells).toArray t fr)) :
    Calls Tryd.prog 4 #[.int .i64 n] w fun e w' => e = .returned (.bool true) ∧ Below w.heap.size w w' := by
  obtain ⟨i8, ha0, ha1, ha2, ha3⟩ := info_parts info28
  have hlt : 1 < w.heap.size := (Array.getElem?_eq_some_iff.1 hg).1
  have HG := Lib.hid hg; clear hg
  go_enter Tryd.func4, Tryd.ntmps4
  go_wp2_with fail
  refine (ref_names _).mono ?_
  rintro e w1 ⟨rfl, hnm, hz, hb⟩
  have HNM := Lib.hid hnm; have HB := Lib.hid hb; clear hnm hb
  go_wp2_with fail
  go_loopw [4, 5] (fun v i wr => ∃ k : Nat, k ≤ 17 ∧ i = .int .i64 k ∧ wr.ownsRow w1.heap.size 28 7 v k ((rowsC.take k).flatMap Cmd.cells) ∧ Below w1.heap.size w1 wr) (fun _ i _ => 17 - (intOf i).toNat)
  case atStart => exact ⟨0, by omega, rfl, w1.ownsRow_nil _ _ _, Below.refl _ _⟩
  case round =>
    obtain ⟨k, hk, rfl, ho, hb⟩ := hrel
    have HO := Lib.hid ho; have HC := Lib.hid hb; clear ho hb
    by_cases hlt5 : k < 17
    · have hcell : wr.cell? ⟨w.heap.size, k, none⟩ = some (.string (rowsC.getD k zc).name) := by rw [cell_below HC.out hz]; exact HNM.out k hlt5
      have hrow := ref_row k hlt5
      have hsucc := flat_take_succ rowsC k (by rw [rowsC_len]; exact hlt5)
      obtain ⟨⟨nm, ar, wb, fi, la, st, co⟩, hc⟩ : ∃ c, rowsC.getD k zc = c := ⟨_, rfl⟩
      rw [hc] at hcell hrow hsucc
      have HR := Lib.hid hrow; have HS := Lib.hid hsucc; clear hrow hsucc hc
      have hbd : (k + 1) * 64 ≤ 140737488355328 := by omega
      have hml : k + 1 ≤ maxLen := by unfold maxLen; omega
      have HBD := Lib.hid hbd; have HML := Lib.hid hml; clear hbd hml
      go_wp2_with fail
      refine (HR.out _).mono ?_
      rintro e w2 ⟨rfl, hb2⟩
      have HB2 := Lib.hid (bel HC.out hb2)
      have HO2 := Lib.hid (own_bel HO.out hb2)
      have hsz := HB2.out.size
      have hcellsEq : (⟨nm, ar, wb, fi, la, st, co⟩ : Cmd).cells.toArray = #[.string nm, .int .i64 ar, .bool wb, .int .i64 fi, .int .i64 la, .int .i64 st, .int .i64 co] := rfl
      rw [hcellsEq]
      clear hb2 hcellsEq
      go_wp2_with ((at_builtin; refine wpList_append_own _ rfl _ _ 23 rfl w1.heap.size 28 i8 _ 7 64 Tryd.underlying23 ha0 ha1 ha2 ha3 rfl (by decide) _ k _ rfl ((HO2.out.alloc _).alloc _) ⟨w2.heap.size + 1, 0, none⟩ 1 1 [.string nm, .int .i64 ar, .bool wb, .int .i64 fi, .int .i64 la, .int .i64 st, .int .i64 co] rfl rfl (news_two w2 _ _ _) (by simp [Value.oneCell']) HML.out HBD.out (by simp; omega) ?_; intro v3 w3 ho3 hg3 _; have HO3 := Lib.hid ho3; have HG3 := Lib.hid hg3; clear ho3 hg3))
      go_roundw
      case rel => exact ⟨k + 1, by omega, by go_num, by rw [HS.out]; exact HO3.out, ((HB2.out.alloc hsz _).alloc (by simp; omega) _).grown HG3.out (by simp; omega) (fun b hb => (HO2.out.lt b hb).1)⟩
      case measure => simp [intOf]; omega
    · obtain rfl : k = 17 := by omega
      have ho : wr.ownsRow w1.heap.size 28 7 u4 17 (rowsC.flatMap Cmd.cells) := by
        have := HO.out
        rw [show rowsC.take 17 = rowsC from by rw [← rowsC_len, List.take_length]] at this
        exact this
      obtain ⟨⟨g1, n1, c1⟩, rfl, hp1, hp2, hp3, hp4⟩ := own_sl ho (by omega)
      have e1 : n1 = 17 := hp1
      subst e1
      have HRD := Lib.hid (reads_of_own (base := 0) rowsC_len hp4)
      have hlt1 : g1 < wr.heap.size := hp2.2.2.1
      have HBB := Lib.hid (bel HB.out HC.out)
      have HG1 := Lib.hid (show wr.heap[1]? = some (.cells (rowsC.flatMap Cmd.cells).toArray t fr) by rw [HBB.out.block 1 hlt]; exact HG.out)
      have hlt2 : 1 < wr.heap.size := Nat.lt_of_lt_of_le hlt HBB.out.size
      clear ho hp1 hp2 hp3 hp4 HO
      rw [show val (g1, 17, c1) = .slice (some ⟨g1, 0, none⟩) 17 c1 from rfl]
      go_wp2_with fail
      refine (table 13 1 call13 _ rowsC (rowsC_asks t fr) wr hlt2 HG1 g1 c1 HRD hlt1 17 rowsC_len.symm (by omega) (by omega) n).mono ?_
      rintro e w2 ⟨rfl, hb2⟩
      have HB2 := Lib.hid hb2; clear hb2
      go_wp2_with fail
      go_ret
      exact ⟨rfl, bel HBB.out HB2.out⟩
end Go.Proofs.YtdhkhjfjjbdkgaaDoor.Tab
