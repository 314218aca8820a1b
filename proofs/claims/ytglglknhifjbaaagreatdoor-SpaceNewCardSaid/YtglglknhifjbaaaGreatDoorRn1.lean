import Derived.Test.YtglglknhifjbaaaGreatDoorMap
import Derived.Recover
namespace Go.Proofs.YtglglknhifjbaaaGreatDoor.Sp
open Go.RowKit Go.Proofs.YtglglknhifjbaaaGreatDoorW.PrintWords Go.Proofs.YtglglknhifjbaaaGreatDoorW.PrintLast Go.Proofs.YtglglknhifjbaaaGreatDoorW.PrintMore
open Go.ChangeMaps (setBlock)
set_option linter.unusedVariables false
set_option linter.unusedSimpArgs false
theorem bd {B : Nat} {a w : World} (h : Below B a w) (n : Nat) : Below B a (w.drewN n) := ⟨h.os, h.tape, h.output, h.size, h.block⟩
theorem setBlock_cell (w : World) (b : Nat) (o : Obj) (p : Addr) (h : p.block ≠ b) : (setBlock w b o).cell? p = w.cell? p := World.cell?_of_block (by
  show (w.heap.setIfInBounds b o)[p.block]? = _
  rw [Array.getElem?_setIfInBounds_ne (fun e => h e.symm)])
abbrev st0 : Value := .agg #[.int .i64 0, .slice none 0 0, .slice none 0 0, .slice none 0 0, .slice none 0 0, .int .u64 0, .int .i64 0]
theorem plT : PlT Tryz.prog 104 := ⟨⟨_, _, _, _, Tryz.underlying104, by decide, by decide, rfl, rfl, rfl, rfl, Tryz.underlying3, Tryz.underlying9⟩, by kernel_rfl⟩
theorem zeroSt (W : World) : (zeroValue 106).run Tryz.prog W = .ok st0 W := by kernel_rfl
set_option maxHeartbeats 1000000 in
set_option maxRecDepth 100000 in
theorem touch_fresh {w : World} {s mb ck db n : Nat} {kb : ByteArray} (A : Option Addr) (c : Nat) (hcv : (convert 53 9 (.slice A n c)).run Tryz.prog w = .ok (.string kb) w) (h13 : w.cell? ⟨s, 13, none⟩ = some (.map (some mb))) (hm : w.heap[mb]? = some (.map #[] ck))
    (HE : ∀ W, Below w.heap.size w W → Calls Tryz.prog 54 #[.pointer (some ⟨s, 0, none⟩), .int .i64 (db : Int), .slice A n c] W fun e w' => e = .returned (.tuple #[.int .i64 0, .int .u64 0, .int .u64 0, .int .i64 0]) ∧ Below W.heap.size W w') :
    Calls Tryz.prog 88 #[.pointer (some ⟨s, 0, none⟩), .int .i64 (db : Int), .slice A n c] w fun e w' => e = .returned (.tuple #[]) ∧ ∃ w1, Below w.heap.size w w1 ∧ w' = setBlock w1 mb (.map #[⟨plK db kb, st0, ck⟩] (ck + 1)) := by
  have hlt : s < w.heap.size := by
    unfold World.cell? at h13
    cases hq : w.heap[s]? with
    | none => rw [hq] at h13; simp at h13
    | some o => exact (Array.getElem?_eq_some_iff.1 hq).1
  have hlm : mb < w.heap.size := (Array.getElem?_eq_some_iff.1 hm).1
  obtain ⟨W1, hW1⟩ : ∃ W1, w.alloc (.cells #[.int .i64 (db : Int), .string kb] 104) = W1 := ⟨_, rfl⟩
  have b1 : Below w.heap.size w W1 := by rw [← hW1]; exact (Below.refl _ _).alloc (Nat.le_refl _) _
  have p1 : W1.heap[w.heap.size]? = some (.cells #[.int .i64 (db : Int), .string kb] 104 (0, 0)) := by rw [← hW1]; exact heap_alloc_new w _
  have HC : Hid (∀ W, Below W1.heap.size W1 W → W.cell? ⟨s, 13, none⟩ = some (.map (some mb)) ∧ W.cell? ⟨w.heap.size, 0, none⟩ = some (.int .i64 (db : Int)) ∧ W.cell? ⟨w.heap.size, 1, none⟩ = some (.string kb) ∧
      (Instr.lookup 82 (.map (some mb)) (.agg #[.int .i64 (db : Int), .string kb]) true).run Tryz.prog W = .ok (.tuple #[st0, .bool false]) W) := Lib.hid fun W hb => by
    have hs1 := b1.size
    have k1 : w.heap.size < W1.heap.size := (Array.getElem?_eq_some_iff.1 p1).1
    refine ⟨?_, ?_, ?_, ?_⟩
    · rw [hb.cell (p := ⟨s, 13, none⟩) (by show s < _; omega), b1.cell (p := ⟨s, 13, none⟩) (by exact hlt)]; exact h13
    · rw [hb.cell (p := ⟨w.heap.size, 0, none⟩) (by exact k1)]; simp [World.cell?, p1]
    · rw [hb.cell (p := ⟨w.heap.size, 1, none⟩) (by exact k1)]; simp [World.cell?, p1]
    · exact run_lookup_nil (T := 82) plT Tryz.underlying82 (zeroSt W) ((hb.block mb (by omega)).trans ((b1.block mb hlm).trans hm))
  have HU : Hid (∀ W, Below W1.heap.size W1 W → (Instr.mapUpdate 82 (.map (some mb)) (.agg #[.int .i64 (db : Int), .string kb]) st0).run Tryz.prog W = .ok () (setBlock W mb (.map #[⟨plK db kb, st0, ck⟩] (ck + 1)))) := Lib.hid fun W hb =>
    run_update_nil (T := 82) plT Tryz.underlying82 ((hb.block mb (Nat.lt_of_lt_of_le hlm b1.size)).trans ((b1.block mb hlm).trans hm)) st0
  have hsm : s ≠ mb := fun e => by
    rw [e] at h13
    simp [World.cell?, hm] at h13
  have hpm : w.heap.size ≠ mb := by omega
  have HNE := Lib.hid (And.intro hsm hpm)
  have HB1 := Lib.hid b1
  have HE2 := Lib.hid HE
  clear HE hm hlt hlm p1 b1 h13 hsm hpm
  go_enter Tryz.func88, Tryz.ntmps88
  go_upto_region 1 with fail
  clear hW1
  go_region_held3 (fun W => W.cell? ⟨s, 13, none⟩ = some (.map (some mb)) ∧ W.cell? ⟨w.heap.size, 0, none⟩ = some (.int .i64 (db : Int)) ∧ W.cell? ⟨w.heap.size, 1, none⟩ = some (.string kb) ∧
      (Instr.lookup 82 (.map (some mb)) (.agg #[.int .i64 (db : Int), .string kb]) true).run Tryz.prog W = .ok (.tuple #[st0, .bool false]) W) (first | assumption | exact HC.out _ (Below.refl _ _) | exact HC.out _ (bd (Below.refl _ _) _) | exact HC.out _ ((bd (Below.refl _ _) _).alloc (Nat.le_refl _) _)) (fail)
  all_goals (
    obtain ⟨W2, hW2⟩ : ∃ W2, (W1.alloc (.cells #[.int .i64 0, .slice none 0 0, .slice none 0 0, .slice none 0 0, .slice none 0 0, .int .u64 0, .int .i64 0] 106)).drew = W2 := ⟨_, rfl⟩
    have b2 : Below W1.heap.size W1 W2 := by rw [← hW2]; exact ((Below.refl _ _).alloc (Nat.le_refl _) _).drew
    rw [hW2]
    clear hW2
    have HE3 := Lib.hid (HE2.out W2 (HB1.out.trans (b2.mono HB1.out.size)))
    go_wp2_with fail
    refine HE3.out.mono ?_
    rintro e w1 ⟨rfl, b3⟩
    have b23 := b2.trans (b3.mono b2.size)
    have HC2 : Hid (∀ W, Below w1.heap.size w1 W → W.cell? ⟨s, 13, none⟩ = some (.map (some mb)) ∧ W.cell? ⟨w.heap.size, 0, none⟩ = some (.int .i64 (db : Int)) ∧ W.cell? ⟨w.heap.size, 1, none⟩ = some (.string kb)) := Lib.hid fun W hb => by
      obtain ⟨q1, q2, q3, -⟩ := HC.out W (b23.trans (hb.mono b23.size))
      exact ⟨q1, q2, q3⟩
    have HU2 := Lib.hid fun W (hb : Below w1.heap.size w1 W) => HU.out W (b23.trans (hb.mono b23.size))
    have HB2 := Lib.hid (HB1.out.trans (b23.mono HB1.out.size))
    clear b2 b3 b23 HC HU HE2 HE3 HB1
    have hmu := HU2.out w1.drew (Below.refl _ _).drew
    have HC3 : Hid (∀ o, (setBlock w1.drew mb o).cell? ⟨s, 13, none⟩ = some (.map (some mb)) ∧ (setBlock w1.drew mb o).cell? ⟨w.heap.size, 0, none⟩ = some (.int .i64 (db : Int)) ∧ (setBlock w1.drew mb o).cell? ⟨w.heap.size, 1, none⟩ = some (.string kb)) := Lib.hid fun o => by
      obtain ⟨q1, q2, q3⟩ := HC2.out w1.drew (Below.refl _ _).drew
      exact ⟨(setBlock_cell _ _ _ _ HNE.out.1).trans q1, (setBlock_cell _ _ _ _ HNE.out.2).trans q2, (setBlock_cell _ _ _ _ HNE.out.2).trans q3⟩
    go_upto_region 5 with fail
    go_region_held3 (fun W => W.cell? ⟨s, 13, none⟩ = some (.map (some mb)) ∧ W.cell? ⟨w.heap.size, 0, none⟩ = some (.int .i64 (db : Int)) ∧ W.cell? ⟨w.heap.size, 1, none⟩ = some (.string kb)) (first | assumption | exact HC2.out _ (Below.refl _ _) | exact HC2.out _ (bd (Below.refl _ _) _) | exact HC3.out _) (fail))
  all_goals (
    go_wp2_with fail
    refine bodyPost_ret (results_none rfl _ _ _) rfl ?_
    exact ⟨rfl, _, HB2.out.drew, rfl⟩)
end Go.Proofs.YtglglknhifjbaaaGreatDoor.Sp
namespace Go.Proofs.YtglglknhifjbaaaGreatDoor.Sp
open Go.RowKit Go.Proofs.YtglglknhifjbaaaGreatDoorW.PrintWords Go.Proofs.YtglglknhifjbaaaGreatDoorW.PrintLast Go.Proofs.YtglglknhifjbaaaGreatDoorW.PrintMore
open Go.ChangeMaps (setBlock)
set_option linter.unusedVariables false
set_option linter.unusedSimpArgs false
set_option maxHeartbeats 1000000 in
set_option maxRecDepth 100000 in
theorem weigh_raw {w W0 W1 : World} {kb : ByteArray} {n cap s pl m co pb : Nat} {vb : Value} (R : World → Prop) (hpb : w.heap.size = pb) (hW0 : w.alloc (.cells #[.int .i64 0, .string kb] 104) = W0)
    (hcv : (convert 9 53 (.string kb)).run Tryz.prog W0 = .ok vb W1) (hsz : kb.size = n) (hn : n ≤ 4096)
    (hF : Hid (Calls Tryz.prog 63 #[.pointer (some ⟨s, 0, none⟩), .int .i64 0, vb] W1 fun e w2 => e = .returned (.tuple #[.int .i64 1, .int .u64 (pl : Int)]) ∧ w2.cell? ⟨pb, 1, none⟩ = some (.string kb) ∧
      Hid (∀ W, (∃ k, W = w2.drewN k) → Calls Tryz.prog 64 #[.pointer (some ⟨s, 0, none⟩), .int .i64 1, .int .u64 (pl : Int)] W fun e w3 => ∃ g, e = .returned (.agg #[.int .i64 1, .slice (some ⟨g, 0, none⟩) m m, .slice none 0 0, .slice none 0 0, .slice none 0 0]) ∧ w3.cell? ⟨pb, 1, none⟩ = some (.string kb) ∧
        Hid (∀ W, (∃ k, W = w3.drewN k) → Calls Tryz.prog 93 #[.int .i64 (n : Int), .agg #[.int .i64 1, .slice (some ⟨g, 0, none⟩) m m, .slice none 0 0, .slice none 0 0, .slice none 0 0]] W fun e w4 => e = .returned (.int .i64 (co : Int)) ∧ w4.cell? ⟨pb, 1, none⟩ = some (.string kb) ∧ R w4)))) :
    Calls Tryz.prog 47 #[.pointer (some ⟨s, 0, none⟩), .agg #[.int .i64 0, .string kb]] w fun e w' => e = .returned (.int .i64 (co : Int)) ∧ R w' := by
  have hp0 : W0.heap[pb]? = some (.cells #[.int .i64 0, .string kb] 104 (0, 0)) := by rw [← hW0, ← hpb]; exact heap_alloc_new w _
  have e0 : W0.cell? ⟨pb, 0, none⟩ = some (.int .i64 0) := by simp [World.cell?, hp0]
  have e1 : W0.cell? ⟨pb, 1, none⟩ = some (.string kb) := by simp [World.cell?, hp0]
  clear hp0
  go_enter Tryz.func47, Tryz.ntmps47
  go_wp2_with fail
  refine hF.out.mono ?_
  rintro e w2 ⟨rfl, c1, HR⟩
  clear hF hcv e0 e1 hW0
  go_upto_region 4 with fail
  go_region_held3 (fun W => W.cell? ⟨pb, 1, none⟩ = some (.string kb)) (first | assumption | exact c1) (first | (go_at_call 64; refine Calls.mono (HR.out _ ?_) ?_; (first | exact ⟨0, rfl⟩ | exact ⟨_, rfl⟩); rintro e w3 ⟨g, rfl, x1, HWt⟩) | (go_at_call 93; refine Calls.mono (HWt.out _ ?_) ?_; (first | exact ⟨0, rfl⟩ | exact ⟨_, rfl⟩); rintro e w4 ⟨rfl, x2, hb⟩))
  all_goals (
    go_wp2_with fail
    refine bodyPost_ret (results_tmp rfl _ _ _) rfl ?_
    exact ⟨rfl, hb⟩)
set_option maxHeartbeats 1000000 in
set_option maxRecDepth 100000 in
theorem cost_raw {w W0 W1 : World} {kb : ByteArray} {s r mb tt co : Nat} (R : World → Prop) (h9 : w.cell? ⟨s, 9, none⟩ = some (.int .i64 (tt : Int))) (h13 : w.cell? ⟨s, 13, none⟩ = some (.map (some mb))) (hle : tt + co ≤ 1048576)
    (hrg : (Instr.range 82 (.map (some mb))).run Tryz.prog w = .ok (.pointer (some ⟨r, 0, none⟩)) W0)
    (hnx : ∀ ty, (Instr.next (.pointer (some ⟨r, 0, none⟩)) false ty).run Tryz.prog W0 = .ok (.tuple #[.bool true, .agg #[.int .i64 0, .string kb], .agg #[.int .i64 0, .slice none 0 0, .slice none 0 0, .slice none 0 0, .slice none 0 0, .int .u64 0, .int .i64 0]]) W1)
    (hen : (Instr.entry (.pointer (some ⟨r, 0, none⟩))).run Tryz.prog W1 = .ok (.tuple #[.agg #[.int .i64 0, .string kb], .agg #[.int .i64 0, .slice none 0 0, .slice none 0 0, .slice none 0 0, .slice none 0 0, .int .u64 0, .int .i64 0]]) W1)
    (HWt : ∀ W, Below W1.heap.size W1 W → Calls Tryz.prog 47 #[.pointer (some ⟨s, 0, none⟩), .agg #[.int .i64 0, .string kb]] W fun e w' => e = .returned (.int .i64 (co : Int)) ∧ Below W.heap.size W w' ∧
      ∀ W', (∃ k, W' = w'.drewN k) → R W' ∧ ∀ ty, (Instr.next (.pointer (some ⟨r, 0, none⟩)) false ty).run Tryz.prog W' = .ok (.tuple #[.bool false]) W') :
    Calls Tryz.prog 17 #[.pointer (some ⟨s, 0, none⟩)] w fun e w' => e = .returned (.int .i64 ((tt + co : Nat) : Int)) ∧ R w' := by
  have m1 : IntKind.i64.wrap (co : Int) = (co : Int) := Go.IntWalk.i64_in _ (by omega)
  have m2 : IntKind.i64.wrap ((tt : Int) + (co : Int)) = ((tt + co : Nat) : Int) := by
    rw [show (tt : Int) + (co : Int) = ((tt + co : Nat) : Int) by omega]
    exact Go.IntWalk.i64_in _ (by omega)
  have HRg := Lib.hid hrg
  have HNx := Lib.hid hnx
  have HW := Lib.hid HWt
  clear hrg hnx hle HWt
  go_enter Tryz.func17, Tryz.ntmps17
  go_wp2_with (first | (at_range; refine wp_range _ rfl _ _ rfl rfl HRg.out ?_) | fail)
  go_frame
  refine wp_loop_rounds 2 ?_
  rw [rounds_succ]
  go_wp2_with (first | (at_next; refine wp_next _ rfl _ rfl rfl (HNx.out _) ?_) | fail)
  obtain ⟨W2, hW2⟩ : ∃ W2, (W1.alloc (.cells #[.int .i64 0, .string kb] 104)).alloc (.cells #[.int .i64 0, .slice none 0 0, .slice none 0 0, .slice none 0 0, .slice none 0 0, .int .u64 0, .int .i64 0] 106) = W2 := ⟨_, rfl⟩
  rw [hW2]
  have b2 : Below W1.heap.size W1 W2 := by rw [← hW2]; exact ((Below.refl W1.heap.size W1).alloc (Nat.le_refl _) _).alloc (by simp) _
  have p2 : W2.heap[W1.heap.size]? = some (.cells #[.int .i64 0, .string kb] 104 (0, 0)) := by rw [← hW2, heap_alloc_old _ _ (by simp), heap_alloc_new]
  have q2 : W2.heap[W1.heap.size + 1]? = some (.cells #[.int .i64 0, .slice none 0 0, .slice none 0 0, .slice none 0 0, .slice none 0 0, .int .u64 0, .int .i64 0] 106 (0, 0)) := by
    have := heap_alloc_new (W1.alloc (.cells #[.int .i64 0, .string kb] 104)) (.cells #[.int .i64 0, .slice none 0 0, .slice none 0 0, .slice none 0 0, .slice none 0 0, .int .u64 0, .int .i64 0] 106)
    rw [hW2] at this
    simpa using this
  have k0 : W2.cell? ⟨W1.heap.size, 0, none⟩ = some (.int .i64 0) := by simp [World.cell?, p2]
  have k1 : W2.cell? ⟨W1.heap.size, 1, none⟩ = some (.string kb) := by simp [World.cell?, p2]
  have k6 : W2.cell? ⟨W1.heap.size + 1, 6, none⟩ = some (.int .i64 0) := by simp [World.cell?, q2]
  have z2 : W2.heap.size = W1.heap.size + 2 := by rw [← hW2]; simp
  have HC : Hid (∀ W, Below W2.heap.size W2 W → W.cell? ⟨W1.heap.size, 0, none⟩ = some (.int .i64 0) ∧ W.cell? ⟨W1.heap.size, 1, none⟩ = some (.string kb) ∧ W.cell? ⟨W1.heap.size + 1, 6, none⟩ = some (.int .i64 0)) := Lib.hid fun W hb => ⟨(hb.cell (p := ⟨W1.heap.size, 0, none⟩) (by show W1.heap.size < _; omega)).trans k0, (hb.cell (p := ⟨W1.heap.size, 1, none⟩) (by show W1.heap.size < _; omega)).trans k1, (hb.cell (p := ⟨W1.heap.size + 1, 6, none⟩) (by show W1.heap.size + 1 < _; omega)).trans k6⟩
  have HW2 : Hid (∀ W, (∃ k, W = W2.drewN k) → Calls Tryz.prog 47 #[.pointer (some ⟨s, 0, none⟩), .agg #[.int .i64 0, .string kb]] W fun e w' => e = .returned (.int .i64 (co : Int)) ∧ (∀ k, (w'.drewN k).cell? ⟨W1.heap.size, 0, none⟩ = some (.int .i64 0) ∧ (w'.drewN k).cell? ⟨W1.heap.size, 1, none⟩ = some (.string kb) ∧ (w'.drewN k).cell? ⟨W1.heap.size + 1, 6, none⟩ = some (.int .i64 0)) ∧
      Hid (∀ W', (∃ k, W' = w'.drewN k) → R W' ∧ ∀ ty, (Instr.next (.pointer (some ⟨r, 0, none⟩)) false ty).run Tryz.prog W' = .ok (.tuple #[.bool false]) W')) := Lib.hid fun W hW => by
    obtain ⟨k, rfl⟩ := hW
    have bk := bd (Below.refl W2.heap.size W2) k
    refine (HW.out _ (b2.trans (bk.mono b2.size))).mono ?_
    rintro e w' ⟨rfl, hb, hN⟩
    exact ⟨rfl, fun k' => HC.out _ (bd (bk.trans hb) k'), Lib.hid hN⟩
  clear p2 q2 hW2 k0 k1 k6 z2 b2
  go_upto_region 5 with fail
  go_region_held3 (fun W => W.cell? ⟨W1.heap.size, 0, none⟩ = some (.int .i64 0) ∧ W.cell? ⟨W1.heap.size, 1, none⟩ = some (.string kb) ∧ W.cell? ⟨W1.heap.size + 1, 6, none⟩ = some (.int .i64 0)) (first | assumption | exact HC.out _ (Below.refl _ _) | exact HC.out _ (bd (Below.refl _ _) _) | exact x2 0 | exact x2 _) (first | (go_at_call 47; refine Calls.mono (HW2.out _ ?_) ?_; (first | exact ⟨0, rfl⟩ | exact ⟨_, rfl⟩); rintro e w3 ⟨rfl, x2, HN⟩))
  all_goals (
    obtain ⟨HR, HN2⟩ := HN.out _ ⟨0, rfl⟩
    have HN3 := Lib.hid HN2
    clear HN2 HC HW HW2 HNx
    go_wp2_with fail
    rw [rounds_succ]
    go_wp2_with (first | (at_next; refine wp_next _ rfl _ rfl rfl (HN3.out _) ?_) | fail)
    refine bodyPost_ret (results_tmp rfl _ _ _) rfl ?_
    exact ⟨rfl, HR⟩)
end Go.Proofs.YtglglknhifjbaaaGreatDoor.Sp
namespace Go.Proofs.YtglglknhifjbaaaGreatDoor.Sp
open Go.RowKit Go.Proofs.YtglglknhifjbaaaGreatDoorW.PrintWords Go.Proofs.YtglglknhifjbaaaGreatDoorW.PrintLast Go.Proofs.YtglglknhifjbaaaGreatDoorW.PrintMore
open Go.ChangeMaps (setBlock)
set_option linter.unusedVariables false
set_option linter.unusedSimpArgs false
theorem results_cell_tmp {P : Program} {fn : Func} {p : Tmp} {ty : TypeId} {u : Tmp} (h : fn.results = #[.cell p ty, .tmp u]) (tmps : Array Value) (w : World) (g : Nat) (t : TypeId) (cs : Array Value) (fr : Nat × Nat) (d : TypeDesc)
    (hp : tmps.getD p undef = .pointer (some ⟨g, 0, none⟩)) (hg : w.heap[g]? = some (.cells cs t fr))
    (hu : P.underlying ty = some d) (hd : (match d with | .struct _ | .array _ _ => true | _ => false) = true) (hi : (P.info? ty).map (·.size) = some cs.size) :
    (results fn tmps).run P w = .ok (.tuple #[.agg cs, tmps.getD u undef]) w := by
  have hp' : tmps[p]?.getD undef = .pointer (some ⟨g, 0, none⟩) := by simpa using hp
  simp [results, h, hp', asAddr, run_loadVar_row w g t ty cs fr d hg hu hd hi]
abbrev rep0 : Value := .agg #[.int .i64 0, .int .i64 0, .slice none 0 0, .slice none 0 0]
set_option maxHeartbeats 2000000 in
set_option maxRecDepth 100000 in
theorem end_raw {w : World} {kb : ByteArray} {s mb co q pl : Nat} (R : World → Prop) (h13 : ∀ W, Below w.heap.size w W → W.cell? ⟨s, 13, none⟩ = some (.map (some mb))) (hle : co ≤ q)
    (HR : ∀ V, Below w.heap.size w V → w.heap.size + 2 ≤ V.heap.size → ∃ r W0 W1, (Instr.range 82 (.map (some mb))).run Tryz.prog V = .ok (.pointer (some ⟨r, 0, none⟩)) W0 ∧
      (∀ ty, (Instr.next (.pointer (some ⟨r, 0, none⟩)) false ty).run Tryz.prog W0 = .ok (.tuple #[.bool true, .agg #[.int .i64 0, .string kb], .agg #[.int .i64 0, .slice none 0 0, .slice none 0 0, .slice none 0 0, .slice none 0 0, .int .u64 0, .int .i64 0]]) W1) ∧
      (Instr.entry (.pointer (some ⟨r, 0, none⟩))).run Tryz.prog W1 = .ok (.tuple #[.agg #[.int .i64 0, .string kb], .agg #[.int .i64 0, .slice none 0 0, .slice none 0 0, .slice none 0 0, .slice none 0 0, .int .u64 0, .int .i64 0]]) W1 ∧ Below V.heap.size V W1 ∧
      ∀ W2, Below W1.heap.size W1 W2 → ∃ vb W3, (convert 9 53 (.string kb)).run Tryz.prog W2 = .ok vb W3 ∧ Below W2.heap.size W2 W3 ∧
        Hid (Calls Tryz.prog 63 #[.pointer (some ⟨s, 0, none⟩), .int .i64 0, vb] W3 fun e w4 => e = .returned (.tuple #[.int .i64 1, .int .u64 (pl : Int)]) ∧ Below W3.heap.size W3 w4 ∧ (∀ ty, (Instr.next (.pointer (some ⟨r, 0, none⟩)) false ty).run Tryz.prog w4 = .ok (.tuple #[.bool false]) w4) ∧
          w4.cell? ⟨s, 12, none⟩ = some (.int .i64 0) ∧ (∀ k, (w4.drewN k).cell? ⟨s, 1, none⟩ = some (.int .i64 (q : Int))) ∧
          Hid (∀ W5, (∃ k, W5 = w4.drewN k) → Calls Tryz.prog 17 #[.pointer (some ⟨s, 0, none⟩)] W5 fun e w6 => e = .returned (.int .i64 (co : Int)) ∧ Below W5.heap.size W5 w6 ∧ (∀ k, (w6.drewN k).cell? ⟨s, 1, none⟩ = some (.int .i64 (q : Int))) ∧
            Hid (∀ W7, (∃ k, W7 = w6.drewN k) → Calls Tryz.prog 82 #[.pointer (some ⟨s, 0, none⟩)] W7 fun e w8 => e = .returned (.tuple #[]) ∧ (∀ b, w.heap.size ≤ b → b < V.heap.size → w8.heap[b]? = W7.heap[b]?) ∧ R w8)))) :
    Calls Tryz.prog 83 #[.pointer (some ⟨s, 0, none⟩), .agg #[.int .i64 0, .int .i64 0, .slice none 0 0, .slice none 0 0]] w fun e w' => e = .returned (.tuple #[.agg #[.int .i64 0, .int .i64 0, .slice none 0 0, .slice none 0 0], .int .i64 0]) ∧ ∃ w8, R w8 ∧ Fr (fun b => w.heap.size ≤ b ∧ b < w.heap.size + 2) w8 w' := by
  obtain ⟨N, hN⟩ : ∃ N, w.heap.size = N := ⟨_, rfl⟩
  obtain ⟨V, hV⟩ : ∃ V, (w.alloc (.cells #[.int .i64 0, .int .i64 0, .slice none 0 0, .slice none 0 0] 67)).alloc (.cells #[.int .i64 0, .int .i64 0, .slice none 0 0, .slice none 0 0] 67) = V := ⟨_, rfl⟩
  have bV : Below w.heap.size w V := by rw [← hV]; exact ((Below.refl _ _).alloc (Nat.le_refl _) _).alloc (by simp) _
  obtain ⟨r, W0, W1, hrg, hnx, hen, b1, HC⟩ := HR V bV (by rw [← hV]; simp)
  have v13 := h13 V bV
  have HRg := Lib.hid hrg
  have HNx := Lib.hid hnx
  have HhV := Lib.hid hV
  have HsV : Hid (V.heap.size = N + 2) := Lib.hid (by rw [← hV, ← hN]; simp)
  have HvN : Hid (V.heap[N]? = some (.cells #[.int .i64 0, .int .i64 0, .slice none 0 0, .slice none 0 0] 67 (0, 0))) := Lib.hid (by rw [← hV, ← hN, heap_alloc_old _ _ (by simp), heap_alloc_new])
  have HvM : Hid (V.heap[N + 1]? = some (.cells #[.int .i64 0, .int .i64 0, .slice none 0 0, .slice none 0 0] 67 (0, 0))) := Lib.hid (by
    have := heap_alloc_new (w.alloc (.cells #[.int .i64 0, .int .i64 0, .slice none 0 0, .slice none 0 0] 67)) (.cells #[.int .i64 0, .int .i64 0, .slice none 0 0, .slice none 0 0] 67)
    rw [hV] at this
    rw [← hN]
    simpa using this)
  have HhN := Lib.hid hN
  have HC0 := Lib.hid HC
  have HB1 := Lib.hid (And.intro bV b1)
  clear HR h13 hrg hnx HC hV bV b1
  go_enter Tryz.func83, Tryz.ntmps83
  go_upto_region 1 with fail
  rw [HhV.out]
  go_wp2_with (first | (at_range; refine wp_range _ rfl _ _ rfl rfl HRg.out ?_) | fail)
  go_frame
  refine wp_loop_rounds 2 ?_
  rw [rounds_succ]
  go_upto_region 4 with (first | (at_next; refine wp_next _ rfl _ rfl rfl (HNx.out _) ?_) | fail)
  obtain ⟨W2, hW2⟩ : ∃ W2, W1.alloc (.cells #[.int .i64 0, .string kb] 104) = W2 := ⟨_, rfl⟩
  rw [hW2]
  have b2 : Below W1.heap.size W1 W2 := by rw [← hW2]; exact (Below.refl _ _).alloc (Nat.le_refl _) _
  have p2 : W2.heap[W1.heap.size]? = some (.cells #[.int .i64 0, .string kb] 104 (0, 0)) := by rw [← hW2, heap_alloc_new]
  have k0 : W2.cell? ⟨W1.heap.size, 0, none⟩ = some (.int .i64 0) := by simp [World.cell?, p2]
  have k1 : W2.cell? ⟨W1.heap.size, 1, none⟩ = some (.string kb) := by simp [World.cell?, p2]
  clear hW2 p2
  obtain ⟨vb, W3, hcv, b3, HF⟩ := HC0.out W2 b2
  obtain ⟨bV, b1⟩ := HB1.out
  have bV3 := Lib.hid ((b1.trans (b2.mono b1.size)).trans (b3.mono (Nat.le_trans b1.size b2.size)))
  clear HC0 b2 b3 HNx HRg b1 bV
  go_wp2_with fail
  refine HF.out.mono ?_
  rintro e w4 ⟨rfl, b4, hnx4, c12, c1, HCo⟩
  clear HF k0 k1 hcv
  have bV4 := Lib.hid (bV3.out.trans (b4.mono bV3.out.size))
  have HNx := Lib.hid hnx4
  have v4 : w4.heap[N]? = some (.cells #[.int .i64 0, .int .i64 0, .slice none 0 0, .slice none 0 0] 67 (0, 0)) := (bV4.out.block N (by have := HsV.out; omega)).trans HvN.out
  have u0 : w4.cell? ⟨N, 0, none⟩ = some (.int .i64 0) := by simp [World.cell?, v4]
  have HC1 := Lib.hid c1
  clear bV3 b4 hnx4 v4 c1
  go_wp2_with fail
  rw [rounds_succ]
  go_upto_region 13 with (first | (at_next; refine wp_next _ rfl _ rfl rfl (HNx.out _) ?_) | fail)
  go_region_held3 (fun W => W.cell? ⟨s, 1, none⟩ = some (.int .i64 (q : Int))) (first | assumption | exact HC1.out 0 | exact HC1.out _ | exact x2 0 | exact x2 _) (first | (go_at_call 17; refine Calls.mono (HCo.out _ ?_) ?_; (first | exact ⟨0, rfl⟩ | exact ⟨_, rfl⟩); rintro e w6 ⟨rfl, b6, x2, HSe⟩))
  all_goals (
    have HS7 := Lib.hid (HSe.out _ ⟨0, rfl⟩)
    have hgt : decide ((q : Int) < (co : Int)) = false := decide_eq_false (by omega)
    have v6 := (b6.block N (by have := bV4.out.size; have := HsV.out; show N < w4.heap.size; omega)).trans ((bV4.out.block N (by have := HsV.out; omega)).trans HvN.out)
    have m6 := (b6.block (N + 1) (by have := bV4.out.size; have := HsV.out; show N + 1 < w4.heap.size; omega)).trans ((bV4.out.block (N + 1) (by have := HsV.out; omega)).trans HvM.out)
    have H6 := Lib.hid (And.intro v6 m6)
    clear v6 m6 HSe b6 HCo x2 u0 c12 HNx HC1
    go_wp2_with fail
    refine HS7.out.mono ?_
    rintro e w8 ⟨rfl, hk8, hR⟩
    have v8 := (hk8 N (by have := HhN.out; omega) (by have := HsV.out; omega)).trans H6.out.1
    have m8 := (hk8 (N + 1) (by have := HhN.out; omega) (by have := HsV.out; omega)).trans H6.out.2
    have HR8 := Lib.hid hR
    have H8 := Lib.hid m8
    have a0 : w8.cell? ⟨N, 0, none⟩ = some (.int .i64 0) := by simp [World.cell?, v8]
    have a1 : w8.cell? ⟨N, 1, none⟩ = some (.int .i64 0) := by simp [World.cell?, v8]
    have a2 : w8.cell? ⟨N, 2, none⟩ = some (.slice none 0 0) := by simp [World.cell?, v8]
    have a3 : w8.cell? ⟨N, 3, none⟩ = some (.slice none 0 0) := by simp [World.cell?, v8]
    have m0 : w8.cell? ⟨N + 1, 0, none⟩ = some (.int .i64 0) := by simp [World.cell?, m8]
    have m1 : w8.cell? ⟨N + 1, 1, none⟩ = some (.int .i64 0) := by simp [World.cell?, m8]
    have m2 : w8.cell? ⟨N + 1, 2, none⟩ = some (.slice none 0 0) := by simp [World.cell?, m8]
    have m3 : w8.cell? ⟨N + 1, 3, none⟩ = some (.slice none 0 0) := by simp [World.cell?, m8]
    have mf : ∀ i, w8.frozen? ⟨N + 1, i, none⟩ = false := fun i => by simp [World.frozen?, m8]
    clear HS7 H6 v8 m8 hR hk8 hgt
    go_wp2_with fail
    have z0 := H8.out
    have z1 := heap_setCell_same _ (N + 1) 0 _ _ (.int .i64 0) z0
    have z2 := heap_setCell_same _ (N + 1) 1 _ _ (.int .i64 0) z1
    have z3 := heap_setCell_same _ (N + 1) 2 _ _ (.slice none 0 0) z2
    have z4 := heap_setCell_same _ (N + 1) 3 _ _ (.slice none 0 0) z3
    refine bodyPost_ret (results_cell_tmp rfl _ _ (N + 1) _ _ _ _ rfl z4 Tryz.underlying67 rfl (by kernel_rfl)) rfl ?_
    have hfr : Fr (fun b => b = N + 1) w8 ((((w8.setCell ⟨N + 1, 0, none⟩ (.int .i64 0)).setCell ⟨N + 1, 1, none⟩ (.int .i64 0)).setCell ⟨N + 1, 2, none⟩ (.slice none 0 0)).setCell ⟨N + 1, 3, none⟩ (.slice none 0 0)) :=
      ((((Fr.refl (fun b => b = N + 1) w8).setCell (p := ⟨N + 1, 0, none⟩) (.inl rfl) (.int .i64 0)).setCell (p := ⟨N + 1, 1, none⟩) (.inl rfl) (.int .i64 0)).setCell (p := ⟨N + 1, 2, none⟩) (.inl rfl) (.slice none 0 0)).setCell (p := ⟨N + 1, 3, none⟩) (.inl rfl) (.slice none 0 0)
    exact ⟨rfl, w8, HR8.out, hfr.mono (fun b _ hb => by have := HhN.out; omega)⟩)
end Go.Proofs.YtglglknhifjbaaaGreatDoor.Sp
namespace Go.Proofs.YtglglknhifjbaaaGreatDoor.Sp
open Go.RowKit Go.Proofs.YtglglknhifjbaaaGreatDoorW.PrintWords Go.Proofs.YtglglknhifjbaaaGreatDoorW.PrintLast Go.Proofs.YtglglknhifjbaaaGreatDoorW.PrintMore
open Go.ChangeMaps (setBlock)
set_option linter.unusedVariables false
set_option linter.unusedSimpArgs false
set_option maxHeartbeats 1000000 in
set_option maxRecDepth 100000 in
theorem run1_raw {w : World} {s sb rb eb : Nat} (R : World → Prop) (hs : w.cell? ⟨sb, 0, none⟩ = some (.pointer (some ⟨s, 0, none⟩))) (hr : w.heap[rb]? = some (.cells #[.int .i64 0, .int .i64 0, .slice none 0 0, .slice none 0 0] 67 (0, 0))) (he : w.heap[eb]? = some (.cells #[.int .i64 0] 26 (0, 0))) (hre : rb ≠ eb)
    (HE : ∀ W, Below w.heap.size w W → Calls Tryz.prog 83 #[.pointer (some ⟨s, 0, none⟩), .agg #[.int .i64 0, .int .i64 0, .slice none 0 0, .slice none 0 0]] W fun e w' => e = .returned (.tuple #[.agg #[.int .i64 0, .int .i64 0, .slice none 0 0, .slice none 0 0], .int .i64 0]) ∧ w'.heap[rb]? = W.heap[rb]? ∧ w'.heap[eb]? = W.heap[eb]? ∧ R w') :
    CallsD Tryz.prog 80 #[.pointer (some ⟨sb, 0, none⟩), .pointer (some ⟨rb, 0, none⟩), .pointer (some ⟨eb, 0, none⟩)] .returning w fun e u' w' => e = .returned (.tuple #[]) ∧ u' = .returning ∧ ∃ w8, R w8 ∧ Fr (fun b => b = rb ∨ b = eb) w8 w' ∧ w'.heap[rb]? = some (.cells #[.int .i64 0, .int .i64 0, .slice none 0 0, .slice none 0 0] 67 (0, 0)) ∧ w'.heap[eb]? = some (.cells #[.int .i64 0] 26 (0, 0)) := by
  refine callsD_of_wpS Tryz.func80 rfl fun c₀ cs hu => ?_
  apply wpS_seq
  apply wpS_region
  simp [wpOpsS, go_sem, recoverD, hu, Tryz.ntmps80, Exit.thenS]
  rw [show (#[Value.pointer (some ⟨sb, 0, none⟩), Value.pointer (some ⟨rb, 0, none⟩), Value.pointer (some ⟨eb, 0, none⟩)] ++ ((Array.replicate 28 undef).setIfInBounds 3 Value.nilIface).setIfInBounds 0 Value.nilIface : Array Value) = #[.pointer (some ⟨sb, 0, none⟩), .pointer (some ⟨rb, 0, none⟩), .pointer (some ⟨eb, 0, none⟩), .nilIface, undef, undef, .nilIface, undef, undef, undef, undef, undef, undef, undef, undef, undef, undef, undef, undef, undef, undef, undef, undef, undef, undef, undef, undef, undef, undef, undef, undef] by kernel_rfl]
  refine wpS_of_wp ?_
  have hta : ∀ W : World, (Instr.typeAssert .nilIface 20 152 true).run Tryz.prog W = .ok (.tuple #[.agg #[.pointer none], .bool false]) W := fun W => by kernel_rfl
  have hrl := blk_lt hr
  have hel := blk_lt he
  have r0 : w.cell? ⟨rb, 0, none⟩ = some (.int .i64 0) := by simp [World.cell?, hr]
  have r1 : w.cell? ⟨rb, 1, none⟩ = some (.int .i64 0) := by simp [World.cell?, hr]
  have r2 : w.cell? ⟨rb, 2, none⟩ = some (.slice none 0 0) := by simp [World.cell?, hr]
  have r3 : w.cell? ⟨rb, 3, none⟩ = some (.slice none 0 0) := by simp [World.cell?, hr]
  have HE0 := Lib.hid HE
  clear HE
  have hls : sb < w.heap.size := by
    unfold World.cell? at hs
    cases hq : w.heap[sb]? with
    | none => rw [hq] at hs; simp at hs
    | some o => exact blk_lt hq
  go_wp2_with fail
  refine (HE0.out _ ((Below.refl _ _).alloc (Nat.le_refl _) _)).mono ?_
  rintro e w8 ⟨rfl, kr, ke, hR⟩
  have r8 := kr.trans ((heap_alloc_old w _ hrl).trans hr)
  have e8 := ke.trans ((heap_alloc_old w _ hel).trans he)
  have HR8 := Lib.hid (And.intro hR (And.intro r8 e8))
  have m0 : w8.cell? ⟨rb, 0, none⟩ = some (.int .i64 0) := by simp [World.cell?, r8]
  have m1 : w8.cell? ⟨rb, 1, none⟩ = some (.int .i64 0) := by simp [World.cell?, r8]
  have m2 : w8.cell? ⟨rb, 2, none⟩ = some (.slice none 0 0) := by simp [World.cell?, r8]
  have m3 : w8.cell? ⟨rb, 3, none⟩ = some (.slice none 0 0) := by simp [World.cell?, r8]
  have mf : ∀ i, w8.frozen? ⟨rb, i, none⟩ = false := fun i => by simp [World.frozen?, r8]
  have n0 : w8.cell? ⟨eb, 0, none⟩ = some (.int .i64 0) := by simp [World.cell?, e8]
  have nf : w8.frozen? ⟨eb, 0, none⟩ = false := by simp [World.frozen?, e8]
  have hne : eb ≠ rb := fun q => hre q.symm
  clear HE0 kr ke hR r8 e8 hr he r0 r1 r2 r3 hs
  go_wp2_with fail
  obtain ⟨hR, z0, ze⟩ := HR8.out
  have z1 := heap_setCell_same _ rb 0 _ _ (.int .i64 0) z0
  have z2 := heap_setCell_same _ rb 1 _ _ (.int .i64 0) z1
  have z3 := heap_setCell_same _ rb 2 _ _ (.slice none 0 0) z2
  have z4 := heap_setCell_same _ rb 3 _ _ (.slice none 0 0) z3
  have hfr : Fr (fun b => b = rb ∨ b = eb) w8 (((((w8.setCell ⟨rb, 0, none⟩ (.int .i64 0)).setCell ⟨rb, 1, none⟩ (.int .i64 0)).setCell ⟨rb, 2, none⟩ (.slice none 0 0)).setCell ⟨rb, 3, none⟩ (.slice none 0 0)).setCell ⟨eb, 0, none⟩ (.int .i64 0)) :=
    (((((Fr.refl (fun b => b = rb ∨ b = eb) w8).setCell (p := ⟨rb, 0, none⟩) (.inl (.inl rfl)) (.int .i64 0)).setCell (p := ⟨rb, 1, none⟩) (.inl (.inl rfl)) (.int .i64 0)).setCell (p := ⟨rb, 2, none⟩) (.inl (.inl rfl)) (.slice none 0 0)).setCell (p := ⟨rb, 3, none⟩) (.inl (.inl rfl)) (.slice none 0 0)).setCell (p := ⟨eb, 0, none⟩) (.inl (.inr rfl)) (.int .i64 0)
  have y1 : ((((w8.setCell ⟨rb, 0, none⟩ (.int .i64 0)).setCell ⟨rb, 1, none⟩ (.int .i64 0)).setCell ⟨rb, 2, none⟩ (.slice none 0 0)).setCell ⟨rb, 3, none⟩ (.slice none 0 0)).heap[eb]? = some (.cells #[.int .i64 0] 26 (0, 0)) := by
    rw [heap_setCell_other _ _ _ _ (fun q => hne q), heap_setCell_other _ _ _ _ (fun q => hne q), heap_setCell_other _ _ _ _ (fun q => hne q), heap_setCell_other _ _ _ _ (fun q => hne q)]
    exact ze
  have y2 := heap_setCell_same _ eb 0 _ _ (.int .i64 0) y1
  have y3 : (((((w8.setCell ⟨rb, 0, none⟩ (.int .i64 0)).setCell ⟨rb, 1, none⟩ (.int .i64 0)).setCell ⟨rb, 2, none⟩ (.slice none 0 0)).setCell ⟨rb, 3, none⟩ (.slice none 0 0)).setCell ⟨eb, 0, none⟩ (.int .i64 0)).heap[rb]? = some (.cells #[.int .i64 0, .int .i64 0, .slice none 0 0, .slice none 0 0] 67 (0, 0)) := by
    rw [heap_setCell_other _ _ _ _ (fun q => hre q)]
    exact z4
  exact ⟨rfl, .returning, by cases c₀; simp_all, _, results_none rfl _ _ _, rfl, rfl, w8, hR, hfr, y3, y2⟩
end Go.Proofs.YtglglknhifjbaaaGreatDoor.Sp
