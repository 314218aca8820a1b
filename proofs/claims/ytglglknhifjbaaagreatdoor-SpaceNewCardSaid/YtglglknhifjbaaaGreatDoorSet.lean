import Derived.Test.YtglglknhifjbaaaGreatDoorMap
import Derived.Test.YtglglknhifjbaaaGreatDoorRn1
import Derived.RegionTactic
import Derived.ChangeAlike
import Derived.Deep.AppendLies
import Derived.Deep.RegionLaw
namespace Go.Proofs.YtglglknhifjbaaaGreatDoor.Sp
open Go.RowKit Go.Proofs.YtglglknhifjbaaaGreatDoorW.PrintWords Go.Proofs.YtglglknhifjbaaaGreatDoorW.PrintLast Go.Proofs.YtglglknhifjbaaaGreatDoorW.PrintMore
set_option linter.unusedVariables false
set_option linter.unusedSimpArgs false
set_option maxHeartbeats 1000000 in
theorem insert_one (w : World) (v f : Value) : Calls Tryz.prog 206 #[v, .int .i64 0, .int .i64 1, f] w fun e w' => e = .returned (.tuple #[]) ∧ w = w' := by
  go_enter Tryz.func206, Tryz.ntmps206
  go_wp2_with fail
  refine wp_loop_rounds 1 ?_
  rw [rounds_succ]
  go_wp2_with fail
  go_end0
  exact ⟨rfl, rfl⟩
set_option maxHeartbeats 1000000 in
theorem pdq_one (w : World) (v f : Value) (lim : Int) : Calls Tryz.prog 179 #[v, .int .i64 0, .int .i64 1, .int .i64 lim, f] w fun e w' => e = .returned (.tuple #[]) ∧ w = w' := by
  have HI := Lib.hid (insert_one w v f)
  go_enter Tryz.func179, Tryz.ntmps179
  go_wp2_with fail
  refine wp_loop_rounds 1 ?_
  rw [rounds_succ]
  go_wp2_with fail
  refine HI.out.mono ?_
  rintro e w' ⟨rfl, rfl⟩
  go_wp2_with fail
  refine bodyPost_ret (results_none rfl _ _ _) rfl ?_
  exact ⟨rfl, rfl⟩
set_option maxHeartbeats 1000000 in
set_option maxRecDepth 100000 in
theorem len64_one (w : World) : Calls Tryz.prog 215 #[.int .u64 1] w fun e w' => (∃ v, e = .returned (.int .i64 v)) ∧ w = w' := by
  go_enter Tryz.func215, Tryz.ntmps215
  go_wp2_with fail
  go_ret
  exact ⟨⟨_, rfl⟩, rfl⟩
theorem len_one (w : World) : Calls Tryz.prog 180 #[.int .u64 1] w fun e w' => (∃ v, e = .returned (.int .i64 v)) ∧ w = w' := by
  have HL := Lib.hid (len64_one w)
  go_enter Tryz.func180, Tryz.ntmps180
  go_wp2_with fail
  refine HL.out.mono ?_
  rintro e w' ⟨⟨v, rfl⟩, rfl⟩
  go_wp2_with fail
  go_ret
  exact ⟨⟨_, rfl⟩, rfl⟩
set_option maxHeartbeats 1000000 in
theorem sort_one (w : World) (A : Option Addr) (c : Nat) (f : Value) : Calls Tryz.prog 126 #[.slice A 1 c, f] w fun e w' => e = .returned (.tuple #[]) ∧ w = w' := by
  have HI := Lib.hid fun lim => pdq_one w (.slice A 1 c) f lim
  have HL := Lib.hid (len_one w)
  go_enter Tryz.func126, Tryz.ntmps126
  go_wp2_with fail
  refine HL.out.mono ?_
  rintro e w' ⟨⟨v, rfl⟩, rfl⟩
  go_wp2_with fail
  refine (HI.out _).mono ?_
  rintro e w' ⟨rfl, rfl⟩
  go_wp2_with fail
  go_end0
  exact ⟨rfl, rfl⟩
end Go.Proofs.YtglglknhifjbaaaGreatDoor.Sp
namespace Go.Proofs.YtglglknhifjbaaaGreatDoor.Sp
open Go.RowKit Go.Proofs.YtglglknhifjbaaaGreatDoorW.PrintWords Go.Proofs.YtglglknhifjbaaaGreatDoorW.PrintLast Go.Proofs.YtglglknhifjbaaaGreatDoorW.PrintMore
open Go.ChangeMaps (setBlock)
set_option linter.unusedVariables false
set_option linter.unusedSimpArgs false
theorem setBlock_get (w : World) (b n : Nat) (o : Obj) (hb : b < w.heap.size) : (setBlock w b o).heap[n]? = if n = b then some o else w.heap[n]? := by
  show (w.heap.setIfInBounds b o)[n]? = _
  rw [Array.getElem?_setIfInBounds]
  by_cases h : b = n
  · subst h; simp [hb]
  · rw [if_neg h, if_neg (fun e => h e.symm)]
theorem setBlock_size (w : World) (b : Nat) (o : Obj) : (setBlock w b o).heap.size = w.heap.size := by
  show (w.heap.setIfInBounds b o).size = _
  simp
theorem below_setBlock {B : Nat} {w w1 : World} (h : Below B w w1) {g : Nat} (hg : B ≤ g) (o : Obj) : Below B w (setBlock w1 g o) :=
  ⟨h.os, h.tape, h.output, by rw [setBlock_size]; exact h.size, fun k hk => by
    show (w1.heap.setIfInBounds g o)[k]? = _
    rw [Array.getElem?_setIfInBounds_ne (by omega)]
    exact h.block k hk⟩
theorem setCell_get (w : World) (s i : Nat) (v : Value) {cs : Array Value} {T : TypeId} (h : w.heap[s]? = some (.cells cs T (0, 0))) : (w.setCell ⟨s, i, none⟩ v).heap[s]? = some (.cells (cs.setIfInBounds i v) T (0, 0)) := by
  show (w.heap.modify s _)[s]? = _
  rw [Array.getElem?_modify, if_pos rfl, h]
  rfl
theorem settle_fin {w10 A9 : World} {s mb ck : Nat} {cs : Array Value} {T : TypeId} {v : Value} {es : Array MapEntry} (h1 : A9.os = w10.os) (h2 : A9.tape = w10.tape) (h3 : A9.output = w10.output) (hz : w10.heap.size ≤ A9.heap.size) (hk : ∀ k, k < w10.heap.size → A9.heap[k]? = w10.heap[k]?)
    (hs : w10.heap[s]? = some (.cells cs T (0, 0))) (hm : w10.heap[mb]? = some (.map es ck)) :
    Fr (fun b => b = s ∨ b = mb) w10 (((setBlock (A9.setCell ⟨s, 15, none⟩ v) mb (.map #[] ck)).setCell ⟨s, 14, none⟩ (.slice none 0 0)).setCell ⟨s, 11, none⟩ (.bool false)) ∧
      (((setBlock (A9.setCell ⟨s, 15, none⟩ v) mb (.map #[] ck)).setCell ⟨s, 14, none⟩ (.slice none 0 0)).setCell ⟨s, 11, none⟩ (.bool false)).heap[mb]? = some (.map #[] ck) ∧
      (((setBlock (A9.setCell ⟨s, 15, none⟩ v) mb (.map #[] ck)).setCell ⟨s, 14, none⟩ (.slice none 0 0)).setCell ⟨s, 11, none⟩ (.bool false)).heap[s]? = some (.cells (((cs.setIfInBounds 15 v).setIfInBounds 14 (.slice none 0 0)).setIfInBounds 11 (.bool false)) T (0, 0)) := by
  have hne : s ≠ mb := fun e => by rw [e, hm] at hs; cases hs
  have hsl := blk_lt hs
  have hml := blk_lt hm
  have f0 : Fr (fun b => b = s ∨ b = mb) w10 A9 := ⟨h1, h2, h3, hz, fun k hk' _ => hk k hk'⟩
  have f1 := f0.setCell (p := ⟨s, 15, none⟩) (.inl (.inl rfl)) v
  have z1 : (A9.setCell ⟨s, 15, none⟩ v).heap.size = A9.heap.size := by
    show (A9.heap.modify s _).size = _
    simp
  have f2 : Fr (fun b => b = s ∨ b = mb) w10 (setBlock (A9.setCell ⟨s, 15, none⟩ v) mb (.map #[] ck)) := ⟨f1.os, f1.tape, f1.output, by rw [setBlock_size]; exact f1.size, fun k hk' hn => by
    rw [setBlock_get _ _ _ _ (by rw [z1]; omega), if_neg (fun e => hn (.inr e))]
    exact f1.block k hk' hn⟩
  have f3 := f2.setCell (p := ⟨s, 14, none⟩) (.inl (.inl rfl)) (.slice none 0 0)
  have f4 := f3.setCell (p := ⟨s, 11, none⟩) (.inl (.inl rfl)) (.bool false)
  refine ⟨f4, ?_, ?_⟩
  · rw [heap_setCell_other _ _ _ _ (fun e => hne e.symm), heap_setCell_other _ _ _ _ (fun e => hne e.symm), setBlock_get _ _ _ _ (by rw [z1]; omega), if_pos rfl]
  · refine setCell_get _ _ _ _ (setCell_get _ _ _ _ ?_)
    rw [setBlock_get _ _ _ _ (by rw [z1]; omega), if_neg hne]
    exact setCell_get _ _ _ _ ((hk s hsl).trans hs)
theorem info_place : (Tryz.prog.info? 104).map (fun i => (i.zero, i.size, i.bytes)) = some (some (.agg #[.int .i64 0, .string ⟨#[]⟩]), 2, 24) := by kernel_rfl
set_option maxHeartbeats 4000000 in
set_option maxRecDepth 100000 in
theorem settle_raw {w W0 W1 : World} {kb : ByteArray} {s r mb tt co pl cc n m : Nat} (Fin : World → Prop) (P : World → Prop) (hsl : s < W1.heap.size)
    (h13 : w.cell? ⟨s, 13, none⟩ = some (.map (some mb))) (hle : tt + co ≤ 1048576) (hn : n ≤ 4096)
    (hrg : (Instr.range 82 (.map (some mb))).run Tryz.prog w = .ok (.pointer (some ⟨r, 0, none⟩)) W0)
    (hnx : ∀ ty, (Instr.next (.pointer (some ⟨r, 0, none⟩)) false ty).run Tryz.prog W0 = .ok (.tuple #[.bool true, .agg #[.int .i64 0, .string kb], .agg #[.int .i64 0, .slice none 0 0, .slice none 0 0, .slice none 0 0, .slice none 0 0, .int .u64 0, .int .i64 0]]) W1)
    (hen : (Instr.entry (.pointer (some ⟨r, 0, none⟩))).run Tryz.prog W1 = .ok (.tuple #[.agg #[.int .i64 0, .string kb], .agg #[.int .i64 0, .slice none 0 0, .slice none 0 0, .slice none 0 0, .slice none 0 0, .int .u64 0, .int .i64 0]]) W1)
    (HE : ∀ W2, Below W1.heap.size W1 W2 → ∃ g3 c3 W3, (convert 9 53 (.string kb)).run Tryz.prog W2 = .ok (.slice (some ⟨g3, 0, none⟩) n c3) W3 ∧ Below W2.heap.size W2 W3 ∧
      Hid (Calls Tryz.prog 54 #[.pointer (some ⟨s, 0, none⟩), .int .i64 0, .slice (some ⟨g3, 0, none⟩) n c3] W3 fun e w4 => e = .returned (.tuple #[.int .i64 1, .int .u64 (pl : Int), .int .u64 0, .int .i64 (cc : Int)]) ∧ Below W3.heap.size W3 w4 ∧
        Hid (Calls Tryz.prog 64 #[.pointer (some ⟨s, 0, none⟩), .int .i64 1, .int .u64 (pl : Int)] w4 fun e w5 => ∃ g, e = .returned (.agg #[.int .i64 1, .slice (some ⟨g, 0, none⟩) m m, .slice none 0 0, .slice none 0 0, .slice none 0 0]) ∧ Below w4.heap.size w4 w5 ∧
          Hid (∀ W6, Below w5.heap.size w5 W6 → Calls Tryz.prog 93 #[.int .i64 (n : Int), .agg #[.int .i64 1, .slice (some ⟨g, 0, none⟩) m m, .slice none 0 0, .slice none 0 0, .slice none 0 0]] W6 fun e w7 => e = .returned (.int .i64 (co : Int)) ∧ Below W6.heap.size W6 w7 ∧
            Hid (Calls Tryz.prog 91 #[.pointer (some ⟨s, 0, none⟩), .int .i64 0, .slice (some ⟨g3, 0, none⟩) n c3, .int .i64 1, .int .u64 (pl : Int), .int .u64 0, .int .i64 (co : Int)] w7 fun e w8 => e = .returned (.int .i64 0) ∧ (∀ b, W1.heap.size ≤ b → b < w7.heap.size → w8.heap[b]? = w7.heap[b]?) ∧
              w8.cell? ⟨s, 9, none⟩ = some (.int .i64 (tt : Int)) ∧ w8.frozen? ⟨s, 9, none⟩ = false ∧ w7.heap.size ≤ w8.heap.size ∧
              Hid (∀ W9, (∃ k, W9 = (w8.setCell ⟨s, 9, none⟩ (.int .i64 ((tt + co : Nat) : Int))).drewN k) → Calls Tryz.prog 125 #[.agg #[.int .i64 1, .slice (some ⟨g, 0, none⟩) m m, .slice none 0 0, .slice none 0 0, .slice none 0 0], .agg #[.int .i64 0, .slice none 0 0, .slice none 0 0, .slice none 0 0, .slice none 0 0]] W9 fun e w10 => e = .returned (.bool false) ∧
                w10.cell? ⟨s, 13, none⟩ = some (.map (some mb)) ∧ w10.cell? ⟨s, 14, none⟩ = some (.slice none 0 0) ∧ w10.cell? ⟨s, 15, none⟩ = some (.slice none 0 0) ∧
                Hid ((∀ ty, (Instr.next (.pointer (some ⟨r, 0, none⟩)) false ty).run Tryz.prog w10 = .ok (.tuple #[.bool false]) w10) ∧ P w10)))))))
    (HP : ∀ w10, P w10 → ∃ ck b cs, w10.heap[mb]? = some (.map #[⟨.agg #[.int .i64 0, .string kb], .agg #[.int .i64 0, .slice none 0 0, .slice none 0 0, .slice none 0 0, .slice none 0 0, .int .u64 0, .int .i64 0], b⟩] ck) ∧ b < ck ∧ w10.heap[s]? = some (.cells cs 86 (0, 0)) ∧ cs.size = 16 ∧
      ∀ w' v, Fr (fun b => b = s ∨ b = mb) w10 w' → w'.heap[mb]? = some (.map #[] ck) → w'.heap[s]? = some (.cells (((cs.setIfInBounds 15 v).setIfInBounds 14 (.slice none 0 0)).setIfInBounds 11 (.bool false)) 86 (0, 0)) → Fin w') :
    Calls Tryz.prog 82 #[.pointer (some ⟨s, 0, none⟩)] w fun e w' => e = .returned (.tuple #[]) ∧ Fin w' := by
  have m1 : IntKind.i64.wrap (co : Int) = (co : Int) := Go.IntWalk.i64_in _ (by omega)
  have m2 : IntKind.i64.wrap ((tt : Int) + (co : Int)) = ((tt + co : Nat) : Int) := by
    rw [show (tt : Int) + (co : Int) = ((tt + co : Nat) : Int) by omega]
    exact Go.IntWalk.i64_in _ (by omega)
  have HRg := Lib.hid hrg
  have HNx := Lib.hid hnx
  have HE0 := Lib.hid HE
  have HP0 := Lib.hid HP
  have HSL := Lib.hid hsl
  clear hrg hnx HE HP hle hsl
  go_enter Tryz.func82, Tryz.ntmps82
  go_wp2_with (first | (at_range; refine wp_range _ rfl _ _ rfl rfl HRg.out ?_) | fail)
  go_frame
  refine wp_loop_rounds 2 ?_
  rw [rounds_succ]
  go_upto_region 3 with (first | (at_next; refine wp_next _ rfl _ rfl rfl (HNx.out _) ?_) | fail)
  obtain ⟨W2, hW2⟩ : ∃ W2, (W1.alloc (.cells #[.int .i64 0, .string kb] 104)).alloc (.cells #[.int .i64 0, .slice none 0 0, .slice none 0 0, .slice none 0 0, .slice none 0 0, .int .u64 0, .int .i64 0] 106) = W2 := ⟨_, rfl⟩
  rw [hW2]
  have b2 : Below W1.heap.size W1 W2 := by rw [← hW2]; exact ((Below.refl W1.heap.size W1).alloc (Nat.le_refl _) _).alloc (by simp) _
  have p2 : W2.heap[W1.heap.size]? = some (.cells #[.int .i64 0, .string kb] 104 (0, 0)) := by rw [← hW2, heap_alloc_old _ _ (by simp), heap_alloc_new]
  have q2 : W2.heap[W1.heap.size + 1]? = some (.cells #[.int .i64 0, .slice none 0 0, .slice none 0 0, .slice none 0 0, .slice none 0 0, .int .u64 0, .int .i64 0] 106 (0, 0)) := by
    have := heap_alloc_new (W1.alloc (.cells #[.int .i64 0, .string kb] 104)) (.cells #[.int .i64 0, .slice none 0 0, .slice none 0 0, .slice none 0 0, .slice none 0 0, .int .u64 0, .int .i64 0] 106)
    rw [hW2] at this
    simpa using this
  have z2 : W2.heap.size = W1.heap.size + 2 := by rw [← hW2]; simp
  clear hW2
  obtain ⟨g3, c3, W3, hcv, b3, HEn⟩ := HE0.out W2 b2
  have z3 : W1.heap.size + 2 ≤ W3.heap.size := by have := b3.size; omega
  have p3 := (b3.block _ (by omega)).trans p2
  have q3 := (b3.block _ (by omega)).trans q2
  have k1 : W3.cell? ⟨W1.heap.size, 0, none⟩ = some (.int .i64 0) := by simp [World.cell?, p3]
  have l1 : W2.cell? ⟨W1.heap.size, 1, none⟩ = some (.string kb) := by simp [World.cell?, p2]
  have HH := Lib.hid (And.intro p3 (And.intro q3 z3))
  clear p2 q2 z2 p3 q3 z3 b2 b3 HE0 HNx HRg
  go_wp2_with fail
  refine HEn.out.mono ?_
  rintro e w4 ⟨rfl, b4, HRd⟩
  clear HEn hcv k1 l1
  obtain ⟨p3, q3, z3⟩ := HH.out
  have z4 : W1.heap.size + 2 ≤ w4.heap.size := by have := b4.size; omega
  have p4 := (b4.block _ (by omega)).trans p3
  have q4 := (b4.block _ (by omega)).trans q3
  have HH4 := Lib.hid (And.intro p4 (And.intro q4 z4))
  clear p3 q3 z3 p4 q4 z4 b4 HH
  go_wp2_with fail
  refine HRd.out.mono ?_
  rintro e w5 ⟨g, rfl, b5, HWt⟩
  obtain ⟨p4, q4, z4⟩ := HH4.out
  obtain ⟨W6, hW6⟩ : ∃ W6, w5.alloc (.cells #[.int .i64 1, .slice (some ⟨g, 0, none⟩) m m, .slice none 0 0, .slice none 0 0, .slice none 0 0] 58) = W6 := ⟨_, rfl⟩
  have b6 : Below w5.heap.size w5 W6 := by rw [← hW6]; exact (Below.refl _ _).alloc (Nat.le_refl _) _
  have v6 : W6.heap[w5.heap.size]? = some (.cells #[.int .i64 1, .slice (some ⟨g, 0, none⟩) m m, .slice none 0 0, .slice none 0 0, .slice none 0 0] 58 (0, 0)) := by rw [← hW6, heap_alloc_new]
  have z5 := b5.size
  have z6 := b6.size
  have v6' : w5.heap.size < W6.heap.size := by rw [← hW6]; simp
  have p6 := (b6.block _ (by omega)).trans ((b5.block _ (by omega)).trans p4)
  have q6 := (b6.block _ (by omega)).trans ((b5.block _ (by omega)).trans q4)
  have HW := Lib.hid (HWt.out W6 b6)
  rw [← hW6] at HW
  have HH6 := Lib.hid (And.intro p6 (And.intro q6 (And.intro v6 (And.intro (show W1.heap.size + 2 ≤ w5.heap.size by omega) v6'))))
  obtain ⟨vb, hvb⟩ : ∃ vb, w5.heap.size = vb := ⟨_, rfl⟩
  have HNE : Hid (s ≠ W1.heap.size ∧ s ≠ W1.heap.size + 1 ∧ s ≠ vb) := Lib.hid ⟨by have := HSL.out; omega, by have := HSL.out; omega, by have := HSL.out; omega⟩
  have hW6' := Lib.hid hW6
  clear p4 q4 z4 p6 q6 z5 z6 b5 b6 v6 v6' HH4 HRd HWt hW6
  go_wp2_with fail
  refine HW.out.mono ?_
  rintro e w7 ⟨rfl, b7, HPt⟩
  clear HW
  obtain ⟨p6, q6, v6, z5, z6⟩ := HH6.out
  rw [hvb] at v6 z5 z6
  have b7' : Below W6.heap.size W6 w7 := by
    have := b7
    rw [hW6'.out] at this
    exact this
  have p7 := (b7'.block _ (by omega)).trans p6
  have q7 := (b7'.block _ (by omega)).trans q6
  have v7 := (b7'.block _ (by omega)).trans v6
  have z7 : vb < w7.heap.size := by have := b7'.size; omega
  have k7 : w7.cell? ⟨W1.heap.size, 0, none⟩ = some (.int .i64 0) := by simp [World.cell?, p7]
  have HH7 := Lib.hid (And.intro p7 (And.intro q7 (And.intro v7 (And.intro z5 z7))))
  clear p6 q6 v6 z5 z6 p7 q7 v7 z7 b7 b7' HH6 hW6'
  go_wp2_with fail
  refine HPt.out.mono ?_
  rintro e w8 ⟨rfl, hk8, c9, f9, z8, HS⟩
  clear HPt k7
  obtain ⟨p7, q7, v7, z5, z7⟩ := HH7.out
  have p8 := (hk8 _ (Nat.le_refl _) (by omega)).trans p7
  have q8 := (hk8 (W1.heap.size + 1) (by omega) (by omega)).trans q7
  have v8 := (hk8 vb (by omega) z7).trans v7
  have k6 : w8.cell? ⟨W1.heap.size + 1, 6, none⟩ = some (.int .i64 0) := by simp [World.cell?, q8]
  have HH8 := Lib.hid (And.intro p8 (And.intro q8 (And.intro v8 (And.intro z5 (Nat.lt_of_lt_of_le z7 z8)))))
  clear p7 q7 v7 z5 z7 p8 q8 v8 HH7 hk8 z8
  go_upto_region 12 with fail
  go_region
  all_goals (
    obtain ⟨p8, q8, v8, z5, z8⟩ := HH8.out
    obtain ⟨W9, hW9⟩ : ∃ W9, (w8.setCell ⟨s, 9, none⟩ (.int .i64 ((tt : Int) + (co : Int)))).drew = W9 := ⟨_, rfl⟩
    rw [hW9]
    have hW9' : W9 = (w8.setCell ⟨s, 9, none⟩ (.int .i64 ((tt + co : Nat) : Int))).drewN 1 := by rw [← hW9, show (tt : Int) + (co : Int) = ((tt + co : Nat) : Int) by omega]; rfl
    have hs8 : s < w8.heap.size := by
      unfold World.cell? at c9
      cases hq : w8.heap[s]? with
      | none => rw [hq] at c9; simp at c9
      | some o => exact (Array.getElem?_eq_some_iff.1 hq).1
    have hsp : s ≠ W1.heap.size ∧ s ≠ W1.heap.size + 1 ∧ s ≠ vb := HNE.out
    have hat : ∀ b, b ≠ s → W9.heap[b]? = w8.heap[b]? := fun b hb => by
      rw [← hW9]
      exact heap_setCell_other w8 ⟨s, 9, none⟩ b _ hb
    have q9 := (hat _ (fun e => hsp.2.1 e.symm)).trans q8
    have v9 := (hat _ (fun e => hsp.2.2 e.symm)).trans v8
    have e5 : W9.cell? ⟨W1.heap.size + 1, 5, none⟩ = some (.int .u64 0) := by simp [World.cell?, q9]
    have e0 : W9.cell? ⟨W1.heap.size + 1, 0, none⟩ = some (.int .i64 0) := by simp [World.cell?, q9]
    have e1 : W9.cell? ⟨W1.heap.size + 1, 1, none⟩ = some (.slice none 0 0) := by simp [World.cell?, q9]
    have e2 : W9.cell? ⟨W1.heap.size + 1, 2, none⟩ = some (.slice none 0 0) := by simp [World.cell?, q9]
    have e3 : W9.cell? ⟨W1.heap.size + 1, 3, none⟩ = some (.slice none 0 0) := by simp [World.cell?, q9]
    have e4 : W9.cell? ⟨W1.heap.size + 1, 4, none⟩ = some (.slice none 0 0) := by simp [World.cell?, q9]
    have u0 : W9.cell? ⟨vb, 0, none⟩ = some (.int .i64 1) := by simp [World.cell?, v9]
    have u1 : W9.cell? ⟨vb, 1, none⟩ = some (.slice (some ⟨g, 0, none⟩) m m) := by simp [World.cell?, v9]
    have u2 : W9.cell? ⟨vb, 2, none⟩ = some (.slice none 0 0) := by simp [World.cell?, v9]
    have u3 : W9.cell? ⟨vb, 3, none⟩ = some (.slice none 0 0) := by simp [World.cell?, v9]
    have u4 : W9.cell? ⟨vb, 4, none⟩ = some (.slice none 0 0) := by simp [World.cell?, v9]
    have HS9 := Lib.hid (HS.out W9 ⟨1, hW9'⟩)
    clear p8 q8 v8 z5 z8 q9 v9 hat hsp hs8 hW9 hW9' HS c9 f9 k6 HH8
    go_wp2_with fail
    refine HS9.out.mono ?_
    rintro e w10 ⟨rfl, d13, d14, d15, HN⟩
    clear e0 e1 e2 e3 e4 e5 u0 u1 u2 u3 u4 HS9
    obtain ⟨hn10, hP⟩ := HN.out
    have HN2 := Lib.hid hn10
    have HP2 := Lib.hid hP
    clear hn10 hP HN
    go_wp2_with fail
    rw [rounds_succ]
    go_upto_region 15 with (first | (at_next; refine wp_next _ rfl _ rfl rfl (HN2.out _) ?_) | fail))
  all_goals (
    obtain ⟨ck, b, cs, hm, hbc, hs, hcsz, hfin⟩ := HP0.out w10 HP2.out
    have HFn := Lib.hid hcsz
    have HD13 := Lib.hid d13
    clear hcsz
    have HFin := Lib.hid hfin
    obtain ⟨pm, hpm⟩ : ∃ pm, w10.heap.size = pm := ⟨_, rfl⟩
    have hmlt : mb < pm := by rw [← hpm]; exact blk_lt hm
    have hslt : s < pm := by rw [← hpm]; exact blk_lt hs
    obtain ⟨A1, hA1⟩ : ∃ A1, w10.alloc (.map #[] 0) = A1 := ⟨_, rfl⟩
    have b1 : Below w10.heap.size w10 A1 := by rw [← hA1]; exact (Below.refl _ _).alloc (Nat.le_refl _) _
    have m1' : A1.heap[pm]? = some (.map #[] 0) := by rw [← hA1, ← hpm]; exact heap_alloc_new _ _
    have z1 : A1.heap.size = pm + 1 := by rw [← hA1, ← hpm]; simp
    have hmm : (Instr.makeMap 196 none).run Tryz.prog w10 = .ok (.map (some pm)) A1 := by rw [← hA1, ← hpm]; exact run_makeMap _ _
    obtain ⟨A2, hA2⟩ : ∃ A2, A1.alloc (.mapIter (some mb) ck #[] ck) = A2 := ⟨_, rfl⟩
    have hmA1 := (b1.block mb (by omega)).trans hm
    have rg2 : (Instr.range 82 (.map (some mb))).run Tryz.prog A1 = .ok (.pointer (some ⟨pm + 1, 0, none⟩)) A2 := by rw [← hA2, ← z1]; exact run_range_one Tryz.underlying82 hmA1
    have b2 : Below w10.heap.size w10 A2 := by rw [← hA2]; exact b1.alloc (by omega) _
    have i2 : A2.heap[pm + 1]? = some (.mapIter (some mb) ck #[] ck) := by rw [← hA2, ← z1]; exact heap_alloc_new _ _
    have m2' : A2.heap[pm]? = some (.map #[] 0) := by rw [← hA2]; exact (heap_alloc_old _ _ (by omega)).trans m1'
    have z2 : A2.heap.size = pm + 2 := by rw [← hA2]; simp; omega
    have hmA2 := (b2.block mb (by omega)).trans hm
    obtain ⟨A3, hA3⟩ : ∃ A3, setBlock A2 (pm + 1) (.mapIter (some mb) ck #[b] ck) = A3 := ⟨_, rfl⟩
    have nx3 : ∀ ty, (Instr.next (.pointer (some ⟨pm + 1, 0, none⟩)) false ty).run Tryz.prog A2 = .ok (.tuple #[.bool true, .agg #[.int .i64 0, .string kb], .agg #[.int .i64 0, .slice none 0 0, .slice none 0 0, .slice none 0 0, .slice none 0 0, .int .u64 0, .int .i64 0]]) A3 := fun ty => by rw [← hA3]; exact run_next_first ty i2 hmA2 hbc
    have b3 : Below w10.heap.size w10 A3 := by rw [← hA3]; exact below_setBlock b2 (by omega) _
    have i3 : A3.heap[pm + 1]? = some (.mapIter (some mb) ck #[b] ck) := by rw [← hA3, setBlock_get _ _ _ _ (by omega), if_pos rfl]
    have m3' : A3.heap[pm]? = some (.map #[] 0) := by rw [← hA3, setBlock_get _ _ _ _ (by omega), if_neg (by omega)]; exact m2'
    have z3 : A3.heap.size = pm + 2 := by rw [← hA3, setBlock_size]; exact z2
    have hmA3 := (b3.block mb (by omega)).trans hm
    have en3 : (Instr.entry (.pointer (some ⟨pm + 1, 0, none⟩))).run Tryz.prog A3 = .ok (.tuple #[.agg #[.int .i64 0, .string kb], .agg #[.int .i64 0, .slice none 0 0, .slice none 0 0, .slice none 0 0, .slice none 0 0, .int .u64 0, .int .i64 0]]) A3 := run_entry_one i3 hmA3
    obtain ⟨A4, hA4⟩ : ∃ A4, A3.alloc (.cells #[.int .i64 0, .string kb] 104) = A4 := ⟨_, rfl⟩
    have b4 : Below w10.heap.size w10 A4 := by rw [← hA4]; exact b3.alloc (by omega) _
    have i4 : A4.heap[pm + 1]? = some (.mapIter (some mb) ck #[b] ck) := by rw [← hA4]; exact (heap_alloc_old _ _ (by omega)).trans i3
    have m4' : A4.heap[pm]? = some (.map #[] 0) := by rw [← hA4]; exact (heap_alloc_old _ _ (by omega)).trans m3'
    have p4 : A4.heap[pm + 2]? = some (.cells #[.int .i64 0, .string kb] 104 (0, 0)) := by rw [← hA4, ← z3]; exact heap_alloc_new _ _
    have z4 : A4.heap.size = pm + 3 := by rw [← hA4]; simp; omega
    obtain ⟨A5, hA5⟩ : ∃ A5, setBlock A4 pm (.map #[⟨.agg #[.int .i64 0, .string kb], .int .i64 1, 0⟩] 1) = A5 := ⟨_, rfl⟩
    have up5 : (Instr.mapUpdate 196 (.map (some pm)) (.agg #[.int .i64 0, .string kb]) (.int .i64 1)).run Tryz.prog A4 = .ok () A5 := by rw [← hA5]; exact run_update_nil plT Tryz.underlying196 m4' _
    have b5 : Below w10.heap.size w10 A5 := by rw [← hA5]; exact below_setBlock b4 (by omega) _
    have i5 : A5.heap[pm + 1]? = some (.mapIter (some mb) ck #[b] ck) := by rw [← hA5, setBlock_get _ _ _ _ (by omega), if_neg (by omega)]; exact i4
    have m5' : A5.heap[pm]? = some (.map #[⟨.agg #[.int .i64 0, .string kb], .int .i64 1, 0⟩] 1) := by rw [← hA5, setBlock_get _ _ _ _ (by omega), if_pos rfl]
    have z5 : A5.heap.size = pm + 3 := by rw [← hA5, setBlock_size]; exact z4
    have hmA5 := (b5.block mb (by omega)).trans hm
    have nx5 : ∀ ty, (Instr.next (.pointer (some ⟨pm + 1, 0, none⟩)) false ty).run Tryz.prog A5 = .ok (.tuple #[.bool false]) A5 := fun ty => run_next_last ty i5 hmA5 hbc
    obtain ⟨A6, hA6⟩ : ∃ A6, A5.alloc (.mapIter (some pm) 1 #[] 1) = A6 := ⟨_, rfl⟩
    have rg6 : (Instr.range 196 (.map (some pm))).run Tryz.prog A5 = .ok (.pointer (some ⟨pm + 3, 0, none⟩)) A6 := by rw [← hA6, ← z5]; exact run_range_one Tryz.underlying196 m5'
    have b6 : Below w10.heap.size w10 A6 := by rw [← hA6]; exact b5.alloc (by omega) _
    have i6 : A6.heap[pm + 3]? = some (.mapIter (some pm) 1 #[] 1) := by rw [← hA6, ← z5]; exact heap_alloc_new _ _
    have m6' : A6.heap[pm]? = some (.map #[⟨.agg #[.int .i64 0, .string kb], .int .i64 1, 0⟩] 1) := by rw [← hA6]; exact (heap_alloc_old _ _ (by omega)).trans m5'
    have z6 : A6.heap.size = pm + 4 := by rw [← hA6]; simp; omega
    obtain ⟨A7, hA7⟩ : ∃ A7, setBlock A6 (pm + 3) (.mapIter (some pm) 1 #[0] 1) = A7 := ⟨_, rfl⟩
    have nx7 : ∀ ty, (Instr.next (.pointer (some ⟨pm + 3, 0, none⟩)) false ty).run Tryz.prog A6 = .ok (.tuple #[.bool true, .agg #[.int .i64 0, .string kb], .int .i64 1]) A7 := fun ty => by rw [← hA7]; exact run_next_first ty i6 m6' (by decide)
    have b7 : Below w10.heap.size w10 A7 := by rw [← hA7]; exact below_setBlock b6 (by omega) _
    have i7 : A7.heap[pm + 3]? = some (.mapIter (some pm) 1 #[0] 1) := by rw [← hA7, setBlock_get _ _ _ _ (by omega), if_pos rfl]
    have m7' : A7.heap[pm]? = some (.map #[⟨.agg #[.int .i64 0, .string kb], .int .i64 1, 0⟩] 1) := by rw [← hA7, setBlock_get _ _ _ _ (by omega), if_neg (by omega)]; exact m6'
    have z7 : A7.heap.size = pm + 4 := by rw [← hA7, setBlock_size]; exact z6
    have en7 : (Instr.entry (.pointer (some ⟨pm + 3, 0, none⟩))).run Tryz.prog A7 = .ok (.tuple #[.agg #[.int .i64 0, .string kb], .int .i64 1]) A7 := run_entry_one i7 m7'
    obtain ⟨A8, hA8⟩ : ∃ A8, A7.alloc (.cells #[.int .i64 0, .string kb] 104) = A8 := ⟨_, rfl⟩
    have b8 : Below w10.heap.size w10 A8 := by rw [← hA8]; exact b7.alloc (by omega) _
    have i8 : A8.heap[pm + 3]? = some (.mapIter (some pm) 1 #[0] 1) := by rw [← hA8]; exact (heap_alloc_old _ _ (by omega)).trans i7
    have m8' : A8.heap[pm]? = some (.map #[⟨.agg #[.int .i64 0, .string kb], .int .i64 1, 0⟩] 1) := by rw [← hA8]; exact (heap_alloc_old _ _ (by omega)).trans m7'
    have p8 : A8.heap[pm + 4]? = some (.cells #[.int .i64 0, .string kb] 104 (0, 0)) := by rw [← hA8, ← z7]; exact heap_alloc_new _ _
    have z8 : A8.heap.size = pm + 5 := by rw [← hA8]; simp; omega
    have s13 : A1.cell? ⟨s, 13, none⟩ = some (.map (some mb)) := (b1.cell (p := ⟨s, 13, none⟩) (by show s < _; omega)).trans d13
    have s14 : A5.cell? ⟨s, 14, none⟩ = some (.slice none 0 0) := (b5.cell (p := ⟨s, 14, none⟩) (by show s < _; omega)).trans d14
    have s15 : A8.cell? ⟨s, 15, none⟩ = some (.slice none 0 0) := (b8.cell (p := ⟨s, 15, none⟩) (by show s < _; omega)).trans d15
    have e40 : A4.cell? ⟨pm + 2, 0, none⟩ = some (.int .i64 0) := by simp [World.cell?, p4]
    have e41 : A4.cell? ⟨pm + 2, 1, none⟩ = some (.string kb) := by simp [World.cell?, p4]
    have e80 : A8.cell? ⟨pm + 4, 0, none⟩ = some (.int .i64 0) := by simp [World.cell?, p8]
    have e81 : A8.cell? ⟨pm + 4, 1, none⟩ = some (.string kb) := by simp [World.cell?, p8]
    have hlt8 : s < A8.heap.size := by omega
    have sf15 : A8.frozen? ⟨s, 15, none⟩ = false := by simp [World.frozen?, (b8.block s (by omega)).trans hs]
    have HA4 := Lib.hid hA4
    have HA8 := Lib.hid hA8
    have HRg2 := Lib.hid rg2
    have HNx3 := Lib.hid nx3
    have HUp5 := Lib.hid up5
    have HNx5 := Lib.hid nx5
    have HRg6 := Lib.hid rg6
    have HNx7 := Lib.hid nx7
    have HAll := Lib.hid (And.intro b8 (And.intro i8 (And.intro m8' (And.intro z8 (And.intro hm (And.intro hs (And.intro hpm (And.intro hmlt hslt))))))))
    clear hA1 hA2 hA3 hA4 hA5 hA6 hA7 hA8 b1 b2 b3 b4 b5 b6 b7 b8 m1' m2' m3' m4' m5' m6' m7' m8' i2 i3 i4 i5 i6 i7 i8 z2 z4 z5 z6 z8 hmA1 hmA2 hmA3 hmA5 p4 p8 rg2 nx3 up5 nx5 rg6 nx7 hm hs hbc hfin hpm d13 d14 d15 HP0 HP2 HN2 z1 hmlt hslt
    go_wp2_with (first | (at_range; refine wp_range _ rfl _ _ rfl rfl HRg2.out ?_) | fail)
    go_frame
    refine wp_loop_rounds 2 ?_
    rw [rounds_succ]
    go_upto_region 19 with (first | (at_next; refine wp_next _ rfl _ rfl rfl (HNx3.out _) ?_) | fail)
    rw [HA4.out]
    clear en3 z3
    go_wp2_with (first | (at_mapUpdate; refine wp_mapUpdate _ rfl _ _ _ _ rfl rfl rfl rfl HUp5.out ?_) | fail)
    rw [rounds_succ]
    go_wp2_with (first | (at_next; refine wp_next _ rfl _ rfl rfl (HNx5.out _) ?_) | fail)
    refine wp_loop_rounds 1 ?_
    rw [rounds_succ]
    go_wp2_with (first | (at_range; refine wp_range _ rfl _ _ rfl rfl HRg6.out ?_) | fail)
    go_frame
    refine wp_loop_rounds 2 ?_
    rw [rounds_succ]
    go_upto_region 28 with (first | (at_next; refine wp_next _ rfl _ rfl rfl (HNx7.out _) ?_) | fail)
    rw [HA8.out]
    clear en7 z7 e40 e41 s13 s14 HA4 HA8
    obtain ⟨i0, hi0, hz0, hz1, hz2⟩ := info_parts info_place
    go_region_law? (refine step_append_lies _ rfl _ _ _ rfl 0 104 i0 (.agg #[.int .i64 0, .string ⟨#[]⟩]) 2 24 Tryz.underlying41 hi0 hz0 hz1 hz2 rfl (by decide) (.slice none 0 0) 0 [] (by simp [Act.eval, Act.put]) (World.ownsRow_nil _ _ _ _) ⟨A8.heap.size, 0, none⟩ 1 1 [.int .i64 0, .string kb] (by simp [Act.eval, Act.put]) rfl (World.news_of_block (cs := #[.int .i64 0, .string kb]) (t := 104) (fr := (0, 0)) (heap_alloc_new A8 _)) (by simp [Value.oneCell']) (by decide) (by decide) (by decide) (by simp) (A8.heap.size + 1) (by simp) ?_; intro gg cap A9 hown9 hgr9 hat9 hlt9; have hk9 : ∀ k, k < A8.heap.size → A9.heap[k]? = A8.heap[k]? := fun k hk => ((hgr9.block k (by simp; omega) (by simp [Value.ownBlock])).trans (heap_alloc_old A8 _ hk)); have hk9' : A9.os = A8.os ∧ A9.tape = A8.tape ∧ A9.output = A8.output ∧ A8.heap.size ≤ A9.heap.size := ⟨hgr9.os, hgr9.tape, hgr9.output, Nat.le_trans (by simp) hgr9.size⟩; have HK9 := Lib.hid (And.intro hk9 hk9'); have x9 : A9.heap[s]? = A8.heap[s]? := hk9 s hlt8; clear hk9 hk9'; have x15 : A9.cell? ⟨s, 15, none⟩ = some (.slice none 0 0) := (World.cell?_of_block (w := A8) x9).trans s15; have xf15 : A9.frozen? ⟨s, 15, none⟩ = false := (World.frozen?_of_block (w := A8) x9).trans sf15))
  all_goals (
    obtain ⟨b8, i8, m8', z8, hm, hs, hpm, hmlt, hslt⟩ := HAll.out
    obtain ⟨hk9, ho9, ht9, hu9, hz9⟩ := HK9.out
    have hkA : ∀ k, k < w10.heap.size → A9.heap[k]? = w10.heap[k]? := fun k hk => (hk9 k (by omega)).trans (b8.block k hk)
    obtain ⟨B1, hB1⟩ : ∃ B1, A9.setCell ⟨s, 15, none⟩ (.slice (some ⟨gg, 0, none⟩) 1 cap) = B1 := ⟨_, rfl⟩
    have hBk : ∀ k, k ≠ s → B1.heap[k]? = A9.heap[k]? := fun k hk => by rw [← hB1]; exact heap_setCell_other A9 ⟨s, 15, none⟩ k _ hk
    have nx : ∀ ty, (Instr.next (.pointer (some ⟨pm + 3, 0, none⟩)) false ty).run Tryz.prog B1 = .ok (.tuple #[.bool false]) B1 := fun ty => run_next_last ty ((hBk _ (by omega)).trans ((hk9 _ (by omega)).trans i8)) ((hBk _ (by omega)).trans ((hk9 _ (by omega)).trans m8')) (by decide)
    have hmB : B1.heap[mb]? = some (.map _ ck) := (hBk mb (fun e => by rw [← e, hm] at hs; cases hs)).trans ((hkA mb (by omega)).trans hm)
    have cl : ∀ ty, (Builtin.clear_ #[82] ty #[.map (some mb)]).run Tryz.prog B1 = .ok (.tuple #[]) (setBlock B1 mb (.map #[] ck)) := fun ty => run_clear ty Tryz.underlying82 hmB
    have hsB : B1.heap[s]? = some (.cells (cs.setIfInBounds 15 (.slice (some ⟨gg, 0, none⟩) 1 cap)) 86 (0, 0)) := by rw [← hB1]; exact setCell_get _ _ _ _ ((hkA s (by omega)).trans hs)
    have hsz : cs.size = 16 := HFn.out
    have y15 : B1.cell? ⟨s, 15, none⟩ = some (.slice (some ⟨gg, 0, none⟩) 1 cap) := by simp [World.cell?, hsB, hsz]
    have y13 : B1.cell? ⟨s, 13, none⟩ = some (.map (some mb)) := by
      have h1 : cs[13]? = some (.map (some mb)) := by
        have h2 := HD13.out
        simp [World.cell?, hs] at h2
        exact h2
      simp [World.cell?, hsB, Array.getElem?_setIfInBounds, h1]
    obtain ⟨B2, hB2⟩ : ∃ B2, setBlock B1 mb (.map #[] ck) = B2 := ⟨_, rfl⟩
    have hsB2 : B2.heap[s]? = B1.heap[s]? := by
      rw [← hB2]
      exact (setBlock_get _ _ _ _ (by rw [← hpm] at hmlt; exact blk_lt hmB)).trans (if_neg (fun e => by rw [e, hm] at hs; cases hs))
    have y14 : ∃ v, B2.cell? ⟨s, 14, none⟩ = some v := ⟨cs[14]'(by omega), by simp [World.cell?, hsB2, hsB, hsz]⟩
    have y11 : ∃ v, B2.cell? ⟨s, 11, none⟩ = some v := ⟨cs[11]'(by omega), by simp [World.cell?, hsB2, hsB, hsz]⟩
    have yf : ∀ i, B2.frozen? ⟨s, i, none⟩ = false := fun i => by simp [World.frozen?, hsB2, hsB]
    obtain ⟨u14, y14⟩ := y14
    obtain ⟨u11, y11⟩ := y11
    have yf14 := yf 14
    have yf11 := yf 11
    have HEnd := Lib.hid (settle_fin (v := .slice (some ⟨gg, 0, none⟩) 1 cap) (ho9.trans b8.os) (ht9.trans b8.tape) (hu9.trans b8.output) (Nat.le_trans b8.size hz9) hkA hs hm)
    rw [hB1, hB2] at HEnd
    rw [hB2] at cl
    have HCl := Lib.hid cl
    have HNx := Lib.hid nx
    rw [hB1]
    clear b8 i8 m8' z8 hm hs hpm hmlt hslt hk9 ho9 ht9 hu9 hz9 hkA hBk nx hmB cl hsB hsz hsB2 yf hB1 hB2
    go_wp2_with fail
    rw [rounds_succ]
    go_wp2_with (first | (at_next; refine wp_next _ rfl _ rfl rfl (HNx.out _) ?_) | (refine wp_clear _ rfl _ _ rfl rfl (HCl.out _) ?_) | fail)
    refine (sort_one B1 _ _ _).mono ?_
    rintro e w' ⟨rfl, rfl⟩
    clear HNx y15
    go_wp2_with (first | (refine wp_clear _ rfl _ _ rfl rfl (HCl.out _) ?_) | fail)
    first | go_end0 | refine bodyPost_ret (results_none rfl _ _ _) rfl ?_
    exact ⟨rfl, HFin.out _ _ HEnd.out.1 HEnd.out.2.1 HEnd.out.2.2⟩)
end Go.Proofs.YtglglknhifjbaaaGreatDoor.Sp
