import Derived.Test.YtglglknhifjbaaaGreatDoorRn1
import Derived.Test.YtglglknhifjbaaaGreatDoorMap
import Derived.Lib.SlBytesConst
import Derived.Shelf.Abstract
namespace Go.Proofs.YtglglknhifjbaaaGreatDoor.Sp
open Go.RowKit Go.Proofs.YtglglknhifjbaaaGreatDoorW.PrintWords Go.Proofs.YtglglknhifjbaaaGreatDoorW.PrintLast Go.Proofs.YtglglknhifjbaaaGreatDoorW.PrintMore
open Go.ChangeMaps (setBlock)
set_option linter.unusedVariables false
set_option linter.unusedSimpArgs false
set_option maxHeartbeats 1000000 in
set_option maxRecDepth 100000 in
theorem many1_raw {w : World} {s sb ib i : Nat} (R : World → Prop) (hi : i < 256) (hs : w.cell? ⟨sb, 0, none⟩ = some (.pointer (some ⟨s, 0, none⟩))) (hib : w.cell? ⟨ib, 0, none⟩ = some (.int .i64 (i : Int)))
    (HS : ∀ W, Below w.heap.size w W → W.cell? ⟨w.heap.size + 1, 0, none⟩ = some (.int .u8 (i : Int)) → W.cell? ⟨w.heap.size + 1 + 1, 0, none⟩ = some (.int .u8 120) → Calls Tryz.prog 45 #[.pointer (some ⟨s, 0, none⟩), .int .i64 0, .slice (some ⟨w.heap.size + 1, 0, none⟩) 1 1, .agg #[.int .i64 1, .slice (some ⟨w.heap.size + 1 + 1, 0, none⟩) 1 1, .slice none 0 0, .slice none 0 0, .slice none 0 0]] W fun e w' => e = .returned (.int .i64 0) ∧ w'.heap[w.heap.size]? = W.heap[w.heap.size]? ∧ R w') :
    Calls Tryz.prog 44 #[.pointer (some ⟨sb, 0, none⟩), .pointer (some ⟨ib, 0, none⟩)] w fun e w' => e = .returned rep0 ∧ ∃ w8, R w8 ∧ Fr (fun b => b = w.heap.size) w8 w' := by
  have kc := fun (w : World) (C : Array Value) (n c : Nat) => Lib.run_convert_bytes_const (P := Tryz.prog) w 53 5 C n c Tryz.underlying53 Tryz.underlying5
  have hls : sb < w.heap.size := by
    unfold World.cell? at hs
    cases hq : w.heap[sb]? with
    | none => rw [hq] at hs; simp at hs
    | some o => exact blk_lt hq
  have hli : ib < w.heap.size := by
    unfold World.cell? at hib
    cases hq : w.heap[ib]? with
    | none => rw [hq] at hib; simp at hib
    | some o => exact blk_lt hq
  have hw8 : IntKind.u8.wrap (i : Int) = (i : Int) := by rw [IntKind.wrap_u8]; omega
  have kcv : (convert 53 53 (.slice (some ⟨w.heap.size + 1 + 1, 0, none⟩) 1 1)).run Tryz.prog (((w.alloc (.cells #[.int .i64 0, .int .i64 0, .slice none 0 0, .slice none 0 0] 67)).alloc (.cells #[.int .u8 (i : Int)] 5)).alloc (.cells #[.int .u8 120] 5)) = .ok (.slice (some ⟨w.heap.size + 1 + 1, 0, none⟩) 1 1) (((w.alloc (.cells #[.int .i64 0, .int .i64 0, .slice none 0 0, .slice none 0 0] 67)).alloc (.cells #[.int .u8 (i : Int)] 5)).alloc (.cells #[.int .u8 120] 5 (1, 2))) := by
    have := kc ((w.alloc (.cells #[.int .i64 0, .int .i64 0, .slice none 0 0, .slice none 0 0] 67)).alloc (.cells #[.int .u8 (i : Int)] 5)) #[.int .u8 120] 1 1
    simpa using this
  clear kc
  have HS0 := Lib.hid HS
  clear HS
  go_enter Tryz.func44, Tryz.ntmps44
  go_wp2_with fail
  obtain ⟨W4, hW4⟩ : ∃ W4, (((w.alloc (.cells #[.int .i64 0, .int .i64 0, .slice none 0 0, .slice none 0 0] 67)).alloc (.cells #[.int .u8 (i : Int)] 5)).alloc (.cells #[.int .u8 120] 5 (1, 2))) = W4 := ⟨_, rfl⟩
  have b4 : Below w.heap.size w W4 := by rw [← hW4]; exact (((Below.refl _ _).alloc (Nat.le_refl _) _).alloc (by simp) _).alloc (by simp; omega) _
  have c1 : W4.cell? ⟨w.heap.size + 1, 0, none⟩ = some (.int .u8 (i : Int)) := by
    have h1 : W4.heap[w.heap.size + 1]? = some (.cells #[.int .u8 (i : Int)] 5 (0, 0)) := by
      rw [← hW4, heap_alloc_old _ _ (by simp)]
      have := heap_alloc_new (w.alloc (.cells #[.int .i64 0, .int .i64 0, .slice none 0 0, .slice none 0 0] 67)) (.cells #[.int .u8 (i : Int)] 5)
      simpa using this
    simp [World.cell?, h1]
  have c2 : W4.cell? ⟨w.heap.size + 1 + 1, 0, none⟩ = some (.int .u8 120) := by
    have h1 : W4.heap[w.heap.size + 1 + 1]? = some (.cells #[.int .u8 120] 5 (1, 2)) := by
      have := heap_alloc_new ((w.alloc (.cells #[.int .i64 0, .int .i64 0, .slice none 0 0, .slice none 0 0] 67)).alloc (.cells #[.int .u8 (i : Int)] 5)) (.cells #[.int .u8 120] 5 (1, 2))
      rw [hW4] at this
      simpa using this
    simp [World.cell?, h1]
  have r4 : W4.heap[w.heap.size]? = some (.cells #[.int .i64 0, .int .i64 0, .slice none 0 0, .slice none 0 0] 67 (0, 0)) := by
    rw [← hW4, heap_alloc_old _ _ (by simp; omega), heap_alloc_old _ _ (by simp), heap_alloc_new]
  rw [hW4]
  have HC := Lib.hid (HS0.out W4 b4 c1 c2)
  have HR4 := Lib.hid r4
  obtain ⟨N, hN⟩ : ∃ N, w.heap.size = N := ⟨_, rfl⟩
  have HN := Lib.hid hN
  clear HS0 b4 c1 c2 r4 hW4 kcv hs hib hls hli
  refine HC.out.mono ?_
  rintro e w5 ⟨rfl, hk, hR⟩
  have r5 := hk.trans HR4.out
  rw [hN] at r5 ⊢
  have HR5 := Lib.hid (And.intro hR r5)
  have m0 : w5.cell? ⟨N, 0, none⟩ = some (.int .i64 0) := by simp [World.cell?, r5]
  have m1 : w5.cell? ⟨N, 1, none⟩ = some (.int .i64 0) := by simp [World.cell?, r5]
  have m2 : w5.cell? ⟨N, 2, none⟩ = some (.slice none 0 0) := by simp [World.cell?, r5]
  have m3 : w5.cell? ⟨N, 3, none⟩ = some (.slice none 0 0) := by simp [World.cell?, r5]
  have mf : ∀ i, w5.frozen? ⟨N, i, none⟩ = false := fun i => by simp [World.frozen?, r5]
  clear HC HR4 hk hR r5 hN
  go_wp2_with fail
  have z0 := HR5.out.2
  have z1 := heap_setCell_same _ N 0 _ _ (.int .i64 0) z0
  have z2 := heap_setCell_same _ N 1 _ _ (.int .i64 0) z1
  have z3 := heap_setCell_same _ N 2 _ _ (.slice none 0 0) z2
  have z4 := heap_setCell_same _ N 3 _ _ (.slice none 0 0) z3
  refine bodyPost_ret (results_cell_row rfl _ _ N _ _ _ _ rfl z4 Tryz.underlying67 rfl (by kernel_rfl)) rfl ?_
  have hfr : Fr (fun b => b = N) w5 ((((w5.setCell ⟨N, 0, none⟩ (.int .i64 0)).setCell ⟨N, 1, none⟩ (.int .i64 0)).setCell ⟨N, 2, none⟩ (.slice none 0 0)).setCell ⟨N, 3, none⟩ (.slice none 0 0)) :=
    ((((Fr.refl (fun b => b = N) w5).setCell (p := ⟨N, 0, none⟩) (.inl rfl) (.int .i64 0)).setCell (p := ⟨N, 1, none⟩) (.inl rfl) (.int .i64 0)).setCell (p := ⟨N, 2, none⟩) (.inl rfl) (.slice none 0 0)).setCell (p := ⟨N, 3, none⟩) (.inl rfl) (.slice none 0 0)
  rw [HN.out]
  exact ⟨rfl, w5, HR5.out.1, hfr⟩
end Go.Proofs.YtglglknhifjbaaaGreatDoor.Sp
namespace Go.Proofs.YtglglknhifjbaaaGreatDoor.Sp
open Go.RowKit Go.Proofs.YtglglknhifjbaaaGreatDoorW.PrintWords Go.Proofs.YtglglknhifjbaaaGreatDoorW.PrintLast Go.Proofs.YtglglknhifjbaaaGreatDoorW.PrintMore
open Go.ChangeMaps (setBlock)
set_option linter.unusedVariables false
set_option linter.unusedSimpArgs false
theorem enter_many1 : ∀ args w, (callFunc 44 args).run Tryz.prog w = .ok (.enter 44 args) w := enters_of Tryz.func44 (by kernel_rfl) rfl
theorem results_cell_int {P : Program} {fn : Func} {p u : Tmp} {ty tz : TypeId} (h : fn.results = #[.cell p ty, .cell u tz]) (tmps : Array Value) (w : World) (g g2 : Nat) (t : TypeId) (cs : Array Value) (fr : Nat × Nat) (d : TypeDesc) (v : Value)
    (hp : tmps.getD p undef = .pointer (some ⟨g, 0, none⟩)) (hg : w.heap[g]? = some (.cells cs t fr)) (hp2 : tmps.getD u undef = .pointer (some ⟨g2, 0, none⟩)) (hv : (loadVar tz ⟨g2, 0, none⟩).run P w = .ok v w)
    (hu : P.underlying ty = some d) (hd : (match d with | .struct _ | .array _ _ => true | _ => false) = true) (hi : (P.info? ty).map (·.size) = some cs.size) :
    (results fn tmps).run P w = .ok (.tuple #[.agg cs, v]) w := by
  have hp' : tmps[p]?.getD undef = .pointer (some ⟨g, 0, none⟩) := by simpa using hp
  have hp2' : tmps[u]?.getD undef = .pointer (some ⟨g2, 0, none⟩) := by simpa using hp2
  simp [results, h, hp', hp2', asAddr, run_loadVar_row w g t ty cs fr d hg hu hd hi, hv]
set_option maxHeartbeats 1000000 in
set_option maxRecDepth 100000 in
theorem run_raw {w : World} {s sb ib : Nat} (R : World → Prop) (h11 : w.cell? ⟨s, 11, none⟩ = some (.bool false))
    (HB : ∀ W, Below w.heap.size w W → W.heap.size = w.heap.size + 3 → Calls Tryz.prog 79 #[.pointer (some ⟨s, 0, none⟩), .int .u64 0] W fun e w4 => e = .returned (.tuple #[]) ∧ (∀ b, w.heap.size ≤ b → b < w.heap.size + 3 → w4.heap[b]? = W.heap[b]?) ∧
      Hid (Calls Tryz.prog 44 #[.pointer (some ⟨sb, 0, none⟩), .pointer (some ⟨ib, 0, none⟩)] w4 fun e w5 => e = .returned (.agg #[.int .i64 0, .int .i64 0, .slice none 0 0, .slice none 0 0]) ∧ (∀ b, w.heap.size ≤ b → b < w.heap.size + 3 → w5.heap[b]? = w4.heap[b]?) ∧
        Hid (∀ W6, Fr (fun b => b = w.heap.size + 1 ∨ b = w.heap.size + 1 + 1) w5 W6 → ∀ W7, Below W6.heap.size W6 W7 → Calls Tryz.prog 83 #[.pointer (some ⟨s, 0, none⟩), .agg #[.int .i64 0, .int .i64 0, .slice none 0 0, .slice none 0 0]] W7 fun e w' => e = .returned (.tuple #[.agg #[.int .i64 0, .int .i64 0, .slice none 0 0, .slice none 0 0], .int .i64 0]) ∧ w'.heap[w.heap.size + 1]? = W7.heap[w.heap.size + 1]? ∧ w'.heap[w.heap.size + 1 + 1]? = W7.heap[w.heap.size + 1 + 1]? ∧ R w'))) :
    Calls Tryz.prog 43 #[.pointer (some ⟨s, 0, none⟩), .int .u64 0, .func (.func 44) #[] #[.pointer (some ⟨sb, 0, none⟩), .pointer (some ⟨ib, 0, none⟩)]] w fun e w' => e = .returned (.tuple #[.agg #[.int .i64 0, .int .i64 0, .slice none 0 0, .slice none 0 0], .int .i64 0]) ∧ ∃ w8, R w8 ∧ Fr (fun b => b = w.heap.size + 1 ∨ b = w.heap.size + 1 + 1) w8 w' := by
  have hmf : ∀ (fn : Fn) (first cap : Array Value) (w : World), (Instr.makeFunc fn first cap).run Tryz.prog w = .ok (.func fn first cap) w := fun _ _ _ _ => rfl
  have eg := enter_many1
  have hnf : ∀ W : World, (binOp .neq 101 (.func (.func 44) #[] #[.pointer (some ⟨sb, 0, none⟩), .pointer (some ⟨ib, 0, none⟩)]) .nilFunc).run Tryz.prog W = .ok (.bool true) W := fun W => by kernel_rfl
  have hls : s < w.heap.size := by
    unfold World.cell? at h11
    cases hq : w.heap[s]? with
    | none => rw [hq] at h11; simp at h11
    | some o => exact blk_lt hq
  obtain ⟨W3, hW3⟩ : ∃ W3, ((w.alloc (.cells #[.pointer (some ⟨s, 0, none⟩)] 25)).alloc (.cells #[.int .i64 0, .int .i64 0, .slice none 0 0, .slice none 0 0] 67)).alloc (.cells #[.int .i64 0] 26) = W3 := ⟨_, rfl⟩
  have b3 : Below w.heap.size w W3 := by rw [← hW3]; exact (((Below.refl _ _).alloc (Nat.le_refl _) _).alloc (by simp) _).alloc (by simp; omega) _
  have z3 : W3.heap.size = w.heap.size + 3 := by rw [← hW3]; simp
  have HB3 := Lib.hid (HB W3 b3 z3)
  have HW3 := Lib.hid hW3
  clear HB hW3
  go_enter_defers Tryz.func43, Tryz.ntmps43
  go_upto_region 1 with fail
  rw [HW3.out]
  obtain ⟨N, hN⟩ : ∃ N, w.heap.size = N := ⟨_, rfl⟩
  have HN := Lib.hid hN
  have x3 : W3.heap[N]? = some (.cells #[.pointer (some ⟨s, 0, none⟩)] 25 (0, 0)) := by rw [← HW3.out, heap_alloc_old _ _ (by simp; omega), heap_alloc_old _ _ (by simp; omega), ← hN, heap_alloc_new]
  have y3 : W3.heap[N + 1]? = some (.cells #[.int .i64 0, .int .i64 0, .slice none 0 0, .slice none 0 0] 67 (0, 0)) := by
    have := heap_alloc_new (w.alloc (.cells #[.pointer (some ⟨s, 0, none⟩)] 25)) (.cells #[.int .i64 0, .int .i64 0, .slice none 0 0, .slice none 0 0] 67)
    rw [← HW3.out, heap_alloc_old _ _ (by simp; omega), ← hN]
    simpa using this
  have q3 : W3.heap[N + 1 + 1]? = some (.cells #[.int .i64 0] 26 (0, 0)) := by
    have := heap_alloc_new ((w.alloc (.cells #[.pointer (some ⟨s, 0, none⟩)] 25)).alloc (.cells #[.int .i64 0, .int .i64 0, .slice none 0 0, .slice none 0 0] 67)) (.cells #[.int .i64 0] 26)
    rw [HW3.out] at this
    rw [← hN]
    simpa using this
  have d0 : W3.cell? ⟨N, 0, none⟩ = some (.pointer (some ⟨s, 0, none⟩)) := by simp [World.cell?, x3]
  have d11 : W3.cell? ⟨s, 11, none⟩ = some (.bool false) := (b3.cell (p := ⟨s, 11, none⟩) (by exact hls)).trans h11
  rw [hN]
  have H3 := Lib.hid (And.intro x3 (And.intro y3 q3))
  clear x3 y3 q3 b3 z3 hN
  go_wp2_with fail
  refine HB3.out.mono ?_
  rintro e w4 ⟨rfl, k4, HM⟩
  have hNN := HN.out
  have x4 := (k4 N (by omega) (by omega)).trans H3.out.1
  have y4 := (k4 (N + 1) (by omega) (by omega)).trans H3.out.2.1
  have q4 := (k4 (N + 1 + 1) (by omega) (by omega)).trans H3.out.2.2
  have H4 := Lib.hid (And.intro x4 (And.intro y4 q4))
  clear HB3 k4 H3 d0 d11 x4 y4 q4 hNN
  go_wp2_with fail
  refine HM.out.mono ?_
  rintro e w5 ⟨rfl, k5, HE⟩
  have hNN := HN.out
  have x5 := (k5 N (by omega) (by omega)).trans H4.out.1
  have y5 := (k5 (N + 1) (by omega) (by omega)).trans H4.out.2.1
  have q5 := (k5 (N + 1 + 1) (by omega) (by omega)).trans H4.out.2.2
  have H5 := Lib.hid (And.intro x5 (And.intro y5 q5))
  have m0 : w5.cell? ⟨N + 1, 0, none⟩ = some (.int .i64 0) := by simp [World.cell?, y5]
  have m1 : w5.cell? ⟨N + 1, 1, none⟩ = some (.int .i64 0) := by simp [World.cell?, y5]
  have m2 : w5.cell? ⟨N + 1, 2, none⟩ = some (.slice none 0 0) := by simp [World.cell?, y5]
  have m3 : w5.cell? ⟨N + 1, 3, none⟩ = some (.slice none 0 0) := by simp [World.cell?, y5]
  have mf : ∀ i, w5.frozen? ⟨N + 1, i, none⟩ = false := fun i => by simp [World.frozen?, y5]
  have n0 : w5.cell? ⟨N + 1 + 1, 0, none⟩ = some (.int .i64 0) := by simp [World.cell?, q5]
  have nf : w5.frozen? ⟨N + 1 + 1, 0, none⟩ = false := by simp [World.frozen?, q5]
  clear HM k5 H4 x5 y5 q5 hNN
  go_wp2_with fail
  have z1 := heap_setCell_same _ (N + 1) 0 _ _ (.int .i64 0) H5.out.2.1
  have z2 := heap_setCell_same _ (N + 1) 1 _ _ (.int .i64 0) z1
  have z3 := heap_setCell_same _ (N + 1) 2 _ _ (.slice none 0 0) z2
  have z4 := heap_setCell_same _ (N + 1) 3 _ _ (.slice none 0 0) z3
  have z5 := heap_setCell_same _ (N + 1) 0 _ _ (.int .i64 0) z4
  have z6 := heap_setCell_same _ (N + 1) 1 _ _ (.int .i64 0) z5
  have z7 := heap_setCell_same _ (N + 1) 2 _ _ (.slice none 0 0) z6
  have z8 := heap_setCell_same _ (N + 1) 3 _ _ (.slice none 0 0) z7
  have hfr : Fr (fun b => b = N + 1 ∨ b = N + 1 + 1) w5 (((((((((w5.setCell ⟨N + 1, 0, none⟩ (.int .i64 0)).setCell ⟨N + 1, 1, none⟩ (.int .i64 0)).setCell ⟨N + 1, 2, none⟩ (.slice none 0 0)).setCell ⟨N + 1, 3, none⟩ (.slice none 0 0)).setCell ⟨N + 1, 0, none⟩ (.int .i64 0)).setCell ⟨N + 1, 1, none⟩ (.int .i64 0)).setCell ⟨N + 1, 2, none⟩ (.slice none 0 0)).setCell ⟨N + 1, 3, none⟩ (.slice none 0 0)).setCell ⟨N + 1 + 1, 0, none⟩ (.int .i64 0)) := ((((((((((Fr.refl (fun b => b = N + 1 ∨ b = N + 1 + 1) w5).setCell (p := ⟨N + 1, 0, none⟩) (.inl (.inl rfl)) (.int .i64 0)).setCell (p := ⟨N + 1, 1, none⟩) (.inl (.inl rfl)) (.int .i64 0)).setCell (p := ⟨N + 1, 2, none⟩) (.inl (.inl rfl)) (.slice none 0 0)).setCell (p := ⟨N + 1, 3, none⟩) (.inl (.inl rfl)) (.slice none 0 0)).setCell (p := ⟨N + 1, 0, none⟩) (.inl (.inl rfl)) (.int .i64 0)).setCell (p := ⟨N + 1, 1, none⟩) (.inl (.inl rfl)) (.int .i64 0)).setCell (p := ⟨N + 1, 2, none⟩) (.inl (.inl rfl)) (.slice none 0 0)).setCell (p := ⟨N + 1, 3, none⟩) (.inl (.inl rfl)) (.slice none 0 0)).setCell (p := ⟨N + 1 + 1, 0, none⟩) (.inl (.inr rfl)) (.int .i64 0))
  have zr : (((((((((w5.setCell ⟨N + 1, 0, none⟩ (.int .i64 0)).setCell ⟨N + 1, 1, none⟩ (.int .i64 0)).setCell ⟨N + 1, 2, none⟩ (.slice none 0 0)).setCell ⟨N + 1, 3, none⟩ (.slice none 0 0)).setCell ⟨N + 1, 0, none⟩ (.int .i64 0)).setCell ⟨N + 1, 1, none⟩ (.int .i64 0)).setCell ⟨N + 1, 2, none⟩ (.slice none 0 0)).setCell ⟨N + 1, 3, none⟩ (.slice none 0 0)).setCell ⟨N + 1 + 1, 0, none⟩ (.int .i64 0)).heap[N + 1]? = some (.cells #[.int .i64 0, .int .i64 0, .slice none 0 0, .slice none 0 0] 67 (0, 0)) := by
    rw [heap_setCell_other _ _ _ _ (by show N + 1 ≠ N + 1 + 1; omega)]
    exact z8
  have ye : ((((((((w5.setCell ⟨N + 1, 0, none⟩ (.int .i64 0)).setCell ⟨N + 1, 1, none⟩ (.int .i64 0)).setCell ⟨N + 1, 2, none⟩ (.slice none 0 0)).setCell ⟨N + 1, 3, none⟩ (.slice none 0 0)).setCell ⟨N + 1, 0, none⟩ (.int .i64 0)).setCell ⟨N + 1, 1, none⟩ (.int .i64 0)).setCell ⟨N + 1, 2, none⟩ (.slice none 0 0)).setCell ⟨N + 1, 3, none⟩ (.slice none 0 0)).heap[N + 1 + 1]? = some (.cells #[.int .i64 0] 26 (0, 0)) := by
    rw [heap_setCell_other _ _ _ _ (by show N + 1 + 1 ≠ N + 1; omega), heap_setCell_other _ _ _ _ (by show N + 1 + 1 ≠ N + 1; omega), heap_setCell_other _ _ _ _ (by show N + 1 + 1 ≠ N + 1; omega), heap_setCell_other _ _ _ _ (by show N + 1 + 1 ≠ N + 1; omega), heap_setCell_other _ _ _ _ (by show N + 1 + 1 ≠ N + 1; omega), heap_setCell_other _ _ _ _ (by show N + 1 + 1 ≠ N + 1; omega), heap_setCell_other _ _ _ _ (by show N + 1 + 1 ≠ N + 1; omega), heap_setCell_other _ _ _ _ (by show N + 1 + 1 ≠ N + 1; omega)]
    exact H5.out.2.2
  have ze := heap_setCell_same _ (N + 1 + 1) 0 _ _ (.int .i64 0) ye
  obtain ⟨W6, hW6⟩ : ∃ W6, (((((((((w5.setCell ⟨N + 1, 0, none⟩ (.int .i64 0)).setCell ⟨N + 1, 1, none⟩ (.int .i64 0)).setCell ⟨N + 1, 2, none⟩ (.slice none 0 0)).setCell ⟨N + 1, 3, none⟩ (.slice none 0 0)).setCell ⟨N + 1, 0, none⟩ (.int .i64 0)).setCell ⟨N + 1, 1, none⟩ (.int .i64 0)).setCell ⟨N + 1, 2, none⟩ (.slice none 0 0)).setCell ⟨N + 1, 3, none⟩ (.slice none 0 0)).setCell ⟨N + 1 + 1, 0, none⟩ (.int .i64 0)) = W6 := ⟨_, rfl⟩
  rw [hW6] at hfr zr ze ⊢
  have zx : W6.heap[N]? = some (.cells #[.pointer (some ⟨s, 0, none⟩)] 25 (0, 0)) := (hfr.block N (blk_lt H5.out.1) (by omega)).trans H5.out.1
  have hNN := HN.out
  refine leaves_cons (f := 80) (args := #[.pointer (some ⟨N, 0, none⟩), .pointer (some ⟨N + 1, 0, none⟩), .pointer (some ⟨N + 1 + 1, 0, none⟩)]) (by simp) (by simp [go_sem]) ?_
  refine (run1_raw (s := s) R (by simp [World.cell?, zx]) zr ze (by omega) (fun W hW => ?_)).mono ?_
  · rw [← hNN] at hfr ⊢
    exact HE.out W6 hfr W hW
  · rintro e u' w'' ⟨rfl, rfl, w8, hR, hf, hrb, heb⟩
    refine ⟨_, results_cell_int rfl _ _ (N + 1) (N + 1 + 1) _ _ _ _ (.int .i64 0) rfl hrb rfl (by
      have hc : w''.cell? ⟨N + 1 + 1, 0, none⟩ = some (.int .i64 0) := by simp [World.cell?, heb]
      simp [loadVar, isAgg, run_underlying Tryz.underlying26, go_sem, hc]) Tryz.underlying67 rfl (by kernel_rfl), ?_⟩
    rw [hNN]
    exact ⟨rfl, w8, hR, hf⟩
end Go.Proofs.YtglglknhifjbaaaGreatDoor.Sp
namespace Go.Proofs.YtglglknhifjbaaaGreatDoor.Sp
open Go.RowKit Go.Proofs.YtglglknhifjbaaaGreatDoorW.PrintWords Go.Proofs.YtglglknhifjbaaaGreatDoorW.PrintLast Go.Proofs.YtglglknhifjbaaaGreatDoorW.PrintMore
set_option linter.unusedVariables false
set_option linter.unusedSimpArgs false
theorem bit_is (b r : Nat) (hb : b < 18446744073709551616) (hr : r < 64) : (bits .and .u64 ((b : Int) / 2 ^ r) 1 == 1) = b.testBit r := by
  have e : (b : Int) / 2 ^ r = ((b / 2 ^ r : Nat) : Int) := by simp
  rw [e]
  have h2 : b / 2 ^ r < 2 ^ 64 := Nat.lt_of_le_of_lt (Nat.div_le_self _ _) (by omega)
  have := (bits_nat .u64 64 (by decide) (fun n h0 h1 => by rw [IntKind.wrap_u64]; omega) (b / 2 ^ r) 1 h2 (by decide)).1
  rw [show ((1 : Nat) : Int) = 1 from rfl] at this
  rw [this, Nat.and_one_is_mod, Nat.testBit_eq_decide_div_mod_eq]
  by_cases h : b / 2 ^ r % 2 = 1
  · rw [h, decide_eq_true rfl]; decide
  · have h0 : b / 2 ^ r % 2 = 0 := by omega
    rw [h0]; decide
set_option maxHeartbeats 2000000 in
set_option maxRecDepth 100000 in
theorem begins_walk (w : World) (own : Own) (a p size : Nat) (l : List AO) (H : IsAr w own a p size l) (at_ : Int) (h0 : -9223372036854775808 ≤ at_) (h1 : at_ ≤ 9223372036854775807) (b : Bool) (hb : b = true ↔ 0 ≤ at_ ∧ Starts l at_.toNat) :
    Calls Tryz.prog 168 #[.pointer (some ⟨p, 0, none⟩), .int .i64 at_] w fun e w' => e = .returned (.bool b) ∧ w = w' := by
  have HB := Lib.hid hb; clear hb
  obtain ⟨gw, gf, cw, cf, bs, hp, c0, c1, c2, f0, l1, l2, cW, cF, fW, fF, -, -, hbits, -, -, -⟩ := H.cells
  have HBi := Lib.hid hbits; clear hbits
  have hs2 := H.s2
  have hfit := H.fit
  have HH := Lib.hid H; clear H
  have HcW := Lib.hid cW; have HcF := Lib.hid cF; clear cW cF hp fW fF f0
  go_enter Tryz.func168, Tryz.ntmps168
  by_cases hlo : at_ ≤ 0
  · go_wp2_with fail
    go_ret
    refine ⟨?_, rfl⟩
    have : b = false := by
      cases hbb : b with
      | false => rfl
      | true => obtain ⟨h2, h3⟩ := HB.out.1 hbb; have := starts_bd h3; omega
    rw [this]; rfl
  · obtain ⟨n, rfl⟩ := Int.eq_ofNat_of_zero_le (show 0 ≤ at_ by omega)
    by_cases hhi : usedOf l ≤ n
    · go_wp2_with fail
      go_ret
      refine ⟨?_, rfl⟩
      have : b = false := by
        cases hbb : b with
        | false => rfl
        | true => obtain ⟨h2, h3⟩ := HB.out.1 hbb; have := starts_bd h3; omega
      rw [this]; rfl
    · have hq : n / 64 < bs.length := by have := HBi.out.lo; omega
      have hc := HcF.out (n / 64) hq
      unfold wv at hc
      have hbl := HBi.out.lt _ (List.getElem_mem hq)
      have hwr : IntKind.i64.wrap (8 * (n : Int)) = 8 * (n : Int) := Go.IntWalk.i64_in _ (by omega)
      have e := bit_is bs[n / 64] (n % 64) hbl (Nat.mod_lt _ (by decide))
      have hv : (bits .and .u64 ((bs[n / 64] : Int) / 2 ^ (n % 64)) 1 == 1) = b := by
        rw [e, Bool.eq_iff_iff, HB.out]
        have := HBi.out.bit n (by omega)
        rw [List.getD_eq_getElem?_getD, List.getElem?_eq_getElem hq] at this
        rw [show (bs[n / 64]).testBit (n % 64) = ((some bs[n / 64]).getD 0).testBit (n % 64) from rfl, this]
        simp
      have HV := Lib.hid hv; clear hv e
      go_wp2_with fail
      go_ret
      exact ⟨congrArg (fun b => Ending.returned (Value.bool b)) HV.out, rfl⟩
set_option maxHeartbeats 2000000 in
theorem used_walk (w : World) (own : Own) (a p size : Nat) (l : List AO) (H : IsAr w own a p size l) :
    Calls Tryz.prog 40 #[.pointer (some ⟨p, 0, none⟩)] w fun e w' => e = .returned (.int .i64 (usedOf l : Int)) ∧ w = w' := by
  obtain ⟨gw, gf, cw, cf, bs, -, c0, c1, c2, -, -⟩ := H.cells
  clear H
  go_enter Tryz.func40, Tryz.ntmps40
  go_wp2_with fail
  go_ret
  exact ⟨rfl, rfl⟩
set_option maxHeartbeats 2000000 in
theorem size_walk (w : World) (own : Own) (a p size : Nat) (l : List AO) (H : IsAr w own a p size l) :
    Calls Tryz.prog 39 #[.pointer (some ⟨p, 0, none⟩)] w fun e w' => e = .returned (.int .i64 (size : Int)) ∧ w = w' := by
  obtain ⟨gw, gf, cw, cf, bs, -, c0, c1, c2, -, -⟩ := H.cells
  clear H
  go_enter Tryz.func39, Tryz.ntmps39
  go_wp2_with fail
  go_ret
  exact ⟨rfl, rfl⟩
theorem and255 (n : Nat) (hn : n < 18446744073709551616) : bits .and .u64 (n : Int) 255 = ((n % 256 : Nat) : Int) := by
  have := (bits_nat .u64 64 (by decide) (fun n h0 h1 => by rw [IntKind.wrap_u64]; omega) n 255 hn (by decide)).1
  rw [show ((255 : Nat) : Int) = 255 from rfl] at this
  rw [this, show (255 : Nat) = 2 ^ 8 - 1 from rfl, Nat.and_two_pow_sub_one_eq_mod]
theorem and24 (n : Nat) (hn : n < 18446744073709551616) : bits .and .u64 (n : Int) 16777215 = ((n % 16777216 : Nat) : Int) := by
  have := (bits_nat .u64 64 (by decide) (fun n h0 h1 => by rw [IntKind.wrap_u64]; omega) n 16777215 hn (by decide)).1
  rw [show ((16777215 : Nat) : Int) = 16777215 from rfl] at this
  rw [this, show (16777215 : Nat) = 2 ^ 24 - 1 from rfl, Nat.and_two_pow_sub_one_eq_mod]
set_option maxHeartbeats 2000000 in
theorem split_walk (k r x : Nat) (h : Shape k r x) (w : World) :
    Calls Tryz.prog 169 #[.int .u64 (headW k r x : Int)] w fun e w' => e = .returned (.tuple #[.int .i64 (k : Int), .int .i64 (r : Int), .int .i64 (x : Int), .int .i64 0]) ∧ w = w' := by
  have hl := h.lt
  obtain ⟨h1, h2, h3, h4⟩ := h
  obtain ⟨n, hn⟩ : ∃ n, headW k r x = n := ⟨_, rfl⟩
  rw [hn] at hl ⊢
  unfold headW at hn
  have e1 : bits .and .u64 (n : Int) 255 = (k : Int) := by rw [and255 n (by omega)]; omega
  have e2 : bits .and .u64 ((n : Int) / 256) 16777215 = (r : Int) := by rw [show (n : Int) / 256 = ((n / 256 : Nat) : Int) by omega, and24 _ (by omega)]; omega
  have e3 : bits .and .u64 ((n : Int) / 4294967296) 16777215 = (x : Int) := by rw [show (n : Int) / 4294967296 = ((n / 4294967296 : Nat) : Int) by omega, and24 _ (by omega)]; omega
  have e4 : ((n : Int) / 72057594037927936 == 0) = true := by rw [beq_iff_eq]; omega
  have e4' : ((n : Int) / 72057594037927936 != 0) = false := by rw [bne_eq_false_iff_eq]; omega
  have e5 : ((k : Int) == 0) = false := by rw [beq_eq_false_iff_ne]; omega
  clear hn
  go_enter Tryz.func169, Tryz.ntmps169
  go_wp2_with fail
  exact bodyPost_ret (results_tmp4 rfl _ _ _) rfl ⟨rfl, rfl⟩
set_option maxHeartbeats 2000000 in
theorem head_walk (k r x : Nat) (h : Shape k r x) (w : World) :
    Calls Tryz.prog 164 #[.int .i64 (k : Int), .int .i64 (r : Int), .int .i64 (x : Int)] w fun e w' => e = .returned (.tuple #[.int .u64 (headW k r x : Int), .int .i64 0]) ∧ w = w' := by
  obtain ⟨h1, h2, h3, h4⟩ := h
  have he : bits .or .u64 (bits .or .u64 (k : Int) ((r : Int) * 256)) ((x : Int) * 4294967296) = (headW k r x : Int) := by
    have wr := fun (n : Int) (h0 : 0 ≤ n) (h1 : n < 2 ^ 64) => show IntKind.u64.wrap n = n by rw [IntKind.wrap_u64]; omega
    rw [bits_join_low .u64 64 (by decide) wr 8 (k : Int) ((r : Int) * 256) (by omega) (by omega) (by omega) (by omega) (by omega) (by omega), bits_join_low .u64 64 (by decide) wr 32 ((k : Int) + (r : Int) * 256) ((x : Int) * 4294967296) (by omega) (by omega) (by omega) (by omega) (by omega) (by omega)]
    unfold headW; omega
  have HE := Lib.hid he; clear he
  go_enter Tryz.func164, Tryz.ntmps164
  go_wp2_with fail
  go_ret2
  exact ⟨congrArg (fun n : Int => Ending.returned (.tuple #[.int .u64 n, .int .i64 0])) HE.out, rfl⟩
set_option maxHeartbeats 2000000 in
theorem object_walk (w : World) (own : Own) (a p size : Nat) (l : List AO) (H : IsAr w own a p size l) (i : Nat) (hi : i < l.length) (k r x : Nat) (hs : Shape k r x) (hh : l[i].1 = headW k r x) (at_ : Int) (hat : at_ = (posOf l i : Int)) :
    Calls Tryz.prog 122 #[.pointer (some ⟨p, 0, none⟩), .int .i64 at_] w fun e w' => e = .returned (.tuple #[.int .i64 (k : Int), .int .i64 (r : Int), .int .i64 (x : Int), .int .i64 0]) ∧ w = w' := by
  have hpos := pos_used l i hi
  have hp1 := pos_pos l i
  have hfit := H.fit
  have hs2 := H.s2
  obtain ⟨gw, gf, cw, cf, bs, -, c0, c1, c2, -, l1, l2, cW, -, -, -, -, -, -, -, -, -⟩ := H.cells
  have hlen := block_len l
  have hos : 1 ≤ osize l[i] := by unfold osize; omega
  have hc := cW (posOf l i) (by omega)
  have e := head_at l i hi
  rw [List.getElem?_eq_getElem (by omega)] at e
  rw [Option.some.inj e, hh] at hc
  unfold wv at hc
  have hst : Starts l (posOf l i) := ⟨i, hi, rfl⟩
  have hl := hs.lt
  have hgone : bits .and .u64 (headW k r x : Int) 9223372036854775808 = 0 := by
    have := (bits_nat .u64 64 (by decide) (fun n h0 h1 => by rw [IntKind.wrap_u64]; omega) (headW k r x) 9223372036854775808 (by omega) (by decide)).1
    rw [show ((9223372036854775808 : Nat) : Int) = 9223372036854775808 from rfl] at this
    rw [this]
    have : headW k r x &&& 9223372036854775808 = 0 := by
      apply Nat.eq_of_testBit_eq
      intro j
      rw [Nat.testBit_and, Nat.zero_testBit, show (9223372036854775808 : Nat) = 2 ^ 63 from rfl, Nat.testBit_two_pow]
      by_cases e : 63 = j
      · subst e
        rw [Nat.testBit_lt_two_pow (by omega), Bool.false_and]
      · rw [decide_eq_false e, Bool.and_false]
    rw [this]; rfl
  obtain ⟨q, hq⟩ : ∃ q, posOf l i = q := ⟨_, rfl⟩
  obtain ⟨n, hn⟩ : ∃ n, headW k r x = n := ⟨_, rfl⟩
  rw [hq] at hpos hp1 hc hat hst
  rw [hn] at hc hl hgone
  have HN := Lib.hid hn; have HST := Lib.hid hst; have HS := Lib.hid hs; have HH := Lib.hid H
  clear hn hst hs H cW hlen e hq hh
  subst hat
  go_enter Tryz.func122, Tryz.ntmps122
  go_wp2_with fail
  refine (begins_walk w own a p size l HH.out (q : Int) (by omega) (by omega) true ⟨fun _ => ⟨by omega, by simpa using HST.out⟩, fun _ => rfl⟩).mono ?_
  rintro e w' ⟨rfl, rfl⟩
  go_wp2_with fail
  rw [← HN.out]
  refine (split_walk k r x HS.out w).mono ?_
  rintro e w' ⟨rfl, rfl⟩
  go_wp2_with fail
  exact bodyPost_ret (results_tmp4 rfl _ _ _) rfl ⟨rfl, rfl⟩
def FldPost (w : World) (own : Own) (a p : Nat) (l : List AO) (i r x : Nat) (e : Ending) (w' : World) : Prop :=
  ∃ A, e = .returned (.tuple #[.slice A (r + x) (r + x), .int .i64 (r : Int), .int .i64 0]) ∧ w = w' ∧
    (0 < r + x → ∃ gw cw, A = some ⟨gw, posOf l i + 1, none⟩ ∧ own gw = 3 * a + 11 ∧ w.cell? ⟨p, 1, none⟩ = some (.slice (some ⟨gw, 0, none⟩) (usedOf l) cw))
set_option maxHeartbeats 2000000 in
theorem fields_walk (w : World) (own : Own) (a p size : Nat) (l : List AO) (H : IsAr w own a p size l) (i : Nat) (hi : i < l.length) (k r x : Nat) (hs : Shape k r x) (hh : l[i].1 = headW k r x) (hf : l[i].2.length = r + x) (at_ : Int) (hat : at_ = (posOf l i : Int)) :
    Calls Tryz.prog 167 #[.pointer (some ⟨p, 0, none⟩), .int .i64 at_] w (FldPost w own a p l i r x) := by
  have hpos := pos_used l i hi
  have hp1 := pos_pos l i
  have hfit := H.fit
  have hs2 := H.s2
  obtain ⟨gw, gf, cw, cf, bs, -, c0, c1, c2, -, l1, l2, -, -, -, -, -, -, -, -, o2, -⟩ := H.cells
  have hos : osize l[i] = 1 + (r + x) := by unfold osize; omega
  rw [hos] at hpos
  have C1 := Lib.hid c1; have O2 := Lib.hid o2
  obtain ⟨q, hq⟩ : ∃ q, posOf l i = q := ⟨_, rfl⟩
  have HS := Lib.hid hs; have HH := Lib.hid H; have HHd := Lib.hid hh; have HQ := Lib.hid hq
  rw [hq] at hpos hp1 hat
  obtain ⟨_, _, hr2, hx2⟩ := hs
  clear hh H o2 hos hf hq
  subst hat
  go_enter Tryz.func167, Tryz.ntmps167
  go_wp2_with fail
  refine (object_walk w own a p size l HH.out i hi k r x HS.out HHd.out (q : Int) (by rw [HQ.out])).mono ?_
  rintro e w' ⟨rfl, rfl⟩
  by_cases h0 : r + x = 0
  · obtain rfl : r = 0 := by omega
    obtain rfl : x = 0 := by omega
    go_wp2_with fail
    all_goals
      go_ret3
      first
      | exact ⟨_, rfl, rfl, fun h => absurd h (by omega)⟩
      | (refine ⟨some ⟨gw, q + 1, none⟩, ?_, rfl, fun h => absurd h (by omega)⟩; simp)
  · go_wp2_with fail
    all_goals
      go_ret3
      refine ⟨some ⟨gw, q + 1, none⟩, ?_, rfl, fun _ => ⟨gw, cw, by rw [HQ.out], O2.out, C1.out⟩⟩
      have e1 : q + 1 + r + x - (q + 1) = r + x := by omega
      exact congrArg (fun n => Ending.returned (.tuple #[.slice (some ⟨gw, q + 1, none⟩) n n, .int .i64 (r : Int), .int .i64 0])) e1
def NewPost (w : World) (own : Own) (a size : Nat) (e : Ending) (w' : World) : Prop :=
  ∃ p own', e = .returned (.tuple #[.pointer (some ⟨p, 0, none⟩), .int .i64 0]) ∧ w.heap.size ≤ p ∧ Below w.heap.size w w' ∧ Ow own own' w ∧ IsAr w' own' a p size [] ∧ (∀ b, w'.heap.size ≤ b → own' b = 0)
theorem row_new {w : World} {g : Nat} (h : w.heap[g]? = some (.cells #[.int .u64 0] 22)) : Row w g 1 22 [wv 0] :=
  Row.close h (Nat.le_refl _) (by decide) rfl rfl
theorem ar_new (w : World) (own : Own) (a size : Nat) (h1 : 1 ≤ size) (h2 : size ≤ 1048576) (ho : ∀ b, w.heap.size ≤ b → own b = 0) (g1 g2 : Nat) (hg : g1 = w.heap.size ∧ g2 = w.heap.size + 1 ∨ g1 = w.heap.size + 1 ∧ g2 = w.heap.size) :
    NewPost w own a size (.returned (.tuple #[.pointer (some ⟨w.heap.size + 1 + 1, 0, none⟩), .int .i64 0])) (((w.alloc (.cells #[.int .u64 0] 22)).alloc (.cells #[.int .u64 0] 22)).alloc (.cells #[.int .i64 (size : Int), .slice (some ⟨g1, 0, none⟩) 1 1, .slice (some ⟨g2, 0, none⟩) 1 1] 145)).drew := by
  obtain ⟨W, hW⟩ : ∃ W, (((w.alloc (.cells #[.int .u64 0] 22)).alloc (.cells #[.int .u64 0] 22)).alloc (.cells #[.int .i64 (size : Int), .slice (some ⟨g1, 0, none⟩) 1 1, .slice (some ⟨g2, 0, none⟩) 1 1] 145)).drew = W := ⟨_, rfl⟩
  have hsz : W.heap.size = w.heap.size + 3 := by rw [← hW, drew_heap]; simp
  have b0 : W.heap[w.heap.size]? = some (.cells #[.int .u64 0] 22) := by
    rw [← hW, drew_heap, alloc_at, if_neg (by simp; omega), alloc_at, if_neg (by simp), alloc_at, if_pos rfl]
  have b1 : W.heap[w.heap.size + 1]? = some (.cells #[.int .u64 0] 22) := by
    rw [← hW, drew_heap, alloc_at, if_neg (by simp), alloc_at, if_pos (by simp)]
  have b2 : W.heap[w.heap.size + 1 + 1]? = some (.cells #[.int .i64 (size : Int), .slice (some ⟨g1, 0, none⟩) 1 1, .slice (some ⟨g2, 0, none⟩) 1 1] 145) := by
    rw [← hW, drew_heap, alloc_at, if_pos (by simp)]
  have hbel : Below w.heap.size w W := by
    rw [← hW]
    exact ((((Below.refl _ w).alloc (Nat.le_refl _) _).alloc (by simp) _).alloc (by simp; omega) _).drew
  rw [hW]
  refine ⟨w.heap.size + 1 + 1, fun b => if b < w.heap.size then own b else if b = g1 then 3 * a + 11 else if b = g2 then 3 * a + 12 else if b = w.heap.size + 2 then 3 * a + 10 else 0, rfl, by omega, hbel, fun b hb => if_pos hb, ⟨⟨g1, g2, 1, 1, [0], b2, ?_, ?_, bits_new, ?_, ?_, ?_⟩, h1, h2, h1, fun o h => by cases h⟩, fun b hb => ?_⟩
  · rcases hg with ⟨rfl, rfl⟩ | ⟨rfl, rfl⟩
    · exact row_new b0
    · exact row_new b1
  · rcases hg with ⟨rfl, rfl⟩ | ⟨rfl, rfl⟩
    · exact row_new b1
    · exact row_new b0
  · rw [if_neg (by omega), if_neg (by omega), if_neg (by omega), if_pos rfl]
  · rw [if_neg (by omega), if_pos rfl]
  · rw [if_neg (by omega), if_neg (by omega), if_pos rfl]
  · dsimp only
    rw [if_neg (by omega), if_neg (by omega), if_neg (by omega), if_neg (by omega)]
set_option maxHeartbeats 2000000 in
set_option maxRecDepth 100000 in
theorem arNew_walk (w : World) (own : Own) (a size : Nat) (h1 : 1 ≤ size) (h2 : size ≤ 1048576) (ho : ∀ b, w.heap.size ≤ b → own b = 0) :
    Calls Tryz.prog 68 #[.int .i64 (size : Int)] w (NewPost w own a size) := by
  have HO := Lib.hid ho; clear ho
  have hmk : ∀ w : World, (Instr.makeSlice 143 (.int .i64 1) (.int .i64 1)).run Tryz.prog w = .ok (.slice (some ⟨w.heap.size, 0, none⟩) 1 1) (w.alloc (.cells #[.int .u64 0] 22)) := fun w => by
    have := run_make_row' (P := Tryz.prog) 143 22 (.int .u64 0) 8 Tryz.underlying143 (by kernel_rfl) rfl .i64 .i64 1 (by omega) (by omega) w
    rw [show madeCells #[Value.int .u64 0] 1 = #[.int .u64 0] by kernel_rfl] at this
    exact this
  go_enter Tryz.func68, Tryz.ntmps68
  go_wp2_with fail
  go_region
  all_goals
    go_wp2_with fail
    go_ret2
  · exact ar_new w own a size h1 h2 HO.out _ _ (.inl ⟨rfl, rfl⟩)
  · exact ar_new w own a size h1 h2 HO.out _ _ (.inr ⟨rfl, rfl⟩)
end Go.Proofs.YtglglknhifjbaaaGreatDoor.Sp
