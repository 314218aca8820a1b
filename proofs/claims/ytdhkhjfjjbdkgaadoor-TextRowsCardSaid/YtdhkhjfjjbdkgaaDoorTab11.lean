/- larderref11.Rows, larderlaw11.mark, named, rows. -/
import Derived.Test.YtdhkhjfjjbdkgaaDoorTab10
import Derived.Test.YtdhkhjfjjbdkgaaDoorTab6
import Derived.Deep.MidRow
import Derived.Great.BuildSlice
import Derived.Laws.IdiomStrings
namespace Go.Proofs.YtdhkhjfjjbdkgaaDoor.Tab
open Go.RowKit
set_option linter.unusedVariables false
set_option linter.unusedSimpArgs false
theorem at_dst {P : Program} {ops : Array Oper} {rest : List Oper} {o : Oper} {a : Act} {Q : Exit → Act → World → Prop} {W : World} {N : Tmp} (_hN : o.dst = some N) (h : wpList P ops Q (o :: rest) a W) : wpList P ops Q (o :: rest) a W := h
theorem wpList_buildSlice' {P : Program} {ops : Array Oper} {rest : List Oper} {o : Oper} {a : Act} {w : World} {Q : Exit → Act → World → Prop} (hg : o.guard = none) (t e : TypeId) (len size : Nat) (parts : Array (Nat × Operand)) (ho : o.op = .buildSlice t len parts)
    (cells : Array Value) (ie : TypeInfo) (z : Value)
    (hu : P.underlying t = some (.slice e)) (hie : P.info? e = some ie) (hz : ie.zero = some z) (hs : ie.size = size) (hsmall : ¬ len * size > 2 ^ 24) (hpos : ¬ len * size = 0)
    (hf : Instr.fill (fun i => some (i * size, size)) ((Array.range (len * size)).map (z.cells[· % z.cells.size]!)) (parts.map fun (i, x) => (i, a.eval x)).toList = some cells)
    (h : wpList P ops Q rest (a.put o.dst (.slice (some ⟨w.heap.size, 0, none⟩) len len)) (w.alloc (.cells cells e))) : wpList P ops Q (o :: rest) a w := by
  subst hs
  exact wpList_buildSlice hg t e len parts ho cells ie z hu hie hz hsmall hpos hf h
set_option maxHeartbeats 4000000 in
set_option maxRecDepth 100000 in
theorem ref16 (w : World) : Calls Tryd.prog 16 #[] w fun e w' => e = .returned (.slice (some ⟨w.heap.size, 0, none⟩) 25 25) ∧ Reads w' w.heap.size textC ∧ w.heap.size < w'.heap.size ∧ Below w.heap.size w w' := by
  obtain ⟨i8, ha0, ha1, ha2, ha3⟩ := info_parts info28
  obtain ⟨C, hC⟩ : ∃ C, C = (textC.flatMap Cmd.cells).toArray := ⟨_, rfl⟩
  have HC := Lib.hid hC
  clear hC
  go_enter Tryd.func16, Tryd.ntmps16
  go_wp2_with ((with_reducible refine at_dst (N := 26) rfl ?_); refine wpList_buildSlice' rfl 23 28 25 7 _ rfl C i8 _ Tryd.underlying23 ha0 ha1 ha2 (by decide) (by decide) (by rw [HC.out]; kernel_rfl) ?_)
  go_ret
  refine ⟨rfl, ?_, by simp, (Below.refl _ _).alloc (Nat.le_refl _) _⟩
  intro i j u hi hu
  have h := cells_flat textC i j u hi hu
  rw [World.cell?, heap_alloc_new, HC.out]
  simpa using h
/-- The name that is list i's. -/
def ms (i : Nat) : ByteArray := ⟨#[109, 97, 114, 107]⟩ ++ ⟨#[UInt8.ofNat (97 + i % 26), UInt8.ofNat (97 + i / 26)]⟩
set_option maxHeartbeats 2000000 in
theorem mark8 (i : Nat) (hi : i < 40) (w : World) : Calls Tryd.prog 8 #[.int .i64 (i : Int)] w fun e w' => e = .returned (.string (ms i)) ∧ Below w.heap.size w w' := by
  have ha : ((UInt8.ofNat (97 + i % 26)).toNat : Int) = 97 + (i : Int) % 26 := by rw [UInt8.toNat_ofNat']; omega
  have hb : ((UInt8.ofNat (97 + i / 26)).toNat : Int) = 97 + (i : Int) / 26 := by rw [UInt8.toNat_ofNat']; omega
  have hcv : Sem.run Tryd.prog (convert 38 9 (.slice (some ⟨w.heap.size, 0, none⟩) 2 2)) (w.alloc (.cells #[.int .u8 (97 + (i : Int) % 26), .int .u8 (97 + (i : Int) / 26)] 5)) = .ok (.string ⟨#[UInt8.ofNat (97 + i % 26), UInt8.ofNat (97 + i / 26)]⟩) (w.alloc (.cells #[.int .u8 (97 + (i : Int) % 26), .int .u8 (97 + (i : Int) / 26)] 5)) := by
    have h := run_convert_bytes_back (P := Tryd.prog) (w.alloc (.cells #[.int .u8 (97 + (i : Int) % 26), .int .u8 (97 + (i : Int) / 26)] 5)) 38 9 5 ⟨w.heap.size, 0, none⟩ 2 [UInt8.ofNat (97 + i % 26), UInt8.ofNat (97 + i / 26)] Tryd.underlying38 Tryd.underlying5 Tryd.underlying9 (fun j hj => by
      rw [add0, World.cell?, heap_alloc_new]
      match j, hj with
      | 0, _ => rw [← ha]; rfl
      | 1, _ => rw [← hb]; rfl)
    exact h
  have HE := Lib.hid (show (⟨#[109, 97, 114, 107]⟩ ++ ⟨#[UInt8.ofNat (97 + i % 26), UInt8.ofNat (97 + i / 26)]⟩ : ByteArray) = ms i from rfl)
  clear ha hb
  obtain ⟨sb, hsb⟩ : ∃ sb : ByteArray, sb = ⟨#[UInt8.ofNat (97 + i % 26), UInt8.ofNat (97 + i / 26)]⟩ := ⟨_, rfl⟩
  rw [← hsb] at hcv HE
  have hs2 : sb.size = 2 := by rw [hsb]; rfl
  clear hsb
  go_enter Tryd.func8, Tryd.ntmps8
  go_wp2_with fail
  go_ret
  refine ⟨?_, (Below.refl _ _).alloc (Nat.le_refl _) _⟩
  rw [← HE.out]; rfl
set_option maxHeartbeats 1000000 in
theorem named9 (b n c : Nat) (s : ByteArray) (w : World) (hn : n ≤ 1000000) (h : ∀ k, k < n → w.cell? ⟨b, k * 7, none⟩ = some (.string s)) :
    Calls Tryd.prog 9 #[.slice (some ⟨b, 0, none⟩) n c, .string s] w fun e w' => e = .returned (.bool true) ∧ w = w' := by
  have H := Lib.hid h; clear h
  go_enter Tryd.func9, Tryd.ntmps9
  go_wp2
  go_loop [5] (fun i => ∃ k : Nat, k ≤ n ∧ i = .int .i64 k) (fun i => n - (intOf i).toNat)
  case atStart => exact ⟨0, Nat.zero_le _, rfl⟩
  case round =>
    obtain ⟨k, hk, rfl⟩ := hrel
    by_cases hlt : k < n
    · have hc := H.out k hlt
      go_wp2
      go_round
      case rel => exact ⟨k + 1, by omega, by go_num⟩
      case measure => simp [intOf]; omega
    · go_wp2
      go_ret
      exact ⟨rfl, rfl⟩
theorem range_of {w : World} {b i : Nat} {xs : List Cmd} (h : Reads w b xs) (hi : i < xs.length) : w.rangeAt b (i * 7) (xs.getD i zc).cells := fun j v hv => h i j v hi hv
set_option maxHeartbeats 2000000 in
theorem rows7 (b c : Nat) (w : World) (h : Reads w b textC) (hb : b < w.heap.size) : Calls Tryd.prog 7 #[.slice (some ⟨b, 0, none⟩) 25 c] w fun e w' => e = .returned (.bool true) ∧ Below w.heap.size w w' := by
  have H := Lib.hid h; clear h
  go_enter Tryd.func7, Tryd.ntmps7
  go_wp2_with fail
  refine (ref16 _).mono ?_
  rintro e w1 ⟨rfl, hr, hlt, hB⟩
  have HR := Lib.hid hr; have HB := Lib.hid hB; clear hr hB
  go_wp2_with fail
  go_loopw [4] (fun i wr => ∃ k : Nat, k ≤ 25 ∧ i = .int .i64 k ∧ Below w1.heap.size w1 wr) (fun i _ => 25 - (intOf i).toNat)
  case atStart => exact ⟨0, by omega, rfl, Below.refl _ _⟩
  case round =>
    obtain ⟨k, hk, rfl, hC⟩ := hrel
    have HC := Lib.hid hC; clear hC
    by_cases hlt4 : k < 25
    · have hsz := HC.out.size
      have r1 := range_of (Reads_below (bel HB.out HC.out) hb H.out) (i := k) (by rw [textC_len]; exact hlt4)
      have r2 := range_of (Reads_below HC.out hlt HR.out) (i := k) (by rw [textC_len]; exact hlt4)
      obtain ⟨⟨nm, ar, wb, fi, la, st, co⟩, hc⟩ : ∃ c, textC.getD k zc = c := ⟨_, rfl⟩
      rw [hc] at r1 r2
      clear hc
      have R1 := Lib.hid r1; have R2 := Lib.hid r2
      have a0 : wr.cell? ⟨b, k * 7, none⟩ = some (.string nm) := r1 0 _ rfl
      have a1 : wr.cell? ⟨b, k * 7 + 1, none⟩ = some (.int .i64 ar) := r1 1 _ rfl
      have a2 : wr.cell? ⟨b, k * 7 + 2, none⟩ = some (.bool wb) := r1 2 _ rfl
      have a3 : wr.cell? ⟨b, k * 7 + 3, none⟩ = some (.int .i64 fi) := r1 3 _ rfl
      have a4 : wr.cell? ⟨b, k * 7 + 4, none⟩ = some (.int .i64 la) := r1 4 _ rfl
      have a5 : wr.cell? ⟨b, k * 7 + 5, none⟩ = some (.int .i64 st) := r1 5 _ rfl
      have a6 : wr.cell? ⟨b, k * 7 + 6, none⟩ = some (.int .i64 co) := r1 6 _ rfl
      have c0 : wr.cell? ⟨w.heap.size, k * 7, none⟩ = some (.string nm) := r2 0 _ rfl
      have c1 : wr.cell? ⟨w.heap.size, k * 7 + 1, none⟩ = some (.int .i64 ar) := r2 1 _ rfl
      have c2 : wr.cell? ⟨w.heap.size, k * 7 + 2, none⟩ = some (.bool wb) := r2 2 _ rfl
      have c3 : wr.cell? ⟨w.heap.size, k * 7 + 3, none⟩ = some (.int .i64 fi) := r2 3 _ rfl
      have c4 : wr.cell? ⟨w.heap.size, k * 7 + 4, none⟩ = some (.int .i64 la) := r2 4 _ rfl
      have c5 : wr.cell? ⟨w.heap.size, k * 7 + 5, none⟩ = some (.int .i64 st) := r2 5 _ rfl
      have c6 : wr.cell? ⟨w.heap.size, k * 7 + 6, none⟩ = some (.int .i64 co) := r2 6 _ rfl
      clear r1 r2
      go_wp2_with fail
      have hne : b ≠ wr.heap.size := by have := HC.out.size; have := HB.out.size; omega
      have hne2 : w.heap.size ≠ wr.heap.size := by omega
      go_region_held3 (fun w' => w'.cell? ⟨b, k * 7, none⟩ = some (.string nm) ∧ w'.cell? ⟨b, k * 7 + 1, none⟩ = some (.int .i64 ar) ∧ w'.cell? ⟨b, k * 7 + 2, none⟩ = some (.bool wb) ∧ w'.cell? ⟨b, k * 7 + 3, none⟩ = some (.int .i64 fi) ∧ w'.cell? ⟨b, k * 7 + 4, none⟩ = some (.int .i64 la) ∧ w'.cell? ⟨b, k * 7 + 5, none⟩ = some (.int .i64 st) ∧ w'.cell? ⟨b, k * 7 + 6, none⟩ = some (.int .i64 co) ∧ w'.cell? ⟨w.heap.size, k * 7, none⟩ = some (.string nm) ∧ w'.cell? ⟨w.heap.size, k * 7 + 1, none⟩ = some (.int .i64 ar) ∧ w'.cell? ⟨w.heap.size, k * 7 + 2, none⟩ = some (.bool wb) ∧ w'.cell? ⟨w.heap.size, k * 7 + 3, none⟩ = some (.int .i64 fi) ∧ w'.cell? ⟨w.heap.size, k * 7 + 4, none⟩ = some (.int .i64 la) ∧ w'.cell? ⟨w.heap.size, k * 7 + 5, none⟩ = some (.int .i64 st) ∧ w'.cell? ⟨w.heap.size, k * 7 + 6, none⟩ = some (.int .i64 co)) (go_keep) (fail)
      all_goals
        clear a0 a1 a2 a3 a4 a5 a6 c0 c1 c2 c3 c4 c5 c6
        go_wp2_with fail
        go_roundw
        case rel =>
          exact ⟨k + 1, by omega, by go_num, ((HC.out.alloc hsz _).alloc (by simp; omega) _).drew⟩
        case measure => simp [intOf]; omega
    · go_wp2_with fail
      go_ret
      exact ⟨rfl, bel HB.out HC.out⟩
end Go.Proofs.YtdhkhjfjjbdkgaaDoor.Tab
