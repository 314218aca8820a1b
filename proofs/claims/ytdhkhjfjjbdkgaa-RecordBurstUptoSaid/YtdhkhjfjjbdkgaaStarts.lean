/- The record that the statements of records begin with. -/
import Derived.Test.YtdhkhjfjjbdkgaaRLx3
import Derived.Test.YtdhkhjfjjbdkgaaRLx2b
import Derived.Test.YtdhkhjfjjbdkgaaCopy
import Derived.Lib.SlBytesConst
namespace Go.Proofs.Ytdhkhjfjjbdkgaa.Rec
open Go.RowKit Go.Proofs.YtdhkhjfjjbdkgaaW.PrintWords Go.Proofs.YtdhkhjfjjbdkgaaW.PrintLast Go.Proofs.YtdhkhjfjjbdkgaaW.PrintMore
set_option linter.unusedVariables false
set_option linter.unusedSimpArgs false
def sline : List Int := ((record_Line.f 100 1 0 [⟨0, [[65]]⟩]).getD ([], 1)).1
theorem sline_len : sline.length = 56 := by decide +kernel
theorem sline_is : record_Line.f 100 1 0 [⟨0, [[65]]⟩] = some (sline, 0) := by decide +kernel
theorem sread_is0 : (record_Read.f 100 sline).map (fun r => (r.2, r.1.length, r.1.map (·.f0))) = some (56, 1, [1]) := by decide +kernel
theorem sread_is : ∃ x : S33, x.f0 = 1 ∧ record_Read.f 100 sline = some ([x], 56) := by
  have h := sread_is0
  cases hq : record_Read.f 100 sline with
  | none => rw [hq] at h; cases h
  | some r =>
    rw [hq] at h
    simp only [Option.map_some, Option.some.injEq, Prod.mk.injEq] at h
    obtain ⟨h1, h2, h3⟩ := h
    obtain ⟨l, n⟩ := r
    match l, h2, h3 with
    | [x], _, h3 => exact ⟨x, by simpa using h3, by simp at h1; rw [h1]⟩
theorem row_one {α : Type} {d : Kd α} {w : World} {g : Nat} {x : α} {cs : List Value} (hl : cs.length = d.sz) (hk : d.K w x cs) (hc : ∀ i u, cs[i]? = some u → w.cell? ⟨g, i, none⟩ = some u) : d.C w (some ⟨g, 0, none⟩) 1 [x] := by
  refine ⟨rfl, by decide, fun _ => ⟨_, rfl, fun j p hj => ?_⟩⟩
  match j, hj with
  | 0, hj =>
    obtain rfl : x = p := by simpa using hj
    refine ⟨cs, hl, hk, fun i u hi => ?_⟩
    rw [Nat.zero_mul, Nat.zero_add, show (⟨g, 0, none⟩ : Addr).add i = ⟨g, i, none⟩ from by unfold Addr.add; split <;> simp_all]
    exact hc i u hi
set_option maxHeartbeats 4000000 in
set_option maxRecDepth 100000 in
theorem starts_walk (w : World) : Calls Try.prog 18 #[] w fun e w' => e = .returned (.bool true) ∧ Below w.heap.size w w' := by
  have kc := fun (w : World) (C : Array Value) (n c : Nat) => Lib.run_convert_bytes_const (P := Try.prog) w 37 5 C n c Try.underlying37 Try.underlying5
  go_enter Try.func18, Try.ntmps18
  go_wp2_with fail
  have hb1 : Below w.heap.size w (((w.alloc (.cells #[.int .u8 65] 5 (1, 2))).alloc (.cells #[.slice (some { block := w.heap.size, off := 0 }) 1 1] 37)).alloc (.cells #[.int .i64 0, .slice (some { block := w.heap.size + 1, off := 0 }) 1 1] 76)) :=
    (((Below.refl _ _).alloc (Nat.le_refl _) _).alloc (by simp) _).alloc (by simp; omega) _
  have hC : Kd.C k76 (((w.alloc (.cells #[.int .u8 65] 5 (1, 2))).alloc (.cells #[.slice (some { block := w.heap.size, off := 0 }) 1 1] 37)).alloc (.cells #[.int .i64 0, .slice (some { block := w.heap.size + 1, off := 0 }) 1 1] 76)) (some { block := w.heap.size + 1 + 1, off := 0 }) 1 [⟨0, [[65]]⟩] := by
    refine row_one (cs := [.int .i64 0, .slice (some { block := w.heap.size + 1, off := 0 }) 1 1]) rfl (k76_mk _ ⟨0, [[65]]⟩ (A1 := some { block := w.heap.size + 1, off := 0 }) (c1 := 1) (by decide) ?_) ?_
    · refine row_one (cs := [.slice (some { block := w.heap.size, off := 0 }) 1 1]) rfl ⟨some { block := w.heap.size, off := 0 }, 1, rfl, by decide, ?_⟩ ?_
      · refine row_one (cs := [.int .u8 65]) rfl rfl ?_
        intro i u hi
        match i, hi with
        | 0, hi => obtain rfl : Value.int .u8 65 = u := by simpa using hi
                   simp [go_sem]
                   show (match (w.alloc (Obj.cells #[Value.int IntKind.u8 65] 5 (1, 2))).heap[w.heap.size]? with | some (Obj.cells c elem frozen) => c[0]? | x => none) = some (Value.int IntKind.u8 65)
                   rw [heap_alloc_new]; rfl
      · intro i u hi
        match i, hi with
        | 0, hi => obtain rfl : Value.slice (some { block := w.heap.size, off := 0 }) 1 1 = u := by simpa using hi
                   simp [go_sem]
    · intro i u hi
      match i, hi with
      | 0, hi => obtain rfl : Value.int .i64 0 = u := by simpa using hi
                 simp [go_sem]
      | 1, hi => obtain rfl : Value.slice (some { block := w.heap.size + 1, off := 0 }) 1 1 = u := by simpa using hi
                 simp [go_sem]
  have HB1 := Aside0.mk hb1
  have HC := Aside0.mk hC
  clear hb1 hC kc
  refine (record_Line.calls 100 1 0 (some { block := w.heap.size + 1 + 1, off := 0 }) 1 [⟨0, [[65]]⟩] sline 0 _ HC.out (by decide) sline_is).mono ?_
  rintro e w1 ⟨v1, rfl, hv1, hb2⟩
  obtain ⟨A1, c1, rfl⟩ := Kd.R_slice hv1
  rw [sline_len]
  have HV1 := Aside0.mk (Kd.R_reads' hv1).2; have HB2 := Aside0.mk (HB1.out.trans (hb2.mono (by simp; omega)))
  clear hv1 hb2 HC HB1
  go_wp2_with fail
  have h2 := larderref0_Copy.calls A1 c1 sline sline w1 HV1.out.2 HV1.out.1 (by unfold larderref0_Copy.f; rw [if_pos (by rw [sline_len]; decide)])
  rw [sline_len] at h2
  refine h2.mono ?_
  rintro e w2 ⟨v2, rfl, hv2, hb3⟩
  obtain ⟨A2, c2, rfl⟩ := Kd.R_slice hv2
  rw [sline_len]
  have HV2 := Aside0.mk (Kd.R_reads' hv2).2; have HB3 := Aside0.mk (HB2.out.trans (hb3.mono HB2.out.size))
  clear hv2 hb3 h2 HB2 HV1
  go_wp2_with fail
  obtain ⟨x, hx, hr⟩ := sread_is
  have h3 := record_Read.calls 100 A2 c2 sline [x] 56 w2 HV2.out.2 HV2.out.1 hr
  rw [sline_len] at h3
  refine h3.mono ?_
  rintro e w3 ⟨v3, rfl, hv3, hb4⟩
  obtain ⟨A3, c3, rfl⟩ := Kd.R_slice hv3
  obtain ⟨ad, A4, c4, rfl, hc0, _⟩ := at_T33 (Kd.R_reads' hv3).2.2 0 (by simp) (by simp)
  have hx2 : (rd_T33 [x] 0).f0 = 1 := hx
  rw [hx2] at hc0
  have HB4 := Aside0.mk (HB3.out.trans (hb4.mono HB3.out.size))
  clear hv3 hb4 h3 HB3 HV2 hx hx2 hr
  have hc1 : w3.cell? ad = some (.int .i64 1) := by simpa [Addr.add] using hc0
  clear hc0
  go_wp2_with fail
  refine (larderlaw16_num.calls 0 0 _ rfl).mono ?_
  rintro e w4 ⟨rfl, nd, rfl⟩
  go_wp2_with fail
  go_ret
  exact ⟨rfl, HB4.out.trans (by first | exact Below.refl _ _ | exact below_drewN (Below.refl _ _) _ | exact pw_below_drewN (Below.refl _ _) _)⟩
end Go.Proofs.Ytdhkhjfjjbdkgaa.Rec
