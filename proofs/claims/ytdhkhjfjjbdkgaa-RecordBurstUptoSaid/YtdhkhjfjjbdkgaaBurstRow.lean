/- RecordBurst, where what it reads is of bulk at most 1048576: a log in which up to 64 bits side by side are turned is read just up to the record in which the first of them lies. No conditions. -/
import Derived.Test.YtdhkhjfjjbdkgaaRows
import Derived.Test.YtdhkhjfjjbdkgaaBurst
import Derived.WalkKit
import Derived.ProofKit
import Derived.OpenShut
import Derived.ShutString
import Derived.ChangeOld
import Derived.Below
import Derived.JoinedCond
import Derived.ReadAgain
namespace Go.Proofs.Ytdhkhjfjjbdkgaa.recordBurst
open Go.ChangeShapes Go.WideShapes Go.ChangeAt Go.RowKit
open Go.Proofs.Ytdhkhjfjjbdkgaa.Rec
set_option linter.unusedVariables false
theorem own : ownKnob Try.prog.godebug = none := by kernel_rfl
theorem laidOut : laidOutB Try.prog = true := by kernel_rfl
set_option maxRecDepth 100000 in
theorem lifted (os : Os) (started : os.Started) (H : Type) (enc : TypeId × Value → H) (F0 : Stop.Interp) :
    ReturnsInHanded {} Try.checked os 10 .any ((Rows.OpenSpec.upto Rows.recordBurstSpec).pre6 enc Try.prog Try.f10 Rows.recordBurstUptoRow.domain false) (((Rows.OpenSpec.upto Rows.recordBurstSpec).at F0).post enc Try.prog Try.f10 false true false false) := by
  refine returnsInHanded_of_cond (C := Try.checked) (s := Rows.OpenSpec.upto Rows.recordBurstSpec) (k := Rows.uptoSmall) rfl own started (by kernel_rfl) Try.func10
    (OpenSpec.witness (enc := enc) (C := Try.checked) (s := Rows.OpenSpec.upto Rows.recordBurstSpec) (k := Rows.uptoSmall) rfl false ⟨#[], #[.agg #[.int .i64 0, .int .u64 0, .slice none 0 0, .int .i64 0, .int .i64 0, .int .i64 0, .int .u64 0]], []⟩ 8 (by kernel_rfl) (by kernel_rfl) (by kernel_rfl)
      (x := ([.agg [.lit (.int .i64 0), .lit (.int .u64 0), .nil, .lit (.int .i64 0), .lit (.int .i64 0), .lit (.int .i64 0), .lit (.int .u64 0)]], [], [])) (by kernel_rfl) (by kernel_rfl) (by kernel_rfl)) ?_
  intro W base args ds gs before hval0 hW _ hk _
  have hval : ∀ (j : Nat) t v, Try.f10.params[j]? = some t → args[j]? = some v → Value.okWide Try.prog W .any base t v := hval0
  have hW' := hW
  obtain ⟨p, q, hA0, hV, rfl, hfz, hnd⟩ := hW
  have hA : DataW.TrodAll enc Try.prog W 0 (fun _ => true) true Try.f10.params.toList args.toList ds p := hA0
  rw [Try.params10] at hA hval
  obtain ⟨v0, vs0, d0, ds0, p0, q0, hargs, rfl, rfl, h0, r0⟩ := trodAll_cons hA
  obtain ⟨rfl, rfl, rfl⟩ := trodAll_nil r0
  obtain rfl : args = #[v0] := by cases args; simp_all
  obtain ⟨rfl, rfl⟩ := trodVars_none hV
  obtain ⟨cs0, rfl, _⟩ := okWide_struct Try.underlying59 (hval 0 59 v0 rfl rfl)
  have k0 := h0
  have lt0 : ∀ x ∈ p0, x.block < W.heap.size := by obtain ⟨m, hm⟩ := k0; exact DataW.trod_lt m _ _ _ hm
  obtain ⟨fuel, hf⟩ := h0
  obtain ⟨x, hx, hg, hb⟩ := opens_59 H enc W _ _ _ _ _ _ _ hf
  have hbulk : Rows.uptoBulk d0 ≤ 1048576 := by
    simp only [Rows.uptoSmall, List.append_nil, decide_eq_true_eq, Rows.uptoBulkAll] at hk
    omega
  obtain ⟨A, c, e, hlc, hC⟩ := cut_K hx
  have ecs : cs0 = #[.int .i64 x.1, .int .u64 x.2.1, .slice A x.2.2.1.length c, .int .i64 x.2.2.2.1, .int .i64 x.2.2.2.2.1, .int .i64 x.2.2.2.2.2.1, .int .u64 x.2.2.2.2.2.2] := by
    have e2 : cs0.toList = [.int .i64 x.1, .int .u64 x.2.1, .slice A x.2.2.1.length c, .int .i64 x.2.2.2.1, .int .i64 x.2.2.2.2.1, .int .i64 x.2.2.2.2.2.1, .int .u64 x.2.2.2.2.2.2] := e
    rw [← Array.toArray_toList (xs := cs0), e2]
  subst ecs
  clear hA0 hval0 hf
  have hbs : bGs x.2.2.1 ≤ 1048576 := by dsimp only at hb; omega
  refine (burst_ok x.1 x.2.1 A c x.2.2.1 x.2.2.2.1 x.2.2.2.2.1 x.2.2.2.2.2.1 x.2.2.2.2.2.2 W hC (by have := bGs_len x.2.2.1; omega) (wf_n hg.2.1) (fun G hG => grp_ok (hg.2.2.1 G hG) (by have := bGs_mem hG; omega))).mono fun e W' ⟨he, bel⟩ => ?_
  subst he
  exact ⟨_, rfl, _, _, _, [], _, [], hW', trodAll_mk1 (shut_bool Try.underlying4 _), (trodAll_cons_mk (Below.trod laidOut (by kernel_rfl) (of_decide_eq_true (by kernel_rfl)) k0 bel lt0) trodAll_mk0), rfl, bel.frame _, fun h => by cases h⟩
theorem over : Rows.recordBurstUptoRow.holds Try.pinned (Rows.OpenSpec.upto Rows.recordBurstSpec) :=
  OpenClaim.holds_of_cond 10 Try.f10 rfl rfl rfl rfl rfl rfl rfl ⟨rfl, rfl, rfl, rfl, rfl⟩ rfl rfl rfl rfl rfl (by kernel_rfl) Try.func10 (by kernel_rfl)
    (of_decide_eq_true (by kernel_rfl)) (by unfold Func.isWrapper; first | (rw [if_pos (by decide +kernel)]; kernel_rfl) | (rw [if_neg (by decide +kernel)]; exact ⟨rfl, rfl⟩))
    (fun os started H enc _ F0 => lifted os started H enc F0)
theorem proved : Rows.RecordBurstUptoSaid := over
#print axioms proved
end Go.Proofs.Ytdhkhjfjjbdkgaa.recordBurst
namespace Go.Proofs.Ytdhkhjfjjbdkgaa
/-- The row, under a short name, for the claim. -/
theorem recordBurstUpto_holds : Rows.RecordBurstUptoSaid := recordBurst.proved
end Go.Proofs.Ytdhkhjfjjbdkgaa
