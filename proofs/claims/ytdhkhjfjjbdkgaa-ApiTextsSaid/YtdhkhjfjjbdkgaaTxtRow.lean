/- ApiTexts: every error of a command has its text, every other number of those asked has none, and Bad makes its reply. No conditions. -/
import Derived.Test.YtdhkhjfjjbdkgaaRows
import Derived.Test.YtdhkhjfjjbdkgaaTxt2
import Derived.LoopTactic
import Derived.ProofKit
import Derived.OpenShut
import Derived.ShutString
import Derived.ChangeOld
import Derived.SizedLaws
namespace Go.Proofs.Ytdhkhjfjjbdkgaa.apiTexts
open Go.ChangeShapes Go.WideShapes Go.ChangeAt Go.RowKit
open Go.ChangeMaps (open_string shut_string)
set_option linter.unusedVariables false
theorem own : ownKnob Try.prog.godebug = none := by kernel_rfl
def leastInt : Int := -9223372036854775808
def mostInt : Int := 9223372036854775807
theorem bel {a b c : World} (h : Below a.heap.size a b) (k : Below b.heap.size b c) : Below a.heap.size a c := h.trans (k.mono h.size)
set_option maxHeartbeats 1000000 in
theorem walk (w : World) : Calls Try.prog 6 #[] w fun e w' => e = .returned (.bool true) ∧ Below w.heap.size w w' := by
  go_enter Try.func6, Try.ntmps6
  go_wp2
  go_loopw [1] (fun i wr => ∃ k : Int, -5 ≤ k ∧ k ≤ 1001 ∧ i = .int .i64 k ∧ Below w.heap.size w wr) (fun i _ => (1001 - intOf i).toNat)
  case atStart => exact ⟨-5, by omega, by omega, rfl, Below.refl _ _⟩
  case round =>
    obtain ⟨k, h0, h1, rfl, hB⟩ := hrel
    have HB := Lib.hid hB; clear hB
    by_cases hk : k ≤ 1000
    · go_wp2_with (go_at_call 16; refine (Txt.says k _ (by omega) (by omega)).mono ?_; rintro e w' ⟨rfl, hb⟩; have HC := Lib.hid hb; clear hb)
      go_roundw
      case rel => exact ⟨k + 1, by omega, by omega, by go_num, bel HB.out HC.out⟩
      case measure => simp [intOf]; omega
    · go_wp2_with fail
      refine (Txt.text 312 _ (by omega) (by omega)).mono ?_
      rintro e w1 ⟨rfl, hb⟩
      have HC := Lib.hid hb; clear hb
      rw [show Txt.txt 312 = ⟨#[79, 79, 77]⟩ from by decide]
      go_wp2_with fail
      refine (Txt.says _ _ (by omega) (by omega)).mono ?_
      rintro e w2 ⟨rfl, hb⟩
      have HD := Lib.hid hb; clear hb
      go_wp2_with fail
      refine (Txt.says _ _ (by omega) (by omega)).mono ?_
      rintro e w3 ⟨rfl, hb⟩
      have HE := Lib.hid hb; clear hb
      go_wp2_with fail
      go_ret
      exact ⟨rfl, bel (bel (bel HB.out HC.out) HD.out) HE.out⟩
set_option maxRecDepth 100000 in
theorem lifted (os : Os) (started : os.Started) (H : Type) (enc : TypeId × Value → H) :
    ReturnsInHanded {} Try.checked os 6 .any (Rows.apiTextsSpec.pre6 enc Try.prog Try.f6 Rows.apiTextsRow.domain false) (Rows.apiTextsSpec.post enc Try.prog Try.f6 false true false false) := by
  refine returnsInHanded_of_change_sized (C := Try.checked) own started (by kernel_rfl) Try.func6
    (ChangeSpec.witness6 (enc := enc) (C := Try.checked) false ⟨#[], #[], []⟩ 8 (by kernel_rfl) (by kernel_rfl) (by kernel_rfl) (by kernel_rfl)) ?_
  intro W base args ds gs before hval0 hW hcnd hsz0 _
  have hsz : (DataW.weightsEach Try.prog (Try.f6.params.toList ++ Rows.apiTextsSpec.plain.varTypes Try.prog) (ds ++ gs)).all (· ≤ reachBytes) = true := hsz0
  have hval : ∀ (j : Nat) t v, Try.f6.params[j]? = some t → args[j]? = some v → Value.okWide Try.prog W .any base t v := hval0
  have hW' := hW
  obtain ⟨p, q, hA0, hV, rfl, hfz, hnd⟩ := hW
  have hA : DataW.TrodAll enc Try.prog W 0 (fun _ => true) true Try.f6.params.toList args.toList ds p := hA0
  rw [Try.params6] at hA hval hsz
  obtain ⟨rfl, rfl, rfl⟩ := trodAll_none hA
  obtain ⟨rfl, rfl⟩ := trodVars_none hV
  clear hA0 hval0 hsz0 hsz
  refine (walk W).mono fun e W' ⟨he, bel⟩ => ?_
  subst he
  exact ⟨_, rfl, _, _, _, [], _, [], hW', trodAll_mk1 (shut_bool Try.underlying4 _), trodAll_mk0, rfl, bel.frame _, fun h => by cases h⟩
theorem over : Rows.apiTextsRow.holds Try.pinned (OpenSpec.ofChange Rows.apiTextsSpec) :=
  OpenClaim.holds_of_wide 6 Try.f6 rfl rfl rfl rfl rfl rfl rfl ⟨rfl, rfl, rfl, rfl, rfl⟩ rfl rfl rfl rfl rfl (by kernel_rfl) Try.func6 (by kernel_rfl)
    (of_decide_eq_true (by kernel_rfl)) (by unfold Func.isWrapper; first | (rw [if_pos (by decide +kernel)]; kernel_rfl) | (rw [if_neg (by decide +kernel)]; exact ⟨rfl, rfl⟩))
    (fun os started H enc _ => lifted os started H enc)
theorem proved : Rows.ApiTextsSaid := over
#print axioms proved
end Go.Proofs.Ytdhkhjfjjbdkgaa.apiTexts
namespace Go.Proofs.Ytdhkhjfjjbdkgaa
/-- The row, under a short name, for the claim. -/
theorem apiTexts_holds : Rows.ApiTextsSaid := apiTexts.proved
end Go.Proofs.Ytdhkhjfjjbdkgaa
