/- TextRows: text.Commands tells the same rows in each of many lists at once, whatever was done to the other lists. Conditions: the table holds what the program's text lays (the card ties it). -/
import Derived.Test.YtdhkhjfjjbdkgaaDoorTab9
import Derived.Test.YtdhkhjfjjbdkgaaDoorTab14
import Derived.Test.YtdhkhjfjjbdkgaaDoorTie
import Derived.Test.YtdhkhjfjjbdkgaaDoorCards
import Derived.SevenTiedAt
namespace Go.Proofs.YtdhkhjfjjbdkgaaDoor.textRows
open Go.ChangeShapes Go.WideShapes Go.ChangeAt Go.RowKit Go.Proofs.YtdhkhjfjjbdkgaaDoor.Tab
set_option linter.unusedVariables false
abbrev laids : List (String × DataW Unit) := [("larder/text.rows", Rows.laid_larder_text_rows)]
theorem own : ownKnob Tryd.prog.godebug = none := by kernel_rfl
theorem gVar : Tryd.prog.globalNamed "larder/text.rows" = some 0 := by kernel_rfl
theorem tVar : (Tryd.prog.globals[0]?).map (·.type) = some 37 := by kernel_rfl
theorem cellsT : Tryd.prog.cellsOf 37 = 175 := by kernel_rfl
theorem datum_is {H : Type} : (Rows.laid_larder_text_rows : DataW H) = .agg (textC.map Cmd.data) := by kernel_rfl
theorem door_met (os : Os) (args : Array Value) : laidMetH Tryd.prog laids ((World.doorLaid Tryd.prog 400 os).forCall (fun _ _ => 0) ⟨#[], args, []⟩).memory :=
  laidMetH_of_parts3 (fuel := 8) (laidMet_of_run' 8 (by kernel_rfl) (by kernel_rfl)) (by kernel_rfl) (by kernel_rfl)
theorem of_laid {W : World} (h : laidMetH Tryd.prog laids W) : ∃ t fr, W.heap[0]? = some (.cells (textC.flatMap Cmd.cells).toArray t fr) := by
  rw [MakeChecks.laidMetH_plain _ _ _ (by kernel_rfl)] at h
  obtain ⟨ps, ⟨g0, t0, cs0, f0, p0, q0, hg0, ht0, hv0, hd0, _, _⟩, _⟩ := h
  obtain rfl := Option.some.inj (gVar.symm.trans hg0)
  obtain rfl := Option.some.inj (tVar.symm.trans ht0)
  rw [datum_is] at hd0
  have e := tab_of_trod (T := 37) (xs := textC) Tryd.underlying37 (by rw [cellsT]; rfl) hd0
  obtain ⟨t, fr, hh⟩ := heap_of_var gVar hv0
  refine ⟨t, fr, ?_⟩
  rw [hh, ← e]
set_option maxRecDepth 100000 in
theorem lifted (os : Os) (started : os.Started) (H : Type) (enc : TypeId × Value → H) :
    ReturnsInHanded {} Tryd.checked os 3 .any (fun w args => (Rows.textRowsSpec.pre enc Tryd.prog Tryd.f3 [] false w args ∧ laidMetH Tryd.prog laids w) ∧ sizedMet enc Tryd.prog Tryd.f3 (OpenSpec.ofChange Rows.textRowsSpec) false w args)
      (Rows.textRowsSpec.post enc Tryd.prog Tryd.f3 false true false false) := by
  refine returnsInHanded_of_change_and (C := Tryd.checked) (X := fun w _ => laidMetH Tryd.prog laids w) (fun _ _ _ hh h => h.of_heap hh) own started (by kernel_rfl) Tryd.func3
    (ChangeSpec.witness_shaped (enc := enc) (C := Tryd.checked) (os := os) (X := fun w _ => laidMetH Tryd.prog laids w) false (World.doorLaid Tryd.prog 400 os) #[] 8 rfl (World.shaped_of_RefB (by kernel_rfl) (by kernel_rfl)) (by kernel_rfl) (by kernel_rfl) (by kernel_rfl) (door_met os _)) ?_
  intro W base args ds gs before hval0 hW _ _ hL _
  have hval : ∀ (j : Nat) t v, Tryd.f3.params[j]? = some t → args[j]? = some v → Value.okWide Tryd.prog W .any base t v := hval0
  have hW' := hW
  obtain ⟨p, q, hA0, hV, rfl, hfz, hnd⟩ := hW
  have hA : DataW.TrodAll enc Tryd.prog W 0 (fun _ => true) true Tryd.f3.params.toList args.toList ds p := hA0
  rw [Tryd.params3] at hA hval
  obtain ⟨rfl, rfl, rfl⟩ := trodAll_none hA
  obtain ⟨rfl, rfl⟩ := trodVars_none hV
  obtain ⟨t, fr, hg⟩ := of_laid hL
  clear hA0 hval0
  refine (text_walk W t fr hg).mono fun e W' ⟨he, bel⟩ => ?_
  subst he
  exact ⟨_, rfl, _, _, _, [], _, [], hW', trodAll_mk1 (shut_bool Tryd.underlying4 _), trodAll_mk0, rfl, bel.frame _, fun h => by cases h⟩
theorem over : Rows.TextRowsSaid :=
  OpenClaim.holds_of_wide 3 Tryd.f3 rfl rfl rfl rfl rfl rfl rfl ⟨rfl, rfl, rfl, rfl, rfl⟩ rfl rfl rfl rfl rfl (by kernel_rfl) Tryd.func3 (by kernel_rfl)
    (of_decide_eq_true (by kernel_rfl)) (by unfold Func.isWrapper; first | (rw [if_pos (by decide +kernel)]; kernel_rfl) | (rw [if_neg (by decide +kernel)]; exact ⟨rfl, rfl⟩))
    (fun os started H enc _ => lifted os started H enc)
theorem card : Rows.TextRowsCardSaid :=
  Claim7.holds_tied_plain_at .later [] [.data] true (true, "68b25a31a2f9ee233b727bc9c545b6d4c3a2f65b906ce48f7a5eeb9bfae13b4d") false
    over (fun _ h => by cases h) (by kernel_rfl) (fun _ h => by cases h) textRows_row_tie rfl ⟨rfl, rfl⟩ (by kernel_rfl) rfl
    (fun f fn hf hfn => by
      obtain rfl : f = 3 := Option.some.inj ((show Tryd.prog.funcNamed Rows.textRowsRow.func = some 3 by kernel_rfl).symm.trans hf) |>.symm
      obtain rfl : fn = Tryd.f3 := (Option.some.inj (Tryd.func3.symm.trans hfn)).symm
      exact ⟨by kernel_rfl, fun j t ht => by
        rw [Tryd.params3] at ht
        simp at ht⟩)
    (by kernel_rfl)
#print axioms card
end Go.Proofs.YtdhkhjfjjbdkgaaDoor.textRows
namespace Go.Proofs.YtdhkhjfjjbdkgaaDoor
/-- The card, under a short name, for the claim. -/
theorem textRows_card : Rows.TextRowsCardSaid := textRows.card
end Go.Proofs.YtdhkhjfjjbdkgaaDoor
