/- larderref13.Commands: a new list of the table's rows. -/
import Derived.Test.YtdhkhjfjjbdkgaaDoorTab6
namespace Go.Proofs.YtdhkhjfjjbdkgaaDoor.Tab
open Go.RowKit
set_option linter.unusedVariables false
set_option linter.unusedSimpArgs false
theorem own_bel {w w' : World} {base : Nat} {v : Value} {n : Nat} {xs : List Value} (h : w.ownsRow base 28 7 v n xs) (hb : Below w.heap.size w w') : w'.ownsRow base 28 7 v n xs :=
  h.kept (grown_none (below_grown hb) none) (by
    cases hv : v.ownBlock with
    | none => exact .inl rfl
    | some g => exact .inr (by simp))
set_option maxHeartbeats 8000000 in
set_option maxRecDepth 100000 in
theorem ref13 (w : World) : Calls Tryd.prog 15 #[] w fun e w' => ∃ v, e = .returned v ∧ w'.ownsRow w.heap.size 28 7 v 29 (nestC.flatMap Cmd.cells) ∧ Below w.heap.size w w' := by
  obtain ⟨i8, ha0, ha1, ha2, ha3⟩ := info_parts info28
  have HB := Lib.hid (Below.refl w.heap.size w)
  have HN1 := Lib.hid nest1_one; have HN2 := Lib.hid nest2_one
  have tok : True := trivial
  go_enter Tryd.func15, Tryd.ntmps15
  go_wp2_with (first | (go_at_call 19; have _t := tok; refine (row19 _ _ _ _ _ _ _ _).mono ?_; rintro e w' ⟨rfl, hb⟩; replace HB := Lib.hid (bel HB.out hb); clear hb) | (at_builtin; have _t := tok; refine wpList_append_own _ rfl _ _ 23 rfl w.heap.size 28 i8 _ 7 64 Tryd.underlying23 ha0 ha1 ha2 ha3 rfl (by decide) _ 0 [] rfl (World.ownsRow_nil _ _ _ _) ⟨_, 0, none⟩ 13 13 nest1 rfl rfl (news_of _ nest1 28) HN1.out (by decide) (by decide) (Nat.le_trans HB.out.size (by simp)) ?_; intro v2 w2 ho2 hg2 _; have HO2 := Lib.hid (show w2.ownsRow w.heap.size 28 7 v2 13 nest1 from ho2); replace HB := Lib.hid ((HB.out.alloc HB.out.size _).grown hg2 (Nat.le_trans HB.out.size (by simp)) (fun b hb => absurd (show (Option.none : Option Nat) = some b from hb) (by simp))); clear ho2 hg2 tok))
  have tok : True := trivial
  go_wp2_with (first | (go_at_call 19; have _t := tok; refine (row19 _ _ _ _ _ _ _ _).mono ?_; rintro e w' ⟨rfl, hb⟩; replace HB := Lib.hid (bel HB.out hb); replace HO2 := Lib.hid (own_bel HO2.out hb); clear hb) | (at_builtin; have _t := tok; refine wpList_append_own _ rfl _ _ 23 rfl w.heap.size 28 i8 _ 7 64 Tryd.underlying23 ha0 ha1 ha2 ha3 rfl (by decide) _ 13 nest1 rfl (HO2.out.alloc _) ⟨_, 0, none⟩ 16 16 nest2 rfl rfl (news_of _ nest2 28) HN2.out (by decide) (by decide) (Nat.le_trans HB.out.size (by simp)) ?_; intro v3 w3 ho3 hg3 _; have HO3 := Lib.hid ho3; replace HB := Lib.hid ((HB.out.alloc HB.out.size _).grown hg3 (Nat.le_trans HB.out.size (by simp)) (fun b hb => (HO2.out.lt b hb).1)); clear ho3 hg3 tok))
  go_ret
  exact ⟨_, rfl, by rw [← nest_all]; exact HO3.out, HB.out⟩
end Go.Proofs.YtdhkhjfjjbdkgaaDoor.Tab

