/- SpaceDraws: for every input the law returns true. No conditions. -/
import Derived.Test.YthdahjmkkdljbaaRows
import Derived.Test.YthdahjmkkdljbaaOpens
import Derived.Test.YthdahjmkkdljbaaSd
import Derived.WalkKit
import Derived.ProofKit
import Derived.OpenShut
import Derived.ShutString
import Derived.ChangeOld
import Derived.Below
import Derived.JoinedCond
import Derived.JoinedTies
import Derived.SizedLaws
import Derived.Test.YthdahjmkkdljbaaWSized
import Derived.ReadAgain
namespace Go.Proofs.Ythdahjmkkdljbaa.Sp
open Go.RowKit Go.Proofs.YthdahjmkkdljbaaW.PrintWords Go.Proofs.YthdahjmkkdljbaaW.PrintLast Go.Proofs.YthdahjmkkdljbaaW.PrintMore
set_option linter.unusedVariables false
abbrev FeedT := Int × List (List Int) × Int
abbrev kFeed : Kd FeedT := Kd.pair (Kd.int .u64) (Kd.pair (Kd.slice 42 (Kd.slice 5 (Kd.int .u8))) (Kd.int .i64))
def gFeed (x : FeedT) : Prop := (Lit.int .u64 x.1).wf = true ∧ (∀ b ∈ x.2.1, ∀ y ∈ b, (Lit.int .u8 y).wf = true) ∧ (Lit.int .i64 x.2.2).wf = true
set_option maxRecDepth 100000 in
theorem opens_feed : Opens (Kd.iso kFeed id) 25 gFeed (fun x => (1 + ((x.2.1.map (fun b => (b.map (fun _ => 1)).sum + 1)).sum + 1 + 1)) + 1) := by
  refine opens_struct (d := kFeed) (G := gFeed) (b := fun x => 1 + ((x.2.1.map (fun b => (b.map (fun _ => 1)).sum + 1)).sum + 1 + 1)) Try.underlying25 (by kernel_rfl) ?_ id id (fun _ => rfl)
  refine opensAt_cons (d := Kd.int .u64) (G := fun n => (Lit.int .u64 n).wf = true) (b := fun _ => 1) (G2 := fun (x : List (List Int) × Int) => (∀ b ∈ x.1, ∀ y ∈ b, (Lit.int .u8 y).wf = true) ∧ (Lit.int .i64 x.2).wf = true) (b2 := fun (x : List (List Int) × Int) => (x.1.map (fun b => (b.map (fun _ => 1)).sum + 1)).sum + 1 + 1) ?_ ?_ ?_
    (opensAt_cons (d := Kd.slice 42 (Kd.slice 5 (Kd.int .u8))) (G := fun l => ∀ b ∈ l, ∀ y ∈ b, (Lit.int .u8 y).wf = true) (b := fun l => (l.map (fun b => (b.map (fun _ => 1)).sum + 1)).sum + 1) (G2 := fun n => (Lit.int .i64 n).wf = true) (b2 := fun _ => 1) ?_ ?_ ?_ (opensAt_last ?_ ?_ ?_))
  · rfl
  · kernel_rfl
  · exact opens_int (by kernel_rfl)
  · rfl
  · kernel_rfl
  · exact opens_slice (by kernel_rfl) (by kernel_rfl) (opens_slice (by kernel_rfl) (by kernel_rfl) (opens_int (by kernel_rfl)))
  · rfl
  · kernel_rfl
  · exact opens_int (by kernel_rfl)
theorem feed_K {w : World} {x : FeedT} {cs : List Value} (h : (Kd.iso kFeed id).K w x cs) : ∃ A c, cs = [.int .u64 x.1, .slice A x.2.1.length c, .int .i64 x.2.2] ∧ Kd.C (Kd.slice 5 (Kd.int .u8)) w A x.2.1.length x.2.1 := by
  obtain ⟨_, _, rfl, rfl, ⟨_, _, rfl, ⟨A, c, rfl, h1, h2⟩, h3⟩⟩ := h
  obtain rfl := h3
  exact ⟨A, c, rfl, h2⟩
theorem wf_u64 {n : Int} (h : (Lit.int .u64 n).wf = true) : 0 ≤ n ∧ n < 18446744073709551616 := by
  simp only [Lit.wf, IntKind.min, IntKind.max, IntKind.signed, IntKind.bits, Bool.and_eq_true] at h
  simp at h
  omega
theorem wf_i64 {n : Int} (h : (Lit.int .i64 n).wf = true) : -9223372036854775808 ≤ n ∧ n ≤ 9223372036854775807 := by
  simp only [Lit.wf, IntKind.min, IntKind.max, IntKind.signed, IntKind.bits, Bool.and_eq_true] at h
  simp at h
  omega
theorem wf_u8 {n : Int} (h : (Lit.int .u8 n).wf = true) : 0 ≤ n ∧ n < 256 := by
  simp only [Lit.wf, IntKind.min, IntKind.max, IntKind.signed, IntKind.bits, Bool.and_eq_true] at h
  simp at h
  omega
theorem feed_of {w : World} {A : Option Addr} {l : List (List Int)} (h : Kd.C (Kd.slice 5 (Kd.int .u8)) w A l.length l) (hb : ∀ b ∈ l, ∀ y ∈ b, (Lit.int .u8 y).wf = true) : Feed w A l.length := by
  intro h0
  obtain ⟨ca, e, hc⟩ := h.2.2 h0
  refine ⟨ca, e, fun k hk => ?_⟩
  obtain ⟨cs, hcl, ⟨B, c, hcs, hle, hC⟩, hcell⟩ := hc k l[k] (List.getElem?_eq_getElem hk)
  subst hcs
  refine ⟨B, l[k], c, ?_, hle, hC, fun d hd => wf_u8 (hb _ (List.getElem_mem hk) d hd)⟩
  have := hcell 0 _ rfl
  rw [show (Kd.slice 5 (Kd.int .u8)).sz = 1 from rfl, Nat.mul_one] at this
  simpa using this
end Go.Proofs.Ythdahjmkkdljbaa.Sp
namespace Go.Proofs.Ythdahjmkkdljbaa.spaceDraws
open Go.ChangeShapes Go.WideShapes Go.ChangeAt Go.RowKit
open Go.Proofs.Ythdahjmkkdljbaa.Sp
set_option linter.unusedVariables false
theorem own : ownKnob Try.prog.godebug = none := by kernel_rfl
theorem laidOut : laidOutB Try.prog = true := by kernel_rfl
set_option maxRecDepth 100000 in
theorem lifted (os : Os) (started : os.Started) (H : Type) (enc : TypeId × Value → H) :
    ReturnsInHanded {} Try.checked os 3 .any (Rows.spaceDrawsSpec.pre6 enc Try.prog Try.f3 Rows.spaceDrawsRow.domain false) (Rows.spaceDrawsSpec.post enc Try.prog Try.f3 false true false false) := by
  refine returnsInHanded_of_change_sized (C := Try.checked) own started (by kernel_rfl) Try.func3
    (ChangeSpec.witness6 (enc := enc) (C := Try.checked) false ⟨#[], #[.agg #[.int .u64 0, .slice none 0 0, .int .i64 0]], []⟩ 8 (by kernel_rfl) (by kernel_rfl) (by kernel_rfl) (by kernel_rfl)) ?_
  intro W base args ds gs before hval0 hW _ _ _
  have hval : ∀ (j : Nat) t v, Try.f3.params[j]? = some t → args[j]? = some v → Value.okWide Try.prog W .any base t v := hval0
  have hW' := hW
  obtain ⟨p, q, hA0, hV, rfl, hfz, hnd⟩ := hW
  have hA : DataW.TrodAll enc Try.prog W 0 (fun _ => true) true Try.f3.params.toList args.toList ds p := hA0
  rw [Try.params3] at hA hval
  obtain ⟨v0, vs0, d0, ds0, p0, q0, hargs, rfl, rfl, h0, r0⟩ := trodAll_cons hA
  obtain ⟨rfl, rfl, rfl⟩ := trodAll_nil r0
  obtain rfl : args = #[v0] := by cases args; simp_all
  obtain ⟨rfl, rfl⟩ := trodVars_none hV
  obtain ⟨cs0, rfl, _⟩ := okWide_struct Try.underlying25 (hval 0 25 v0 rfl rfl)
  have k0 := h0
  have lt0 : ∀ x ∈ p0, x.block < W.heap.size := by obtain ⟨m, hm⟩ := k0; exact DataW.trod_lt m _ _ _ hm
  obtain ⟨fuel, hf⟩ := h0
  obtain ⟨x, hx, hg, hb⟩ := opens_feed H enc W _ _ _ _ _ _ _ hf
  obtain ⟨A, c, e, hC⟩ := feed_K hx
  have ecs : cs0 = #[.int .u64 x.1, .slice A x.2.1.length c, .int .i64 x.2.2] := by
    have e2 : cs0.toList = [.int .u64 x.1, .slice A x.2.1.length c, .int .i64 x.2.2] := e
    rw [← Array.toArray_toList (xs := cs0), e2]
  subst ecs
  clear hA0 hval0 hf
  have hu := wf_u64 hg.1
  have hi := wf_i64 hg.2.2
  obtain ⟨sd, hsd⟩ := Int.eq_ofNat_of_zero_le hu.1
  have hfeed := feed_of hC hg.2.1
  have hlen := hC.2.1
  have hok := draws_ok W sd (by omega) A x.2.1.length c x.2.2 hi.1 hi.2 (by omega) hfeed
  rw [← hsd] at hok
  refine hok.mono fun e W' ⟨he, bel⟩ => ?_
  subst he
  exact ⟨_, rfl, _, _, _, [], _, [], hW', trodAll_mk1 (shut_bool Try.underlying4 _), (trodAll_cons_mk (Below.trod laidOut (by kernel_rfl) (of_decide_eq_true (by kernel_rfl)) k0 bel lt0) trodAll_mk0), rfl, bel.frame _, fun h => by cases h⟩
theorem over : Rows.spaceDrawsRow.holds Try.pinned (OpenSpec.ofChange Rows.spaceDrawsSpec) :=
  OpenClaim.holds_of_wide 3 Try.f3 rfl rfl rfl rfl rfl rfl rfl ⟨rfl, rfl, rfl, rfl, rfl⟩ rfl rfl rfl rfl rfl (by kernel_rfl) Try.func3 (by kernel_rfl)
    (of_decide_eq_true (by kernel_rfl)) (by unfold Func.isWrapper; first | (rw [if_pos (by decide +kernel)]; kernel_rfl) | (rw [if_neg (by decide +kernel)]; exact ⟨rfl, rfl⟩))
    (fun os started H enc _ => lifted os started H enc)
theorem proved : Rows.SpaceDrawsSaid := over
#print axioms proved
end Go.Proofs.Ythdahjmkkdljbaa.spaceDraws
namespace Go.Proofs.Ythdahjmkkdljbaa
/-- The row, under a short name, for the claim. -/
theorem spaceDraws_holds : Rows.SpaceDrawsSaid := spaceDraws.proved
end Go.Proofs.Ythdahjmkkdljbaa
