/- larderref16's Eye.bytes, in the printed functions' form. -/
import Derived.Test.YtdhkhjfjjbdkgaaParse
import Derived.Test.YtdhkhjfjjbdkgaaRLx7
import Derived.Deep.RegionHeld3
namespace Go.Proofs.Ytdhkhjfjjbdkgaa.Rec
open List Go.RowKit Go.Proofs.YtdhkhjfjjbdkgaaW.PrintWords Go.Proofs.YtdhkhjfjjbdkgaaW.PrintLast Go.Proofs.YtdhkhjfjjbdkgaaW.PrintMore
set_option linter.unusedVariables false
set_option linter.unusedSimpArgs false
def larderref16_Eye_bytes.f (s0_0 : List Int) (s0_1 : Int) (s0_2 : Bool) (a1 : Int) : Option (List Int × Int × Bool) :=
  if 0 ≤ s0_1 ∧ s0_1 ≤ (s0_0.length : Int) ∧ 0 ≤ a1 ∧ s0_0.length ≤ 281474976710656 then
    if (s0_0.length : Int) - s0_1 < a1 then some ([], s0_1, true) else some ((s0_0.drop s0_1.toNat).take a1.toNat, s0_1 + a1, s0_2)
  else none
set_option maxHeartbeats 4000000 in
set_option maxRecDepth 100000 in
theorem larderref16_Eye_bytes.calls (g : Nat) (s0_0 : List Int) (s0_1 : Int) (s0_2 : Bool) (a1 : Int) (r1 : List Int) (r2 : Int) (r3 : Bool) (w0 w : World) (hI : IsS104 w0 w g s0_0 s0_1 s0_2) (hB : Below w0.heap.size w0 w) (h : larderref16_Eye_bytes.f s0_0 s0_1 s0_2 a1 = some (r1, r2, r3)) :
    Calls Try.prog 67 #[.pointer (some ⟨g, 0, none⟩), .int .u64 a1] w fun e w' => ∃ v0_ : Value, e = .returned (v0_) ∧ Kd.R (Kd.int .u8) 5 w' w.heap.size (fun _ => True) v0_ r1 ∧ IsS104 w0 w' g s0_0 r2 r3 ∧ Below w0.heap.size w0 w' ∧ KeepBut w w' g none := by
  unfold larderref16_Eye_bytes.f at h
  by_cases hc : 0 ≤ s0_1 ∧ s0_1 ≤ (s0_0.length : Int) ∧ 0 ≤ a1 ∧ s0_0.length ≤ 281474976710656
  · rw [if_pos hc] at h
    obtain ⟨hp0, hp1, hp2, hp3⟩ := hc
    obtain ⟨at_, rfl⟩ := Int.eq_ofNat_of_zero_le hp0
    obtain ⟨n, rfl⟩ := Int.eq_ofNat_of_zero_le hp2
    have HI := Aside0.mk hI
    obtain ⟨A0, c9, hb, hg, hr0⟩ := hI
    obtain ⟨c0, hc9⟩ : ∃ c0, s0_0.length + c9 = c0 := ⟨_, rfl⟩
    rw [hc9] at hb
    have hcap0 : s0_0.length ≤ c0 := by omega
    have HB := Aside0.mk hB
    have hcap : s0_0.length ≤ c0 := hcap0
    have hc0 := cellS104_0 hb
    have hc1 := cellS104_1 hb
    have hc2 := cellS104_2 hb
    have fz0 : w.frozen? ⟨g, 1, none⟩ = false := by simp [World.frozen?, hb]
    have fz1 : w.frozen? ⟨g, 2, none⟩ = false := by simp [World.frozen?, hb]
    have HR0 := Aside0.mk (Kd.C_below hr0 HB.out)
    clear hb hr0 hB hcap
    have w1 : IntKind.u64.wrap ((s0_0.length : Int) - (at_ : Int)) = (s0_0.length : Int) - (at_ : Int) := by rw [IntKind.wrap_u64]; omega
    by_cases hlt : (s0_0.length : Int) - (at_ : Int) < (n : Int)
    · rw [if_pos hlt] at h
      have hd : decide ((s0_0.length : Int) - (at_ : Int) < (n : Int)) = true := decide_eq_true hlt
      have H := Aside0.mk h
      clear h
      go_enter Try.func67, Try.ntmps67
      go_wp2_with fail
      go_quiet (fail)
      go_wp2_with fail
      go_ret
      have hh := Option.some.inj H.out
      simp only [Prod.mk.injEq] at hh
      obtain ⟨rfl, rfl, rfl⟩ := hh
      exact ⟨_, rfl, Kd.R_nil _ _ _ _ _, IsS104.set_2 (IsS104.drewN HI.out nq) true, (pw_below_drewN HB.out nq).setCell (by exact hg) _, (KeepBut.refl (w.drewN nq) g none).set_ 2 _⟩
    · rw [if_neg hlt] at h
      have hd : decide ((s0_0.length : Int) - (at_ : Int) < (n : Int)) = false := decide_eq_false hlt
      have H := Aside0.mk h
      clear h
      have w2 : IntKind.i64.wrap (n : Int) = (n : Int) := IntWalk.i64_in _ (by omega)
      have w3 : IntKind.i64.wrap ((at_ : Int) + (n : Int)) = (at_ : Int) + (n : Int) := IntWalk.i64_in _ (by omega)
      go_enter Try.func67, Try.ntmps67
      go_wp2_with fail
      go_quiet (fail)
      have hla : ((s0_0.drop at_).take n).length = n := by simp; omega
      have HLA := Aside0.mk hla
      clear hla
      have hq1 : (at_ : Int) ≤ (at_ : Int) + (n : Int) := by omega
      have hq2 : (at_ : Int) + (n : Int) ≤ (c0 : Int) := by omega
      have hq3 : (0 : Int) ≤ (at_ : Int) := by omega
      go_wp2_with fail
      have hqc : ¬ (c0 : Int) < (at_ : Int) := by omega
      have HSL0 := Aside0.mk ((((C_byt (HR0.out) hcap0).drop at_ (by omega)).take n (by simp; omega)))
      by_cases hcn : c0 = at_
      · have hn0 : n = 0 := by omega
        have HN0 := Aside0.mk hn0
        clear hn0
        subst hcn
        refine wp_region_held_drew (S := fun w' => w'.cell? ⟨g, 0, none⟩ = some (.slice A0 s0_0.length c0) ∧ w'.cell? ⟨g, 1, none⟩ = some (.int .i64 (c0 : Int)) ∧ w'.frozen? ⟨g, 1, none⟩ = false) (by kernel_rfl) ⟨hc0, hc1, fz0⟩ (fun hHeld => ?_)
        refine tk (i := 0) (v := ?vc1) rfl (by kernel_rfl) (fun _ _ _ h => h) ⟨by rfl, ?yc1⟩ (by assumption) ?rc1
        case yc1 => (intro w_ hSw; simp only [getElem_toArray, getElem_cons_zero, getElem_cons_succ]; go_simp; try with_reducible rfl)
        (try simp only [getElem_toArray, getElem_cons_zero, getElem_cons_succ, Act.put, setIfInBounds_toArray, set_cons_zero, set_cons_succ])
        refine tk (i := 1) (v := ?vc2) rfl (by kernel_rfl) (fun _ _ _ h => h) ⟨by rfl, ?yc2⟩ (by assumption) ?rc2
        case yc2 => (intro w_ hSw; simp only [getElem_toArray, getElem_cons_zero, getElem_cons_succ]; go_simp; try with_reducible rfl)
        (try simp only [getElem_toArray, getElem_cons_zero, getElem_cons_succ, Act.put, setIfInBounds_toArray, set_cons_zero, set_cons_succ])
        refine tk (i := 2) (v := ?vc3) rfl (by kernel_rfl) (fun _ _ _ h => h) ⟨by rfl, ?yc3⟩ (by assumption) ?rc3
        case yc3 => (intro w_ hSw; simp only [getElem_toArray, getElem_cons_zero, getElem_cons_succ]; go_simp; try with_reducible rfl)
        (try simp only [getElem_toArray, getElem_cons_zero, getElem_cons_succ, Act.put, setIfInBounds_toArray, set_cons_zero, set_cons_succ])
        refine tk (i := 3) (v := ?vc4) rfl (by kernel_rfl) (fun _ _ _ h => h) ⟨by rfl, ?yc4⟩ (by assumption) ?rc4
        case yc4 => (intro w_ hSw; simp only [getElem_toArray, getElem_cons_zero, getElem_cons_succ]; go_simp; try with_reducible rfl)
        (try simp only [getElem_toArray, getElem_cons_zero, getElem_cons_succ, Act.put, setIfInBounds_toArray, set_cons_zero, set_cons_succ])
        refine tk (i := 4) (v := ?vc5) rfl (by kernel_rfl) (fun _ _ _ h => h) ⟨by rfl, ?yc5⟩ (by assumption) ?rc5
        case yc5 => (intro w_ hSw; simp only [getElem_toArray, getElem_cons_zero, getElem_cons_succ]; go_simp; try with_reducible rfl)
        (try simp only [getElem_toArray, getElem_cons_zero, getElem_cons_succ, Act.put, setIfInBounds_toArray, set_cons_zero, set_cons_succ])
        refine tk (i := 5) (v := ?vc6) rfl (by kernel_rfl) (fun _ _ _ h => h) ⟨by rfl, ?yc6⟩ (by assumption) ?rc6
        case yc6 => (intro w_ hSw; simp only [getElem_toArray, getElem_cons_zero, getElem_cons_succ]; go_simp; try with_reducible rfl)
        (try simp only [getElem_toArray, getElem_cons_zero, getElem_cons_succ, Act.put, setIfInBounds_toArray, set_cons_zero, set_cons_succ])
        refine tk (i := 6) (v := ?vc7) rfl (by kernel_rfl) (fun _ _ _ h => h) ⟨by rfl, ?yc7⟩ (by assumption) ?rc7
        case yc7 => (intro w_ hSw; simp only [getElem_toArray, getElem_cons_zero, getElem_cons_succ]; go_simp; try with_reducible rfl)
        (try simp only [getElem_toArray, getElem_cons_zero, getElem_cons_succ, Act.put, setIfInBounds_toArray, set_cons_zero, set_cons_succ])
        refine tk (i := 7) (v := ?vc8) rfl (by kernel_rfl) (fun _ _ _ h => h) ⟨by rfl, ?yc8⟩ (by assumption) ?rc8
        case yc8 => (intro w_ hSw; simp only [getElem_toArray, getElem_cons_zero, getElem_cons_succ]; go_simp; try with_reducible rfl)
        (try simp only [getElem_toArray, getElem_cons_zero, getElem_cons_succ, Act.put, setIfInBounds_toArray, set_cons_zero, set_cons_succ])
        refine tk (i := 8) (v := ?vc9) rfl (by kernel_rfl) (fun _ _ _ h => h) ⟨by rfl, ?yc9⟩ (by assumption) ?rc9
        case yc9 => (intro w_ hSw; simp only [getElem_toArray, getElem_cons_zero, getElem_cons_succ]; go_simp; try with_reducible rfl)
        (try simp only [getElem_toArray, getElem_cons_zero, getElem_cons_succ, Act.put, setIfInBounds_toArray, set_cons_zero, set_cons_succ])
        refine tk (i := 9) (v := ?vc10) rfl (by kernel_rfl) (fun _ _ _ h => h) ⟨by rfl, ?yc10⟩ (by assumption) ?rc10
        case yc10 => (intro w_ hSw; simp only [getElem_toArray, getElem_cons_zero, getElem_cons_succ]; go_simp; try with_reducible rfl)
        (try simp only [getElem_toArray, getElem_cons_zero, getElem_cons_succ, Act.put, setIfInBounds_toArray, set_cons_zero, set_cons_succ])
        refine tk (i := 10) (v := ?vc11) rfl (by kernel_rfl) (fun _ _ _ h => h) ⟨by rfl, ?yc11⟩ (by assumption) ?rc11
        case yc11 => (intro w_ hSw; simp only [getElem_toArray, getElem_cons_zero, getElem_cons_succ]; go_simp; try with_reducible rfl)
        (try simp only [getElem_toArray, getElem_cons_zero, getElem_cons_succ, Act.put, setIfInBounds_toArray, set_cons_zero, set_cons_succ])
        refine tk (i := 11) (v := ?vc12) rfl (by kernel_rfl) (fun _ _ _ h => h) ⟨by rfl, ?yc12⟩ (by assumption) ?rc12
        case yc12 => (intro w_ hSw; simp only [getElem_toArray, getElem_cons_zero, getElem_cons_succ]; go_simp; try with_reducible rfl)
        (try simp only [getElem_toArray, getElem_cons_zero, getElem_cons_succ, Act.put, setIfInBounds_toArray, set_cons_zero, set_cons_succ])
        refine tk (i := 12) (v := ?vc13) rfl (by kernel_rfl) (fun _ _ _ h => h) ⟨by rfl, ?yc13⟩ (by assumption) ?rc13
        case yc13 => (intro w_ hSw; simp only [getElem_toArray, getElem_cons_zero, getElem_cons_succ]; go_simp; try with_reducible rfl)
        (try simp only [getElem_toArray, getElem_cons_zero, getElem_cons_succ, Act.put, setIfInBounds_toArray, set_cons_zero, set_cons_succ])
        refine tk (i := 13) (v := ?vc14) rfl (by kernel_rfl) (fun _ _ _ h => h) ⟨by rfl, ?yc14⟩ (by assumption) ?rc14
        case yc14 => (intro w_ hSw; simp only [getElem_toArray, getElem_cons_zero, getElem_cons_succ]; go_simp; try with_reducible rfl)
        (try simp only [getElem_toArray, getElem_cons_zero, getElem_cons_succ, Act.put, setIfInBounds_toArray, set_cons_zero, set_cons_succ])
        refine tk (i := 14) (v := ?vc15) rfl (by kernel_rfl) (fun _ _ _ h => h) ⟨by rfl, ?yc15⟩ (by assumption) ?rc15
        case yc15 => (intro w_ hSw; simp only [getElem_toArray, getElem_cons_zero, getElem_cons_succ]; go_simp; try with_reducible rfl)
        (try simp only [getElem_toArray, getElem_cons_zero, getElem_cons_succ, Act.put, setIfInBounds_toArray, set_cons_zero, set_cons_succ])
        refine tk (i := 15) (v := ?vc16) rfl (by kernel_rfl) (fun _ _ _ h => h) ⟨by rfl, ?yc16⟩ (by assumption) ?rc16
        case yc16 => (intro w_ hSw; simp only [getElem_toArray, getElem_cons_zero, getElem_cons_succ]; go_simp; try with_reducible rfl)
        (try simp only [getElem_toArray, getElem_cons_zero, getElem_cons_succ, Act.put, setIfInBounds_toArray, set_cons_zero, set_cons_succ])
        have hcl := larderref0_Copy.calls A0 0 [] [] (w.drewN (nq + 1)) ⟨rfl, by decide, fun h => absurd h (by decide)⟩ (by simp) (by unfold larderref0_Copy.f; rw [if_pos (by simp)])
        have HCALL := Aside0.mk hcl
        clear hcl
        refine wpAnyH_ready (rs := [16]) (by kernel_rfl) (by simp) ?_
        refine AllReadyH.cons (o := _) rfl (fun K hK => ?_) AllReadyH.nil
        (try simp only [List.getElem_toArray, List.getElem_cons_zero, List.getElem_cons_succ])
        go_simp; go_at_call 37; (refine HCALL.out.mono ?_); rintro e6 w6 ⟨v6, rfl, hv6, hb6⟩; have HB6 := Aside0.mk hb6; have HV6 := Aside0.mk hv6; clear hb6 hv6
        refine hK.out _ _ (by exact ⟨(HB6.out.cell (World.block_lt_of_cell? _ _ hc0)).trans hc0, (HB6.out.cell (World.block_lt_of_cell? _ _ hc1)).trans hc1, (HB6.out.frozen (World.block_lt_of_cell? _ _ hc1)).trans fz0⟩) (fun hHeld => ?_)
        clear hK K
        (try simp only [getElem_toArray, getElem_cons_zero, getElem_cons_succ, Act.put, setIfInBounds_toArray, set_cons_zero, set_cons_succ])
        refine tk (i := 17) (v := ?vc17) rfl (by kernel_rfl) (fun _ _ _ h => h) ⟨by rfl, ?yc17⟩ (by assumption) ?rc17
        case yc17 => (intro w_ hSw; simp only [getElem_toArray, getElem_cons_zero, getElem_cons_succ]; go_simp; try with_reducible rfl)
        (try simp only [getElem_toArray, getElem_cons_zero, getElem_cons_succ, Act.put, setIfInBounds_toArray, set_cons_zero, set_cons_succ])
        refine wpAnyH_done (by kernel_rfl) ?_ _
        obtain ⟨kc0, kc1, kf0⟩ := hHeld
        clear hc0 hc1 hc2 fz0 fz1
        go_wp2_with fail
        go_ret
        have hh := Option.some.inj H.out
        simp only [Prod.mk.injEq] at hh
        obtain ⟨h1_, h2_, rfl⟩ := hh
        subst h1_; subst h2_
        rw [show List.take ((n : Int)).toNat (List.drop ((c0 : Int)).toNat s0_0) = [] from (by have := HN0.out; subst this; simp)]
        have hgw := HI.out.lt
        refine ⟨v6, rfl, Kd.R_mono (Kd.R_far (p := ⟨g, 1, none⟩) (Kd.R_mono (Kd.R_bound (Kd.R_lower HV6.out (Nat.le_refl w.heap.size))) (ok' := fun k => k ≠ g) (fun k hk => by have := hk.2.1; omega)) (fun _ hk => hk) _) (fun _ _ => trivial), ?_, (Below.trans (below_drew1 (pw_below_drewN HB.out nq)) (HB6.out.mono (show w0.heap.size ≤ w.heap.size from HB.out.size))).setCell (by exact hg) _, (KeepBut.of_below HB6.out g none).set_ 1 _⟩
        refine IsS104.set_1 (IsS104.below ((IsS104.drewN HI.out nq).drew) HB6.out) _
      · have hcn2 : ¬ c0 - at_ = 0 := by omega
        have hsl := HSL0.out
        rw [if_neg hcn] at hsl
        have HSL := Aside0.mk hsl.C
        clear hsl HSL0
        refine wp_region_held_drew (S := fun w' => w'.cell? ⟨g, 0, none⟩ = some (.slice A0 s0_0.length c0) ∧ w'.cell? ⟨g, 1, none⟩ = some (.int .i64 (at_ : Int)) ∧ w'.frozen? ⟨g, 1, none⟩ = false) (by kernel_rfl) ⟨hc0, hc1, fz0⟩ (fun hHeld => ?_)
        refine tk (i := 0) (v := ?v1) rfl (by kernel_rfl) (fun _ _ _ h => h) ⟨by rfl, ?y1⟩ (by assumption) ?r1
        case y1 => (intro w_ hSw; simp only [getElem_toArray, getElem_cons_zero, getElem_cons_succ]; go_simp; try with_reducible rfl)
        (try simp only [getElem_toArray, getElem_cons_zero, getElem_cons_succ, Act.put, setIfInBounds_toArray, set_cons_zero, set_cons_succ])
        refine tk (i := 1) (v := ?v2) rfl (by kernel_rfl) (fun _ _ _ h => h) ⟨by rfl, ?y2⟩ (by assumption) ?r2
        case y2 => (intro w_ hSw; simp only [getElem_toArray, getElem_cons_zero, getElem_cons_succ]; go_simp; try with_reducible rfl)
        (try simp only [getElem_toArray, getElem_cons_zero, getElem_cons_succ, Act.put, setIfInBounds_toArray, set_cons_zero, set_cons_succ])
        refine tk (i := 2) (v := ?v3) rfl (by kernel_rfl) (fun _ _ _ h => h) ⟨by rfl, ?y3⟩ (by assumption) ?r3
        case y3 => (intro w_ hSw; simp only [getElem_toArray, getElem_cons_zero, getElem_cons_succ]; go_simp; try with_reducible rfl)
        (try simp only [getElem_toArray, getElem_cons_zero, getElem_cons_succ, Act.put, setIfInBounds_toArray, set_cons_zero, set_cons_succ])
        refine tk (i := 3) (v := ?v4) rfl (by kernel_rfl) (fun _ _ _ h => h) ⟨by rfl, ?y4⟩ (by assumption) ?r4
        case y4 => (intro w_ hSw; simp only [getElem_toArray, getElem_cons_zero, getElem_cons_succ]; go_simp; try with_reducible rfl)
        (try simp only [getElem_toArray, getElem_cons_zero, getElem_cons_succ, Act.put, setIfInBounds_toArray, set_cons_zero, set_cons_succ])
        refine tk (i := 4) (v := ?v5) rfl (by kernel_rfl) (fun _ _ _ h => h) ⟨by rfl, ?y5⟩ (by assumption) ?r5
        case y5 => (intro w_ hSw; simp only [getElem_toArray, getElem_cons_zero, getElem_cons_succ]; go_simp; try with_reducible rfl)
        (try simp only [getElem_toArray, getElem_cons_zero, getElem_cons_succ, Act.put, setIfInBounds_toArray, set_cons_zero, set_cons_succ])
        refine tk (i := 5) (v := ?v6) rfl (by kernel_rfl) (fun _ _ _ h => h) ⟨by rfl, ?y6⟩ (by assumption) ?r6
        case y6 => (intro w_ hSw; simp only [getElem_toArray, getElem_cons_zero, getElem_cons_succ]; go_simp; try with_reducible rfl)
        (try simp only [getElem_toArray, getElem_cons_zero, getElem_cons_succ, Act.put, setIfInBounds_toArray, set_cons_zero, set_cons_succ])
        refine tk (i := 6) (v := ?v7) rfl (by kernel_rfl) (fun _ _ _ h => h) ⟨by rfl, ?y7⟩ (by assumption) ?r7
        case y7 => (intro w_ hSw; simp only [getElem_toArray, getElem_cons_zero, getElem_cons_succ]; go_simp; try with_reducible rfl)
        (try simp only [getElem_toArray, getElem_cons_zero, getElem_cons_succ, Act.put, setIfInBounds_toArray, set_cons_zero, set_cons_succ])
        refine tk (i := 7) (v := ?v8) rfl (by kernel_rfl) (fun _ _ _ h => h) ⟨by rfl, ?y8⟩ (by assumption) ?r8
        case y8 => (intro w_ hSw; simp only [getElem_toArray, getElem_cons_zero, getElem_cons_succ]; go_simp; try with_reducible rfl)
        (try simp only [getElem_toArray, getElem_cons_zero, getElem_cons_succ, Act.put, setIfInBounds_toArray, set_cons_zero, set_cons_succ])
        refine tk (i := 8) (v := ?v9) rfl (by kernel_rfl) (fun _ _ _ h => h) ⟨by rfl, ?y9⟩ (by assumption) ?r9
        case y9 => (intro w_ hSw; simp only [getElem_toArray, getElem_cons_zero, getElem_cons_succ]; go_simp; try with_reducible rfl)
        (try simp only [getElem_toArray, getElem_cons_zero, getElem_cons_succ, Act.put, setIfInBounds_toArray, set_cons_zero, set_cons_succ])
        refine tk (i := 9) (v := ?v10) rfl (by kernel_rfl) (fun _ _ _ h => h) ⟨by rfl, ?y10⟩ (by assumption) ?r10
        case y10 => (intro w_ hSw; simp only [getElem_toArray, getElem_cons_zero, getElem_cons_succ]; go_simp; try with_reducible rfl)
        (try simp only [getElem_toArray, getElem_cons_zero, getElem_cons_succ, Act.put, setIfInBounds_toArray, set_cons_zero, set_cons_succ])
        refine tk (i := 10) (v := ?v11) rfl (by kernel_rfl) (fun _ _ _ h => h) ⟨by rfl, ?y11⟩ (by assumption) ?r11
        case y11 => (intro w_ hSw; simp only [getElem_toArray, getElem_cons_zero, getElem_cons_succ]; go_simp; try with_reducible rfl)
        (try simp only [getElem_toArray, getElem_cons_zero, getElem_cons_succ, Act.put, setIfInBounds_toArray, set_cons_zero, set_cons_succ])
        refine tk (i := 11) (v := ?v12) rfl (by kernel_rfl) (fun _ _ _ h => h) ⟨by rfl, ?y12⟩ (by assumption) ?r12
        case y12 => (intro w_ hSw; simp only [getElem_toArray, getElem_cons_zero, getElem_cons_succ]; go_simp; try with_reducible rfl)
        (try simp only [getElem_toArray, getElem_cons_zero, getElem_cons_succ, Act.put, setIfInBounds_toArray, set_cons_zero, set_cons_succ])
        refine tk (i := 12) (v := ?v13) rfl (by kernel_rfl) (fun _ _ _ h => h) ⟨by rfl, ?y13⟩ (by assumption) ?r13
        case y13 => (intro w_ hSw; simp only [getElem_toArray, getElem_cons_zero, getElem_cons_succ]; go_simp; try with_reducible rfl)
        (try simp only [getElem_toArray, getElem_cons_zero, getElem_cons_succ, Act.put, setIfInBounds_toArray, set_cons_zero, set_cons_succ])
        refine tk (i := 13) (v := ?v14) rfl (by kernel_rfl) (fun _ _ _ h => h) ⟨by rfl, ?y14⟩ (by assumption) ?r14
        case y14 => (intro w_ hSw; simp only [getElem_toArray, getElem_cons_zero, getElem_cons_succ]; go_simp; try with_reducible rfl)
        (try simp only [getElem_toArray, getElem_cons_zero, getElem_cons_succ, Act.put, setIfInBounds_toArray, set_cons_zero, set_cons_succ])
        refine tk (i := 14) (v := ?v15) rfl (by kernel_rfl) (fun _ _ _ h => h) ⟨by rfl, ?y15⟩ (by assumption) ?r15
        case y15 => (intro w_ hSw; simp only [getElem_toArray, getElem_cons_zero, getElem_cons_succ]; go_simp; try with_reducible rfl)
        (try simp only [getElem_toArray, getElem_cons_zero, getElem_cons_succ, Act.put, setIfInBounds_toArray, set_cons_zero, set_cons_succ])
        refine tk (i := 15) (v := ?v16) rfl (by kernel_rfl) (fun _ _ _ h => h) ⟨by rfl, ?y16⟩ (by assumption) ?r16
        case y16 => (intro w_ hSw; simp only [getElem_toArray, getElem_cons_zero, getElem_cons_succ]; go_simp; try with_reducible rfl)
        (try simp only [getElem_toArray, getElem_cons_zero, getElem_cons_succ, Act.put, setIfInBounds_toArray, set_cons_zero, set_cons_succ])
        have hcl := larderref0_Copy.calls (A0.map (·.add at_)) (c0 - at_) ((s0_0.drop at_).take n) ((s0_0.drop at_).take n) ((w.drewN nq).drew) HSL.out (by rw [HLA.out]; omega) (by unfold larderref0_Copy.f; rw [if_pos (by rw [HLA.out]; omega)])
        rw [HLA.out.trans (show n = ((at_ : Int) + (n : Int)).toNat - at_ by omega)] at hcl
        have HCALL := Aside0.mk hcl
        clear hcl
        refine wpAnyH_ready (rs := [16]) (by kernel_rfl) (by simp) ?_
        refine AllReadyH.cons (o := _) rfl (fun K hK => ?_) AllReadyH.nil
        (try simp only [List.getElem_toArray, List.getElem_cons_zero, List.getElem_cons_succ])
        go_simp; go_at_call 37; (refine HCALL.out.mono ?_); rintro e6 w6 ⟨v6, rfl, hv6, hb6⟩; have HB6 := Aside0.mk hb6; have HV6 := Aside0.mk hv6; clear hb6 hv6
        refine hK.out _ _ (by exact ⟨(HB6.out.cell (World.block_lt_of_cell? _ _ hc0)).trans hc0, (HB6.out.cell (World.block_lt_of_cell? _ _ hc1)).trans hc1, (HB6.out.frozen (World.block_lt_of_cell? _ _ hc1)).trans fz0⟩) (fun hHeld => ?_)
        clear hK K
        (try simp only [getElem_toArray, getElem_cons_zero, getElem_cons_succ, Act.put, setIfInBounds_toArray, set_cons_zero, set_cons_succ])
        refine tk (i := 17) (v := ?v17) rfl (by kernel_rfl) (fun _ _ _ h => h) ⟨by rfl, ?y17⟩ (by assumption) ?r17
        case y17 => (intro w_ hSw; simp only [getElem_toArray, getElem_cons_zero, getElem_cons_succ]; go_simp; try with_reducible rfl)
        (try simp only [getElem_toArray, getElem_cons_zero, getElem_cons_succ, Act.put, setIfInBounds_toArray, set_cons_zero, set_cons_succ])
        refine wpAnyH_done (by kernel_rfl) ?_ _
        obtain ⟨kc0, kc1, kf0⟩ := hHeld
        clear hc0 hc1 hc2 fz0 fz1
        go_wp2_with fail
        go_ret
        have hh := Option.some.inj H.out
        simp only [Prod.mk.injEq] at hh
        obtain ⟨h1_, h2_, rfl⟩ := hh
        subst h1_; subst h2_
        rw [Int.toNat_natCast, Int.toNat_natCast]
        have hgw := HI.out.lt
        refine ⟨v6, rfl, Kd.R_mono (Kd.R_far (p := ⟨g, 1, none⟩) (Kd.R_mono (Kd.R_bound (Kd.R_lower HV6.out (Nat.le_refl w.heap.size))) (ok' := fun k => k ≠ g) (fun k hk => by have := hk.2.1; omega)) (fun _ hk => hk) _) (fun _ _ => trivial), ?_, (Below.trans (below_drew1 (pw_below_drewN HB.out nq)) (HB6.out.mono (show w0.heap.size ≤ w.heap.size from HB.out.size))).setCell (by exact hg) _, (KeepBut.of_below HB6.out g none).set_ 1 _⟩
        refine IsS104.set_1 (IsS104.below ((IsS104.drewN HI.out nq).drew) HB6.out) _
  · rw [if_neg hc] at h; cases h
end Go.Proofs.Ytdhkhjfjjbdkgaa.Rec
