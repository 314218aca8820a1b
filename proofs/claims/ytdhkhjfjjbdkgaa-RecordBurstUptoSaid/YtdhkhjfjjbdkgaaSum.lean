/- word.Sum's contract, in the printed functions' form. -/
import Derived.Test.YtdhkhjfjjbdkgaaRLx0
namespace Go.Proofs.Ytdhkhjfjjbdkgaa.Rec
open Go.RowKit Go.Proofs.YtdhkhjfjjbdkgaaW.PrintWords Go.Proofs.YtdhkhjfjjbdkgaaW.PrintLast Go.Proofs.YtdhkhjfjjbdkgaaW.PrintMore
set_option linter.unusedVariables false
set_option linter.unusedSimpArgs false
def crcTab : List Int := [0, 4823603603198064275, 9647207206396128550, 0xC711223CFA3E5BB5, 0x493366450E42ECDF, 0x0BC387AEA7A8DA4C, 0xCCD2A5925D9681F9, 0x8E224479F47CB76A, 0x9266CC8A1C85D9BE, 0xD0962D61B56FEF2D, 0x17870F5D4F51B498, 0x5577EEB6E6BB820B, 0xDB55AACF12C73561, 0x99A54B24BB2D03F2, 0x5EB4691841135847, 0x1C4488F3E8F96ED4]
def crcNib (r : Int) : Int := Go.bits .xor .u64 (IntKind.u64.wrap (r * 16)) (crcTab.getD (r / 1152921504606846976).toNat 0)
def crcStep (r c : Int) : Int := crcNib (crcNib (Go.bits .xor .u64 r (IntKind.u64.wrap (IntKind.u64.wrap c * 72057594037927936))))
theorem bits_u64_lo (o : BinOp) (a b : Int) (ho : o = .xor) : 0 ≤ Go.bits o .u64 a b ∧ Go.bits o .u64 a b < 18446744073709551616 := by
  subst ho
  show 0 ≤ IntKind.u64.wrap _ ∧ IntKind.u64.wrap _ < _
  rw [IntKind.wrap_u64]
  omega
theorem crcTab_len : crcTab.length = 16 := rfl
theorem crcTab_cells (w : World) : ∀ q, q < 16 → (w.alloc (.cells #[.int .u64 0, .int .u64 4823603603198064275, .int .u64 9647207206396128550, .int .u64 14344283933443513269, .int .u64 5274672035359026399, .int .u64 847670339082705484, .int .u64 14759040976900489721, .int .u64 10241823793177474922, .int .u64 10549344070718052798, .int .u64 15030250704074698541, .int .u64 1695340678165410968, .int .u64 6158653484774949387, .int .u64 15804726273676621153, .int .u64 11071337880091427826, .int .u64 6824194888265062471, .int .u64 2036903512645398228] 91)).cell? ⟨w.heap.size, q, none⟩ = some (.int .u64 (crcTab.getD q 0)) := by
  intro q hq
  rw [World.cell?, heap_alloc_new]
  match q, hq with
  | 0, _ => rfl
  | 1, _ => rfl
  | 2, _ => rfl
  | 3, _ => rfl
  | 4, _ => rfl
  | 5, _ => rfl
  | 6, _ => rfl
  | 7, _ => rfl
  | 8, _ => rfl
  | 9, _ => rfl
  | 10, _ => rfl
  | 11, _ => rfl
  | 12, _ => rfl
  | 13, _ => rfl
  | 14, _ => rfl
  | 15, _ => rfl
  | q + 16, h => exact absurd h (by omega)
theorem take_fold (l : List Int) (i : Nat) (hi : i < l.length) (f : Int → Int → Int) (z : Int) : (l.take (i + 1)).foldl f z = f ((l.take i).foldl f z) (l.getD i 0) := by
  rw [List.take_add_one, List.foldl_append]
  have : l[i]? = some (l.getD i 0) := by rw [List.getD_eq_getElem?_getD, List.getElem?_eq_getElem hi]; rfl
  rw [this]; rfl
theorem nib_at (X : Int) (h0 : 0 ≤ X) (h1 : X < 18446744073709551616) : ∃ q : Nat, q < 16 ∧ X / 1152921504606846976 = (q : Int) ∧ (X / 1152921504606846976).toNat = q := by
  refine ⟨(X / 1152921504606846976).toNat, by omega, by omega, rfl⟩
set_option maxHeartbeats 2000000 in
set_option maxRecDepth 100000 in
theorem word_Sum_walk (A0 : Option Addr) (c0 : Nat) (l0 : List Int) (w : World) (hr0 : Kd.C (Kd.int .u8) w A0 l0.length l0) (hc0 : l0.length ≤ c0) (hm : l0.length ≤ 9223372036854775807) :
    Calls Try.prog 46 #[.slice A0 l0.length c0] w fun e w' => e = .returned (.int .u64 (l0.foldl crcStep 18446744073709551615)) ∧ Below w.heap.size w w' := by
  have HT := Aside0.mk (crcTab_cells w)
  have HB := Aside0.mk ((Below.refl w.heap.size w).alloc (Nat.le_refl _) (.cells #[.int .u64 0, .int .u64 4823603603198064275, .int .u64 9647207206396128550, .int .u64 14344283933443513269, .int .u64 5274672035359026399, .int .u64 847670339082705484, .int .u64 14759040976900489721, .int .u64 10241823793177474922, .int .u64 10549344070718052798, .int .u64 15030250704074698541, .int .u64 1695340678165410968, .int .u64 6158653484774949387, .int .u64 15804726273676621153, .int .u64 11071337880091427826, .int .u64 6824194888265062471, .int .u64 2036903512645398228] 91))
  have HR0 := Aside0.mk (Kd.C_below hr0 HB.out)
  clear hr0
  go_enter Try.func46, Try.ntmps46
  go_wp2_with fail
  generalize w.alloc (Obj.cells _ 91) = w1 at HT HB HR0 ⊢
  go_loop [4, 6, 10] (fun v4 v6 v10 => ∃ (i : Nat), i ≤ l0.length ∧ v10 = .int .i64 i ∧ v4 = .int .u64 ((l0.take i).foldl crcStep 18446744073709551615)) (fun _ _ v => l0.length - (intOf v).toNat)
  case atStart => exact ⟨0, Nat.zero_le _, rfl, rfl⟩
  case round =>
    obtain ⟨i, hi, rfl, rfl⟩ := hrel
    by_cases hlt : i < l0.length
    · have p1 : 0 ≤ ((i : Nat) : Int) := by omega
      have q1 : ((i : Nat) : Int) < (l0.length : Int) := by omega
      obtain ⟨ad, e1, hx⟩ := Kd.at_int HR0.out (i : Int) p1 q1
      cases e1
      obtain ⟨R, hR⟩ : ∃ R, (l0.take i).foldl crcStep 18446744073709551615 = R := ⟨_, rfl⟩
      have HN := Aside0.mk (take_fold l0 i hlt crcStep 18446744073709551615)
      rw [hR] at HN
      rw [hR]
      clear hR
      have hrd : rd l0 (i : Int) = l0.getD i 0 := rfl
      rw [hrd, Int.toNat_natCast] at hx
      generalize l0.getD i 0 = c at hx HN
      clear hrd
      obtain ⟨X1, hX1⟩ : ∃ X, Go.bits .xor .u64 R (IntKind.u64.wrap (IntKind.u64.wrap c * 72057594037927936)) = X := ⟨_, rfl⟩
      have g1 := bits_u64_lo .xor R (IntKind.u64.wrap (IntKind.u64.wrap c * 72057594037927936)) rfl
      rw [hX1] at g1
      obtain ⟨q1', hq1, hd1, ht1⟩ := nib_at X1 g1.1 g1.2
      obtain ⟨X2, hX2⟩ : ∃ X, Go.bits .xor .u64 (IntKind.u64.wrap (X1 * 16)) (crcTab.getD q1' 0) = X := ⟨_, rfl⟩
      have g2 := bits_u64_lo .xor (IntKind.u64.wrap (X1 * 16)) (crcTab.getD q1' 0) rfl
      rw [hX2] at g2
      obtain ⟨q2', hq2, hd2, ht2⟩ := nib_at X2 g2.1 g2.2
      have hc1 := HT.out q1' hq1
      have hc2 := HT.out q2' hq2
      have HE : Aside0 (crcStep R c = Go.bits .xor .u64 (IntKind.u64.wrap (X2 * 16)) (crcTab.getD q2' 0)) := ⟨by unfold crcStep; rw [hX1]; unfold crcNib; rw [ht1, hX2, ht2]⟩
      clear g1 g2 ht1 ht2
      generalize crcTab.getD q1' 0 = T1 at hc1 hX2
      generalize crcTab.getD q2' 0 = T2 at hc2 HE
      replace p1 := eq_true p1
      replace q1 := eq_true q1
      go_wp2_with fail
      go_round
      case rel => exact ⟨i + 1, by omega, by go_num, by rw [HN.out, HE.out]⟩
      case measure => simp [intOf]; omega
    · obtain rfl : i = l0.length := by omega
      go_wp2_with fail
      go_ret
      exact ⟨by simp, HB.out⟩
/-- word.Sum's answer, in the printed functions' form. -/
def word_Sum.f (l0 : List Int) : Option Int := if l0.length ≤ 9223372036854775807 then some (l0.foldl crcStep 18446744073709551615) else none
theorem word_Sum.calls (A0 : Option Addr) (c0 : Nat) (l0 : List Int) (r : Int) (w : World) (hr0 : Kd.C (Kd.int .u8) w A0 l0.length l0) (hc0 : l0.length ≤ c0) (h : word_Sum.f l0 = some r) :
    Calls Try.prog 46 #[.slice A0 l0.length c0] w fun e w' => e = .returned (.int .u64 r) ∧ Below w.heap.size w w' := by
  unfold word_Sum.f at h
  split at h
  · rename_i hm
    obtain rfl := Option.some.inj h
    exact word_Sum_walk A0 c0 l0 w hr0 hc0 hm
  · cases h
end Go.Proofs.Ytdhkhjfjjbdkgaa.Rec
