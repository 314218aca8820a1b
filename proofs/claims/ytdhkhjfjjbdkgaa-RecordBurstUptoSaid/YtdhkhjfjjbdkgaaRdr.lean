/- The reader of package record: cut, take, text. record.take of uint64, uint8, uint32. The reader's text. -/
import Derived.Test.YtdhkhjfjjbdkgaaCopy
import Derived.OrdersHeld
namespace Go.Proofs.Ytdhkhjfjjbdkgaa.Rec
open Go.RowKit Go.Proofs.YtdhkhjfjjbdkgaaW.PrintWords Go.Proofs.YtdhkhjfjjbdkgaaW.PrintLast Go.Proofs.YtdhkhjfjjbdkgaaW.PrintMore
set_option linter.unusedVariables false
set_option linter.unusedSimpArgs false
/-- An operation that is taken first, in a region that draws its order. -/
theorem tk {P : Program} {ops : Array Oper} {Q : Exit → Act → World → Prop} {md : Region.Mode} {S : World → Prop} {i : Nat} {oi : Oper} {v : Value} {fuel : Nat} {listed : Array Bool} {a : Act} {w : World} (hi : ops[i]? = some oi)
    (hb : (Region.noSelect ops && (Region.free md ops listed i && (Region.ready md ops listed).contains i)) = true)
    (hQ : ∀ c a w, Q (.panic c) (a.put oi.dst v) w → Q (.panic c) a w) (hy : Region.wanted oi (yielded ops a.tmps) = true ∧ ∀ w, S w → (execOp a.eval oi).run P w = .ok (.value v) w) (hS : S w)
    (h : wpAnyH P md ops Q S fuel (listed.setIfInBounds i true) (a.put oi.dst v) w) : wpAnyH P md ops Q S (fuel + 1) listed a w := by
  simp only [Bool.and_eq_true] at hb
  exact wpAnyH_take hi hb.1 hb.2.1 hb.2.2 hQ (Or.inl hy) hS h
/-- Bytes that can be read at a slice, in a block below Z. -/
structure Byt (w : World) (Z : Nat) (A : Option Addr) (c : Nat) (l : List Int) : Prop where
  rd : ReadsOf (fun x => Value.int .u8 x) 0 w A l.length l
  cap : l.length ≤ c
  foot : ∀ ad, A = some ad → 0 < l.length → ad.block < Z
/-- A reader in block g; its bytes lie below Z. -/
structure Rdr (w : World) (Z g : Nat) (A : Option Addr) (c : Nat) (l : List Int) (bad : Bool) : Prop where
  heap : w.heap[g]? = some (.cells #[.slice A l.length c, .bool bad] 96 (0, 0))
  byt : Byt w Z A c l
  lo : Z ≤ g
theorem Byt.keep {w w' : World} {Z g : Nat} {A : Option Addr} {c : Nat} {l : List Int} (h : Byt w Z A c l) (hk : KeepBut w w' g none) (hZ : Z ≤ g) : Byt w' Z A c l := ⟨h.rd.keep hk (fun ad e h0 => by have := h.foot ad e h0; omega), h.cap, h.foot⟩
theorem Byt.nil (w : World) (Z : Nat) (c : Nat) : Byt w Z none c [] := ⟨⟨rfl, by simp, fun h => by simp at h⟩, by simp, fun ad h => by cases h⟩
theorem Byt.take {w : World} {Z : Nat} {A : Option Addr} {c : Nat} {l : List Int} (h : Byt w Z A c l) (n : Nat) (hn : n ≤ l.length) : Byt w Z A c (l.take n) := by
  have hl : (l.take n).length = n := by simp; omega
  refine ⟨⟨rfl, by have := h.rd.2.1; omega, fun h0 => ?_⟩, by have := h.cap; omega, fun ad e h0 => h.foot ad e (by omega)⟩
  obtain ⟨ad, e, hc⟩ := h.rd.2.2 (by omega)
  refine ⟨ad, e, fun j hj => ?_⟩
  rw [hc j (by omega)]
  simp [List.getD_eq_getElem?_getD, List.getElem?_take_of_lt (show j < n by omega)]
theorem add_add' (ad : Addr) (n j : Nat) : (ad.add n).add j = ad.add (n + j) := by
  unfold Addr.add
  by_cases h1 : j = 0
  · subst h1; simp
  · by_cases h2 : n = 0
    · subst h2; simp [h1]
    · simp [h1, h2, Nat.add_assoc]
theorem add_block (ad : Addr) (n : Nat) : (ad.add n).block = ad.block := by unfold Addr.add; split <;> rfl
theorem Byt.drop {w : World} {Z : Nat} {A : Option Addr} {c : Nat} {l : List Int} (h : Byt w Z A c l) (n : Nat) (hn : n ≤ l.length) : Byt w Z (if c = n then A else A.map (·.add n)) (c - n) (l.drop n) := by
  have hl : (l.drop n).length = l.length - n := by simp
  have hcap := h.cap
  refine ⟨⟨rfl, by have := h.rd.2.1; omega, fun h0 => ?_⟩, by omega, fun ad e h0 => ?_⟩
  · obtain ⟨ad, rfl, hc⟩ := h.rd.2.2 (by omega)
    refine ⟨ad.add n, by rw [if_neg (by omega)]; rfl, fun j hj => ?_⟩
    rw [add_add', hc (n + j) (by omega)]
    simp [List.getD_eq_getElem?_getD, List.getElem?_drop]
  · rw [if_neg (by omega)] at e
    obtain ⟨ad0, rfl, rfl⟩ := Option.map_eq_some_iff.1 e
    rw [add_block]
    exact h.foot ad0 rfl (by omega)
theorem KeepBut.set0 (w : World) (g j : Nat) (u : Value) : KeepBut w (w.setCell ⟨g, j, none⟩ u) g none := (KeepBut.refl w g none).set_ j u
theorem Rdr.bad1 {w : World} {Z g : Nat} {A : Option Addr} {c : Nat} {l : List Int} {b : Bool} (h : Rdr w Z g A c l b) : Rdr (w.setCell ⟨g, 1, none⟩ (.bool true)) Z g A c l true := by
  refine ⟨?_, h.byt.keep (KeepBut.set0 w g 1 _) h.lo, h.lo⟩
  rw [heap_setCell_same _ _ _ _ _ _ h.heap]; rfl
theorem Rdr.cut1 {w : World} {Z g : Nat} {A A2 : Option Addr} {c c2 m : Nat} {l l2 : List Int} {b : Bool} (h : Rdr w Z g A c l b) (hm : m = l2.length) (h2 : Byt w Z A2 c2 l2) : Rdr (w.setCell ⟨g, 0, none⟩ (.slice A2 m c2)) Z g A2 c2 l2 b := by
  subst hm
  refine ⟨?_, h2.keep (KeepBut.set0 w g 0 _) h.lo, h.lo⟩
  rw [heap_setCell_same _ _ _ _ _ _ h.heap]; rfl
/-- Between the worlds the reader alone has been written to, of what was there; what lies below Z is as it was. -/
def Kb (w w' : World) (Z g : Nat) : Prop := Below Z w w' ∧ KeepBut w w' g none
theorem kb_set (w : World) {Z g : Nat} (hZ : Z ≤ g) (j : Nat) (u : Value) : Kb w (w.setCell ⟨g, j, none⟩ u) Z g :=
  ⟨(Below.refl Z w).setCell (by exact hZ) _, KeepBut.set0 w g j u⟩
theorem Kb.trans {w w1 w2 : World} {Z g : Nat} (h : Kb w w1 Z g) (k : Kb w1 w2 Z g) : Kb w w2 Z g := ⟨h.1.trans k.1, h.2.trans k.2 (.inl rfl)⟩
theorem Kb.below {w w1 : World} {Z g : Nat} (hb : Below w.heap.size w w1) (hZ : Z ≤ w.heap.size) : Kb w w1 Z g := ⟨hb.mono hZ, KeepBut.of_below hb g none⟩
/-- What cut answers: the bytes, what is left, whether it is bad now. -/
def rcut (l : List Int) (bad : Bool) (n : Nat) : List Int × List Int × Bool := if bad = true ∨ l.length < n then ([], l, true) else (l.take n, l.drop n, false)
set_option maxHeartbeats 2000000 in
set_option maxRecDepth 100000 in
theorem cut_walk (w : World) (Z g : Nat) (A : Option Addr) (c : Nat) (l : List Int) (bad : Bool) (n : Nat) (hn : n < 18446744073709551616) (H : Rdr w Z g A c l bad) :
    Calls Try.prog 63 #[.pointer (some ⟨g, 0, none⟩), .int .u64 n] w fun e w' => ∃ A1 c1, e = .returned (.slice A1 (rcut l bad n).1.length c1) ∧ Byt w' Z A1 c1 (rcut l bad n).1 ∧ (∃ A2 c2, Rdr w' Z g A2 c2 (rcut l bad n).2.1 (rcut l bad n).2.2) ∧ Kb w w' Z g := by
  have h0 : w.cell? ⟨g, 0, none⟩ = some (.slice A l.length c) := by simp [World.cell?, H.heap]
  have h1 : w.cell? ⟨g, 1, none⟩ = some (.bool bad) := by simp [World.cell?, H.heap]
  have f0 : w.frozen? ⟨g, 0, none⟩ = false := by simp [World.frozen?, H.heap]
  have f1 : w.frozen? ⟨g, 1, none⟩ = false := by simp [World.frozen?, H.heap]
  have hl := H.byt.rd.2.1
  have hcap := H.byt.cap
  have hw : IntKind.u64.wrap (l.length : Int) = (l.length : Int) := by rw [IntKind.wrap_u64]; omega
  have HH := Aside0.mk H
  clear H
  have hu37 := Try.underlying37
  have hu5 := Try.underlying5
  go_enter Try.func63, Try.ntmps63
  cases bad with
  | true =>
    have e : rcut l true n = ([], l, true) := by simp [rcut]
    rw [e]
    go_wp2_with fail
    go_ret
    exact ⟨none, 0, rfl, Byt.nil _ _ _, ⟨A, c, HH.out.bad1⟩, kb_set _ HH.out.lo _ _⟩
  | false =>
    by_cases hlt : l.length < n
    · have e : rcut l false n = ([], l, true) := by simp [rcut, hlt]
      rw [e]
      go_wp2_with fail
      go_ret
      exact ⟨none, 0, rfl, Byt.nil _ _ _, ⟨A, c, HH.out.bad1⟩, kb_set _ HH.out.lo _ _⟩
    · have e : rcut l false n = (l.take n, l.drop n, false) := by simp [rcut, hlt]
      rw [e]
      have hn' : n ≤ l.length := by omega
      have el : (l.take n).length = n := by simp; omega
      have B1 := Aside0.mk (HH.out.byt.take n hn')
      have B2 := Aside0.mk (HH.out.byt.drop n hn')
      have E1 := Aside0.mk el
      clear el
      by_cases hcn : c = n
      · subst hcn
        go_wp2_with fail
        go_ret
        have b2 := B2.out
        simp only [if_true, Nat.sub_self] at b2
        exact ⟨A, c, by first | rfl | (rw [E1.out]; rfl), B1.out.keep (KeepBut.set0 _ _ _ _) HH.out.lo, ⟨A, 0, HH.out.cut1 (by simp <;> omega) b2⟩, kb_set _ HH.out.lo _ _⟩
      · go_wp2_with fail
        go_ret
        have b2 := B2.out
        rw [if_neg hcn] at b2
        exact ⟨A, c, by first | rfl | (rw [E1.out]; rfl), B1.out.keep (KeepBut.set0 _ _ _ _) HH.out.lo, ⟨_, c - n, HH.out.cut1 (by simp <;> omega) b2⟩, kb_set _ HH.out.lo _ _⟩
end Go.Proofs.Ytdhkhjfjjbdkgaa.Rec
namespace Go.Proofs.Ytdhkhjfjjbdkgaa.Rec
open Go.RowKit Go.Proofs.YtdhkhjfjjbdkgaaW.PrintWords Go.Proofs.YtdhkhjfjjbdkgaaW.PrintLast Go.Proofs.YtdhkhjfjjbdkgaaW.PrintMore
set_option linter.unusedVariables false
set_option linter.unusedSimpArgs false
/-- A number out of its bytes, the highest first, as the code reckons it. -/
def numStep (r c : Int) : Int := Go.bits .or .u64 (IntKind.u64.wrap (r * 256)) (IntKind.u64.wrap c)
def numOf (l : List Int) : Int := l.foldl numStep 0
theorem Byt.at_ {w : World} {Z : Nat} {A : Option Addr} {c : Nat} {l : List Int} (h : Byt w Z A c l) (i : Nat) (hi : i < l.length) : ∃ ad, A = some ad ∧ w.cell? (ad.add i) = some (.int .u8 (l.getD i 0)) := by
  obtain ⟨ad, e, hc⟩ := h.rd.2.2 (by omega)
  exact ⟨ad, e, hc i hi⟩
theorem rcut_len (l : List Int) (bad : Bool) (n : Nat) : (rcut l bad n).1.length ≤ n := by
  unfold rcut; split
  · simp
  · simp; omega
set_option maxHeartbeats 2000000 in
set_option maxRecDepth 100000 in
theorem take64_walk (w : World) (Z g : Nat) (A : Option Addr) (c : Nat) (l : List Int) (bad : Bool) (n : Nat) (hn : n < 9223372036854775807) (H : Rdr w Z g A c l bad) :
    Calls Try.prog 62 #[.pointer (some ⟨g, 0, none⟩), .int .i64 n] w fun e w' => e = .returned (.int .u64 (numOf (rcut l bad n).1)) ∧ (∃ A2 c2, Rdr w' Z g A2 c2 (rcut l bad n).2.1 (rcut l bad n).2.2) ∧ Kb w w' Z g := by
  have HH := Aside0.mk H
  clear H
  have hw : IntKind.u64.wrap (n : Int) = (n : Int) := by rw [IntKind.wrap_u64]; omega
  have hcl := rcut_len l bad n
  obtain ⟨⟨x, l2, b2⟩, hq⟩ : ∃ q, rcut l bad n = q := ⟨_, rfl⟩
  rw [hq] at hcl ⊢
  have HQ := Aside0.mk hq
  clear hq
  simp only at hcl ⊢
  go_enter Try.func62, Try.ntmps62
  go_wp2_with fail
  refine (cut_walk _ Z g A c l bad n (by omega) HH.out).mono ?_
  rintro e w1 ⟨A1, c1, rfl, hb, hr, hk⟩
  rw [HQ.out] at hb hr
  rw [HQ.out]
  simp only at hb hr ⊢
  have HB := Aside0.mk hb; have HR := Aside0.mk hr; have HK := Aside0.mk hk
  clear hb hr hk HH
  go_wp2_with fail
  go_loop [5, 7, 13] (fun v5 v7 v13 => ∃ i : Nat, i ≤ x.length ∧ v13 = .int .i64 i ∧ v5 = .int .u64 ((x.take i).foldl numStep 0)) (fun _ _ v => x.length - (intOf v).toNat)
  case atStart => exact ⟨0, Nat.zero_le _, rfl, rfl⟩
  case round =>
    obtain ⟨i, hi, rfl, rfl⟩ := hrel
    by_cases hlt : i < x.length
    · have HN := Aside0.mk (take_fold x i hlt numStep 0)
      obtain ⟨ad, rfl, hx⟩ := HB.out.at_ i hlt
      obtain ⟨R, hR⟩ : ∃ R, (x.take i).foldl numStep 0 = R := ⟨_, rfl⟩
      rw [hR] at HN
      rw [hR]
      clear hR
      generalize x.getD i 0 = c at hx HN
      have p1 : (0 : Int) ≤ (i : Int) := by omega
      have q1 : (i : Int) < (x.length : Int) := by omega
      go_wp2_with fail
      go_round
      case rel => exact ⟨i + 1, by omega, by go_num, by rw [HN.out]; rfl⟩
      case measure => simp [intOf]; omega
    · obtain rfl : i = x.length := by omega
      rw [List.take_length]
      go_wp2_with fail
      go_ret
      exact ⟨rfl, HR.out, HK.out⟩
set_option maxHeartbeats 2000000 in
set_option maxRecDepth 100000 in
theorem take8_walk (w : World) (Z g : Nat) (A : Option Addr) (c : Nat) (l : List Int) (bad : Bool) (n : Nat) (hn : n < 9223372036854775807) (H : Rdr w Z g A c l bad) :
    Calls Try.prog 64 #[.pointer (some ⟨g, 0, none⟩), .int .i64 n] w fun e w' => e = .returned (.int .u8 (numOf (rcut l bad n).1 % 256)) ∧ (∃ A2 c2, Rdr w' Z g A2 c2 (rcut l bad n).2.1 (rcut l bad n).2.2) ∧ Kb w w' Z g := by
  have HH := Aside0.mk H
  clear H
  have hw : IntKind.u64.wrap (n : Int) = (n : Int) := by rw [IntKind.wrap_u64]; omega
  have hcl := rcut_len l bad n
  obtain ⟨⟨x, l2, b2⟩, hq⟩ : ∃ q, rcut l bad n = q := ⟨_, rfl⟩
  rw [hq] at hcl ⊢
  have HQ := Aside0.mk hq
  clear hq
  simp only at hcl ⊢
  go_enter Try.func64, Try.ntmps64
  go_wp2_with fail
  refine (cut_walk _ Z g A c l bad n (by omega) HH.out).mono ?_
  rintro e w1 ⟨A1, c1, rfl, hb, hr, hk⟩
  rw [HQ.out] at hb hr
  rw [HQ.out]
  simp only at hb hr ⊢
  have HB := Aside0.mk hb; have HR := Aside0.mk hr; have HK := Aside0.mk hk
  clear hb hr hk HH
  go_wp2_with fail
  go_loop [5, 7, 13] (fun v5 v7 v13 => ∃ i : Nat, i ≤ x.length ∧ v13 = .int .i64 i ∧ v5 = .int .u64 ((x.take i).foldl numStep 0)) (fun _ _ v => x.length - (intOf v).toNat)
  case atStart => exact ⟨0, Nat.zero_le _, rfl, rfl⟩
  case round =>
    obtain ⟨i, hi, rfl, rfl⟩ := hrel
    by_cases hlt : i < x.length
    · have HN := Aside0.mk (take_fold x i hlt numStep 0)
      obtain ⟨ad, rfl, hx⟩ := HB.out.at_ i hlt
      obtain ⟨R, hR⟩ : ∃ R, (x.take i).foldl numStep 0 = R := ⟨_, rfl⟩
      rw [hR] at HN
      rw [hR]
      clear hR
      generalize x.getD i 0 = c at hx HN
      have p1 : (0 : Int) ≤ (i : Int) := by omega
      have q1 : (i : Int) < (x.length : Int) := by omega
      go_wp2_with fail
      go_round
      case rel => exact ⟨i + 1, by omega, by go_num, by rw [HN.out]; rfl⟩
      case measure => simp [intOf]; omega
    · obtain rfl : i = x.length := by omega
      rw [List.take_length]
      go_wp2_with fail
      go_ret
      exact ⟨rfl, HR.out, HK.out⟩
set_option maxHeartbeats 2000000 in
set_option maxRecDepth 100000 in
theorem take32_walk (w : World) (Z g : Nat) (A : Option Addr) (c : Nat) (l : List Int) (bad : Bool) (n : Nat) (hn : n < 9223372036854775807) (H : Rdr w Z g A c l bad) :
    Calls Try.prog 70 #[.pointer (some ⟨g, 0, none⟩), .int .i64 n] w fun e w' => e = .returned (.int .u32 (numOf (rcut l bad n).1 % 4294967296)) ∧ (∃ A2 c2, Rdr w' Z g A2 c2 (rcut l bad n).2.1 (rcut l bad n).2.2) ∧ Kb w w' Z g := by
  have HH := Aside0.mk H
  clear H
  have hw : IntKind.u64.wrap (n : Int) = (n : Int) := by rw [IntKind.wrap_u64]; omega
  have hcl := rcut_len l bad n
  obtain ⟨⟨x, l2, b2⟩, hq⟩ : ∃ q, rcut l bad n = q := ⟨_, rfl⟩
  rw [hq] at hcl ⊢
  have HQ := Aside0.mk hq
  clear hq
  simp only at hcl ⊢
  go_enter Try.func70, Try.ntmps70
  go_wp2_with fail
  refine (cut_walk _ Z g A c l bad n (by omega) HH.out).mono ?_
  rintro e w1 ⟨A1, c1, rfl, hb, hr, hk⟩
  rw [HQ.out] at hb hr
  rw [HQ.out]
  simp only at hb hr ⊢
  have HB := Aside0.mk hb; have HR := Aside0.mk hr; have HK := Aside0.mk hk
  clear hb hr hk HH
  go_wp2_with fail
  go_loop [5, 7, 13] (fun v5 v7 v13 => ∃ i : Nat, i ≤ x.length ∧ v13 = .int .i64 i ∧ v5 = .int .u64 ((x.take i).foldl numStep 0)) (fun _ _ v => x.length - (intOf v).toNat)
  case atStart => exact ⟨0, Nat.zero_le _, rfl, rfl⟩
  case round =>
    obtain ⟨i, hi, rfl, rfl⟩ := hrel
    by_cases hlt : i < x.length
    · have HN := Aside0.mk (take_fold x i hlt numStep 0)
      obtain ⟨ad, rfl, hx⟩ := HB.out.at_ i hlt
      obtain ⟨R, hR⟩ : ∃ R, (x.take i).foldl numStep 0 = R := ⟨_, rfl⟩
      rw [hR] at HN
      rw [hR]
      clear hR
      generalize x.getD i 0 = c at hx HN
      have p1 : (0 : Int) ≤ (i : Int) := by omega
      have q1 : (i : Int) < (x.length : Int) := by omega
      go_wp2_with fail
      go_round
      case rel => exact ⟨i + 1, by omega, by go_num, by rw [HN.out]; rfl⟩
      case measure => simp [intOf]; omega
    · obtain rfl : i = x.length := by omega
      rw [List.take_length]
      go_wp2_with fail
      go_ret
      exact ⟨rfl, HR.out, HK.out⟩
end Go.Proofs.Ytdhkhjfjjbdkgaa.Rec
namespace Go.Proofs.Ytdhkhjfjjbdkgaa.Rec
open Go.RowKit Go.Proofs.YtdhkhjfjjbdkgaaW.PrintWords Go.Proofs.YtdhkhjfjjbdkgaaW.PrintLast Go.Proofs.YtdhkhjfjjbdkgaaW.PrintMore
set_option linter.unusedVariables false
set_option linter.unusedSimpArgs false
/-- What text answers: the bytes, what is left, whether it is bad now. -/
def rtext (l : List Int) (bad : Bool) : List Int × List Int × Bool :=
  rcut (rcut l bad 4).2.1 ((rcut l bad 4).2.2 || decide (4096 < numOf (rcut l bad 4).1 % 4294967296)) (numOf (rcut l bad 4).1 % 4294967296).toNat
theorem Rdr.cells {w : World} {Z g : Nat} {A : Option Addr} {c : Nat} {l : List Int} {b : Bool} (h : Rdr w Z g A c l b) : w.cell? ⟨g, 0, none⟩ = some (.slice A l.length c) ∧ w.cell? ⟨g, 1, none⟩ = some (.bool b) ∧ w.frozen? ⟨g, 0, none⟩ = false ∧ w.frozen? ⟨g, 1, none⟩ = false := by
  refine ⟨?_, ?_, ?_, ?_⟩ <;> simp [World.cell?, World.frozen?, h.heap]
theorem Rdr.below {w w' : World} {Z g : Nat} {A : Option Addr} {c : Nat} {l : List Int} {b : Bool} (h : Rdr w Z g A c l b) (hb : Below w.heap.size w w') : Rdr w' Z g A c l b :=
  ⟨by rw [hb.block g (Array.getElem?_eq_some_iff.1 h.heap).1]; exact h.heap, h.byt.keep (KeepBut.of_below hb g none) h.lo, h.lo⟩
theorem Byt.C {w : World} {Z : Nat} {A : Option Addr} {c : Nat} {l : List Int} (h : Byt w Z A c l) : Kd.C (Kd.int .u8) w A l.length l := Kd.C_of_reads (d := (0 : Int)) (h1 := fun _ => rfl) h.rd
theorem keep3 {w w1 w2 : World} {g : Nat} (h : KeepBut w w1 g none) (k : KeepBut w1 w2 g none) : KeepBut w w2 g none := h.trans k (.inl rfl)
set_option maxHeartbeats 2000000 in
set_option maxRecDepth 100000 in
theorem text_walk (w : World) (Z g : Nat) (A : Option Addr) (c : Nat) (l : List Int) (bad : Bool) (H : Rdr w Z g A c l bad) :
    Calls Try.prog 71 #[.pointer (some ⟨g, 0, none⟩)] w fun e w' => ∃ v : Value, e = .returned v ∧ Kd.R (Kd.int .u8) 5 w' w.heap.size (fun _ => True) v (rtext l bad).1 ∧ (∃ A2 c2, Rdr w' Z g A2 c2 (rtext l bad).2.1 (rtext l bad).2.2) ∧ Kb w w' Z g := by
  have HH := Aside0.mk H
  clear H
  obtain ⟨⟨x, l1, b1⟩, hq⟩ : ∃ q, rcut l bad 4 = q := ⟨_, rfl⟩
  have hrt : rtext l bad = rcut l1 (b1 || decide (4096 < numOf x % 4294967296)) (numOf x % 4294967296).toNat := by unfold rtext; rw [hq]
  have HQ := Aside0.mk hq
  clear hq
  obtain ⟨m, hm⟩ : ∃ m : Nat, numOf x % 4294967296 = (m : Int) := ⟨(numOf x % 4294967296).toNat, by omega⟩
  have hm2 : m < 4294967296 := by omega
  rw [hm, Int.toNat_natCast] at hrt
  have HM := Aside0.mk hm
  clear hm
  obtain ⟨⟨y, l2, b2⟩, hq2⟩ : ∃ q, rtext l bad = q := ⟨_, rfl⟩
  rw [hq2] at hrt ⊢
  have HT := Aside0.mk hrt
  clear hrt hq2
  simp only
  have hw : IntKind.u64.wrap (m : Int) = (m : Int) := by rw [IntKind.wrap_u64]; omega
  go_enter Try.func71, Try.ntmps71
  go_wp2_with fail
  refine (take32_walk _ Z g A c l bad 4 (by omega) HH.out).mono ?_
  rintro e w1 ⟨rfl, ⟨A1, c1, hr⟩, hk⟩
  rw [HQ.out] at hr
  rw [HQ.out]
  simp only at hr ⊢
  rw [HM.out]
  obtain ⟨h0, h1, f0, f1⟩ := hr.cells
  have HR := Aside0.mk hr; have HK := Aside0.mk hk
  clear hr hk HH
  by_cases hgt : (4096 : Int) < (m : Int)
  · have hg1 : decide ((4096 : Int) < (m : Int)) = true := decide_eq_true hgt
    go_wp2_with fail
    refine (cut_walk _ Z g A1 c1 l1 true m (by omega) HR.out.bad1).mono ?_
    rintro e w3 ⟨A3, c3, rfl, hb3, ⟨A4, c4, hr4⟩, hk3⟩
    have e5 : rcut l1 true m = (y, l2, b2) := by have := HT.out; rw [hg1] at this; simpa using this.symm
    rw [e5] at hb3 hr4
    rw [e5]
    simp only at hb3 hr4 ⊢
    have HB3 := Aside0.mk hb3; have HR4 := Aside0.mk hr4; have HK3 := Aside0.mk ((HK.out.trans (kb_set _ HR.out.lo _ _)).trans hk3)
    have HZ3 := Aside0.mk (Nat.le_trans HR4.out.lo (Nat.le_of_lt (Array.getElem?_eq_some_iff.1 HR4.out.heap).1))
    have hbnd := rcut_len l1 true m
    rw [e5] at hbnd
    simp only at hbnd
    clear hb3 hr4 hk3 e5
    go_wp2_with ((with_reducible refine gate_dst (N := 15) rfl ?_); refine halt ?_)
    refine unhalt ?_
    at_builtin
    refine Kd.R_append_rows (Kd.int .u8) (w0 := w3) w3.heap.size rfl _ (.tmp 14) 37 5 (.int .u8 0) 1 rfl Try.underlying37 infoU8 rfl (by decide) (by omega) (.slice none 0 0) ([] : List Int) y _ _ _ (fun _ => True) (fun _ => False) rfl rfl (Kd.R_nil _ _ _ _ (fun _ => True)) HB3.out.C (fun _ _ h => h) (fun _ h => h.elim) (fun _ _ => trivial) (Below.refl _ _) (Nat.le_refl _) (by simp; omega) ?_
    intro v w5 ho hb hg hat
    have HO := Aside0.mk (Kd.R_lower ho HK3.out.2.1); have HB := Aside0.mk hb
    clear ho hb hg hat
    go_wp2_with fail
    go_ret
    exact ⟨v, rfl, by simpa using HO.out, ⟨A4, c4, HR4.out.below HB.out⟩, HK3.out.trans (Kb.below HB.out HZ3.out)⟩
  · have hg1 : decide ((4096 : Int) < (m : Int)) = false := decide_eq_false hgt
    go_wp2_with fail
    refine (cut_walk _ Z g A1 c1 l1 b1 m (by omega) HR.out).mono ?_
    rintro e w3 ⟨A3, c3, rfl, hb3, ⟨A4, c4, hr4⟩, hk3⟩
    have e5 : rcut l1 b1 m = (y, l2, b2) := by have := HT.out; rw [hg1] at this; simpa using this.symm
    rw [e5] at hb3 hr4
    rw [e5]
    simp only at hb3 hr4 ⊢
    have HB3 := Aside0.mk hb3; have HR4 := Aside0.mk hr4; have HK3 := Aside0.mk (HK.out.trans hk3)
    have HZ3 := Aside0.mk (Nat.le_trans HR4.out.lo (Nat.le_of_lt (Array.getElem?_eq_some_iff.1 HR4.out.heap).1))
    have hbnd := rcut_len l1 b1 m
    rw [e5] at hbnd
    simp only at hbnd
    clear hb3 hr4 hk3 e5
    go_wp2_with ((with_reducible refine gate_dst (N := 15) rfl ?_); refine halt ?_)
    refine unhalt ?_
    at_builtin
    refine Kd.R_append_rows (Kd.int .u8) (w0 := w3) w3.heap.size rfl _ (.tmp 14) 37 5 (.int .u8 0) 1 rfl Try.underlying37 infoU8 rfl (by decide) (by omega) (.slice none 0 0) ([] : List Int) y _ _ _ (fun _ => True) (fun _ => False) rfl rfl (Kd.R_nil _ _ _ _ (fun _ => True)) HB3.out.C (fun _ _ h => h) (fun _ h => h.elim) (fun _ _ => trivial) (Below.refl _ _) (Nat.le_refl _) (by simp; omega) ?_
    intro v w5 ho hb hg hat
    have HO := Aside0.mk (Kd.R_lower ho HK3.out.2.1); have HB := Aside0.mk hb
    clear ho hb hg hat
    go_wp2_with fail
    go_ret
    exact ⟨v, rfl, by simpa using HO.out, ⟨A4, c4, HR4.out.below HB.out⟩, HK3.out.trans (Kb.below HB.out HZ3.out)⟩
end Go.Proofs.Ytdhkhjfjjbdkgaa.Rec
