/- Package arena: Alloc, Get and Set, walked. -/
import Derived.Test.YthdahjmkkdljbaaExt
namespace Go.Proofs.Ythdahjmkkdljbaa.Sp
open Go.RowKit Go.Proofs.YthdahjmkkdljbaaW.PrintWords Go.Proofs.YthdahjmkkdljbaaW.PrintLast Go.Proofs.YthdahjmkkdljbaaW.PrintMore
set_option linter.unusedVariables false
set_option linter.unusedSimpArgs false
def AllocPost (w : World) (own : Own) (a p size : Nat) (l : List AO) (k r x : Nat) (e : Ending) (w' : World) : Prop :=
  ∃ own', e = .returned (.tuple #[.int .i64 (usedOf l : Int), .int .i64 0]) ∧ IsAr w' own' a p size (l ++ [(headW k r x, List.replicate (r + x) 0)]) ∧ ArStep w own w' own' a
set_option maxHeartbeats 4000000 in
theorem arAlloc_walk (w : World) (own : Own) (a p size : Nat) (l : List AO) (H : IsAr w own a p size l) (k r x : Nat) (hs : Shape k r x) (hr : usedOf l + (1 + r + x) ≤ size) (ho : ∀ b, w.heap.size ≤ b → own b = 0) :
    Calls Try.prog 35 #[.pointer (some ⟨p, 0, none⟩), .int .i64 (k : Int), .int .i64 (r : Int), .int .i64 (x : Int)] w (AllocPost w own a p size l k r x) := by
  obtain ⟨gw, gf, cw, cf, bs, -, c0, c1, c2, -, -⟩ := H.cells
  have hs2 := H.s2
  have HH := Lib.hid H; have HS := Lib.hid hs; have HO := Lib.hid ho
  obtain ⟨_, _, hr2, hx2⟩ := hs
  clear H ho
  go_enter Try.func35, Try.ntmps35
  go_wp2_with fail
  refine (head_walk k r x HS.out w).mono ?_
  rintro e w' ⟨rfl, rfl⟩
  have hsub : IntKind.i64.wrap ((size : Int) - (usedOf l : Int)) = (size : Int) - (usedOf l : Int) := Go.IntWalk.i64_in _ (by omega)
  have hd : decide ((size : Int) - (usedOf l : Int) < 1 + (r : Int) + (x : Int)) = false := decide_eq_false (by omega)
  go_wp2_with fail
  go_quiet (fail)
  go_wp2_with fail
  rw [show (1 : Int) + (r : Int) + (x : Int) = ((1 + r + x : Nat) : Int) by omega]
  refine (extend_walk _ own a p size l (HH.out.drewN _) (headW k r x) (1 + r + x) (by have := HS.out.lt; omega) (by omega) hr HO.out).mono ?_
  rintro e w' ⟨own', rfl, h1, h2⟩
  have H1 := Lib.hid h1; have H2 := Lib.hid h2
  clear h1 h2
  go_wp2_with fail
  go_ret2
  refine ⟨own', rfl, ?_, ?_⟩
  · have := H1.out
    rwa [show 1 + r + x - 1 = r + x by omega] at this
  · exact ⟨⟨H2.out.fr.os, H2.out.fr.tape, H2.out.fr.output, H2.out.fr.size, H2.out.fr.block⟩, H2.out.ow, H2.out.nw, H2.out.top⟩
def FullPost (w : World) (e : Ending) (w' : World) : Prop := e = .returned (.tuple #[.int .i64 0, .int .i64 22]) ∧ ∃ n, w' = w.drewN n
set_option maxHeartbeats 4000000 in
theorem arAlloc_full (w : World) (own : Own) (a p size : Nat) (l : List AO) (H : IsAr w own a p size l) (k r x : Nat) (hs : Shape k r x) (hr : size < usedOf l + (1 + r + x)) :
    Calls Try.prog 35 #[.pointer (some ⟨p, 0, none⟩), .int .i64 (k : Int), .int .i64 (r : Int), .int .i64 (x : Int)] w (FullPost w) := by
  obtain ⟨gw, gf, cw, cf, bs, -, c0, c1, c2, -, -⟩ := H.cells
  have hs2 := H.s2
  have hfit := H.fit
  have HH := Lib.hid H; have HS := Lib.hid hs
  obtain ⟨_, _, hr2, hx2⟩ := hs
  clear H
  go_enter Try.func35, Try.ntmps35
  go_wp2_with fail
  refine (head_walk k r x HS.out w).mono ?_
  rintro e w' ⟨rfl, rfl⟩
  have hsub : IntKind.i64.wrap ((size : Int) - (usedOf l : Int)) = (size : Int) - (usedOf l : Int) := Go.IntWalk.i64_in _ (by omega)
  have hd : decide ((size : Int) - (usedOf l : Int) < 1 + (r : Int) + (x : Int)) = true := decide_eq_true (by omega)
  go_wp2_with fail
  go_quiet (fail)
  go_wp2_with fail
  go_ret2
  exact ⟨rfl, _, rfl⟩
theorem slice_inj {g g' n n' c c' : Nat} (h : Value.slice (some ⟨g, 0, none⟩) n c = .slice (some ⟨g', 0, none⟩) n' c') : g = g' := by
  injection h with h _ _; injection h with h; injection h with h
set_option maxHeartbeats 4000000 in
theorem arGet_walk (w : World) (own : Own) (a p size : Nat) (l : List AO) (H : IsAr w own a p size l) (i : Nat) (hi : i < l.length) (k r x : Nat) (hs : Shape k r x) (hh : l[i].1 = headW k r x) (hf : l[i].2.length = r + x) (at_ : Int) (hat : at_ = (posOf l i : Int)) (j : Nat) (hj : j < r + x) :
    Calls Try.prog 99 #[.pointer (some ⟨p, 0, none⟩), .int .i64 at_, .int .i64 (j : Int)] w fun e w' => e = .returned (.tuple #[.int .u64 (l[i].2[j] : Int), .int .i64 0]) ∧ w = w' := by
  obtain ⟨gw, gf, cw, cf, bs, -, c0, c1, c2, -, -, -, cW, -⟩ := H.cells
  have hpos := pos_used l i hi
  have hlen := block_len l
  have hos : osize l[i] = 1 + (r + x) := by unfold osize; omega
  have hc := cW (posOf l i + 1 + j) (by omega)
  have e := field_at l i hi j (by omega)
  rw [List.getElem?_eq_getElem (by omega)] at e
  rw [Option.some.inj e] at hc
  unfold wv at hc
  have C1 := Lib.hid c1
  obtain ⟨v, hv⟩ : ∃ v, l[i].2[j] = v := ⟨_, rfl⟩
  rw [hv] at hc ⊢
  have HH := Lib.hid H; have HS := Lib.hid hs; have HHd := Lib.hid hh; have HF := Lib.hid hf; have HA := Lib.hid hat
  clear H hs hh hf hat cW hlen e hv c0 c1 c2
  go_enter Try.func99, Try.ntmps99
  go_wp2_with fail
  refine (fields_walk w own a p size l HH.out i hi k r x HS.out HHd.out HF.out at_ HA.out).mono ?_
  rintro e w' ⟨A, rfl, rfl, hA⟩
  obtain ⟨gw', cw', rfl, -, hA2⟩ := hA (by omega)
  have hg : gw = gw' := slice_inj (Option.some.inj (C1.out.symm.trans hA2))
  subst hg
  clear hA2 hA
  obtain ⟨q, hq⟩ : ∃ q, posOf l i = q := ⟨_, rfl⟩
  rw [hq] at hc hpos
  rw [hq]
  have hs2 := HH.out.s2
  have hfit := HH.out.fit
  rw [hos] at hpos
  clear hq hos
  have hd : decide ((r : Int) + (x : Int) ≤ (j : Int)) = false := decide_eq_false (by omega)
  go_wp2_with fail
  go_ret2
  exact ⟨rfl, rfl⟩
def SetPost (w : World) (own : Own) (a p size : Nat) (l : List AO) (i j v : Nat) (e : Ending) (w' : World) : Prop :=
  e = .returned (.int .i64 0) ∧ (∃ h : i < l.length, IsAr w' own a p size (l.set i (l[i].1, l[i].2.set j v))) ∧ ArStep w own w' own a
theorem set_fin {w : World} {own : Own} {a p size : Nat} {l : List AO} (H : IsAr w own a p size l) (i : Nat) (hi : i < l.length) (j v gw cw n : Nat) (hj : j < l[i].2.length) (hv : v < 18446744073709551616) (ho : ∀ b, w.heap.size ≤ b → own b = 0) (hc : w.cell? ⟨p, 1, none⟩ = some (.slice (some ⟨gw, 0, none⟩) n cw)) :
    SetPost w own a p size l i j v (.returned (.int .i64 0)) (w.setCell ⟨gw, posOf l i + 1 + j, none⟩ (.int .u64 (v : Int))) := by
  obtain ⟨gw', gf, cw', cf, bs, h1, h2, h3, h4, h5, h6, h7⟩ := H.out
  have hcell : w.cell? ⟨p, 1, none⟩ = some (.slice (some ⟨gw', 0, none⟩) (usedOf l) cw') := by simp [World.cell?, h1]
  have hg : gw = gw' := slice_inj (Option.some.inj (hc.symm.trans hcell))
  subst hg
  have hne : gw ≠ gf := by rintro rfl; omega
  have hR : Rw w p size gw cw' gf cf (blockWords l) bs := ⟨by rw [block_len]; exact h1, h2, h3, hne⟩
  have hS := hR.setw (posOf l i + 1 + j) v
  rw [← set_field l i hi j v hj] at hS
  have hos : osize (l[i].1, l[i].2.set j v) = osize l[i] := by unfold osize; rw [List.length_set]
  refine ⟨rfl, ⟨hi, ⟨gw, gf, cw', cf, bs, ?_, hS.rw, hS.rf, h4.set i _ hi hos, h5, h6, h7⟩, H.s1, H.s2, by rw [used_set l i _ hi hos]; exact H.fit, fun o hm => ?_⟩, ⟨?_, Ow.refl _ _, fun b hb => .inl (ho b hb), fun b hb => ho b (by simpa [World.setCell] using hb)⟩⟩
  · have := hS.hp
    rw [block_len] at this
    exact this
  · rcases List.mem_or_eq_of_mem_set hm with hm | rfl
    · exact H.lt o hm
    · refine ⟨(H.lt _ (List.getElem_mem hi)).1, fun y hy => ?_⟩
      rcases List.mem_or_eq_of_mem_set hy with hy | rfl
      · exact (H.lt _ (List.getElem_mem hi)).2 y hy
      · exact hv
  · exact (Fr.refl _ w).setCell (.inl (.inr (.inl h6))) _
set_option maxHeartbeats 4000000 in
theorem arSet_walk (w : World) (own : Own) (a p size : Nat) (l : List AO) (H : IsAr w own a p size l) (i : Nat) (hi : i < l.length) (k r x : Nat) (hs : Shape k r x) (hh : l[i].1 = headW k r x) (hf : l[i].2.length = r + x) (at_ : Int) (hat : at_ = (posOf l i : Int)) (j v : Nat) (hj : j < r + x) (hv : v < 18446744073709551616) (ho : ∀ b, w.heap.size ≤ b → own b = 0) :
    Calls Try.prog 100 #[.pointer (some ⟨p, 0, none⟩), .int .i64 at_, .int .i64 (j : Int), .int .u64 (v : Int)] w (SetPost w own a p size l i j v) := by
  obtain ⟨gw, gf, cw, cf, bs, -, c0, c1, c2, -, -, -, cW, -, fW, -⟩ := H.cells
  have hpos := pos_used l i hi
  have hlen := block_len l
  have hos : osize l[i] = 1 + (r + x) := by unfold osize; omega
  have hc := cW (posOf l i + 1 + j) (by omega)
  unfold wv at hc
  have hfz := fW (posOf l i + 1 + j)
  have C1 := Lib.hid c1
  obtain ⟨y, hy⟩ : ∃ y, (blockWords l)[posOf l i + 1 + j]'(by omega) = y := ⟨_, rfl⟩
  rw [hy] at hc
  have HH := Lib.hid H; have HS := Lib.hid hs; have HHd := Lib.hid hh; have HF := Lib.hid hf; have HA := Lib.hid hat; have HO := Lib.hid ho
  clear H hs hh hf hat cW hlen hy c0 c1 c2 fW ho
  go_enter Try.func100, Try.ntmps100
  go_wp2_with fail
  refine (fields_walk w own a p size l HH.out i hi k r x HS.out HHd.out HF.out at_ HA.out).mono ?_
  rintro e w' ⟨A, rfl, rfl, hA⟩
  obtain ⟨gw', cw', rfl, -, hA2⟩ := hA (by omega)
  have hg : gw = gw' := slice_inj (Option.some.inj (C1.out.symm.trans hA2))
  subst hg
  clear hA2 hA
  have hfin := set_fin HH.out i hi j v gw cw (usedOf l) (by rw [HF.out]; exact hj) hv HO.out C1.out
  have HFin := Lib.hid hfin
  clear hfin
  obtain ⟨q, hq⟩ : ∃ q, posOf l i = q := ⟨_, rfl⟩
  rw [hq] at hc hpos hfz HFin
  rw [hq]
  have hs2 := HH.out.s2
  have hfit := HH.out.fit
  rw [hos] at hpos
  clear hq hos
  have hd : decide ((r : Int) + (x : Int) ≤ (j : Int)) = false := decide_eq_false (by omega)
  go_wp2_with fail
  go_ret
  exact HFin.out
end Go.Proofs.Ythdahjmkkdljbaa.Sp
