/- Lists that are lent with marks behind them: Lend, Into, Intact. -/
import Derived.Test.YtdhkhjfjjbdkgaaParse
namespace Go.Proofs.Ytdhkhjfjjbdkgaa.Rec
open Go.RowKit Go.Proofs.YtdhkhjfjjbdkgaaW.PrintWords Go.Proofs.YtdhkhjfjjbdkgaaW.PrintLast Go.Proofs.YtdhkhjfjjbdkgaaW.PrintMore
set_option linter.unusedVariables false
set_option linter.unusedSimpArgs false
structure Lent (w : World) (g c : Nat) (l : List Int) : Prop where
  heap : ∃ rest, w.heap[g]? = some (.cells (u8s l ++ ([Value.int .u8 165, Value.int .u8 90, Value.int .u8 165] ++ rest)).toArray 5 (0, 0))
  cap : l.length + 3 ≤ c
  cmax : c ≤ maxLen
structure BytN (w : World) (g : Nat) (A : Option Addr) (c : Nat) (l : List Int) : Prop where
  rd : ReadsOf (fun x => Value.int .u8 x) 0 w A l.length l
  cap : l.length ≤ c
  foot : ∀ ad, A = some ad → 0 < l.length → ad.block ≠ g
theorem BytN.keep {w w' : World} {g : Nat} {A : Option Addr} {c : Nat} {l : List Int} (h : BytN w g A c l) (hk : KeepBut w w' g none) : BytN w' g A c l := ⟨h.rd.keep hk h.foot, h.cap, h.foot⟩
theorem BytN.at_ {w : World} {g : Nat} {A : Option Addr} {c : Nat} {l : List Int} (h : BytN w g A c l) (i : Nat) (hi : i < l.length) : ∃ ad, A = some ad ∧ w.cell? (ad.add i) = some (.int .u8 (l.getD i 0)) := by
  obtain ⟨ad, e, hc⟩ := h.rd.2.2 (by omega)
  exact ⟨ad, e, hc i hi⟩
def mid (l1 : List Int) (cs : List Value) (i : Nat) : List Value := u8s (l1.take i) ++ cs.drop i
theorem mid_len (l1 : List Int) (cs : List Value) (i : Nat) (h1 : i ≤ l1.length) (h2 : i ≤ cs.length) : (mid l1 cs i).length = cs.length := by
  unfold mid; rw [List.length_append, u8s_len]; simp; omega
theorem mid_set (l1 : List Int) (cs : List Value) (i : Nat) (h1 : i < l1.length) (h2 : i < cs.length) : (mid l1 cs i).set i (.int .u8 (l1.getD i 0)) = mid l1 cs (i + 1) := by
  unfold mid
  have e : (u8s (l1.take i)).length = i := by rw [u8s_len]; simp; omega
  rw [List.set_append, if_neg (by omega), e, Nat.sub_self, List.drop_eq_getElem_cons h2, List.set_cons_zero]
  rw [List.take_succ_eq_append_getElem h1]
  simp only [u8s, List.map_append, List.map_cons, List.map_nil, List.append_assoc, List.cons_append, List.nil_append]
  simp [List.getD_eq_getElem?_getD, h1]
theorem blk_cell_list {w : World} {g : Nat} {cs : List Value} {t : TypeId} (h : w.heap[g]? = some (.cells cs.toArray t (0, 0))) (i : Nat) (hi : i < cs.length) : (∃ v, w.cell? ⟨g, i, none⟩ = some v) ∧ w.frozen? ⟨g, i, none⟩ = false := by
  constructor
  · exact ⟨cs[i], by simp [World.cell?, h, hi]⟩
  · simp [World.frozen?, h]
theorem blk_set_list {w : World} {g : Nat} {cs : List Value} {t : TypeId} (h : w.heap[g]? = some (.cells cs.toArray t (0, 0))) (i : Nat) (v : Value) : (w.setCell ⟨g, i, none⟩ v).heap[g]? = some (.cells (cs.set i v).toArray t (0, 0)) := by
  rw [heap_setCell_same _ _ _ _ _ _ h]; simp
set_option maxHeartbeats 2000000 in
set_option maxRecDepth 100000 in
theorem into_walk (w : World) (Z g c n : Nat) (cs : List Value) (A1 : Option Addr) (c1 : Nat) (l1 : List Int) (hZ : Z ≤ g) (hb : w.heap[g]? = some (.cells cs.toArray 5 (0, 0))) (hn : n = l1.length) (hc : n ≤ cs.length) (h1 : BytN w g A1 c1 l1) :
    Calls Try.prog 25 #[.slice (some ⟨g, 0, none⟩) n c, .slice A1 l1.length c1] w fun e w' => e = .returned (.tuple #[]) ∧ w'.heap[g]? = some (.cells (u8s l1 ++ cs.drop n).toArray 5 (0, 0)) ∧ KeepBut w w' g none ∧ Below Z w w' := by
  subst hn
  have HB := Aside0.mk hb; have H1 := Aside0.mk h1
  have hl := h1.rd.2.1
  clear hb h1
  go_enter Try.func25, Try.ntmps25
  go_wp2_with fail
  go_loopw [4] (fun v4 wr => ∃ i : Nat, i ≤ l1.length ∧ v4 = .int .i64 i ∧ wr.heap[g]? = some (.cells (mid l1 cs i).toArray 5 (0, 0)) ∧ KeepBut w wr g none ∧ Below Z w wr) (fun v _ => l1.length - (intOf v).toNat)
  case atStart => exact ⟨0, Nat.zero_le _, rfl, by simpa [mid, u8s] using HB.out, KeepBut.refl _ _ _, Below.refl _ _⟩
  case round =>
    obtain ⟨i, hi, rfl, hb, hk, hbel⟩ := hrel
    have HB' := Aside0.mk hb; have HK := Aside0.mk hk; have HBE := Aside0.mk hbel
    clear hb hk hbel
    by_cases hlt : i < l1.length
    · have hbc := blk_cell_list HB'.out i (by rw [mid_len _ _ _ (by omega) (by omega)]; omega)
      obtain ⟨⟨v0, hc0⟩, hf0⟩ := hbc
      obtain ⟨ad, rfl, hx⟩ := (H1.out.keep HK.out).at_ i hlt
      have p1 : (0 : Int) ≤ (i : Int) := by omega
      have q1 : (i : Int) < (l1.length : Int) := by omega
      have HX := Aside0.mk (mid_set l1 cs i hlt (by omega))
      obtain ⟨y, hy⟩ : ∃ y, l1.getD i 0 = y := ⟨_, rfl⟩
      rw [hy] at hx HX
      clear hy
      go_wp2_with fail
      go_roundw
      case rel =>
        refine ⟨i + 1, by omega, by go_num, ?_, HK.out.set_ i _, HBE.out.setCell (by exact hZ) _⟩
        have := blk_set_list HB'.out i (.int .u8 y)
        rw [HX.out] at this
        exact this
      case measure => simp [intOf]; omega
    · obtain rfl : i = l1.length := by omega
      go_wp2_with fail
      go_end0
      exact ⟨rfl, by have := HB'.out; unfold mid at this; rwa [List.take_length] at this, HK.out, HBE.out⟩
theorem Lent.C {w : World} {g c : Nat} {l : List Int} (h : Lent w g c l) : Kd.C (Kd.int .u8) w (some ⟨g, 0, none⟩) l.length l := by
  obtain ⟨rest, hb⟩ := h.heap
  refine Kd.C_of_reads (d := (0 : Int)) (h1 := fun _ => rfl) ⟨rfl, by have := h.cap; have := h.cmax; unfold maxLen at this; omega, fun h0 => ⟨_, rfl, fun j hj => ?_⟩⟩
  have e : (⟨g, 0, none⟩ : Addr).add j = ⟨g, j, none⟩ := by unfold Addr.add; split <;> simp_all
  rw [e]
  have hj2 : j < (u8s l).length := by rw [u8s_len]; exact hj
  simp only [World.cell?, hb]
  simp only [Option.isSome_none, Bool.false_eq_true, if_false, List.getElem?_toArray, List.getElem?_append_left hj2]
  simp [u8s, hj, List.getD_eq_getElem?_getD]
theorem Lent.keep {w w1 : World} {g g' c : Nat} {l : List Int} (h : Lent w g c l) (hk : KeepBut w w1 g' none) (hne : g ≠ g') : Lent w1 g c l := by
  obtain ⟨rest, hb⟩ := h.heap
  exact ⟨⟨rest, hk.blk hb hne (by simp)⟩, h.cap, h.cmax⟩
theorem Lent.below {w w1 : World} {g c : Nat} {l : List Int} (h : Lent w g c l) (hb : Below w.heap.size w w1) : Lent w1 g c l := by
  obtain ⟨rest, hc⟩ := h.heap
  exact ⟨⟨rest, (hb.block _ (Array.getElem?_eq_some_iff.1 hc).1).trans hc⟩, h.cap, h.cmax⟩
theorem Lent.lt {w : World} {g c : Nat} {l : List Int} (h : Lent w g c l) : g < w.heap.size := by
  obtain ⟨rest, hc⟩ := h.heap
  exact (Array.getElem?_eq_some_iff.1 hc).1
theorem into_lent (w : World) (Z g c n : Nat) (l : List Int) (A1 : Option Addr) (c1 : Nat) (l1 : List Int) (hZ : Z ≤ g) (h : Lent w g c l) (hn : n = l.length) (hl : l1.length = l.length) (h1 : BytN w g A1 c1 l1) :
    Calls Try.prog 25 #[.slice (some ⟨g, 0, none⟩) n c, .slice A1 l1.length c1] w fun e w' => e = .returned (.tuple #[]) ∧ Lent w' g c l1 ∧ KeepBut w w' g none ∧ Below Z w w' := by
  subst hn
  obtain ⟨rest, hb⟩ := h.heap
  refine (into_walk w Z g c l.length _ A1 c1 l1 hZ hb hl.symm (by rw [List.length_append, u8s_len]; omega) h1).mono ?_
  rintro e w' ⟨he, hb2, hk, hbel⟩
  refine ⟨he, ⟨⟨rest, ?_⟩, by have := h.cap; omega, h.cmax⟩, hk, hbel⟩
  rw [hb2, List.drop_left' (u8s_len l)]
set_option maxHeartbeats 2000000 in
set_option maxRecDepth 100000 in
theorem lend_walk (w : World) (A0 : Option Addr) (c0 : Nat) (l : List Int) (hr : Kd.C (Kd.int .u8) w A0 l.length l) (hc : l.length ≤ c0) (hm : l.length ≤ 140737488351232) :
    Calls Try.prog 29 #[.slice A0 l.length c0] w fun e w' => ∃ g c, e = .returned (.slice (some ⟨g, 0, none⟩) l.length c) ∧ Lent w' g c l ∧ w.heap.size ≤ g ∧ Below w.heap.size w w' := by
  have HR := Aside0.mk hr
  clear hr
  go_enter Try.func29, Try.ntmps29
  go_wp2_with ((with_reducible refine gate_dst (N := 6) rfl ?_); refine halt ?_)
  refine unhalt ?_
  at_builtin
  refine Kd.R_append_rows (Kd.int .u8) (w0 := w) w.heap.size rfl _ _ 37 5 (.int .u8 0) 1 rfl Try.underlying37 infoU8 rfl (by decide) (by omega) (.slice none 0 0) ([] : List Int) l _ _ _ (fun _ => True) (fun _ => False) rfl rfl (Kd.R_nil _ _ _ _ (fun _ => True)) HR.out (fun _ _ h => h) (fun _ h => h.elim) (fun _ _ => trivial) (Below.refl _ _) (Nat.le_refl _) (by simp; omega) ?_
  intro v w1 ho hb hg hat
  rw [List.nil_append] at ho
  have HO := Aside0.mk ho; have HB := Aside0.mk hb
  clear ho hb hg hat HR
  obtain ⟨A1, c1, rfl⟩ := Kd.R_slice HO.out
  go_wp2_with ((with_reducible refine gate_dst (N := 9) rfl ?_); refine halt ?_)
  refine unhalt ?_
  have hC : Kd.C (Kd.int .u8) (w1.alloc (.cells #[.int .u8 165, .int .u8 90, .int .u8 165] 5)) (some ⟨w1.heap.size, 0, none⟩) 3 [165, 90, 165] := by
    refine Kd.C_of_reads (d := (0 : Int)) (h1 := fun _ => rfl) ⟨rfl, by decide, fun _ => ⟨_, rfl, fun j hj => ?_⟩⟩
    match j, hj with
    | 0, _ => simp [go_sem, Addr.add]
    | 1, _ => simp [go_sem, Addr.add]
    | 2, _ => simp [go_sem, Addr.add]
  have HOA := Aside0.mk (Kd.R_alloc HO.out (.cells #[.int .u8 165, .int .u8 90, .int .u8 165] 5))
  at_builtin
  refine Kd.R_append_rows (Kd.int .u8) (w0 := w) w.heap.size rfl _ _ 37 5 (.int .u8 0) 1 rfl Try.underlying37 infoU8 rfl (by decide) (by omega) (.slice A1 l.length c1) l [165, 90, 165] _ _ _ (fun _ => True) (fun _ => False) rfl rfl HOA.out hC (fun _ _ h => h) (fun _ h => h.elim) (fun _ _ => trivial) (HB.out.alloc HB.out.size _) (Nat.le_trans HB.out.size (by simp)) (by simp; omega) ?_
  intro v w2 ho hb hg hat
  have HO2 := Aside0.mk ho; have HB2 := Aside0.mk hb
  clear ho hb hg hat hC HOA HO HB
  obtain ⟨hlen, ⟨e0, hz⟩ | ⟨g, cap, cur, rfl, hg1, hh, hn, hc2, hsz, htake⟩⟩ := Kd.own_of_R HO2.out
  · exact absurd hz (by simp)
  · have hln : (l ++ [165, 90, 165]).length = l.length + 3 := by simp
    rw [hln] at hn htake hlen ⊢
    have HN := Aside0.mk hn; have HH := Aside0.mk hh; have HT := Aside0.mk htake; have HC2 := Aside0.mk hc2; have HS := Aside0.mk hsz; have HG1 := Aside0.mk hg1
    clear hn hh htake hlen hc2 hsz hg1 hln HO2
    have q1 : (l.length : Int) ≤ (cap : Int) := by have := HN.out; omega
    go_wp2_with fail
    go_ret
    refine ⟨g, cap, rfl, ⟨⟨cur.toList.drop (l.length + 3), ?_⟩, HN.out, HC2.out⟩, HG1.out, HB2.out⟩
    rw [HH.out]
    have h3 : cur.toList = u8s l ++ ([Value.int .u8 165, Value.int .u8 90, Value.int .u8 165] ++ cur.toList.drop (l.length + 3)) := by
      have h4 := (List.take_append_drop (l.length + 3) cur.toList).symm
      have h5 := HT.out
      rw [Nat.mul_one] at h5
      rw [h5] at h4
      rw [← List.append_assoc]
      refine h4.trans ?_
      congr 1
      simp [u8s, encs]
    rw [← h3]
theorem Lent.mark {w : World} {g c : Nat} {l : List Int} (h : Lent w g c l) (j : Nat) (hj : j < 3) : w.cell? ⟨g, l.length + j, none⟩ = some (.int .u8 (if j = 1 then 90 else 165)) := by
  obtain ⟨rest, hb⟩ := h.heap
  simp only [World.cell?, hb, Option.isSome_none, Bool.false_eq_true, if_false, List.getElem?_toArray]
  rw [List.getElem?_append_right (by rw [u8s_len]; omega), u8s_len, Nat.add_sub_cancel_left]
  match j, hj with
  | 0, _ => rfl
  | 1, _ => rfl
  | 2, _ => rfl
set_option maxHeartbeats 2000000 in
set_option maxRecDepth 100000 in
theorem intact_walk (w : World) (g c : Nat) (A1 : Option Addr) (c1 : Nat) (l : List Int) (h : Lent w g c l) (hr : Kd.C (Kd.int .u8) w A1 l.length l) :
    Calls Try.prog 32 #[.slice (some ⟨g, 0, none⟩) l.length c, .slice A1 l.length c1] w fun e w' => e = .returned (.bool true) ∧ ∃ n, w' = w.drewN n := by
  have k1 := Kd.C_string (P := Try.prog) (src := 37) (dst := 9) (c := c) Try.underlying37 Try.underlying5 Try.underlying9 h.C
  have k2 := Kd.C_string (P := Try.prog) (src := 37) (dst := 9) (c := c1) Try.underlying37 Try.underlying5 Try.underlying9 hr
  have m0 := h.mark 0 (by decide); have m1 := h.mark 1 (by decide); have m2 := h.mark 2 (by decide)
  simp only [Nat.add_zero] at m0
  have hm := h.cmax
  have hcap := h.cap
  have q1 : (l.length : Int) + 3 ≤ (c : Int) := by omega
  have hmx : (c : Int) ≤ 9223372036854775807 := by unfold maxLen at hm; omega
  clear hm h hr
  go_enter Try.func32, Try.ntmps32
  go_wp2_with fail
  go_ret
  exact ⟨rfl, 0, rfl⟩
end Go.Proofs.Ytdhkhjfjjbdkgaa.Rec
