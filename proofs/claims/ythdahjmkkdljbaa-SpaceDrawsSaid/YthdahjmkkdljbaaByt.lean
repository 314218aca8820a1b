/- Lists of bytes: Copy, Lend with marks, Intact, Over: walked. -/
import Derived.Test.YthdahjmkkdljbaaTnew
import Derived.Laws.CopyOwn
namespace Go.Proofs.Ythdahjmkkdljbaa.Sp
open Go.RowKit Go.Proofs.YthdahjmkkdljbaaW.PrintWords Go.Proofs.YthdahjmkkdljbaaW.PrintLast Go.Proofs.YthdahjmkkdljbaaW.PrintMore
set_option linter.unusedVariables false
set_option linter.unusedSimpArgs false
theorem infoU8 : (Try.prog.info? 5).map (fun i => (i.zero, i.size, i.bytes)) = some (some (.int .u8 0), 1, 1) := by kernel_rfl
theorem sizeU8 : (Try.prog.info? 5).map (·.size) = some 1 := by kernel_rfl
def Halt (p : Prop) : Prop := p
theorem halt {p : Prop} (h : Halt p) : p := h
theorem unhalt {p : Prop} (h : p) : Halt p := h
def u8s (l : List Int) : List Value := l.map fun x => .int .u8 x
theorem u8s_len (l : List Int) : (u8s l).length = l.length := by simp [u8s]
theorem u8s_one (l : List Int) : ∀ v ∈ u8s l, v.oneCell' = true := by intro v hv; simp [u8s] at hv; obtain ⟨x, _, rfl⟩ := hv; rfl
theorem u8s_src {w : World} {A : Option Addr} {l : List Int} (h : Kd.C (Kd.int .u8) w A l.length l) (h0 : 0 < l.length) : ∃ ad, A = some ad ∧ ∀ j v, (u8s l)[j]? = some v → w.cell? (ad.add j) = some v := by
  obtain ⟨ad, e, hc⟩ := (Kd.reads_of_C (d := (0 : Int)) h).2.2 h0
  refine ⟨ad, e, fun j v hv => ?_⟩
  have hj : j < l.length := by have := (List.getElem?_eq_some_iff.1 hv).1; rwa [u8s_len] at this
  have h2 := hc j hj
  rw [h2]
  rw [u8s, List.getElem?_map, List.getElem?_eq_getElem hj] at hv
  rw [List.getD_eq_getElem?_getD, List.getElem?_eq_getElem hj]
  exact hv
theorem splice_zero {cur cs : List Value} : (splice cur 0 cs).take cs.length = cs := by simp [splice]
set_option maxHeartbeats 2000000 in
set_option maxRecDepth 100000 in
theorem copy_walk (A0 : Option Addr) (c0 : Nat) (l0 : List Int) (w : World) (hr0 : Kd.C (Kd.int .u8) w A0 l0.length l0) (hc0 : l0.length ≤ c0) (hm : l0.length ≤ 281474976710656) :
    Calls Try.prog 19 #[.slice A0 l0.length c0] w fun e w' => ∃ v0_ : Value, e = .returned (v0_) ∧ Kd.R (Kd.int .u8) 5 w' w.heap.size (fun _ => True) v0_ l0 ∧ Below w.heap.size w w' := by
  have HR0 := Aside0.mk hr0
  clear hr0
  go_enter Try.func19, Try.ntmps19
  go_wp2_with ((with_reducible refine gate_dst (N := 6) rfl ?_); refine halt ?_)
  refine unhalt ?_
  refine Kd.R_make (Kd.int .u8) _ 5 rfl (N := 6) rfl 42 _ _ rfl (l0.length : Int) rfl rfl Try.underlying42 (.int .u8 0) 1 infoU8 rfl (by decide) (by omega) 0 (ok := fun _ => True) (okp := fun _ => True) rfl (fun _ hk => hk) trivial (by omega) (by simpa using hm) (Below.refl _ _) (Nat.le_refl _) ?_
  intro v w1 ho hb hg hnew
  obtain ⟨hlen, ⟨e0, hz⟩ | ⟨g, cap, cur, rfl, hg1, hh, hn, hc, hsz, htake⟩⟩ := Kd.own_of_R ho
  · obtain ⟨b, hb1, _⟩ := hnew
    rw [e0] at hb1
    simp [Value.ownBlock] at hb1
  · rw [show (List.replicate ((l0.length : Nat) : Int).toNat (0 : Int)).length = l0.length from by simp] at *
    have HS := Aside0.mk (fun h0 => u8s_src (Kd.C_below HR0.out hb) h0)
    have hh' : w1.heap[g]? = some (.cells cur.toList.toArray 5 (0, 0)) := by simpa using hh
    have HH := Aside0.mk hh'
    have HBw := Aside0.mk hb
    clear ho hb hg hnew htake hlen HR0 hh hh'
    go_wp2_with ((with_reducible refine gate_dst (N := 9) rfl ?_); refine halt ?_)
    refine unhalt ?_
    refine wpList_copy_splice rfl _ _ 42 42 rfl 5 Try.underlying42 sizeU8 _ _ _ _ _ _ rfl rfl g 0 cur.toList 5 HH.out (u8s l0) (by rw [u8s_len]; exact (Nat.min_self _).symm) (fun hp => ?_) (by rw [u8s_len]; simp; omega) (u8s_one l0) w.heap.size w HBw.out hg1 ?_
    · obtain ⟨ad, rfl, hs⟩ := HS.out (by rw [u8s_len] at hp; exact hp)
      exact ⟨rfl, ad, rfl, hs⟩
    · intro w2 hg2 hb2
      have HG2 := Aside0.mk hg2.out
      have HB2 := Aside0.mk hb2
      clear hg2 hb2
      go_wp2_with fail
      go_ret
      refine ⟨_, rfl, Kd.R_of_own ⟨?_, .inr ⟨g, cap, _, rfl, hg1, HG2.out, hn, hc, ?_, ?_⟩⟩ (fun _ _ => trivial), HB2.out⟩
      · simp [encs_length]
      · have := length_splice cur.toList 0 (u8s l0) (by rw [u8s_len]; simp; omega)
        simpa [hsz] using this
      · have := splice_zero (cur := cur.toList) (cs := u8s l0)
        rw [u8s_len] at this
        simpa [u8s, encs] using this
structure Lent (w : World) (g c : Nat) (l : List Int) : Prop where
  heap : ∃ rest, w.heap[g]? = some (.cells (u8s l ++ ([Value.int .u8 165, Value.int .u8 90, Value.int .u8 165] ++ rest)).toArray 5 (0, 0))
  cap : l.length + 3 ≤ c
  cmax : c ≤ maxLen
theorem Lent.C {w : World} {g c : Nat} {l : List Int} (h : Lent w g c l) : Kd.C (Kd.int .u8) w (some ⟨g, 0, none⟩) l.length l := by
  obtain ⟨rest, hb⟩ := h.heap
  refine Kd.C_of_reads (d := (0 : Int)) (h1 := fun _ => rfl) ⟨rfl, by have := h.cap; have := h.cmax; unfold maxLen at this; omega, fun h0 => ⟨_, rfl, fun j hj => ?_⟩⟩
  have e : (⟨g, 0, none⟩ : Addr).add j = ⟨g, j, none⟩ := by unfold Addr.add; split <;> simp_all
  rw [e]
  have hj2 : j < (u8s l).length := by rw [u8s_len]; exact hj
  simp only [World.cell?, hb]
  simp only [Option.isSome_none, Bool.false_eq_true, if_false, List.getElem?_toArray, List.getElem?_append_left hj2]
  simp [u8s, hj, List.getD_eq_getElem?_getD]
theorem Lent.keep {w w1 : World} {g g' c : Nat} {l : List Int} (h : Lent w g c l) (hk : KeepBut w w1 g' none) (hne : g ≠ g') : Lent w1 g c l := by
  obtain ⟨rest, hb⟩ := h.heap
  exact ⟨⟨rest, hk.blk hb hne (by simp)⟩, h.cap, h.cmax⟩
theorem Lent.below {w w1 : World} {g c : Nat} {l : List Int} (h : Lent w g c l) (hb : Below w.heap.size w w1) : Lent w1 g c l := by
  obtain ⟨rest, hc⟩ := h.heap
  exact ⟨⟨rest, (hb.block _ (Array.getElem?_eq_some_iff.1 hc).1).trans hc⟩, h.cap, h.cmax⟩
theorem Lent.lt {w : World} {g c : Nat} {l : List Int} (h : Lent w g c l) : g < w.heap.size := by
  obtain ⟨rest, hc⟩ := h.heap
  exact (Array.getElem?_eq_some_iff.1 hc).1
set_option maxHeartbeats 2000000 in
set_option maxRecDepth 100000 in
theorem lend_walk (w : World) (A0 : Option Addr) (c0 : Nat) (l : List Int) (hr : Kd.C (Kd.int .u8) w A0 l.length l) (hc : l.length ≤ c0) (hm : l.length ≤ 140737488351232) :
    Calls Try.prog 18 #[.slice A0 l.length c0] w fun e w' => ∃ g c, e = .returned (.slice (some ⟨g, 0, none⟩) l.length c) ∧ Lent w' g c l ∧ w.heap.size ≤ g ∧ Below w.heap.size w w' := by
  have HR := Aside0.mk hr
  clear hr
  go_enter Try.func18, Try.ntmps18
  go_wp2_with ((with_reducible refine gate_dst (N := 6) rfl ?_); refine halt ?_)
  refine unhalt ?_
  at_builtin
  refine Kd.R_append_rows (Kd.int .u8) (w0 := w) w.heap.size rfl _ _ 42 5 (.int .u8 0) 1 rfl Try.underlying42 infoU8 rfl (by decide) (by omega) (.slice none 0 0) ([] : List Int) l _ _ _ (fun _ => True) (fun _ => False) rfl rfl (Kd.R_nil _ _ _ _ (fun _ => True)) HR.out (fun _ _ h => h) (fun _ h => h.elim) (fun _ _ => trivial) (Below.refl _ _) (Nat.le_refl _) (by simp; omega) ?_
  intro v w1 ho hb hg hat
  rw [List.nil_append] at ho
  have HO := Aside0.mk ho; have HB := Aside0.mk hb
  clear ho hb hg hat HR
  obtain ⟨A1, c1, rfl⟩ := Kd.R_slice HO.out
  go_wp2_with ((with_reducible refine gate_dst (N := 9) rfl ?_); refine halt ?_)
  refine unhalt ?_
  have hC : Kd.C (Kd.int .u8) (w1.alloc (.cells #[.int .u8 165, .int .u8 90, .int .u8 165] 5)) (some ⟨w1.heap.size, 0, none⟩) 3 [165, 90, 165] := by
    refine Kd.C_of_reads (d := (0 : Int)) (h1 := fun _ => rfl) ⟨rfl, by decide, fun _ => ⟨_, rfl, fun j hj => ?_⟩⟩
    match j, hj with
    | 0, _ => simp [go_sem, Addr.add]
    | 1, _ => simp [go_sem, Addr.add]
    | 2, _ => simp [go_sem, Addr.add]
  have HOA := Aside0.mk (Kd.R_alloc HO.out (.cells #[.int .u8 165, .int .u8 90, .int .u8 165] 5))
  at_builtin
  refine Kd.R_append_rows (Kd.int .u8) (w0 := w) w.heap.size rfl _ _ 42 5 (.int .u8 0) 1 rfl Try.underlying42 infoU8 rfl (by decide) (by omega) (.slice A1 l.length c1) l [165, 90, 165] _ _ _ (fun _ => True) (fun _ => False) rfl rfl HOA.out hC (fun _ _ h => h) (fun _ h => h.elim) (fun _ _ => trivial) (HB.out.alloc HB.out.size _) (Nat.le_trans HB.out.size (by simp)) (by simp; omega) ?_
  intro v w2 ho hb hg hat
  have HO2 := Aside0.mk ho; have HB2 := Aside0.mk hb
  clear ho hb hg hat hC HOA HO HB
  obtain ⟨hlen, ⟨e0, hz⟩ | ⟨g, cap, cur, rfl, hg1, hh, hn, hc2, hsz, htake⟩⟩ := Kd.own_of_R HO2.out
  · exact absurd hz (by simp)
  · have hln : (l ++ [165, 90, 165]).length = l.length + 3 := by simp
    rw [hln] at hn htake hlen ⊢
    have HN := Aside0.mk hn; have HH := Aside0.mk hh; have HT := Aside0.mk htake; have HC2 := Aside0.mk hc2; have HS := Aside0.mk hsz; have HG1 := Aside0.mk hg1
    clear hn hh htake hlen hc2 hsz hg1 hln HO2
    have q1 : (l.length : Int) ≤ (cap : Int) := by have := HN.out; omega
    go_wp2_with fail
    go_ret
    refine ⟨g, cap, rfl, ⟨⟨cur.toList.drop (l.length + 3), ?_⟩, HN.out, HC2.out⟩, HG1.out, HB2.out⟩
    rw [HH.out]
    have h3 : cur.toList = u8s l ++ ([Value.int .u8 165, Value.int .u8 90, Value.int .u8 165] ++ cur.toList.drop (l.length + 3)) := by
      have h4 := (List.take_append_drop (l.length + 3) cur.toList).symm
      have h5 := HT.out
      rw [Nat.mul_one] at h5
      rw [h5] at h4
      rw [← List.append_assoc]
      refine h4.trans ?_
      congr 1
      simp [u8s, encs]
    rw [← h3]
theorem Lent.mark {w : World} {g c : Nat} {l : List Int} (h : Lent w g c l) (j : Nat) (hj : j < 3) : w.cell? ⟨g, l.length + j, none⟩ = some (.int .u8 (if j = 1 then 90 else 165)) := by
  obtain ⟨rest, hb⟩ := h.heap
  simp only [World.cell?, hb, Option.isSome_none, Bool.false_eq_true, if_false, List.getElem?_toArray]
  rw [List.getElem?_append_right (by rw [u8s_len]; omega), u8s_len, Nat.add_sub_cancel_left]
  match j, hj with
  | 0, _ => rfl
  | 1, _ => rfl
  | 2, _ => rfl
set_option maxHeartbeats 2000000 in
set_option maxRecDepth 100000 in
theorem intact_walk (w : World) (g c : Nat) (A1 : Option Addr) (c1 : Nat) (l : List Int) (h : Lent w g c l) (hr : Kd.C (Kd.int .u8) w A1 l.length l) :
    Calls Try.prog 20 #[.slice (some ⟨g, 0, none⟩) l.length c, .slice A1 l.length c1] w fun e w' => e = .returned (.bool true) ∧ ∃ n, w' = w.drewN n := by
  have k1 := Kd.C_string (P := Try.prog) (src := 42) (dst := 9) (c := c) Try.underlying42 Try.underlying5 Try.underlying9 h.C
  have k2 := Kd.C_string (P := Try.prog) (src := 42) (dst := 9) (c := c1) Try.underlying42 Try.underlying5 Try.underlying9 hr
  have m0 := h.mark 0 (by decide); have m1 := h.mark 1 (by decide); have m2 := h.mark 2 (by decide)
  simp only [Nat.add_zero] at m0
  have hm := h.cmax
  have hcap := h.cap
  have q1 : (l.length : Int) + 3 ≤ (c : Int) := by omega
  have hmx : (c : Int) ≤ 9223372036854775807 := by unfold maxLen at hm; omega
  clear hm h hr
  go_enter Try.func20, Try.ntmps20
  go_wp2_with fail
  go_ret
  exact ⟨rfl, 0, rfl⟩
end Go.Proofs.Ythdahjmkkdljbaa.Sp
