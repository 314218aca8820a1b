/- stage.back, walked, behind one lend. -/
import Derived.Test.YthdahjmkkdljbaaLend
namespace Go.Proofs.Ythdahjmkkdljbaa.Sp
open Go.RowKit Go.Proofs.YthdahjmkkdljbaaW.PrintWords Go.Proofs.YthdahjmkkdljbaaW.PrintLast Go.Proofs.YthdahjmkkdljbaaW.PrintMore
set_option linter.unusedVariables false
set_option linter.unusedSimpArgs false
def BackPost (w : World) (t g : Nat) (C : Array Value) (e : Ending) (w' : World) : Prop := e = .returned (.bool true) ∧ StG w' t C (.slice none 0 0) (.slice none 0 0) ∧ Fr (fun k => k = t ∨ k = g) w w'
theorem LentQ.fr {w w' : World} {P : Nat → Prop} {t n0 g c : Nat} {C : Array Value} {b : List Int} {vG vW : Value} (h : LentQ w t C b n0 g c vG vW) (hf : Fr P w w') (ht : ¬ P t) (hp : ∀ k, n0 ≤ k → k < w.heap.size → ¬ P k) : LentQ w' t C b n0 g c vG vW := by
  obtain ⟨A, cA, hq, hk, hA⟩ := h.rW
  refine ⟨h.st.fr hf ht, h.lent.fr hf (hp g h.hg h.lent.lt), h.hg, qfr h.rG hf (fun k hk => ?_), A, cA, qfr hq hf (fun k hk => ?_), kd_keep hk (fun ad ha hlt _ => hf.block _ hlt (hp _ (hA ad ha) hlt)), hA⟩
  · obtain ⟨h1, cells, h2⟩ := q_typed h.rG k hk
    exact hp k h1 (blk_lt h2)
  · obtain ⟨h1, cells, h2⟩ := q_typed hq k hk
    exact hp k h1 (blk_lt h2)
theorem q_flat {w : World} {base size n c : Nat} {e : TypeId} {ad : Addr} {xs : List Value} (h : QRow w base e size (.slice (some ad) n c) n xs) (h0 : 0 < n) : ∃ x o, ad = ⟨x, o, none⟩ := by
  rcases h.2 with ⟨hz, _⟩ | ⟨g', off, cap', cur, hv, _⟩
  · omega
  · injection hv with ha _ _
    injection ha with ha
    exact ⟨_, _, ha⟩
theorem add_zero_ (ad : Addr) : ad.add 0 = ad := by cases ad; unfold Addr.add; split <;> simp_all
set_option maxHeartbeats 1000000 in
set_option maxRecDepth 100000 in
theorem backq_walk (w : World) (t n0 g c : Nat) (C : Array Value) (b : List Int) (vG vW : Value) (h : LentQ w t C b n0 g c vG vW) (ht : t < n0) (hm : b.length ≤ 140737488351232) :
    Calls Try.prog 8 #[.pointer (some ⟨t, 0, none⟩)] w (BackPost w t g C) := by
  obtain ⟨B1, c1, hv1, hc1⟩ := q_slice h.rG
  subst hv1
  obtain ⟨a1, ha1, hk1⟩ := q_cells h.rG (by decide)
  subst ha1
  obtain ⟨x1, o1, e1⟩ := q_flat h.rG (by decide)
  subst e1
  have k1 := hk1 0 _ rfl
  rw [add_zero_] at k1
  obtain ⟨A, cA, hq, hC, hA⟩ := h.rW
  obtain ⟨B2, c2, hv2, hc2⟩ := q_slice hq
  subst hv2
  obtain ⟨a2, ha2, hk2⟩ := q_cells hq (by decide)
  subst ha2
  obtain ⟨x2, o2, e2⟩ := q_flat hq (by decide)
  subst e2
  have k2 := hk2 0 _ rfl
  rw [add_zero_] at k2
  have k8 := h.st.c8; have k9 := h.st.c9
  have HL := Lib.hid h.lent; have HC := Lib.hid hC; have HS := Lib.hid h.st; have HG := Lib.hid h.hg
  have hgt : g ≠ t := by have := h.hg; omega
  clear h hk1 hk2 hq hC hA
  go_enter Try.func8, Try.ntmps8
  go_wp2_with fail
  refine wp_loop_rounds 2 ?_
  rw [rounds_succ]
  go_wp2_with fail
  go_quiet ((go_at_call 20; exact Calls.quiet_of (intact_walk _ g c A cA b (HL.out.fr ((Fr.refl (fun _ => False) w).drewN _) (fun h => h)) (kd_fr HC.out ((Fr.refl (fun _ => False) w).drewN _) (fun _ _ _ h => h)))))
  have LQ := Lib.hid (HL.out.fr ((Fr.refl (fun _ => False) w).drewN nq) (fun h => h))
  have SQ := Lib.hid (HS.out.fr ((Fr.refl (fun _ => False) w).drewN nq) (fun h => h))
  have FQ : Hid (Fr (fun k => k = t ∨ k = g) w (w.drewN nq)) := (Fr.refl _ w).drewN nq
  generalize hwn : w.drewN nq = wn at LQ SQ FQ ⊢
  have q8 : wn.cell? ⟨t, 8, none⟩ = some (.slice (some ⟨x1, o1, none⟩) 1 c1) := SQ.out.c8
  have q1 : wn.cell? ⟨x1, o1, none⟩ = some (.slice (some ⟨g, 0, none⟩) b.length c) := by rw [← hwn]; exact k1
  clear hwn
  go_wp2_with fail
  obtain ⟨rest, hgc⟩ := LQ.out.heap
  refine (over_walk wn g b.length c _ hgc (by simp [u8s_len]) hm).mono ?_
  rintro e w5 ⟨rfl, hf5⟩
  have S5 := Lib.hid (SQ.out.fr hf5 hgt.symm)
  have F5 := Lib.hid (FQ.out.trans hf5 (fun k _ hk => .inr hk))
  have r8 := S5.out.c8
  clear hf5 hgc
  have f8 := S5.out.fz (o := 8)
  have S6 := Lib.hid (S5.out.set8 (.slice none 0 0))
  have F6 := Lib.hid (F5.out.setCell (p := ⟨t, 8, none⟩) (.inl (.inl rfl)) (.slice none 0 0))
  have r9 := S6.out.c9
  have f9 := S6.out.fz (o := 9)
  have S7 := Lib.hid (S6.out.set9 (.slice none 0 0))
  have F7 := Lib.hid (F6.out.setCell (p := ⟨t, 9, none⟩) (.inl (.inl rfl)) (.slice none 0 0))
  go_wp2_with fail
  rw [rounds_succ]
  go_wp2_with fail
  go_ret
  exact ⟨rfl, S7.out, F7.out⟩
end Go.Proofs.Ythdahjmkkdljbaa.Sp
