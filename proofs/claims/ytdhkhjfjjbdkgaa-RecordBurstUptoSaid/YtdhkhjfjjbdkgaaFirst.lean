/- record.first: the record with which a log begins. -/
import Derived.Test.YtdhkhjfjjbdkgaaParse
import Derived.Test.YtdhkhjfjjbdkgaaSum
namespace Go.Proofs.Ytdhkhjfjjbdkgaa.Rec
open Go.RowKit Go.Proofs.YtdhkhjfjjbdkgaaW.PrintWords Go.Proofs.YtdhkhjfjjbdkgaaW.PrintLast Go.Proofs.YtdhkhjfjjbdkgaaW.PrintMore
set_option linter.unusedVariables false
set_option linter.unusedSimpArgs false
theorem numStep_bd (r c : Int) : 0 ≤ numStep r c ∧ numStep r c < 18446744073709551616 := by
  unfold numStep
  show 0 ≤ IntKind.u64.wrap _ ∧ IntKind.u64.wrap _ < _
  rw [IntKind.wrap_u64]; omega
theorem numOf_bd (l : List Int) : 0 ≤ numOf l ∧ numOf l < 18446744073709551616 := by
  unfold numOf
  rcases List.eq_nil_or_concat l with rfl | ⟨l', c, rfl⟩
  · simp
  · rw [List.concat_eq_append, List.foldl_append]; exact numStep_bd _ _
/-- The result's block is written. -/
theorem res_write {w w1 : World} {a b c a' b' c' : Value} (hb : Below w.heap.size w w1) (hr : w1.heap[w.heap.size]? = some (.cells #[a, b, c] 33 (0, 0))) (W : World) (hW : W = ((w1.setCell ⟨w.heap.size, 0, none⟩ a').setCell ⟨w.heap.size, 1, none⟩ b').setCell ⟨w.heap.size, 2, none⟩ c') : Below w.heap.size w W ∧ W.cell? ⟨w.heap.size, 0, none⟩ = some a' ∧ W.cell? ⟨w.heap.size, 1, none⟩ = some b' ∧ W.cell? ⟨w.heap.size, 2, none⟩ = some c' := by
  subst hW
  have h2 : (((w1.setCell ⟨w.heap.size, 0, none⟩ a').setCell ⟨w.heap.size, 1, none⟩ b').setCell ⟨w.heap.size, 2, none⟩ c').heap[w.heap.size]? = some (.cells #[a', b', c'] 33 (0, 0)) := by
    rw [heap_setCell_same _ _ _ _ _ _ (by rw [heap_setCell_same _ _ _ _ _ _ (by rw [heap_setCell_same _ _ _ _ _ _ hr])])]; rfl
  exact ⟨((hb.setCell (Nat.le_refl _) _).setCell (Nat.le_refl _) _).setCell (Nat.le_refl _) _, (ent_cells h2).1, (ent_cells h2).2.1, (ent_cells h2).2.2.1⟩
/-- What first answers behind the reader's cuts. -/
def record_first.f (k : Nat) (l0 : List Int) : Option (Int × Int × List S76 × Int) :=
  if l0.length < 17 then some (0, 0, [], 0) else if l0.getD 0 0 ≠ 170 then some (0, 0, [], 0) else
  let q1 := rcut (l0.drop 1) false 8
  let q2 := rcut q1.2.1 q1.2.2 8
  (word_Sum.f (l0.take 9)).bind fun s =>
  if numOf q2.1 ≠ s then some (0, 0, [], 0) else if (l0.length : Int) - 17 < numOf q1.1 then some (0, 0, [], 0) else if (l0.length : Int) - 17 - numOf q1.1 < 9 then some (0, 0, [], 0) else
  let q3 := rcut q2.2.1 q2.2.2 (numOf q1.1).toNat
  let q4 := rcut q3.2.1 q3.2.2 8
  (word_Sum.f q3.1).bind fun s2 =>
  if numOf q4.1 ≠ s2 then some (0, 0, [], 0) else
  let q5 := rcut q4.2.1 q4.2.2 1
  if numOf q5.1 % 256 ≠ 85 then some (0, 0, [], 0) else
  (record_parse.f k q3.1).bind fun e => if e.2.2.2 = true then some (e.1, e.2.1, e.2.2.1, numOf q1.1 + 26) else some (0, 0, [], 0)
theorem record_parse.mono : ∀ a0 k, LeO (record_parse.f k a0) (record_parse.f (k + 1) a0) := by
  intro a0 k
  unfold record_parse.f
  dsimp only
  exact LeO.ite (LeO.refl _) (LeO.ite (LeO.bind (record_writable.mono _ _ _ _) (fun _ => LeO.refl _)) (LeO.refl _))
theorem record_first.mono : ∀ a0 k, LeO (record_first.f k a0) (record_first.f (k + 1) a0) := by
  intro a0 k
  unfold record_first.f
  dsimp only
  exact LeO.ite (LeO.refl _) (LeO.ite (LeO.refl _) (LeO.bind (LeO.refl _) (fun _ => LeO.ite (LeO.refl _) (LeO.ite (LeO.refl _) (LeO.ite (LeO.refl _) (LeO.bind (LeO.refl _) (fun _ => LeO.ite (LeO.refl _) (LeO.ite (LeO.refl _) (LeO.bind (record_parse.mono _ _) (fun _ => LeO.refl _))))))))))
set_option maxHeartbeats 4000000 in
set_option maxRecDepth 100000 in
theorem record_first.calls0 (k : Nat) (A0 : Option Addr) (c0 : Nat) (l0 : List Int) (r1 r2 : Int) (r3 : List S76) (r4 : Int) (w : World) (hr0 : Kd.C (Kd.int .u8) w A0 l0.length l0) (hc0 : l0.length ≤ c0) (hf : record_first.f k l0 = some (r1, r2, r3, r4)) :
    Calls Try.prog 53 #[.slice A0 l0.length c0] w fun e w' => ∃ v2_ : Value, e = .returned (.tuple #[.agg #[.int .i64 r1, .int .u64 r2, v2_], .int .i64 r4]) ∧ Kd.R k76 76 w' w.heap.size (fun _ => True) v2_ r3 ∧ Below w.heap.size w w' := by
  have HB0 := Aside0.mk (C_byt hr0 hc0)
  clear hr0
  have hb1 : Below w.heap.size w (w.alloc (.cells #[.int .i64 0, .int .u64 0, .slice none 0 0] 33)) := (Below.refl _ _).alloc (Nat.le_refl _) _
  have hs1 : (w.alloc (.cells #[.int .i64 0, .int .u64 0, .slice none 0 0] 33)).heap[w.heap.size]? = some (.cells #[.int .i64 0, .int .u64 0, .slice none 0 0] 33 (0, 0)) := heap_alloc_new _ _
  have HB1 := Aside0.mk hb1; have HS1 := Aside0.mk hs1
  clear hb1 hs1
  by_cases h17 : l0.length < 17
  · have hf' : some ((0 : Int), (0 : Int), ([] : List S76), (0 : Int)) = some (r1, r2, r3, r4) := by rw [← hf]; unfold record_first.f; rw [if_pos h17]
    have HF := Aside0.mk hf'
    clear hf hf'
    have p1 : (l0.length : Int) < 17 := by omega
    go_enter Try.func53, Try.ntmps53
    go_wp2_with fail
    have hfo := Option.some.inj HF.out
    simp only [Prod.mk.injEq] at hfo
    obtain ⟨rfl, rfl, rfl, rfl⟩ := hfo
    exact bodyPost_ret (v := .tuple #[.agg #[.int .i64 0, .int .u64 0, .slice none 0 0], .int .i64 0]) (by simp [results, Try.results53, go_sem]) rfl ⟨_, rfl, Kd.R_nil _ _ _ _ _, HB1.out⟩
  have p1 : (17 : Int) ≤ (l0.length : Int) := by omega
  have p2 : ¬ (l0.length : Int) < 17 := by omega
  obtain ⟨ad, hA, hx⟩ := HB0.out.at_ 0 (by omega)
  subst hA
  obtain ⟨y0, hy0⟩ : ∃ y, l0.getD 0 0 = y := ⟨_, rfl⟩
  rw [hy0] at hx
  have HY0 := Aside0.mk hy0
  clear hy0
  have hx1 : (w.alloc (.cells #[.int .i64 0, .int .u64 0, .slice none 0 0] 33)).cell? ad = some (.int .u8 y0) := by
    have e := (HB1.out.cell (World.block_lt_of_cell? _ _ hx)).trans hx
    simpa [Addr.add] using e
  clear hx
  by_cases h170 : y0 = 170
  · subst h170
    have hcn : ¬ c0 = 1 := by omega
    have hcn9 : ¬ c0 = 9 := by omega
    obtain ⟨⟨x1, l1, b1⟩, q1⟩ : ∃ q, rcut (l0.drop 1) false 8 = q := ⟨_, rfl⟩
    obtain ⟨⟨x2, l2, b2⟩, q2⟩ : ∃ q, rcut l1 b1 8 = q := ⟨_, rfl⟩
    obtain ⟨n, hn⟩ : ∃ n : Nat, numOf x1 = (n : Int) := ⟨(numOf x1).toNat, by have := numOf_bd x1; omega⟩
    obtain ⟨s0, hs0⟩ : ∃ n : Nat, numOf x2 = (n : Int) := ⟨(numOf x2).toNat, by have := numOf_bd x2; omega⟩
    have hn2 : n < 18446744073709551616 := by have := numOf_bd x1; omega
    have hff : record_first.f k l0 = (word_Sum.f (l0.take 9)).bind fun s =>
        if (s0 : Int) ≠ s then some (0, 0, [], 0) else if (l0.length : Int) - 17 < (n : Int) then some (0, 0, [], 0) else if (l0.length : Int) - 17 - (n : Int) < 9 then some (0, 0, [], 0) else
        (word_Sum.f (rcut l2 b2 n).1).bind fun s2 =>
        if numOf (rcut (rcut l2 b2 n).2.1 (rcut l2 b2 n).2.2 8).1 ≠ s2 then some (0, 0, [], 0) else
        if numOf (rcut (rcut (rcut l2 b2 n).2.1 (rcut l2 b2 n).2.2 8).2.1 (rcut (rcut l2 b2 n).2.1 (rcut l2 b2 n).2.2 8).2.2 1).1 % 256 ≠ 85 then some (0, 0, [], 0) else
        (record_parse.f k (rcut l2 b2 n).1).bind fun e => if e.2.2.2 = true then some (e.1, e.2.1, e.2.2.1, (n : Int) + 26) else some (0, 0, [], 0) := by
      unfold record_first.f
      rw [if_neg h17, if_neg (by rw [HY0.out]; simp)]
      simp only [q1, q2, hn, hs0, Int.toNat_natCast]
    rw [hff] at hf
    clear hff
    obtain ⟨s, hs, hf⟩ := Option.bind_eq_some_iff.1 hf
    have HF := Aside0.mk hf; have HS := Aside0.mk hs; have HQ1 := Aside0.mk q1; have HQ2 := Aside0.mk q2; have HN := Aside0.mk hn; have HS0 := Aside0.mk hs0
    clear hf hs q1 q2 hn hs0
    go_enter Try.func53, Try.ntmps53
    go_wp2_with fail
    have hBB : Below w.heap.size w ((w.alloc (.cells #[.int .i64 0, .int .u64 0, .slice none 0 0] 33)).alloc (.cells #[.slice (some { block := ad.block, off := ad.off + 1 }) (l0.length - 1) (c0 - 1), .bool false] 96)) := HB1.out.alloc (by simp) _
    have hrd : Rdr ((w.alloc (.cells #[.int .i64 0, .int .u64 0, .slice none 0 0] 33)).alloc (.cells #[.slice (some { block := ad.block, off := ad.off + 1 }) (l0.length - 1) (c0 - 1), .bool false] 96)) w.heap.size (w.heap.size + 1) (some { block := ad.block, off := ad.off + 1 }) (c0 - 1) (l0.drop 1) false := by
      refine ⟨?_, ?_, by omega⟩
      · have := heap_alloc_new (w.alloc (.cells #[.int .i64 0, .int .u64 0, .slice none 0 0] 33)) (.cells #[.slice (some { block := ad.block, off := ad.off + 1 }) (l0.length - 1) (c0 - 1), .bool false] 96)
        simpa using this
      · have := HB0.out.drop 1 (by omega)
        rw [if_neg hcn] at this
        exact this.below hBB
    have HS2 := Aside0.mk (((Below.refl (w.heap.size + 1) (w.alloc (.cells #[.int .i64 0, .int .u64 0, .slice none 0 0] 33))).alloc (by simp) (.cells #[.slice (some { block := ad.block, off := ad.off + 1 }) (l0.length - 1) (c0 - 1), .bool false] 96)).block w.heap.size (by omega) |>.trans HS1.out)
    have HRD := Aside0.mk hrd; have HBB := Aside0.mk hBB
    clear hrd hBB
    refine (take64_walk _ w.heap.size (w.heap.size + 1) _ _ (l0.drop 1) false 8 (by omega) HRD.out).mono ?_
    rintro e w1 ⟨rfl, ⟨A1, c1, hr1⟩, hk1⟩
    rw [HQ1.out] at hr1
    rw [HQ1.out]
    have HR1 := Aside0.mk hr1; have HK1 := Aside0.mk hk1
    clear hr1 hk1
    simp only
    rw [HN.out]
    go_wp2_with fail
    refine (take64_walk _ w.heap.size (w.heap.size + 1) A1 c1 l1 b1 8 (by omega) HR1.out).mono ?_
    rintro e w2 ⟨rfl, hr2, hk2⟩
    rw [HQ2.out] at hr2
    rw [HQ2.out]
    have HR2 := Aside0.mk hr2; have HK2 := Aside0.mk (HK1.out.trans hk2)
    clear hr2 hk2
    simp only
    rw [HS0.out]
    have HB2 := Aside0.mk (HBB.out.trans HK2.out.1)
    have HS3 := Aside0.mk (HK2.out.2.blk HS2.out (by omega) (by simp))
    have HC9 := Aside0.mk ((HB0.out.take 9 (by omega)).below HB2.out).C
    have HRB2 := Aside0.mk HR2.out
    clear HBB HK1 HK2 HS2 HRD HR1 HRB2
    have e9 : (l0.take 9).length = 9 := by simp; omega
    have hcall := word_Sum.calls (some ad) c0 (l0.take 9) s w2 HC9.out (by omega) HS.out
    rw [e9] at hcall
    have HCALL := Aside0.mk hcall
    clear hcall e9
    go_wp2_with fail
    refine HCALL.out.mono ?_
    rintro e w3 ⟨rfl, hb3⟩
    have HB3 := Aside0.mk (HB2.out.trans (hb3.mono (by have := HB2.out.size; omega)))
    have HS4 := Aside0.mk ((hb3.block _ (Array.getElem?_eq_some_iff.1 HS3.out).1).trans HS3.out)
    have HR3 := Aside0.mk (show ∃ A c, Rdr w3 w.heap.size (w.heap.size + 1) A c l2 b2 from (by obtain ⟨A2, c2, hr⟩ := HR2.out; exact ⟨A2, c2, hr.below hb3⟩))
    obtain ⟨gR0, gR1, gR2, kR0, kR1, kR2⟩ := ent_cells HS4.out
    clear hb3 HB2 HS3 HR2 HCALL HC9
    have w17 : IntKind.u64.wrap ((l0.length : Int) - 17) = (l0.length : Int) - 17 := by rw [IntKind.wrap_u64]; have := HB0.out.rd.2.1; omega
    have hlb := HB0.out.rd.2.1
    by_cases hss : (s0 : Int) = s
    · have hsb : ((s0 : Int) != s) = false := by simpa using hss
      have hf2 := HF.out
      rw [if_neg (by simpa using hss)] at hf2
      have HF := Aside0.mk hf2
      clear hf2
      have HSS := Aside0.mk hss
      clear hss
      by_cases hln : (l0.length : Int) - 17 < (n : Int)
      · have hf2 := HF.out
        rw [if_pos hln] at hf2
        have HF := Aside0.mk hf2
        clear hf2
        have hd1 : decide ((l0.length : Int) - 17 < (n : Int)) = true := decide_eq_true hln
        go_wp2_with fail
        obtain ⟨z1, z2, z3, z4⟩ := res_write (a' := .int .i64 0) (b' := .int .u64 0) (c' := .slice none 0 0) HB3.out HS4.out _ rfl
        have hfo := Option.some.inj HF.out
        simp only [Prod.mk.injEq] at hfo
        obtain ⟨rfl, rfl, rfl, rfl⟩ := hfo
        exact bodyPost_ret (v := .tuple #[.agg #[.int .i64 0, .int .u64 0, .slice none 0 0], .int .i64 0]) (by simp [results, Try.results53, go_sem, z2, z3, z4]) rfl ⟨_, rfl, Kd.R_nil _ _ _ _ _, z1⟩
      · have hf2 := HF.out
        rw [if_neg hln] at hf2
        have HF := Aside0.mk hf2
        clear hf2
        have hd1 : decide ((l0.length : Int) - 17 < (n : Int)) = false := decide_eq_false hln
        have w18 : IntKind.u64.wrap ((l0.length : Int) - 17 - (n : Int)) = (l0.length : Int) - 17 - (n : Int) := by rw [IntKind.wrap_u64]; omega
        by_cases hl9 : (l0.length : Int) - 17 - (n : Int) < 9
        · have hf2 := HF.out
          rw [if_pos hl9] at hf2
          have HF := Aside0.mk hf2
          clear hf2
          have hd2 : decide ((l0.length : Int) - 17 - (n : Int) < 9) = true := decide_eq_true hl9
          go_wp2_with fail
          obtain ⟨z1, z2, z3, z4⟩ := res_write (a' := .int .i64 0) (b' := .int .u64 0) (c' := .slice none 0 0) HB3.out HS4.out _ rfl
          have hfo := Option.some.inj HF.out
          simp only [Prod.mk.injEq] at hfo
          obtain ⟨rfl, rfl, rfl, rfl⟩ := hfo
          exact bodyPost_ret (v := .tuple #[.agg #[.int .i64 0, .int .u64 0, .slice none 0 0], .int .i64 0]) (by simp [results, Try.results53, go_sem, z2, z3, z4]) rfl ⟨_, rfl, Kd.R_nil _ _ _ _ _, z1⟩
        · have hf2 := HF.out
          rw [if_neg hl9] at hf2
          have HF := Aside0.mk hf2
          clear hf2
          have hd2 : decide ((l0.length : Int) - 17 - (n : Int) < 9) = false := decide_eq_false hl9
          go_wp2_with fail
          clear gR0 gR1 gR2 kR0 kR1 kR2 hd1 hd2 w17 w18
          obtain ⟨⟨x3, l3, b3⟩, q3⟩ : ∃ q, rcut l2 b2 n = q := ⟨_, rfl⟩
          obtain ⟨⟨x4, l4, b4⟩, q4⟩ : ∃ q, rcut l3 b3 8 = q := ⟨_, rfl⟩
          obtain ⟨⟨x5, l5, b5⟩, q5⟩ : ∃ q, rcut l4 b4 1 = q := ⟨_, rfl⟩
          have hf2 := HF.out
          simp only [q3, q4, q5] at hf2
          obtain ⟨s2, hs2, hf2⟩ := Option.bind_eq_some_iff.1 hf2
          have HF := Aside0.mk hf2; have HS5 := Aside0.mk hs2; have HQ3 := Aside0.mk q3; have HQ4 := Aside0.mk q4; have HQ5 := Aside0.mk q5
          clear hf2 hs2 q3 q4 q5
          obtain ⟨A3, c3, hr3⟩ := HR3.out
          refine (cut_walk _ w.heap.size (w.heap.size + 1) A3 c3 l2 b2 n hn2 hr3).mono ?_
          rintro e w4 ⟨A4, c4, rfl, hy4, hr4, hk4⟩
          rw [HQ3.out] at hy4 hr4
          rw [HQ3.out]
          simp only at hy4 hr4 ⊢
          have HY4 := Aside0.mk hy4; have HR4 := Aside0.mk hr4
          have HB4 := Aside0.mk (HB3.out.trans hk4.1)
          have HS6 := Aside0.mk (hk4.2.blk HS4.out (by omega) (by simp))
          clear hy4 hr4 hk4 hr3 HR3 HB3 HS4
          go_wp2_with fail
          obtain ⟨A5, c5, hr5⟩ := HR4.out
          refine (take64_walk _ w.heap.size (w.heap.size + 1) A5 c5 l3 b3 8 (by omega) hr5).mono ?_
          rintro e w5 ⟨rfl, hr6, hk5⟩
          rw [HQ4.out] at hr6
          rw [HQ4.out]
          simp only at hr6 ⊢
          have HR6 := Aside0.mk hr6
          have HB5 := Aside0.mk (HB4.out.trans hk5.1)
          have HS7 := Aside0.mk (hk5.2.blk HS6.out (by omega) (by simp))
          have HY5 := Aside0.mk (HY4.out.keep hk5.2 (by omega))
          clear hr5 hr6 hk5 HR4 HB4 HS6 HY4
          go_wp2_with fail
          refine (word_Sum.calls A4 c4 x3 s2 _ HY5.out.C HY5.out.cap HS5.out).mono ?_
          rintro e w6 ⟨rfl, hb6⟩
          have HB6 := Aside0.mk (HB5.out.trans (hb6.mono (by have := HB5.out.size; omega)))
          have HS8 := Aside0.mk ((hb6.block _ (Array.getElem?_eq_some_iff.1 HS7.out).1).trans HS7.out)
          have HY6 := Aside0.mk (HY5.out.below hb6)
          have HR7 := Aside0.mk (show ∃ A c, Rdr w6 w.heap.size (w.heap.size + 1) A c l4 b4 from (by obtain ⟨A2, c2, hr⟩ := HR6.out; exact ⟨A2, c2, hr.below hb6⟩))
          obtain ⟨gR0, gR1, gR2, kR0, kR1, kR2⟩ := ent_cells HS8.out
          clear hb6 HR6 HB5 HS7 HY5
          by_cases hs4 : numOf x4 = s2
          · have hsb4 : (numOf x4 != s2) = false := by simpa using hs4
            have hf2 := HF.out
            rw [if_neg (by simpa using hs4)] at hf2
            have HF := Aside0.mk hf2
            have HSS4 := Aside0.mk hs4
            clear hf2 hs4
            go_wp2_with fail
            obtain ⟨A7, c7, hr7⟩ := HR7.out
            refine (take8_walk _ w.heap.size (w.heap.size + 1) A7 c7 l4 b4 1 (by omega) hr7).mono ?_
            rintro e w7 ⟨rfl, hr8, hk7⟩
            rw [HQ5.out]
            simp only
            have HB7 := Aside0.mk (HB6.out.trans hk7.1)
            have HS9 := Aside0.mk (hk7.2.blk HS8.out (by omega) (by simp))
            have HY7 := Aside0.mk (HY6.out.keep hk7.2 (by omega))
            clear hr7 hr8 hk7 HR7 HB6 HS8 HY6 gR0 gR1 gR2 kR0 kR1 kR2
            obtain ⟨gR0, gR1, gR2, kR0, kR1, kR2⟩ := ent_cells HS9.out
            by_cases h85 : numOf x5 % 256 = 85
            · have hsb5 : (numOf x5 % 256 != 85) = false := by simpa using h85
              have hf2 := HF.out
              rw [if_neg (by simpa using h85)] at hf2
              obtain ⟨⟨a1, a2, a3, ok⟩, hp, hf2⟩ := Option.bind_eq_some_iff.1 hf2
              have HF := Aside0.mk hf2; have HP := Aside0.mk hp
              have H85 := Aside0.mk h85
              clear hf2 hp h85
              go_wp2_with fail
              refine (record_parse.calls k A4 c4 x3 a1 a2 a3 ok _ HY7.out.C HY7.out.cap HP.out).mono ?_
              rintro e w8 ⟨v2, rfl, hv2, hb8⟩
              obtain ⟨Av, cv, rfl⟩ := Kd.R_slice hv2
              have HB8 := Aside0.mk (HB7.out.trans (hb8.mono (by have := HB7.out.size; omega)))
              have HS10 := Aside0.mk ((hb8.block _ (Array.getElem?_eq_some_iff.1 HS9.out).1).trans HS9.out)
              have HV2 := Aside0.mk (Kd.R_mono (Kd.R_lower (Kd.R_mono (Kd.R_bound hv2) (ok' := fun k => w.heap.size < k) (fun k hk => Nat.lt_of_lt_of_le (Array.getElem?_eq_some_iff.1 HS9.out).1 hk.2.1)) (Nat.le_of_lt (Array.getElem?_eq_some_iff.1 HS9.out).1)) (ok' := fun k => k ≠ w.heap.size) (fun k hk => by omega))
              clear hv2 hb8 HB7 HS9 HY7 gR0 gR1 gR2 kR0 kR1 kR2
              obtain ⟨gR0, gR1, gR2, kR0, kR1, kR2⟩ := ent_cells HS10.out
              cases ok with
              | true =>
                have hf2 := HF.out
                simp only [if_true, Option.some.injEq, Prod.mk.injEq] at hf2
                have HF := Aside0.mk hf2
                clear hf2
                have hw : IntKind.i64.wrap (n : Int) = (n : Int) := IntWalk.i64_in _ (by omega)
                have HB9 := Aside0.mk (HB8.out.alloc HB8.out.size (.cells #[.int .i64 a1, .int .u64 a2, .slice Av a3.length cv] 33))
                have HS11 := Aside0.mk ((((Below.refl w8.heap.size w8).alloc (Nat.le_refl _) (.cells #[.int .i64 a1, .int .u64 a2, .slice Av a3.length cv] 33)).block w.heap.size (Array.getElem?_eq_some_iff.1 HS10.out).1).trans HS10.out)
                clear gR0 gR1 gR2 kR0 kR1 kR2
                obtain ⟨gR0, gR1, gR2, kR0, kR1, kR2⟩ := ent_cells HS11.out
                go_wp2_with fail
                obtain ⟨z1, z2, z3, z4⟩ := res_write (a' := .int .i64 a1) (b' := .int .u64 a2) (c' := .slice Av a3.length cv) HB9.out HS11.out _ rfl
                have HVW := Aside0.mk (Kd.R_far (p := ⟨w.heap.size, 2, none⟩) (Kd.R_far (p := ⟨w.heap.size, 1, none⟩) (Kd.R_far (p := ⟨w.heap.size, 0, none⟩) (Kd.R_below HV2.out ((Below.refl w8.heap.size w8).alloc (Nat.le_refl _) (.cells #[.int .i64 a1, .int .u64 a2, .slice Av a3.length cv] 33))) (fun _ hk => hk) (.int .i64 a1)) (fun _ hk => hk) (.int .u64 a2)) (fun _ hk => hk) (.slice Av a3.length cv))
                obtain ⟨rfl, rfl, rfl, rfl⟩ := HF.out
                exact bodyPost_ret (v := .tuple #[.agg #[.int .i64 r1, .int .u64 r2, .slice Av r3.length cv], .int .i64 ((n : Int) + 26)]) (by simp [results, Try.results53, go_sem, z2, z3, z4]; omega) rfl ⟨_, rfl, Kd.R_mono HVW.out (fun _ _ => trivial), z1⟩
              | false =>
                have hf2 := HF.out
                simp only [Bool.false_eq_true, if_false] at hf2
                have HF := Aside0.mk hf2
                clear hf2
                have HB9 := Aside0.mk (HB8.out.alloc HB8.out.size (.cells #[.int .i64 a1, .int .u64 a2, .slice Av a3.length cv] 33))
                have HS11 := Aside0.mk ((((Below.refl w8.heap.size w8).alloc (Nat.le_refl _) (.cells #[.int .i64 a1, .int .u64 a2, .slice Av a3.length cv] 33)).block w.heap.size (Array.getElem?_eq_some_iff.1 HS10.out).1).trans HS10.out)
                clear gR0 gR1 gR2 kR0 kR1 kR2
                obtain ⟨gR0, gR1, gR2, kR0, kR1, kR2⟩ := ent_cells HS11.out
                go_wp2_with fail
                obtain ⟨z1, z2, z3, z4⟩ := res_write (a' := .int .i64 0) (b' := .int .u64 0) (c' := .slice none 0 0) HB9.out HS11.out _ rfl
                have hfo := Option.some.inj HF.out
                simp only [Prod.mk.injEq] at hfo
                obtain ⟨rfl, rfl, rfl, rfl⟩ := hfo
                exact bodyPost_ret (v := .tuple #[.agg #[.int .i64 0, .int .u64 0, .slice none 0 0], .int .i64 0]) (by simp [results, Try.results53, go_sem, z2, z3, z4]) rfl ⟨_, rfl, Kd.R_nil _ _ _ _ _, z1⟩
            · have hsb5 : (numOf x5 % 256 != 85) = true := by simpa using h85
              have hf2 := HF.out
              rw [if_pos (by simpa using h85)] at hf2
              have HF := Aside0.mk hf2
              clear hf2 h85
              go_wp2_with fail
              obtain ⟨z1, z2, z3, z4⟩ := res_write (a' := .int .i64 0) (b' := .int .u64 0) (c' := .slice none 0 0) HB7.out HS9.out _ rfl
              have hfo := Option.some.inj HF.out
              simp only [Prod.mk.injEq] at hfo
              obtain ⟨rfl, rfl, rfl, rfl⟩ := hfo
              exact bodyPost_ret (v := .tuple #[.agg #[.int .i64 0, .int .u64 0, .slice none 0 0], .int .i64 0]) (by simp [results, Try.results53, go_sem, z2, z3, z4]) rfl ⟨_, rfl, Kd.R_nil _ _ _ _ _, z1⟩
          · have hsb4 : (numOf x4 != s2) = true := by simpa using hs4
            have hf2 := HF.out
            rw [if_pos (by simpa using hs4)] at hf2
            have HF := Aside0.mk hf2
            clear hf2 hs4
            go_wp2_with fail
            obtain ⟨z1, z2, z3, z4⟩ := res_write (a' := .int .i64 0) (b' := .int .u64 0) (c' := .slice none 0 0) HB6.out HS8.out _ rfl
            have hfo := Option.some.inj HF.out
            simp only [Prod.mk.injEq] at hfo
            obtain ⟨rfl, rfl, rfl, rfl⟩ := hfo
            exact bodyPost_ret (v := .tuple #[.agg #[.int .i64 0, .int .u64 0, .slice none 0 0], .int .i64 0]) (by simp [results, Try.results53, go_sem, z2, z3, z4]) rfl ⟨_, rfl, Kd.R_nil _ _ _ _ _, z1⟩
    · have hsb : ((s0 : Int) != s) = true := by simpa using hss
      have hf2 := HF.out
      rw [if_pos (by simpa using hss)] at hf2
      have HF := Aside0.mk hf2
      clear hf2
      go_wp2_with fail
      obtain ⟨z1, z2, z3, z4⟩ := res_write (a' := .int .i64 0) (b' := .int .u64 0) (c' := .slice none 0 0) HB3.out HS4.out _ rfl
      have hfo := Option.some.inj HF.out
      simp only [Prod.mk.injEq] at hfo
      obtain ⟨rfl, rfl, rfl, rfl⟩ := hfo
      exact bodyPost_ret (v := .tuple #[.agg #[.int .i64 0, .int .u64 0, .slice none 0 0], .int .i64 0]) (by simp [results, Try.results53, go_sem, z2, z3, z4]) rfl ⟨_, rfl, Kd.R_nil _ _ _ _ _, z1⟩
  · have hf' : some ((0 : Int), (0 : Int), ([] : List S76), (0 : Int)) = some (r1, r2, r3, r4) := by rw [← hf]; unfold record_first.f; rw [if_neg h17, if_pos (by rw [HY0.out]; exact h170)]
    have HF := Aside0.mk hf'
    clear hf hf'
    have p3 : (y0 != 170) = true := by simpa using h170
    go_enter Try.func53, Try.ntmps53
    go_wp2_with fail
    have hfo := Option.some.inj HF.out
    simp only [Prod.mk.injEq] at hfo
    obtain ⟨rfl, rfl, rfl, rfl⟩ := hfo
    exact bodyPost_ret (v := .tuple #[.agg #[.int .i64 0, .int .u64 0, .slice none 0 0], .int .i64 0]) (by simp [results, Try.results53, go_sem]) rfl ⟨_, rfl, Kd.R_nil _ _ _ _ _, HB1.out⟩
/-- The length may be spelled otherwise at the call. -/
theorem record_first.calls {n0 : Nat} (k : Nat) (A0 : Option Addr) (c0 : Nat) (l0 : List Int) (r1 r2 : Int) (r3 : List S76) (r4 : Int) (w : World) (hr0 : Kd.C (Kd.int .u8) w A0 l0.length l0) (hc0 : l0.length ≤ c0) (hf : record_first.f k l0 = some (r1, r2, r3, r4)) (hn : n0 = l0.length := by first | rfl | (simp; done)) :
    Calls Try.prog 53 #[.slice A0 n0 c0] w fun e w' => ∃ v2_ : Value, e = .returned (.tuple #[.agg #[.int .i64 r1, .int .u64 r2, v2_], .int .i64 r4]) ∧ Kd.R k76 76 w' w.heap.size (fun _ => True) v2_ r3 ∧ Below w.heap.size w w' := by
  subst hn
  exact record_first.calls0 k A0 c0 l0 r1 r2 r3 r4 w hr0 hc0 hf
end Go.Proofs.Ytdhkhjfjjbdkgaa.Rec
