import Derived.Test.YtglglknhifjbaaaGreatDoorMix
namespace Go.Proofs.YtglglknhifjbaaaGreatDoor.Sp
set_option linter.unusedVariables false
set_option linter.unusedSimpArgs false
theorem or_setW (v r c : Nat) (hv : v < 18446744073709551616) (hr : r < 8) (h : byteW v r = 0) : v ||| (c * 2 ^ (8 * r)) = setW v r c := by
  have e : v &&& (18446744073709551615 - 255 * 2 ^ (8 * r)) = v := by
    apply Nat.eq_of_testBit_eq
    intro i
    rw [Nat.testBit_and, mask_bit r i hr]
    by_cases hi : i < 64
    · by_cases h8 : 8 * r ≤ i ∧ i - 8 * r < 8
      · have hb := byteW_bit v r (i - 8 * r)
        rw [h, Nat.zero_testBit, show i - 8 * r + 8 * r = i by omega, decide_eq_true h8.2, Bool.true_and] at hb
        rw [← hb, Bool.false_and]
      · have : (decide (8 * r ≤ i) && decide (i - 8 * r < 8)) = false := by
          rw [Bool.and_eq_false_iff, decide_eq_false_iff_not, decide_eq_false_iff_not]
          omega
        rw [this, decide_eq_true hi]
        simp
    · rw [Nat.testBit_lt_two_pow (Nat.lt_of_lt_of_le (show v < 2 ^ 64 from hv) (Nat.pow_le_pow_right (by decide) (by omega))), Bool.false_and]
  unfold setW
  rw [e]
theorem word_ext (a b : Nat) (ha : a < 18446744073709551616) (hb : b < 18446744073709551616) (h : ∀ r, r < 8 → byteW a r = byteW b r) : a = b := by
  apply Nat.eq_of_testBit_eq
  intro i
  by_cases hi : i < 64
  · have e := congrArg (fun n => n.testBit (i % 8)) (h (i / 8) (by omega))
    simp only [byteW_bit] at e
    rw [show i % 8 + 8 * (i / 8) = i by omega, decide_eq_true (show i % 8 < 8 by omega), Bool.true_and, Bool.true_and] at e
    exact e
  · rw [Nat.testBit_lt_two_pow (Nat.lt_of_lt_of_le (show a < 2 ^ 64 from ha) (Nat.pow_le_pow_right (by decide) (by omega))), Nat.testBit_lt_two_pow (Nat.lt_of_lt_of_le (show b < 2 ^ 64 from hb) (Nat.pow_le_pow_right (by decide) (by omega)))]
theorem words_ext {l m : List Nat} (hlen : l.length = m.length) (hl : ∀ x ∈ l, x < 18446744073709551616) (hm : ∀ x ∈ m, x < 18446744073709551616) (h : ∀ j, j < 8 * l.length → getB l j = getB m j) : l = m := by
  apply List.ext_getElem hlen
  intro j h1 h2
  refine word_ext _ _ (hl _ (List.getElem_mem h1)) (hm _ (List.getElem_mem h2)) (fun r hr => ?_)
  have := h (8 * j + r) (by omega)
  unfold getB at this
  rw [show (8 * j + r) / 8 = j by omega, show (8 * j + r) % 8 = r by omega, List.getD_eq_getElem?_getD, List.getD_eq_getElem?_getD, List.getElem?_eq_getElem h1, List.getElem?_eq_getElem h2] at this
  exact this
def foldW (l : List Nat) : Nat := l.foldr (fun x n => x + 256 * n) 0
theorem foldW_byte : ∀ (l : List Nat) (r : Nat), (∀ x ∈ l, x < 256) → byteW (foldW l) r = l.getD r 0
  | [], r, _ => by simp [foldW, byteW]
  | x :: l, 0, h => by
    have := h x List.mem_cons_self
    show (x + 256 * foldW l) / 2 ^ (8 * 0) % 256 = x
    simp; omega
  | x :: l, r + 1, h => by
    have hx := h x List.mem_cons_self
    have ih := foldW_byte l r (fun y hy => h y (List.mem_cons_of_mem _ hy))
    show (x + 256 * foldW l) / 2 ^ (8 * (r + 1)) % 256 = l.getD r 0
    rw [← ih]
    unfold byteW
    rw [show 8 * (r + 1) = 8 + 8 * r by omega, Nat.pow_add, ← Nat.div_div_eq_div_mul, show (x + 256 * foldW l) / 2 ^ 8 = foldW l by omega]
theorem foldW_lt : ∀ (l : List Nat), (∀ x ∈ l, x < 256) → foldW l < 256 ^ l.length
  | [], _ => by simp [foldW]
  | x :: l, h => by
    have hx := h x List.mem_cons_self
    have ih := foldW_lt l (fun y hy => h y (List.mem_cons_of_mem _ hy))
    show x + 256 * foldW l < 256 ^ (l.length + 1)
    rw [Nat.pow_succ]
    omega
def natsOf (b : List Int) : List Nat := b.map Int.toNat
theorem natsOf_len (b : List Int) : (natsOf b).length = b.length := by simp [natsOf]
theorem packN_eq : ∀ (b : List Int), b ≠ [] → packN b = foldW (natsOf (b.take 8)) :: packN (b.drop 8)
  | [], h => absurd rfl h
  | [a], _ => rfl
  | [a, b], _ => rfl
  | [a, b, c], _ => rfl
  | [a, b, c, d], _ => rfl
  | [a, b, c, d, e], _ => rfl
  | [a, b, c, d, e, f], _ => rfl
  | [a, b, c, d, e, f, g], _ => rfl
  | a :: b :: c :: d :: e :: f :: g :: h :: l, _ => rfl
theorem packN_spec : ∀ (n : Nat) (b : List Int), b.length ≤ n → (∀ x ∈ b, 0 ≤ x ∧ x < 256) → (packN b).length = wordsN b.length ∧ (∀ x ∈ packN b, x < 18446744073709551616) ∧ ∀ j, getB (packN b) j = (natsOf b).getD j 0
  | 0, b, hn, hb => by
    obtain rfl : b = [] := List.length_eq_zero_iff.1 (by omega)
    exact ⟨rfl, fun x hx => by simp [packN] at hx, fun j => by simp [packN, getB, byteW, natsOf]⟩
  | n + 1, b, hn, hb => by
    by_cases h0 : b = []
    · subst h0
      exact ⟨rfl, fun x hx => by simp [packN] at hx, fun j => by simp [packN, getB, byteW, natsOf]⟩
    · have hpos : 0 < b.length := List.length_pos_iff.2 h0
      obtain ⟨i1, i2, i3⟩ := packN_spec n (b.drop 8) (by rw [List.length_drop]; omega) (fun x hx => hb x (List.mem_of_mem_drop hx))
      have h8 : ∀ x ∈ natsOf (b.take 8), x < 256 := fun x hx => by
        obtain ⟨y, hy, rfl⟩ := List.mem_map.1 hx
        have := hb y (List.mem_of_mem_take hy)
        omega
      rw [packN_eq b h0]
      refine ⟨?_, fun x hx => ?_, fun j => ?_⟩
      · rw [List.length_cons, i1, List.length_drop]; unfold wordsN; omega
      · rcases List.mem_cons.1 hx with rfl | hx
        · have h1 := foldW_lt _ h8
          have h2 : (natsOf (b.take 8)).length ≤ 8 := by rw [natsOf_len, List.length_take]; omega
          exact Nat.lt_of_lt_of_le h1 (Nat.le_trans (Nat.pow_le_pow_right (by decide) h2) (by decide))
        · exact i2 x hx
      · by_cases hj : j < 8
        · unfold getB
          rw [show j / 8 = 0 by omega, show j % 8 = j by omega]
          show byteW (foldW (natsOf (b.take 8))) j = _
          rw [foldW_byte _ _ h8, List.getD_eq_getElem?_getD, List.getD_eq_getElem?_getD]
          unfold natsOf
          rw [List.getElem?_map, List.getElem?_map, List.getElem?_take, if_pos hj]
        · have h3 := i3 (j - 8)
          unfold getB at h3 ⊢
          rw [show j / 8 = (j - 8) / 8 + 1 by omega, show j % 8 = (j - 8) % 8 by omega]
          show byteW ((packN (b.drop 8)).getD ((j - 8) / 8) 0) ((j - 8) % 8) = _
          rw [h3, List.getD_eq_getElem?_getD, List.getD_eq_getElem?_getD]
          unfold natsOf
          rw [List.getElem?_map, List.getElem?_map, List.getElem?_drop, show 8 + (j - 8) = j by omega]
theorem getB_zeros (n j : Nat) : getB (List.replicate n 0) j = 0 := by
  unfold getB
  rw [List.getD_eq_getElem?_getD, List.getElem?_replicate]
  split <;> simp [byteW]
theorem packN_set (b : List Int) (hb : ∀ x ∈ b, 0 ≤ x ∧ x < 256) : setBs (List.replicate (wordsN b.length) 0) 0 (natsOf b) = packN b := by
  obtain ⟨h1, h2, h3⟩ := packN_spec b.length b (Nat.le_refl _) hb
  have hz : ∀ x ∈ List.replicate (wordsN b.length) 0, x < 18446744073709551616 := fun x hx => by rw [List.eq_of_mem_replicate hx]; decide
  have hn : ∀ x ∈ natsOf b, x < 256 := fun x hx => by
    obtain ⟨y, hy, rfl⟩ := List.mem_map.1 hx
    have := hb y hy
    omega
  refine words_ext (by rw [setBs_len, h1, List.length_replicate]) (setBs_lt _ _ _ hz hn) h2 (fun j _ => ?_)
  rw [getB_sets _ _ 0 j hz hn (by rw [natsOf_len, List.length_replicate]; unfold wordsN; omega), h3, getB_zeros]
  by_cases hj : j < (natsOf b).length
  · rw [if_pos ⟨Nat.zero_le _, by omega⟩, Nat.sub_zero]
  · rw [if_neg (by omega), List.getD_eq_getElem?_getD, List.getElem?_eq_none (by omega)]; rfl
end Go.Proofs.YtglglknhifjbaaaGreatDoor.Sp
namespace Go.Proofs.YtglglknhifjbaaaGreatDoor.Sp
open Go.RowKit Go.Proofs.YtglglknhifjbaaaGreatDoorW.PrintWords Go.Proofs.YtglglknhifjbaaaGreatDoorW.PrintLast Go.Proofs.YtglglknhifjbaaaGreatDoorW.PrintMore
set_option linter.unusedVariables false
set_option linter.unusedSimpArgs false
def SrcB (w : World) (A : Option Addr) (b : List Nat) : Prop :=
  0 < b.length → ∃ g o, A = some ⟨g, o, none⟩ ∧ g < w.heap.size ∧ ∀ j (h : j < b.length), w.cell? ⟨g, o + j, none⟩ = some (.int .u8 (b[j] : Int))
theorem u64_or_nat (a b : Nat) (ha : a < 18446744073709551616) (hb : b < 18446744073709551616) : bits .or .u64 (a : Int) (b : Int) = ((a ||| b : Nat) : Int) :=
  (bits_nat .u64 64 (by decide) (fun n h0 h1 => by rw [IntKind.wrap_u64]; omega) a b ha hb).2
def pkL (q : Nat) (b : List Nat) (t : Nat) : List Nat := setBs (List.replicate q 0) 0 (b.take t)
theorem pkL_len (q : Nat) (b : List Nat) (t : Nat) : (pkL q b t).length = q := by unfold pkL; rw [setBs_len, List.length_replicate]
theorem zeros_lt (q : Nat) : ∀ x ∈ List.replicate q 0, x < 18446744073709551616 := fun x hx => by rw [List.eq_of_mem_replicate hx]; decide
theorem pkL_lt (q : Nat) (b : List Nat) (t : Nat) (hb : ∀ y ∈ b, y < 256) : ∀ x ∈ pkL q b t, x < 18446744073709551616 := setBs_lt _ _ _ (zeros_lt q) (fun y hy => hb y (List.mem_of_mem_take hy))
theorem pkL_succ (q : Nat) (b : List Nat) (t : Nat) (hb : ∀ y ∈ b, y < 256) (ht : t < b.length) (hq : b.length ≤ 8 * q) :
    pkL q b (t + 1) = (pkL q b t).set (t / 8) ((pkL q b t).getD (t / 8) 0 ||| (b[t] * 2 ^ (8 * (t % 8)))) := by
  have hlt := pkL_lt q b t hb
  have e1 : pkL q b (t + 1) = setB (pkL q b t) t b[t] := by
    unfold pkL
    rw [List.take_succ_eq_append_getElem ht, setBs_snoc, List.length_take, Nat.min_eq_left (by omega), Nat.zero_add]
  rw [e1]
  unfold setB
  congr 1
  refine (or_setW _ _ _ (getD_lt hlt _) (by omega) ?_).symm
  have h1 : getB (pkL q b t) t = 0 := by
    unfold pkL
    rw [getB_sets _ _ 0 t (zeros_lt q) (fun y hy => hb y (List.mem_of_mem_take hy)) (by rw [List.length_take, List.length_replicate]; omega), if_neg (by rw [List.length_take]; omega), getB_zeros]
  exact h1
def PackPost (w : World) (L : List Nat) (e : Ending) (w' : World) : Prop :=
  ∃ g, e = .returned (.slice (some ⟨g, 0, none⟩) L.length L.length) ∧ w.heap.size ≤ g ∧ w'.heap[g]? = some (.cells (L.map wv).toArray 22 (0, 0)) ∧ Below w.heap.size w w'
set_option maxHeartbeats 8000000 in
set_option maxRecDepth 100000 in
theorem pack_walk (w : World) (A : Option Addr) (b : List Nat) (c : Nat) (hb : ∀ y ∈ b, y < 256) (hA : SrcB w A b) (hl : b.length ≤ 4096) :
    Calls Tryz.prog 203 #[.slice A b.length c] w (PackPost w (setBs (List.replicate (wordsN b.length) 0) 0 b)) := by
  obtain ⟨q, hq⟩ : ∃ q, wordsN b.length = q := ⟨_, rfl⟩
  have hq9 : q ≤ 512 ∧ b.length ≤ 8 * q := by unfold wordsN at hq; omega
  have HWd := words_walk w b.length (by omega)
  rw [hq] at HWd ⊢
  have hfull : setBs (List.replicate q 0) 0 b = pkL q b b.length := by unfold pkL; rw [List.take_length]
  rw [hfull]
  have hmk : ∀ w : World, (Instr.makeSlice 143 (.int .i64 (q : Int)) (.int .i64 (q : Int))).run Tryz.prog w = .ok (.slice (some ⟨w.heap.size, 0, none⟩) q q) (w.alloc (.cells ((pkL q b 0).map wv).toArray 22)) := fun w => by
    have := run_make_row' (P := Tryz.prog) 143 22 (.int .u64 0) 8 Tryz.underlying143 (by kernel_rfl) rfl .i64 .i64 q (by omega) (by omega) w
    rw [show madeCells #[Value.int .u64 0] q = ((pkL q b 0).map wv).toArray by
      rw [← Array.toArray_toList (xs := madeCells _ _), toList_madeCells_one]
      show _ = ((List.replicate q 0).map wv).toArray
      simp [wv]] at this
    exact this
  have hround : ∀ t (ht : t < b.length), ∃ v : Nat, (pkL q b t).getD (t / 8) 0 = v ∧ v < 18446744073709551616 ∧ pkL q b (t + 1) = (pkL q b t).set (t / 8) (v ||| (b[t] * 2 ^ (8 * (t % 8)))) := fun t ht =>
    ⟨_, rfl, getD_lt (pkL_lt q b t hb) _, pkL_succ q b t hb ht hq9.2⟩
  have HRound := Lib.hid hround; have HB := Lib.hid hb; have HA := Lib.hid hA
  replace HWd := Lib.hid HWd
  obtain ⟨n, hn⟩ : ∃ n, b.length = n := ⟨_, rfl⟩
  have HN := Lib.hid hn
  rw [hn] at hq9 hl HWd ⊢
  clear hround hb hA hq hfull hn
  go_enter Tryz.func203, Tryz.ntmps203
  go_wp2_with fail
  refine HWd.out.mono ?_
  rintro e w' ⟨rfl, rfl⟩
  go_wp2_with fail
  have hbel : Below w.heap.size w (w.alloc (.cells ((pkL q b 0).map wv).toArray 22)) := Below.alloc (Below.refl _ _) (Nat.le_refl _) _
  have hnew : (w.alloc (.cells ((pkL q b 0).map wv).toArray 22)).heap[w.heap.size]? = some (.cells ((pkL q b 0).map wv).toArray 22 (0, 0)) := by rw [alloc_at, if_pos rfl]
  obtain ⟨N, hN⟩ : ∃ N, w.heap.size = N := ⟨_, rfl⟩
  rw [hN] at hbel hnew ⊢
  have HBl := Lib.hid hbel; have HNw := Lib.hid hnew; have HNN := Lib.hid hN
  clear hbel hnew hN hmk
  go_loopw [12] (fun v12 wr => ∃ t : Nat, t ≤ n ∧ v12 = .int .i64 (t : Int) ∧ Hid (wr.heap[N]? = some (.cells ((pkL q b t).map wv).toArray 22 (0, 0)) ∧ Below N w wr)) (fun v12 _ => n - (intOf v12).toNat)
  case atStart => exact ⟨0, by omega, rfl, HNw.out, HBl.out⟩
  case round =>
    obtain ⟨t, ht, rfl, HH⟩ := hrel
    by_cases hlt : t < n
    · have htb : t < b.length := by rw [HN.out]; exact hlt
      obtain ⟨g, o, rfl, hg, hcl⟩ := HA.out (by omega)
      have s0 : wr.cell? ⟨g, o + t, none⟩ = some (.int .u8 (b[t] : Int)) := by
        rw [HH.out.2.cell (by rw [HNN.out] at hg; exact hg)]; exact hcl t htb
      obtain ⟨v, hv1, hv2, hv3⟩ := HRound.out t htb
      have hc := HB.out b[t] (List.getElem_mem htb)
      obtain ⟨c1, hc1⟩ : ∃ c1, b[t] = c1 := ⟨_, rfl⟩
      rw [hc1] at s0 hc hv3
      obtain ⟨m, hm⟩ : ∃ m, t / 8 = m := ⟨_, rfl⟩
      obtain ⟨rm, hrm⟩ : ∃ rm, t % 8 = rm := ⟨_, rfl⟩
      rw [hm] at hv1 hv3
      rw [hrm] at hv3
      have hmq : m < q := by omega
      have hrm8 : rm < 8 := by omega
      have m2 : (t : Int).tdiv 8 = (m : Int) := by rw [Int.tdiv_eq_ediv_of_nonneg (by omega)]; omega
      have m3 : (t : Int).tmod 8 = (rm : Int) := by rw [Int.tmod_eq_emod_of_nonneg (by omega)]; omega
      have m4 : IntKind.i64.wrap (m : Int) = (m : Int) := Go.IntWalk.i64_in _ (by omega)
      have m5 : IntKind.i64.wrap (rm : Int) = (rm : Int) := Go.IntWalk.i64_in _ (by omega)
      have m6 : IntKind.i64.wrap (8 * (rm : Int)) = ((8 * rm : Nat) : Int) := by rw [Go.IntWalk.i64_in _ (by omega)]; omega
      obtain ⟨b1, b2, b3, b4⟩ := sby_word v rm c1 hv2 hrm8 hc
      have b0 : IntKind.u64.wrap (c1 : Int) = (c1 : Int) := by rw [IntKind.wrap_u64]; omega
      have hc2 : c1 * 2 ^ (8 * rm) < 18446744073709551616 := by
        have h1 : c1 * 2 ^ (8 * rm) ≤ 255 * 2 ^ (8 * rm) := Nat.mul_le_mul_right _ (by omega)
        have h2 : 2 ^ (8 * rm) ≤ 2 ^ 56 := Nat.pow_le_pow_right (by omega) (by omega)
        omega
      have b5 := u64_or_nat v (c1 * 2 ^ (8 * rm)) hv2 hc2
      have e0 : wr.cell? ⟨N, m, none⟩ = some (.int .u64 (v : Int)) := by
        have h1 := HH.out.1
        have h2 : m < (pkL q b t).length := by rw [pkL_len]; exact hmq
        rw [List.getD_eq_getElem?_getD, List.getElem?_eq_getElem h2] at hv1
        simp only [Option.getD_some] at hv1
        simp [World.cell?, h1, wv, h2, hv1]
      have e1 : wr.frozen? ⟨N, m, none⟩ = false := by simp [World.frozen?, HH.out.1]
      have HV3 := Lib.hid hv3
      clear hv1 hv3 hm hrm hc1 hg hcl b1 b3 b4 htb
      go_wp2_with fail
      go_region_law (fail)
      all_goals (try (go_wp2_with fail))
      refine ⟨⟨t + 1, by omega, by go_num, ?_⟩, by simp [intOf]; omega⟩
      rw [b2, b5]
      refine Lib.hid ⟨?_, (HH.out.2.setCell (Nat.le_refl _) _).drew⟩
      show ((wr.setCell ⟨N, m, none⟩ (.int .u64 ((v ||| c1 * 2 ^ (8 * rm) : Nat) : Int)))).heap[N]? = _
      rw [setCell_at, if_pos rfl, HH.out.1, HV3.out, List.map_set]
      simp [wv]
    · obtain rfl : t = n := by omega
      go_wp2_with fail
      go_ret
      refine ⟨N, by rw [pkL_len]; rfl, by rw [HNN.out]; exact Nat.le_refl _, HH.out.1, by rw [HNN.out]; exact HH.out.2⟩
end Go.Proofs.YtglglknhifjbaaaGreatDoor.Sp
namespace Go.Proofs.YtglglknhifjbaaaGreatDoor.Sp
open Go.RowKit Go.Proofs.YtglglknhifjbaaaGreatDoorW.PrintWords Go.Proofs.YtglglknhifjbaaaGreatDoorW.PrintLast Go.Proofs.YtglglknhifjbaaaGreatDoorW.PrintMore
set_option linter.unusedVariables false
set_option linter.unusedSimpArgs false
def foldH (seed : Nat) (L : List Nat) (n t : Nat) : Nat := (L.take t).foldl (fun h w => mixN (h ^^^ w)) (mixN ((seed + n) % 18446744073709551616))
theorem foldH_lt (seed : Nat) (L : List Nat) (n t : Nat) : foldH seed L n t < 18446744073709551616 := foldl_mix_lt _ _ (mixN_lt _)
theorem foldH_succ (seed : Nat) (L : List Nat) (n t : Nat) (h : t < L.length) : foldH seed L n (t + 1) = mixN (foldH seed L n t ^^^ L[t]) := by
  unfold foldH
  rw [List.take_succ_eq_append_getElem h, List.foldl_append, List.foldl_cons, List.foldl_nil]
set_option maxHeartbeats 8000000 in
set_option maxRecDepth 100000 in
theorem hash_walk (w : World) (seed : Nat) (hs : seed < 18446744073709551616) (A : Option Addr) (b : List Nat) (c : Nat) (hb : ∀ y ∈ b, y < 256) (hA : SrcB w A b) (hl : b.length ≤ 4096) :
    Calls Tryz.prog 148 #[.int .u64 (seed : Int), .slice A b.length c] w fun e w' => e = .returned (.int .u64 (foldH seed (setBs (List.replicate (wordsN b.length) 0) 0 b) b.length (wordsN b.length) : Int)) ∧ Below w.heap.size w w' := by
  have HP := pack_walk w A b c hb hA hl
  obtain ⟨L, hL⟩ : ∃ L, setBs (List.replicate (wordsN b.length) 0) 0 b = L := ⟨_, rfl⟩
  have hLl : L.length = wordsN b.length := by rw [← hL, setBs_len, List.length_replicate]
  have hLt : ∀ x ∈ L, x < 18446744073709551616 := by rw [← hL]; exact setBs_lt _ _ _ (zeros_lt _) hb
  rw [hL] at HP ⊢
  rw [← hLl]
  have hq9 : L.length ≤ 512 := by rw [hLl]; unfold wordsN; omega
  obtain ⟨n, hn⟩ : ∃ n, b.length = n := ⟨_, rfl⟩
  rw [hn] at HP hl ⊢
  obtain ⟨s0, hs0⟩ : ∃ s0, (seed + n) % 18446744073709551616 = s0 := ⟨_, rfl⟩
  have hs1 : s0 < 18446744073709551616 := by omega
  have m1 : IntKind.u64.wrap (n : Int) = (n : Int) := by rw [IntKind.wrap_u64]; omega
  have m2 : IntKind.u64.wrap ((seed : Int) + (n : Int)) = (s0 : Int) := by rw [IntKind.wrap_u64]; omega
  have hmx := mix_walk w s0 hs1
  have h0 : mixN s0 = foldH seed L n 0 := by unfold foldH; rw [hs0, List.take_zero, List.foldl_nil]
  rw [h0] at hmx
  replace HP := Lib.hid HP
  have HMx := Lib.hid hmx; have HLt := Lib.hid hLt
  obtain ⟨h, hh⟩ : ∃ h, foldH seed L n 0 = h := ⟨_, rfl⟩
  rw [hh] at HMx
  have HH0 := Lib.hid hh
  clear hmx hLt hLl hL hb hA hn hs0 h0 hh
  go_enter Tryz.func148, Tryz.ntmps148
  go_wp2_with fail
  refine HMx.out.mono ?_
  rintro e w' ⟨rfl, rfl⟩
  go_wp2_with fail
  refine HP.out.mono ?_
  rintro e w1 ⟨g, rfl, hg, hblk, hbel⟩
  have HBk := Lib.hid hblk; have HBl := Lib.hid hbel
  clear hblk hbel
  obtain ⟨q, hq⟩ : ∃ q, L.length = q := ⟨_, rfl⟩
  have HQ := Lib.hid hq
  rw [hq] at hq9 ⊢
  clear hq
  go_wp2_with fail
  go_loop [17, 5] (fun v17 v5 => ∃ t : Nat, t ≤ q ∧ v17 = .int .i64 (t : Int) ∧ v5 = .int .u64 (foldH seed L n t : Int)) (fun v17 _ => q - (intOf v17).toNat)
  case atStart => exact ⟨0, by omega, rfl, by rw [HH0.out]⟩
  case round =>
    obtain ⟨t, ht, rfl, rfl⟩ := hrel
    by_cases hlt : t < q
    · have htl : t < L.length := by rw [HQ.out]; exact hlt
      have hwl := HLt.out L[t] (List.getElem_mem htl)
      have hfl := foldH_lt seed L n t
      have hmx := fun w => mix_walk w (foldH seed L n t ^^^ L[t]) (xor_lt64 hfl hwl)
      have hb := bits_xor_u64_nat (foldH seed L n t) L[t] hfl hwl
      have hc : w1.cell? ⟨g, t, none⟩ = some (.int .u64 (L[t] : Int)) := by
        have h1 := HBk.out
        simp [World.cell?, h1, wv, htl]
      have hsu := foldH_succ seed L n t htl
      rw [← hsu] at hmx
      obtain ⟨h1, hh1⟩ : ∃ h1, foldH seed L n t = h1 := ⟨_, rfl⟩
      obtain ⟨v1, hv1⟩ : ∃ v1, L[t] = v1 := ⟨_, rfl⟩
      obtain ⟨x1, hx1⟩ : ∃ x1, h1 ^^^ v1 = x1 := ⟨_, rfl⟩
      rw [hv1] at hc
      rw [hh1, hv1, hx1] at hb hmx
      rw [hh1]
      have HM := Lib.hid hmx
      clear hmx hsu hh1 hv1 hx1 hwl hfl
      go_wp2_with fail
      refine (HM.out _).mono ?_
      rintro e w' ⟨rfl, rfl⟩
      go_wp2_with fail
      exact ⟨⟨t + 1, by omega, by go_num, rfl⟩, by simp [intOf]; omega⟩
    · obtain rfl : t = q := by omega
      go_wp2_with fail
      go_ret
      exact ⟨by rw [HQ.out]; rfl, HBl.out⟩
end Go.Proofs.YtglglknhifjbaaaGreatDoor.Sp
namespace Go.Proofs.YtglglknhifjbaaaGreatDoor.Sp
open Go.RowKit Go.Proofs.YtglglknhifjbaaaGreatDoorW.PrintWords Go.Proofs.YtglglknhifjbaaaGreatDoorW.PrintLast Go.Proofs.YtglglknhifjbaaaGreatDoorW.PrintMore
set_option linter.unusedVariables false
set_option linter.unusedSimpArgs false
structure IsB (k : List Int) : Prop where
  b : ∀ x ∈ k, 0 ≤ x ∧ x < 256
theorem natsOf_lt {k : List Int} (h : IsB k) : ∀ y ∈ natsOf k, y < 256 := fun y hy => by
  obtain ⟨x, hx, rfl⟩ := List.mem_map.1 hy
  have := h.b x hx
  omega
theorem intsOf_nats {k : List Int} (h : IsB k) : intsOf (natsOf k) = k := by
  unfold intsOf natsOf
  rw [List.map_map]
  conv => rhs; rw [← List.map_id k]
  refine List.map_congr_left (fun x hx => ?_)
  have := h.b x hx
  show Int.ofNat x.toNat = x
  simp; omega
theorem hashW (w : World) (seed : Nat) (hs : seed < 18446744073709551616) (A : Option Addr) (k : List Int) (c : Nat) (hk : IsB k) (hA : SrcB w A (natsOf k)) (hl : k.length ≤ 4096) :
    Calls Tryz.prog 148 #[.int .u64 (seed : Int), .slice A k.length c] w fun e w' => e = .returned (.int .u64 (hashN seed k : Int)) ∧ Below w.heap.size w w' := by
  have h := hash_walk w seed hs A (natsOf k) c (natsOf_lt hk) hA (by rw [natsOf_len]; exact hl)
  rw [natsOf_len, packN_set k hk.b] at h
  have e : foldH seed (packN k) k.length (wordsN k.length) = hashN seed k := by
    unfold foldH hashN W64
    rw [List.take_of_length_le (by rw [(packN_spec k.length k (Nat.le_refl _) hk.b).1]; exact Nat.le_refl _)]
  rw [e] at h
  exact h
end Go.Proofs.YtglglknhifjbaaaGreatDoor.Sp
namespace Go.Proofs.YtglglknhifjbaaaGreatDoor.Sp
set_option linter.unusedVariables false
set_option linter.unusedSimpArgs false
structure Ent where
  id : Nat
  kid : Nat
  key : List Int
  ref : Nat
  a : Nat
  b : Nat
deriving DecidableEq
def Ent.hash (s : Nat) (e : Ent) : Nat := hashN s e.key
def bkt (k h : Nat) : Nat := h / 2 ^ (64 - k)
structure Tab where
  seed : Nat
  nid : Nat
  nk : Nat
  nb : List (List Ent)
  oid : Nat
  ok : Nat
  ob : List (List Ent)
  moved : Nat
def headId : List Ent → Nat
  | [] => 0
  | e :: _ => e.id
def headOr : List Ent → Nat → Nat
  | [], n => n
  | e :: _, _ => e.id
def entN (s : Nat) (e : Ent) (next : Nat) : Node := ⟨6, [next, e.kid, e.ref], [e.hash s, e.a, e.b]⟩
def chainL (s : Nat) : List Ent → Plan
  | [] => []
  | e :: c => (e.id, .node (entN s e (headId c))) :: (e.kid, .blob e.key) :: chainL s c
def chainTo (s : Nat) : List Ent → Nat → Plan
  | [], _ => []
  | e :: c, n => (e.id, .node (entN s e (headOr c n))) :: (e.kid, .blob e.key) :: chainTo s c n
theorem headOr_app (c1 c2 : List Ent) : headId (c1 ++ c2) = headOr c1 (headId c2) := by cases c1 <;> rfl
theorem chain_app (s : Nat) : ∀ (c1 c2 : List Ent), chainL s (c1 ++ c2) = chainTo s c1 (headId c2) ++ chainL s c2
  | [], c2 => rfl
  | e :: c1, c2 => by
    show (e.id, Item.node (entN s e (headId (c1 ++ c2)))) :: (e.kid, Item.blob e.key) :: chainL s (c1 ++ c2) = _
    rw [chain_app s c1 c2, headOr_app]; rfl
def Tab.ents (T : Tab) : List Ent := T.nb.flatten ++ T.ob.flatten
def Tab.tabN (T : Tab) (len : Nat) : Node := ⟨4, [T.nid, T.oid], [T.seed, len, T.moved]⟩
def arrN (refs : List Nat) : Node := ⟨5, refs, []⟩
def oldL (oid : Nat) (orefs : List Nat) : Plan := if oid = 0 then [] else [(oid, .node (arrN orefs))]
def Tab.plan (t : Nat) (T : Tab) : Plan := (t, .node (T.tabN T.ents.length)) :: (T.nid, .node (arrN (T.nb.map headId))) :: (oldL T.oid (T.ob.map headId) ++ (T.nb.flatMap (chainL T.seed) ++ T.ob.flatMap (chainL T.seed)))
theorem flat_perm {α β : Type} (f : List α → List β) (h0 : f [] = []) : ∀ (l : List (List α)) (i : Nat) (c : List α), i < l.length → ((l.set i c).flatMap f).Perm (f c ++ (l.set i []).flatMap f)
  | [], i, c, h => by simp at h
  | a :: l, 0, c, h => by simp [h0]
  | a :: l, i + 1, c, h => by
    have ih := flat_perm f h0 l i c (by simpa using h)
    simp only [List.set_cons_succ, List.flatMap_cons]
    refine (ih.append_left (f a)).trans ?_
    rw [← List.append_assoc, ← List.append_assoc]
    exact List.perm_append_comm.append_right _
theorem set_get_self {α : Type} (l : List α) (i : Nat) (c : α) (h : l[i]? = some c) : l.set i c = l := by
  obtain ⟨hi, e⟩ := List.getElem?_eq_some_iff.1 h
  rw [← e, List.set_getElem_self]
theorem flat_open {α β : Type} (f : List α → List β) (h0 : f [] = []) (l : List (List α)) (i : Nat) (c : List α) (h : l[i]? = some c) : (l.flatMap f).Perm (f c ++ (l.set i []).flatMap f) := by
  have := flat_perm f h0 l i c (List.getElem?_eq_some_iff.1 h).1
  rwa [set_get_self l i c h] at this
theorem flatten_perm {α : Type} (l : List (List α)) (i : Nat) (c : List α) (h : i < l.length) : (l.set i c).flatten.Perm (c ++ (l.set i []).flatten) := by
  have := flat_perm (f := fun x : List α => x) rfl l i c h
  simpa [List.flatMap_id'] using this
theorem flatten_open {α : Type} (l : List (List α)) (i : Nat) (c : List α) (h : l[i]? = some c) : l.flatten.Perm (c ++ (l.set i []).flatten) := by
  have := flatten_perm l i c (List.getElem?_eq_some_iff.1 h).1
  rwa [set_get_self l i c h] at this
def Tab.inOld (T : Tab) (h : Nat) : Bool := T.oid != 0 && decide (T.moved ≤ bkt T.ok h)
def Tab.slot (T : Tab) (h : Nat) : Nat := if T.inOld h then bkt T.ok h else bkt T.nk h
def Tab.arr (T : Tab) (h : Nat) : List (List Ent) := if T.inOld h then T.ob else T.nb
def Tab.aid (T : Tab) (h : Nat) : Nat := if T.inOld h then T.oid else T.nid
def Tab.cur (T : Tab) (h : Nat) : List Ent := (T.arr h).getD (T.slot h) []
def Tab.lay (T : Tab) (h : Nat) (c : List Ent) : Tab := if T.inOld h then { T with ob := T.ob.set (T.slot h) c } else { T with nb := T.nb.set (T.slot h) c }
structure Ent.Ok (e : Ent) : Prop where
  klen : e.key.length ≤ 4096
  kb : ∀ x ∈ e.key, 0 ≤ x ∧ x < 256
  ha : e.a < 18446744073709551616
  hb : e.b < 18446744073709551616
structure Tab.Ok (T : Tab) : Prop where
  seed : T.seed < 18446744073709551616
  nlen : T.nb.length = 2 ^ T.nk
  nk2 : 2 ≤ T.nk ∧ T.nk ≤ 20
  olen : T.oid ≠ 0 → T.ob.length = 2 ^ T.ok ∧ 2 ≤ T.ok ∧ T.ok ≤ 20
  onone : T.oid = 0 → T.ob = [] ∧ T.moved = 0
  mv : T.moved ≤ T.ob.length
  empt : ∀ i, i < T.moved → T.ob[i]? = some []
  nbk : ∀ i c, T.nb[i]? = some c → ∀ e ∈ c, bkt T.nk (e.hash T.seed) = i
  obk : ∀ i c, T.ob[i]? = some c → ∀ e ∈ c, bkt T.ok (e.hash T.seed) = i
  nmv : T.oid ≠ 0 → ∀ e ∈ T.nb.flatten, bkt T.ok (e.hash T.seed) < T.moved
  ent : ∀ e ∈ T.ents, e.Ok
  keys : (T.ents.map Ent.key).Nodup
theorem bkt_lt (k h : Nat) (hk : k ≤ 64) (hh : h < 18446744073709551616) : bkt k h < 2 ^ k := by
  unfold bkt
  rw [Nat.div_lt_iff_lt_mul (Nat.two_pow_pos _), ← Nat.pow_add, show k + (64 - k) = 64 by omega]
  exact hh
theorem mem_getD {α : Type} {l : List (List α)} {i : Nat} {x : α} (h : x ∈ l.getD i []) : x ∈ l.flatten := by
  rw [List.getD_eq_getElem?_getD] at h
  cases e : l[i]? with
  | none => rw [e] at h; simp at h
  | some c => rw [e] at h; exact List.mem_flatten.2 ⟨c, List.mem_of_getElem? e, h⟩
theorem mem_flat {α : Type} {l : List (List α)} {x : α} (h : x ∈ l.flatten) : ∃ (i : Nat) (c : List α), l[i]? = some c ∧ x ∈ c := by
  obtain ⟨c, hc, hx⟩ := List.mem_flatten.1 h
  obtain ⟨i, hi, e⟩ := List.mem_iff_getElem.1 hc
  exact ⟨i, c, by rw [List.getElem?_eq_getElem hi, e], hx⟩
section
variable {T : Tab}
theorem Tab.Ok.where_ (h : T.Ok) (e : Ent) (he : e ∈ T.ents) : e ∈ T.cur (e.hash T.seed) := by
  unfold Tab.cur Tab.arr Tab.slot
  rcases List.mem_append.1 he with he | he
  · obtain ⟨i, c, hi, hx⟩ := mem_flat he
    have hb := h.nbk i c hi e hx
    have hno : T.inOld (e.hash T.seed) = false := by
      unfold Tab.inOld
      by_cases ho : T.oid = 0
      · simp [ho]
      · have := h.nmv ho e he
        have : ¬ T.moved ≤ bkt T.ok (e.hash T.seed) := by omega
        simp [this]
    rw [hno]
    simp only [Bool.false_eq_true, if_false]
    rw [hb, List.getD_eq_getElem?_getD, hi]; exact hx
  · obtain ⟨i, c, hi, hx⟩ := mem_flat he
    have hb := h.obk i c hi e hx
    have ho : T.oid ≠ 0 := fun e0 => by have := (h.onone e0).1; rw [this] at he; simp at he
    have hm : T.moved ≤ i := by
      rcases Nat.lt_or_ge i T.moved with hlt | hge
      · have := h.empt i hlt
        rw [hi] at this
        injection this with this
        rw [this] at hx; simp at hx
      · exact hge
    have hyes : T.inOld (e.hash T.seed) = true := by
      unfold Tab.inOld
      rw [hb]; simp [ho, hm]
    rw [hyes]
    simp only [if_true]
    rw [hb, List.getD_eq_getElem?_getD, hi]; exact hx
theorem Tab.cur_sub (T : Tab) (h : Nat) {e : Ent} (he : e ∈ T.cur h) : e ∈ T.ents := by
  unfold Tab.cur Tab.arr at he
  unfold Tab.ents
  split at he
  · exact List.mem_append_right _ (mem_getD he)
  · exact List.mem_append_left _ (mem_getD he)
theorem Tab.Ok.slot_lt (h : T.Ok) (x : Nat) (hx : x < 18446744073709551616) : (T.arr x)[T.slot x]? = some (T.cur x) := by
  have key : T.slot x < (T.arr x).length := by
    unfold Tab.slot Tab.arr
    by_cases hi : T.inOld x = true
    · rw [hi]
      simp only [if_true]
      have ho : T.oid ≠ 0 := by
        intro e; unfold Tab.inOld at hi; simp [e] at hi
      obtain ⟨h1, h2, h3⟩ := h.olen ho
      rw [h1]; exact bkt_lt _ _ (by omega) hx
    · rw [Bool.not_eq_true] at hi
      rw [hi]
      simp only [Bool.false_eq_true, if_false]
      rw [h.nlen]; exact bkt_lt _ _ (by have := h.nk2; omega) hx
  unfold Tab.cur
  rw [List.getD_eq_getElem?_getD, List.getElem?_eq_getElem key]; rfl
def Tab.hole (T : Tab) (h : Nat) : Plan := ((T.lay h []).nb.flatMap (chainL T.seed) ++ (T.lay h []).ob.flatMap (chainL T.seed))
theorem Tab.lay_seed (T : Tab) (h : Nat) (c : List Ent) : (T.lay h c).seed = T.seed := by unfold Tab.lay; split <;> rfl
theorem Tab.Ok.chains (hT : T.Ok) (h : Nat) (hh : h < 18446744073709551616) (c : List Ent) :
    ((T.lay h c).nb.flatMap (chainL T.seed) ++ (T.lay h c).ob.flatMap (chainL T.seed)).Perm (chainL T.seed c ++ T.hole h) := by
  have hs := (List.getElem?_eq_some_iff.1 (hT.slot_lt h hh)).1
  unfold Tab.hole Tab.lay
  by_cases hi : T.inOld h = true
  · unfold Tab.arr at hs
    rw [hi] at hs ⊢
    simp only [if_true] at hs ⊢
    have := flat_perm (chainL T.seed) rfl T.ob (T.slot h) c hs
    refine (this.append_left _).trans ?_
    rw [← List.append_assoc, ← List.append_assoc]
    exact List.perm_append_comm.append_right _
  · rw [Bool.not_eq_true] at hi
    unfold Tab.arr at hs
    rw [hi] at hs ⊢
    simp only [Bool.false_eq_true, if_false] at hs ⊢
    have := flat_perm (chainL T.seed) rfl T.nb (T.slot h) c hs
    rw [← List.append_assoc]
    exact this.append_right _
theorem Tab.Ok.lay_cur (hT : T.Ok) (h : Nat) (hh : h < 18446744073709551616) : T.lay h (T.cur h) = T := by
  have hs := hT.slot_lt h hh
  unfold Tab.lay
  unfold Tab.arr at hs
  by_cases hi : T.inOld h = true
  · rw [hi] at hs ⊢
    simp only [if_true] at hs ⊢
    rw [set_get_self _ _ _ hs]
  · rw [Bool.not_eq_true] at hi
    rw [hi] at hs ⊢
    simp only [Bool.false_eq_true, if_false] at hs ⊢
    rw [set_get_self _ _ _ hs]
theorem Tab.Ok.ents_lay (hT : T.Ok) (h : Nat) (hh : h < 18446744073709551616) (c : List Ent) : (T.lay h c).ents.Perm (c ++ (T.lay h []).ents) := by
  have hs := (List.getElem?_eq_some_iff.1 (hT.slot_lt h hh)).1
  unfold Tab.ents Tab.lay
  by_cases hi : T.inOld h = true
  · unfold Tab.arr at hs
    rw [hi] at hs ⊢
    simp only [if_true] at hs ⊢
    refine ((flatten_perm T.ob (T.slot h) c hs).append_left _).trans ?_
    rw [← List.append_assoc, ← List.append_assoc]
    exact List.perm_append_comm.append_right _
  · rw [Bool.not_eq_true] at hi
    unfold Tab.arr at hs
    rw [hi] at hs ⊢
    simp only [Bool.false_eq_true, if_false] at hs ⊢
    rw [← List.append_assoc]
    exact (flatten_perm T.nb (T.slot h) c hs).append_right _
end
end Go.Proofs.YtglglknhifjbaaaGreatDoor.Sp
