/- Package arena, walked: what each call does to an arena's objects. -/
import Derived.Test.YthdahjmkkdljbaaBase
namespace Go.Proofs.Ythdahjmkkdljbaa.Sp
open Go.RowKit Go.Proofs.YthdahjmkkdljbaaW.PrintWords Go.Proofs.YthdahjmkkdljbaaW.PrintLast Go.Proofs.YthdahjmkkdljbaaW.PrintMore
set_option linter.unusedVariables false
set_option linter.unusedSimpArgs false
theorem bit_is (b r : Nat) (hb : b < 18446744073709551616) (hr : r < 64) : (bits .and .u64 ((b : Int) / 2 ^ r) 1 == 1) = b.testBit r := by
  have e : (b : Int) / 2 ^ r = ((b / 2 ^ r : Nat) : Int) := by simp
  rw [e]
  have h2 : b / 2 ^ r < 2 ^ 64 := Nat.lt_of_le_of_lt (Nat.div_le_self _ _) (by omega)
  have := (bits_nat .u64 64 (by decide) (fun n h0 h1 => by rw [IntKind.wrap_u64]; omega) (b / 2 ^ r) 1 h2 (by decide)).1
  rw [show ((1 : Nat) : Int) = 1 from rfl] at this
  rw [this, Nat.and_one_is_mod, Nat.testBit_eq_decide_div_mod_eq]
  by_cases h : b / 2 ^ r % 2 = 1
  · rw [h, decide_eq_true rfl]; decide
  · have h0 : b / 2 ^ r % 2 = 0 := by omega
    rw [h0]; decide
set_option maxHeartbeats 2000000 in
set_option maxRecDepth 100000 in
theorem begins_walk (w : World) (own : Own) (a p size : Nat) (l : List AO) (H : IsAr w own a p size l) (at_ : Int) (h0 : -9223372036854775808 ≤ at_) (h1 : at_ ≤ 9223372036854775807) (b : Bool) (hb : b = true ↔ 0 ≤ at_ ∧ Starts l at_.toNat) :
    Calls Try.prog 49 #[.pointer (some ⟨p, 0, none⟩), .int .i64 at_] w fun e w' => e = .returned (.bool b) ∧ w = w' := by
  have HB := Lib.hid hb; clear hb
  obtain ⟨gw, gf, cw, cf, bs, hp, c0, c1, c2, f0, l1, l2, cW, cF, fW, fF, -, -, hbits, -, -, -⟩ := H.cells
  have HBi := Lib.hid hbits; clear hbits
  have hs2 := H.s2
  have hfit := H.fit
  have HH := Lib.hid H; clear H
  have HcW := Lib.hid cW; have HcF := Lib.hid cF; clear cW cF hp fW fF f0
  go_enter Try.func49, Try.ntmps49
  by_cases hlo : at_ ≤ 0
  · go_wp2_with fail
    go_ret
    refine ⟨?_, rfl⟩
    have : b = false := by
      cases hbb : b with
      | false => rfl
      | true => obtain ⟨h2, h3⟩ := HB.out.1 hbb; have := starts_bd h3; omega
    rw [this]; rfl
  · obtain ⟨n, rfl⟩ := Int.eq_ofNat_of_zero_le (show 0 ≤ at_ by omega)
    by_cases hhi : usedOf l ≤ n
    · go_wp2_with fail
      go_ret
      refine ⟨?_, rfl⟩
      have : b = false := by
        cases hbb : b with
        | false => rfl
        | true => obtain ⟨h2, h3⟩ := HB.out.1 hbb; have := starts_bd h3; omega
      rw [this]; rfl
    · have hq : n / 64 < bs.length := by have := HBi.out.lo; omega
      have hc := HcF.out (n / 64) hq
      unfold wv at hc
      have hbl := HBi.out.lt _ (List.getElem_mem hq)
      have hwr : IntKind.i64.wrap (8 * (n : Int)) = 8 * (n : Int) := Go.IntWalk.i64_in _ (by omega)
      have e := bit_is bs[n / 64] (n % 64) hbl (Nat.mod_lt _ (by decide))
      have hv : (bits .and .u64 ((bs[n / 64] : Int) / 2 ^ (n % 64)) 1 == 1) = b := by
        rw [e, Bool.eq_iff_iff, HB.out]
        have := HBi.out.bit n (by omega)
        rw [List.getD_eq_getElem?_getD, List.getElem?_eq_getElem hq] at this
        rw [show (bs[n / 64]).testBit (n % 64) = ((some bs[n / 64]).getD 0).testBit (n % 64) from rfl, this]
        simp
      have HV := Lib.hid hv; clear hv e
      go_wp2_with fail
      go_ret
      exact ⟨congrArg (fun b => Ending.returned (Value.bool b)) HV.out, rfl⟩
set_option maxHeartbeats 2000000 in
theorem used_walk (w : World) (own : Own) (a p size : Nat) (l : List AO) (H : IsAr w own a p size l) :
    Calls Try.prog 25 #[.pointer (some ⟨p, 0, none⟩)] w fun e w' => e = .returned (.int .i64 (usedOf l : Int)) ∧ w = w' := by
  obtain ⟨gw, gf, cw, cf, bs, -, c0, c1, c2, -, -⟩ := H.cells
  clear H
  go_enter Try.func25, Try.ntmps25
  go_wp2_with fail
  go_ret
  exact ⟨rfl, rfl⟩
set_option maxHeartbeats 2000000 in
theorem size_walk (w : World) (own : Own) (a p size : Nat) (l : List AO) (H : IsAr w own a p size l) :
    Calls Try.prog 24 #[.pointer (some ⟨p, 0, none⟩)] w fun e w' => e = .returned (.int .i64 (size : Int)) ∧ w = w' := by
  obtain ⟨gw, gf, cw, cf, bs, -, c0, c1, c2, -, -⟩ := H.cells
  clear H
  go_enter Try.func24, Try.ntmps24
  go_wp2_with fail
  go_ret
  exact ⟨rfl, rfl⟩
/-- The head word of an object of that kind, with so many refs and raws. -/
def headW (k r x : Nat) : Nat := k + 256 * r + 4294967296 * x
structure Shape (k r x : Nat) : Prop where
  k1 : 1 ≤ k
  k2 : k ≤ 255
  r2 : r ≤ 1048576
  x2 : x ≤ 1048576
theorem Shape.lt {k r x : Nat} (h : Shape k r x) : headW k r x < 4611686018427387904 := by
  have := h.k2; have := h.r2; have := h.x2; unfold headW; omega
theorem and255 (n : Nat) (hn : n < 18446744073709551616) : bits .and .u64 (n : Int) 255 = ((n % 256 : Nat) : Int) := by
  have := (bits_nat .u64 64 (by decide) (fun n h0 h1 => by rw [IntKind.wrap_u64]; omega) n 255 hn (by decide)).1
  rw [show ((255 : Nat) : Int) = 255 from rfl] at this
  rw [this, show (255 : Nat) = 2 ^ 8 - 1 from rfl, Nat.and_two_pow_sub_one_eq_mod]
theorem and24 (n : Nat) (hn : n < 18446744073709551616) : bits .and .u64 (n : Int) 16777215 = ((n % 16777216 : Nat) : Int) := by
  have := (bits_nat .u64 64 (by decide) (fun n h0 h1 => by rw [IntKind.wrap_u64]; omega) n 16777215 hn (by decide)).1
  rw [show ((16777215 : Nat) : Int) = 16777215 from rfl] at this
  rw [this, show (16777215 : Nat) = 2 ^ 24 - 1 from rfl, Nat.and_two_pow_sub_one_eq_mod]
set_option maxHeartbeats 2000000 in
theorem split_walk (k r x : Nat) (h : Shape k r x) (w : World) :
    Calls Try.prog 50 #[.int .u64 (headW k r x : Int)] w fun e w' => e = .returned (.tuple #[.int .i64 (k : Int), .int .i64 (r : Int), .int .i64 (x : Int), .int .i64 0]) ∧ w = w' := by
  have hl := h.lt
  obtain ⟨h1, h2, h3, h4⟩ := h
  obtain ⟨n, hn⟩ : ∃ n, headW k r x = n := ⟨_, rfl⟩
  rw [hn] at hl ⊢
  unfold headW at hn
  have e1 : bits .and .u64 (n : Int) 255 = (k : Int) := by rw [and255 n (by omega)]; omega
  have e2 : bits .and .u64 ((n : Int) / 256) 16777215 = (r : Int) := by rw [show (n : Int) / 256 = ((n / 256 : Nat) : Int) by omega, and24 _ (by omega)]; omega
  have e3 : bits .and .u64 ((n : Int) / 4294967296) 16777215 = (x : Int) := by rw [show (n : Int) / 4294967296 = ((n / 4294967296 : Nat) : Int) by omega, and24 _ (by omega)]; omega
  have e4 : ((n : Int) / 72057594037927936 == 0) = true := by rw [beq_iff_eq]; omega
  have e4' : ((n : Int) / 72057594037927936 != 0) = false := by rw [bne_eq_false_iff_eq]; omega
  have e5 : ((k : Int) == 0) = false := by rw [beq_eq_false_iff_ne]; omega
  clear hn
  go_enter Try.func50, Try.ntmps50
  go_wp2_with fail
  exact bodyPost_ret (results_tmp4 rfl _ _ _) rfl ⟨rfl, rfl⟩
set_option maxHeartbeats 2000000 in
theorem head_walk (k r x : Nat) (h : Shape k r x) (w : World) :
    Calls Try.prog 45 #[.int .i64 (k : Int), .int .i64 (r : Int), .int .i64 (x : Int)] w fun e w' => e = .returned (.tuple #[.int .u64 (headW k r x : Int), .int .i64 0]) ∧ w = w' := by
  obtain ⟨h1, h2, h3, h4⟩ := h
  have he : bits .or .u64 (bits .or .u64 (k : Int) ((r : Int) * 256)) ((x : Int) * 4294967296) = (headW k r x : Int) := by
    have wr := fun (n : Int) (h0 : 0 ≤ n) (h1 : n < 2 ^ 64) => show IntKind.u64.wrap n = n by rw [IntKind.wrap_u64]; omega
    rw [bits_join_low .u64 64 (by decide) wr 8 (k : Int) ((r : Int) * 256) (by omega) (by omega) (by omega) (by omega) (by omega) (by omega), bits_join_low .u64 64 (by decide) wr 32 ((k : Int) + (r : Int) * 256) ((x : Int) * 4294967296) (by omega) (by omega) (by omega) (by omega) (by omega) (by omega)]
    unfold headW; omega
  have HE := Lib.hid he; clear he
  go_enter Try.func45, Try.ntmps45
  go_wp2_with fail
  go_ret2
  exact ⟨congrArg (fun n : Int => Ending.returned (.tuple #[.int .u64 n, .int .i64 0])) HE.out, rfl⟩
set_option maxHeartbeats 2000000 in
theorem object_walk (w : World) (own : Own) (a p size : Nat) (l : List AO) (H : IsAr w own a p size l) (i : Nat) (hi : i < l.length) (k r x : Nat) (hs : Shape k r x) (hh : l[i].1 = headW k r x) (at_ : Int) (hat : at_ = (posOf l i : Int)) :
    Calls Try.prog 47 #[.pointer (some ⟨p, 0, none⟩), .int .i64 at_] w fun e w' => e = .returned (.tuple #[.int .i64 (k : Int), .int .i64 (r : Int), .int .i64 (x : Int), .int .i64 0]) ∧ w = w' := by
  have hpos := pos_used l i hi
  have hp1 := pos_pos l i
  have hfit := H.fit
  have hs2 := H.s2
  obtain ⟨gw, gf, cw, cf, bs, -, c0, c1, c2, -, l1, l2, cW, -, -, -, -, -, -, -, -, -⟩ := H.cells
  have hlen := block_len l
  have hos : 1 ≤ osize l[i] := by unfold osize; omega
  have hc := cW (posOf l i) (by omega)
  have e := head_at l i hi
  rw [List.getElem?_eq_getElem (by omega)] at e
  rw [Option.some.inj e, hh] at hc
  unfold wv at hc
  have hst : Starts l (posOf l i) := ⟨i, hi, rfl⟩
  have hl := hs.lt
  have hgone : bits .and .u64 (headW k r x : Int) 9223372036854775808 = 0 := by
    have := (bits_nat .u64 64 (by decide) (fun n h0 h1 => by rw [IntKind.wrap_u64]; omega) (headW k r x) 9223372036854775808 (by omega) (by decide)).1
    rw [show ((9223372036854775808 : Nat) : Int) = 9223372036854775808 from rfl] at this
    rw [this]
    have : headW k r x &&& 9223372036854775808 = 0 := by
      apply Nat.eq_of_testBit_eq
      intro j
      rw [Nat.testBit_and, Nat.zero_testBit, show (9223372036854775808 : Nat) = 2 ^ 63 from rfl, Nat.testBit_two_pow]
      by_cases e : 63 = j
      · subst e
        rw [Nat.testBit_lt_two_pow (by omega), Bool.false_and]
      · rw [decide_eq_false e, Bool.and_false]
    rw [this]; rfl
  obtain ⟨q, hq⟩ : ∃ q, posOf l i = q := ⟨_, rfl⟩
  obtain ⟨n, hn⟩ : ∃ n, headW k r x = n := ⟨_, rfl⟩
  rw [hq] at hpos hp1 hc hat hst
  rw [hn] at hc hl hgone
  have HN := Lib.hid hn; have HST := Lib.hid hst; have HS := Lib.hid hs; have HH := Lib.hid H
  clear hn hst hs H cW hlen e hq hh
  subst hat
  go_enter Try.func47, Try.ntmps47
  go_wp2_with fail
  refine (begins_walk w own a p size l HH.out (q : Int) (by omega) (by omega) true ⟨fun _ => ⟨by omega, by simpa using HST.out⟩, fun _ => rfl⟩).mono ?_
  rintro e w' ⟨rfl, rfl⟩
  go_wp2_with fail
  rw [← HN.out]
  refine (split_walk k r x HS.out w).mono ?_
  rintro e w' ⟨rfl, rfl⟩
  go_wp2_with fail
  exact bodyPost_ret (results_tmp4 rfl _ _ _) rfl ⟨rfl, rfl⟩
set_option maxHeartbeats 2000000 in
theorem object_none (w : World) (own : Own) (a p size : Nat) (l : List AO) (H : IsAr w own a p size l) (at_ : Int) (h0 : -9223372036854775808 ≤ at_) (h1 : at_ ≤ 9223372036854775807) (hat : ¬ (0 ≤ at_ ∧ Starts l at_.toNat)) :
    Calls Try.prog 47 #[.pointer (some ⟨p, 0, none⟩), .int .i64 at_] w fun e w' => e = .returned (.tuple #[.int .i64 0, .int .i64 0, .int .i64 0, .int .i64 23]) ∧ w = w' := by
  have HH := Lib.hid H; have HA := Lib.hid hat
  clear H hat
  go_enter Try.func47, Try.ntmps47
  go_wp2_with fail
  refine (begins_walk w own a p size l HH.out at_ h0 h1 false ⟨fun h => by (cases h), fun h => absurd h HA.out⟩).mono ?_
  rintro e w' ⟨rfl, rfl⟩
  go_wp2_with fail
  exact bodyPost_ret (results_tmp4 rfl _ _ _) rfl ⟨rfl, rfl⟩
/-- What fields answers: a cut of the arena's words. -/
def FldPost (w : World) (own : Own) (a p : Nat) (l : List AO) (i r x : Nat) (e : Ending) (w' : World) : Prop :=
  ∃ A, e = .returned (.tuple #[.slice A (r + x) (r + x), .int .i64 (r : Int), .int .i64 0]) ∧ w = w' ∧
    (0 < r + x → ∃ gw cw, A = some ⟨gw, posOf l i + 1, none⟩ ∧ own gw = 3 * a + 11 ∧ w.cell? ⟨p, 1, none⟩ = some (.slice (some ⟨gw, 0, none⟩) (usedOf l) cw))
set_option maxHeartbeats 2000000 in
/-- The fields of object i, as a cut of the arena's words; the world is as it was. -/
theorem fields_walk (w : World) (own : Own) (a p size : Nat) (l : List AO) (H : IsAr w own a p size l) (i : Nat) (hi : i < l.length) (k r x : Nat) (hs : Shape k r x) (hh : l[i].1 = headW k r x) (hf : l[i].2.length = r + x) (at_ : Int) (hat : at_ = (posOf l i : Int)) :
    Calls Try.prog 52 #[.pointer (some ⟨p, 0, none⟩), .int .i64 at_] w (FldPost w own a p l i r x) := by
  have hpos := pos_used l i hi
  have hp1 := pos_pos l i
  have hfit := H.fit
  have hs2 := H.s2
  obtain ⟨gw, gf, cw, cf, bs, -, c0, c1, c2, -, l1, l2, -, -, -, -, -, -, -, -, o2, -⟩ := H.cells
  have hos : osize l[i] = 1 + (r + x) := by unfold osize; omega
  rw [hos] at hpos
  have C1 := Lib.hid c1; have O2 := Lib.hid o2
  obtain ⟨q, hq⟩ : ∃ q, posOf l i = q := ⟨_, rfl⟩
  have HS := Lib.hid hs; have HH := Lib.hid H; have HHd := Lib.hid hh; have HQ := Lib.hid hq
  rw [hq] at hpos hp1 hat
  obtain ⟨_, _, hr2, hx2⟩ := hs
  clear hh H o2 hos hf hq
  subst hat
  go_enter Try.func52, Try.ntmps52
  go_wp2_with fail
  refine (object_walk w own a p size l HH.out i hi k r x HS.out HHd.out (q : Int) (by rw [HQ.out])).mono ?_
  rintro e w' ⟨rfl, rfl⟩
  by_cases h0 : r + x = 0
  · obtain rfl : r = 0 := by omega
    obtain rfl : x = 0 := by omega
    go_wp2_with fail
    all_goals
      go_ret3
      first
      | exact ⟨_, rfl, rfl, fun h => absurd h (by omega)⟩
      | (refine ⟨some ⟨gw, q + 1, none⟩, ?_, rfl, fun h => absurd h (by omega)⟩; simp)
  · go_wp2_with fail
    all_goals
      go_ret3
      refine ⟨some ⟨gw, q + 1, none⟩, ?_, rfl, fun _ => ⟨gw, cw, by rw [HQ.out], O2.out, C1.out⟩⟩
      have e1 : q + 1 + r + x - (q + 1) = r + x := by omega
      exact congrArg (fun n => Ending.returned (.tuple #[.slice (some ⟨gw, q + 1, none⟩) n n, .int .i64 (r : Int), .int .i64 0])) e1
/-- What has been made is not nothing's. -/
def NewPost (w : World) (own : Own) (a size : Nat) (e : Ending) (w' : World) : Prop :=
  ∃ p own', e = .returned (.tuple #[.pointer (some ⟨p, 0, none⟩), .int .i64 0]) ∧ w.heap.size ≤ p ∧ Below w.heap.size w w' ∧ Ow own own' w ∧ IsAr w' own' a p size [] ∧ (∀ b, w'.heap.size ≤ b → own' b = 0)
theorem row_new {w : World} {g : Nat} (h : w.heap[g]? = some (.cells #[.int .u64 0] 22)) : Row w g 1 22 [wv 0] :=
  Row.close h (Nat.le_refl _) (by decide) rfl rfl
theorem ar_new (w : World) (own : Own) (a size : Nat) (h1 : 1 ≤ size) (h2 : size ≤ 1048576) (ho : ∀ b, w.heap.size ≤ b → own b = 0) (g1 g2 : Nat) (hg : g1 = w.heap.size ∧ g2 = w.heap.size + 1 ∨ g1 = w.heap.size + 1 ∧ g2 = w.heap.size) :
    NewPost w own a size (.returned (.tuple #[.pointer (some ⟨w.heap.size + 1 + 1, 0, none⟩), .int .i64 0])) (((w.alloc (.cells #[.int .u64 0] 22)).alloc (.cells #[.int .u64 0] 22)).alloc (.cells #[.int .i64 (size : Int), .slice (some ⟨g1, 0, none⟩) 1 1, .slice (some ⟨g2, 0, none⟩) 1 1] 99)).drew := by
  obtain ⟨W, hW⟩ : ∃ W, (((w.alloc (.cells #[.int .u64 0] 22)).alloc (.cells #[.int .u64 0] 22)).alloc (.cells #[.int .i64 (size : Int), .slice (some ⟨g1, 0, none⟩) 1 1, .slice (some ⟨g2, 0, none⟩) 1 1] 99)).drew = W := ⟨_, rfl⟩
  have hsz : W.heap.size = w.heap.size + 3 := by rw [← hW, drew_heap]; simp
  have b0 : W.heap[w.heap.size]? = some (.cells #[.int .u64 0] 22) := by
    rw [← hW, drew_heap, alloc_at, if_neg (by simp; omega), alloc_at, if_neg (by simp), alloc_at, if_pos rfl]
  have b1 : W.heap[w.heap.size + 1]? = some (.cells #[.int .u64 0] 22) := by
    rw [← hW, drew_heap, alloc_at, if_neg (by simp), alloc_at, if_pos (by simp)]
  have b2 : W.heap[w.heap.size + 1 + 1]? = some (.cells #[.int .i64 (size : Int), .slice (some ⟨g1, 0, none⟩) 1 1, .slice (some ⟨g2, 0, none⟩) 1 1] 99) := by
    rw [← hW, drew_heap, alloc_at, if_pos (by simp)]
  have hbel : Below w.heap.size w W := by
    rw [← hW]
    exact ((((Below.refl _ w).alloc (Nat.le_refl _) _).alloc (by simp) _).alloc (by simp; omega) _).drew
  rw [hW]
  refine ⟨w.heap.size + 1 + 1, fun b => if b < w.heap.size then own b else if b = g1 then 3 * a + 11 else if b = g2 then 3 * a + 12 else if b = w.heap.size + 2 then 3 * a + 10 else 0, rfl, by omega, hbel, fun b hb => if_pos hb, ⟨⟨g1, g2, 1, 1, [0], b2, ?_, ?_, bits_new, ?_, ?_, ?_⟩, h1, h2, h1, fun o h => by cases h⟩, fun b hb => ?_⟩
  · rcases hg with ⟨rfl, rfl⟩ | ⟨rfl, rfl⟩
    · exact row_new b0
    · exact row_new b1
  · rcases hg with ⟨rfl, rfl⟩ | ⟨rfl, rfl⟩
    · exact row_new b1
    · exact row_new b0
  · rw [if_neg (by omega), if_neg (by omega), if_neg (by omega), if_pos rfl]
  · rw [if_neg (by omega), if_pos rfl]
  · rw [if_neg (by omega), if_neg (by omega), if_pos rfl]
  · dsimp only
    rw [if_neg (by omega), if_neg (by omega), if_neg (by omega), if_neg (by omega)]
set_option maxHeartbeats 2000000 in
set_option maxRecDepth 100000 in
theorem arNew_walk (w : World) (own : Own) (a size : Nat) (h1 : 1 ≤ size) (h2 : size ≤ 1048576) (ho : ∀ b, w.heap.size ≤ b → own b = 0) :
    Calls Try.prog 26 #[.int .i64 (size : Int)] w (NewPost w own a size) := by
  have HO := Lib.hid ho; clear ho
  have hmk : ∀ w : World, (Instr.makeSlice 97 (.int .i64 1) (.int .i64 1)).run Try.prog w = .ok (.slice (some ⟨w.heap.size, 0, none⟩) 1 1) (w.alloc (.cells #[.int .u64 0] 22)) := fun w => by
    have := run_make_row' (P := Try.prog) 97 22 (.int .u64 0) 8 Try.underlying97 (by kernel_rfl) rfl .i64 .i64 1 (by omega) (by omega) w
    rw [show madeCells #[Value.int .u64 0] 1 = #[.int .u64 0] by kernel_rfl] at this
    exact this
  go_enter Try.func26, Try.ntmps26
  go_wp2_with fail
  go_region
  all_goals
    go_wp2_with fail
    go_ret2
  · exact ar_new w own a size h1 h2 HO.out _ _ (.inl ⟨rfl, rfl⟩)
  · exact ar_new w own a size h1 h2 HO.out _ _ (.inr ⟨rfl, rfl⟩)
end Go.Proofs.Ythdahjmkkdljbaa.Sp
