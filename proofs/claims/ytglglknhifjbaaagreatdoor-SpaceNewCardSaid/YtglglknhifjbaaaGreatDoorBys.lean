import Derived.Test.YtglglknhifjbaaaGreatDoorHome
import Derived.WalkKit
namespace Go.Proofs.YtglglknhifjbaaaGreatDoor.Sp
open Go.RowKit Go.Proofs.YtglglknhifjbaaaGreatDoorW.PrintWords Go.Proofs.YtglglknhifjbaaaGreatDoorW.PrintLast Go.Proofs.YtglglknhifjbaaaGreatDoorW.PrintMore
set_option linter.unusedVariables false
set_option linter.unusedSimpArgs false
def HO (w : World) (own : Own) (hp : Nat) (G : Gr) (hs : List Nat) (bs : List (Option Nat)) : Prop := ∃ M x, HMem w own hp M x ∧ Rep G hs bs M
section
variable {w : World} {own : Own} {hp : Nat} {G : Gr} {hs : List Nat} {bs : List (Option Nat)} {i : Nat}
theorem HO.live_ne (H : HO w own hp G hs bs) : ∀ i, Live hs bs i → i ≠ 0 := fun i hi e => by
  obtain ⟨M, x, hM, R⟩ := H
  have := R.lo i hi
  omega
theorem pl_zero (L : Lay G hs bs) : plOf G hs bs 0 = 0 := by
  refine pl_none (fun h => ?_) (fun h => ?_)
  · have := L.lo 0 (.inl h); omega
  · have := L.lo 0 (.inr h); omega
theorem idx_lt {α : Type} [BEq α] [LawfulBEq α] {l : List α} {a : α} (h : a ∈ l) : l.idxOf a < l.length := List.idxOf_lt_length_iff.2 h
theorem pl_lt (H : HO w own hp G hs bs) (i : Nat) : plOf G hs bs i < 18446744073709551616 := by
  obtain ⟨M, x, hM, R⟩ := H
  by_cases h1 : i ∈ hs
  · obtain ⟨k, hk, e⟩ := home_small hM R h1
    have := pos_used M.half.objs k hk.lt
    have h2 := hM.half.fit
    have h3 := hM.half.s2
    have : 1 ≤ osize (M.half.objs[k]'hk.lt) := by unfold osize; omega
    omega
  · by_cases h2 : some i ∈ bs
    · unfold plOf
      rw [if_neg h1, if_pos h2]
      have := idx_lt h2
      have := R.blen
      omega
    · rw [pl_none h1 h2]; decide
theorem pl_pos (H : HO w own hp G hs bs) {i : Nat} (h : Live hs bs i) : 1 ≤ plOf G hs bs i := by
  obtain ⟨M, x, hM, R⟩ := H
  rcases h with h | h
  · obtain ⟨k, hk, e⟩ := home_small hM R h
    rw [e]; exact pos_pos _ _
  · obtain ⟨s, p, a, -, -, -, e⟩ := home_big hM R h
    omega
theorem good_walk (H : HO w own hp G hs bs) (h : i = 0 ∨ Live hs bs i) :
    Calls Tryz.prog 118 #[.pointer (some ⟨hp, 0, none⟩), .int .u64 (plOf G hs bs i : Int)] w fun e w' => e = .returned (.bool true) ∧ w = w' := by
  rcases h with rfl | h
  · obtain ⟨M, x, hM, R⟩ := H
    rw [pl_zero R.toLay]
    exact good_zero w hp
  · have hp1 := pl_pos H h
    obtain ⟨M, x, hM, R⟩ := H
    obtain ⟨p, a, A, k, -, hF⟩ := find_home hM R h
    have HF := Lib.hid hF
    obtain ⟨n, hn⟩ : ∃ n, plOf G hs bs i = n := ⟨_, rfl⟩
    rw [hn] at hp1 HF ⊢
    have e0 : ((n : Int) == 0) = false := by rw [beq_eq_false_iff_ne]; omega
    clear hF hM R hn h
    go_enter Tryz.func118, Tryz.ntmps118
    go_wp2_with fail
    refine HF.out.mono ?_
    rintro e w' ⟨rfl, rfl⟩
    go_wp2_with fail
    go_ret
    exact ⟨rfl, rfl⟩
def Node.at (n : Node) (pl : Nat → Nat) (j : Nat) : Nat := (n.refs.map pl ++ n.raws).getD j 0
set_option maxHeartbeats 4000000 in
set_option maxRecDepth 100000 in
theorem hGet_walk (H : HO w own hp G hs bs) (h : Live hs bs i) (j : Nat) (hj : j < (G.node i).refs.length + (G.node i).raws.length) :
    Calls Tryz.prog 158 #[.pointer (some ⟨hp, 0, none⟩), .int .u64 (plOf G hs bs i : Int), .int .i64 (j : Int)] w fun e w' => e = .returned (.tuple #[.int .u64 ((G.node i).at (plOf G hs bs) j : Int), .int .i64 0]) ∧ w = w' := by
  obtain ⟨M, x, hM, R⟩ := H
  obtain ⟨p, a, A, k, hh, hF⟩ := find_home hM R h
  have hsh := (R.ok i h).sh
  have hf : (A.objs[k]'hh.lt).2.length = (G.node i).refs.length + (G.node i).raws.length := by rw [hh.obj]; simp [encI]
  have hG := arGet_walk w own a p A.size A.objs hh.ar k hh.lt _ _ _ hsh (by rw [hh.obj]; rfl) hf (posOf A.objs k : Int) rfl j hj
  have hv : (A.objs[k]'hh.lt).2[j]'(by omega) = (G.node i).at (plOf G hs bs) j := by
    have e : (A.objs[k]'hh.lt).2 = (G.node i).refs.map (plOf G hs bs) ++ (G.node i).raws := by rw [hh.obj]; rfl
    unfold Node.at
    rw [List.getD_eq_getElem?_getD, ← e, List.getElem?_eq_getElem (by omega)]; rfl
  rw [hv] at hG
  obtain ⟨v, hvv⟩ : ∃ v, (G.node i).at (plOf G hs bs) j = v := ⟨_, rfl⟩
  obtain ⟨n, hn⟩ : ∃ n, plOf G hs bs i = n := ⟨_, rfl⟩
  obtain ⟨q, hq⟩ : ∃ q, posOf A.objs k = q := ⟨_, rfl⟩
  rw [hvv, hq] at hG
  rw [hn, hq] at hF
  rw [hn, hvv]
  have HF := Lib.hid hF; have HG := Lib.hid hG
  have nG : ∀ w : World, (nilAhead 441 89 (.pointer (some ⟨p, 0, none⟩)) "Get").run Tryz.prog w = .ok (some false) w := fun w => by kernel_rfl
  have mG : ∀ w : World, (method 441 89 (.pointer (some ⟨p, 0, none⟩)) "Get").run Tryz.prog w = .ok (280, .pointer (some ⟨p, 0, none⟩)) w := fun w => by kernel_rfl
  clear hF hG hM R hn hvv hq hv hh hsh hf h hj
  go_enter Tryz.func158, Tryz.ntmps158
  go_wp2_with fail
  refine HF.out.mono ?_
  rintro e w' ⟨rfl, rfl⟩
  go_wp2_with fail
  refine HG.out.mono ?_
  rintro e w' ⟨rfl, rfl⟩
  go_wp2_with fail
  go_ret2
  exact ⟨rfl, rfl⟩
def HPutPost (w : World) (own : Own) (hp : Nat) (G : Gr) (hs : List Nat) (bs : List (Option Nat)) (i : Nat) (n : Node) (e : Ending) (w' : World) : Prop :=
  e = .returned (.int .i64 0) ∧ ∃ own', HO w' own' hp (G.put i n) hs bs ∧ HStep w own w' own'
set_option maxHeartbeats 4000000 in
set_option maxRecDepth 100000 in
theorem hSet_walk (H : HO w own hp G hs bs) (h : Live hs bs i) (j v : Nat) (hj : j < (G.node i).refs.length + (G.node i).raws.length) (hv : v < 18446744073709551616) (n : Node) (hl : n.Like (G.node i)) (hok : n.Ok) (hr : ∀ t ∈ n.refs, t = 0 ∨ Live hs bs t)
    (he : n.refs.map (plOf G hs bs) ++ n.raws = ((G.node i).refs.map (plOf G hs bs) ++ (G.node i).raws).set j v)
    (hg : j < (G.node i).refs.length → ∃ t, (t = 0 ∨ Live hs bs t) ∧ plOf G hs bs t = v) :
    Calls Tryz.prog 70 #[.pointer (some ⟨hp, 0, none⟩), .int .u64 (plOf G hs bs i : Int), .int .i64 (j : Int), .int .u64 (v : Int)] w (HPutPost w own hp G hs bs i n) := by
  have hgood : j < (G.node i).refs.length → Calls Tryz.prog 118 #[.pointer (some ⟨hp, 0, none⟩), .int .u64 (v : Int)] w fun e w' => e = .returned (.bool true) ∧ w = w' := fun hlt => by
    obtain ⟨t, ht, rfl⟩ := hg hlt
    exact good_walk H ht
  obtain ⟨M, x, hM, R⟩ := H
  obtain ⟨p, a, A, k, hh, hF⟩ := find_home hM R h
  have hsh := (R.ok i h).sh
  have hr2 := hsh.r2; have hx2 := hsh.x2
  have hf : (A.objs[k]'hh.lt).2.length = (G.node i).refs.length + (G.node i).raws.length := by rw [hh.obj]; simp [encI]
  have hO := object_walk w own a p A.size A.objs hh.ar k hh.lt _ _ _ hsh (by rw [hh.obj]; rfl) (posOf A.objs k : Int) rfl
  have hS := arSet_walk w own a p A.size A.objs hh.ar k hh.lt _ _ _ hsh (by rw [hh.obj]; rfl) hf (posOf A.objs k : Int) rfl j v hj hv hM.top
  have fin : ∀ e w', SetPost w own a p A.size A.objs k j v e w' → e = .returned (.int .i64 0) ∧ Hid (HPutPost w own hp G hs bs i n e w') := fun e w' hq => by
    obtain ⟨h1, ⟨h2, h3⟩, h4⟩ := hq
    refine ⟨h1, h1, own, ?_, h4.h⟩
    obtain ⟨M', q1, q2⟩ := hh.put n w' own hl hok hr h4 (by
      have e1 : ((A.objs[k]'hh.lt).1, (A.objs[k]'hh.lt).2.set j v) = (n.head, n.refs.map (plOf G hs bs) ++ n.raws) := by
        rw [hh.obj, he, hl.head]; rfl
      rw [← e1]
      exact h3)
    exact ⟨M', x, q1, q2⟩
  obtain ⟨pi, hpi⟩ : ∃ pi, plOf G hs bs i = pi := ⟨_, rfl⟩
  obtain ⟨q, hq⟩ : ∃ q, posOf A.objs k = q := ⟨_, rfl⟩
  obtain ⟨r, hrr⟩ : ∃ r, (G.node i).refs.length = r := ⟨_, rfl⟩
  obtain ⟨y, hyy⟩ : ∃ y, (G.node i).raws.length = y := ⟨_, rfl⟩
  rw [hrr] at hO hr2 hj hgood
  rw [hyy] at hO hx2 hj
  rw [hq] at hO hS hF
  rw [hpi] at hF ⊢
  have HF := Lib.hid hF; have HG := Lib.hid hgood; have HO' := Lib.hid hO; have HS := Lib.hid hS; have HFin := Lib.hid fin
  have nA : ∀ w : World, (nilAhead 441 89 (.pointer (some ⟨p, 0, none⟩)) "Object").run Tryz.prog w = .ok (some false) w := fun w => by kernel_rfl
  have mA : ∀ w : World, (method 441 89 (.pointer (some ⟨p, 0, none⟩)) "Object").run Tryz.prog w = .ok (122, .pointer (some ⟨p, 0, none⟩)) w := fun w => by kernel_rfl
  have nS : ∀ w : World, (nilAhead 441 89 (.pointer (some ⟨p, 0, none⟩)) "Set").run Tryz.prog w = .ok (some false) w := fun w => by kernel_rfl
  have mS : ∀ w : World, (method 441 89 (.pointer (some ⟨p, 0, none⟩)) "Set").run Tryz.prog w = .ok (281, .pointer (some ⟨p, 0, none⟩)) w := fun w => by kernel_rfl
  clear hF hgood hO hS fin hM R hpi hq hrr hyy hh hsh hf h hl hok hr he hg
  have hd : decide ((r : Int) + (y : Int) ≤ (j : Int)) = false := decide_eq_false (by omega)
  go_enter Tryz.func70, Tryz.ntmps70
  go_wp2_with fail
  refine HF.out.mono ?_
  rintro e w' ⟨rfl, rfl⟩
  go_wp2_with fail
  refine HO'.out.mono ?_
  rintro e w' ⟨rfl, rfl⟩
  by_cases hc : j < r
  · have hd2 : decide (j < r) = true := decide_eq_true hc
    go_wp2_with fail
    refine (HG.out hc).mono ?_
    rintro e w' ⟨rfl, rfl⟩
    go_wp2_with fail
    refine HS.out.mono ?_
    intro e w' hq
    obtain ⟨rfl, hq⟩ := HFin.out e w' hq
    have HQ := Lib.hid hq
    clear hq
    go_wp2_with fail
    go_ret
    exact HQ.out.out
  · have hd2 : decide (j < r) = false := decide_eq_false hc
    go_wp2_with fail
    refine HS.out.mono ?_
    intro e w' hq
    obtain ⟨rfl, hq⟩ := HFin.out e w' hq
    have HQ := Lib.hid hq
    clear hq
    go_wp2_with fail
    go_ret
    exact HQ.out.out
end
end Go.Proofs.YtglglknhifjbaaaGreatDoor.Sp
namespace Go.Proofs.YtglglknhifjbaaaGreatDoor.Sp
open Go.RowKit Go.Proofs.YtglglknhifjbaaaGreatDoorW.PrintWords Go.Proofs.YtglglknhifjbaaaGreatDoorW.PrintLast Go.Proofs.YtglglknhifjbaaaGreatDoorW.PrintMore
set_option linter.unusedVariables false
set_option linter.unusedSimpArgs false
set_option maxHeartbeats 4000000 in
set_option maxRecDepth 100000 in
theorem span_walk (w : World) (own : Own) (a p size : Nat) (l : List AO) (H : IsAr w own a p size l) (i : Nat) (hi : i < l.length) (k r x : Nat) (hs : Shape k r x) (hh : l[i].1 = headW k r x) (hf : l[i].2.length = r + x) (at_ : Int) (hat : at_ = (posOf l i : Int)) (hx : 1 ≤ x) (f n : Nat) (hfn : f + n ≤ 8 * x) :
    Calls Tryz.prog 283 #[.pointer (some ⟨p, 0, none⟩), .int .i64 at_, .int .i64 (f : Int), .int .i64 (n : Int)] w fun e w' => (∃ gw cw, e = .returned (.tuple #[.slice (some ⟨gw, posOf l i + 1 + r, none⟩) x x, .int .i64 0]) ∧ w.cell? ⟨p, 1, none⟩ = some (.slice (some ⟨gw, 0, none⟩) (usedOf l) cw)) ∧ w = w' := by
  have HF := Lib.hid (fields_walk w own a p size l H i hi k r x hs hh hf at_ hat)
  have hx2 := hs.x2; have hr2 := hs.r2
  obtain ⟨q, hq⟩ : ∃ q, posOf l i = q := ⟨_, rfl⟩
  have hpos := pos_used l i hi
  have hfit := H.fit
  have hs2 := H.s2
  have hos : osize l[i] = 1 + (r + x) := by unfold osize; omega
  rw [hos, hq] at hpos
  have HQ := Lib.hid hq
  clear H hs hh hf hat hos
  rw [hq]
  go_enter Tryz.func283, Tryz.ntmps283
  go_wp2_with fail
  refine HF.out.mono ?_
  rintro e w' ⟨A, rfl, rfl, hA⟩
  obtain ⟨gw', cw', rfl, -, hA2⟩ := hA (by omega)
  rw [hq]
  have HA2 := Lib.hid hA2
  clear hA hA2 hq
  have m1 : IntKind.i64.wrap (8 * (x : Int)) = 8 * (x : Int) := Go.IntWalk.i64_in _ (by omega)
  have m2 : IntKind.i64.wrap (8 * (x : Int) - (f : Int)) = 8 * (x : Int) - (f : Int) := Go.IntWalk.i64_in _ (by omega)
  have d1 : decide (8 * (x : Int) < (f : Int)) = false := decide_eq_false (by omega)
  have d2 : decide (8 * (x : Int) - (f : Int) < (n : Int)) = false := decide_eq_false (by omega)
  go_wp2_with fail
  go_ret2
  exact ⟨⟨gw', cw', rfl, HA2.out⟩, rfl⟩
end Go.Proofs.YtglglknhifjbaaaGreatDoor.Sp
namespace Go.Proofs.YtglglknhifjbaaaGreatDoor.Sp
set_option linter.unusedVariables false
set_option linter.unusedSimpArgs false
def byteW (w r : Nat) : Nat := w / 2 ^ (8 * r) % 256
def setW (w r c : Nat) : Nat := (w &&& (18446744073709551615 - 255 * 2 ^ (8 * r))) ||| (c * 2 ^ (8 * r))
theorem byteW_bit (w r k : Nat) : (byteW w r).testBit k = (decide (k < 8) && w.testBit (k + 8 * r)) := by
  unfold byteW
  rw [show (256 : Nat) = 2 ^ 8 from rfl, Nat.testBit_mod_two_pow, Nat.testBit_div_two_pow]
theorem mask_bit (r i : Nat) (hr : r < 8) : (18446744073709551615 - 255 * 2 ^ (8 * r)).testBit i = (decide (i < 64) && !(decide (8 * r ≤ i) && decide (i - 8 * r < 8))) := by
  have h1 : 255 * 2 ^ (8 * r) < 2 ^ 64 := by
    have : 2 ^ (8 * r) ≤ 2 ^ 56 := Nat.pow_le_pow_right (by decide) (by omega)
    have e : (2 : Nat) ^ 64 = 256 * 2 ^ 56 := by decide
    omega
  rw [show 18446744073709551615 - 255 * 2 ^ (8 * r) = 2 ^ 64 - (255 * 2 ^ (8 * r) + 1) by omega, Nat.testBit_two_pow_sub_succ h1, Nat.testBit_mul_two_pow, show (255 : Nat) = 2 ^ 8 - 1 from rfl, Nat.testBit_two_pow_sub_one]
theorem setW_lt (w r c : Nat) (hw : w < 18446744073709551616) (hr : r < 8) (hc : c < 256) : setW w r c < 18446744073709551616 := by
  unfold setW
  have h1 : c * 2 ^ (8 * r) < 2 ^ 64 := by
    have h0 : 2 ^ (8 * r) ≤ 2 ^ 56 := Nat.pow_le_pow_right (by decide) (by omega)
    have e : (2 : Nat) ^ 64 = 256 * 2 ^ 56 := by decide
    have : c * 2 ^ (8 * r) ≤ 255 * 2 ^ 56 := Nat.mul_le_mul (by omega) h0
    omega
  have h2 : w &&& (18446744073709551615 - 255 * 2 ^ (8 * r)) < 2 ^ 64 := Nat.lt_of_le_of_lt Nat.and_le_left hw
  exact Nat.or_lt_two_pow h2 h1
theorem byte_set (w r c r' : Nat) (hw : w < 18446744073709551616) (hr : r < 8) (hc : c < 256) (hr' : r' < 8) : byteW (setW w r c) r' = if r' = r then c else byteW w r' := by
  apply Nat.eq_of_testBit_eq
  intro k
  rw [byteW_bit]
  unfold setW
  rw [Nat.testBit_or, Nat.testBit_and, mask_bit r _ hr, Nat.testBit_mul_two_pow]
  have hcb : ∀ j, 8 ≤ j → c.testBit j = false := fun j hj => Nat.testBit_lt_two_pow (Nat.lt_of_lt_of_le hc (by
    have : (2 : Nat) ^ 8 ≤ 2 ^ j := Nat.pow_le_pow_right (by decide) hj
    have e : (2 : Nat) ^ 8 = 256 := by decide
    omega))
  by_cases e : r' = r
  · subst e
    rw [if_pos rfl]
    by_cases hk : k < 8
    · have e1 : k + 8 * r' - 8 * r' = k := by omega
      rw [e1]
      simp [hk]
    · rw [hcb k (by omega)]; simp [hk]
  · rw [if_neg e, byteW_bit]
    by_cases hk : k < 8
    · by_cases h1 : 8 * r ≤ k + 8 * r'
      · have h2 : ¬ (k + 8 * r' - 8 * r < 8) := by omega
        rw [hcb _ (by omega)]
        simp [hk, h1, h2]
        omega
      · simp [hk, h1]
        omega
    · simp [hk]
def getB (raws : List Nat) (j : Nat) : Nat := byteW (raws.getD (j / 8) 0) (j % 8)
def setB (raws : List Nat) (j c : Nat) : List Nat := raws.set (j / 8) (setW (raws.getD (j / 8) 0) (j % 8) c)
def setBs : List Nat → Nat → List Nat → List Nat
  | raws, _, [] => raws
  | raws, f, c :: b => setBs (setB raws f c) (f + 1) b
theorem setB_len (raws : List Nat) (j c : Nat) : (setB raws j c).length = raws.length := by simp [setB]
theorem setBs_len : ∀ (b : List Nat) (raws : List Nat) (f : Nat), (setBs raws f b).length = raws.length
  | [], _, _ => rfl
  | c :: b, raws, f => by show (setBs (setB raws f c) (f + 1) b).length = _; rw [setBs_len b, setB_len]
theorem setBs_snoc : ∀ (b : List Nat) (raws : List Nat) (f c : Nat), setBs raws f (b ++ [c]) = setB (setBs raws f b) (f + b.length) c
  | [], _, _, _ => rfl
  | d :: b, raws, f, c => by
    show setBs (setB raws f d) (f + 1) (b ++ [c]) = setB (setBs (setB raws f d) (f + 1) b) _ c
    rw [setBs_snoc b, List.length_cons, show f + 1 + b.length = f + (b.length + 1) by omega]
theorem getD_lt {raws : List Nat} (h : ∀ x ∈ raws, x < 18446744073709551616) (i : Nat) : raws.getD i 0 < 18446744073709551616 := by
  rw [List.getD_eq_getElem?_getD]
  cases e : raws[i]? with
  | none => decide
  | some x => exact h x (List.mem_of_getElem? e)
theorem setB_lt {raws : List Nat} (h : ∀ x ∈ raws, x < 18446744073709551616) (j c : Nat) (hc : c < 256) : ∀ x ∈ setB raws j c, x < 18446744073709551616 := fun x hx => by
  rcases List.mem_or_eq_of_mem_set hx with hx | rfl
  · exact h x hx
  · exact setW_lt _ _ _ (getD_lt h _) (Nat.mod_lt _ (by decide)) hc
theorem setBs_lt : ∀ (b : List Nat) (raws : List Nat) (f : Nat), (∀ x ∈ raws, x < 18446744073709551616) → (∀ c ∈ b, c < 256) → ∀ x ∈ setBs raws f b, x < 18446744073709551616
  | [], _, _, h, _ => h
  | c :: b, raws, f, h, hc => setBs_lt b _ _ (setB_lt h f c (hc c List.mem_cons_self)) (fun x hx => hc x (List.mem_cons_of_mem _ hx))
theorem getB_set (raws : List Nat) (j c j' : Nat) (h : ∀ x ∈ raws, x < 18446744073709551616) (hc : c < 256) (hj : j < 8 * raws.length) : getB (setB raws j c) j' = if j' = j then c else getB raws j' := by
  unfold getB setB
  rw [List.getD_eq_getElem?_getD, List.getElem?_set]
  by_cases e : j / 8 = j' / 8
  · rw [if_pos e, if_pos (by omega)]
    simp only [Option.getD_some]
    rw [byte_set _ _ _ _ (getD_lt h _) (Nat.mod_lt _ (by decide)) hc (Nat.mod_lt _ (by decide)), e]
    by_cases e2 : j' = j
    · subst e2; rw [if_pos rfl, if_pos rfl]
    · rw [if_neg e2, if_neg (by omega)]
  · rw [if_neg e, ← List.getD_eq_getElem?_getD, if_neg (by intro e2; subst e2; exact e rfl)]
theorem getB_sets : ∀ (b : List Nat) (raws : List Nat) (f j' : Nat), (∀ x ∈ raws, x < 18446744073709551616) → (∀ c ∈ b, c < 256) → f + b.length ≤ 8 * raws.length → getB (setBs raws f b) j' = if f ≤ j' ∧ j' < f + b.length then b.getD (j' - f) 0 else getB raws j'
  | [], raws, f, j', _, _, _ => by
    rw [if_neg (by simp)]; rfl
  | c :: b, raws, f, j', h, hc, hl => by
    rw [List.length_cons] at hl ⊢
    show getB (setBs (setB raws f c) (f + 1) b) j' = _
    rw [getB_sets b _ _ _ (setB_lt h f c (hc c List.mem_cons_self)) (fun x hx => hc x (List.mem_cons_of_mem _ hx)) (by rw [setB_len]; omega), getB_set _ _ _ _ h (hc c List.mem_cons_self) (by omega)]
    by_cases e : j' = f
    · subst e
      rw [if_neg (by omega), if_pos rfl, if_pos (by omega), Nat.sub_self]; rfl
    · by_cases e2 : f + 1 ≤ j' ∧ j' < f + 1 + b.length
      · rw [if_pos e2, if_pos (by omega)]
        obtain ⟨m, rfl⟩ : ∃ m, j' = f + 1 + m := ⟨j' - (f + 1), by omega⟩
        rw [show f + 1 + m - (f + 1) = m by omega, show f + 1 + m - f = m + 1 by omega]; rfl
      · rw [if_neg e2, if_neg e, if_neg (by omega)]
end Go.Proofs.YtglglknhifjbaaaGreatDoor.Sp
namespace Go.Proofs.YtglglknhifjbaaaGreatDoor.Sp
open Go.RowKit Go.Proofs.YtglglknhifjbaaaGreatDoorW.PrintWords Go.Proofs.YtglglknhifjbaaaGreatDoorW.PrintLast Go.Proofs.YtglglknhifjbaaaGreatDoorW.PrintMore
set_option linter.unusedVariables false
set_option linter.unusedSimpArgs false
def byV (l : List Nat) : List Value := l.map fun b : Nat => .int .u8 (b : Int)
def rdB (raws : List Nat) (f n t : Nat) : List Nat := (List.range n).map fun j => if j < t then getB raws (f + j) else 0
def getBs (raws : List Nat) (f n : Nat) : List Nat := (List.range n).map fun j => getB raws (f + j)
theorem rdB_len (raws : List Nat) (f n t : Nat) : (rdB raws f n t).length = n := by simp [rdB]
theorem rdB_zero (raws : List Nat) (f n : Nat) : rdB raws f n 0 = List.replicate n 0 := by
  unfold rdB
  apply List.ext_getElem (by simp)
  intro j h1 h2
  simp
theorem rdB_full (raws : List Nat) (f n : Nat) : rdB raws f n n = getBs raws f n := by
  unfold rdB getBs
  apply List.map_congr_left
  intro j hj
  rw [if_pos (List.mem_range.1 hj)]
theorem rdB_get (raws : List Nat) (f n t j : Nat) (h : j < (rdB raws f n t).length) : (rdB raws f n t)[j] = if j < t then getB raws (f + j) else 0 := by simp [rdB]
theorem rdB_succ (raws : List Nat) (f n t : Nat) (ht : t < n) : (rdB raws f n t).set t (getB raws (f + t)) = rdB raws f n (t + 1) := by
  apply List.ext_getElem (by simp [rdB_len])
  intro j h1 h2
  rw [List.getElem_set, rdB_get raws f n (t + 1) j h2]
  by_cases e : t = j
  · subst e; rw [if_pos rfl, if_pos (by omega)]
  · rw [if_neg e, rdB_get]
    by_cases h : j < t
    · rw [if_pos h, if_pos (by omega)]
    · rw [if_neg h, if_neg (by omega)]
theorem byV_set (l : List Nat) (t b : Nat) : (byV l).toArray.setIfInBounds t (.int .u8 (b : Int)) = (byV (l.set t b)).toArray := by
  simp [byV, List.map_set]
theorem getB_lt (raws : List Nat) (j : Nat) : getB raws j < 256 := by unfold getB byteW; omega
def BytesPost (w : World) (l : List Nat) (e : Ending) (w' : World) : Prop :=
  ∃ g, e = .returned (.tuple #[.slice (some ⟨g, 0, none⟩) l.length l.length, .int .i64 0]) ∧ w.heap.size ≤ g ∧ w'.heap[g]? = some (.cells (byV l).toArray 5 (0, 0)) ∧ Below w.heap.size w w'
set_option maxHeartbeats 8000000 in
set_option maxRecDepth 100000 in
theorem arBytes_walk (w : World) (own : Own) (a p size : Nat) (l : List AO) (H : IsAr w own a p size l) (i : Nat) (hi : i < l.length) (k r x : Nat) (hs : Shape k r x) (hh : l[i].1 = headW k r x) (refs raws : List Nat) (hr : refs.length = r) (hrw : raws.length = x) (hob : l[i].2 = refs ++ raws) (at_ : Int) (hat : at_ = (posOf l i : Int)) (hx : 1 ≤ x) (f n : Nat) (hfn : f + n ≤ 8 * x) :
    Calls Tryz.prog 279 #[.pointer (some ⟨p, 0, none⟩), .int .i64 at_, .int .i64 (f : Int), .int .i64 (n : Int)] w (BytesPost w (getBs raws f n)) := by
  have hf : l[i].2.length = r + x := by rw [hob, List.length_append, hr, hrw]
  have HSp := Lib.hid (span_walk w own a p size l H i hi k r x hs hh hf at_ hat hx f n hfn)
  have hx2 := hs.x2; have hr2 := hs.r2
  obtain ⟨gw, gf, cw, cf, bs, -, c0, c1, c2, -, -, -, cW, -, -, -, hrow, -⟩ := H.cells
  have hwd : ∀ m, m < x → ∃ v : Nat, v = raws.getD m 0 ∧ v < 18446744073709551616 ∧ w.cell? ⟨gw, posOf l i + 1 + r + m, none⟩ = some (.int .u64 (v : Int)) := fun m hm => by
    have e := field_at l i hi (r + m) (by omega)
    have hlt := (List.getElem?_eq_some_iff.1 e).1
    have hc := cW (posOf l i + 1 + (r + m)) hlt
    rw [List.getElem?_eq_getElem hlt] at e
    rw [Option.some.inj e] at hc
    have e2 : l[i].2[r + m]'(by omega) = raws.getD m 0 := by
      rw [List.getD_eq_getElem?_getD]
      have : (refs ++ raws)[r + m]? = raws[m]? := by rw [List.getElem?_append_right (by omega)]; congr 1; omega
      rw [← this, ← hob, List.getElem?_eq_getElem (by omega)]; rfl
    refine ⟨raws.getD m 0, rfl, ?_, ?_⟩
    · rw [← e2]
      exact (H.lt _ (List.getElem_mem hi)).2 _ (List.getElem_mem _)
    · rw [e2] at hc
      rw [show posOf l i + 1 + r + m = posOf l i + 1 + (r + m) by omega]
      exact hc
  have C1 := Lib.hid c1; have HW := Lib.hid hwd
  have hmk : ∀ w : World, (Instr.makeSlice 53 (.int .i64 (n : Int)) (.int .i64 (n : Int))).run Tryz.prog w = .ok (.slice (some ⟨w.heap.size, 0, none⟩) n n) (w.alloc (.cells (byV (rdB raws f n 0)).toArray 5)) := fun w => by
    have := run_make_row' (P := Tryz.prog) 53 5 (.int .u8 0) 1 Tryz.underlying53 (by kernel_rfl) rfl .i64 .i64 n (by omega) (by omega) w
    rw [show madeCells #[Value.int .u8 0] n = (byV (rdB raws f n 0)).toArray by
      rw [rdB_zero, ← Array.toArray_toList (xs := madeCells _ _), toList_madeCells_one]
      simp [byV]] at this
    exact this
  obtain ⟨q, hq⟩ : ∃ q, posOf l i + 1 + r = q := ⟨_, rfl⟩
  have hglt : gw < w.heap.size := hrow.lt
  clear hs hh hf hat c0 c1 c2 cW H hwd hob hr hrw hrow
  rw [hq] at HSp HW
  clear hq
  go_enter Tryz.func279, Tryz.ntmps279
  go_wp2_with fail
  refine HSp.out.mono ?_
  rintro e w' ⟨⟨gw', cw', rfl, hA⟩, rfl⟩
  have hg : gw = gw' := slice_inj (Option.some.inj (C1.out.symm.trans hA))
  subst hg
  clear hA
  go_wp2_with fail
  have hbel : Below w.heap.size w (w.alloc (.cells (byV (rdB raws f n 0)).toArray 5)) := Below.alloc (Below.refl _ _) (Nat.le_refl _) _
  have hnew : (w.alloc (.cells (byV (rdB raws f n 0)).toArray 5)).heap[w.heap.size]? = some (.cells (byV (rdB raws f n 0)).toArray 5 (0, 0)) := by rw [alloc_at, if_pos rfl]
  obtain ⟨N, hN⟩ : ∃ N, w.heap.size = N := ⟨_, rfl⟩
  rw [hN] at hbel hnew hglt ⊢
  have HBl := Lib.hid hbel; have HNw := Lib.hid hnew; have HNN := Lib.hid hN
  clear hbel hnew hN hmk
  go_loopw [30] (fun v30 wr => ∃ t : Nat, t ≤ n ∧ v30 = .int .i64 (t : Int) ∧ Hid (wr.heap[N]? = some (.cells (byV (rdB raws f n t)).toArray 5 (0, 0)) ∧ Below N w wr)) (fun v30 _ => n - (intOf v30).toNat)
  case atStart => exact ⟨0, by omega, rfl, HNw.out, HBl.out⟩
  case round =>
    obtain ⟨t, ht, rfl, HH⟩ := hrel
    by_cases hlt : t < n
    · obtain ⟨s, hs⟩ : ∃ s, f + t = s := ⟨_, rfl⟩
      have m1 : IntKind.i64.wrap ((f : Int) + (t : Int)) = (s : Int) := by rw [Go.IntWalk.i64_in _ (by omega)]; omega
      obtain ⟨m, hm⟩ : ∃ m, s / 8 = m := ⟨_, rfl⟩
      obtain ⟨rm, hrm⟩ : ∃ rm, s % 8 = rm := ⟨_, rfl⟩
      have m2 : (s : Int).tdiv 8 = (m : Int) := by rw [Int.tdiv_eq_ediv_of_nonneg (by omega)]; omega
      have m3 : (s : Int).tmod 8 = (rm : Int) := by rw [Int.tmod_eq_emod_of_nonneg (by omega)]; omega
      have m4 : IntKind.i64.wrap (m : Int) = (m : Int) := Go.IntWalk.i64_in _ (by omega)
      have m5 : IntKind.i64.wrap (rm : Int) = (rm : Int) := Go.IntWalk.i64_in _ (by omega)
      have m6 : IntKind.i64.wrap ((rm : Int) * 8) = ((8 * rm : Nat) : Int) := by rw [Go.IntWalk.i64_in _ (by omega)]; omega
      obtain ⟨v, hv1, hv2, hv3⟩ := HW.out m (by omega)
      have e0 : wr.cell? ⟨gw, q + m, none⟩ = some (.int .u64 (v : Int)) := by rw [HH.out.2.cell hglt]; exact hv3
      have hmx : m < x := by omega
      have hrm8 : rm < 8 := by omega
      have HV1 := Lib.hid hv1; have HMs := Lib.hid hm; have HRm := Lib.hid hrm; have HSs := Lib.hid hs
      clear hv3 hs hm hrm hv1
      have hu : wr.cell? ⟨N, t, none⟩ = some (.int .u8 ((rdB raws f n t).getD t 0 : Int)) := by
        have h1 := HH.out.1
        have h2 : t < (rdB raws f n t).length := by rw [rdB_len]; exact hlt
        simp [World.cell?, h1, byV, List.getElem?_map, List.getElem?_eq_getElem h2, List.getD_eq_getElem?_getD]
      have hfz : wr.frozen? ⟨N, t, none⟩ = false := by simp [World.frozen?, HH.out.1]
      go_wp2_with fail
      go_roundw
      case rel =>
        refine ⟨t + 1, by omega, by go_num, ?_, HH.out.2.setCell (Nat.le_refl _) _⟩
        rw [setCell_at, if_pos rfl, HH.out.1]
        have e : (v : Int) / 2 ^ (8 * rm) % 256 = ((getB raws (f + t) : Nat) : Int) := by
          rw [HSs.out]
          unfold getB byteW
          rw [HMs.out, HRm.out, ← HV1.out]
          simp
        rw [e]
        show some (Obj.cells ((byV (rdB raws f n t)).toArray.setIfInBounds t _) _ _) = _
        rw [byV_set, rdB_succ raws f n t hlt]
      case measure => simp [intOf]; omega
    · obtain rfl : t = n := by omega
      go_wp2_with fail
      go_ret2
      refine ⟨N, ?_, by rw [HNN.out]; exact Nat.le_refl _, ?_, by rw [HNN.out]; exact HH.out.2⟩
      · simp [getBs]
      · rw [← rdB_full]; exact HH.out.1
end Go.Proofs.YtglglknhifjbaaaGreatDoor.Sp
