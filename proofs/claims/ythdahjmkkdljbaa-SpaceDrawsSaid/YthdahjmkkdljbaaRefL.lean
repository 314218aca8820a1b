/- The reference's Level of a State, walked. -/
import Derived.Test.YthdahjmkkdljbaaRefD
namespace Go.Proofs.Ythdahjmkkdljbaa.Sp
open Go.RowKit Go.Proofs.YthdahjmkkdljbaaW.PrintWords Go.Proofs.YthdahjmkkdljbaaW.PrintLast Go.Proofs.YthdahjmkkdljbaaW.PrintMore
set_option linter.unusedVariables false
set_option linter.unusedSimpArgs false
theorem q_base {w : World} {base size n : Nat} {e : TypeId} {v : Value} {xs : List Value} (h : QRow w base e size v n xs) : QRow w 0 e size v n xs := by
  obtain ⟨h1, h2⟩ := h
  refine ⟨h1, ?_⟩
  rcases h2 with ⟨h0, A, rfl, hA⟩ | ⟨g, off, cap, cur, rfl, hg, hh, r⟩
  · exact .inl ⟨h0, A, rfl, fun a ha => ⟨Nat.zero_le _, (hA a ha).2⟩⟩
  · exact .inr ⟨g, off, cap, cur, rfl, Nat.zero_le _, hh, r⟩
theorem encs_u8 (l : List Int) : encs (fun n : Int => Value.int .u8 n) l = u8s l := by simp [encs, u8s]
theorem rq_C {w : World} {g o n cap : Nat} {D D' : List Int} {d : Int} (h : QRow w 0 5 1 (.slice (some ⟨g, o, none⟩) n cap) n (u8s D)) (hD : D = d :: D') (hn : n = D.length) (hle : n ≤ cap) (hm : D.length ≤ 4096) :
    Kd.C (Kd.int .u8) w (if cap = 1 then some ⟨g, o, none⟩ else some ⟨g, o + 1, none⟩) D'.length D' := by
  have hl : D.length = D'.length + 1 := by rw [hD]; rfl
  refine Kd.C_of_reads (d := (0 : Int)) (h1 := fun _ => rfl) ⟨rfl, by omega, fun h0 => ?_⟩
  rw [if_neg (by omega)]
  obtain ⟨ad, e, hc⟩ := q_cells h (by omega)
  injection e with e
  subst e
  refine ⟨_, rfl, fun j hj => ?_⟩
  have e1 : (⟨g, o + 1, none⟩ : Addr).add j = (⟨g, o, none⟩ : Addr).add (j + 1) := by simp [Addr.add, Nat.add_assoc, Nat.add_comm 1 j]
  rw [e1]
  refine hc (j + 1) _ ?_
  rw [hD]
  simp [u8s, hj, List.getD_eq_getElem?_getD]
theorem copy_walk_n (n : Nat) (A0 : Option Addr) (c0 : Nat) (l0 : List Int) (w : World) (hn : l0.length = n) (hr0 : Kd.C (Kd.int .u8) w A0 l0.length l0) (hc0 : n ≤ c0) (hm : n ≤ 281474976710656) :
    Calls Try.prog 19 #[.slice A0 n c0] w fun e w' => ∃ v0_ : Value, e = .returned (v0_) ∧ Kd.R (Kd.int .u8) 5 w' w.heap.size (fun _ => True) v0_ l0 ∧ Below w.heap.size w w' := by
  subst hn
  exact copy_walk A0 c0 l0 w hr0 hc0 hm
def RLevelPost (w : World) (s : Nat) (C : Array Value) (v : Value) (D : List Int) (e : Ending) (w' : World) : Prop := e = .returned (.int .i64 (levelOf D)) ∧ ∃ v', StQ w' s C v' D.tail ∧ SpStep w w' s v v'
set_option maxHeartbeats 4000000 in
set_option maxRecDepth 100000 in
theorem rlevel_none (w : World) (s : Nat) (C : Array Value) (v : Value) (h : StQ w s C v []) :
    Calls Try.prog 11 #[.pointer (some ⟨s, 0, none⟩)] w (RLevelPost w s C v []) := by
  obtain ⟨B, cap, hv, hle⟩ := q_slice h.q
  have hv' : v = .slice B 0 cap := hv
  clear hv
  subst hv'
  have k0 := h.cell
  have HH := Lib.hid h
  clear h
  go_enter Try.func11, Try.ntmps11
  go_wp2_with fail
  go_ret
  exact ⟨rfl, _, HH.out, SpStep.refl w s _⟩
theorem rlevel_fin {w w1 : World} {s : Nat} {C : Array Value} {v v' : Value} {D D' : List Int} {d : Int} (h : StQ w s C v D) (hD : D = d :: D') (hR : Kd.R (Kd.int .u8) 5 w1 w.heap.size (fun _ => True) v' D') (hb : Below w.heap.size w w1) :
    w1.cell? ⟨s, 5, none⟩ = some v ∧ w1.frozen? ⟨s, 5, none⟩ = false ∧ Hid (StQ (w1.setCell ⟨s, 5, none⟩ v') s C v' D.tail ∧ SpStep w (w1.setCell ⟨s, 5, none⟩ v') s v v') := by
  have hlt := blk_lt h.hs
  have hs1 : w1.heap[s]? = some (.cells (C.setIfInBounds 5 v) 73 (0, 0)) := (hb.block s hlt).trans h.hs
  have hsz := h.size
  have ho := Kd.own_of_R hR
  rw [encs_u8] at ho
  have hq := q_of_own ho
  refine ⟨by simp [World.cell?, hs1, hsz], by simp [World.frozen?, hs1], ⟨?_, hsz, ?_⟩, (Fr.below hb).setCell (.inl (.inl rfl)) _, ?_⟩
  · rw [setCell_at, if_pos rfl, hs1]; simp
  · rw [hD]
    show QRow _ 0 _ 1 v' D'.length (u8s D')
    refine q_move (q_base hq) (fun k hk => ?_)
    have := (q_typed hq k hk).1
    rw [setCell_at, if_neg (by omega)]
  · exact fun k hk => .inr (q_typed hq k hk).1
set_option maxHeartbeats 1000000 in
set_option maxRecDepth 100000 in
theorem rlevel_some (w : World) (s : Nat) (C : Array Value) (v : Value) (D : List Int) (h : StQ w s C v D) (d : Nat) (hd : d < 256) (D' : List Int) (hD : D = (d : Int) :: D') (hm : D.length ≤ 4096) :
    Calls Try.prog 11 #[.pointer (some ⟨s, 0, none⟩)] w (RLevelPost w s C v D) := by
  obtain ⟨B, cap, hv, hle⟩ := q_slice h.q
  subst hv
  have h0 : 0 < D.length := by rw [hD]; simp
  obtain ⟨⟨g, o, i⟩, rfl, hcell⟩ := q_cells h.q h0
  have hi : i = none := by
    rcases h.q.2 with ⟨hz, _⟩ | ⟨g', off, cap', cur, hv, _⟩
    · omega
    · injection hv with ha _ _
      injection ha with ha
      injection ha
  subst hi
  have kd := hcell 0 (.int .u8 (d : Int)) (by rw [hD]; rfl)
  have kd' : w.cell? ⟨g, o, none⟩ = some (.int .u8 (d : Int)) := kd
  have k0 := h.cell
  have HD := Lib.hid hD
  have HH := Lib.hid h
  have e0 : ((D.length : Int) == 0) = false := by rw [beq_eq_false_iff_ne]; omega
  have HC := Lib.hid (rq_C h.q hD rfl hle hm)
  obtain ⟨n, hn⟩ : ∃ n, D.length = n := ⟨_, rfl⟩
  have hl : D'.length = n - 1 := by rw [← hn, hD]; rfl
  rw [hn] at k0 h0 e0 hm hle
  have HN := Lib.hid hn
  have HL' := Lib.hid hl
  rw [hn]
  clear hcell kd h hD hn hl
  have hc1 : (1 : Nat) ≤ n := h0
  go_enter Try.func11, Try.ntmps11
  by_cases hcap : cap = 1
  · subst hcap
    obtain rfl : n = 1 := by omega
    have hD0 : D' = [] := List.length_eq_zero_iff.1 HL'.out
    subst hD0
    go_wp2_with fail
    refine (copy_walk_n 0 (some ⟨g, o, none⟩) 0 [] w rfl (by have := HC.out; simpa using this) (Nat.le_refl _) (Nat.zero_le _)).mono ?_
    rintro e w1 ⟨v', rfl, hR, hb⟩
    obtain ⟨B', cap', hv', -⟩ := q_slice (q_of_own (Kd.own_of_R hR))
    subst hv'
    obtain ⟨f1, f2, HF⟩ := rlevel_fin (v := .slice (some ⟨g, o, none⟩) 1 1) (by have := HH.out; have e := HN.out; simpa [e] using this) HD.out hR hb
    clear hR hb
    go_wp2_with fail
    go_loop [3, 4] (fun v3 v4 => ∃ m k dd : Nat, m + k = 8 ∧ dd < 256 ∧ v4 = .int .i64 (m : Int) ∧ v3 = .int .u8 (dd : Int) ∧ Hid (1 + lvl 7 d = m + lvl k dd)) (fun _ v4 => 8 - (intOf v4).toNat)
    case atStart => exact ⟨1, 7, d, by omega, hd, rfl, rfl, rfl⟩
    case round =>
      obtain ⟨m, k, dd, hmk, hdd, rfl, rfl, HL⟩ := hrel
      have hand : ((dd : Int).tmod 2) = ((dd % 2 : Nat) : Int) := by rw [Int.tmod_eq_emod_of_nonneg (by omega)]; omega
      by_cases hodd : dd % 2 = 1
      · have e3 : ((dd : Int).tmod 2 == 1) = true := by rw [hand, hodd]; rfl
        have hand1 : (dd : Int).tmod 2 = 1 := by rw [hand, hodd]; rfl
        clear hand
        by_cases hlt : m < 8
        · obtain ⟨k', rfl⟩ : ∃ k', k = k' + 1 := ⟨k - 1, by omega⟩
          have hl : Hid (lvl (k' + 1) dd = 1 + lvl k' (dd / 2)) := by show (if dd % 2 = 1 then 1 + lvl k' (dd / 2) else 0) = _; rw [if_pos hodd]
          go_wp2_with fail
          exact ⟨⟨m + 1, k', dd / 2, by omega, by omega, by go_num, by go_num, by have := HL.out; have := hl.out; show 1 + lvl 7 d = m + 1 + lvl k' (dd / 2); omega⟩, by simp [intOf]; omega⟩
        · obtain rfl : k = 0 := by omega
          have hl : Hid (lvl 0 dd = 0) := rfl
          go_wp2_with fail
          go_ret
          have hn2 : (m : Int) = levelOf D := by rw [HD.out]; show _ = 1 + (lvl 7 (d : Int).toNat : Int); rw [Int.toNat_natCast]; have := HL.out; have := hl.out; omega
          exact ⟨congrArg (fun n : Int => Ending.returned (.int .i64 n)) hn2, _, HF.out⟩
      · have h2 : dd % 2 = 0 := by omega
        have hand1 : (dd : Int).tmod 2 = 0 := by rw [hand, h2]; rfl
        have hl : Hid (lvl k dd = 0) := by
          cases k with
          | zero => rfl
          | succ k => show (if dd % 2 = 1 then 1 + lvl k (dd / 2) else 0) = 0; rw [if_neg hodd]
        clear hand
        go_wp2_with fail
        go_ret
        have hn2 : (m : Int) = levelOf D := by rw [HD.out]; show _ = 1 + (lvl 7 (d : Int).toNat : Int); rw [Int.toNat_natCast]; have := HL.out; have := hl.out; omega
        exact ⟨congrArg (fun n : Int => Ending.returned (.int .i64 n)) hn2, _, HF.out⟩
  · have hc2 : ¬ 1 = cap := fun e => hcap e.symm
    have hc3 : ((1 : Nat) == cap) = false := by rw [beq_eq_false_iff_ne]; omega
    go_wp2_with fail
    refine (copy_walk_n (n - 1) (some ⟨g, o + 1, none⟩) (cap - 1) D' w HL'.out (by have := HC.out; rwa [if_neg hcap] at this) (by omega) (by omega)).mono ?_
    rintro e w1 ⟨v', rfl, hR, hb⟩
    obtain ⟨B', cap', hv', -⟩ := q_slice (q_of_own (Kd.own_of_R hR))
    subst hv'
    obtain ⟨f1, f2, HF⟩ := rlevel_fin (v := .slice (some ⟨g, o, none⟩) n cap) (by have := HH.out; have e := HN.out; simpa [e] using this) HD.out hR hb
    clear hR hb
    go_wp2_with fail
    go_loop [3, 4] (fun v3 v4 => ∃ m k dd : Nat, m + k = 8 ∧ dd < 256 ∧ v4 = .int .i64 (m : Int) ∧ v3 = .int .u8 (dd : Int) ∧ Hid (1 + lvl 7 d = m + lvl k dd)) (fun _ v4 => 8 - (intOf v4).toNat)
    case atStart => exact ⟨1, 7, d, by omega, hd, rfl, rfl, rfl⟩
    case round =>
      obtain ⟨m, k, dd, hmk, hdd, rfl, rfl, HL⟩ := hrel
      have hand : ((dd : Int).tmod 2) = ((dd % 2 : Nat) : Int) := by rw [Int.tmod_eq_emod_of_nonneg (by omega)]; omega
      by_cases hodd : dd % 2 = 1
      · have e3 : ((dd : Int).tmod 2 == 1) = true := by rw [hand, hodd]; rfl
        have hand1 : (dd : Int).tmod 2 = 1 := by rw [hand, hodd]; rfl
        clear hand
        by_cases hlt : m < 8
        · obtain ⟨k', rfl⟩ : ∃ k', k = k' + 1 := ⟨k - 1, by omega⟩
          have hl : Hid (lvl (k' + 1) dd = 1 + lvl k' (dd / 2)) := by show (if dd % 2 = 1 then 1 + lvl k' (dd / 2) else 0) = _; rw [if_pos hodd]
          go_wp2_with fail
          exact ⟨⟨m + 1, k', dd / 2, by omega, by omega, by go_num, by go_num, by have := HL.out; have := hl.out; show 1 + lvl 7 d = m + 1 + lvl k' (dd / 2); omega⟩, by simp [intOf]; omega⟩
        · obtain rfl : k = 0 := by omega
          have hl : Hid (lvl 0 dd = 0) := rfl
          go_wp2_with fail
          go_ret
          have hn2 : (m : Int) = levelOf D := by rw [HD.out]; show _ = 1 + (lvl 7 (d : Int).toNat : Int); rw [Int.toNat_natCast]; have := HL.out; have := hl.out; omega
          exact ⟨congrArg (fun n : Int => Ending.returned (.int .i64 n)) hn2, _, HF.out⟩
      · have h2 : dd % 2 = 0 := by omega
        have hand1 : (dd : Int).tmod 2 = 0 := by rw [hand, h2]; rfl
        have hl : Hid (lvl k dd = 0) := by
          cases k with
          | zero => rfl
          | succ k => show (if dd % 2 = 1 then 1 + lvl k (dd / 2) else 0) = 0; rw [if_neg hodd]
        clear hand
        go_wp2_with fail
        go_ret
        have hn2 : (m : Int) = levelOf D := by rw [HD.out]; show _ = 1 + (lvl 7 (d : Int).toNat : Int); rw [Int.toNat_natCast]; have := HL.out; have := hl.out; omega
        exact ⟨congrArg (fun n : Int => Ending.returned (.int .i64 n)) hn2, _, HF.out⟩
end Go.Proofs.Ythdahjmkkdljbaa.Sp
