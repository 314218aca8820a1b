/- space.Level, walked. -/
import Derived.Test.YthdahjmkkdljbaaDraw
namespace Go.Proofs.Ythdahjmkkdljbaa.Sp
open Go.RowKit Go.Proofs.YthdahjmkkdljbaaW.PrintWords Go.Proofs.YthdahjmkkdljbaaW.PrintLast Go.Proofs.YthdahjmkkdljbaaW.PrintMore
set_option linter.unusedVariables false
set_option linter.unusedSimpArgs false
/-- The level that a draw means: one more for each one bit from the lowest on, at most 8; k: so many may still come. -/
def lvl : Nat → Nat → Nat
  | 0, _ => 0
  | k + 1, d => if d % 2 = 1 then 1 + lvl k (d / 2) else 0
def levelOf : List Int → Int
  | [] => 1
  | d :: _ => 1 + (lvl 7 d.toNat : Int)
def LevelPost (w : World) (s : Nat) (C : Array Value) (v : Value) (D : List Int) (e : Ending) (w' : World) : Prop := e = .returned (.int .i64 (levelOf D)) ∧ ∃ v', SpQ w' s C v' D.tail ∧ SpStep w w' s v v'
theorem and1 (d : Nat) (h : d < 256) : bits .and .u8 (d : Int) 1 = ((d % 2 : Nat) : Int) := by
  have := (bits_nat .u8 8 (by decide) (fun n h0 h1 => by rw [IntKind.wrap_u8]; omega) d 1 h (by decide)).1
  rw [show ((1 : Nat) : Int) = 1 from rfl] at this
  rw [this, Nat.and_one_is_mod]
set_option maxHeartbeats 4000000 in
set_option maxRecDepth 100000 in
theorem level_none (w : World) (s : Nat) (C : Array Value) (v : Value) (h : SpQ w s C v []) :
    Calls Try.prog 10 #[.pointer (some ⟨s, 0, none⟩)] w (LevelPost w s C v []) := by
  obtain ⟨B, cap, hv, hle⟩ := q_slice h.q
  have hv' : v = .slice B 0 cap := hv
  clear hv
  subst hv'
  have k0 := h.cell
  have HH := Lib.hid h
  clear h
  go_enter Try.func10, Try.ntmps10
  go_wp2_with fail
  go_ret
  exact ⟨rfl, _, HH.out, Fr.refl _ w, at_of (.inl rfl)⟩
theorem level_fin {w : World} {s g o n cap : Nat} {C : Array Value} {D : List Int} (h : SpQ w s C (.slice (some ⟨g, o, none⟩) n cap) D) (hn : n = D.length) (h0 : 0 < n) (W : World) (hW : ∃ m, W = w.drewN m) (v' : Value) (hv : v' = .slice (if cap = 1 then some ⟨g, o, none⟩ else some ⟨g, o + 1, none⟩) (n - 1) (cap - 1)) :
    Hid (SpQ (W.setCell ⟨s, 8, none⟩ v') s C v' D.tail ∧ SpStep w (W.setCell ⟨s, 8, none⟩ v') s (.slice (some ⟨g, o, none⟩) n cap) v') := by
  obtain ⟨m, rfl⟩ := hW
  have hq := h.q
  rw [← hn] at hq
  have hd := q_drop (k := 1) hq (by omega)
  have e : (if cap = 1 then (some ⟨g, o, none⟩ : Option Addr) else (some ⟨g, o, none⟩ : Option Addr).map (·.add (1 * 1))) = (if cap = 1 then some ⟨g, o, none⟩ else some ⟨g, o + 1, none⟩) := by
    split
    · rfl
    · simp [Addr.add]
  rw [e, ← hv] at hd
  have hob : v'.ownBlock = some g := by rw [hv]; split <;> rfl
  have hsz := h.size
  refine ⟨⟨?_, hsz, ?_⟩, ((Fr.refl _ w).drewN m).setCell (.inl (.inl rfl)) _, at_of (.inl (by rw [hob]; rfl))⟩
  · rw [setCell_at, if_pos rfl, drewN_heap, h.hs]; simp
  · have e1 : D.tail.length = n - 1 := by rw [List.length_tail, hn]
    have e2 : u8s D.tail = (u8s D).drop (1 * 1) := by unfold u8s; rw [List.map_tail]; simp
    rw [e1, e2]
    refine q_move hd (fun k hk => ?_)
    rw [hob] at hk
    injection hk with hk
    subst hk
    rw [setCell_at, if_neg (h.ne g rfl), drewN_heap]
set_option maxHeartbeats 4000000 in
set_option maxRecDepth 100000 in
theorem level_some (w : World) (s : Nat) (C : Array Value) (v : Value) (D : List Int) (h : SpQ w s C v D) (d : Nat) (hd : d < 256) (D' : List Int) (hD : D = (d : Int) :: D') (hm : D.length ≤ 4096) :
    Calls Try.prog 10 #[.pointer (some ⟨s, 0, none⟩)] w (LevelPost w s C v D) := by
  obtain ⟨B, cap, hv, hle⟩ := q_slice h.q
  subst hv
  have h0 : 0 < D.length := by rw [hD]; simp
  obtain ⟨⟨g, o, i⟩, rfl, hcell⟩ := q_cells h.q h0
  have hi : i = none := by
    rcases h.q.2 with ⟨hz, _⟩ | ⟨g', off, cap', cur, hv, _⟩
    · omega
    · injection hv with ha _ _
      injection ha with ha
      injection ha
  subst hi
  have kd := hcell 0 (.int .u8 (d : Int)) (by rw [hD]; rfl)
  have kd' : w.cell? ⟨g, o, none⟩ = some (.int .u8 (d : Int)) := kd
  have k0 := h.cell
  have fz := h.fz
  have HD := Lib.hid hD
  have HH := Lib.hid h
  have e0 : ((D.length : Int) == 0) = false := by rw [beq_eq_false_iff_ne]; omega
  obtain ⟨n, hn⟩ : ∃ n, D.length = n := ⟨_, rfl⟩
  rw [hn] at k0 h0 e0 hm hle
  have HF := fun W hW v' hv => level_fin (n := n) (by rw [← hn]; exact HH.out) hn.symm h0 W hW v' hv
  have HFF := Lib.hid HF
  have HN := Lib.hid hn
  rw [hn]
  clear hcell kd h hD hn HF
  go_enter Try.func10, Try.ntmps10
  go_wp2_with fail
  go_quiet (fail)
  have hc1 : (1 : Nat) ≤ n := h0
  by_cases hcap : cap = 1
  · subst hcap
    obtain rfl : n = 1 := by omega
    go_wp2_with fail
    go_loop [3, 4] (fun v3 v4 => ∃ m k dd : Nat, m + k = 8 ∧ dd < 256 ∧ v3 = .int .i64 (m : Int) ∧ v4 = .int .u8 (dd : Int) ∧ Hid (1 + lvl 7 d = m + lvl k dd)) (fun v3 _ => 8 - (intOf v3).toNat)
    case atStart => exact ⟨1, 7, d, by omega, hd, rfl, rfl, rfl⟩
    case round =>
      obtain ⟨m, k, dd, hmk, hdd, rfl, rfl, HL⟩ := hrel
      have hand := and1 dd hdd
      by_cases hodd : dd % 2 = 1
      · have e3 : (((dd % 2 : Nat) : Int) == 1) = true := by rw [hodd]; rfl
        have hand1 : bits .and .u8 (dd : Int) 1 = 1 := by rw [hand, hodd]; rfl
        clear hand
        by_cases hlt : m < 8
        · obtain ⟨k', rfl⟩ : ∃ k', k = k' + 1 := ⟨k - 1, by omega⟩
          have hl : Hid (lvl (k' + 1) dd = 1 + lvl k' (dd / 2)) := by show (if dd % 2 = 1 then 1 + lvl k' (dd / 2) else 0) = _; rw [if_pos hodd]
          go_wp2_with fail
          exact ⟨⟨m + 1, k', dd / 2, by omega, by omega, by go_num, by go_num, by have := HL.out; have := hl.out; show 1 + lvl 7 d = m + 1 + lvl k' (dd / 2); omega⟩, by simp [intOf]; omega⟩
        · obtain rfl : k = 0 := by omega
          have hl : Hid (lvl 0 dd = 0) := rfl
          go_wp2_with fail
          go_ret
          have hn2 : (m : Int) = levelOf D := by rw [HD.out]; show _ = 1 + (lvl 7 (d : Int).toNat : Int); rw [Int.toNat_natCast]; have := HL.out; have := hl.out; omega
          refine ⟨congrArg (fun n : Int => Ending.returned (.int .i64 n)) hn2, (.slice (some ⟨g, o, none⟩) 0 0), ?_⟩
          exact (HFF.out _ ⟨_, rfl⟩ (.slice (some ⟨g, o, none⟩) 0 0) (by simp)).out
      · have h2 : dd % 2 = 0 := by omega
        have hand1 : bits .and .u8 (dd : Int) 1 = 0 := by rw [hand, h2]; rfl
        have hl : Hid (lvl k dd = 0) := by
          cases k with
          | zero => rfl
          | succ k => show (if dd % 2 = 1 then 1 + lvl k (dd / 2) else 0) = 0; rw [if_neg hodd]
        clear hand
        go_wp2_with fail
        go_ret
        have hn2 : (m : Int) = levelOf D := by rw [HD.out]; show _ = 1 + (lvl 7 (d : Int).toNat : Int); rw [Int.toNat_natCast]; have := HL.out; have := hl.out; omega
        refine ⟨congrArg (fun n : Int => Ending.returned (.int .i64 n)) hn2, (.slice (some ⟨g, o, none⟩) 0 0), ?_⟩
        exact (HFF.out _ ⟨_, rfl⟩ (.slice (some ⟨g, o, none⟩) 0 0) (by simp)).out
  · have hc2 : ¬ 1 = cap := fun e => hcap e.symm
    have hc3 : ((1 : Nat) == cap) = false := by rw [beq_eq_false_iff_ne]; omega
    go_wp2_with fail
    go_loop [3, 4] (fun v3 v4 => ∃ m k dd : Nat, m + k = 8 ∧ dd < 256 ∧ v3 = .int .i64 (m : Int) ∧ v4 = .int .u8 (dd : Int) ∧ Hid (1 + lvl 7 d = m + lvl k dd)) (fun v3 _ => 8 - (intOf v3).toNat)
    case atStart => exact ⟨1, 7, d, by omega, hd, rfl, rfl, rfl⟩
    case round =>
      obtain ⟨m, k, dd, hmk, hdd, rfl, rfl, HL⟩ := hrel
      have hand := and1 dd hdd
      by_cases hodd : dd % 2 = 1
      · have e3 : (((dd % 2 : Nat) : Int) == 1) = true := by rw [hodd]; rfl
        have hand1 : bits .and .u8 (dd : Int) 1 = 1 := by rw [hand, hodd]; rfl
        clear hand
        by_cases hlt : m < 8
        · obtain ⟨k', rfl⟩ : ∃ k', k = k' + 1 := ⟨k - 1, by omega⟩
          have hl : Hid (lvl (k' + 1) dd = 1 + lvl k' (dd / 2)) := by show (if dd % 2 = 1 then 1 + lvl k' (dd / 2) else 0) = _; rw [if_pos hodd]
          go_wp2_with fail
          exact ⟨⟨m + 1, k', dd / 2, by omega, by omega, by go_num, by go_num, by have := HL.out; have := hl.out; show 1 + lvl 7 d = m + 1 + lvl k' (dd / 2); omega⟩, by simp [intOf]; omega⟩
        · obtain rfl : k = 0 := by omega
          have hl : Hid (lvl 0 dd = 0) := rfl
          go_wp2_with fail
          go_ret
          have hn2 : (m : Int) = levelOf D := by rw [HD.out]; show _ = 1 + (lvl 7 (d : Int).toNat : Int); rw [Int.toNat_natCast]; have := HL.out; have := hl.out; omega
          refine ⟨congrArg (fun n : Int => Ending.returned (.int .i64 n)) hn2, (.slice (some ⟨g, o + 1, none⟩) (n - 1) (cap - 1)), ?_⟩
          exact (HFF.out _ ⟨_, rfl⟩ (.slice (some ⟨g, o + 1, none⟩) (n - 1) (cap - 1)) (by rw [if_neg hcap])).out
      · have h2 : dd % 2 = 0 := by omega
        have hand1 : bits .and .u8 (dd : Int) 1 = 0 := by rw [hand, h2]; rfl
        have hl : Hid (lvl k dd = 0) := by
          cases k with
          | zero => rfl
          | succ k => show (if dd % 2 = 1 then 1 + lvl k (dd / 2) else 0) = 0; rw [if_neg hodd]
        clear hand
        go_wp2_with fail
        go_ret
        have hn2 : (m : Int) = levelOf D := by rw [HD.out]; show _ = 1 + (lvl 7 (d : Int).toNat : Int); rw [Int.toNat_natCast]; have := HL.out; have := hl.out; omega
        refine ⟨congrArg (fun n : Int => Ending.returned (.int .i64 n)) hn2, (.slice (some ⟨g, o + 1, none⟩) (n - 1) (cap - 1)), ?_⟩
        exact (HFF.out _ ⟨_, rfl⟩ (.slice (some ⟨g, o + 1, none⟩) (n - 1) (cap - 1)) (by rw [if_neg hcap])).out
end Go.Proofs.Ythdahjmkkdljbaa.Sp
