/- The reference's Draw and Level of a State, walked. -/
import Derived.Test.YthdahjmkkdljbaaLevel
namespace Go.Proofs.Ythdahjmkkdljbaa.Sp
open Go.RowKit Go.Proofs.YthdahjmkkdljbaaW.PrintWords Go.Proofs.YthdahjmkkdljbaaW.PrintLast Go.Proofs.YthdahjmkkdljbaaW.PrintMore
set_option linter.unusedVariables false
set_option linter.unusedSimpArgs false
/-- A State's struct with draws D in the row v. -/
structure StQ (w : World) (s : Nat) (C : Array Value) (v : Value) (D : List Int) : Prop where
  hs : w.heap[s]? = some (.cells (C.setIfInBounds 5 v) 73 (0, 0))
  size : C.size = 9
  q : QRow w 0 5 1 v D.length (u8s D)
theorem StQ.cell {w : World} {s : Nat} {C : Array Value} {v : Value} {D : List Int} (h : StQ w s C v D) : w.cell? ⟨s, 5, none⟩ = some v := by
  have := h.size
  simp [World.cell?, h.hs, this]
theorem StQ.fz {w : World} {s : Nat} {C : Array Value} {v : Value} {D : List Int} (h : StQ w s C v D) : w.frozen? ⟨s, 5, none⟩ = false := by simp [World.frozen?, h.hs]
theorem StQ.ne {w : World} {s : Nat} {C : Array Value} {v : Value} {D : List Int} (h : StQ w s C v D) (k : Nat) (hk : v.ownBlock = some k) : k ≠ s := by
  rintro rfl
  obtain ⟨_, cells, hc⟩ := q_typed h.q k hk
  rw [h.hs] at hc
  injection hc with hc
  injection hc with _ h2 _
  exact absurd h2 (by decide)
theorem SpStep.refl (w : World) (s : Nat) (v : Value) : SpStep w w s v v := ⟨Fr.refl _ w, fun _ h => .inl h⟩
theorem SpStep.trans_ {a b c : World} {s : Nat} {v v1 v2 : Value} (h : SpStep a b s v v1) (k : SpStep b c s v1 v2) : SpStep a c s v v2 := by
  refine ⟨h.fr.trans k.fr (fun i hi hp => ?_), fun i hi => ?_⟩
  · rcases hp with hp | hp
    · exact .inl hp
    · rcases h.at_ i hp with e | hle
      · exact .inr e
      · omega
  · rcases k.at_ i hi with e | hle
    · exact h.at_ i e
    · exact .inr (Nat.le_trans h.fr.size hle)
def RDrawPost (w : World) (s : Nat) (C : Array Value) (v : Value) (D : List Int) (e : Ending) (w' : World) : Prop := e = .returned (.tuple #[]) ∧ ∃ v', StQ w' s C v' D ∧ SpStep w w' s v v'
theorem src_one (w : World) (y : Int) : ∃ ad, (some ⟨w.heap.size, 0, none⟩ : Option Addr) = some ad ∧ ∀ j u, [Value.int .u8 y][j]? = some u → (w.alloc (.cells #[.int .u8 y] 5)).cell? (ad.add j) = some u := by
  refine ⟨_, rfl, fun j u hj => ?_⟩
  cases j with
  | zero =>
    injection hj with hj
    subst hj
    have e1 : (w.alloc (.cells #[.int .u8 y] 5)).heap[w.heap.size]? = some (.cells #[.int .u8 y] 5 (0, 0)) := by rw [alloc_at, if_pos rfl]
    unfold World.cell? Addr.add
    simp only [if_true]
    rw [e1]; rfl
  | succ j => simp at hj
theorem stq_fin {wr w1 : World} {s cap c1 : Nat} {C : Array Value} {B B1 : Option Addr} {E : List Int} {y : Int} {ad : Addr} {j L : Nat} (h : StQ wr s C (.slice B L cap) E) (hb : wr.cell? (ad.add j) = some (.int .u8 y)) (hne : (ad.add j).block ≠ s ∧ ∀ k, (Value.slice B L cap).ownBlock = some k → (ad.add j).block ≠ k) (hL : E.length = L)
    (hq : QRow w1 0 5 1 (.slice B1 (L + 1) c1) (L + 1) (u8s E ++ [.int .u8 y])) (hg : (wr.drew.alloc (.cells #[.int .u8 y] 5)).grownBy w1 (Value.slice B L cap).ownBlock) (hat : (Value.slice B1 (L + 1) c1).ownBlock = (Value.slice B L cap).ownBlock ∨ ∃ b, (Value.slice B1 (L + 1) c1).ownBlock = some b ∧ (wr.drew.alloc (.cells #[.int .u8 y] 5)).heap.size ≤ b) :
    w1.cell? ⟨s, 5, none⟩ = some (.slice B L cap) ∧ w1.frozen? ⟨s, 5, none⟩ = false ∧ w1.cell? (ad.add j) = some (.int .u8 y) ∧
    Hid ((w1.setCell ⟨s, 5, none⟩ (.slice B1 (L + 1) c1)).cell? (ad.add j) = some (.int .u8 y) ∧ StQ (w1.setCell ⟨s, 5, none⟩ (.slice B1 (L + 1) c1)) s C (.slice B1 (L + 1) c1) (E ++ [y]) ∧ SpStep wr (w1.setCell ⟨s, 5, none⟩ (.slice B1 (L + 1) c1)) s (.slice B L cap) (.slice B1 (L + 1) c1)) := by
  have hsA : (wr.drew.alloc (.cells #[.int .u8 y] 5)).heap[s]? = wr.heap[s]? := by
    rw [alloc_at, if_neg (by have := blk_lt h.hs; rw [drew_heap]; omega), drew_heap]
  have hasz : (wr.drew.alloc (.cells #[.int .u8 y] 5)).heap.size = wr.heap.size + 1 := by simp
  have hlt := blk_lt h.hs
  have hs1 : w1.heap[s]? = some (.cells (C.setIfInBounds 5 (.slice B L cap)) 73 (0, 0)) := (hg.block s (by omega) (fun e => h.ne s e.symm rfl)).trans (hsA.trans h.hs)
  have hsz := h.size
  have hblt := World.block_lt_of_cell? wr _ hb
  have hb1 : w1.heap[(ad.add j).block]? = wr.heap[(ad.add j).block]? := by
    rw [hg.block _ (by omega) (fun e => hne.2 _ e.symm rfl), alloc_at, if_neg (by rw [drew_heap]; omega), drew_heap]
  have hbc1 : w1.cell? (ad.add j) = some (.int .u8 y) := (World.cell?_of_block hb1).trans hb
  have hb2 : (w1.setCell ⟨s, 5, none⟩ (.slice B1 (L + 1) c1)).heap[(ad.add j).block]? = w1.heap[(ad.add j).block]? := by rw [setCell_at, if_neg hne.1]
  refine ⟨by simp [World.cell?, hs1, hsz], by simp [World.frozen?, hs1], hbc1, (World.cell?_of_block hb2).trans hbc1, ⟨?_, hsz, ?_⟩, ?_, ?_⟩
  · rw [setCell_at, if_pos rfl, hs1]; simp
  · have e : u8s (E ++ [y]) = u8s E ++ [.int .u8 y] := by simp [u8s]
    rw [e, List.length_append, List.length_singleton, hL]
    refine q_move hq (fun k hk => ?_)
    rw [setCell_at, if_neg ?_]
    rcases hat with hat | ⟨b, hb', hle⟩
    · exact h.ne k (hat ▸ hk)
    · rw [hb'] at hk
      injection hk with hk
      omega
  · exact ((((Fr.refl _ wr).drew).alloc _).grown hg (fun k hk => .inl (.inr hk))).setCell (.inl (.inl rfl)) _
  · refine at_of (hat.imp id ?_)
    rintro ⟨b, hb', hle⟩
    exact ⟨b, hb', by omega⟩
set_option maxHeartbeats 8000000 in
set_option maxRecDepth 100000 in
theorem rdraw_walk (w : World) (s : Nat) (C : Array Value) (v : Value) (D : List Int) (h : StQ w s C v D) (hD : D.length ≤ 4096) (A : Option Addr) (c : Nat) (b : List Int) (hb : Kd.C (Kd.int .u8) w A b.length b) (hc : b.length ≤ c) (hm : b.length ≤ 140737488351232)
    (hne : 0 < b.length → ∀ ad, A = some ad → ad.block ≠ s ∧ ∀ k, v.ownBlock = some k → ad.block ≠ k) :
    Calls Try.prog 7 #[.pointer (some ⟨s, 0, none⟩), .slice A b.length c] w (RDrawPost w s C v (D ++ b.take (4096 - D.length))) := by
  have HH := Lib.hid h; have HB := Lib.hid hb; have HNE := Lib.hid hne
  clear h hb hne
  go_enter Try.func7, Try.ntmps7
  go_wp2_with fail
  go_loopw [4] (fun v4 wr => ∃ (j : Nat) (v' : Value), j ≤ b.length ∧ D.length + j ≤ 4096 ∧ v4 = .int .i64 (j : Int) ∧ StQ wr s C v' (D ++ b.take j) ∧ SpStep w wr s v v') (fun v4 _ => b.length - (intOf v4).toNat)
  case atStart => exact ⟨0, v, by omega, by omega, rfl, by simpa using HH.out, SpStep.refl w s v⟩
  case round =>
    obtain ⟨j, v', hj, hDj, rfl, hS, hT⟩ := hrel
    obtain ⟨B, cap, hv', hle⟩ := q_slice hS.q
    subst hv'
    obtain ⟨E, hE⟩ : ∃ E, D ++ b.take j = E := ⟨_, rfl⟩
    have hEl : E.length = D.length + j := by rw [← hE]; simp; omega
    rw [hE] at hS hle hT
    obtain ⟨L, hL⟩ : ∃ L, E.length = L := ⟨_, rfl⟩
    rw [hL] at hle hS hT
    have k0 := hS.cell
    have HS := Lib.hid hS; have HT := Lib.hid hT; have HL := Lib.hid hL; have HE := Lib.hid hE
    have HDL : Hid (L = D.length + j) := by rw [← hL]; exact hEl
    have hLle : L ≤ 4096 := by rw [HDL.out]; exact hDj
    clear hS hT hL hE hEl
    by_cases hlt : j < b.length
    · by_cases hlt2 : L < 4096
      · obtain ⟨ad, hA, hcell⟩ := u8s_src HB.out (by omega)
        obtain ⟨y, hy⟩ : ∃ y, b[j] = y := ⟨_, rfl⟩
        have hb0 : w.cell? (ad.add j) = some (.int .u8 y) := hcell j _ (by unfold u8s; rw [List.getElem?_map, List.getElem?_eq_getElem hlt, hy]; rfl)
        have hblk : (ad.add j).block = ad.block := by unfold Addr.add; split <;> rfl
        obtain ⟨n1, n2⟩ := HNE.out (by omega) ad hA
        have hbne : (ad.add j).block ≠ s ∧ ∀ k, (Value.slice B L cap).ownBlock = some k → (ad.add j).block ≠ k := by
          rw [hblk]
          refine ⟨n1, fun k hk => ?_⟩
          rcases HT.out.at_ k hk with e | hle'
          · exact n2 k e
          · have := World.block_lt_of_cell? w _ hb0
            omega
        have hbc : wr.cell? (ad.add j) = some (.int .u8 y) := by
          rw [HT.out.fr.cell (World.block_lt_of_cell? w _ hb0) (by rw [hblk]; exact fun hp => hp.elim n1 (fun e => n2 _ e rfl))]
          exact hb0
        have hblt := World.block_lt_of_cell? wr _ hbc
        have hslt := blk_lt HS.out.hs
        have hbA : (wr.drew.alloc (.cells #[.int .u8 (y : Int)] 5)).cell? (ad.add j) = some (.int .u8 y) := (World.cell?_alloc_lt wr.drew _ _ hblt).trans hbc
        have HQA : Hid (QRow (wr.drew.alloc (.cells #[.int .u8 (y : Int)] 5)) 0 5 1 (.slice B L cap) L (u8s E)) := by
          have hq0 := HS.out.q
          rw [HL.out] at hq0
          refine q_move hq0 (fun k hk => ?_)
          obtain ⟨_, cells, hc'⟩ := q_typed hq0 k hk
          rw [alloc_at, if_neg (by have := blk_lt hc'; rw [drew_heap]; omega), drew_heap]
        have HEy : E ++ [y] = D ++ b.take (j + 1) := by
          rw [← HE.out, List.take_succ_eq_append_getElem hlt, hy, List.append_assoc]
        have HEy := Lib.hid HEy.symm
        clear hy
        subst hA
        have p1 : (0 : Int) ≤ (j : Int) := by omega
        have q1 : (j : Int) < (b.length : Int) := by omega
        clear hb0 hcell
        go_wp2_with fail
        refine wp_region_held_drew (S := fun w' => w'.cell? (ad.add j) = some (.int .u8 y)) (by kernel_rfl) hbc (fun hHeld => ?_)
        refine tk (i := 0) (v := ?v1) rfl (by kernel_rfl) (fun _ _ _ h => h) ⟨by rfl, ?y1⟩ (by assumption) ?r1
        case y1 => (intro w_ hSw; (try dsimp only at hSw); simp only [List.getElem_toArray, List.getElem_cons_zero, List.getElem_cons_succ]; go_simp; try with_reducible rfl)
        (try simp only [List.getElem_toArray, List.getElem_cons_zero, List.getElem_cons_succ, Act.put, List.setIfInBounds_toArray, List.set_cons_zero, List.set_cons_succ])
        refine tk (i := 1) (v := ?v2) rfl (by kernel_rfl) (fun _ _ _ h => h) ⟨by rfl, ?y2⟩ (by assumption) ?r2
        case y2 => (intro w_ hSw; (try dsimp only at hSw); simp only [List.getElem_toArray, List.getElem_cons_zero, List.getElem_cons_succ]; go_simp; try with_reducible rfl)
        (try simp only [List.getElem_toArray, List.getElem_cons_zero, List.getElem_cons_succ, Act.put, List.setIfInBounds_toArray, List.set_cons_zero, List.set_cons_succ])
        refine tk (i := 2) (v := ?v3) rfl (by kernel_rfl) (fun _ _ _ h => h) ⟨by rfl, ?y3⟩ (by assumption) ?r3
        case y3 => (intro w_ hSw; (try dsimp only at hSw); simp only [List.getElem_toArray, List.getElem_cons_zero, List.getElem_cons_succ]; go_simp; try with_reducible rfl)
        (try simp only [List.getElem_toArray, List.getElem_cons_zero, List.getElem_cons_succ, Act.put, List.setIfInBounds_toArray, List.set_cons_zero, List.set_cons_succ])
        refine tk (i := 3) (v := ?v4) rfl (by kernel_rfl) (fun _ _ _ h => h) ⟨by rfl, ?y4⟩ (by assumption) ?r4
        case y4 => (intro w_ hSw; (try dsimp only at hSw); simp only [List.getElem_toArray, List.getElem_cons_zero, List.getElem_cons_succ]; go_simp; try with_reducible rfl)
        (try simp only [List.getElem_toArray, List.getElem_cons_zero, List.getElem_cons_succ, Act.put, List.setIfInBounds_toArray, List.set_cons_zero, List.set_cons_succ])
        refine tk (i := 5) (v := ?v5) rfl (by kernel_rfl) (fun _ _ _ h => h) ⟨by rfl, ?y5⟩ (by assumption) ?r5
        case y5 => (intro w_ hSw; (try dsimp only at hSw); simp only [List.getElem_toArray, List.getElem_cons_zero, List.getElem_cons_succ]; go_simp; try with_reducible rfl)
        (try simp only [List.getElem_toArray, List.getElem_cons_zero, List.getElem_cons_succ, Act.put, List.setIfInBounds_toArray, List.set_cons_zero, List.set_cons_succ])
        refine tk (i := 6) (v := ?v6) rfl (by kernel_rfl) (fun _ _ _ h => h) ⟨by rfl, ?y6⟩ (by assumption) ?r6
        case y6 => (intro w_ hSw; (try dsimp only at hSw); simp only [List.getElem_toArray, List.getElem_cons_zero, List.getElem_cons_succ]; go_simp; try with_reducible rfl)
        (try simp only [List.getElem_toArray, List.getElem_cons_zero, List.getElem_cons_succ, Act.put, List.setIfInBounds_toArray, List.set_cons_zero, List.set_cons_succ])
        refine tk (i := 7) (v := ?v7) rfl (by kernel_rfl) (fun _ _ _ h => h) ⟨by rfl, ?y7⟩ (by assumption) ?r7
        case y7 => (intro w_ hSw; (try dsimp only at hSw); simp only [List.getElem_toArray, List.getElem_cons_zero, List.getElem_cons_succ]; go_simp; try with_reducible rfl)
        (try simp only [List.getElem_toArray, List.getElem_cons_zero, List.getElem_cons_succ, Act.put, List.setIfInBounds_toArray, List.set_cons_zero, List.set_cons_succ])
        refine tk (i := 8) (v := ?v8) rfl (by kernel_rfl) (fun _ _ _ h => h) ⟨by rfl, ?y8⟩ (by assumption) ?r8
        case y8 => (intro w_ hSw; (try dsimp only at hSw); simp only [List.getElem_toArray, List.getElem_cons_zero, List.getElem_cons_succ]; go_simp; try with_reducible rfl)
        (try simp only [List.getElem_toArray, List.getElem_cons_zero, List.getElem_cons_succ, Act.put, List.setIfInBounds_toArray, List.set_cons_zero, List.set_cons_succ])
        refine wpAnyH_ready (rs := [4, 9]) (by kernel_rfl) (by simp) ?_
        refine AllReadyH.cons (o := _) rfl (fun K hK => ?_) (AllReadyH.cons (o := _) rfl (fun K hK => ?_) AllReadyH.nil)
        · (try simp only [List.getElem_toArray, List.getElem_cons_zero, List.getElem_cons_succ])
          go_simp
          refine hK.out _ _ (by exact hbc) (fun hHeld => ?_)
          clear hK K
          (try simp only [List.getElem_toArray, List.getElem_cons_zero, List.getElem_cons_succ, Act.put, List.setIfInBounds_toArray, List.set_cons_zero, List.set_cons_succ])
          refine wpAnyH_ready (rs := [9]) (by kernel_rfl) (by simp) ?_
          refine AllReadyH.cons (o := _) rfl (fun K hK => ?_) AllReadyH.nil
          (try simp only [List.getElem_toArray, List.getElem_cons_zero, List.getElem_cons_succ])
          go_simp
          refine hK.out _ _ (by exact hbA) (fun hHeld => ?_)
          clear hK K
          (try simp only [List.getElem_toArray, List.getElem_cons_zero, List.getElem_cons_succ, Act.put, List.setIfInBounds_toArray, List.set_cons_zero, List.set_cons_succ])
          refine wpAnyH_ready (rs := [10]) (by kernel_rfl) (by simp) ?_
          refine AllReadyH.cons (o := _) rfl (fun K hK => ?_) AllReadyH.nil
          refine step_q (wr.drew.alloc (.cells #[.int .u8 (y : Int)] 5)) (by rfl) _ _ 42 (by rfl) 0 5 (.int .u8 0) 1 Try.underlying42 infoU8 rfl (.slice B L cap) L (u8s E) (by rfl) HQA.out (some ⟨wr.heap.size, 0, none⟩) 1 1 [.int .u8 y] (by rfl) rfl (fun _ => src_one wr.drew y) (fun u hu => by rw [List.mem_singleton.1 hu]; rfl) (by unfold maxLen; omega) (by omega) (Nat.zero_le _) ?_
          intro v1 w1 hq hg hat
          obtain ⟨B1, c1, rfl, -⟩ := q_slice hq
          obtain ⟨d0, d1, d2, HF⟩ := stq_fin HS.out hbc hbne (HL.out) hq hg hat
          refine hK.out _ _ d2 (fun hHeld => ?_)
          clear hK K hq hg hat
          (try simp only [List.getElem_toArray, List.getElem_cons_zero, List.getElem_cons_succ, Act.put, List.setIfInBounds_toArray, List.set_cons_zero, List.set_cons_succ])
          refine tk (i := 11) (v := ?v9) rfl (by kernel_rfl) (fun _ _ _ h => h) ⟨by rfl, ?y9⟩ (by assumption) ?r9
          case y9 => (intro w_ hSw; (try dsimp only at hSw); simp only [List.getElem_toArray, List.getElem_cons_zero, List.getElem_cons_succ]; go_simp; try with_reducible rfl)
          (try simp only [List.getElem_toArray, List.getElem_cons_zero, List.getElem_cons_succ, Act.put, List.setIfInBounds_toArray, List.set_cons_zero, List.set_cons_succ])
          refine tk (i := 12) (v := ?v10) rfl (by kernel_rfl) (fun _ _ _ h => h) ⟨by rfl, ?y10⟩ (by assumption) ?r10
          case y10 => (intro w_ hSw; (try dsimp only at hSw); simp only [List.getElem_toArray, List.getElem_cons_zero, List.getElem_cons_succ]; go_simp; try with_reducible rfl)
          (try simp only [List.getElem_toArray, List.getElem_cons_zero, List.getElem_cons_succ, Act.put, List.setIfInBounds_toArray, List.set_cons_zero, List.set_cons_succ])
          refine wpAnyH_ready (rs := [13]) (by kernel_rfl) (by simp) ?_
          refine AllReadyH.cons (o := _) rfl (fun K hK => ?_) AllReadyH.nil
          (try simp only [List.getElem_toArray, List.getElem_cons_zero, List.getElem_cons_succ])
          go_simp
          refine hK.out _ _ (by exact HF.out.1) (fun hHeld => ?_)
          clear hK K
          (try simp only [List.getElem_toArray, List.getElem_cons_zero, List.getElem_cons_succ, Act.put, List.setIfInBounds_toArray, List.set_cons_zero, List.set_cons_succ])
          refine wpAnyH_done (by kernel_rfl) ?_ _
          go_wp2_with fail
          go_roundw
          case rel => exact ⟨j + 1, _, by omega, by rw [HDL.out] at hlt2; omega, by go_num, by rw [HEy.out]; exact HF.out.2.1, HT.out.trans_ HF.out.2.2⟩
          case measure => simp [intOf]; omega
        · (try simp only [List.getElem_toArray, List.getElem_cons_zero, List.getElem_cons_succ])
          go_simp
          refine hK.out _ _ (by exact hbA) (fun hHeld => ?_)
          clear hK K
          (try simp only [List.getElem_toArray, List.getElem_cons_zero, List.getElem_cons_succ, Act.put, List.setIfInBounds_toArray, List.set_cons_zero, List.set_cons_succ])
          refine wpAnyH_ready (rs := [4]) (by kernel_rfl) (by simp) ?_
          refine AllReadyH.cons (o := _) rfl (fun K hK => ?_) AllReadyH.nil
          (try simp only [List.getElem_toArray, List.getElem_cons_zero, List.getElem_cons_succ])
          go_simp
          refine hK.out _ _ (by exact hbA) (fun hHeld => ?_)
          clear hK K
          (try simp only [List.getElem_toArray, List.getElem_cons_zero, List.getElem_cons_succ, Act.put, List.setIfInBounds_toArray, List.set_cons_zero, List.set_cons_succ])
          refine wpAnyH_ready (rs := [10]) (by kernel_rfl) (by simp) ?_
          refine AllReadyH.cons (o := _) rfl (fun K hK => ?_) AllReadyH.nil
          refine step_q (wr.drew.alloc (.cells #[.int .u8 (y : Int)] 5)) (by rfl) _ _ 42 (by rfl) 0 5 (.int .u8 0) 1 Try.underlying42 infoU8 rfl (.slice B L cap) L (u8s E) (by rfl) HQA.out (some ⟨wr.heap.size, 0, none⟩) 1 1 [.int .u8 y] (by rfl) rfl (fun _ => src_one wr.drew y) (fun u hu => by rw [List.mem_singleton.1 hu]; rfl) (by unfold maxLen; omega) (by omega) (Nat.zero_le _) ?_
          intro v1 w1 hq hg hat
          obtain ⟨B1, c1, rfl, -⟩ := q_slice hq
          obtain ⟨d0, d1, d2, HF⟩ := stq_fin HS.out hbc hbne (HL.out) hq hg hat
          refine hK.out _ _ d2 (fun hHeld => ?_)
          clear hK K hq hg hat
          (try simp only [List.getElem_toArray, List.getElem_cons_zero, List.getElem_cons_succ, Act.put, List.setIfInBounds_toArray, List.set_cons_zero, List.set_cons_succ])
          refine tk (i := 11) (v := ?v11) rfl (by kernel_rfl) (fun _ _ _ h => h) ⟨by rfl, ?y11⟩ (by assumption) ?r11
          case y11 => (intro w_ hSw; (try dsimp only at hSw); simp only [List.getElem_toArray, List.getElem_cons_zero, List.getElem_cons_succ]; go_simp; try with_reducible rfl)
          (try simp only [List.getElem_toArray, List.getElem_cons_zero, List.getElem_cons_succ, Act.put, List.setIfInBounds_toArray, List.set_cons_zero, List.set_cons_succ])
          refine tk (i := 12) (v := ?v12) rfl (by kernel_rfl) (fun _ _ _ h => h) ⟨by rfl, ?y12⟩ (by assumption) ?r12
          case y12 => (intro w_ hSw; (try dsimp only at hSw); simp only [List.getElem_toArray, List.getElem_cons_zero, List.getElem_cons_succ]; go_simp; try with_reducible rfl)
          (try simp only [List.getElem_toArray, List.getElem_cons_zero, List.getElem_cons_succ, Act.put, List.setIfInBounds_toArray, List.set_cons_zero, List.set_cons_succ])
          refine wpAnyH_ready (rs := [13]) (by kernel_rfl) (by simp) ?_
          refine AllReadyH.cons (o := _) rfl (fun K hK => ?_) AllReadyH.nil
          (try simp only [List.getElem_toArray, List.getElem_cons_zero, List.getElem_cons_succ])
          go_simp
          refine hK.out _ _ (by exact HF.out.1) (fun hHeld => ?_)
          clear hK K
          (try simp only [List.getElem_toArray, List.getElem_cons_zero, List.getElem_cons_succ, Act.put, List.setIfInBounds_toArray, List.set_cons_zero, List.set_cons_succ])
          refine wpAnyH_done (by kernel_rfl) ?_ _
          go_wp2_with fail
          go_roundw
          case rel => exact ⟨j + 1, _, by omega, by rw [HDL.out] at hlt2; omega, by go_num, by rw [HEy.out]; exact HF.out.2.1, HT.out.trans_ HF.out.2.2⟩
          case measure => simp [intOf]; omega
      · have p1 : (0 : Int) ≤ (j : Int) := by omega
        have e2 : (L : Int) < 4096 ↔ False := ⟨fun h => by omega, False.elim⟩
        have HFin : D ++ b.take (4096 - D.length) = E := by
          rw [← HE.out, show 4096 - D.length = j from by have := HDL.out; omega]
        rw [HFin]
        clear HFin
        go_wp2_with fail
        go_end0
        exact ⟨rfl, _, HL.out ▸ HS.out, HT.out⟩
    · have HFin : D ++ b.take (4096 - D.length) = E := by
        rw [← HE.out, List.take_of_length_le (by omega), List.take_of_length_le (by omega)]
      rw [HFin]
      clear HFin
      have e2 : (j : Int) < (b.length : Int) ↔ False := ⟨fun h => by omega, False.elim⟩
      go_wp2_with fail
      go_end0
      exact ⟨rfl, _, HS.out, HT.out⟩
end Go.Proofs.Ythdahjmkkdljbaa.Sp
