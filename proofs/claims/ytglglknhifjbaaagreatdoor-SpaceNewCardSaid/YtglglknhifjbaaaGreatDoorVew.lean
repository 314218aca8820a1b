import Derived.Test.YtglglknhifjbaaaGreatDoorSns
import Derived.Test.YtglglknhifjbaaaGreatDoorQ
import Derived.Test.YtglglknhifjbaaaGreatDoorEty
namespace Go.Proofs.YtglglknhifjbaaaGreatDoor.Sp
open Go.RowKit Go.Proofs.YtglglknhifjbaaaGreatDoorW.PrintWords Go.Proofs.YtglglknhifjbaaaGreatDoorW.PrintLast Go.Proofs.YtglglknhifjbaaaGreatDoorW.PrintMore
open Go.ChangeMaps (setBlock)
set_option linter.unusedVariables false
set_option linter.unusedSimpArgs false
abbrev spV (s : Nat) : Value := .pointer (some ⟨s, 0, none⟩)
structure ManyI (w wr : World) (v : Value) (ss : List Nat) : Prop where
  row : wr.ownsRow 0 25 1 v ss.length (ss.map spV)
  lo : ∀ b, v.ownBlock = some b → w.heap.size ≤ b ∧ b < wr.heap.size
  one : ∀ j (hj : j < ss.length), ∃ lo hi, OneK lo hi wr ss[j] [(j : Int)] ∧ w.heap.size ≤ lo ∧ hi ≤ wr.heap.size ∧ ∀ b, v.ownBlock = some b → b < lo ∨ hi ≤ b
  bel : Below w.heap.size w wr
  gl : Gl w (fun _ => 0)
theorem Gl.low {w w' : World} (h : Gl w (fun _ => 0)) (hb : Below w.heap.size w w') : Gl w' (fun _ => 0) :=
  ⟨fun j hj => by rw [hb.cell (p := ⟨2, j, none⟩) h.lt]; exact h.cell j hj, Nat.lt_of_lt_of_le h.lt hb.size, rfl⟩
theorem ManyI.grow {w wr w' : World} {v : Value} {ss : List Nat} (h : ManyI w wr v ss) (hb : Below wr.heap.size wr w') : ManyI w w' v ss :=
  ⟨own_move h.row (fun k hk => hb.block k (h.lo k hk).2), fun b hb' => ⟨(h.lo b hb').1, Nat.lt_of_lt_of_le (h.lo b hb').2 hb.size⟩, fun j hj => by
    obtain ⟨lo, hi, h1, h2, h3, h4⟩ := h.one j hj
    have hg := h.gl.lt
    exact ⟨lo, hi, h1.fr (P := fun b => wr.heap.size ≤ b) ⟨hb.os, hb.tape, hb.output, hb.size, fun i hi _ => hb.block i hi⟩ (fun b hb => .inr (Nat.le_trans h3 hb)) (by have := h.bel.size; omega), h2, Nat.le_trans h3 hb.size, h4⟩, h.bel.trans (hb.mono h.bel.size), h.gl⟩
theorem ManyI.more {w wr w2 w3 : World} {v v' : Value} {ss : List Nat} {s hi : Nat} (h : ManyI w wr v ss) (hb : Below wr.heap.size wr w2) (h1 : OneK wr.heap.size hi w2 s [(ss.length : Int)]) (hhi : hi ≤ w2.heap.size) (hg : w2.grownBy w3 v.ownBlock) (hr : w3.ownsRow 0 25 1 v' (ss.length + 1) (ss.map spV ++ [spV s])) (hv : v'.ownBlock = v.ownBlock ∨ ∃ b, v'.ownBlock = some b ∧ w2.heap.size ≤ b ∧ b < w3.heap.size) : ManyI w w3 v' (ss ++ [s]) := by
  have h2 := h.grow hb
  have hgl := h.gl.lt
  have hbs := h.bel.size
  have hf : Fr (fun b => v.ownBlock = some b) w2 w3 := ⟨hg.os, hg.tape, hg.output, hg.size, fun i hi hn => hg.block i hi (fun q => hn q.symm)⟩
  have hlo' : ∀ b, v'.ownBlock = some b → (v.ownBlock = some b ∧ w.heap.size ≤ b ∧ b < wr.heap.size) ∨ (w2.heap.size ≤ b ∧ b < w3.heap.size) := fun b hb' => by
    rcases hv with e | ⟨b', e, e1, e2⟩
    · rw [e] at hb'; exact .inl ⟨hb', h.lo b hb'⟩
    · rw [e] at hb'; injection hb' with hb'; subst hb'; exact .inr ⟨e1, e2⟩
  have hz := hb.size
  refine ⟨by simpa using hr, fun b hb' => ?_, fun j hj => ?_, ?_, h.gl⟩
  · rcases hlo' b hb' with ⟨-, q1, q2⟩ | ⟨q1, q2⟩
    · exact ⟨q1, Nat.lt_of_lt_of_le q2 (Nat.le_trans hz hf.size)⟩
    · exact ⟨Nat.le_trans hbs (Nat.le_trans hz q1), q2⟩
  · by_cases hjl : j < ss.length
    · obtain ⟨lo, hi', q1, q2, q3, q4⟩ := h2.one j hjl
      obtain ⟨lo0, hi0, r1, r2, r3, r4⟩ := h.one j hjl
      rw [List.getElem_append_left hjl]
      have q1' := r1.fr (P := fun b => wr.heap.size ≤ b) ⟨hb.os, hb.tape, hb.output, hb.size, fun i hi _ => hb.block i hi⟩ (fun b hb => .inr (Nat.le_trans r3 hb)) (by omega)
      refine ⟨lo0, hi0, q1'.fr hf (fun b hb' => r4 b hb') (fun q => by have := (h.lo _ q).1; omega), r2, Nat.le_trans r3 (Nat.le_trans hz hf.size), fun b hb' => ?_⟩
      rcases hlo' b hb' with ⟨e, -, -⟩ | ⟨e, -⟩
      · exact r4 b e
      · exact .inr (by omega)
    · have hj' : j = ss.length := by simp at hj; omega
      subst hj'
      rw [List.getElem_append_right (Nat.le_refl _)]
      simp only [Nat.sub_self, List.getElem_cons_zero]
      refine ⟨wr.heap.size, hi, h1.fr hf (fun b hb' => .inl (h.lo b hb').2) (fun q => by have := (h.lo _ q).1; omega), hbs, Nat.le_trans hhi hf.size, fun b hb' => ?_⟩
      rcases hlo' b hb' with ⟨-, -, e⟩ | ⟨e, -⟩
      · exact .inl e
      · exact .inr (by omega)
  · have h3 := h2.bel
    exact ⟨hf.os.trans h3.os, hf.tape.trans h3.tape, hf.output.trans h3.output, Nat.le_trans h3.size hf.size, fun k hk => (hf.block k (Nat.lt_of_lt_of_le hk h3.size) (fun q => by have := (h.lo k q).1; omega)).trans (h3.block k hk)⟩
theorem OneK.ofRun {n0 : Nat} {w w' : World} {own : Own} {hp tp hd t : Nat} {T : Tab} {s mb : Nat} {key : List Int} {G : Gr} (h : RunPost n0 w own hp tp hd t T s mb key G w') (he : T.ents = []) : OneK n0 w'.heap.size w' s key := by
  obtain ⟨own', G', hs', bs', T', rest', c', ck', x, h1, -, -, -, ho, hk, hp'⟩ := h
  rw [he] at hp'
  have hT : T'.ents = [x] := List.perm_singleton.1 hp'
  refine ⟨own', hp, G', hs', bs', tp, hd, t, T', rest', x, h1.ht, h1.cell 4, ho, hT, hk, fun b hb => ⟨?_, ?_⟩, h1.nt, blk_lt h1.ht.ta.cell, h1.ns, blk_lt h1.hs_, blk_lt h1.hs_⟩
  · rcases Nat.lt_or_ge b n0 with q | q
    · exact absurd (h1.low b q) hb
    · exact q
  · rcases Nat.lt_or_ge b w'.heap.size with q | q
    · exact q
    · exact absurd (h1.ht.ho.top b q) hb
end Go.Proofs.YtglglknhifjbaaaGreatDoor.Sp
namespace Go.Proofs.YtglglknhifjbaaaGreatDoor.Sp
open Go.RowKit Go.Proofs.YtglglknhifjbaaaGreatDoorW.PrintWords Go.Proofs.YtglglknhifjbaaaGreatDoorW.PrintLast Go.Proofs.YtglglknhifjbaaaGreatDoorW.PrintMore
open Go.ChangeMaps (setBlock)
set_option linter.unusedVariables false
set_option linter.unusedSimpArgs false
def lenV : Value → Nat
  | .slice _ n _ => n
  | _ => 0
theorem num0_walk (w : World) (v : Int) : Calls Tryz.prog 8 #[.int .i64 v] w fun e w' => e = .returned (.int .i64 v) ∧ w = w' := by
  go_enter Tryz.func8, Tryz.ntmps8
  go_wp2_with fail
  refine bodyPost_ret (results_tmp rfl _ _ _) rfl ?_
  exact ⟨rfl, rfl⟩
theorem many_round {w wr : World} {v : Value} {ss : List Nat} {seed ib : Nat} (h : ManyI w wr v ss) (hsd : seed < 18446744073709551616) (hi : ss.length < 256) (hc : wr.cell? ⟨ib, 0, none⟩ = some (.int .i64 (ss.length : Int))) (hib : ib < wr.heap.size) :
    Calls Tryz.prog 7 #[.int .i64 256, .int .u64 (seed : Int)] wr fun e w1 => ∃ s, e = .returned (.tuple #[.pointer (some ⟨s, 0, none⟩), .int .i64 0]) ∧ Below wr.heap.size wr w1 ∧
      Hid (∀ W2, Below w1.heap.size w1 W2 → w1.heap.size < W2.heap.size → W2.cell? ⟨w1.heap.size, 0, none⟩ = some (.pointer (some ⟨s, 0, none⟩)) → Calls Tryz.prog 43 #[.pointer (some ⟨s, 0, none⟩), .int .u64 0, .func (.func 44) #[] #[.pointer (some ⟨w1.heap.size, 0, none⟩), .pointer (some ⟨ib, 0, none⟩)]] W2 fun e w3 => e = .returned (.tuple #[.agg #[.int .i64 0, .int .i64 0, .slice none 0 0, .slice none 0 0], .int .i64 0]) ∧ Below wr.heap.size wr w3 ∧ w3.cell? ⟨w1.heap.size, 0, none⟩ = some (.pointer (some ⟨s, 0, none⟩)) ∧ OneK wr.heap.size w3.heap.size w3 s [(ss.length : Int)]) := by
  have gw : Gl wr (fun _ => 0) := h.gl.low h.bel
  refine (new_walk wr 256 seed gw (by decide) (by decide) hsd).mono ?_
  rintro e w1 ⟨s, hp, mb, own, G, hs, bs, x0, x1, x2, x3, rfl, hsn, hsp, hb, ho, he, hnk, hsh, hwt, hlim⟩
  refine ⟨s, rfl, hb, Lib.hid fun W2 b2 hlt hc2 => ?_⟩
  have h2 := hsp.below b2
  have htop := hsp.ht.ho.top
  have l1 := blk_lt hsp.hs_
  have l2 := blk_lt hsp.hm
  have n1 := hsp.ns
  have n2 := hsp.nm
  have hz := hb.size
  have hib2 : W2.cell? ⟨ib, 0, none⟩ = some (.int .i64 (ss.length : Int)) := (b2.cell (p := ⟨ib, 0, none⟩) (by show ib < _; omega)).trans ((hb.cell (p := ⟨ib, 0, none⟩) hib).trans hc)
  refine (run_walk h2 rfl rfl rfl rfl (by show 64 ≤ 256; decide) (by show 256 ≤ 16384; decide) hi hc2 hib2 (htop _ (Nat.le_refl _)) (hsp.low ib hib) ⟨by omega, by omega⟩ ⟨by omega, by omega⟩ (fun a ha => by rw [he] at ha; cases ha) ho (by rw [he, hnk]; decide) (by rw [Tab.find_none, he]; intro e he'; cases he') hsh (by rw [hwt, hlim]; decide) (by rw [he]; decide)).mono ?_
  rintro e w3 ⟨rfl, hr⟩
  have hone := OneK.ofRun hr he
  obtain ⟨own', G', hs', bs', T', rest', c', ck', x, q1, q2, q3, -⟩ := hr
  refine ⟨rfl, ⟨q2.os.trans (b2.os.trans hb.os), q2.tape.trans (b2.tape.trans hb.tape), q2.output.trans (b2.output.trans hb.output), Nat.le_trans hb.size (Nat.le_trans b2.size q2.size), fun k hk => (q2.block k hk).trans ((b2.block k (by omega)).trans (hb.block k hk))⟩, ?_, hone⟩
  exact (World.cell?_of_block (w := W2) (q3.bl w1.heap.size hlt (htop _ (Nat.le_refl _)) (by omega) (by omega))).trans hc2
set_option maxHeartbeats 2000000 in
set_option maxRecDepth 100000 in
theorem many_walk (w : World) (n seed : Nat) (hn : n ≤ 64) (hsd : seed < 18446744073709551616) (g0 : Gl w (fun _ => 0)) :
    Calls Tryz.prog 12 #[.int .i64 (n : Int), .int .u64 (seed : Int)] w fun e w' => e = .returned (.bool true) ∧ Below w.heap.size w w' := by
  have HG := Lib.hid g0
  have HSD := Lib.hid hsd
  have hmf : ∀ (fn : Fn) (first cap : Array Value) (w : World), (Instr.makeFunc fn first cap).run Tryz.prog w = .ok (.func fn first cap) w := fun _ _ _ _ => rfl
  clear g0 hsd
  go_enter Tryz.func12, Tryz.ntmps12
  go_wp2_with fail
  go_loopw [5, 6] (fun v5 v6 wr => ∃ (ss : List Nat) (ib : Nat) (A : Option Addr) (c : Nat), ss.length ≤ n ∧ v6 = .pointer (some ⟨ib, 0, none⟩) ∧ v5 = .slice A ss.length c ∧ Hid (ManyI w wr (.slice A ss.length c) ss ∧ wr.heap[ib]? = some (.cells #[.int .i64 (ss.length : Int)] 3 (0, 0)) ∧ w.heap.size ≤ ib)) (fun v5 _ _ => n - lenV v5)
  case atStart =>
    refine ⟨[], w.heap.size, none, 0, Nat.zero_le _, rfl, rfl, Lib.hid ⟨⟨World.ownsRow_nil _ _ _ _, fun b hb => by simp [Value.ownBlock] at hb, fun j hj => by simp at hj, (Below.refl _ _).alloc (Nat.le_refl _) _, HG.out⟩, heap_alloc_new _ _, Nat.le_refl _⟩⟩
  case round =>
    obtain ⟨ss, ib, A, c, hle, rfl, rfl, HH⟩ := hrel
    obtain ⟨i, hi⟩ : ∃ i, ss.length = i := ⟨_, rfl⟩
    have ci : wr.cell? ⟨ib, 0, none⟩ = some (.int .i64 (i : Int)) := by rw [← hi]; simp [World.cell?, HH.out.2.1]
    have HI := Lib.hid hi
    rw [hi]
    rw [hi] at hle
    by_cases hlt : i < n
    · have hd : decide ((i : Int) < (n : Int)) = true := decide_eq_true (by omega)
      have HR := Lib.hid (many_round HH.out.1 HSD.out (by rw [hi]; omega) (by rw [hi]; exact ci) (blk_lt HH.out.2.1))
      rw [hi] at HR
      clear hi
      go_wp2_with fail
      refine HR.out.mono ?_
      rintro e w1 ⟨s, rfl, b1, HRun⟩
      have hl1 : w1.heap.size < (w1.alloc (.cells #[.pointer (some ⟨s, 0, none⟩)] 25)).heap.size := by simp
      have HRn := Lib.hid (HRun.out _ ((Below.refl _ _).alloc (Nat.le_refl _) _) hl1 (by simp only [World.cell?, heap_alloc_new]; rfl))
      have HN0 := Lib.hid fun W => num0_walk W 0
      clear HRun b1 HR hl1 ci
      go_wp2_with fail
      refine (HN0.out _).mono ?_
      rintro e w' ⟨rfl, rfl⟩
      clear HN0
      go_wp2_with fail
      refine HRn.out.mono ?_
      rintro e w3 ⟨rfl, b3, c7, h1⟩
      have hM3 := HH.out.1.grow b3
      have hrow : w3.ownsRow 0 25 1 (.slice A i c) i (ss.map spV) := by rw [← HI.out]; exact hM3.row
      have hne : ∀ b, (Value.slice A i c).ownBlock = some b → b ≠ ib := fun b hb q => by
        obtain ⟨cells, hq⟩ := own_typed hrow b hb
        have h2 := (b3.block ib (blk_lt HH.out.2.1)).trans HH.out.2.1
        rw [q, h2] at hq
        injection hq with hq
        injection hq with q1 q2 q3
        exact absurd q2 (by decide)
      have hib3 := (b3.block ib (blk_lt HH.out.2.1)).trans HH.out.2.1
      have HRow := Lib.hid hrow
      have HIB := Lib.hid (And.intro hib3 hne)
      have HB3 := Lib.hid (And.intro b3 h1)
      have hw1 : IntKind.i64.wrap ((i : Int) + 1) = ((i + 1 : Nat) : Int) := by rw [show (i : Int) + 1 = ((i + 1 : Nat) : Int) by omega]; exact Go.IntWalk.i64_in _ (by omega)
      clear HRn b3 h1 hM3 hrow hne hib3
      go_upto_region 10 with (at_builtin; refine wpList_pushRow w3 rfl _ _ 97 25 (.pointer none) 1 8 rfl Tryz.underlying97 (by kernel_rfl) rfl (by decide) (.slice A i c) i (ss.map spV) [.pointer (some ⟨s, 0, none⟩)] rfl (one_cell _ rfl) (by rfl) w3.heap.size rfl (by rfl) HRow.out (by omega) (by unfold maxLen; omega) ?_; intro g2 c2 w4 hr4 hg4 hat4)
      have hib4 : w4.heap[ib]? = some (.cells #[.int .i64 (ss.length : Int)] 3 (0, 0)) := (hg4.block ib (blk_lt HIB.out.1) (fun q => HIB.out.2 ib q.symm rfl)).trans HIB.out.1
      rw [HI.out] at hib4
      have c6 : w4.cell? ⟨ib, 0, none⟩ = some (.int .i64 (i : Int)) := by simp [World.cell?, hib4]
      have H4 := Lib.hid (And.intro hr4 (And.intro hg4 hat4))
      clear hr4 hg4 hat4 hib4 c7
      go_wp2_with fail
      obtain ⟨hr4, hg4, hat4⟩ := H4.out
      obtain ⟨b3, h1⟩ := HB3.out
      have hI := HI.out
      have hM := HH.out.1.more (v' := .slice (some ⟨g2, 0, none⟩) (i + 1) c2) (w3 := w4) b3 (by rw [hI]; exact h1) (Nat.le_refl _) (by rw [hI]; exact hg4) (by rw [hI]; exact hr4) (by
        rcases hat4 with q | q
        · exact .inl (by rw [hI]; exact q.symm)
        · refine .inr ⟨g2, rfl, q, ?_⟩
          obtain ⟨cells, hq⟩ := own_typed hr4 g2 rfl
          exact blk_lt hq)
      have hl2 : (ss ++ [s]).length = i + 1 := by rw [List.length_append, hI]; rfl
      have hM2 := hM.grow ((Below.refl w4.heap.size w4).alloc (Nat.le_refl _) (.cells #[.int .i64 ((i : Int) + 1)] 3))
      refine ⟨⟨ss ++ [s], w4.heap.size, some ⟨g2, 0, none⟩, c2, by omega, rfl, by rw [hl2], Lib.hid ⟨by rw [hl2]; exact hM2, ?_, hM.bel.size⟩⟩, ?_⟩
      · rw [hl2, heap_alloc_new, show (i : Int) + 1 = ((i + 1 : Nat) : Int) by omega]
      · show n - (i + 1) < n - i
        omega
    · have hd : decide ((i : Int) < (n : Int)) = false := decide_eq_false (by omega)
      have HIN : Hid (i = n) := Lib.hid (by omega)
      obtain ⟨hM, -, -⟩ := HH.out
      rw [HI.out] at hM
      have HM := Lib.hid hM
      clear hM hi
      go_wp2_with fail
      clear ci
      go_loopw [9] (fun v9 wr2 => ∃ j : Nat, j ≤ n ∧ v9 = .int .i64 (j : Int) ∧ Hid (ManyI w wr2 (.slice A i c) ss)) (fun v9 _ => n - (intOf v9).toNat)
      case atStart => exact ⟨0, Nat.zero_le _, rfl, HM.out⟩
      case round =>
        obtain ⟨j, hj, rfl, HJ⟩ := hrel
        by_cases hjl : j < n
        · have hd2 : decide ((j : Int) < (n : Int)) = true := decide_eq_true (by omega)
          have hin := HIN.out
          obtain ⟨g, cap, hv, hca, hgl, hcell, -⟩ := own_cells HJ.out.row (by rw [HI.out]; omega)
          injection hv with e1 e2 e3
          subst e1
          subst e3
          have hjs : j < ss.length := by rw [HI.out]; omega
          have hcj := hcell j (by simpa using hjs)
          simp only [List.getElem_map] at hcj
          obtain ⟨sj, hsj⟩ : ∃ sj, ss[j] = sj := ⟨_, rfl⟩
          obtain ⟨lo, hi', hone, -, -, -⟩ := HJ.out.one j hjs
          rw [hsj] at hone hcj
          have HMi := Lib.hid (mine_walk hone (by omega))
          have p1 : (0 : Int) ≤ (j : Int) := by omega
          have p2 : (j : Int) < (i : Int) := by omega
          clear hcell hgl hca hsj hone hjs e2 hin
          go_wp2_with fail
          refine HMi.out.mono ?_
          rintro e w2 ⟨rfl, hb⟩
          have HB := Lib.hid (HJ.out.grow hb)
          clear HMi hb hcj
          go_wp2_with fail
          go_roundw
          case rel => exact ⟨j + 1, by omega, by go_num, HB.out⟩
          case measure => simp [intOf]; omega
        · have hd2 : decide ((j : Int) < (n : Int)) = false := decide_eq_false (by omega)
          go_wp2_with fail
          refine bodyPost_ret (results_tmp rfl _ _ _) rfl ?_
          exact ⟨rfl, HJ.out.bel⟩
end Go.Proofs.YtglglknhifjbaaaGreatDoor.Sp
namespace Go.Proofs.YtglglknhifjbaaaGreatDoor.Sp
open Go.RowKit Go.Proofs.YtglglknhifjbaaaGreatDoorW.PrintWords Go.Proofs.YtglglknhifjbaaaGreatDoorW.PrintLast Go.Proofs.YtglglknhifjbaaaGreatDoorW.PrintMore
set_option linter.unusedVariables false
set_option linter.unusedSimpArgs false
abbrev stW (w : World) (M : HM) (k : Nat) : World := (w.alloc (.cells #[.int .i64 0, .int .i64 0, .int .i64 0, .int .i64 0, .int .i64 0, .int .i64 0, .int .i64 0, .int .i64 0, .int .i64 0] 33)).alloc (.cells #[.int .i64 (M.limit : Int), .int .i64 (M.half.size : Int), .int .i64 (usedOf M.half.objs : Int), .int .i64 (M.large : Int), .int .i64 (k : Int), .int .i64 (M.nroots : Int), .int .i64 M.ncoll, .int .i64 M.nres, .int .i64 M.moved] 33)
set_option maxHeartbeats 4000000 in
set_option maxRecDepth 100000 in
theorem stats_any (w : World) (own : Own) (hp : Nat) (M : HM) (x : HX) (H : HMem w own hp M x) (hbl : x.bl.length ≤ 1048576) :
    Calls Tryz.prog 10 #[.pointer (some ⟨hp, 0, none⟩)] w (StatsPost w M) := by
  have hlt := blk_lt H.hd
  have c0 := H.c0; have c1 := H.c1; have c3 := H.c3; have c6 := H.c6
  have hrb := H.rb.1
  obtain ⟨nb, hnb⟩ : ∃ nb, x.bl.length = nb := ⟨_, rfl⟩
  have hrb' := hrb
  rw [hnb] at hrb hbl
  obtain ⟨A, cap, hv⟩ := own_slice hrb
  rw [hv] at c3
  have d : ∀ i, w.cell? ⟨hp, 10 + i, none⟩ = (#[.int .i64 0, .int .i64 0, .int .i64 0, .int .i64 0, .int .i64 0, .int .i64 (M.nroots : Int), .int .i64 M.ncoll, .int .i64 M.nres, .int .i64 M.moved] : Array Value)[i]? := fun i => by
    simp only [World.cell?, H.hd]
    simp [Nat.add_comm]
  have d0 : w.cell? ⟨hp, 10, none⟩ = some (.int .i64 0) := d 0; have d1 := d 1; have d2 := d 2; have d3 := d 3; have d4 := d 4; have d5 := d 5; have d6 := d 6; have d7 := d 7; have d8 := d 8
  simp at d1 d2 d3 d4 d5 d6 d7 d8
  have hu := Tryz.underlying33
  have HH := Lib.hid H
  have HRB := Lib.hid hrb
  have HV := Lib.hid hv
  have HNB := Lib.hid hnb
  clear H hv hrb hrb' d hnb
  go_enter Tryz.func10, Tryz.ntmps10
  have hA := fun o1 o2 => ((HH.out.alloc o1).alloc o2).half
  have HA := Lib.hid hA
  clear hA
  go_wp2_with fail
  refine (size_walk _ own x.ah x.ph M.half.size M.half.objs (HA.out _ _)).mono ?_
  rintro e w' ⟨rfl, rfl⟩
  go_wp2_with fail
  refine (used_walk _ own x.ah x.ph M.half.size M.half.objs ((HH.out.alloc _).alloc _).half).mono ?_
  rintro e w' ⟨rfl, rfl⟩
  go_wp2_with fail
  go_loopw [36] (fun v36 wr => ∃ (j k : Nat), j ≤ nb ∧ k ≤ j ∧ v36 = .int .i64 (j : Int) ∧ wr = stW w M k) (fun v36 _ => nb - (intOf v36).toNat)
  case atStart => exact ⟨0, 0, Nat.zero_le _, Nat.le_refl _, rfl, rfl⟩
  case round =>
    obtain ⟨j, k, hj, hk, rfl, rfl⟩ := hrel
    by_cases hjl : j < nb
    · have hd2 : decide ((j : Int) < (nb : Int)) = true := decide_eq_true (by omega)
      obtain ⟨g, cap', hv', -, hgl, hcell, -⟩ := own_cells HRB.out (by omega)
      have hvv := HV.out.symm.trans hv'
      injection hvv with q1 q2 q3
      subst q1
      have hcj := hcell j (by simp; have := HNB.out; omega)
      simp only [List.getElem_map] at hcj
      have hw1 : IntKind.i64.wrap ((k : Int) + 1) = ((k + 1 : Nat) : Int) := by rw [show (k : Int) + 1 = ((k + 1 : Nat) : Int) by omega]; exact Go.IntWalk.i64_in _ (by omega)
      have p1 : (0 : Int) ≤ (j : Int) := by omega
      have p2 : (j : Int) < (nb : Int) := by omega
      have HB2 := Lib.hid (And.intro hj hk)
      clear hcell hv' q2
      subst q3
      rcases hq : x.bl[j]'(by have := HNB.out; omega) with _ | ⟨p, a⟩
      · rw [hq] at hcj
        unfold ptrV at hcj
        clear hq
        go_wp2_with fail
        go_roundw
        case rel => exact ⟨j + 1, k, by omega, by omega, by go_num, rfl⟩
        case measure => simp [intOf]; omega
      · rw [hq] at hcj
        unfold ptrV at hcj
        clear hq
        go_wp2_with fail
        go_roundw
        case rel => exact ⟨j + 1, k + 1, by omega, by omega, by go_num, rfl⟩
        case measure => simp [intOf]; omega
    · have hd2 : decide ((j : Int) < (nb : Int)) = false := decide_eq_false (by omega)
      go_wp2_with fail
      refine bodyPost_ret (v := .agg #[.int .i64 (M.limit : Int), .int .i64 (M.half.size : Int), .int .i64 (usedOf M.half.objs : Int), .int .i64 (M.large : Int), .int .i64 (k : Int), .int .i64 (M.nroots : Int), .int .i64 M.ncoll, .int .i64 M.nres, .int .i64 M.moved]) (by simp [results, Tryz.results10, go_sem]) rfl ⟨?_, k, rfl⟩
      exact ((Below.refl _ w).alloc (Nat.le_refl _) _).alloc (by simp) _
theorem statsG_walk {w : World} {own : Own} {hp : Nat} {G : Gr} {hs : List Nat} {bs : List (Option Nat)} (H : HO w own hp G hs bs) :
    Calls Tryz.prog 10 #[.pointer (some ⟨hp, 0, none⟩)] w fun e w' => Below w.heap.size w w' ∧ ∃ (half used large nr : Nat) (k nc nz mv : Int), (∀ L : List Nat, (∀ i, Live hs bs i → i ∈ L) → used + large ≤ 1 + (L.map G.wt).sum) ∧
      e = .returned (.agg #[.int .i64 (G.limit : Int), .int .i64 (half : Int), .int .i64 (used : Int), .int .i64 (large : Int), .int .i64 k, .int .i64 (nr : Int), .int .i64 nc, .int .i64 nz, .int .i64 mv]) := by
  obtain ⟨M, x, hM, R⟩ := H
  refine (stats_any w own hp M x hM (by
    have h1 := hM.blk.1
    have h2 := R.blocks
    have h3 := R.blen
    rw [h2] at h1
    simp at h1
    omega)).mono ?_
  rintro e w' ⟨hb, k, rfl⟩
  exact ⟨hb, M.half.size, usedOf M.half.objs, M.large, M.nroots, k, M.ncoll, M.nres, M.moved, fun L hL => R.words L hL, by rw [R.lim]⟩
end Go.Proofs.YtglglknhifjbaaaGreatDoor.Sp

namespace Go.Proofs.YtglglknhifjbaaaGreatDoor.Sp
open Go.RowKit Go.Proofs.YtglglknhifjbaaaGreatDoorW.PrintWords Go.Proofs.YtglglknhifjbaaaGreatDoorW.PrintLast Go.Proofs.YtglglknhifjbaaaGreatDoorW.PrintMore
open Go.ChangeMaps (setBlock)
set_option linter.unusedVariables false
set_option linter.unusedSimpArgs false
set_option maxHeartbeats 1000000 in
set_option maxRecDepth 100000 in
theorem spaceNew_out (w : World) (q m : Int) (seed : Nat) (hq : q < 256 ∨ 16384 < q) :
    Calls Tryz.prog 3 #[.agg #[.int .i64 q, .int .u64 (seed : Int), .int .i64 m]] w fun e w' => e = .returned (.bool true) ∧ Below w.heap.size w w' := by
  have HN := Lib.hid fun W => new_refused W q seed hq
  have HM := Lib.hid fun W => num0_walk W 100
  rcases hq with hq | hq
  · have h1 : decide (q < 256) = true := decide_eq_true hq
    go_enter Tryz.func3, Tryz.ntmps3
    go_wp2_with fail
    refine (HN.out _).mono ?_
    rintro e w' ⟨rfl, rfl⟩
    go_wp2_with fail
    refine (HM.out _).mono ?_
    rintro e w' ⟨rfl, rfl⟩
    go_wp2_with fail
    refine bodyPost_ret (results_tmp rfl _ _ _) rfl ?_
    exact ⟨rfl, (Below.refl _ _).alloc (Nat.le_refl _) _⟩
  · have h1 : decide (q < 256) = false := decide_eq_false (by omega)
    have h2 : decide (16384 < q) = true := decide_eq_true hq
    go_enter Tryz.func3, Tryz.ntmps3
    go_wp2_with fail
    refine (HN.out _).mono ?_
    rintro e w' ⟨rfl, rfl⟩
    go_wp2_with fail
    refine (HM.out _).mono ?_
    rintro e w' ⟨rfl, rfl⟩
    go_wp2_with fail
    refine bodyPost_ret (results_tmp rfl _ _ _) rfl ?_
    exact ⟨rfl, (Below.refl _ _).alloc (Nat.le_refl _) _⟩
end Go.Proofs.YtglglknhifjbaaaGreatDoor.Sp
namespace Go.Proofs.YtglglknhifjbaaaGreatDoor.Sp
open Go.RowKit Go.Proofs.YtglglknhifjbaaaGreatDoorW.PrintWords Go.Proofs.YtglglknhifjbaaaGreatDoorW.PrintLast Go.Proofs.YtglglknhifjbaaaGreatDoorW.PrintMore
open Go.ChangeMaps (setBlock)
set_option linter.unusedVariables false
set_option linter.unusedSimpArgs false
theorem wrapI {x : Int} (h0 : -9223372036854775808 ≤ x) (h1 : x ≤ 9223372036854775807) : IntKind.i64.wrap x = x := Go.IntWalk.i64_in _ (by omega)
set_option maxHeartbeats 2000000 in
theorem into_walk (w : World) (n m : Int) (hn0 : -9223372036854775808 ≤ n) (hn1 : n ≤ 9223372036854775807) (hm0 : 0 < m) (hm1 : m ≤ 1000000) :
    Calls Tryz.prog 13 #[.int .i64 n, .int .i64 m] w fun e w' => e = .returned (.int .i64 (n % m)) ∧ w = w' := by
  have hz : (m == 0) = false := by rw [beq_eq_false_iff_ne]; omega
  have hz' : ¬ m = 0 := by omega
  have hz2 : m ≠ -1 := by omega
  obtain ⟨r, hr⟩ : ∃ r, n.tmod m = r := ⟨_, rfl⟩
  have hlt : r < m ∧ -m < r := by
    subst hr
    have h1 := Int.tmod_lt_of_pos n hm0
    refine ⟨h1, ?_⟩
    have h2 := Int.tmod_lt_of_pos (-n) hm0
    rw [Int.neg_tmod] at h2
    omega
  have hw := wrapI (x := r) (by omega) (by omega)
  have hw2 := wrapI (x := r + m) (by omega) (by omega)
  have hfin : n % m = if r < 0 then r + m else r := by
    have h3 := Int.mul_tdiv_add_tmod n m
    rw [hr] at h3
    have h4 : n % m = r % m := by rw [← h3, Int.add_comm, Int.add_mul_emod_self_left]
    rw [h4]
    split
    · rename_i h
      rw [← Int.add_emod_right, Int.emod_eq_of_lt (by omega) (by omega)]
    · rename_i h
      rw [Int.emod_eq_of_lt (by omega) (by omega)]
  have HF := Lib.hid hfin
  clear hfin
  go_enter Tryz.func13, Tryz.ntmps13
  by_cases hneg : r < 0
  · go_wp2_with fail
    go_ret
    exact ⟨congrArg (fun x : Int => Ending.returned (.int .i64 x)) (show r + m = n % m by rw [HF.out, if_pos hneg]), rfl⟩
  · go_wp2_with fail
    go_ret
    exact ⟨congrArg (fun x : Int => Ending.returned (.int .i64 x)) (show r = n % m by rw [HF.out, if_neg (by omega)]), rfl⟩
theorem keys_none {w : World} {own : Own} {hp : Nat} {G : Gr} {hs : List Nat} {bs : List (Option Nat)} {tp hd t : Nat} {T : Tab} {rest : Plan} {s db : Nat} (hdb : db < 4) (ht : HT w own hp G hs bs tp hd t T rest) (hc : w.cell? ⟨s, 4 + db, none⟩ = some (.pointer (some ⟨tp, 0, none⟩))) (ho : T.oid = 0) (he : T.ents = []) :
    Calls Tryz.prog 48 #[.pointer (some ⟨s, 0, none⟩), .int .i64 (db : Int)] w fun e w' => ∃ v, e = .returned v ∧ (∃ A c, v = .slice A 0 c) ∧ Below w.heap.size w w' := by
  have hks := keys_walk (enC ht.ho ht.gl ht.ta ht.hh ht.tst ht.sat (Nat.le_refl _) ht.ho.top (blk_lt ht.ta.cell) ht.gl.lt (by have := ht.en; omega)) ht.ok (pl_zero ht.ho.lay) (fun q => absurd ho q) (by have := ht.en; omega)
  refine spKeys_walk (fun v w' => (∃ A c, v = .slice A 0 c) ∧ Below w.heap.size w w') hdb hc (hks.mono ?_)
  rintro e w' ⟨v, ks, rfl, ⟨row, -, -⟩, hp', -, hb⟩
  rw [he] at hp'
  have hk : ks = [] := by
    have := hp'.length_eq
    simp at this
    exact this
  subst hk
  obtain ⟨A, c, hv⟩ := own_slice row
  exact ⟨v, rfl, ⟨A, c, hv⟩, hb⟩
set_option maxHeartbeats 2000000 in
set_option maxRecDepth 100000 in
theorem view_walk {w : World} {s : Nat} (HK : ∀ W (db : Nat), Below w.heap.size w W → db < 4 → Calls Tryz.prog 48 #[.pointer (some ⟨s, 0, none⟩), .int .i64 (db : Int)] W fun e w' => ∃ v, e = .returned v ∧ (∃ A c, v = .slice A 0 c) ∧ Below W.heap.size W w') :
    Calls Tryz.prog 18 #[.pointer (some ⟨s, 0, none⟩)] w fun e w' => e = .returned (.slice none 0 0) ∧ Below w.heap.size w w' := by
  have HK0 := Lib.hid HK
  clear HK
  go_enter Tryz.func18, Tryz.ntmps18
  go_wp2_with fail
  go_loopw [3, 4] (fun v3 v4 wr => ∃ db : Nat, db ≤ 4 ∧ v3 = .slice none 0 0 ∧ v4 = .int .i64 (db : Int) ∧ Hid (Below w.heap.size w wr)) (fun _ v4 _ => 4 - (intOf v4).toNat)
  case atStart => exact ⟨0, by omega, rfl, rfl, Below.refl _ _⟩
  case round =>
    obtain ⟨db, hdb, rfl, rfl, HB⟩ := hrel
    by_cases hlt : db < 4
    · have hd2 : decide ((db : Int) < 4) = true := decide_eq_true (by omega)
      have HKi := Lib.hid (HK0.out wr db HB.out hlt)
      go_wp2_with fail
      refine HKi.out.mono ?_
      rintro e w' ⟨v, rfl, ⟨A, c, rfl⟩, hb⟩
      have HB2 := Lib.hid (HB.out.trans (hb.mono HB.out.size))
      clear hb HKi
      go_wp2_with fail
      refine wp_loop_rounds 1 ?_
      rw [rounds_succ]
      go_wp2_with fail
      go_roundw
      case rel => exact ⟨db + 1, by omega, rfl, by go_num, HB2.out⟩
      case measure => simp [intOf]; omega
    · have hd2 : decide ((db : Int) < 4) = false := decide_eq_false (by omega)
      go_wp2_with fail
      refine bodyPost_ret (results_tmp rfl _ _ _) rfl ?_
      exact ⟨rfl, HB.out⟩
end Go.Proofs.YtglglknhifjbaaaGreatDoor.Sp
