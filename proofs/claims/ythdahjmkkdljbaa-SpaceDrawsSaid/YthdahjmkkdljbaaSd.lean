/- larderlaw10.SpaceDraws, walked. -/
import Derived.Test.YthdahjmkkdljbaaCore
import Derived.Deep.RegionHeld3
namespace Go.Proofs.Ythdahjmkkdljbaa.Sp
open Go.RowKit Go.Proofs.YthdahjmkkdljbaaW.PrintWords Go.Proofs.YthdahjmkkdljbaaW.PrintLast Go.Proofs.YthdahjmkkdljbaaW.PrintMore
set_option linter.unusedVariables false
set_option linter.unusedSimpArgs false
def allL (j : Nat) : List Int := (List.range j).map (fun i : Nat => (i : Int))
theorem allL_succ (j : Nat) : u8s (allL (j + 1)) = u8s (allL j) ++ [.int .u8 (j : Int)] := by simp [allL, u8s, List.range_succ]
theorem allL_len (j : Nat) : (allL j).length = j := by simp [allL]
theorem allL_by (j : Nat) (h : j ≤ 256) : By (allL j) := fun d hd => by
  obtain ⟨i, hi, rfl⟩ := List.mem_map.1 hd
  have := List.mem_range.1 hi
  omega
/-- Where the lists of the input lie. -/
def Feed (w : World) (CA : Option Addr) (n : Nat) : Prop := 0 < n → ∃ ca, CA = some ca ∧ ∀ k, k < n → ∃ A b c, w.cell? (ca.add k) = some (.slice A b.length c) ∧ b.length ≤ c ∧ Kd.C (Kd.int .u8) w A b.length b ∧ By b
theorem q_C {w : World} {base n c : Nat} {A : Option Addr} {l : List Int} (h : QRow w base 5 1 (.slice A n c) n (u8s l)) (hn : l.length = n) (hm : n ≤ 140737488351232) : Kd.C (Kd.int .u8) w A l.length l := by
  refine Kd.C_of_reads (d := (0 : Int)) (h1 := fun _ => rfl) ⟨rfl, by omega, fun h0 => ?_⟩
  obtain ⟨ad, e, hcell⟩ := q_cells h (by omega)
  refine ⟨ad, e, fun j hj => hcell j _ ?_⟩
  simp [u8s, hj, List.getD_eq_getElem?_getD]
structure AllQ (w1 wr : World) (v : Value) (j : Nat) : Prop where
  q : QRow wr w1.heap.size 5 1 v j (u8s (allL j))
  bel : Below w1.heap.size w1 wr
theorem all_push {w1 wr w2 : World} {j cap c2 : Nat} {B B2 : Option Addr} (h : AllQ w1 wr (.slice B j cap) j) (hq : QRow w2 w1.heap.size 5 1 (.slice B2 (j + 1) c2) (j + 1) (u8s (allL j) ++ [.int .u8 (j : Int)])) (hg : (wr.alloc (.cells #[.int .u8 (j : Int)] 5)).grownBy w2 (Value.slice B j cap).ownBlock) : AllQ w1 w2 (.slice B2 (j + 1) c2) (j + 1) := by
  refine ⟨by rw [allL_succ]; exact hq, hg.os.trans h.bel.os, hg.tape.trans h.bel.tape, hg.output.trans h.bel.output, ?_, fun i hi => ?_⟩
  · have h1 := hg.size; have h2 := h.bel.size; simp at h1; omega
  · have hs := h.bel.size
    rw [hg.block i (by simp; omega) (fun e => by have := (q_typed h.q i e.symm).1; omega), Below.heap_alloc wr _ i (by omega), h.bel.block i hi]
/-- What stands when the first list of the loop is drawn. -/
structure Start (w wN : World) (t s rs pb : Nat) (C : Array Value) (A : Option Addr) (cap : Nat) (CA : Option Addr) (n cC : Nat) (takes : Int) : Prop where
  c0 : ∀ wr, StG wr t C (.slice none 0 0) (.slice none 0 0) → wr.cell? ⟨t, 0, none⟩ = some (.pointer (some ⟨s, 0, none⟩))
  c2 : ∀ wr vG vW, StG wr t C vG vW → wr.cell? ⟨t, 0, none⟩ = some (.pointer (some ⟨s, 0, none⟩)) ∧ wr.cell? ⟨t, 2, none⟩ = some (.pointer (some ⟨rs, 0, none⟩))
  hpb : w.heap.size = pb ∧ pb < t
  all : Src wN t s rs A 256 cap (allL 256)
  p1 : wN.cell? ⟨pb, 1, none⟩ = some (.slice CA n cC)
  p2 : wN.cell? ⟨pb, 2, none⟩ = some (.int .i64 takes)
  bel : Below w.heap.size w wN
theorem sd_start {w wb w1 wN : World} {t s rs n cC cap : Nat} {C C1 C2 : Array Value} {A CA : Option Addr} {takes : Int} {seed : Int} {bo : Obj} (HB : BegQ wb w1 t s rs C C1 C2) (hwb : wb = (w.alloc (.cells #[.int .u64 seed, .slice CA n cC, .int .i64 takes] 25)).alloc bo) (H : AllQ w1 wN (.slice A 256 cap) 256) :
    Hid (Start w wN t s rs w.heap.size C A cap CA n cC takes) ∧ Hid (Lp wN wN t s rs C1 C2 (.slice none 0 0) (.slice none 0 0) [] []) ∧ Hid (StG wN t C (.slice none 0 0) (.slice none 0 0)) := by
  subst hwb
  have ht := HB.tn; have hs := HB.sn; have hr := HB.rn
  simp at ht
  have hrl := blk_lt HB.rf.hs
  have hb1 := HB.bel.size; have hb2 := H.bel.size
  simp at hb1
  have p0 : ((w.alloc (.cells #[.int .u64 seed, .slice CA n cC, .int .i64 takes] 25)).alloc bo).heap[w.heap.size]? = some (.cells #[.int .u64 seed, .slice CA n cC, .int .i64 takes] 25 (0, 0)) := by
    rw [alloc_at, if_neg (by simp), alloc_at, if_pos rfl]
  have p1 := (H.bel.block _ (by omega)).trans ((HB.bel.block _ (by simp; omega)).trans p0)
  have F1 : Fr (fun _ => False) w1 wN := Fr.below H.bel
  have hcell : ∀ wr vG vW, StG wr t C vG vW → wr.cell? ⟨t, 0, none⟩ = some (.pointer (some ⟨s, 0, none⟩)) ∧ wr.cell? ⟨t, 2, none⟩ = some (.pointer (some ⟨rs, 0, none⟩)) := fun wr vG vW S => by
    have a0 := HB.c0; have a2 := HB.c2
    simp only [World.cell?, HB.st.hs, StC] at a0 a2
    simp only [World.cell?, S.hs, StC]
    simp at a0 a2 ⊢
    exact ⟨a0, a2⟩
  refine ⟨⟨fun wr S => (hcell wr _ _ S).1, hcell, ⟨rfl, by omega⟩, ⟨q_C H.q (allL_len _) (by decide), allL_len _, ?_, by decide, allL_by _ (by decide), fun h0 ad ha => ?_⟩, by simp only [World.cell?, p1]; rfl, by simp only [World.cell?, p1]; rfl, ?_⟩, ⟨⟨Fr.refl _ wN, ⟨(H.bel.block _ (blk_lt HB.sp.hs)).trans HB.sp.hs, HB.sp.size, qnil _ _ _⟩, ⟨(H.bel.block _ hrl).trans HB.rf.hs, HB.rf.size, qnil _ _ _⟩, fun k hk => by simp [Value.ownBlock] at hk, fun k hk => by simp [Value.ownBlock] at hk, fun k hk => by simp [Value.ownBlock] at hk, hs, hr, by omega⟩, by decide, by decide, fun d hd => by simp at hd, fun d hd => by simp at hd⟩, HB.st.fr F1 (fun h => h)⟩
  · obtain ⟨B', c', e, hle⟩ := q_slice H.q
    injection e with _ _ e
    omega
  · obtain ⟨h1, cells, h2⟩ := q_typed H.q ad.block (by rw [ha]; rfl)
    have := blk_lt h2
    omega
  · refine ⟨H.bel.os.trans HB.bel.os, H.bel.tape.trans HB.bel.tape, H.bel.output.trans HB.bel.output, by omega, fun i hi => ?_⟩
    rw [H.bel.block i (by omega), HB.bel.block i (by simp; omega), Below.heap_alloc _ _ _ (by simp; omega), Below.heap_alloc _ _ _ hi]
section
variable {w wN wr : World} {t s rs pb n cC cap : Nat} {C C1 C2 : Array Value} {v v' : Value} {D E : List Int} {A CA : Option Addr} {takes : Int}
theorem sd_p {a : Addr} {u : Value} (h : Lp wN wr t s rs C1 C2 v v' D E) (hc : wN.cell? a = some u) (hp : a.block < t) : wr.cell? a = some u := by
  have h1 := h.core.ts; have h2 := h.core.sr; have h3 := h.core.rN
  rw [h.core.F.cell (by omega) (by omega)]
  exact hc
theorem sd_p' {a : Addr} {u : Value} (h : Lp wN wr t s rs C1 C2 v v' D E) (hb : Below w.heap.size w wN) (hp : w.heap.size = pb ∧ pb < t) (hc : w.cell? a = some u) : wr.cell? a = some u := by
  have hlt := World.block_lt_of_cell? w _ hc
  refine sd_p h ?_ (by omega)
  rw [World.cell?_of_block (hb.block _ hlt)]
  exact hc
theorem sd_bel (h : Lp wN wr t s rs C1 C2 v v' D E) (hb : Below w.heap.size w wN) (hp : w.heap.size = pb ∧ pb < t) : Below w.heap.size w wr := by
  have h1 := h.core.ts; have h2 := h.core.sr; have h3 := h.core.rN
  have hs := hb.size
  refine ⟨h.core.F.os.trans hb.os, h.core.F.tape.trans hb.tape, h.core.F.output.trans hb.output, Nat.le_trans hs h.core.F.size, fun i hi => ?_⟩
  rw [h.core.F.block i (by omega) (by omega)]
  exact hb.block i hi
theorem sd_src {c : Nat} {b : List Int} {A' : Option Addr} (ST : Start w wN t s rs pb C A cap CA n cC takes) (hts : t < s) (hsr : s < rs) (hK : Kd.C (Kd.int .u8) w A' b.length b) (hc : b.length ≤ c) (hb : By b) (hm : b.length ≤ 3000) : Src wN t s rs A' b.length c b := by
  have hs := ST.bel.size; have hp := ST.hpb
  refine ⟨kd_fr hK (Fr.below (P := fun _ => False) ST.bel) (fun _ _ _ h => h), rfl, hc, hm, hb, fun h0 ad ha => ?_⟩
  obtain ⟨ad', e, hcell⟩ := u8s_src hK h0
  rw [ha] at e
  injection e with e
  subst e
  have h1 := World.block_lt_of_cell? w _ (hcell 0 _ (by unfold u8s; rw [List.getElem?_map, List.getElem?_eq_getElem h0]; rfl))
  rw [add_zero_] at h1
  omega
theorem sd_srcT {c : Nat} {b : List Int} {A' : Option Addr} (ST : Start w wN t s rs pb C A cap CA n cC takes) (hts : t < s) (hsr : s < rs) (hK : Kd.C (Kd.int .u8) w A' b.length b) (hc : b.length ≤ c) (hb : By b) (hm : 3000 ≤ b.length) : Src wN t s rs A' 3000 c (b.take 3000) := by
  have hl : (b.take 3000).length = 3000 := by simp; omega
  have := sd_src ST hts hsr (kd_take hK 3000 hm) (c := c) (by omega) (fun d hd => hb d (List.mem_of_mem_take hd)) (by omega)
  rw [hl] at this
  exact this
end
set_option maxHeartbeats 1000000 in
set_option maxRecDepth 100000 in
theorem draws_ok (w : World) (seed : Nat) (hs : seed < 18446744073709551616) (CA : Option Addr) (n cC : Nat) (takes : Int) (ht0 : -9223372036854775808 ≤ takes) (ht1 : takes ≤ 9223372036854775807) (hn : (n : Int) ≤ 9223372036854775807) (hF : Feed w CA n) :
    Calls Try.prog 3 #[.agg #[.int .u64 (seed : Int), .slice CA n cC, .int .i64 takes]] w fun e w' => e = .returned (.bool true) ∧ Below w.heap.size w w' := by
  have HF := Lib.hid hF
  clear hF
  go_enter Try.func3, Try.ntmps3
  go_wp2_with fail
  refine (beginq_walk _ seed hs _).mono ?_
  rintro e w1 ⟨t, s, rs, C, C1, C2, rfl, HB⟩
  have B1 := Lib.hid HB
  clear HB
  go_wp2_with fail
  go_loopw [5, 6] (fun v5 v6 wr => ∃ (j : Nat), j ≤ 256 ∧ v6 = .int .i64 (j : Int) ∧ Hid (AllQ w1 wr v5 j)) (fun _ v6 _ => 256 - (intOf v6).toNat)
  case atStart => exact ⟨0, by omega, rfl, qnil _ _ _, Below.refl _ _⟩
  case round =>
    obtain ⟨j, hj, rfl, HQ⟩ := hrel
    obtain ⟨B, cap, hv, hle⟩ := q_slice HQ.out.q
    subst hv
    by_cases hlt : j < 256
    · have hw8 : IntKind.u8.wrap (j : Int) = (j : Int) := by rw [IntKind.wrap_u8]; omega
      go_wp2_with (at_builtin; refine wpList_q _ rfl _ _ 42 rfl w1.heap.size 5 (.int .u8 0) 1 Try.underlying42 infoU8 rfl (.slice B j cap) j (u8s (allL j)) rfl (q_move HQ.out.q (fun k hk => by obtain ⟨_, cells, hc⟩ := q_typed HQ.out.q k hk; exact Below.heap_alloc _ _ _ (blk_lt hc))) _ 1 1 [.int .u8 (j : Int)] rfl rfl (fun _ => src_gen _ _ 5) (fun u hu => by rw [List.mem_singleton.1 hu]; rfl) (by unfold maxLen; omega) (by omega) (by have := HQ.out.bel.size; simp; omega) ?_; intro v2 w2 hq hgr hat; obtain ⟨B2, c2, hv2, -⟩ := q_slice hq; subst hv2; have HA := Lib.hid (all_push HQ.out hq hgr); clear hq hgr hat)
      go_roundw
      case rel => exact ⟨j + 1, by omega, by go_num, HA⟩
      case measure => simp [intOf]; omega
    · obtain rfl : j = 256 := by omega
      rename World => wN
      obtain ⟨ST, L0, S0⟩ := sd_start B1.out rfl HQ.out
      go_wp2_with fail
      go_loopw [7] (fun v7 wr => ∃ (k : Nat) (v v' : Value) (D : List Int), k ≤ 20000 ∧ v7 = .int .i64 (k : Int) ∧ Hid (Lp wN wr t s rs C1 C2 v v' D D) ∧ Hid (StG wr t C (.slice none 0 0) (.slice none 0 0))) (fun v7 _ => 8192 - (intOf v7).toNat)
      case atStart => exact ⟨0, _, _, [], by omega, rfl, L0, S0⟩
      case round =>
        obtain ⟨k, v, v', D, hk, rfl, L, S⟩ := hrel
        have p1 := sd_p L.out ST.out.p1 ST.out.hpb.2
        by_cases hlt : k < 8192
        · by_cases hn0 : n = 0
          · subst hn0
            have X := Lib.hid ST.out.all
            have LD := Lib.hid (L.out.keep ((Fr.refl (fun _ => False) wr).drew) (fun _ h => h.elim))
            have SD := Lib.hid (S.out.fr ((Fr.refl (fun _ => False) wr).drew) (fun h => h))
            have qq := (ST.out.c2 _ _ _ SD.out).1
            have HLd := Lib.hid (sd_lend LD.out SD.out X.out)
            go_wp2_with fail
            go_region_held3 (fun w' => w'.cell? ⟨t, 0, none⟩ = some (.pointer (some ⟨s, 0, none⟩))) (assumption) ((first | (go_at_call 6; refine HLd.out.mono ?_; rintro e w2 ⟨g, c1, vG, vW, rfl, hc1, hL2, hM2⟩; have L2 := Lib.hid hL2; have M2 := Lib.hid hM2; have q2 := (ST.out.c2 _ _ _ M2.out.lq.st).1; clear hL2 hM2) | (go_at_call 5; refine (sd_draw (b := (allL 256)) L2.out M2.out.lq.lent.C X.out.len hc1 X.out.lt X.out.by_).mono ?_; rintro e w3 ⟨rfl, v1, hL3, hS3⟩; have L3 := Lib.hid hL3; have M3 := Lib.hid (sd_mid_s L2.out hS3 LD.out.core.F.size M2.out); have q3 := (ST.out.c2 _ _ _ M3.out.lq.st).1; have r3 := (ST.out.c2 _ _ _ M3.out.lq.st).2; clear hL3 hS3)))
            go_wp2_with fail
            refine (sd_rdraw L3.out X.out).mono ?_
            rintro e w4 ⟨rfl, v1', hL4, hS4⟩
            have L4 := Lib.hid hL4; have M4 := Lib.hid (sd_mid_r L3.out hS4 LD.out.core.F.size M3.out)
            clear hL4 hS4
            go_wp2_with fail
            refine (sd_back L4.out LD.out.core.F.size (by have := X.out.len; have := X.out.lt; omega) M4.out).mono ?_
            rintro e w5 ⟨rfl, hL5, hS5⟩
            have L5 := Lib.hid hL5; have S5 := Lib.hid hS5
            have p2 := sd_p L5.out ST.out.p2 ST.out.hpb.2
            clear hL5 hS5 LD SD HLd L2 M2 L3 M3 L4 M4 L S
            go_wp2_with fail
            refine (into_walk _ takes 7 ht0 ht1 (by decide) (by decide)).mono ?_
            rintro e w' ⟨rfl, rfl⟩
            obtain ⟨tk, htk, htk7⟩ : ∃ tk : Nat, takes % 7 = (tk : Int) ∧ tk < 7 := ⟨(takes % 7).toNat, by omega, by omega⟩
            rw [htk]
            go_wp2_with fail
            go_loopw [9] (fun v9 wr => ∃ (q : Nat) (v v' : Value) (D : List Int), q ≤ 7 ∧ v9 = .int .i64 (q : Int) ∧ Hid (Lp wN wr t s rs C1 C2 v v' D D) ∧ Hid (StG wr t C (.slice none 0 0) (.slice none 0 0))) (fun v9 _ => (intOf v9).toNat)
            case atStart => exact ⟨tk, _, _, _, by omega, rfl, L5, S5⟩
            case round =>
              obtain ⟨q, v, v', D, hq, rfl, L, S⟩ := hrel
              by_cases h0 : 0 < q
              · have LD := Lib.hid (L.out.keep ((Fr.refl (fun _ => False) wr).drew) (fun _ h => h.elim))
                have SD := Lib.hid (S.out.fr ((Fr.refl (fun _ => False) wr).drew) (fun h => h))
                have qq := ST.out.c2 _ _ _ SD.out
                have q0 := (ST.out.c2 _ _ _ S.out).1
                go_wp2_with fail
                go_region_held3 (fun w' => w'.cell? ⟨t, 0, none⟩ = some (.pointer (some ⟨s, 0, none⟩)) ∧ w'.cell? ⟨t, 2, none⟩ = some (.pointer (some ⟨rs, 0, none⟩))) (assumption) ((first | (go_at_call 10; refine (sd_level LD.out).mono ?_; rintro e w2 ⟨rfl, v1, hL2, hs2⟩; have S2 := Lib.hid (LD.out.st_s hs2 SD.out); have L2 := Lib.hid hL2; have qq2 := ST.out.c2 _ _ _ S2.out; clear hL2 hs2) | (go_at_call 11; refine (sd_rlevel L2.out).mono ?_; rintro e w3 ⟨rfl, v1', hL3, hs3⟩; have S3 := Lib.hid (L2.out.st_r hs3 S2.out); have L3 := Lib.hid hL3; have qq3 := ST.out.c2 _ _ _ S3.out; clear hL3 hs3)))
                go_wp2_with fail
                go_roundw
                case rel => exact ⟨q - 1, _, _, _, by omega, by go_num, L3, S3⟩
                case measure => simp [intOf]; omega
              · obtain rfl : q = 0 := by omega
                go_wp2_with fail
                refine ⟨?rel7, ?meas7⟩
                case meas7 => simp [intOf]; omega
                case rel7 =>
                  repeat apply Exists.intro
                  refine ⟨?rel8, rfl⟩
                  case rel8 => exact ⟨k + 256 + 1, _, _, D, by omega, by go_num, L, S⟩
          · obtain ⟨ca, hca, hfeed⟩ := HF.out (by omega)
            subst hca
            obtain ⟨A, b, c, hcell, hbc, hKC, hBy⟩ := hfeed (k % n) (Nat.mod_lt _ (by omega))
            have htm : (k : Int).tmod (n : Int) = ((k % n : Nat) : Int) := by rw [Int.tmod_eq_emod_of_nonneg (by omega)]; rfl
            have hmod : k % n < n := Nat.mod_lt _ (by omega)
            have hcr : wr.cell? (ca.add (k % n)) = some (.slice A b.length c) := sd_p' L.out ST.out.bel ST.out.hpb hcell
            have hz : ((n : Int) == 0) = false := by rw [beq_eq_false_iff_ne]; omega
            have hz' : ¬ (n : Int) = 0 := by omega
            have hz2 : (n : Int) ≠ -1 := by omega
            have hzg : ((n : Int) > 0) = True := by simp; omega
            have hwk : IntKind.i64.wrap ((k % n : Nat) : Int) = ((k % n : Nat) : Int) := wrapI (by omega) (by omega)
            have p1a : (0 : Int) ≤ ((k % n : Nat) : Int) := by omega
            have p1b : ((k % n : Nat) : Int) < (n : Int) := by omega
            have HK := Lib.hid hKC; have HY := Lib.hid hBy; have HBC := Lib.hid hbc
            clear hKC hBy hfeed hcell
            go_wp2_with fail
            go_quiet (fail)
            replace L := Lib.hid (L.out.keep ((Fr.refl (fun _ => False) wr).drewN nq) (fun _ h => h.elim))
            replace S := Lib.hid (S.out.fr ((Fr.refl (fun _ => False) wr).drewN nq) (fun h => h))
            generalize wr.drewN nq = wq at L S ⊢
            by_cases hbig : b.length ≤ 3000
            · have X := Lib.hid (sd_src ST.out L.out.core.ts L.out.core.sr HK.out HBC.out HY.out hbig)
              have hbg : ((b.length : Int) > 3000) = False := by simp; omega
              obtain ⟨m, hm⟩ : ∃ m, b.length = m := ⟨_, rfl⟩
              rw [hm] at X hbig hbg ⊢
              have LD := Lib.hid (L.out.keep ((Fr.refl (fun _ => False) wq).drew) (fun _ h => h.elim))
              have SD := Lib.hid (S.out.fr ((Fr.refl (fun _ => False) wq).drew) (fun h => h))
              have qq := (ST.out.c2 _ _ _ SD.out).1
              have HLd := Lib.hid (sd_lend LD.out SD.out X.out)
              go_wp2_with fail
              go_region_held3 (fun w' => w'.cell? ⟨t, 0, none⟩ = some (.pointer (some ⟨s, 0, none⟩))) (assumption) ((first | (go_at_call 6; refine HLd.out.mono ?_; rintro e w2 ⟨g, c1, vG, vW, rfl, hc1, hL2, hM2⟩; have L2 := Lib.hid hL2; have M2 := Lib.hid hM2; have q2 := (ST.out.c2 _ _ _ M2.out.lq.st).1; clear hL2 hM2) | (go_at_call 5; refine (sd_draw (b := b) L2.out M2.out.lq.lent.C X.out.len hc1 X.out.lt X.out.by_).mono ?_; rintro e w3 ⟨rfl, v1, hL3, hS3⟩; have L3 := Lib.hid hL3; have M3 := Lib.hid (sd_mid_s L2.out hS3 LD.out.core.F.size M2.out); have q3 := (ST.out.c2 _ _ _ M3.out.lq.st).1; have r3 := (ST.out.c2 _ _ _ M3.out.lq.st).2; clear hL3 hS3)))
              go_wp2_with fail
              refine (sd_rdraw L3.out X.out).mono ?_
              rintro e w4 ⟨rfl, v1', hL4, hS4⟩
              have L4 := Lib.hid hL4; have M4 := Lib.hid (sd_mid_r L3.out hS4 LD.out.core.F.size M3.out)
              clear hL4 hS4
              go_wp2_with fail
              refine (sd_back L4.out LD.out.core.F.size (by have := X.out.len; have := X.out.lt; omega) M4.out).mono ?_
              rintro e w5 ⟨rfl, hL5, hS5⟩
              have L5 := Lib.hid hL5; have S5 := Lib.hid hS5
              have p2 := sd_p L5.out ST.out.p2 ST.out.hpb.2
              clear hL5 hS5 LD SD HLd L2 M2 L3 M3 L4 M4 L S
              go_wp2_with fail
              refine (into_walk _ takes 7 ht0 ht1 (by decide) (by decide)).mono ?_
              rintro e w' ⟨rfl, rfl⟩
              obtain ⟨tk, htk, htk7⟩ : ∃ tk : Nat, takes % 7 = (tk : Int) ∧ tk < 7 := ⟨(takes % 7).toNat, by omega, by omega⟩
              rw [htk]
              go_wp2_with fail
              go_loopw [9] (fun v9 wr => ∃ (q : Nat) (v v' : Value) (D : List Int), q ≤ 7 ∧ v9 = .int .i64 (q : Int) ∧ Hid (Lp wN wr t s rs C1 C2 v v' D D) ∧ Hid (StG wr t C (.slice none 0 0) (.slice none 0 0))) (fun v9 _ => (intOf v9).toNat)
              case atStart => exact ⟨tk, _, _, _, by omega, rfl, L5, S5⟩
              case round =>
                obtain ⟨q, v, v', D, hq, rfl, L, S⟩ := hrel
                by_cases h0 : 0 < q
                · have LD := Lib.hid (L.out.keep ((Fr.refl (fun _ => False) wr).drew) (fun _ h => h.elim))
                  have SD := Lib.hid (S.out.fr ((Fr.refl (fun _ => False) wr).drew) (fun h => h))
                  have qq := ST.out.c2 _ _ _ SD.out
                  have q0 := (ST.out.c2 _ _ _ S.out).1
                  go_wp2_with fail
                  go_region_held3 (fun w' => w'.cell? ⟨t, 0, none⟩ = some (.pointer (some ⟨s, 0, none⟩)) ∧ w'.cell? ⟨t, 2, none⟩ = some (.pointer (some ⟨rs, 0, none⟩))) (assumption) ((first | (go_at_call 10; refine (sd_level LD.out).mono ?_; rintro e w2 ⟨rfl, v1, hL2, hs2⟩; have S2 := Lib.hid (LD.out.st_s hs2 SD.out); have L2 := Lib.hid hL2; have qq2 := ST.out.c2 _ _ _ S2.out; clear hL2 hs2) | (go_at_call 11; refine (sd_rlevel L2.out).mono ?_; rintro e w3 ⟨rfl, v1', hL3, hs3⟩; have S3 := Lib.hid (L2.out.st_r hs3 S2.out); have L3 := Lib.hid hL3; have qq3 := ST.out.c2 _ _ _ S3.out; clear hL3 hs3)))
                  go_wp2_with fail
                  go_roundw
                  case rel => exact ⟨q - 1, _, _, _, by omega, by go_num, L3, S3⟩
                  case measure => simp [intOf]; omega
                · obtain rfl : q = 0 := by omega
                  go_wp2_with fail
                  refine ⟨?rel7, ?meas7⟩
                  case meas7 => simp [intOf]; omega
                  case rel7 =>
                    repeat apply Exists.intro
                    refine ⟨?rel8, rfl⟩
                    case rel8 => exact ⟨k + m + 1, _, _, D, by omega, by go_num, L, S⟩
            · have X := Lib.hid (sd_srcT ST.out L.out.core.ts L.out.core.sr HK.out HBC.out HY.out (by omega))
              have hbg : ((b.length : Int) > 3000) = True := by simp; omega
              have hc3 : 3000 ≤ c := by have := HBC.out; omega
              have LD := Lib.hid (L.out.keep ((Fr.refl (fun _ => False) wq).drew) (fun _ h => h.elim))
              have SD := Lib.hid (S.out.fr ((Fr.refl (fun _ => False) wq).drew) (fun h => h))
              have qq := (ST.out.c2 _ _ _ SD.out).1
              have HLd := Lib.hid (sd_lend LD.out SD.out X.out)
              go_wp2_with fail
              go_region_held3 (fun w' => w'.cell? ⟨t, 0, none⟩ = some (.pointer (some ⟨s, 0, none⟩))) (assumption) ((first | (go_at_call 6; refine HLd.out.mono ?_; rintro e w2 ⟨g, c1, vG, vW, rfl, hc1, hL2, hM2⟩; have L2 := Lib.hid hL2; have M2 := Lib.hid hM2; have q2 := (ST.out.c2 _ _ _ M2.out.lq.st).1; clear hL2 hM2) | (go_at_call 5; refine (sd_draw (b := (b.take 3000)) L2.out M2.out.lq.lent.C X.out.len hc1 X.out.lt X.out.by_).mono ?_; rintro e w3 ⟨rfl, v1, hL3, hS3⟩; have L3 := Lib.hid hL3; have M3 := Lib.hid (sd_mid_s L2.out hS3 LD.out.core.F.size M2.out); have q3 := (ST.out.c2 _ _ _ M3.out.lq.st).1; have r3 := (ST.out.c2 _ _ _ M3.out.lq.st).2; clear hL3 hS3)))
              go_wp2_with fail
              refine (sd_rdraw L3.out X.out).mono ?_
              rintro e w4 ⟨rfl, v1', hL4, hS4⟩
              have L4 := Lib.hid hL4; have M4 := Lib.hid (sd_mid_r L3.out hS4 LD.out.core.F.size M3.out)
              clear hL4 hS4
              go_wp2_with fail
              refine (sd_back L4.out LD.out.core.F.size (by have := X.out.len; have := X.out.lt; omega) M4.out).mono ?_
              rintro e w5 ⟨rfl, hL5, hS5⟩
              have L5 := Lib.hid hL5; have S5 := Lib.hid hS5
              have p2 := sd_p L5.out ST.out.p2 ST.out.hpb.2
              clear hL5 hS5 LD SD HLd L2 M2 L3 M3 L4 M4 L S
              go_wp2_with fail
              refine (into_walk _ takes 7 ht0 ht1 (by decide) (by decide)).mono ?_
              rintro e w' ⟨rfl, rfl⟩
              obtain ⟨tk, htk, htk7⟩ : ∃ tk : Nat, takes % 7 = (tk : Int) ∧ tk < 7 := ⟨(takes % 7).toNat, by omega, by omega⟩
              rw [htk]
              go_wp2_with fail
              go_loopw [9] (fun v9 wr => ∃ (q : Nat) (v v' : Value) (D : List Int), q ≤ 7 ∧ v9 = .int .i64 (q : Int) ∧ Hid (Lp wN wr t s rs C1 C2 v v' D D) ∧ Hid (StG wr t C (.slice none 0 0) (.slice none 0 0))) (fun v9 _ => (intOf v9).toNat)
              case atStart => exact ⟨tk, _, _, _, by omega, rfl, L5, S5⟩
              case round =>
                obtain ⟨q, v, v', D, hq, rfl, L, S⟩ := hrel
                by_cases h0 : 0 < q
                · have LD := Lib.hid (L.out.keep ((Fr.refl (fun _ => False) wr).drew) (fun _ h => h.elim))
                  have SD := Lib.hid (S.out.fr ((Fr.refl (fun _ => False) wr).drew) (fun h => h))
                  have qq := ST.out.c2 _ _ _ SD.out
                  have q0 := (ST.out.c2 _ _ _ S.out).1
                  go_wp2_with fail
                  go_region_held3 (fun w' => w'.cell? ⟨t, 0, none⟩ = some (.pointer (some ⟨s, 0, none⟩)) ∧ w'.cell? ⟨t, 2, none⟩ = some (.pointer (some ⟨rs, 0, none⟩))) (assumption) ((first | (go_at_call 10; refine (sd_level LD.out).mono ?_; rintro e w2 ⟨rfl, v1, hL2, hs2⟩; have S2 := Lib.hid (LD.out.st_s hs2 SD.out); have L2 := Lib.hid hL2; have qq2 := ST.out.c2 _ _ _ S2.out; clear hL2 hs2) | (go_at_call 11; refine (sd_rlevel L2.out).mono ?_; rintro e w3 ⟨rfl, v1', hL3, hs3⟩; have S3 := Lib.hid (L2.out.st_r hs3 S2.out); have L3 := Lib.hid hL3; have qq3 := ST.out.c2 _ _ _ S3.out; clear hL3 hs3)))
                  go_wp2_with fail
                  go_roundw
                  case rel => exact ⟨q - 1, _, _, _, by omega, by go_num, L3, S3⟩
                  case measure => simp [intOf]; omega
                · obtain rfl : q = 0 := by omega
                  go_wp2_with fail
                  refine ⟨?rel7, ?meas7⟩
                  case meas7 => simp [intOf]; omega
                  case rel7 =>
                    repeat apply Exists.intro
                    refine ⟨?rel8, rfl⟩
                    case rel8 => exact ⟨k + 3000 + 1, _, _, D, by omega, by go_num, L, S⟩
        · have q0 := (ST.out.c2 _ _ _ S.out).1
          have X := Lib.hid ST.out.all
          go_wp2_with fail
          refine (sd_draw L.out (X.out.at_ L.out.core.F) X.out.len X.out.cap X.out.lt X.out.by_).mono ?_
          rintro e w2 ⟨rfl, v1, hL2, hs2⟩
          have S2 := Lib.hid (L.out.st_s hs2 S.out); have L2 := Lib.hid hL2; have r2 := (ST.out.c2 _ _ _ S2.out).2
          clear hL2 hs2
          go_wp2_with fail
          refine (sd_rdraw L2.out X.out).mono ?_
          rintro e w3 ⟨rfl, v1', hL3, hs3⟩
          have S3 := Lib.hid (L2.out.st_r hs3 S2.out); have L3 := Lib.hid hL3
          clear hL3 hs3 L S L2 S2
          go_wp2_with fail
          go_loopw [10] (fun v10 wr => ∃ (j : Nat) (v v' : Value) (D : List Int), j ≤ 4097 ∧ v10 = .int .i64 (j : Int) ∧ D.length ≤ 4096 - j ∧ Hid (Lp wN wr t s rs C1 C2 v v' D D) ∧ Hid (StG wr t C (.slice none 0 0) (.slice none 0 0))) (fun v10 _ => 4097 - (intOf v10).toNat)
          case atStart => exact ⟨0, _, _, _, by omega, rfl, L3.out.lD, L3, S3⟩
          case round =>
            obtain ⟨j, v, v', D, hj, rfl, hD, L, S⟩ := hrel
            by_cases hj2 : j ≤ 4096
            · have LD := Lib.hid (L.out.keep ((Fr.refl (fun _ => False) wr).drew) (fun _ h => h.elim))
              have SD := Lib.hid (S.out.fr ((Fr.refl (fun _ => False) wr).drew) (fun h => h))
              have qq := ST.out.c2 _ _ _ SD.out
              have q0 := (ST.out.c2 _ _ _ S.out).1
              go_wp2_with fail
              go_region_held3 (fun w' => w'.cell? ⟨t, 0, none⟩ = some (.pointer (some ⟨s, 0, none⟩)) ∧ w'.cell? ⟨t, 2, none⟩ = some (.pointer (some ⟨rs, 0, none⟩))) (assumption) ((first | (go_at_call 10; refine (sd_level LD.out).mono ?_; rintro e w2 ⟨rfl, v1, hL2, hs2⟩; have S2 := Lib.hid (LD.out.st_s hs2 SD.out); have L2 := Lib.hid hL2; have qq2 := ST.out.c2 _ _ _ S2.out; clear hL2 hs2) | (go_at_call 11; refine (sd_rlevel L2.out).mono ?_; rintro e w3 ⟨rfl, v1', hL3, hs3⟩; have S3 := Lib.hid (L2.out.st_r hs3 S2.out); have L3 := Lib.hid hL3; have qq3 := ST.out.c2 _ _ _ S3.out; clear hL3 hs3)))
              go_wp2_with fail
              go_roundw
              case rel => exact ⟨j + 1, _, _, _, by omega, by go_num, by simp; omega, L3, S3⟩
              case measure => simp [intOf]; omega
            · obtain rfl : j = 4097 := by omega
              obtain rfl : D = [] := List.length_eq_zero_iff.1 (by omega)
              have q9 := (ST.out.c2 _ _ _ S.out).1
              go_wp2_with fail
              refine (sd_level L.out).mono ?_
              rintro e w9 ⟨rfl, v9, hL9, hs9⟩
              have B9 := Lib.hid (sd_bel hL9 ST.out.bel ST.out.hpb)
              clear hL9 hs9
              rw [show levelOf [] = 1 from rfl]
              go_wp2_with fail
              go_ret
              exact ⟨rfl, B9.out⟩
end Go.Proofs.Ythdahjmkkdljbaa.Sp
