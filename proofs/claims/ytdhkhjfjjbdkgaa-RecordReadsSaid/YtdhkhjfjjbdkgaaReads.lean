/- larderlaw16.RecordReads, walked over its callees' contracts. -/
import Derived.Test.YtdhkhjfjjbdkgaaMarks
import Derived.Test.YtdhkhjfjjbdkgaaStarts
import Derived.Test.YtdhkhjfjjbdkgaaRLx9
import Derived.Test.YtdhkhjfjjbdkgaaRLx8b
namespace Go.Proofs.Ytdhkhjfjjbdkgaa.Rec
open Go.RowKit Go.Proofs.YtdhkhjfjjbdkgaaW.PrintWords Go.Proofs.YtdhkhjfjjbdkgaaW.PrintLast Go.Proofs.YtdhkhjfjjbdkgaaW.PrintMore
set_option linter.unusedVariables false
set_option linter.unusedSimpArgs false
theorem bytN_of_C {w : World} {g : Nat} {A : Option Addr} {c : Nat} {l : List Int} (h : Kd.C (Kd.int .u8) w A l.length l) (hc : l.length ≤ c) (hg : w.heap.size ≤ g) : BytN w g A c l :=
  ⟨Kd.reads_of_C (d := (0 : Int)) h, hc, fun ad e h0 => by subst e; have := Kd.C_lt h h0 (by decide); omega⟩
theorem BytN.below {w w1 : World} {g : Nat} {A : Option Addr} {c : Nat} {l : List Int} (h : BytN w g A c l) (hb : Below w.heap.size w w1) : BytN w1 g A c l :=
  ⟨Kd.reads_of_C (d := (0 : Int)) (Kd.C_below (Kd.C_of_reads (d := (0 : Int)) (h1 := fun _ => rfl) h.rd) hb), h.cap, h.foot⟩
theorem BytN.C {w : World} {g : Nat} {A : Option Addr} {c : Nat} {l : List Int} (h : BytN w g A c l) : Kd.C (Kd.int .u8) w A l.length l := Kd.C_of_reads (d := (0 : Int)) (h1 := fun _ => rfl) h.rd
theorem bytN_own {w : World} {g base c : Nat} {A : Option Addr} {l : List Int} (h : Kd.R (Kd.int .u8) 5 w base (fun _ => True) (.slice A l.length c) l) (hg : g < base) : BytN w g A c l := by
  refine ⟨Kd.reads_of_C (d := (0 : Int)) (Kd.R_reads' h).2.2, (Kd.R_reads' h).2.1, fun ad e h0 => ?_⟩
  subst e
  have := (Kd.R_bound h).1 ad.block rfl
  omega
theorem own_ne {α : Type} {d : Kd α} {e g base : Nat} {w : World} {v : Value} {xs : List α} (h : d.R e w base (fun _ => True) v xs) (hg : g < base) : d.R e w base (fun k => k ≠ g) v xs :=
  Kd.R_mono (Kd.R_bound h) (fun k hk => by omega)
set_option maxHeartbeats 8000000 in
set_option maxRecDepth 100000 in
theorem reads_walk (k : Nat) (A0 : Option Addr) (c0 : Nat) (l0 o : List Int) (x m : List S33) (y n : Int) (s1 s2 : List Int) (w : World) (hr0 : Kd.C (Kd.int .u8) w A0 l0.length l0) (hc0 : l0.length ≤ c0) (hm : l0.length ≤ 140737488351232)
    (hO : larderlaw1_Other.f k l0 = some o) (ho : o.length = l0.length) (h1 : record_Read.f k o = some (x, y)) (h2 : larderref16_Read.f k o = some (x, y, s1)) (h3 : larderlaw16_sameEntries.f k x x = some true)
    (h4 : record_Read.f k l0 = some (m, n)) (h5 : larderref16_Read.f k l0 = some (m, n, s2)) (h6 : larderlaw16_sameEntries.f k m m = some true) :
    Calls Try.prog 8 #[.slice A0 l0.length c0] w fun e w' => e = .returned (.bool true) ∧ Below w.heap.size w w' := by
  have HR0 := Aside0.mk hr0; have HC0 := Aside0.mk hc0; have HOT := Aside0.mk hO; have HOL := Aside0.mk ho; have H1 := Aside0.mk h1; have H2 := Aside0.mk h2; have H3 := Aside0.mk h3; have H4 := Aside0.mk h4; have H5 := Aside0.mk h5; have H6 := Aside0.mk h6; have HM := Aside0.mk hm
  clear hr0 hc0 hO ho h1 h2 h3 h4 h5 h6 hm
  go_enter Try.func8, Try.ntmps8
  go_wp2_with fail
  refine (starts_walk _).mono ?_
  rintro e w1 ⟨rfl, hb⟩
  have HB1 := Aside0.mk hb; have HR1 := Aside0.mk (Kd.C_below HR0.out hb)
  clear hb
  go_wp2_with fail
  refine (lend_walk _ A0 c0 l0 HR1.out HC0.out HM.out).mono ?_
  rintro e w2 ⟨g, c, rfl, hl, hg, hb⟩
  have HL2 := Aside0.mk hl; have HB2 := Aside0.mk (HB1.out.trans (hb.mono HB1.out.size)); have HLOG := Aside0.mk ((bytN_of_C HR1.out HC0.out hg).below hb); have HGE := Aside0.mk (Nat.le_trans HB1.out.size hg)
  clear hl hg hb HR1 HB1
  go_wp2_with fail
  refine (larderlaw1_Other.calls k A0 c0 l0 o _ HLOG.out.C HC0.out HOT.out).mono ?_
  rintro e w3 ⟨v3, rfl, hv3, hb⟩
  obtain ⟨A3, c3, rfl⟩ := Kd.R_slice hv3
  have HL3 := Aside0.mk (HL2.out.below hb); have HB3 := Aside0.mk (HB2.out.trans (hb.mono HB2.out.size)); have HLOG3 := Aside0.mk (HLOG.out.below hb); have HO3 := Aside0.mk (bytN_own hv3 HL2.out.lt)
  clear hv3 hb HL2 HB2 HLOG
  go_wp2_with fail
  refine (into_lent _ w.heap.size g c l0.length l0 A3 c3 o HGE.out HL3.out rfl HOL.out HO3.out).mono ?_
  rintro e w4 ⟨rfl, hl, hk, hb⟩
  have HL4 := Aside0.mk hl; have HB4 := Aside0.mk (HB3.out.trans hb); have HLOG4 := Aside0.mk (HLOG3.out.keep hk); have HO4 := Aside0.mk (HO3.out.keep hk)
  clear hl hk hb HL3 HB3 HLOG3 HO3
  go_wp2_with fail
  have hcall := record_Read.calls k (some ⟨g, 0, none⟩) c o x y w4 HL4.out.C (by have := HL4.out.cap; omega) H1.out
  rw [HOL.out] at hcall
  refine hcall.mono ?_
  rintro e w5 ⟨v5, rfl, hv5, hb⟩
  obtain ⟨A5, c5, rfl⟩ := Kd.R_slice hv5
  have HL5 := Aside0.mk (HL4.out.below hb); have HB5 := Aside0.mk (HB4.out.trans (hb.mono HB4.out.size)); have HLOG5 := Aside0.mk (HLOG4.out.below hb); have HO5 := Aside0.mk (HO4.out.below hb)
  have HX5 := Aside0.mk (own_ne hv5 HL4.out.lt)
  clear hcall hv5 hb HL4 HB4 HLOG4 HO4
  go_wp2_with fail
  refine (larderref16_Read.calls k A3 c3 o x y s1 _ HO5.out.C HO5.out.cap H2.out).mono ?_
  rintro e w6 ⟨v6, v7, rfl, hv6, hv7, hb⟩
  obtain ⟨A6, c6, rfl⟩ := Kd.R_slice hv6
  obtain ⟨A7, c7, rfl⟩ := Kd.R_slice hv7
  have HL6 := Aside0.mk (HL5.out.below hb); have HB6 := Aside0.mk (HB5.out.trans (hb.mono HB5.out.size)); have HLOG6 := Aside0.mk (HLOG5.out.below hb); have HX6 := Aside0.mk (Kd.R_below HX5.out hb)
  have HZ6 := Aside0.mk (own_ne hv6 HL5.out.lt)
  clear hv6 hv7 hb HL5 HB5 HLOG5 HX5 HO5
  go_wp2_with fail
  refine (into_lent _ w.heap.size g c l0.length o A0 c0 l0 HGE.out HL6.out HOL.out.symm HOL.out.symm HLOG6.out).mono ?_
  rintro e w7 ⟨rfl, hl, hk, hb⟩
  have HL7 := Aside0.mk hl; have HB7 := Aside0.mk (HB6.out.trans hb); have HLOG7 := Aside0.mk (HLOG6.out.keep hk); have HX7 := Aside0.mk (Kd.R_keep HX6.out hk (fun _ h => h)); have HZ7 := Aside0.mk (Kd.R_keep HZ6.out hk (fun _ h => h))
  clear hl hk hb HL6 HB6 HLOG6 HX6 HZ6
  go_wp2_with fail
  refine (record_Read.calls k (some ⟨g, 0, none⟩) c l0 m n w7 HL7.out.C (by have := HL7.out.cap; omega) H4.out).mono ?_
  rintro e w8 ⟨v8, rfl, hv8, hb⟩
  obtain ⟨A8, c8, rfl⟩ := Kd.R_slice hv8
  have HL8 := Aside0.mk (HL7.out.below hb); have HB8 := Aside0.mk (HB7.out.trans (hb.mono HB7.out.size)); have HLOG8 := Aside0.mk (HLOG7.out.below hb); have HX8 := Aside0.mk (Kd.R_below HX7.out hb); have HZ8 := Aside0.mk (Kd.R_below HZ7.out hb)
  have HM8 := Aside0.mk (own_ne hv8 HL7.out.lt)
  clear hv8 hb HL7 HB7 HLOG7 HX7 HZ7
  go_wp2_with fail
  refine (larderref16_Read.calls k A0 c0 l0 m n s2 _ HLOG8.out.C HC0.out H5.out).mono ?_
  rintro e w9 ⟨v9, v10, rfl, hv9, hv10, hb⟩
  obtain ⟨A9, c9, rfl⟩ := Kd.R_slice hv9
  obtain ⟨A10, c10, rfl⟩ := Kd.R_slice hv10
  have HL9 := Aside0.mk (HL8.out.below hb); have HB9 := Aside0.mk (HB8.out.trans (hb.mono HB8.out.size)); have HLOG9 := Aside0.mk (HLOG8.out.below hb); have HX9 := Aside0.mk (Kd.R_below HX8.out hb); have HZ9 := Aside0.mk (Kd.R_below HZ8.out hb); have HM9 := Aside0.mk (Kd.R_below HM8.out hb)
  have HK9 := Aside0.mk (own_ne hv9 HL8.out.lt)
  clear hv9 hv10 hb HL8 HB8 HLOG8 HX8 HZ8 HM8
  go_wp2_with fail
  refine (intact_walk _ g c A0 c0 l0 HL9.out HLOG9.out.C).mono ?_
  rintro e w10 ⟨rfl, nd, rfl⟩
  have HB10 := Aside0.mk (pw_below_drewN HB9.out nd)
  go_wp2_with fail
  refine (larderlaw16_sameEntries.calls k A5 c5 x A6 c6 x true _ (Kd.R_reads' (Kd.R_below HX9.out (pw_below_drewN (Below.refl _ _) nd))).2.2 (Kd.R_reads' HX9.out).2.1 (Kd.R_reads' (Kd.R_below HZ9.out (pw_below_drewN (Below.refl _ _) nd))).2.2 (Kd.R_reads' HZ9.out).2.1 H3.out).mono ?_
  rintro e w11 ⟨rfl, hb⟩
  have hb' : Below w9.heap.size w9 w11 := (pw_below_drewN (Below.refl _ _) nd).trans hb
  have HL11 := Aside0.mk (HL9.out.below hb'); have HB11 := Aside0.mk (HB9.out.trans (hb'.mono HB9.out.size)); have HM11 := Aside0.mk (Kd.R_below HM9.out hb'); have HK11 := Aside0.mk (Kd.R_below HK9.out hb')
  clear hb hb' HL9 HB9 HB10 HLOG9 HX9 HZ9 HM9 HK9
  go_wp2_with fail
  obtain ⟨rest, hblk⟩ := HL11.out.heap
  obtain ⟨cs, hcs⟩ : ∃ cs, u8s l0 ++ ([Value.int .u8 165, Value.int .u8 90, Value.int .u8 165] ++ rest) = cs := ⟨_, rfl⟩
  have hcl : l0.length ≤ cs.length := by rw [← hcs, List.length_append, u8s_len]; omega
  rw [hcs] at hblk
  have HCS := Aside0.mk hblk
  clear hblk hcs
  have hl64 := HM.out
  go_loopw [15] (fun v15 wr => ∃ i : Nat, i ≤ l0.length ∧ v15 = .int .i64 i ∧ (∃ cs' : List Value, l0.length ≤ cs'.length ∧ wr.heap[g]? = some (.cells cs'.toArray 5 (0, 0))) ∧ KeepBut w11 wr g none ∧ Below w.heap.size w wr) (fun v _ => l0.length - (intOf v).toNat)
  case atStart => exact ⟨0, Nat.zero_le _, rfl, ⟨cs, hcl, HCS.out⟩, KeepBut.refl _ _ _, HB11.out⟩
  case round =>
    obtain ⟨i, hi, rfl, ⟨cs', hcl', hb⟩, hk, hbel⟩ := hrel
    have HB' := Aside0.mk hb; have HK := Aside0.mk hk; have HBE := Aside0.mk hbel
    clear hb hk hbel HCS
    by_cases hlt : i < l0.length
    · have hbc := blk_cell_list HB'.out i (by omega)
      obtain ⟨⟨v0, hc0⟩, hf0⟩ := hbc
      have p1 : (0 : Int) ≤ (i : Int) := by omega
      have q1 : (i : Int) < (l0.length : Int) := by omega
      go_wp2_with fail
      go_roundw
      case rel => exact ⟨i + 1, by omega, by go_num, ⟨cs'.set i (.int .u8 238), by simpa using hcl', blk_set_list HB'.out i _⟩, HK.out.set_ i _, HBE.out.setCell (by exact HGE.out) _⟩
      case measure => simp [intOf]; omega
    · obtain rfl : i = l0.length := by omega
      have HMr := Aside0.mk (Kd.R_reads' (Kd.R_keep HM11.out HK.out (fun _ h => h))).2; have HKr := Aside0.mk (Kd.R_reads' (Kd.R_keep HK11.out HK.out (fun _ h => h))).2
      go_wp2_with fail
      refine (larderlaw16_sameEntries.calls k A8 c8 m A9 c9 m true _ HMr.out.2 HMr.out.1 HKr.out.2 HKr.out.1 H6.out).mono ?_
      rintro e w12 ⟨rfl, hb⟩
      have HB12 := Aside0.mk (HBE.out.trans (hb.mono HBE.out.size))
      clear hb
      go_wp2_with fail
      go_ret
      exact ⟨rfl, HB12.out⟩
end Go.Proofs.Ytdhkhjfjjbdkgaa.Rec
