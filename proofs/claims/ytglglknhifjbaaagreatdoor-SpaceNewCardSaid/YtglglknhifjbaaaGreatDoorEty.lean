import Derived.Test.YtglglknhifjbaaaGreatDoorSrb
namespace Go.Proofs.YtglglknhifjbaaaGreatDoor.Sp
open Go.RowKit Go.Proofs.YtglglknhifjbaaaGreatDoorW.PrintWords Go.Proofs.YtglglknhifjbaaaGreatDoorW.PrintLast Go.Proofs.YtglglknhifjbaaaGreatDoorW.PrintMore
set_option linter.unusedVariables false
set_option linter.unusedSimpArgs false
attribute [local go_sem] Oper.semAt_some
structure KeysAt (w0 w' : World) (v : Value) (ks : List NK) : Prop where
  row : w'.ownsRow 0 53 1 v ks.length (ks.map keyV)
  lo : ∀ b, v.ownBlock = some b → w0.heap.size ≤ b
  keys : ∀ x ∈ ks, KeyAt w' x ∧ w0.heap.size ≤ x.g ∧ IsB x.k
def KeysPost (w : World) (T : Tab) (e : Ending) (w' : World) : Prop :=
  ∃ v ks, e = .returned v ∧ KeysAt w w' v ks ∧ (ks.map NK.k).Perm (T.ents.map Ent.key) ∧ ks.Pairwise (fun x y => 0 ≤ cmpI y.k x.k) ∧ Below w.heap.size w w'
theorem keeps_fr {P : Nat → Prop} {W W' : World} (hf : Fr P W W') (hP : ∀ b, P b → ∃ c t, W.heap[b]? = some (.cells c t (0, 0))) : KeepsOthers W W' := ⟨hf.size, fun k o ho hc => by
  refine (hf.block k (blk_lt ho) (fun hp => ?_)).trans ho
  obtain ⟨c, t, h⟩ := hP k hp
  rw [ho] at h
  injection h with h
  subst h
  exact absurd hc (by simp [Obj.isCells])⟩
theorem one_param (t : Array Value) (p : Tmp) (u : Value) : ((#[p] : Array Tmp).zip #[u]).foldl (fun t (p, v) => t.setIfInBounds p v) t = t.setIfInBounds p u := by simp
def KJ (w0 : World) (kb : Nat) (pre : List NK) (X : Nat → Prop) (W : World) : Prop := KI w0.heap.size kb pre X W ∧ (∀ b, X b → w0.heap.size ≤ b) ∧ Below w0.heap.size w0 W
theorem KJ.abm (w0 : World) (kb : Nat) : AbM (KJ w0 kb) := fun s X A B h hf => by
  obtain ⟨h1, h2, h3⟩ := h
  obtain ⟨v, i1, i2, i3, i4, i5⟩ := h1
  have hsz := h3.size
  refine ⟨KI.abm _ _ s X A B ⟨v, i1, i2, i3, i4, i5⟩ hf, fun b hb => ?_, hf.os.trans h3.os, hf.tape.trans h3.tape, hf.output.trans h3.output, Nat.le_trans h3.size hf.size, fun k hk => ?_⟩
  · rcases hb with hb | hb
    · exact h2 b hb
    · omega
  · exact (hf.block k (by omega) (fun hx => by have := h2 k hx; omega)).trans (h3.block k hk)
theorem KJ.put (w0 : World) (kb B : Nat) (hB : w0.heap.size ≤ B) : PutM B (KJ w0 kb) := fun s X W l o o' h hl ho hc => by
  obtain ⟨h1, h2, h3⟩ := h
  exact ⟨KI.put _ _ B s X W l o o' h1 hl ho hc, h2, h3.os, h3.tape, h3.output, by simpa using h3.size, fun k hk => (World.putObj_heap_other (by omega)).trans (h3.block k hk)⟩
section
variable {w : World} {own : Own} {hp : Nat} {G : Gr} {hs : List Nat} {bs : List (Option Nat)} {tp hd t len : Nat} {T : Tab} {rest : Plan}
set_option maxHeartbeats 2000000 in
set_option maxRecDepth 100000 in
theorem keys_walk (HC : EnC w hp tp G hs bs T w.heap.size) (hok : T.Ok) (hz : plOf G hs bs 0 = 0) (hz1 : T.oid ≠ 0 → plOf G hs bs T.oid ≠ 0) (hents : T.ents.length ≤ 1073741824) :
    Calls Tryz.prog 94 #[.pointer (some ⟨tp, 0, none⟩)] w (KeysPost w T) := by
  have HCp := Lib.hid HC; have HOk := Lib.hid hok; have HZ := Lib.hid hz; have HZ1 := Lib.hid hz1; have HEn := Lib.hid hents
  clear HC hok hz hz1 hents
  refine callsIn_wide.1 (callsIn_of_wp_marks (n := 5) Tryz.func94 rfl trivial ?_ rfl)
  simp only [Tryz.ntmps94, List.size_toArray, List.length_cons, List.length_nil, Nat.reduceAdd, Nat.reduceSub, Array.replicate_succ, Array.replicate_zero, List.push_toArray, List.append_toArray, List.nil_append, List.cons_append]
  gi_wp2_with (refine ⟨trivial, ?_⟩; gi_at_call 143; refine (callsIn_wide.2 (entries_walk _ tp 0)).mono ?_; rintro e w' ⟨rfl, rfl⟩)
  obtain ⟨W1, hW1⟩ : ∃ W1, ((w.alloc (.cells #[.slice none 0 0] 54)).alloc (.cells #[.pointer (some ⟨tp, 0, none⟩)] 83)).alloc (.cells #[.int .u64 0] 22) = W1 := ⟨_, rfl⟩
  have hB1 : Below w.heap.size w W1 := by rw [← hW1]; exact (((Below.refl _ _).alloc (Nat.le_refl _) _).alloc (by simp) _).alloc (by simp; omega) _
  have hs1 : W1.heap.size = w.heap.size + 3 := by rw [← hW1]; simp
  have hk1 : W1.heap[w.heap.size]? = some (.cells #[.slice none 0 0] 54 (0, 0)) := by rw [← hW1, alloc_at, if_neg (by simp; omega), alloc_at, if_neg (by simp), alloc_at, if_pos rfl]
  have hk2 : W1.heap[w.heap.size + 1]? = some (.cells #[.pointer (some ⟨tp, 0, none⟩)] 83 (0, 0)) := by rw [← hW1, alloc_at, if_neg (by simp), alloc_at, if_pos (by simp)]
  have hk3 : W1.heap[w.heap.size + 1 + 1]? = some (.cells #[.int .u64 ((0 : Nat) : Int)] 22 (0, 0)) := by rw [← hW1, alloc_at, if_pos (by simp)]; rfl
  rw [hW1]
  have HB1 := Lib.hid hB1; have Hs1 := Lib.hid hs1; have Hk1 := Lib.hid hk1; have Hk2 := Lib.hid hk2; have Hk3 := Lib.hid hk3
  clear hW1 hB1 hs1 hk1 hk2 hk3
  have eg : ∀ args w, (callFunc 193 args).run Tryz.prog w = .ok (.enter 193 args) w := enters_of Tryz.func193 (by kernel_rfl) rfl
  refine wpIn_rangeFunc_mine (gf := 193) (lb := #[.pointer (some ⟨w.heap.size + 1, 0, none⟩), .pointer (some ⟨w.heap.size + 1 + 1, 0, none⟩)]) rfl (by decide) rfl trivial eg (encs := fun x => #[.agg (nkV x).toArray]) (n₀ := w.heap.size) (V := VK) (S := SEnt T 0) (Sp := fun _ _ _ => True) ?hn0 (X₀ := fun b => b = w.heap.size + 1 ∨ b = w.heap.size + 1 + 1) ?hX ?hseq (fun xs X W l o h hl => h.put l o hl) (fun _ _ _ _ _ _ _ => trivial) (fun x => rfl) (KJ w w.heap.size) (fun _ _ _ _ => False) (KJ.abm _ _) (fun c s X A B h _ => h) (KJ.put _ _ _ (by have := Hs1.out; omega)) (fun c s X W l o o' h _ _ _ => h) ?h0 ?hround ?hdone ?hstop
  case hn0 => have := Hs1.out; omega
  case hX => intro b hb; have := Hs1.out; omega
  case hseq =>
    intro o1 o2
    have hb : Below W1.heap.size W1 ((W1.alloc o1).alloc o2) := ((Below.refl _ _).alloc (Nat.le_refl _) _).alloc (by simp) _
    refine entries_seq (n := 5 - 1) (by decide) HCp.out HOk.out HZ.out HZ1.out sortLawN sortNoneN (by decide) HEn.out _ ((Fr.below (P := fun b => w.heap.size ≤ b) HB1.out).trans (Fr.below (P := fun _ => False) hb) (fun _ _ h => h.elim)) (by omega) (by omega) ((hb.block _ (blk_lt Hk2.out)).trans Hk2.out) ((hb.block _ (blk_lt Hk3.out)).trans Hk3.out)
  case h0 =>
    intro o1 o2
    have hb : Below W1.heap.size W1 ((W1.alloc o1).alloc o2) := ((Below.refl _ _).alloc (Nat.le_refl _) _).alloc (by simp) _
    exact ⟨⟨.slice none 0 0, (hb.block _ (blk_lt Hk1.out)).trans Hk1.out, ⟨rfl, .inl ⟨rfl, rfl⟩⟩, fun b hb => by simp [Value.ownBlock] at hb, by omega, Nat.le_refl _⟩, fun b hb => by omega, HB1.out.trans (hb.mono (by have := Hs1.out; omega))⟩
  case hstop => intro D c pre X W _ _ _ h; exact h.elim
  case hdone =>
    intro D xs X W hD hXD hS hI hDd
    obtain ⟨⟨v, i1, i2, i3, i4, i5⟩, i6, i7⟩ := hI
    have k0 : W.cell? ⟨w.heap.size, 0, none⟩ = some v := by simp [World.cell?, i1]
    have hxl : xs.length ≤ 1073741824 := by
      have h1 := hS.2.1.length_eq
      rw [List.length_map, List.length_map] at h1
      have h2 : (T.ents.filter (fun e => decide (0 ≤ e.hash T.seed))).length ≤ T.ents.length := List.length_filter_le _ _
      have h3 := HEn.out
      omega
    have HSB := Lib.hid (sortB_walk W v xs ⟨i2, fun x hx => ⟨(hS.1 x hx).1, (hS.1 x hx).2.1, fun hq => (i3 _ hq).2 (hS.1 x hx).2.2⟩⟩ (by omega))
    have HI := Lib.hid (And.intro i2 (And.intro i3 (And.intro i6 i7)))
    have HS := Lib.hid hS
    have HD := Lib.hid (And.intro hD hDd)
    clear i1 i2 i3 i4 i5 i6 i7 hS hD hDd hXD eg hxl
    gi_wp2_with (refine ⟨trivial, ?_⟩; gi_at_call 144; refine (callsIn_wide.2 HSB.out).mono ?_; rintro e w' ⟨L', rfl, HQ⟩; replace HQ := Lib.hid HQ)
    obtain ⟨q1, q2, q3, q4⟩ := HQ.out
    obtain ⟨i2, i3, i6, i7⟩ := HI.out
    obtain ⟨d1, d2⟩ := HD.out
    have hne : ∀ (b : Nat) (c : Array Value) (t : TypeId), W.heap[b]? = some (.cells c t (0, 0)) → b ≠ D := fun b c t hb e => by
      subst e
      rw [hb] at d2
      injection d2 with d2
      injection d2
    have hD2 : w'.heap[D]? = some (.deferred (some [])) := (q4.block D (blk_lt d2) (fun e => by
      obtain ⟨cells, hc⟩ := own_typed i2 D e
      exact hne _ _ _ hc rfl)).trans d2
    have hne2 : ∀ (b : Nat) (c : Array Value) (t : TypeId), w'.heap[b]? = some (.cells c t (0, 0)) → b ≠ D := fun b c t hb e => by
      subst e
      rw [hb] at hD2
      injection hD2 with hD2
      injection hD2
    refine ⟨by simp, .inl ⟨_, _, rfl, run_takeDeferred hD2, ?_⟩⟩
    refine ⟨_, results_tmp rfl _ _ _, v, L', rfl, ⟨own_move q1.row (fun b hb => ?_), fun b hb => (i3 b hb).1, fun x hx => ?_⟩, ?_, q3, ?_⟩
    · obtain ⟨cells, hc⟩ := own_typed q1.row b hb
      exact World.putObj_heap_other (hne2 _ _ _ hc)
    · obtain ⟨p1, p2, p3⟩ := q1.keys x hx
      exact ⟨(World.putObj_heap_other (hne2 _ _ _ p1)).trans p1, i6 _ (HS.out.1 x (q2.mem_iff.1 hx)).2.2, p2⟩
    · have h1 := HS.out.2.1
      have h2 : T.ents.filter (fun e => decide (0 ≤ e.hash T.seed)) = T.ents := by rw [List.filter_eq_self]; intro e he; simp
      rw [h2] at h1
      have h3 := h1.map (fun q : Nat × List Int => q.2)
      rw [List.map_map, List.map_map] at h3
      exact (q2.map NK.k).trans h3
    · have hsz := i7.size
      have hls := Hs1.out
      refine ⟨q4.os.trans i7.os, q4.tape.trans i7.tape, q4.output.trans i7.output, by have := q4.size; simp; omega, fun k hk => ?_⟩
      rw [World.putObj_heap_other (by omega)]
      exact (q4.block k (by omega) (fun e => by have := (i3 k e).1; omega)).trans (i7.block k hk)
  case hround =>
    intro l pre X x W hI hV hl hXl hlo
    obtain ⟨⟨v, i1, i2, i3, i4, i5⟩, i6, i7⟩ := hI
    have HBel := Lib.hid (And.intro i6 i7)
    clear i6 i7
    obtain ⟨⟨v1, v2, v3⟩, v4, v5⟩ := hV
    have HXl := Lib.hid v5
    clear v5
    obtain ⟨xh, hxh⟩ : ∃ xh, x.h = xh := ⟨_, rfl⟩
    obtain ⟨xg, hxg⟩ : ∃ xg, x.g = xg := ⟨_, rfl⟩
    obtain ⟨kl, hkl⟩ : ∃ kl, x.k.length = kl := ⟨_, rfl⟩
    have e : (nkV x).toArray = #[.int .u64 (xh : Int), .slice (some ⟨xg, 0, none⟩) kl kl] := by unfold nkV; rw [hkl, hxh, hxg]
    rw [e]
    rw [one_param]
    change Code.wpIn _ _ _ _ _ { tmps := #[.pointer (some ⟨tp, 0, none⟩), undef, .slice none 0 0, .pointer (some ⟨w.heap.size, 0, none⟩), undef, .pointer (some ⟨tp, 0, none⟩), .func (.func 193) #[] #[.pointer (some ⟨w.heap.size + 1, 0, none⟩), .pointer (some ⟨w.heap.size + 1 + 1, 0, none⟩)], .agg #[.int .u64 (xh : Int), .slice (some ⟨xg, 0, none⟩) kl kl], undef, undef, undef, undef, undef, undef, undef], defers := [] } W
    have HI := Lib.hid (And.intro i1 (And.intro i2 (And.intro i3 (And.intro i4 i5))))
    have HV := Lib.hid (And.intro v1 (And.intro v2 (And.intro v3 v4)))
    have HX := Lib.hid (And.intro hxg hkl)
    have HL := Lib.hid (And.intro hl (And.intro hXl hlo))
    obtain ⟨kb, hkb⟩ : ∃ kb, w.heap.size = kb := ⟨_, rfl⟩
    have hW1s := Hs1.out
    have HKB := Lib.hid hkb
    rw [hkb] at HI hW1s ⊢
    replace hW1s := Lib.hid hW1s
    clear i1 i2 i3 i4 i5 v1 v2 v3 v4 hxg hkl hl hXl hlo e eg HB1 Hs1 Hk1 Hk2 Hk3 hxh HCp HOk HZ HZ1 HEn hkb
    gi_wp2
    have hfa : Fr (fun _ => False) W (W.alloc (.cells #[.int .u64 (xh : Int), .slice (some ⟨xg, 0, none⟩) kl kl] 215)) := (Fr.refl _ _).alloc _
    refine ⟨keeps_fr hfa (fun b hb => hb.elim), hfa.mono (fun _ _ h => h.elim), fun o ho => ?_⟩
    obtain ⟨V1, hV1⟩ : ∃ V1, (W.alloc (.cells #[.int .u64 (xh : Int), .slice (some ⟨xg, 0, none⟩) kl kl] 215)).putObj l o = V1 := ⟨_, rfl⟩
    rw [hV1]
    obtain ⟨i1, i2, i3, i4, -⟩ := HI.out
    obtain ⟨l1, l2, ol, l3, l4⟩ := HL.out
    have hll := blk_lt l3
    have hne : ∀ (b : Nat) (c : Array Value) (t : TypeId), W.heap[b]? = some (.cells c t (0, 0)) → V1.heap[b]? = some (.cells c t (0, 0)) := fun b c t hb => by
      have hb1 : b ≠ l := fun e => by
        subst e
        rw [hb] at l3
        injection l3 with l3
        subst l3
        exact absurd l4 (by simp [Obj.isCells])
      rw [← hV1, World.putObj_heap_other hb1, alloc_at, if_neg (by have := blk_lt hb; omega)]
      exact hb
    have hs1 : V1.heap.size = W.heap.size + 1 := by rw [← hV1]; simp
    have hbx : V1.heap[W.heap.size]? = some (.cells #[.int .u64 (xh : Int), .slice (some ⟨xg, 0, none⟩) kl kl] 215 (0, 0)) := by
      rw [← hV1, World.putObj_heap_other (by omega), alloc_at, if_pos rfl]
    have HBelV : Hid (Below kb w V1) := Lib.hid (by
      have h7 := HBel.out.2
      rw [HKB.out] at h7
      have hki := HKB.out
      have hll2 := hW1s.out
      rw [← hV1]
      refine ⟨h7.os, h7.tape, h7.output, by simp; have := h7.size; omega, fun k hk => ?_⟩
      have h8 := h7.size
      rw [World.putObj_heap_other (by omega), alloc_at, if_neg (by omega)]
      exact h7.block k hk)
    have hkb := hne _ _ _ i1
    have hrow : V1.ownsRow 0 53 1 v pre.length (pre.map keyV) := own_move i2 (fun b hb => by
      obtain ⟨cells, hc⟩ := own_typed i2 b hb
      rw [hc]; exact hne _ _ _ hc)
    have k0 : V1.cell? ⟨kb, 0, none⟩ = some v := by simp [World.cell?, hkb]
    have kx : V1.cell? ⟨W.heap.size, 1, none⟩ = some (.slice (some ⟨xg, 0, none⟩) kl kl) := by simp [World.cell?, hbx]
    have hpl := HV.out.2.2.2
    obtain ⟨vb, vc, hvv⟩ := own_slice hrow
    obtain ⟨pl, hpl0⟩ : ∃ pl, pre.length = pl := ⟨_, rfl⟩
    rw [hpl0] at hrow hpl hvv
    subst hvv
    have HRow := Lib.hid hrow; have HKb := Lib.hid hkb; have HS := Lib.hid hs1; have HI3 := Lib.hid i3; have HI4 := Lib.hid i4; have HPl := Lib.hid hpl0
    have HLt : Hid (kb < W.heap.size) := Lib.hid (blk_lt i1)
    clear i1 i2 i3 i4 l1 l2 l3 l4 hll hne hbx hkb hrow hpl0 hfa ho hV1 hs1
    obtain ⟨hN, hhN⟩ : ∃ hN, W.heap.size = hN := ⟨_, rfl⟩
    rw [hhN] at kx HS HLt HXl ⊢
    clear hhN
    have hs1 := HS.out
    obtain ⟨V2, hV2⟩ : ∃ V2, V1.alloc (.cells #[.slice (some ⟨xg, 0, none⟩) kl kl] 53) = V2 := ⟨_, rfl⟩
    have hrow2 : V2.ownsRow 0 53 1 (.slice vb pl vc) pl (pre.map keyV) := by
      rw [← hV2]
      exact own_move HRow.out (fun b hb => by
        obtain ⟨cells, hc⟩ := own_typed HRow.out b hb
        rw [alloc_at, if_neg (by have := blk_lt hc; omega)])
    have hkb2 : V2.heap[kb]? = some (.cells #[.slice vb pl vc] 54 (0, 0)) := by rw [← hV2, alloc_at, if_neg (by have := blk_lt HKb.out; omega)]; exact HKb.out
    have hcn2 : V2.cell? ⟨hN + 1, 0, none⟩ = some (.slice (some ⟨xg, 0, none⟩) kl kl) := by
      have : V2.heap[hN + 1]? = some (.cells #[.slice (some ⟨xg, 0, none⟩) kl kl] 53 (0, 0)) := by rw [← hV2, alloc_at, if_pos hs1.symm]
      simp [World.cell?, this]
    have hs2 : V2.heap.size = hN + 2 := by rw [← hV2]; simp; omega
    have HRow2 := Lib.hid hrow2; have HKb2 := Lib.hid hkb2; have HCn2 := Lib.hid hcn2; have HS2 := Lib.hid hs2; have HV2 := Lib.hid hV2
    have HTy : Hid (∀ b, (Value.slice vb pl vc).ownBlock = some b → ∃ cells, V2.heap[b]? = some (.cells cells 53 (0, 0))) := Lib.hid (fun b hb => own_typed HRow2.out b hb)
    have HKb3 : Hid (∀ w3, V2.grownBy w3 (Value.slice vb pl vc).ownBlock → w3.heap[kb]? = some (.cells #[.slice vb pl vc] 54 (0, 0))) := Lib.hid (fun w3 hg => (hg.block kb (blk_lt HKb2.out) (fun e => by
      obtain ⟨cells, hc⟩ := HTy.out kb e.symm
      rw [HKb2.out] at hc
      injection hc with hc
      injection hc with _ hc _
      exact absurd hc (by decide))).trans HKb2.out)
    clear hrow2 hkb2 hcn2 hs2 hV2
    gi_wp2_with (gi_at_builtin; rw [HV2.out]; refine wpListIn_pushOne V2 rfl _ _ 54 53 (.slice none 0 0) 24 rfl Tryz.underlying54 (by kernel_rfl) rfl (.slice vb pl vc) pl (pre.map keyV) (.slice (some ⟨xg, 0, none⟩) kl kl) rfl rfl (hN + 1) rfl HCn2.out HRow2.out (by omega) (by unfold maxLen; omega) ?_; intro g2 c2 w3 hr3 hg3 hat3; have k3 : w3.cell? ⟨kb, 0, none⟩ = some (.slice vb pl vc) := (by simp [World.cell?, HKb3.out w3 hg3]); have f3 : w3.frozen? ⟨kb, 0, none⟩ = false := (by simp [World.frozen?, HKb3.out w3 hg3]); have H3 := Lib.hid (And.intro hr3 (And.intro hg3 hat3)); clear hr3 hg3 hat3)
    obtain ⟨r1, r2, r3⟩ := H3.out
    have hb3 := HKb3.out w3 r2
    have hg2k : g2 ≠ kb := fun e => by
      subst e
      obtain ⟨cells, hc⟩ := own_typed r1 g2 rfl
      rw [hb3] at hc
      injection hc with hc
      injection hc with _ hc _
      exact absurd hc (by decide)
    have hfr : Fr (fun b => b = kb ∨ (Value.slice vb pl vc).ownBlock = some b) V1 (w3.setCell ⟨kb, 0, none⟩ (.slice (some ⟨g2, 0, none⟩) (pl + 1) c2)) := by
      have f1 : Fr (fun b => b = kb ∨ (Value.slice vb pl vc).ownBlock = some b) V1 V2 := by rw [← HV2.out]; exact (Fr.refl _ _).alloc _
      exact (f1.grown r2 (fun k hk => .inl (.inr hk))).setCell (.inl (.inl rfl)) _
    refine ⟨keeps_fr hfr (fun b hb => ?_), hfr.mono (fun b _ hb => ?_), ⟨.slice (some ⟨g2, 0, none⟩) (pl + 1) c2, ?_, ?_, fun b hb => ?_, HI4.out, Nat.le_of_eq HKB.out⟩, HBel.out.1, by rw [HKB.out]; exact ⟨hfr.os.trans HBelV.out.os, hfr.tape.trans HBelV.out.tape, hfr.output.trans HBelV.out.output, Nat.le_trans HBelV.out.size hfr.size, fun k hk => (hfr.block k (by have := blk_lt HKb.out; omega) (fun hp => by rcases hp with hp | hp; omega; have := (HI3.out k hp).1; omega)).trans (HBelV.out.block k hk)⟩⟩
    · rcases hb with hb | hb
      · subst hb; exact ⟨_, _, HKb.out⟩
      · obtain ⟨cells, hc⟩ := own_typed HRow.out b hb; exact ⟨_, _, hc⟩
    · rcases hb with hb | hb
      · subst hb; exact ⟨HI4.out, Nat.le_refl _⟩
      · exact ⟨(HI3.out b hb).2, (HI3.out b hb).1⟩
    · rw [heap_setCell_same w3 kb 0 _ _ _ hb3]; rfl
    · rw [List.length_append, List.length_singleton, HPl.out, List.map_append]
      have e : [x].map keyV = [.slice (some ⟨xg, 0, none⟩) kl kl] := by show [keyV x] = _; unfold keyV; rw [HX.out.1, HX.out.2]
      rw [e]
      exact own_move r1 (fun b hb => by
        have : g2 = b := by simpa [Value.ownBlock] using hb
        subst this
        exact heap_setCell_other w3 _ _ _ hg2k)
    · have : g2 = b := by simpa [Value.ownBlock] using hb
      subst this
      rcases r3 with r3 | r3
      · have := HI3.out g2 r3
        exact ⟨by rw [HKB.out]; exact this.1, this.2⟩
      · have h1 := HS2.out
        have h2 := HLt.out
        refine ⟨by rw [HKB.out]; omega, fun hx => ?_⟩
        have := HXl.out g2 hx
        omega
end
end Go.Proofs.YtglglknhifjbaaaGreatDoor.Sp
namespace Go.Proofs.YtglglknhifjbaaaGreatDoor.Sp
open Go.RowKit Go.Proofs.YtglglknhifjbaaaGreatDoorW.PrintWords Go.Proofs.YtglglknhifjbaaaGreatDoorW.PrintLast Go.Proofs.YtglglknhifjbaaaGreatDoorW.PrintMore
set_option linter.unusedVariables false
set_option linter.unusedSimpArgs false
set_option maxHeartbeats 4000000 in
theorem heapOf_walk (w : World) (s hp : Nat) (h : w.cell? ⟨s, 0, none⟩ = some (.pointer (some ⟨hp, 0, none⟩))) :
    Calls Tryz.prog 9 #[.pointer (some ⟨s, 0, none⟩)] w fun e w' => e = .returned (.pointer (some ⟨hp, 0, none⟩)) ∧ w = w' := by
  go_enter Tryz.func9, Tryz.ntmps9
  go_wp2_with fail
  go_ret
  exact ⟨rfl, rfl⟩
def StatsPost (w : World) (M : HM) (e : Ending) (w' : World) : Prop := Below w.heap.size w w' ∧ ∃ k : Int, e = .returned (.agg #[.int .i64 (M.limit : Int), .int .i64 (M.half.size : Int), .int .i64 (usedOf M.half.objs : Int), .int .i64 (M.large : Int), .int .i64 k, .int .i64 (M.nroots : Int), .int .i64 M.ncoll, .int .i64 M.nres, .int .i64 M.moved])
end Go.Proofs.YtglglknhifjbaaaGreatDoor.Sp
namespace Go.Proofs.YtglglknhifjbaaaGreatDoor.Sp
open Go.RowKit Go.Proofs.YtglglknhifjbaaaGreatDoorW.PrintWords Go.Proofs.YtglglknhifjbaaaGreatDoorW.PrintLast Go.Proofs.YtglglknhifjbaaaGreatDoorW.PrintMore
set_option linter.unusedVariables false
set_option linter.unusedSimpArgs false
section
variable {w : World} {own : Own} {hp : Nat} {G : Gr} {hs : List Nat} {bs : List (Option Nat)}
theorem collectO_walk (H : HO w own hp G hs bs) :
    Calls Tryz.prog 11 #[.pointer (some ⟨hp, 0, none⟩)] w fun e w' => e = .returned (.tuple #[]) ∧ ∃ own' hs' bs', HO w' own' hp G hs' bs' ∧ HStep w own w' own' ∧ ∀ i, Live hs' bs' i ↔ Reach G i := by
  obtain ⟨M, x, hM, R⟩ := H
  refine (hCollect_walk w own hp M x hM G hs bs R (Nat.le_trans R.blen (by decide))).mono ?_
  rintro e w' ⟨own', M', x', P, bs', rfl, h1, h2, h3, h4, -⟩
  exact ⟨rfl, own', P, bs', ⟨M', x', h1, h2⟩, h4, h3⟩
end
end Go.Proofs.YtglglknhifjbaaaGreatDoor.Sp
namespace Go.Proofs.YtglglknhifjbaaaGreatDoor.Sp
open Go.RowKit Go.Proofs.YtglglknhifjbaaaGreatDoorW.PrintWords Go.Proofs.YtglglknhifjbaaaGreatDoorW.PrintLast Go.Proofs.YtglglknhifjbaaaGreatDoorW.PrintMore
set_option linter.unusedVariables false
set_option linter.unusedSimpArgs false
set_option maxHeartbeats 1000000 in
theorem isPlace_walk (w : World) (db : Nat) (hdb : db < 4) (A : Option Addr) (n c : Nat) (hn : n ≤ 4096) : Calls Tryz.prog 62 #[.int .i64 (db : Int), .slice A n c] w fun e w' => e = .returned (.int .i64 0) ∧ w = w' := by
  go_enter Tryz.func62, Tryz.ntmps62
  go_wp2_with fail
  go_ret
  exact ⟨rfl, rfl⟩
set_option maxHeartbeats 1000000 in
theorem may_walk (w : World) (s db : Nat) (hdb : db < 4) (A : Option Addr) (n c : Nat) (hn : n ≤ 4096) (hr : w.cell? ⟨s, 11, none⟩ = some (.bool true)) : Calls Tryz.prog 84 #[.pointer (some ⟨s, 0, none⟩), .int .i64 (db : Int), .slice A n c] w fun e w' => e = .returned (.int .i64 0) ∧ w = w' := by
  have HI := Lib.hid (isPlace_walk w db hdb A n c hn)
  go_enter Tryz.func84, Tryz.ntmps84
  go_wp2_with fail
  refine HI.out.mono ?_
  rintro e w' ⟨rfl, rfl⟩
  go_wp2_with fail
  go_ret
  exact ⟨rfl, rfl⟩
def textV (A : Option Addr) (n c : Nat) : Value := .agg #[.int .i64 1, .slice A n c, .slice none 0 0, .slice none 0 0, .slice none 0 0]
set_option maxHeartbeats 1000000 in
theorem elements_walk (w : World) (A : Option Addr) (n c : Nat) : Calls Tryz.prog 86 #[textV A n c] w fun e w' => e = .returned (.int .i64 1) ∧ Below w.heap.size w w' := by
  unfold textV
  go_enter Tryz.func86, Tryz.ntmps86
  go_wp2_with fail
  refine bodyPost_ret (results_tmp rfl _ _ _) rfl ?_
  exact ⟨rfl, (Below.refl _ _).alloc (Nat.le_refl _) _⟩
set_option maxHeartbeats 1000000 in
theorem spB_walk (w : World) (n : Nat) (hn : n ≤ 1048576) : Calls Tryz.prog 142 #[.int .i64 (n : Int)] w fun e w' => e = .returned (.int .i64 ((2 + wordsN n : Nat) : Int)) ∧ w = w' := by
  have HW := Lib.hid (words_walk w n hn)
  have hb : wordsN n ≤ 1048577 := by unfold wordsN; omega
  obtain ⟨m, hm⟩ : ∃ m, wordsN n = m := ⟨_, rfl⟩
  rw [hm] at HW hb ⊢
  have e1 : IntKind.i64.wrap (2 + (m : Int)) = ((2 + m : Nat) : Int) := by
    rw [show (2 + (m : Int)) = ((2 + m : Nat) : Int) by omega]
    exact Go.IntWalk.i64_in _ (by omega)
  clear hm hn
  go_enter Tryz.func142, Tryz.ntmps142
  go_wp2_with fail
  refine HW.out.mono ?_
  rintro e w' ⟨rfl, rfl⟩
  go_wp2_with fail
  go_ret
  exact ⟨by rw [show ((2 + m : Nat) : Int) = 2 + (m : Int) by omega]; rfl, rfl⟩
def costT (k n : Nat) : Nat := 28 + wordsN k + wordsN n
set_option maxHeartbeats 1000000 in
theorem weight_walk (w : World) (k : Nat) (hk : k ≤ 4096) (A : Option Addr) (n c : Nat) (hn : n ≤ 4096) : Calls Tryz.prog 93 #[.int .i64 (k : Int), textV A n c] w fun e w' => e = .returned (.int .i64 (costT k n : Int)) ∧ Below w.heap.size w w' := by
  have HB := Lib.hid fun W (m : Nat) (h : m ≤ 1048576) => spB_walk W m h
  have hb1 : wordsN k ≤ 1048577 := by unfold wordsN; omega
  have hb2 : wordsN n ≤ 1048577 := by unfold wordsN; omega
  have hc : costT k n = 24 + (2 + wordsN k) + (2 + wordsN n) := by unfold costT; omega
  rw [hc]
  have H1 := Lib.hid fun W => HB.out W k (by omega)
  have H2 := Lib.hid fun W => HB.out W n (by omega)
  obtain ⟨x1, hx1⟩ : ∃ x, 2 + wordsN k = x := ⟨_, rfl⟩
  obtain ⟨x2, hx2⟩ : ∃ x, 2 + wordsN n = x := ⟨_, rfl⟩
  have hx1b : x1 ≤ 1048579 := by omega
  have hx2b : x2 ≤ 1048579 := by omega
  rw [hx1] at H1 ⊢
  rw [hx2] at H2 ⊢
  unfold textV
  clear hb1 hb2 hc hk hn hx1 hx2 HB
  go_enter Tryz.func93, Tryz.ntmps93
  go_wp2_with fail
  refine (H1.out _).mono ?_
  rintro e w' ⟨rfl, rfl⟩
  go_wp2_with fail
  refine (H2.out _).mono ?_
  rintro e w' ⟨rfl, rfl⟩
  go_wp2_with fail
  refine bodyPost_ret (results_tmp rfl _ _ _) rfl ?_
  exact ⟨by go_num, (Below.refl _ _).alloc (Nat.le_refl _) _⟩
end Go.Proofs.YtglglknhifjbaaaGreatDoor.Sp
namespace Go.Proofs.YtglglknhifjbaaaGreatDoor.Sp
open Go.RowKit Go.Proofs.YtglglknhifjbaaaGreatDoorW.PrintWords Go.Proofs.YtglglknhifjbaaaGreatDoorW.PrintLast Go.Proofs.YtglglknhifjbaaaGreatDoorW.PrintMore
set_option linter.unusedVariables false
set_option linter.unusedSimpArgs false
set_option maxHeartbeats 1000000 in
theorem valid1_walk (w : World) (A : Option Addr) (n c : Nat) (hn : n ≤ 4096) : Calls Tryz.prog 131 #[.slice A n c] w fun e w' => e = .returned (.bool false) ∧ w = w' := by
  go_enter Tryz.func131, Tryz.ntmps131
  go_wp2_with fail
  go_ret
  exact ⟨by rw [decide_eq_false (by omega)]; rfl, rfl⟩
theorem enter_valid1 : ∀ args w, (callFunc 131 args).run Tryz.prog w = .ok (.enter 131 args) w := enters_of Tryz.func131 (by kernel_rfl) rfl
set_option maxHeartbeats 1000000 in
theorem idx_none (w : World) : Calls Tryz.prog 183 #[.slice none 0 0, .func (.func 131) #[] #[]] w fun e w' => e = .returned (.int .i64 (-1)) ∧ w = w' := by
  go_enter Tryz.func183, Tryz.ntmps183
  go_wp2_with fail
  refine wp_loop_rounds 1 ?_
  rw [rounds_succ]
  go_wp2_with fail
  go_ret
  exact ⟨rfl, rfl⟩
set_option maxHeartbeats 1000000 in
theorem idx_one (w : World) (g : Nat) (A : Option Addr) (n c : Nat) (hn : n ≤ 4096) (hg : w.cell? ⟨g, 0, none⟩ = some (.slice A n c)) : Calls Tryz.prog 183 #[.slice (some ⟨g, 0, none⟩) 1 1, .func (.func 131) #[] #[]] w fun e w' => e = .returned (.int .i64 (-1)) ∧ w = w' := by
  have HV := Lib.hid (valid1_walk w A n c hn)
  have eg := enter_valid1
  go_enter Tryz.func183, Tryz.ntmps183
  go_wp2_with fail
  refine wp_loop_rounds 2 ?_
  rw [rounds_succ]
  go_wp2_with (go_at_call 131; refine HV.out.mono ?_; rintro e w' ⟨rfl, rfl⟩)
  rw [rounds_succ]
  go_wp2_with fail
  go_ret
  exact ⟨rfl, rfl⟩
set_option maxHeartbeats 1000000 in
theorem contains_of (w : World) (v : Value) (A : Option Addr) (n c : Nat) (hv : v = .slice A n c) (HI : Calls Tryz.prog 183 #[v, .func (.func 131) #[] #[]] w fun e w' => e = .returned (.int .i64 (-1)) ∧ w = w') :
    Calls Tryz.prog 132 #[v, .func (.func 131) #[] #[]] w fun e w' => e = .returned (.bool false) ∧ w = w' := by
  subst hv
  replace HI := Lib.hid HI
  go_enter Tryz.func132, Tryz.ntmps132
  go_wp2_with fail
  refine HI.out.mono ?_
  rintro e w' ⟨rfl, rfl⟩
  go_wp2_with fail
  go_ret
  exact ⟨rfl, rfl⟩
set_option maxHeartbeats 2000000 in
theorem valid_walk (w : World) (A : Option Addr) (n c : Nat) (hn : n ≤ 4096) : Calls Tryz.prog 85 #[textV A n c] w fun e w' => e = .returned (.int .i64 0) ∧ Below w.heap.size w w' := by
  have HC := Lib.hid fun W (g : Nat) (hg : W.cell? ⟨g, 0, none⟩ = some (.slice A n c)) => contains_of W _ _ 1 1 rfl (idx_one W g A n c hn hg)
  have H0 := Lib.hid fun W => contains_of W _ none 0 0 rfl (idx_none W)
  have hmm : ∀ W : World, (Instr.makeMap 203 none).run Tryz.prog W = .ok (.map (some W.heap.size)) (W.alloc (.map #[] 0)) := fun W => by
    exact run_makeMap _ W
  unfold textV
  clear hn
  go_enter Tryz.func85, Tryz.ntmps85
  go_wp2_with fail
  refine (HC.out _ _ (by unfold World.cell?; rw [show ∀ (W : World) (o : Obj) (k : Nat), k = W.heap.size → (W.alloc o).heap[k]? = some o from fun W o k hk => by rw [alloc_at, if_pos hk]] <;> simp)).mono ?_
  rintro e w' ⟨rfl, rfl⟩
  go_wp2_with fail
  refine (H0.out _).mono ?_
  rintro e w' ⟨rfl, rfl⟩
  go_wp2_with fail
  refine wp_loop_rounds 1 ?_
  rw [rounds_succ]
  go_wp2_with fail
  refine bodyPost_ret (results_tmp rfl _ _ _) rfl ?_
  exact ⟨rfl, (((Below.refl _ _).alloc (Nat.le_refl _) _).alloc (by simp) _).alloc (by simp; omega) _⟩
end Go.Proofs.YtglglknhifjbaaaGreatDoor.Sp
namespace Go.Proofs.YtglglknhifjbaaaGreatDoor.Sp
open Go.RowKit Go.Proofs.YtglglknhifjbaaaGreatDoorW.PrintWords Go.Proofs.YtglglknhifjbaaaGreatDoorW.PrintLast Go.Proofs.YtglglknhifjbaaaGreatDoorW.PrintMore
set_option linter.unusedVariables false
set_option linter.unusedSimpArgs false
def EntryPost (w : World) (G : Gr) (hs : List Nat) (bs : List (Option Nat)) (T : Tab) (key : List Int) (e : Ending) (w' : World) : Prop :=
  Below w.heap.size w w' ∧
  ((e = .returned (.tuple #[.int .i64 0, .int .u64 0, .int .u64 0, .int .i64 0]) ∧ T.find key = none) ∨
   (∃ a, T.find key = some a ∧ e = .returned (.tuple #[.int .i64 ((a.a % 256 : Nat) : Int), .int .u64 (plOf G hs bs a.ref : Int), .int .u64 (a.b : Int), .int .i64 ((a.a / 256 : Nat) : Int)])))
section
variable {w : World} {G : Gr} {hs : List Nat} {bs : List (Option Nat)} {s tp db : Nat} {T : Tab}
set_option maxHeartbeats 1000000 in
theorem entry_walk (hdb : db < 4) (hc : w.cell? ⟨s, 4 + db, none⟩ = some (.pointer (some ⟨tp, 0, none⟩))) (A : Option Addr) (key : List Int) (c : Nat) (hkl : key.length ≤ 4096) (hok : ∀ a ∈ T.ents, a.a < 9223372036854775808)
    (HG : Calls Tryz.prog 96 #[.pointer (some ⟨tp, 0, none⟩), .slice A key.length c] w (GetPost w G hs bs T key)) (hsub : ∀ a, T.find key = some a → a ∈ T.ents) :
    Calls Tryz.prog 54 #[.pointer (some ⟨s, 0, none⟩), .int .i64 (db : Int), .slice A key.length c] w (EntryPost w G hs bs T key) := by
  have HI := Lib.hid (isPlace_walk w db hdb A key.length c hkl)
  obtain ⟨n, hn⟩ : ∃ n, key.length = n := ⟨_, rfl⟩
  rw [hn] at HI HG ⊢
  replace HG := Lib.hid HG
  have HK := Lib.hid (And.intro hok hsub)
  clear hok hsub hkl hn
  go_enter Tryz.func54, Tryz.ntmps54
  go_wp2_with fail
  refine HI.out.mono ?_
  rintro e w' ⟨rfl, rfl⟩
  go_wp2_with fail
  refine HG.out.mono ?_
  rintro e w1 ⟨hb, ⟨rfl, hf⟩ | ⟨a, hf, rfl⟩⟩
  · have HQ := Lib.hid (And.intro hb hf)
    clear hb hf
    go_wp2_with fail
    refine bodyPost_ret (results_tmp4 rfl _ _ _) rfl ?_
    exact ⟨HQ.out.1, .inl ⟨rfl, HQ.out.2⟩⟩
  · have hal := HK.out.1 a (HK.out.2 a hf)
    have HQ := Lib.hid (And.intro hb hf)
    clear hb
    go_wp2_with fail
    have e1 : wrap64 (bits .and .u64 (a.a : Int) 255) = ((a.a % 256 : Nat) : Int) := by
      rw [and255 a.a (by omega)]
      exact Go.IntWalk.wrap64_in _ ⟨by omega, by omega⟩
    have e2 : (a.a : Int) / 256 = ((a.a / 256 : Nat) : Int) := by simp
    rw [e1, e2]
    refine bodyPost_ret (results_tmp4 rfl _ _ _) rfl ?_
    exact ⟨HQ.out.1, .inr ⟨a, HQ.out.2, rfl⟩⟩
def FindKPost (w : World) (G : Gr) (hs : List Nat) (bs : List (Option Nat)) (T : Tab) (key : List Int) (e : Ending) (w' : World) : Prop :=
  Below w.heap.size w w' ∧
  ((e = .returned (.tuple #[.int .i64 0, .int .u64 0]) ∧ T.find key = none) ∨
   (∃ a, T.find key = some a ∧ e = .returned (.tuple #[.int .i64 ((a.a % 256 : Nat) : Int), .int .u64 (plOf G hs bs a.ref : Int)])))
set_option maxHeartbeats 1000000 in
theorem findK_walk (A : Option Addr) (key : List Int) (c : Nat) (HE : Calls Tryz.prog 54 #[.pointer (some ⟨s, 0, none⟩), .int .i64 (db : Int), .slice A key.length c] w (EntryPost w G hs bs T key)) :
    Calls Tryz.prog 63 #[.pointer (some ⟨s, 0, none⟩), .int .i64 (db : Int), .slice A key.length c] w (FindKPost w G hs bs T key) := by
  obtain ⟨n, hn⟩ : ∃ n, key.length = n := ⟨_, rfl⟩
  rw [hn] at HE ⊢
  replace HE := Lib.hid HE
  clear hn
  go_enter Tryz.func63, Tryz.ntmps63
  go_wp2_with fail
  refine HE.out.mono ?_
  rintro e w1 ⟨hb, ⟨rfl, hf⟩ | ⟨a, hf, rfl⟩⟩
  · have HQ := Lib.hid (And.intro hb hf)
    clear hb hf
    go_wp2_with fail
    refine bodyPost_ret (results_tmp2 rfl _ _ _) rfl ?_
    exact ⟨HQ.out.1, .inl ⟨rfl, HQ.out.2⟩⟩
  · have HQ := Lib.hid (And.intro hb hf)
    clear hb hf
    obtain ⟨x, hx⟩ : ∃ x, a.a % 256 = x := ⟨_, rfl⟩
    obtain ⟨y, hy⟩ : ∃ y, plOf G hs bs a.ref = y := ⟨_, rfl⟩
    rw [hx, hy]
    have HX := Lib.hid (And.intro hx hy)
    clear hx hy
    go_wp2_with fail
    refine bodyPost_ret (results_tmp2 rfl _ _ _) rfl ?_
    exact ⟨HQ.out.1, .inr ⟨a, HQ.out.2, by rw [HX.out.1, HX.out.2]; rfl⟩⟩
end
end Go.Proofs.YtglglknhifjbaaaGreatDoor.Sp
