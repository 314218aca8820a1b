import Derived.Test.YtglglknhifjbaaaGreatDoorWei
import Derived.Test.YtglglknhifjbaaaGreatDoorSet
import Derived.Test.YtglglknhifjbaaaGreatDoorRn1
import Derived.Test.YtglglknhifjbaaaGreatDoorArw
namespace Go.Proofs.YtglglknhifjbaaaGreatDoor.Sp
open Go.RowKit Go.Proofs.YtglglknhifjbaaaGreatDoorW.PrintWords Go.Proofs.YtglglknhifjbaaaGreatDoorW.PrintLast Go.Proofs.YtglglknhifjbaaaGreatDoorW.PrintMore
open Go.ChangeMaps (setBlock)
set_option linter.unusedVariables false
set_option linter.unusedSimpArgs false
set_option maxHeartbeats 1000000 in
theorem same_diff (w : World) (B : Option Addr) (n c : Nat) : Calls Tryz.prog 125 #[.agg #[.int .i64 1, .slice B n c, .slice none 0 0, .slice none 0 0, .slice none 0 0], .agg #[.int .i64 0, .slice none 0 0, .slice none 0 0, .slice none 0 0, .slice none 0 0]] w fun e w' => e = .returned (.bool false) ∧ Below w.heap.size w w' := by
  go_enter Tryz.func125, Tryz.ntmps125
  go_wp2_with fail
  refine bodyPost_ret (results_tmp rfl _ _ _) rfl ?_
  exact ⟨rfl, ((Below.refl _ _).alloc (Nat.le_refl _) _).alloc (by simp) _⟩
section
variable {n0 : Nat} {w W' : World} {own : Own} {hp : Nat} {G : Gr} {hs : List Nat} {bs : List (Option Nat)} {tp hd t : Nat} {T : Tab} {rest : Plan} {s mb ck : Nat} {c c' : SC} {es es' : Array MapEntry} {ck' : Nat} {key tx : List Int}
theorem SpS.turn (h : SpS n0 w own hp G hs bs tp hd t T rest s mb c es ck) (hf : Fr (fun b => b = s ∨ b = mb) w W') (h1 : W'.heap[s]? = some (.cells (c'.cells hp tp mb) 86 (0, 0))) (h2 : W'.heap[mb]? = some (.map es' ck')) : SpS n0 W' own hp G hs bs tp hd t T rest s mb c' es' ck' ∧ Below n0 w W' :=
  ⟨⟨h.ht.fr hf (fun b hb => by rcases hb with hb | hb <;> rw [hb]; exact h.os; exact h.om) (fun q => q.elim h.ts h.tm) (fun q => q.elim h.gs h.gm), h1, h2, h.os, h.om, h.low, h.ns, h.nm, h.nt⟩,
    ⟨hf.os, hf.tape, hf.output, hf.size, fun k hk => hf.block k (Nat.lt_of_lt_of_le hk h.n0le) (fun q => by have := h.ns; have := h.nm; rcases q with q | q <;> omega)⟩⟩
def SetlPost (n0 : Nat) (w : World) (own : Own) (hp tp hd t : Nat) (T : Tab) (rest : Plan) (s mb : Nat) (c : SC) (ck : Nat) (key tx : List Int) (x : Ent) (G : Gr) (w' : World) : Prop :=
  ∃ (own' : Own) (G' : Gr) (hs' : List Nat) (bs' : List (Option Nat)) (T' : Tab) (c' : SC), SpS n0 w' own' hp G' hs' bs' tp hd t T' rest s mb c' #[] ck ∧ Below n0 w w' ∧ Kp w own s mb w' own' ∧ G'.hands = G.hands ∧ G'.limit = G.limit ∧ c'.run = false ∧ T'.oid = 0 ∧
    ∃ r, T.ents.Perm (x :: r) ∧ T'.ents.Perm ({ x with ref := x.ref, a := 1 + 256 * costT key.length tx.length, b := 0 } :: r)
theorem settle_walk {x : Ent} {b : Nat} (h : SpS n0 w own hp G hs bs tp hd t T rest s mb c #[⟨plK 0 (bArr key), st0, b⟩] ck) (hb : b < ck) (hx : Has T rest x key tx) (ho : T.oid = 0) (hco : c.tot + costT key.length tx.length ≤ 1048576) (hg : c.gone = .slice none 0 0) (hch : c.chg = .slice none 0 0) :
    Calls Tryz.prog 82 #[.pointer (some ⟨s, 0, none⟩)] w fun e w' => e = .returned (.tuple #[]) ∧ SetlPost n0 w own hp tp hd t T rest s mb c ck key tx x G w' := by
  obtain ⟨W0, r, hrg, b0, i0⟩ := h.rng (Nat.le_refl w.heap.size)
  have hco' : costT key.length tx.length ≤ 1048576 := Nat.le_trans (Nat.le_add_left _ _) hco
  have h0 := h.below b0
  obtain ⟨W1, hnx, hen, h1, i1, b1⟩ := h0.nxt1 i0 hb
  have bw1 := b0.trans b1
  refine settle_raw (tt := c.tot) (co := costT key.length tx.length) (pl := plOf G hs bs x.ref) (cc := x.a / 256) (n := key.length) (m := tx.length) _ (fun w10 => ∃ (own' : Own) (G' : Gr) (hs' : List Nat) (bs' : List (Option Nat)) (T' : Tab), SpS n0 w10 own' hp G' hs' bs' tp hd t T' rest s mb { c with tot := c.tot + costT key.length tx.length } #[⟨plK 0 (bArr key), st0, b⟩] ck ∧ Below n0 w w10 ∧ Kp w own s mb w10 own' ∧ G'.hands = G.hands ∧ G'.limit = G.limit ∧ T'.oid = 0 ∧
      ∃ r, T.ents.Perm (x :: r) ∧ T'.ents.Perm ({ x with ref := x.ref, a := 1 + 256 * costT key.length tx.length, b := 0 } :: r)) (blk_lt h1.hs_) (by rw [h.cell 13]; rfl) hco hx.klen hrg hnx hen (fun W2 hW => ?_) (fun w10 hP => ?_)
  · obtain ⟨cap, W3, hcv, b3, hB3⟩ := run_byt (W := W2) hx.isB
    refine ⟨W2.heap.size, cap, W3, hcv, b3, Lib.hid ?_⟩
    have h3 := (h1.below hW).below b3
    have i3 := (i1.below hW).below b3
    have b13 := hW.trans (b3.mono hW.size)
    refine (h3.get (some ⟨W2.heap.size, 0, none⟩) key cap hx.isB hB3 hx.klen hx.ok).mono ?_
    rintro e w4 ⟨b4, ⟨-, hn⟩ | ⟨a, ha, rfl⟩⟩
    · rw [hx.find] at hn; cases hn
    rw [hx.find] at ha
    injection ha with ha
    subst ha
    refine ⟨by rw [hx.a, hx.b]; rfl, b4, Lib.hid ?_⟩
    have h4 := h3.below b4
    refine (h4.read hx.mem hx.text).mono ?_
    rintro e w5 ⟨g, rfl, -, -, b5⟩
    refine ⟨g, rfl, b5, Lib.hid fun W6 b6 => ?_⟩
    refine (weight_walk W6 key.length hx.klen (some ⟨g, 0, none⟩) tx.length tx.length hx.tlen).mono ?_
    rintro e w7 ⟨rfl, b7⟩
    refine ⟨rfl, b7, Lib.hid ?_⟩
    have h7 := ((h4.below b5).below b6).below b7
    have b47 := ((b4.trans (b5.mono b4.size)).trans (b6.mono (Nat.le_trans b4.size b5.size))).trans (b7.mono (Nat.le_trans b4.size (Nat.le_trans b5.size b6.size)))
    have i7 := i3.below b47
    have hz12 : w.heap.size ≤ W2.heap.size := Nat.le_trans b0.size (Nat.le_trans b1.size hW.size)
    have y7 : Byt w7 own (some ⟨W2.heap.size, 0, none⟩) key := ⟨hx.isB, hB3.below b47, fun g o e => (show W2.heap.size = g from congrArg Addr.block (Option.some.inj e)) ▸ h.ht.ho.top _ hz12, hx.pos, hx.klen⟩
    have hrp := h7.reput y7 cap (kd := 1) (cost := costT key.length tx.length) (by omega) hco' ho hx.find
    refine hrp.mono ?_
    rintro e w8 ⟨rfl, own', G', hs', bs', T', h8, st8, g1, g2, e1, r', r1, r2⟩
    refine ⟨rfl, fun k hk hk7 => st8.block hk7 (h.ht.ho.top _ (Nat.le_trans (Nat.le_trans b0.size b1.size) hk)), by rw [h8.cell 9]; rfl, h8.fz 9, st8.fr.size, Lib.hid ?_⟩
    rintro W9 ⟨k, rfl⟩
    obtain ⟨h9, b9⟩ := h8.set 9 (.int .i64 ((c.tot + costT key.length tx.length : Nat) : Int)) { c with tot := c.tot + costT key.length tx.length } (by simp [SC.cells])
    have i9 := (i7.step st8).set h8 9 (.int .i64 ((c.tot + costT key.length tx.length : Nat) : Int))
    have bk := bd (Below.refl (w8.setCell ⟨s, 9, none⟩ (.int .i64 ((c.tot + costT key.length tx.length : Nat) : Int))).heap.size (w8.setCell ⟨s, 9, none⟩ (.int .i64 ((c.tot + costT key.length tx.length : Nat) : Int)))) k
    refine (same_diff _ (some ⟨g, 0, none⟩) tx.length tx.length).mono ?_
    rintro e w10 ⟨rfl, b10⟩
    have h10 := (h9.below bk).below b10
    have i10 := (i9.below bk).below b10
    refine ⟨rfl, by rw [h10.cell 13]; rfl, by rw [h10.cell 14, ← hg]; rfl, by rw [h10.cell 15, ← hch]; rfl, Lib.hid ⟨h10.nxt2 i10 hb, own', G', hs', bs', T', h10, ?_, ?_, g1, g2, e1, r', r1, r2⟩⟩
    · exact ((((h.bel bw1).trans (h1.bel b13)).trans (h3.bel b47)).trans ((h7.step st8 h8.ht).2.trans b9)).trans ((h9.bel bk).trans ((h9.below bk).bel b10))
    · exact ((((Kp.below own s mb bw1).trans (Kp.below own s mb b13)).trans (Kp.below own s mb b47)).trans ((Kp.step s mb st8).trans (Kp.set _ own' s mb _ _))).trans ((Kp.below own' s mb bk).trans (Kp.below own' s mb b10))
  · obtain ⟨own', G', hs', bs', T', h10, bw, kw, g1, g2, e1, r', r1, r2⟩ := hP
    refine ⟨ck, b, _, h10.hm, hb, h10.hs_, rfl, fun w' v hf hmb hss => ?_⟩
    obtain ⟨h11, b11⟩ := h10.turn (c' := { c with tot := c.tot + costT key.length tx.length, chg := v, gone := .slice none 0 0, run := false }) hf (by rw [hss]; simp [SC.cells]) hmb
    exact ⟨own', G', hs', bs', T', _, h11, bw.trans b11, kw.trans (Kp.fr own' hf), g1, g2, rfl, e1, r', r1, r2⟩
end
end Go.Proofs.YtglglknhifjbaaaGreatDoor.Sp
namespace Go.Proofs.YtglglknhifjbaaaGreatDoor.Sp
open Go.RowKit Go.Proofs.YtglglknhifjbaaaGreatDoorW.PrintWords Go.Proofs.YtglglknhifjbaaaGreatDoorW.PrintLast Go.Proofs.YtglglknhifjbaaaGreatDoorW.PrintMore
open Go.ChangeMaps (setBlock)
set_option linter.unusedVariables false
set_option linter.unusedSimpArgs false
section
variable {n0 : Nat} {w W' : World} {own : Own} {hp : Nat} {G : Gr} {hs : List Nat} {bs : List (Option Nat)} {tp hd t : Nat} {T : Tab} {rest : Plan} {s mb ck : Nat} {c c' : SC} {es es' : Array MapEntry} {ck' : Nat} {key tx : List Int}
theorem end_walk {x : Ent} {b : Nat} (h : SpS n0 w own hp G hs bs tp hd t T rest s mb c #[⟨plK 0 (bArr key), st0, b⟩] ck) (hb : b < ck) (hx : Has T rest x key tx) (ho : T.oid = 0) (hco : c.tot + costT key.length tx.length ≤ c.q) (hq : c.q ≤ 16384) (hgi : c.giv = 0) (hg : c.gone = .slice none 0 0) (hch : c.chg = .slice none 0 0) :
    Calls Tryz.prog 83 #[.pointer (some ⟨s, 0, none⟩), rep0] w fun e w' => e = .returned (.tuple #[rep0, .int .i64 0]) ∧ SetlPost n0 w own hp tp hd t T rest s mb c ck key tx x G w' := by
  have hls := blk_lt h.hs_
  have hlm := blk_lt h.hm
  have hlt := blk_lt h.ht.ta.cell
  have hlg := h.ht.gl.lt
  have hco1 : c.tot + costT key.length tx.length ≤ 1048576 := by omega
  refine (end_raw (q := c.q) (co := c.tot + costT key.length tx.length) (pl := plOf G hs bs x.ref) (kb := bArr key) (mb := mb) (fun w8 => ∃ (own' : Own) (G' : Gr) (hs' : List Nat) (bs' : List (Option Nat)) (T' : Tab) (c' : SC), SpS n0 w8 own' hp G' hs' bs' tp hd t T' rest s mb c' #[] ck ∧ Below n0 w w8 ∧ Kp w own s mb w8 own' ∧ G'.hands = G.hands ∧ G'.limit = G.limit ∧ c'.run = false ∧ T'.oid = 0 ∧
    (∃ r, T.ents.Perm (x :: r) ∧ T'.ents.Perm ({ x with ref := x.ref, a := 1 + 256 * costT key.length tx.length, b := 0 } :: r)) ∧ ∀ b, w.heap.size ≤ b → b < w.heap.size + 2 → own' b = 0) (fun W hW => by rw [(h.below hW).cell 13]; rfl) hco (fun V hV hV2 => ?_)).mono ?_
  · have hv := h.below hV
    obtain ⟨W0, r, hrg, b0, i0⟩ := hv.rng (Nat.le_refl V.heap.size)
    have h0 := hv.below b0
    obtain ⟨W1, hnx, hen, h1, i1, b1⟩ := h0.nxt1 i0 hb
    have bv1 := b0.trans b1
    refine ⟨r, W0, W1, hrg, hnx, hen, bv1, fun W2 h12 => ?_⟩
    obtain ⟨cap, W3, hcv, b3, hB3⟩ := run_byt (W := W2) hx.isB
    have b13 := h12.trans (b3.mono h12.size)
    have h3 := h1.below b13
    have i3 := i1.below b13
    refine ⟨_, W3, hcv, b3, Lib.hid ?_⟩
    refine (h3.findH hx _ cap hB3).mono ?_
    rintro e w4 ⟨rfl, b4⟩
    have h4 := h3.below b4
    have i4 := i3.below b4
    have bw4 : Below w.heap.size w w4 := ((hV.trans (bv1.mono hV.size)).trans (b13.mono (Nat.le_trans hV.size bv1.size))).trans (b4.mono (Nat.le_trans (Nat.le_trans hV.size bv1.size) b13.size))
    refine ⟨rfl, b4, h4.nxt2 i4 hb, by rw [h4.cell 12]; simp [SC.cells, hgi], fun k => by rw [(h4.below (bd (Below.refl _ _) k)).cell 1]; rfl, Lib.hid ?_⟩
    rintro W5 ⟨k, rfl⟩
    have h5 := h4.below (bd (Below.refl w4.heap.size w4) k)
    refine (cost_walk h5 hx hb hco1).mono ?_
    rintro e w6 ⟨rfl, b6⟩
    have h6 := h5.below b6
    refine ⟨rfl, b6, fun k => by rw [(h6.below (bd (Below.refl _ _) k)).cell 1]; rfl, Lib.hid ?_⟩
    rintro W7 ⟨k', rfl⟩
    have bk7 := bd (Below.refl w6.heap.size w6) k'
    have h7 := h6.below bk7
    have bw7 : Below w.heap.size w (w6.drewN k') := (bd bw4 k).trans ((b6.trans (bk7.mono b6.size)).mono (bd bw4 k).size)
    refine (settle_walk h7 hb hx ho hco1 hg hch).mono ?_
    rintro e w8 ⟨rfl, own', G', hs', bs', T', c', h8, b8, k8, g1, g2, e1, e2, hr⟩
    have hzV := hV.size
    have hz7 : V.heap.size ≤ (w6.drewN k').heap.size := Nat.le_trans (Nat.le_trans bv1.size b13.size) (Nat.le_trans b4.size b6.size)
    refine ⟨rfl, fun b hb1 hb2 => k8.bl b (Nat.lt_of_lt_of_le hb2 hz7) (h.ht.ho.top b hb1) (by omega) (by omega), own', G', hs', bs', T', c', h8, (h.bel bw7).trans b8, (Kp.below own s mb bw7).trans k8, g1, g2, e1, e2, hr, fun b hb1 hb2 => ?_⟩
    by_cases hbb : b < (w6.drewN k').heap.size
    · exact (k8.ow b hbb).trans (h.ht.ho.top b hb1)
    · exact absurd (show b < (w6.drewN k').heap.size from by
        omega) hbb
  · rintro e w' ⟨rfl, w8, ⟨own', G', hs', bs', T', c', h8, b8, k8, g1, g2, e1, e2, hr, ho'⟩, hf⟩
    have h9 := h8.fr hf (fun b hb => ho' b hb.1 hb.2) (by omega) (by omega) (by omega) (by omega)
    refine ⟨rfl, own', G', hs', bs', T', c', h9, b8.trans ⟨hf.os, hf.tape, hf.output, hf.size, fun k hk => hf.block k (Nat.lt_of_lt_of_le hk h8.n0le) (fun q => by have := h.n0le; omega)⟩, ⟨Nat.le_trans k8.sz hf.size, k8.ow, fun b hb h0 q1 q2 => (hf.block b (Nat.lt_of_lt_of_le hb k8.sz) (fun q => by omega)).trans (k8.bl b hb h0 q1 q2)⟩, g1, g2, e1, e2, hr⟩
end
end Go.Proofs.YtglglknhifjbaaaGreatDoor.Sp
namespace Go.Proofs.YtglglknhifjbaaaGreatDoor.Sp
open Go.RowKit Go.Proofs.YtglglknhifjbaaaGreatDoorW.PrintWords Go.Proofs.YtglglknhifjbaaaGreatDoorW.PrintLast Go.Proofs.YtglglknhifjbaaaGreatDoorW.PrintMore
open Go.ChangeMaps (setBlock)
set_option linter.unusedVariables false
set_option linter.unusedSimpArgs false
section
variable {n0 k0 : Nat} {w w0 w' : World} {own own0 own' : Own} {hp : Nat} {G : Gr} {hs : List Nat} {bs : List (Option Nat)} {tp hd t : Nat} {T : Tab} {rest : Plan} {s mb ck : Nat} {c : SC} {es : Array MapEntry} {key tx : List Int} {P : Nat → Prop}
theorem Kp.high (k : Kp w0 own0 s mb w own) (hf : Fr P w w') (hP : ∀ b, P b → w0.heap.size ≤ b) : Kp w0 own0 s mb w' own :=
  ⟨Nat.le_trans k.sz hf.size, k.ow, fun b hb h0 h1 h2 => (hf.block b (Nat.lt_of_lt_of_le hb k.sz) (fun q => by have := hP b q; omega)).trans (k.bl b hb h0 h1 h2)⟩
theorem SpS.high (h : SpS n0 w own hp G hs bs tp hd t T rest s mb c es ck) (hf : Fr P w w') (hP : ∀ b, P b → own b = 0 ∧ k0 ≤ b) (h1 : tp < k0) (h2 : s < k0) (h3 : mb < k0) (h4 : 2 < k0) (h5 : n0 ≤ k0) : SpS n0 w' own hp G hs bs tp hd t T rest s mb c es ck ∧ Below n0 w w' :=
  ⟨h.fr hf (fun b hb => (hP b hb).1) (fun q => by have := (hP _ q).2; omega) (fun q => by have := (hP _ q).2; omega) (fun q => by have := (hP _ q).2; omega) (fun q => by have := (hP _ q).2; omega),
    ⟨hf.os, hf.tape, hf.output, hf.size, fun k hk => hf.block k (Nat.lt_of_lt_of_le hk h.n0le) (fun q => by have := (hP _ q).2; omega)⟩⟩
def RunPost (n0 : Nat) (w : World) (own : Own) (hp tp hd t : Nat) (T : Tab) (s mb : Nat) (key : List Int) (G : Gr) (w' : World) : Prop :=
  ∃ (own' : Own) (G' : Gr) (hs' : List Nat) (bs' : List (Option Nat)) (T' : Tab) (rest' : Plan) (c' : SC) (ck' : Nat) (x : Ent), SpS n0 w' own' hp G' hs' bs' tp hd t T' rest' s mb c' #[] ck' ∧ Below n0 w w' ∧ Kp w own s mb w' own' ∧ G'.hands = G.hands ∧ T'.oid = 0 ∧ x.key = key ∧ T'.ents.Perm (x :: T.ents)
theorem run_walk {sb ib i : Nat} (h : SpS n0 w own hp G hs bs tp hd t T rest s mb c #[] ck) (hr : c.run = false) (hclk : c.clk = 0) (hso : c.soon = 0) (htot : c.tot = 0) (hq : 64 ≤ c.q) (hq2 : c.q ≤ 16384) (hi : i < 256) (hsb : w.cell? ⟨sb, 0, none⟩ = some (.pointer (some ⟨s, 0, none⟩))) (hib : w.cell? ⟨ib, 0, none⟩ = some (.int .i64 (i : Int)))
    (osb : own sb = 0) (oib : own ib = 0) (nsb : sb ≠ s ∧ sb ≠ mb) (nib : ib ≠ s ∧ ib ≠ mb) (hok : ∀ a ∈ T.ents, a.a < 9223372036854775808) (ho : T.oid = 0) (hlen : T.ents.length < 2 ^ T.nk) (hf : T.find [(i : Int)] = none) (hsh : Plan.Shut (T.plan t ++ rest) G.hands) (hroom : 2 * (Plan.wt (T.plan t ++ rest) + 3000) ≤ G.limit) (hen : T.ents.length ≤ 50000) :
    Calls Tryz.prog 43 #[.pointer (some ⟨s, 0, none⟩), .int .u64 0, .func (.func 44) #[] #[.pointer (some ⟨sb, 0, none⟩), .pointer (some ⟨ib, 0, none⟩)]] w fun e w' => e = .returned (.tuple #[rep0, .int .i64 0]) ∧ RunPost n0 w own hp tp hd t T s mb [(i : Int)] G w' := by
  have hls := blk_lt h.hs_
  have hlm := blk_lt h.hm
  have hlt := blk_lt h.ht.ta.cell
  have hlg := h.ht.gl.lt
  have hn0 := h.n0le
  have hlsb : sb < w.heap.size := by
    unfold World.cell? at hsb
    cases hq : w.heap[sb]? with
    | none => rw [hq] at hsb; simp at hsb
    | some o => exact blk_lt hq
  have hlib : ib < w.heap.size := by
    unfold World.cell? at hib
    cases hq : w.heap[ib]? with
    | none => rw [hq] at hib; simp at hib
    | some o => exact blk_lt hq
  have htop := h.ht.ho.top
  have hq' : 0 + costT 1 1 ≤ c.q := Nat.le_trans (by decide) hq
  have isK : IsB [(i : Int)] := ⟨fun x hx => by simp at hx; omega⟩
  have isT : IsB [(120 : Int)] := ⟨fun x hx => by simp at hx; omega⟩
  refine (run_raw (fun w' => RunPost n0 w own hp tp hd t T s mb [(i : Int)] G w' ∧ True ∧ ∃ (own' : Own) (G' : Gr) (hs' : List Nat) (bs' : List (Option Nat)) (T' : Tab) (rest' : Plan) (c' : SC) (ck' : Nat) (x : Ent), SpS n0 w' own' hp G' hs' bs' tp hd t T' rest' s mb c' #[] ck' ∧ Below n0 w w' ∧ Kp w own s mb w' own' ∧ G'.hands = G.hands ∧ T'.oid = 0 ∧ x.key = [(i : Int)] ∧ T'.ents.Perm (x :: T.ents) ∧ own' (w.heap.size + 1) = 0 ∧ own' (w.heap.size + 1 + 1) = 0) (by rw [h.cell 11, ← hr]; rfl) (fun W hW hz => ?_)).mono ?_
  · have h3 := h.below hW
    refine (spBegin_walk h3 hclk hso).mono ?_
    rintro e w4 ⟨rfl, h4, b4, k4⟩
    have k04 := (Kp.below own s mb hW).trans k4
    refine ⟨rfl, fun b hb1 hb2 => k4.bl b (by omega) (htop b hb1) (by omega) (by omega), Lib.hid ?_⟩
    have z4 : w.heap.size + 3 ≤ w4.heap.size := by have := k4.sz; omega
    have s4 : w4.cell? ⟨sb, 0, none⟩ = some (.pointer (some ⟨s, 0, none⟩)) := (World.cell?_of_block (w := w) (k04.bl sb hlsb osb nsb.1 nsb.2)).trans hsb
    have i4 : w4.cell? ⟨ib, 0, none⟩ = some (.int .i64 (i : Int)) := (World.cell?_of_block (w := w) (k04.bl ib hlib oib nib.1 nib.2)).trans hib
    refine (many1_raw (fun w5 => ∃ (own' : Own) (G' : Gr) (hs' : List Nat) (bs' : List (Option Nat)) (T' : Tab) (x : Ent), SpS n0 w5 own' hp G' hs' bs' tp hd t T' ((x.ref, .blob [(120 : Int)]) :: rest) s mb c.begun #[⟨plK 0 (bArr [(i : Int)]), st0, ck⟩] (ck + 1) ∧ Below n0 w w5 ∧ Kp w4 own s mb w5 own' ∧ own' w4.heap.size = 0 ∧ G'.hands = G.hands ∧ G'.limit = G.limit ∧ T'.oid = 0 ∧ T'.ents.Perm (x :: T.ents) ∧ x.key = [(i : Int)] ∧ x.a = 1 ∧ x.b = 0) hi s4 i4 (fun W hW4 c1 c2 => ?_)).mono ?_
    · have h5 := h4.below hW4
      have ho4 := h4.ht.ho.top
      have l1 : w4.heap.size + 1 < W.heap.size := by
        unfold World.cell? at c1
        cases hq : W.heap[w4.heap.size + 1]? with
        | none => simp only [hq] at c1; cases c1
        | some o => exact blk_lt hq
      have l2 : w4.heap.size + 1 + 1 < W.heap.size := by
        unfold World.cell? at c2
        cases hq : W.heap[w4.heap.size + 1 + 1]? with
        | none => simp only [hq] at c2; cases c2
        | some o => exact blk_lt hq
      have hA : Byt W own (some ⟨w4.heap.size + 1, 0, none⟩) [(i : Int)] := ⟨isK, fun _ => ⟨w4.heap.size + 1, 0, rfl, l1, fun j hj => by
        have : j = 0 := by simpa using hj
        subst this
        exact c1⟩, fun g o e => (show w4.heap.size + 1 = g from congrArg Addr.block (Option.some.inj e)) ▸ ho4 _ (by omega), by simp, by simp⟩
      have hB : Byt W own (some ⟨w4.heap.size + 1 + 1, 0, none⟩) [(120 : Int)] := ⟨isT, fun _ => ⟨w4.heap.size + 1 + 1, 0, rfl, l2, fun j hj => by
        have : j = 0 := by simpa using hj
        subst this
        exact c2⟩, fun g o e => (show w4.heap.size + 1 + 1 = g from congrArg Addr.block (Option.some.inj e)) ▸ ho4 _ (by omega), by simp, by simp⟩
      refine (store_walk h5 rfl hA 1 hB 1 hok ho hlen hf hsh hroom hen).mono ?_
      rintro e w5 ⟨rfl, own', G', hs', bs', T', x, q1, q2, q3, q4, q5, q6, q7, q8, q9, q10⟩
      exact ⟨rfl, q3.bl _ (by omega) (ho4 _ (Nat.le_refl _)) (by omega) (by omega), own', G', hs', bs', T', x, q1, ((h.bel hW).trans b4).trans ((h4.bel hW4).trans q2), (Kp.below own s mb hW4).trans q3, (q3.ow _ (by omega)).trans (ho4 _ (Nat.le_refl _)), q4, q5, q6, q7, q8, q9, q10⟩
    · rintro e w5 ⟨rfl, w8, ⟨own1, G1, hs1, bs1, T1, x, h8, b8, k8, o8, g1, g2, e1, hp1, x1, x2, x3⟩, hfr⟩
      obtain ⟨h5, b5⟩ := h8.high (k0 := w4.heap.size) hfr (fun b hb => by rw [hb]; exact ⟨o8, Nat.le_refl _⟩) (by omega) (by omega) (by omega) (by omega) (by omega)
      have k5 := k8.high hfr (fun b hb => by rw [hb]; exact Nat.le_refl _)
      refine ⟨rfl, fun b hb1 hb2 => k5.bl b (by omega) (htop b hb1) (by omega) (by omega), Lib.hid fun W6 hf6 W7 hW7 => ?_⟩
      have o1 : ∀ b, w.heap.size ≤ b → b < w4.heap.size → own1 b = 0 := fun b hb1 hb2 => (k5.ow b hb2).trans (htop b hb1)
      obtain ⟨h6, b6⟩ := h5.high (k0 := w.heap.size) hf6 (fun b hb => by rcases hb with hb | hb <;> rw [hb] <;> exact ⟨o1 _ (by omega) (by omega), by omega⟩) (by omega) (by omega) (by omega) (by omega) (by omega)
      have h7 := h6.below hW7
      have k7 := (((Kp.below own s mb hW).trans k4).trans k5).high hf6 (fun b hb => by rcases hb with hb | hb <;> rw [hb] <;> omega)
      have k7' := k7.trans (Kp.below own1 s mb hW7)
      have hmem : x ∈ T1.ents := hp1.mem_iff.2 List.mem_cons_self
      have hx : Has T1 ((x.ref, .blob [(120 : Int)]) :: rest) x [(i : Int)] [(120 : Int)] := ⟨(h7.ht.ok.find_some _ x).2 ⟨hmem, x1⟩, hmem, by rw [x2], x3, List.mem_cons_self, isK, by simp, by simp, by simp, fun a ha => by
        rcases List.mem_cons.1 (hp1.mem_iff.1 ha) with rfl | ha
        · rw [x2]; decide
        · exact hok a ha⟩
      refine (end_walk h7 (Nat.lt_succ_self ck) hx e1 (by show c.tot + costT 1 1 ≤ c.q; rw [htot]; exact hq') hq2 rfl rfl rfl).mono ?_
      rintro e w9 ⟨rfl, own2, G2, hs2, bs2, T2, c2, h9, b9, k9, r1, r2, r3, r4, r, rp1, rp2⟩
      have z7 : w4.heap.size ≤ W7.heap.size := Nat.le_trans k5.sz (Nat.le_trans hf6.size hW7.size)
      have hpr : r.Perm T.ents := (rp1.symm.trans hp1).cons_inv
      refine ⟨rfl, k9.bl _ (by omega) (o1 _ (by omega) (by omega)) (by omega) (by omega), k9.bl _ (by omega) (o1 _ (by omega) (by omega)) (by omega) (by omega), ?_⟩
      have hbb : Below n0 w w9 := ((b8.trans b5).trans b6).trans ((h6.bel hW7).trans b9)
      have hres : SpS n0 w9 own2 hp G2 hs2 bs2 tp hd t T2 ((x.ref, .blob [(120 : Int)]) :: rest) s mb c2 #[] (ck + 1) := h9
      have hgg : G2.hands = G.hands := r1.trans g1
      have hpp : T2.ents.Perm ({ x with ref := x.ref, a := 1 + 256 * costT ([(i : Int)]).length ([(120 : Int)]).length, b := 0 } :: T.ents) := rp2.trans (hpr.cons _)
      exact ⟨⟨own2, G2, hs2, bs2, T2, _, c2, _, { x with ref := x.ref, a := 1 + 256 * costT ([(i : Int)]).length ([(120 : Int)]).length, b := 0 }, hres, hbb, k7'.trans k9, hgg, r4, x1, hpp⟩, trivial, own2, G2, hs2, bs2, T2, _, c2, _, { x with ref := x.ref, a := 1 + 256 * costT ([(i : Int)]).length ([(120 : Int)]).length, b := 0 }, hres, hbb, k7'.trans k9, hgg, r4, x1, hpp, (k9.ow _ (by omega)).trans (o1 _ (by omega) (by omega)), (k9.ow _ (by omega)).trans (o1 _ (by omega) (by omega))⟩
  · rintro e w9 ⟨rfl, w8, ⟨-, -, own', G', hs', bs', T', rest', c', ck', x, h8, b8, k8, g1, e1, x1, hp1, o1, o2⟩, hf9⟩
    obtain ⟨h9, b9⟩ := h8.high (k0 := w.heap.size) hf9 (fun b hb => by rcases hb with hb | hb <;> rw [hb]; exact ⟨o1, by omega⟩; exact ⟨o2, by omega⟩) hlt hls hlm hlg hn0
    exact ⟨rfl, own', G', hs', bs', T', rest', c', ck', x, h9, b8.trans b9, k8.high hf9 (fun b hb => by rcases hb with hb | hb <;> rw [hb] <;> omega), g1, e1, x1, hp1⟩
end
end Go.Proofs.YtglglknhifjbaaaGreatDoor.Sp
namespace Go.Proofs.YtglglknhifjbaaaGreatDoor.Sp
open Go.RowKit Go.Proofs.YtglglknhifjbaaaGreatDoorW.PrintWords Go.Proofs.YtglglknhifjbaaaGreatDoorW.PrintLast Go.Proofs.YtglglknhifjbaaaGreatDoorW.PrintMore
open Go.ChangeMaps (setBlock)
set_option linter.unusedVariables false
set_option linter.unusedSimpArgs false
set_option maxHeartbeats 1000000 in
theorem cmp_one (w : World) (g g2 : Nat) (c c2 : Nat) (i : Int) (h1 : w.cell? ⟨g, 0, none⟩ = some (.int .u8 i)) (h2 : w.cell? ⟨g2, 0, none⟩ = some (.int .u8 i)) :
    Calls Tryz.prog 65 #[.slice (some ⟨g, 0, none⟩) 1 c, .slice (some ⟨g2, 0, none⟩) 1 c2] w fun e w' => e = .returned (.int .i64 0) ∧ ∃ k, w' = w.drewN k := by
  have d1 : ∀ k, (w.drewN k).cell? ⟨g, 0, none⟩ = some (.int .u8 i) := fun k => h1
  have d2 : ∀ k, (w.drewN k).cell? ⟨g2, 0, none⟩ = some (.int .u8 i) := fun k => h2
  go_enter Tryz.func65, Tryz.ntmps65
  go_wp2_with fail
  refine wp_loop_rounds 2 ?_
  rw [rounds_succ]
  go_upto_region 4 with fail
  go_quiet (fail)
  obtain ⟨W1, hW1⟩ : ∃ W1, w.drewN nq = W1 := ⟨_, rfl⟩
  rw [hW1]
  have e1 : W1.cell? ⟨g, 0, none⟩ = some (.int .u8 i) := by rw [← hW1]; exact h1
  have e2 : W1.cell? ⟨g2, 0, none⟩ = some (.int .u8 i) := by rw [← hW1]; exact h2
  have HW1 := Lib.hid hW1
  clear hW1 h1 h2 d1 d2
  go_upto_region 6 with fail
  go_quiet (fail)
  go_wp2_with fail
  rw [rounds_succ]
  go_wp2_with fail
  refine bodyPost_ret (results_tmp rfl _ _ _) rfl ?_
  exact ⟨rfl, _, by rw [← HW1.out]; exact World.drewN_drewN _ _ _⟩
theorem eq_one (w : World) (g g2 : Nat) (c c2 : Nat) (i : Int) (h1 : w.cell? ⟨g, 0, none⟩ = some (.int .u8 i)) (h2 : w.cell? ⟨g2, 0, none⟩ = some (.int .u8 i)) :
    Calls Tryz.prog 92 #[.slice (some ⟨g, 0, none⟩) 1 c, .slice (some ⟨g2, 0, none⟩) 1 c2] w fun e w' => e = .returned (.bool true) ∧ ∃ k, w' = w.drewN k := by
  have HC := Lib.hid (cmp_one w g g2 c c2 i h1 h2)
  go_enter Tryz.func92, Tryz.ntmps92
  go_wp2_with fail
  refine HC.out.mono ?_
  rintro e w' ⟨rfl, k, rfl⟩
  go_wp2_with fail
  refine bodyPost_ret (results_tmp rfl _ _ _) rfl ?_
  exact ⟨rfl, k, rfl⟩
section
variable {w : World} {s tp db : Nat}
theorem spKeys_walk (R : Value → World → Prop) (hdb : db < 4) (hc : w.cell? ⟨s, 4 + db, none⟩ = some (.pointer (some ⟨tp, 0, none⟩)))
    (HK : Calls Tryz.prog 94 #[.pointer (some ⟨tp, 0, none⟩)] w fun e w' => ∃ v, e = .returned v ∧ R v w') :
    Calls Tryz.prog 48 #[.pointer (some ⟨s, 0, none⟩), .int .i64 (db : Int)] w fun e w' => ∃ v, e = .returned v ∧ R v w' := by
  have HI := Lib.hid (isPlace_walk w db hdb none 0 0 (by decide))
  have HK2 := Lib.hid HK
  clear HK
  go_enter Tryz.func48, Tryz.ntmps48
  go_wp2_with fail
  refine HI.out.mono ?_
  rintro e w' ⟨rfl, rfl⟩
  go_wp2_with fail
  refine HK2.out.mono ?_
  rintro e w' ⟨v, rfl, hR⟩
  have HR := Lib.hid hR
  clear hR
  go_wp2_with fail
  refine bodyPost_ret (results_tmp rfl _ _ _) rfl ?_
  exact ⟨_, rfl, HR.out⟩
theorem spSize_walk {n : Nat} (hdb : db < 4) (hc : w.cell? ⟨s, 4 + db, none⟩ = some (.pointer (some ⟨tp, 0, none⟩)))
    (HL : Calls Tryz.prog 95 #[.pointer (some ⟨tp, 0, none⟩)] w fun e w' => e = .returned (.int .i64 (n : Int)) ∧ ∃ k, w' = w.drewN k) :
    Calls Tryz.prog 51 #[.pointer (some ⟨s, 0, none⟩), .int .i64 (db : Int)] w fun e w' => e = .returned (.int .i64 (n : Int)) ∧ ∃ k, w' = w.drewN k := by
  have HI := Lib.hid (isPlace_walk w db hdb none 0 0 (by decide))
  have HL2 := Lib.hid HL
  clear HL
  go_enter Tryz.func51, Tryz.ntmps51
  go_wp2_with fail
  refine HI.out.mono ?_
  rintro e w' ⟨rfl, rfl⟩
  go_wp2_with fail
  refine HL2.out.mono ?_
  rintro e w' ⟨rfl, k, rfl⟩
  go_wp2_with fail
  refine bodyPost_ret (results_tmp rfl _ _ _) rfl ?_
  exact ⟨rfl, k, rfl⟩
end
end Go.Proofs.YtglglknhifjbaaaGreatDoor.Sp
namespace Go.Proofs.YtglglknhifjbaaaGreatDoor.Sp
open Go.RowKit Go.Proofs.YtglglknhifjbaaaGreatDoorW.PrintWords Go.Proofs.YtglglknhifjbaaaGreatDoorW.PrintLast Go.Proofs.YtglglknhifjbaaaGreatDoorW.PrintMore
open Go.ChangeMaps (setBlock)
set_option linter.unusedVariables false
set_option linter.unusedSimpArgs false
set_option maxHeartbeats 1000000 in
set_option maxRecDepth 100000 in
theorem mine_raw {w : World} {s i : Nat} (hi : i < 256)
    (HK : Calls Tryz.prog 48 #[.pointer (some ⟨s, 0, none⟩), .int .i64 0] w fun e w1 => ∃ gk ck gg, e = .returned (.slice (some ⟨gk, 0, none⟩) 1 ck) ∧ Below w.heap.size w w1 ∧ w1.cell? ⟨gk, 0, none⟩ = some (.slice (some ⟨gg, 0, none⟩) 1 1) ∧ w1.cell? ⟨gg, 0, none⟩ = some (.int .u8 (i : Int)) ∧
      Hid (Calls Tryz.prog 51 #[.pointer (some ⟨s, 0, none⟩), .int .i64 0] w1 fun e w' => e = .returned (.int .i64 1) ∧ ∃ k, w' = w1.drewN k)) :
    Calls Tryz.prog 46 #[.pointer (some ⟨s, 0, none⟩), .int .i64 (i : Int)] w fun e w' => e = .returned (.bool true) ∧ Below w.heap.size w w' := by
  have hw8 : IntKind.u8.wrap (i : Int) = (i : Int) := by rw [IntKind.wrap_u8]; omega
  have HK0 := Lib.hid HK
  clear HK
  go_enter Tryz.func46, Tryz.ntmps46
  go_wp2_with fail
  refine HK0.out.mono ?_
  rintro e w1 ⟨gk, ck, gg, rfl, b1, c1, c2, HSz⟩
  have HB1 := Lib.hid b1
  have HC2 := Lib.hid c2
  have HC1 := Lib.hid c1
  clear b1 c2 c1 HK0
  go_wp2_with fail
  refine HSz.out.mono ?_
  rintro e w2 ⟨rfl, k, rfl⟩
  obtain ⟨W2, hW2⟩ : ∃ W2, w1.drewN k = W2 := ⟨_, rfl⟩
  rw [hW2]
  have c1 : W2.cell? ⟨gk, 0, none⟩ = some (.slice (some ⟨gg, 0, none⟩) 1 1) := by rw [← hW2]; exact HC1.out
  have c2 : W2.cell? ⟨gg, 0, none⟩ = some (.int .u8 (i : Int)) := by rw [← hW2]; exact HC2.out
  have b2 : Below w.heap.size w W2 := by rw [← hW2]; exact bd HB1.out k
  have HB2 := Lib.hid b2
  have hlg : gg < W2.heap.size := by
    unfold World.cell? at c2
    cases hq : W2.heap[gg]? with
    | none => rw [hq] at c2; simp at c2
    | some o => exact blk_lt hq
  have HE := Lib.hid (eq_one (W2.alloc (.cells #[.int .u8 (i : Int)] 5)) gg W2.heap.size 1 1 (i : Int) ((World.cell?_of_block (w := W2) (heap_alloc_old W2 _ hlg)).trans c2) (by simp only [World.cell?, heap_alloc_new]; rfl))
  clear hW2 HSz HB1 HC1 HC2 b2 c2 hlg
  go_wp2_with fail
  refine HE.out.mono ?_
  rintro e w3 ⟨rfl, k3, rfl⟩
  clear HE c1
  go_wp2_with fail
  refine bodyPost_ret (results_tmp rfl _ _ _) rfl ?_
  exact ⟨rfl, bd (HB2.out.alloc HB2.out.size _) _⟩
theorem own_row1 {w : World} {e : TypeId} {v u : Value} (h : w.ownsRow 0 e 1 v 1 [u]) : ∃ g cap, v = .slice (some ⟨g, 0, none⟩) 1 cap ∧ w.cell? ⟨g, 0, none⟩ = some u := by
  obtain ⟨g, cap, hv, -, -, hc, -⟩ := own_cells h (by decide)
  exact ⟨g, cap, hv, hc 0 (by simp)⟩
structure OneK (lo hi : Nat) (w : World) (s : Nat) (key : List Int) : Prop where
  ex : ∃ (own : Own) (hp : Nat) (G : Gr) (hs : List Nat) (bs : List (Option Nat)) (tp hd t : Nat) (T : Tab) (rest : Plan) (e : Ent), HT w own hp G hs bs tp hd t T rest ∧ w.cell? ⟨s, 4, none⟩ = some (.pointer (some ⟨tp, 0, none⟩)) ∧ T.oid = 0 ∧ T.ents = [e] ∧ e.key = key ∧
    (∀ b, own b ≠ 0 → lo ≤ b ∧ b < hi) ∧ lo ≤ tp ∧ tp < hi ∧ lo ≤ s ∧ s < hi ∧ s < w.heap.size
theorem OneK.fr {lo hi : Nat} {w w' : World} {s : Nat} {key : List Int} {P : Nat → Prop} (h : OneK lo hi w s key) (hf : Fr P w w') (hP : ∀ b, P b → b < lo ∨ hi ≤ b) (hg : ¬ P 2) : OneK lo hi w' s key := by
  obtain ⟨own, hp, G, hs, bs, tp, hd, t, T, rest, e, ht, c4, ho, he, hk, hown, h1, h2, h3, h4, h5⟩ := h.ex
  exact ⟨own, hp, G, hs, bs, tp, hd, t, T, rest, e, ht.fr hf (fun b hb => by
    by_cases h0 : own b = 0
    · exact h0
    · have := hown b h0; have := hP b hb; omega) (fun q => by have := hP _ q; omega) hg, by rw [hf.cell (p := ⟨s, 4, none⟩) h5 (fun q => by have := hP _ q; simp at this; omega)]; exact c4, ho, he, hk, hown, h1, h2, h3, h4, Nat.lt_of_lt_of_le h5 hf.size⟩
theorem mine_walk {lo hi : Nat} {w : World} {s i : Nat} (h : OneK lo hi w s [(i : Int)]) (hi8 : i < 256) :
    Calls Tryz.prog 46 #[.pointer (some ⟨s, 0, none⟩), .int .i64 (i : Int)] w fun e w' => e = .returned (.bool true) ∧ Below w.heap.size w w' := by
  obtain ⟨own, hp, G, hs, bs, tp, hd, t, T, rest, e, ht, c4, ho, he, hk, hown, h1, h2, h3, h4, h5⟩ := h.ex
  refine mine_raw hi8 ?_
  have hks := keys_walk (enC ht.ho ht.gl ht.ta ht.hh ht.tst ht.sat (Nat.le_refl _) ht.ho.top (blk_lt ht.ta.cell) ht.gl.lt (by have := ht.en; omega)) ht.ok (pl_zero ht.ho.lay) (fun q => absurd ho q) (by have := ht.en; omega)
  refine (spKeys_walk (db := 0) (fun v w1 => ∃ gk ck gg, v = .slice (some ⟨gk, 0, none⟩) 1 ck ∧ Below w.heap.size w w1 ∧ w1.cell? ⟨gk, 0, none⟩ = some (.slice (some ⟨gg, 0, none⟩) 1 1) ∧ w1.cell? ⟨gg, 0, none⟩ = some (.int .u8 (i : Int))) (by decide) c4 (hks.mono ?_)).mono ?_
  · rintro e' w1 ⟨v, ks, rfl, ⟨row, lo', kk⟩, hp', -, hb⟩
    rw [he] at hp'
    have hlen : ks.length = 1 := by have := hp'.length_eq; simpa using this
    obtain ⟨x, rfl⟩ : ∃ x, ks = [x] := List.length_eq_one_iff.1 hlen
    have hxk : x.k = [(i : Int)] := by
      have := hp'.mem_iff (a := x.k)
      simp at this
      rw [this, hk]
    obtain ⟨gk, ck, rfl, hc⟩ := own_row1 row
    have hk1 := (kk x List.mem_cons_self).1
    refine ⟨_, rfl, gk, ck, x.g, rfl, hb, ?_, ?_⟩
    · rw [hc]; simp [keyV, hxk]
    · have hk2 : w1.heap[x.g]? = some (.cells (u8s x.k).toArray 5 (0, 0)) := hk1
      simp [World.cell?, hk2, hxk, u8s]
  · rintro e' w1 ⟨v, rfl, gk, ck, gg, rfl, hb, q1, q2⟩
    refine ⟨gk, ck, gg, rfl, hb, q1, q2, Lib.hid ?_⟩
    have ht1 := ht.below hb
    have c41 : w1.cell? ⟨s, 4 + 0, none⟩ = some (.pointer (some ⟨tp, 0, none⟩)) := (hb.cell (p := ⟨s, 4, none⟩) h5).trans c4
    have hl := len_walk ht1.ho ht1.ta ht1.hh (ht1.tst.raw ht1.sat) (by have := ht.en; omega)
    rw [he] at hl
    exact spSize_walk (db := 0) (n := 1) (by decide) c41 hl
end Go.Proofs.YtglglknhifjbaaaGreatDoor.Sp
