import Derived.Test.YtglglknhifjbaaaGreatDoorEty
import Derived.Test.YtglglknhifjbaaaGreatDoorMap
import Derived.Test.YtglglknhifjbaaaGreatDoorPut
import Derived.Test.YtglglknhifjbaaaGreatDoorDrd
import Derived.Test.YtglglknhifjbaaaGreatDoorRn1
namespace Go.Proofs.YtglglknhifjbaaaGreatDoor.Sp
open Go.RowKit Go.Proofs.YtglglknhifjbaaaGreatDoorW.PrintWords Go.Proofs.YtglglknhifjbaaaGreatDoorW.PrintLast Go.Proofs.YtglglknhifjbaaaGreatDoorW.PrintMore
set_option linter.unusedVariables false
set_option linter.unusedSimpArgs false
def ReadTPost (w : World) (tx : List Int) (e : Ending) (w' : World) : Prop :=
  ∃ g, e = .returned (textV (some ⟨g, 0, none⟩) tx.length tx.length) ∧ w.heap.size ≤ g ∧ w'.heap[g]? = some (.cells (u8s tx).toArray 5 (0, 0)) ∧ Below w.heap.size w w'
set_option maxHeartbeats 2000000 in
set_option maxRecDepth 100000 in
theorem readT_walk {w : World} {s hp pl : Nat} {tx : List Int} (hc : w.cell? ⟨s, 0, none⟩ = some (.pointer (some ⟨hp, 0, none⟩))) (HB : ∀ W, Below w.heap.size w W → Calls Tryz.prog 104 #[.pointer (some ⟨hp, 0, none⟩), .int .u64 (pl : Int)] W (BReadPost W tx)) :
    Calls Tryz.prog 64 #[.pointer (some ⟨s, 0, none⟩), .int .i64 1, .int .u64 (pl : Int)] w (ReadTPost w tx) := by
  obtain ⟨n, hn⟩ : ∃ n, tx.length = n := ⟨_, rfl⟩
  have HB2 : Hid (∀ W, Below w.heap.size w W → Calls Tryz.prog 104 #[.pointer (some ⟨hp, 0, none⟩), .int .u64 (pl : Int)] W fun e w' => ∃ g, e = .returned (.tuple #[.slice (some ⟨g, 0, none⟩) n n, .int .i64 0]) ∧ Hid (W.heap.size ≤ g ∧ w'.heap[g]? = some (.cells (u8s tx).toArray 5 (0, 0)) ∧ Below W.heap.size W w')) := Lib.hid fun W hb => (HB W hb).mono fun e w' ⟨g, h1, h2, h3, h4⟩ => ⟨g, by rw [← hn]; exact h1, Lib.hid ⟨h2, h3, h4⟩⟩
  have HN := Lib.hid hn
  unfold ReadTPost
  rw [hn]
  have hlt : s < w.heap.size := by
    unfold World.cell? at hc
    cases hq : w.heap[s]? with
    | none => rw [hq] at hc; simp at hc
    | some o => exact blk_lt hq
  clear HB hn
  go_enter Tryz.func64, Tryz.ntmps64
  go_wp2_with fail
  obtain ⟨W1, hW1⟩ : ∃ W1, (w.alloc (.cells #[.int .i64 0, .slice none 0 0, .slice none 0 0, .slice none 0 0, .slice none 0 0] 58)).alloc (.cells #[.int .i64 1, .slice none 0 0, .slice none 0 0, .slice none 0 0, .slice none 0 0] 58) = W1 := ⟨_, rfl⟩
  have hb1 : Below w.heap.size w W1 := by rw [← hW1]; exact ((Below.refl _ _).alloc (Nat.le_refl _) _).alloc (by simp) _
  have hs1 : W1.heap.size = w.heap.size + 2 := by rw [← hW1]; simp
  have h6 : W1.heap[w.heap.size]? = some (.cells #[.int .i64 0, .slice none 0 0, .slice none 0 0, .slice none 0 0, .slice none 0 0] 58 (0, 0)) := by rw [← hW1, alloc_at, if_neg (by simp), alloc_at, if_pos rfl]
  have h7 : W1.heap[w.heap.size + 1]? = some (.cells #[.int .i64 1, .slice none 0 0, .slice none 0 0, .slice none 0 0, .slice none 0 0] 58 (0, 0)) := by rw [← hW1, alloc_at, if_pos (by simp)]
  rw [hW1]
  refine (HB2.out W1 hb1).mono ?_
  rintro e w1 ⟨g, rfl, hq⟩
  have h6' := (hq.out.2.2.block _ (blk_lt h6)).trans h6
  have h7' := (hq.out.2.2.block _ (blk_lt h7)).trans h7
  have HR := Lib.hid (And.intro hb1 (And.intro hs1 (And.intro h6' h7')))
  obtain ⟨N, hN⟩ : ∃ N, w.heap.size = N := ⟨_, rfl⟩
  rw [hN] at h6' h7' ⊢
  have a0 : w1.cell? ⟨N, 0, none⟩ = some (.int .i64 0) := by simp [World.cell?, h6']
  have a1 : w1.cell? ⟨N, 1, none⟩ = some (.slice none 0 0) := by simp [World.cell?, h6']
  have a2 : w1.cell? ⟨N, 2, none⟩ = some (.slice none 0 0) := by simp [World.cell?, h6']
  have a3 : w1.cell? ⟨N, 3, none⟩ = some (.slice none 0 0) := by simp [World.cell?, h6']
  have a4 : w1.cell? ⟨N, 4, none⟩ = some (.slice none 0 0) := by simp [World.cell?, h6']
  have b0 : w1.cell? ⟨N + 1, 0, none⟩ = some (.int .i64 1) := by simp [World.cell?, h7']
  have b1 : w1.cell? ⟨N + 1, 1, none⟩ = some (.slice none 0 0) := by simp [World.cell?, h7']
  have b2 : w1.cell? ⟨N + 1, 2, none⟩ = some (.slice none 0 0) := by simp [World.cell?, h7']
  have b3 : w1.cell? ⟨N + 1, 3, none⟩ = some (.slice none 0 0) := by simp [World.cell?, h7']
  have b4 : w1.cell? ⟨N + 1, 4, none⟩ = some (.slice none 0 0) := by simp [World.cell?, h7']
  have fa : ∀ i, w1.frozen? ⟨N, i, none⟩ = false := fun i => by simp [World.frozen?, h6']
  have fb : ∀ i, w1.frozen? ⟨N + 1, i, none⟩ = false := fun i => by simp [World.frozen?, h7']
  have HNn := Lib.hid hN
  clear hb1 hs1 h6 h7 h6' h7' hW1 hc hlt hN
  go_wp2_with fail
  obtain ⟨q1, q2, q3⟩ := hq.out
  obtain ⟨r1, r2, r3, r4⟩ := HR.out
  have hNw := HNn.out
  rw [hNw] at r3 r4
  have z1 : (w1.setCell ⟨N + 1, 1, none⟩ (.slice (some ⟨g, 0, none⟩) n n)).heap[N]? = some (.cells #[.int .i64 0, .slice none 0 0, .slice none 0 0, .slice none 0 0, .slice none 0 0] 58 (0, 0)) := by
    rw [heap_setCell_other _ _ _ _ (by show N ≠ N + 1; omega)]; exact r3
  have z2 := heap_setCell_same _ N 0 _ _ (.int .i64 1) z1
  have z3 := heap_setCell_same _ N 1 _ _ (.slice (some ⟨g, 0, none⟩) n n) z2
  have z4 := heap_setCell_same _ N 2 _ _ (.slice none 0 0) z3
  have z5 := heap_setCell_same _ N 3 _ _ (.slice none 0 0) z4
  have z6 := heap_setCell_same _ N 4 _ _ (.slice none 0 0) z5
  refine bodyPost_ret (results_cell_row rfl _ _ N _ _ _ _ rfl z6 Tryz.underlying58 rfl (by kernel_rfl)) rfl ?_
  have hgN : N + 2 ≤ g := by omega
  have hfr : Fr (fun b => b = N ∨ b = N + 1) w1 ((((((w1.setCell ⟨N + 1, 1, none⟩ (.slice (some ⟨g, 0, none⟩) n n)).setCell ⟨N, 0, none⟩ (.int .i64 1)).setCell ⟨N, 1, none⟩ (.slice (some ⟨g, 0, none⟩) n n)).setCell ⟨N, 2, none⟩ (.slice none 0 0)).setCell ⟨N, 3, none⟩ (.slice none 0 0)).setCell ⟨N, 4, none⟩ (.slice none 0 0)) :=
    ((((((Fr.refl _ w1).setCell (.inl (.inr rfl)) _).setCell (.inl (.inl rfl)) _).setCell (.inl (.inl rfl)) _).setCell (.inl (.inl rfl)) _).setCell (.inl (.inl rfl)) _).setCell (.inl (.inl rfl)) _
  refine ⟨g, rfl, by omega, (hfr.block g (blk_lt q2) (by omega)).trans q2, hfr.os.trans (q3.os.trans r1.os), hfr.tape.trans (q3.tape.trans r1.tape), hfr.output.trans (q3.output.trans r1.output), Nat.le_trans (Nat.le_trans r1.size q3.size) hfr.size, fun k hk => ?_⟩
  have hs := q3.size
  exact (hfr.block k (by omega) (by omega)).trans ((q3.block k (by omega)).trans (r1.block k hk))
end Go.Proofs.YtglglknhifjbaaaGreatDoor.Sp
namespace Go.Proofs.YtglglknhifjbaaaGreatDoor.Sp
open Go.RowKit Go.Proofs.YtglglknhifjbaaaGreatDoorW.PrintWords Go.Proofs.YtglglknhifjbaaaGreatDoorW.PrintLast Go.Proofs.YtglglknhifjbaaaGreatDoorW.PrintMore
set_option linter.unusedVariables false
set_option linter.unusedSimpArgs false
set_option maxHeartbeats 2000000 in
set_option maxRecDepth 100000 in
theorem buildT_walk {w : World} {s hp : Nat} (R : Value → Nat → World → Prop) (lv : Value) (A : Option Addr) (n c : Nat) (hc : w.cell? ⟨s, 0, none⟩ = some (.pointer (some ⟨hp, 0, none⟩)))
    (HB : ∀ W g, Below w.heap.size w W → w.heap.size < W.heap.size → W.cell? ⟨g, 0, none⟩ = some (.slice A n c) → Calls Tryz.prog 133 #[.pointer (some ⟨hp, 0, none⟩), .slice (some ⟨g, 0, none⟩) 1 1] W fun e w' => ∃ v er, e = .returned (.tuple #[v, .int .i64 (er : Nat)]) ∧ R v er w' ∧ ∀ b, b = s ∨ b = w.heap.size → w'.heap[b]? = W.heap[b]?) :
    Calls Tryz.prog 89 #[.pointer (some ⟨s, 0, none⟩), textV A n c, lv] w fun e w' => ∃ v er, e = .returned (.tuple #[v, .int .i64 (er : Nat)]) ∧ R v er w' := by
  have hlt : s < w.heap.size := by
    unfold World.cell? at hc
    cases hq : w.heap[s]? with
    | none => rw [hq] at hc; simp at hc
    | some o => exact blk_lt hq
  unfold textV
  obtain ⟨W1, hW1⟩ : ∃ W1, w.alloc (.cells #[.int .i64 1, .slice A n c, .slice none 0 0, .slice none 0 0, .slice none 0 0] 58) = W1 := ⟨_, rfl⟩
  have hb1 : Below w.heap.size w W1 := by rw [← hW1]; exact (Below.refl _ _).alloc (Nat.le_refl _) _
  have h4 : W1.heap[w.heap.size]? = some (.cells #[.int .i64 1, .slice A n c, .slice none 0 0, .slice none 0 0, .slice none 0 0] 58 (0, 0)) := by rw [← hW1, alloc_at, if_pos rfl]
  have d0 : W1.cell? ⟨w.heap.size, 0, none⟩ = some (.int .i64 1) := by simp [World.cell?, h4]
  have d1 : W1.cell? ⟨w.heap.size, 1, none⟩ = some (.slice A n c) := by simp [World.cell?, h4]
  have c0 : W1.cell? ⟨s, 0, none⟩ = some (.pointer (some ⟨hp, 0, none⟩)) := by rw [hb1.cell (by exact hlt)]; exact hc
  have HB3 : Hid (∀ k, Calls Tryz.prog 133 #[.pointer (some ⟨hp, 0, none⟩), .slice (some ⟨W1.heap.size, 0, none⟩) 1 1] ((W1.drewN k).alloc (.cells #[.slice A n c] 53)) fun e w' => ∃ v er, e = .returned (.tuple #[v, .int .i64 (er : Nat)]) ∧ R v er w' ∧ ∀ b, b = s ∨ b = w.heap.size → w'.heap[b]? = W1.heap[b]?) := Lib.hid fun k => (HB _ _ ((bel_drewN hb1 k).alloc hb1.size _) (by rw [← hW1]; simp; omega) (by
    unfold World.cell?
    have : ((W1.drewN k).alloc (.cells #[.slice A n c] 53)).heap[W1.heap.size]? = some (.cells #[.slice A n c] 53 (0, 0)) := (alloc_at _ _ _).trans (if_pos rfl)
    simp only [this]; rfl)).mono fun e w' ⟨v, er, q1, q2, q3⟩ => ⟨v, er, q1, q2, fun b hb => (q3 b hb).trans (Below.heap_alloc (W1.drewN k) _ b (by rcases hb with hb | hb; subst hb; exact Nat.lt_of_lt_of_le hlt hb1.size; subst hb; exact blk_lt h4))⟩
  have HCell : Hid (∀ W, Dw W1 W → W.cell? ⟨s, 0, none⟩ = some (.pointer (some ⟨hp, 0, none⟩)) ∧ W.cell? ⟨w.heap.size, 1, none⟩ = some (.slice A n c)) := Lib.hid fun W k => by obtain ⟨m, rfl⟩ := k; exact ⟨c0, d1⟩
  have hlt1 : s < W1.heap.size := Nat.lt_of_lt_of_le hlt hb1.size
  have hlt2 := blk_lt h4
  have HCellH : Hid (∀ W : World, (∀ b, b < W1.heap.size → W.heap[b]? = W1.heap[b]?) → W.cell? ⟨s, 0, none⟩ = some (.pointer (some ⟨hp, 0, none⟩)) ∧ W.cell? ⟨w.heap.size, 1, none⟩ = some (.slice A n c)) := Lib.hid fun W k => ⟨(World.cell?_of_block (w := W1) (k s hlt1)).trans c0, (World.cell?_of_block (w := W1) (k _ hlt2)).trans d1⟩
  clear HB hb1 h4 hlt hc hlt1 hlt2
  go_enter Tryz.func89, Tryz.ntmps89
  go_upto_region 3 with fail
  clear hW1
  go_region_held3 (fun W => W.cell? ⟨s, 0, none⟩ = some (.pointer (some ⟨hp, 0, none⟩)) ∧ W.cell? ⟨w.heap.size, 1, none⟩ = some (.slice A n c)) (first | assumption | exact HCell.out _ ⟨_, rfl⟩ | exact ⟨x1, x2⟩ | exact HCellH.out _ (fun b hb => Below.heap_alloc W1 _ b hb)) (first | (go_at_call 133; refine Calls.mono (HB3.out _) ?_; rintro e w2 ⟨v, er, rfl, hR, hK⟩; have x1 : w2.cell? ⟨s, 0, none⟩ = some (.pointer (some ⟨hp, 0, none⟩)) := (World.cell?_of_block (w := W1) (hK s (.inl rfl))).trans c0; have x2 : w2.cell? ⟨w.heap.size, 1, none⟩ = some (.slice A n c) := (World.cell?_of_block (w := W1) (hK _ (.inr rfl))).trans d1; clear hK))
  all_goals (
    go_wp2_with fail
    refine bodyPost_ret (results_tmp2 rfl _ _ _) rfl ?_
    exact ⟨v, er, rfl, hR⟩)
end Go.Proofs.YtglglknhifjbaaaGreatDoor.Sp
namespace Go.Proofs.YtglglknhifjbaaaGreatDoor.Sp
open Go.RowKit Go.Proofs.YtglglknhifjbaaaGreatDoorW.PrintWords Go.Proofs.YtglglknhifjbaaaGreatDoorW.PrintLast Go.Proofs.YtglglknhifjbaaaGreatDoorW.PrintMore
open Go.ChangeMaps (setBlock)
set_option linter.unusedVariables false
set_option linter.unusedSimpArgs false
def bArr (key : List Int) : ByteArray := ⟨(key.map fun x => UInt8.ofNat x.toNat).toArray⟩
theorem bArr_size (key : List Int) : (bArr key).size = key.length := by simp [bArr, ByteArray.size]
theorem byte_back {x : Int} (h : 0 ≤ x ∧ x < 256) : ((UInt8.ofNat x.toNat).toNat : Int) = x := by
  rw [UInt8.toNat_ofNat']
  omega
theorem run_str {W : World} {A : Option Addr} {key : List Int} {n : Nat} (c : Nat) (hk : IsB key) (hn : key.length = n) (h0 : 0 < n) (hA : HasB W A key) : (convert 53 9 (.slice A n c)).run Tryz.prog W = .ok (.string (bArr key)) W := by
  subst hn
  obtain ⟨g, o, rfl, hl, hc⟩ := hA h0
  have := run_convert_bytes_back (P := Tryz.prog) W 53 9 5 ⟨g, o, none⟩ c (key.map fun x => UInt8.ofNat x.toNat) Tryz.underlying53 Tryz.underlying5 Tryz.underlying9 (fun j hj => by
    have hj' : j < key.length := by simpa using hj
    rw [show (⟨g, o, none⟩ : Addr).add j = ⟨g, o + j, none⟩ by simp [Addr.add]]
    rw [hc j hj', List.getElem_map, byte_back (hk.b _ (List.getElem_mem hj'))])
  rw [List.length_map] at this
  exact this
theorem run_byt {W : World} {key : List Int} (hk : IsB key) : ∃ cap W1, (convert 9 53 (.string (bArr key))).run Tryz.prog W = .ok (.slice (some ⟨W.heap.size, 0, none⟩) key.length cap) W1 ∧ Below W.heap.size W W1 ∧ HasB W1 (some ⟨W.heap.size, 0, none⟩) key := by
  have h := run_bytes_of_string (P := Tryz.prog) W 9 53 5 (bArr key) Tryz.underlying9 Tryz.underlying53 Tryz.underlying5
  rw [bArr_size] at h
  refine ⟨_, _, h, (bel_drewN (Below.refl _ _) 1).alloc (Nat.le_refl _) _, fun h0 => ⟨W.heap.size, 0, rfl, by simp, fun j hj => ?_⟩⟩
  rw [Nat.zero_add]
  have hat := World.cell?_alloc_mark W.drew (bytesRow (bArr key) (grownCap W key.length 0 5)) 5 ((bytesRow (bArr key) (grownCap W key.length 0 5)).size, (bytesRow (bArr key) (grownCap W key.length 0 5)).size + 1) j
  refine hat.trans ?_
  unfold bytesRow
  rw [Array.getElem?_append_left (by simp [bArr]; exact hj)]
  simp only [Array.getElem?_map]
  have : (bArr key).data[j]? = some (UInt8.ofNat key[j].toNat) := by simp [bArr, hj]
  rw [this]
  show some (Value.int .u8 _) = _
  rw [byte_back (hk.b _ (List.getElem_mem hj))]
structure HT (W : World) (own : Own) (hp : Nat) (G : Gr) (hs : List Nat) (bs : List (Option Nat)) (tp hd t : Nat) (T : Tab) (rest : Plan) : Prop where
  ho : HO W own hp G hs bs
  gl : Gl W own
  ta : TAt W own hp tp hd
  hh : (hd, t) ∈ G.hands
  ok : T.Ok
  sat : Sat G (T.plan t ++ rest)
  hl : G.hands.length < 900
  en : T.ents.length ≤ 100000
section
variable {W W' : World} {own : Own} {hp : Nat} {G : Gr} {hs : List Nat} {bs : List (Option Nat)} {tp hd t : Nat} {T : Tab} {rest : Plan}
theorem HT.below (h : HT W own hp G hs bs tp hd t T rest) (hb : Below W.heap.size W W') : HT W' own hp G hs bs tp hd t T rest :=
  ⟨h.ho.below hb, h.gl.below hb, h.ta.below hb, h.hh, h.ok, h.sat, h.hl, h.en⟩
theorem HT.fr {P : Nat → Prop} (h : HT W own hp G hs bs tp hd t T rest) (hf : Fr P W W') (hP : ∀ b, P b → own b = 0) (htp : ¬ P tp) (hg : ¬ P 2) : HT W' own hp G hs bs tp hd t T rest :=
  ⟨h.ho.fr hf hP, ⟨fun j hj => by rw [hf.cell (p := ⟨2, j, none⟩) h.gl.lt hg]; exact h.gl.cell j hj, Nat.lt_of_lt_of_le h.gl.lt hf.size, h.gl.own0⟩, ⟨(hf.block _ (blk_lt h.ta.cell) htp).trans h.ta.cell, h.ta.own0, h.ta.hl⟩, h.hh, h.ok, h.sat, h.hl, h.en⟩
theorem HT.tst (h : HT W own hp G hs bs tp hd t T rest) : TSt hs bs t T := TSt.of h.ho h.hh h.ok h.sat
theorem HT.get (h : HT W own hp G hs bs tp hd t T rest) (A : Option Addr) (key : List Int) (c : Nat) (hk : IsB key) (hA : HasB W A key) (hkl : key.length ≤ 4096) :
    Calls Tryz.prog 96 #[.pointer (some ⟨tp, 0, none⟩), .slice A key.length c] W (GetPost W G hs bs T key) :=
  get_walk h.ho h.gl h.ta h.hh h.tst h.sat A key c hk hA hkl
theorem HT.refs (h : HT W own hp G hs bs tp hd t T rest) : ∀ e ∈ T.ents, e.ref = 0 ∨ Live hs bs e.ref := (h.ho.lay.tab h.hh h.ok h.sat).2
theorem HT.sub (h : HT W own hp G hs bs tp hd t T rest) (key : List Int) : ∀ a, T.find key = some a → a ∈ T.ents := fun a ha => ((h.ok.find_some key a).1 ha).1
end
end Go.Proofs.YtglglknhifjbaaaGreatDoor.Sp
namespace Go.Proofs.YtglglknhifjbaaaGreatDoor.Sp
open Go.RowKit Go.Proofs.YtglglknhifjbaaaGreatDoorW.PrintWords Go.Proofs.YtglglknhifjbaaaGreatDoorW.PrintLast Go.Proofs.YtglglknhifjbaaaGreatDoorW.PrintMore
set_option linter.unusedVariables false
set_option linter.unusedSimpArgs false
theorem Tab.step_self {T : Tab} (h : T.oid = 0) : T.step = T := by unfold Tab.step; rw [if_pos h]
theorem Tab.lay_oid (T : Tab) (h : Nat) (c : List Ent) : (T.lay h c).oid = T.oid ∧ (T.lay h c).nk = T.nk := by unfold Tab.lay; split <;> exact ⟨rfl, rfl⟩
theorem shut_blob {P : Plan} {hands : List (Nat × Nat)} (h : Plan.Shut P hands) (id : Nat) (b : List Int) : Plan.Shut ((id, .blob b) :: P) hands :=
  ⟨fun i y hy j hj => by
    rw [ids_cons]
    rcases List.mem_cons.1 hy with e | hy
    · injection e with e1 e2
      subst e2
      have hj : j ∈ ([] : List Nat) := hj
      simp at hj
    · rcases h.refs i y hy j hj with h | h
      · exact .inl h
      · exact .inr (List.mem_cons_of_mem _ h), fun p hp => by
    rw [ids_cons]
    rcases h.hands p hp with h | h
    · exact .inl h
    · exact .inr (List.mem_cons_of_mem _ h)⟩
theorem wt_blob (b : List Int) (h : b.length ≤ 4096) : (Item.blob b).wt ≤ 600 := by
  unfold Item.wt
  have : (Item.blob b).size ≤ 520 := by
    show 2 + wordsN b.length ≤ 520
    unfold wordsN; omega
  split <;> omega
theorem words_le {n : Nat} (h : n ≤ 4096) : wordsN n ≤ 512 := by unfold wordsN; omega
section
variable {w w' : World} {own : Own} {hp : Nat} {G : Gr} {hs : List Nat} {bs : List (Option Nat)} {tp hd t : Nat} {T : Tab} {rest : Plan} {key : List Int} {v a b : Nat} {e : Ending}
theorem put_fresh (hp' : PutPost w own hp G t T rest key v a b e w') (hT : T.Ok) (ho : T.oid = 0) (hlen : T.ents.length < 2 ^ T.nk) (hf : T.find key = none) (hkl : key.length ≤ 4096) (hsh : Plan.Shut (T.plan t ++ rest) G.hands) (hv : v ∈ Plan.ids (T.plan t ++ rest)) (hroom : 2 * (Plan.wt (T.plan t ++ rest) + 2000) ≤ G.limit) :
    ∃ (own' : Own) (G' : Gr) (hs' : List Nat) (bs' : List (Option Nat)) (T' : Tab) (x : Ent), e = .returned (.tuple #[.bool true, .int .i64 0]) ∧ Wr w own hp G w' own' G' hs' bs' ∧ T'.Ok ∧ Sat G' (T'.plan t ++ rest) ∧ T'.oid = 0 ∧ T'.nk = T.nk ∧ T'.seed = T.seed ∧ T'.ents.Perm (x :: T.ents) ∧ x.key = key ∧ x.ref = v ∧ x.a = a ∧ x.b = b := by
  obtain ⟨own', G', hs', bs', T', W, hok, S, hc⟩ := hp'
  rw [Tab.step_self ho] at hc
  have hwd := words_le hkl
  rcases hc with ⟨-, c1, x, c2, h1, h2, -⟩ | ⟨-, -, -, hn⟩ | ⟨he, -, x, h1, h2, h3, h4, hc⟩
  · exact absurd h2 ((T.find_none key).1 hf x (T.cur_sub _ (by rw [h1]; simp)))
  · exfalso
    rcases hn with hn | ⟨id, hn⟩
    · exact hn.not hsh (.inr hv) (by omega)
    · refine hn.not (shut_blob hsh id key) (.inr (by rw [ids_cons]; exact List.mem_cons_of_mem _ hv)) ?_
      rw [wt_cons]
      have := wt_blob key hkl
      show 2 * ((Item.blob key).wt + _ + 7 + 66) ≤ _
      omega
  · have hx : x.hash T.seed < 18446744073709551616 := hashN_lt _ _
    have hpe := hT.push_ents x hx
    have hpl : (T.push x).ents.length ≤ 2 ^ T.nk := by rw [hpe.length_eq, List.length_cons]; omega
    rcases hc with ⟨rfl, -⟩ | ⟨-, hbad, -⟩
    · exact ⟨own', G', hs', bs', _, x, he, W, hok, S, by rw [(Tab.push_nk T x).2.1]; exact ho, (Tab.push_nk T x).1, T.push_seed x, hpe, h1, h2, h3, h4⟩
    · exact absurd hpl hbad
theorem put_same (hp' : PutPost w own hp G t T rest key v a b e w') (hT : T.Ok) (ho : T.oid = 0) {y : Ent} (hf : T.find key = some y) :
    ∃ (own' : Own) (G' : Gr) (hs' : List Nat) (bs' : List (Option Nat)) (T' : Tab), e = .returned (.tuple #[.bool false, .int .i64 0]) ∧ Wr w own hp G w' own' G' hs' bs' ∧ T'.Ok ∧ Sat G' (T'.plan t ++ rest) ∧ T'.oid = 0 ∧ T'.nk = T.nk ∧ T'.seed = T.seed ∧ ∃ r, T.ents.Perm (y :: r) ∧ T'.ents.Perm ({ y with ref := v, a := a, b := b } :: r) := by
  obtain ⟨own', G', hs', bs', T', W, hok, S, hc⟩ := hp'
  rw [Tab.step_self ho] at hc
  obtain ⟨hy, hky⟩ := (hT.find_some key y).1 hf
  rcases hc with ⟨he, c1, x, c2, h1, h2, h3⟩ | ⟨-, -, hn, -⟩ | ⟨-, hn, -⟩
  · have hx : x = y := nodup_key hT.keys (T.cur_sub _ (by rw [h1]; simp)) hy (h2.trans hky.symm)
    subst hx
    obtain ⟨r, r1, r2⟩ := hT.edit_ents (hashN T.seed key) (hashN_lt _ _) c1 c2 x { x with ref := v, a := a, b := b } h1
    subst h3
    exact ⟨own', G', hs', bs', _, he, W, hok, S, (T.lay_oid _ _).1.trans ho, (T.lay_oid _ _).2, T.lay_seed _ _, r, r1, r2⟩
  · rw [hf] at hn; cases hn
  · rw [hf] at hn; cases hn
end
end Go.Proofs.YtglglknhifjbaaaGreatDoor.Sp
namespace Go.Proofs.YtglglknhifjbaaaGreatDoor.Sp
open Go.RowKit Go.Proofs.YtglglknhifjbaaaGreatDoorW.PrintWords Go.Proofs.YtglglknhifjbaaaGreatDoorW.PrintLast Go.Proofs.YtglglknhifjbaaaGreatDoorW.PrintMore
open Go.ChangeMaps (setBlock)
set_option linter.unusedVariables false
set_option linter.unusedSimpArgs false
structure SC where
  q : Nat
  seed : Nat
  clk : Nat
  p1 : Value
  p2 : Value
  p3 : Value
  dr : Value
  tot : Nat
  soon : Nat
  run : Bool
  giv : Nat
  gone : Value
  chg : Value
def SC.cells (c : SC) (hp tp mb : Nat) : Array Value := #[.pointer (some ⟨hp, 0, none⟩), .int .i64 (c.q : Int), .int .u64 (c.seed : Int), .int .u64 (c.clk : Int), .pointer (some ⟨tp, 0, none⟩), c.p1, c.p2, c.p3, c.dr, .int .i64 (c.tot : Int), .int .u64 (c.soon : Int), .bool c.run, .int .i64 (c.giv : Int), .map (some mb), c.gone, c.chg]
structure SpS (n0 : Nat) (W : World) (own : Own) (hp : Nat) (G : Gr) (hs : List Nat) (bs : List (Option Nat)) (tp hd t : Nat) (T : Tab) (rest : Plan) (s mb : Nat) (c : SC) (es : Array MapEntry) (ck : Nat) : Prop where
  ht : HT W own hp G hs bs tp hd t T rest
  hs_ : W.heap[s]? = some (.cells (c.cells hp tp mb) 86 (0, 0))
  hm : W.heap[mb]? = some (.map es ck)
  os : own s = 0
  om : own mb = 0
  low : ∀ b, b < n0 → own b = 0
  ns : n0 ≤ s
  nm : n0 ≤ mb
  nt : n0 ≤ tp
theorem setBlock_at (w : World) (b n : Nat) (o : Obj) (hb : b < w.heap.size) : (setBlock w b o).heap[n]? = if n = b then some o else w.heap[n]? := by
  show (w.heap.setIfInBounds b o)[n]? = _
  rw [Array.getElem?_setIfInBounds]
  by_cases h : b = n
  · subst h; simp [hb]
  · rw [if_neg h, if_neg (fun e => h e.symm)]
theorem setBlock_fr {P : Nat → Prop} (w : World) (b : Nat) (o : Obj) (hb : b < w.heap.size) (hP : P b) : Fr P w (setBlock w b o) :=
  ⟨rfl, rfl, rfl, by show _ ≤ (w.heap.setIfInBounds b o).size; simp, fun i hi hn => by rw [setBlock_at w b i o hb, if_neg (fun e => hn (by rw [e]; exact hP))]⟩
structure Kp (w : World) (own : Own) (s mb : Nat) (w' : World) (own' : Own) : Prop where
  sz : w.heap.size ≤ w'.heap.size
  ow : ∀ b, b < w.heap.size → own' b = own b
  bl : ∀ b, b < w.heap.size → own b = 0 → b ≠ s → b ≠ mb → w'.heap[b]? = w.heap[b]?
theorem Kp.trans {w w1 w2 : World} {own own1 own2 : Own} {s mb : Nat} (h : Kp w own s mb w1 own1) (k : Kp w1 own1 s mb w2 own2) : Kp w own s mb w2 own2 :=
  ⟨Nat.le_trans h.sz k.sz, fun b hb => (k.ow b (Nat.lt_of_lt_of_le hb h.sz)).trans (h.ow b hb), fun b hb h0 h1 h2 => (k.bl b (Nat.lt_of_lt_of_le hb h.sz) ((h.ow b hb).trans h0) h1 h2).trans (h.bl b hb h0 h1 h2)⟩
theorem Kp.below {w w' : World} (own : Own) (s mb : Nat) (hb : Below w.heap.size w w') : Kp w own s mb w' own := ⟨hb.size, fun _ _ => rfl, fun b h _ _ _ => hb.block b h⟩
theorem Kp.step {w w' : World} {own own' : Own} (s mb : Nat) (st : HStep w own w' own') : Kp w own s mb w' own' := ⟨st.fr.size, fun b hb => st.ow b hb, fun b hb h0 _ _ => st.block hb h0⟩
theorem Kp.fr {w w' : World} (own : Own) {s mb : Nat} (hf : Fr (fun b => b = s ∨ b = mb) w w') : Kp w own s mb w' own := ⟨hf.size, fun _ _ => rfl, fun b hb _ h1 h2 => hf.block b hb (fun q => q.elim h1 h2)⟩
theorem Kp.set (w : World) (own : Own) (s mb i : Nat) (v : Value) : Kp w own s mb (w.setCell ⟨s, i, none⟩ v) own := Kp.fr own ((Fr.refl (fun b => b = s ∨ b = mb) w).setCell (p := ⟨s, i, none⟩) (.inl (.inl rfl)) v)
theorem Kp.map {w : World} (own : Own) (s : Nat) {mb : Nat} (o : Obj) (hb : mb < w.heap.size) : Kp w own s mb (setBlock w mb o) own := Kp.fr own (setBlock_fr w mb o hb (.inr rfl))
section
variable {n0 : Nat} {W W' : World} {own own' : Own} {hp : Nat} {G G' : Gr} {hs hs' : List Nat} {bs bs' : List (Option Nat)} {tp hd t : Nat} {T T' : Tab} {rest rest' : Plan} {s mb ck : Nat} {c : SC} {es : Array MapEntry}
theorem SpS.cell (h : SpS n0 W own hp G hs bs tp hd t T rest s mb c es ck) (i : Nat) : W.cell? ⟨s, i, none⟩ = (c.cells hp tp mb)[i]? := by simp [World.cell?, h.hs_]
theorem SpS.fz (h : SpS n0 W own hp G hs bs tp hd t T rest s mb c es ck) (i : Nat) : W.frozen? ⟨s, i, none⟩ = false := by simp [World.frozen?, h.hs_]
theorem SpS.sm (h : SpS n0 W own hp G hs bs tp hd t T rest s mb c es ck) : s ≠ mb := fun e => by
  have h1 := h.hs_
  rw [e, h.hm] at h1
  cases h1
theorem SpS.tm (h : SpS n0 W own hp G hs bs tp hd t T rest s mb c es ck) : tp ≠ mb := fun e => by
  have h1 := h.ht.ta.cell
  rw [e, h.hm] at h1
  cases h1
theorem SpS.ts (h : SpS n0 W own hp G hs bs tp hd t T rest s mb c es ck) : tp ≠ s := fun e => by
  have h1 := h.ht.ta.cell
  rw [e, h.hs_] at h1
  injection h1 with h1
  injection h1 with h1 h2 h3
  exact absurd h2 (by decide)
theorem SpS.gm (h : SpS n0 W own hp G hs bs tp hd t T rest s mb c es ck) : 2 ≠ mb := fun e => by
  have h1 := h.ht.gl.cell 0 (by decide)
  rw [e] at h1
  simp [World.cell?, h.hm] at h1
theorem SpS.gs (h : SpS n0 W own hp G hs bs tp hd t T rest s mb c es ck) : 2 ≠ s := fun e => by
  have h1 := h.ht.gl.cell 0 (by decide)
  rw [e, h.cell 0] at h1
  simp [SC.cells] at h1
theorem SpS.below (h : SpS n0 W own hp G hs bs tp hd t T rest s mb c es ck) (hb : Below W.heap.size W W') : SpS n0 W' own hp G hs bs tp hd t T rest s mb c es ck :=
  ⟨h.ht.below hb, (hb.block _ (blk_lt h.hs_)).trans h.hs_, (hb.block _ (blk_lt h.hm)).trans h.hm, h.os, h.om, h.low, h.ns, h.nm, h.nt⟩
theorem SpS.n0le (h : SpS n0 W own hp G hs bs tp hd t T rest s mb c es ck) : n0 ≤ W.heap.size := Nat.le_of_lt (Nat.lt_of_le_of_lt h.ns (blk_lt h.hs_))
theorem SpS.step (h : SpS n0 W own hp G hs bs tp hd t T rest s mb c es ck) (st : HStep W own W' own') (ht' : HT W' own' hp G' hs' bs' tp hd t T' rest') : SpS n0 W' own' hp G' hs' bs' tp hd t T' rest' s mb c es ck ∧ Below n0 W W' :=
  ⟨⟨ht', (st.block (blk_lt h.hs_) h.os).trans h.hs_, (st.block (blk_lt h.hm) h.om).trans h.hm, st.own0 (blk_lt h.hs_) h.os, st.own0 (blk_lt h.hm) h.om, fun b hb => st.own0 (Nat.lt_of_lt_of_le hb h.n0le) (h.low b hb), h.ns, h.nm, h.nt⟩,
    ⟨st.fr.os, st.fr.tape, st.fr.output, st.fr.size, fun k hk => st.block (Nat.lt_of_lt_of_le hk h.n0le) (h.low k hk)⟩⟩
theorem SpS.bel (h : SpS n0 W own hp G hs bs tp hd t T rest s mb c es ck) (hb : Below W.heap.size W W') : Below n0 W W' := ⟨hb.os, hb.tape, hb.output, hb.size, fun k hk => hb.block k (Nat.lt_of_lt_of_le hk h.n0le)⟩
theorem SpS.set (h : SpS n0 W own hp G hs bs tp hd t T rest s mb c es ck) (i : Nat) (v : Value) (c' : SC) (hc : (c.cells hp tp mb).setIfInBounds i v = c'.cells hp tp mb) : SpS n0 (W.setCell ⟨s, i, none⟩ v) own hp G hs bs tp hd t T rest s mb c' es ck ∧ Below n0 W (W.setCell ⟨s, i, none⟩ v) := by
  have hf : Fr (fun b => b = s) W (W.setCell ⟨s, i, none⟩ v) := (Fr.refl (fun b => b = s) W).setCell (p := ⟨s, i, none⟩) (.inl rfl) v
  have hb : (W.setCell ⟨s, i, none⟩ v).heap[s]? = some (.cells ((c.cells hp tp mb).setIfInBounds i v) 86 (0, 0)) := by
    show (W.heap.modify s _)[s]? = _
    rw [Array.getElem?_modify, if_pos rfl, h.hs_]
    rfl
  refine ⟨⟨h.ht.fr hf (fun b hb => by rw [hb]; exact h.os) h.ts h.gs, by rw [hb, hc], (hf.block _ (blk_lt h.hm) (fun e => h.sm e.symm)).trans h.hm, h.os, h.om, h.low, h.ns, h.nm, h.nt⟩,
    ⟨hf.os, hf.tape, hf.output, hf.size, fun k hk => hf.block k (Nat.lt_of_lt_of_le hk h.n0le) (fun e => by have := h.ns; omega)⟩⟩
theorem SpS.map (h : SpS n0 W own hp G hs bs tp hd t T rest s mb c es ck) (es' : Array MapEntry) (ck' : Nat) : SpS n0 (setBlock W mb (.map es' ck')) own hp G hs bs tp hd t T rest s mb c es' ck' ∧ Below n0 W (setBlock W mb (.map es' ck')) := by
  have hf : Fr (fun b => b = mb) W (setBlock W mb (.map es' ck')) := setBlock_fr W mb _ (blk_lt h.hm) rfl
  refine ⟨⟨h.ht.fr hf (fun b hb => by rw [hb]; exact h.om) h.tm h.gm, (hf.block _ (blk_lt h.hs_) h.sm).trans h.hs_, by rw [setBlock_at _ _ _ _ (blk_lt h.hm), if_pos rfl], h.os, h.om, h.low, h.ns, h.nm, h.nt⟩,
    ⟨hf.os, hf.tape, hf.output, hf.size, fun k hk => hf.block k (Nat.lt_of_lt_of_le hk h.n0le) (fun e => by have := h.nm; omega)⟩⟩
theorem SpS.get (h : SpS n0 W own hp G hs bs tp hd t T rest s mb c es ck) (A : Option Addr) (key : List Int) (cp : Nat) (hk : IsB key) (hA : HasB W A key) (hkl : key.length ≤ 4096) (hok : ∀ a ∈ T.ents, a.a < 9223372036854775808) :
    Calls Tryz.prog 54 #[.pointer (some ⟨s, 0, none⟩), .int .i64 0, .slice A key.length cp] W (EntryPost W G hs bs T key) :=
  entry_walk (db := 0) (by decide) (h.cell 4) A key cp hkl hok (h.ht.get A key cp hk hA hkl) (h.ht.sub key)
theorem SpS.find (h : SpS n0 W own hp G hs bs tp hd t T rest s mb c es ck) (A : Option Addr) (key : List Int) (cp : Nat) (hk : IsB key) (hA : HasB W A key) (hkl : key.length ≤ 4096) (hok : ∀ a ∈ T.ents, a.a < 9223372036854775808) :
    Calls Tryz.prog 63 #[.pointer (some ⟨s, 0, none⟩), .int .i64 0, .slice A key.length cp] W (FindKPost W G hs bs T key) :=
  findK_walk (db := 0) A key cp (h.get A key cp hk hA hkl hok)
theorem SpS.read (h : SpS n0 W own hp G hs bs tp hd t T rest s mb c es ck) {e : Ent} (he : e ∈ T.ents) {tx : List Int} (hr : (e.ref, .blob tx) ∈ rest) :
    Calls Tryz.prog 64 #[.pointer (some ⟨s, 0, none⟩), .int .i64 1, .int .u64 (plOf G hs bs e.ref : Int)] W (ReadTPost W tx) :=
  readT_walk (h.cell 0) fun W1 hb => by
    have hl : Live hs bs e.ref := (h.ht.refs e he).resolve_left (fun e0 => by
      have := h.ht.sat.lo e.ref _ (List.mem_append_right _ hr)
      omega)
    exact (bReadI_walk (h.ht.ho.below hb) hl tx (h.ht.sat.blob (List.mem_append_right _ hr))).mono fun e w' h => h
end
end Go.Proofs.YtglglknhifjbaaaGreatDoor.Sp
namespace Go.Proofs.YtglglknhifjbaaaGreatDoor.Sp
open Go.RowKit Go.Proofs.YtglglknhifjbaaaGreatDoorW.PrintWords Go.Proofs.YtglglknhifjbaaaGreatDoorW.PrintLast Go.Proofs.YtglglknhifjbaaaGreatDoorW.PrintMore
open Go.ChangeMaps (setBlock)
set_option linter.unusedVariables false
set_option linter.unusedSimpArgs false
section
variable {n0 : Nat} {w : World} {own : Own} {hp : Nat} {G : Gr} {hs : List Nat} {bs : List (Option Nat)} {tp hd t : Nat} {T : Tab} {rest : Plan} {s mb ck : Nat} {c : SC} {es : Array MapEntry}
def SC.begun (c : SC) : SC := { c with run := true, giv := 0, gone := .slice none 0 0, chg := .slice none 0 0 }
set_option maxHeartbeats 1000000 in
theorem spBegin_walk (h : SpS n0 w own hp G hs bs tp hd t T rest s mb c es ck) (hclk : c.clk = 0) (hso : c.soon = 0) :
    Calls Tryz.prog 79 #[.pointer (some ⟨s, 0, none⟩), .int .u64 0] w fun e w' => e = .returned (.tuple #[]) ∧ SpS n0 w' own hp G hs bs tp hd t T rest s mb c.begun es ck ∧ Below n0 w w' ∧ Kp w own s mb w' own := by
  have c3 : w.cell? ⟨s, 3, none⟩ = some (.int .u64 0) := by rw [h.cell 3]; simp [SC.cells, hclk]
  have c10 : w.cell? ⟨s, 10, none⟩ = some (.int .u64 0) := by rw [h.cell 10]; simp [SC.cells, hso]
  have c11 : w.cell? ⟨s, 11, none⟩ = some (.bool c.run) := by rw [h.cell 11]; rfl
  have c12 : w.cell? ⟨s, 12, none⟩ = some (.int .i64 (c.giv : Int)) := by rw [h.cell 12]; rfl
  have c14 : w.cell? ⟨s, 14, none⟩ = some c.gone := by rw [h.cell 14]; rfl
  have c15 : w.cell? ⟨s, 15, none⟩ = some c.chg := by rw [h.cell 15]; rfl
  have hmin : min (0 : Int) 4503599627370496 = 0 := by decide
  have hmax : max (0 : Int) 0 = 0 := by decide
  have f3 := h.fz 3
  have f11 := h.fz 11
  have f12 := h.fz 12
  have f14 := h.fz 14
  have f15 := h.fz 15
  obtain ⟨h1, b1⟩ := h.set 3 (.int .u64 0) c (by simp [SC.cells, hclk])
  obtain ⟨h2, b2⟩ := h1.set 11 (.bool true) { c with run := true } (by simp [SC.cells])
  obtain ⟨h3, b3⟩ := h2.set 12 (.int .i64 0) { c with run := true, giv := 0 } (by simp [SC.cells])
  obtain ⟨h4, b4⟩ := h3.set 14 (.slice none 0 0) { c with run := true, giv := 0, gone := .slice none 0 0 } (by simp [SC.cells])
  obtain ⟨h5, b5⟩ := h4.set 15 (.slice none 0 0) c.begun (by simp [SC.cells, SC.begun])
  have k15 := (((((Kp.set w own s mb 3 (.int .u64 0)).trans (Kp.set _ own s mb 11 (.bool true))).trans (Kp.set _ own s mb 12 (.int .i64 0))).trans (Kp.set _ own s mb 14 (.slice none 0 0))).trans (Kp.set _ own s mb 15 (.slice none 0 0)))
  have b15 := (((b1.trans b2).trans b3).trans b4).trans b5
  obtain ⟨W5, hW5⟩ : ∃ W5, (((((w.setCell ⟨s, 3, none⟩ (.int .u64 0)).setCell ⟨s, 11, none⟩ (.bool true)).setCell ⟨s, 12, none⟩ (.int .i64 0)).setCell ⟨s, 14, none⟩ (.slice none 0 0)).setCell ⟨s, 15, none⟩ (.slice none 0 0)) = W5 := ⟨_, rfl⟩
  rw [hW5] at h5 b15 k15
  have d10 : W5.cell? ⟨s, 10, none⟩ = some (.int .u64 0) := by rw [h5.cell 10]; simp [SC.cells, SC.begun, hso]
  have HF := Lib.hid (And.intro h5 (And.intro b15 k15))
  have HW5 := Lib.hid hW5
  clear h h1 h2 h3 h4 h5 b1 b2 b3 b4 b5 hW5 b15 k15
  go_enter Tryz.func79, Tryz.ntmps79
  go_upto_region 3 with fail
  rw [HW5.out]
  clear c3 c10 c11 c12 c14 c15 f3 f11 f12 f14 f15
  go_quiet (fail)
  all_goals (
    go_wp2_with fail
    refine bodyPost_ret (results_none rfl _ _ _) rfl ?_
    exact ⟨rfl, HF.out.1.below (bd (Below.refl _ _) _), bd HF.out.2.1 _, HF.out.2.2.trans (Kp.below own s mb (bd (Below.refl _ _) _))⟩)
end
end Go.Proofs.YtglglknhifjbaaaGreatDoor.Sp
