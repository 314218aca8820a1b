/- A record that is cut, zeros behind it or nothing, is none; where a log is cut. Copies, twin, whole, reads: what they compute. What row makes; what RecordTorn's walk asks holds. RecordTorn: the walk's premises hold of every row that came in. A RecordCut that came in. -/
import Derived.Test.YtdhkhjfjjbdkgaaLog
import Derived.Test.YtdhkhjfjjbdkgaaRLx10c
import Derived.Test.YtdhkhjfjjbdkgaaRoww
import Derived.Test.YtdhkhjfjjbdkgaaRLx10b
import Derived.Test.YtdhkhjfjjbdkgaaBulk
import Derived.Test.YtdhkhjfjjbdkgaaTornw
namespace Go.Proofs.Ytdhkhjfjjbdkgaa.Rec
open Go.RowKit Go.Proofs.YtdhkhjfjjbdkgaaW.PrintWords Go.Proofs.YtdhkhjfjjbdkgaaW.PrintLast Go.Proofs.YtdhkhjfjjbdkgaaW.PrintMore
set_option linter.unusedVariables false
set_option linter.unusedSimpArgs false
theorem frame_last (b : List Int) : ∃ x, frameP b = x ++ [85] := ⟨headP b.length ++ (be 8 (crc (headP b.length)).toNat ++ (b ++ be 8 (crc b).toNat)), by unfold frameP; simp only [List.append_assoc]⟩
theorem frame_end (b r : List Int) : (frameP b ++ r)[(frameP b).length - 1]? = some 85 := by
  obtain ⟨x, hx⟩ := frame_last b
  rw [hx, List.length_append, List.length_singleton, Nat.add_sub_cancel, List.append_assoc, List.getElem?_append_right (Nat.le_refl _), Nat.sub_self]
  rfl
theorem none_zeros (z : Nat) : NoRec (List.replicate z 0) := by
  intro s n g r hg e
  rw [frame_app] at e
  cases z with
  | zero => cases e
  | succ z => rw [List.replicate_succ] at e; have := (List.cons.inj e).1; omega
theorem torn_none (b : List Int) (hb : b.length < 256 ^ 8) (m z : Nat) (hm : m < (frameP b).length) : NoRec ((frameP b).take m ++ List.replicate z 0) := by
  intro s n g r hg e
  have hN : 26 ≤ (frameP (bodyP s n g)).length := by rw [frameP_len]; omega
  have hend := frame_end (bodyP s n g) r
  rw [← e] at hend
  have htl : ((frameP b).take m).length = m := by rw [List.length_take]; omega
  by_cases hle : (frameP (bodyP s n g)).length ≤ m
  · have h2 := congrArg (List.take m) e
    rw [List.take_append_of_le_length (by omega), List.take_take, Nat.min_self, List.take_append, List.take_of_length_le hle] at h2
    have h3 : frameP b ++ [] = frameP (bodyP s n g) ++ (r.take (m - (frameP (bodyP s n g)).length) ++ (frameP b).drop m) := by
      rw [List.append_nil, ← List.append_assoc, ← h2, List.take_append_drop]
    have hgl := good_len hg
    have := frame_inj hb (by omega) h3
    rw [← this] at hle
    omega
  · rw [List.getElem?_append_right (by omega)] at hend
    have := List.getElem?_replicate (n := z) (a := (0 : Int)) (i := (frameP (bodyP s n g)).length - 1 - ((frameP b).take m).length)
    rw [this] at hend
    split at hend
    · have := Option.some.inj hend; omega
    · cases hend
/-- A log cut at n: i records wholly, and a piece of the next one. -/
theorem cut_at (L : List S33) (n i : Nat) (hi : i ≤ L.length) (h1 : (frames (L.take i)).length ≤ n) (h2 : i = L.length ∨ ∃ h : i < L.length, n < (frames (L.take i)).length + (frameE L[i]).length) (hn : n ≤ (frames L).length) :
    ((frames L).take n = frames (L.take i)) ∨ ∃ (h : i < L.length) (m : Nat), m < (frameE L[i]).length ∧ (frames L).take n = frames (L.take i) ++ (frameE L[i]).take m := by
  rcases h2 with rfl | ⟨h, h2⟩
  · left
    rw [List.take_length] at h1 ⊢
    rw [List.take_of_length_le h1]
  · right
    refine ⟨h, n - (frames (L.take i)).length, by omega, ?_⟩
    conv => lhs; rw [frames_split L i, frames_drop L i h]
    rw [List.take_append, List.take_of_length_le h1, List.take_append_of_le_length (by omega)]
theorem torn_rest (L : List S33) (hG : ∀ e ∈ L, GoodE e) (n i z : Nat) (hi : i ≤ L.length) (h1 : (frames (L.take i)).length ≤ n) (h2 : i = L.length ∨ ∃ h : i < L.length, n < (frames (L.take i)).length + (frameE L[i]).length) (hn : n ≤ (frames L).length) :
    ∃ rest, (frames L).take n ++ List.replicate z 0 = frames (L.take i) ++ rest ∧ NoRec rest := by
  rcases cut_at L n i hi h1 h2 hn with h | ⟨h, m, hm, he⟩
  · exact ⟨List.replicate z 0, by rw [h], none_zeros z⟩
  · refine ⟨(frameE L[i]).take m ++ List.replicate z 0, by rw [he, List.append_assoc], ?_⟩
    have hg := good_len (hG L[i] (List.getElem_mem h))
    exact torn_none _ (by omega) m z hm
/-! into -/
theorem into_is (n m : Int) (hm : 0 < m) (hm2 : m < 9223372036854775808) : ∃ r : Int, larderlaw16_into.f n m = some r ∧ 0 ≤ r ∧ r < m := by
  have h1 := Int.tmod_lt_of_pos n hm
  have h2 : -m < Int.tmod n m := by
    have := Int.lt_tmod_of_pos n hm
    omega
  unfold larderlaw16_into.f
  rw [if_neg (by omega)]
  by_cases h : Int.tmod n m < 0
  · rw [if_pos h]
    refine ⟨_, rfl, ?_, ?_⟩ <;> (unfold wrap64; omega)
  · rw [if_neg h]
    exact ⟨_, rfl, by omega, h1⟩
end Go.Proofs.Ytdhkhjfjjbdkgaa.Rec
namespace Go.Proofs.Ytdhkhjfjjbdkgaa.Rec
open Go.RowKit Go.Proofs.YtdhkhjfjjbdkgaaW.PrintWords Go.Proofs.YtdhkhjfjjbdkgaaW.PrintLast Go.Proofs.YtdhkhjfjjbdkgaaW.PrintMore
set_option linter.unusedVariables false
set_option linter.unusedSimpArgs false
theorem copy_is (l : List Int) (h : l.length ≤ 1048576) : larderref0_Copy.f l = some l := by
  unfold larderref0_Copy.f; rw [if_pos (by omega)]
theorem copies_is (l : List (List Int)) (h : l.length ≤ 1048576) (ht : ∀ t ∈ l, t.length ≤ 1048576) : Ev (fun k => larderref0_Copies.f k l) l := by
  have key : ∀ d i : Nat, i + d = l.length → Ev (fun k => larderref0_Copies.l0 k l (l.take i ++ List.replicate d []) (i : Int)) l := by
    intro d
    induction d with
    | zero =>
      intro i hi
      refine Ev.step (f := fun _ => some l) (fun k => ?_) (Ev.now _)
      conv => lhs; unfold larderref0_Copies.l0
      rw [if_neg (by omega), List.take_of_length_le (by omega)]; simp
    | succ d ih =>
      intro i hi
      have hlt : i < l.length := by omega
      refine Ev.step (fun k => ?_) (ih (i + 1) (by omega))
      conv => lhs; unfold larderref0_Copies.l0
      rw [if_pos (by omega), if_pos (by omega), rd_L2_get l i hlt, copy_is _ (ht _ (List.getElem_mem hlt))]
      have hlen : (l.take i).length = i := by rw [List.length_take]; omega
      have hset : (l.take i ++ List.replicate (d + 1) []).set i l[i] = l.take (i + 1) ++ List.replicate d [] := by
        rw [List.set_append, if_neg (by omega), hlen, Nat.sub_self, List.replicate_succ, List.set_cons_zero, show l.take (i + 1) = l.take i ++ [l[i]] by rw [List.take_add_one, List.getElem?_eq_getElem hlt]; rfl, List.append_assoc]
        rfl
      show (if (i : Int) < ((l.take i ++ List.replicate (d + 1) []).length : Int) then larderref0_Copies.l0 k l ((l.take i ++ List.replicate (d + 1) []).set (i : Int).toNat l[i]) (wrap64 ((i : Int) + 1)) else none) = _
      rw [if_pos (by rw [List.length_append, hlen, List.length_replicate]; omega), Int.toNat_natCast, hset, wr64 i (by omega)]
  have h0 := key l.length 0 (by omega)
  unfold larderref0_Copies.f
  refine Ev.congr (fun k => ?_) h0
  rw [if_pos (by omega), if_pos (by omega)]
  simp
theorem twin_is (s n : Int) (G : List S76) (h : G.length ≤ 1048576) (ha : ∀ a ∈ G, a.f1.length ≤ 1048576 ∧ ∀ t ∈ a.f1, t.length ≤ 1048576) : Ev (fun k => larderlaw16_twin.f k s n G) (s, n, G) := by
  have key : ∀ d i : Nat, i + d = G.length → Ev (fun k => larderlaw16_twin.l0 k (i : Int) s n G s n (G.take i)) (s, n, G) := by
    intro d
    induction d with
    | zero =>
      intro i hi
      refine Ev.step (f := fun _ => some (s, n, G)) (fun k => ?_) (Ev.now _)
      conv => lhs; unfold larderlaw16_twin.l0
      rw [if_neg (by omega), List.take_of_length_le (by omega)]
    | succ d ih =>
      intro i hi
      have hlt : i < G.length := by omega
      obtain ⟨q1, q2⟩ := ha _ (List.getElem_mem hlt)
      have htk : G.take i ++ [(⟨G[i].f0, G[i].f1⟩ : S76)] = G.take (i + 1) := by
        rw [List.take_add_one, List.getElem?_eq_getElem hlt]; rfl
      refine Ev.step (f := fun k => (larderref0_Copies.f k G[i].f1).bind fun t406 => (if (G.take i).length < 4398046511104 then (larderlaw16_twin.l0 k (wrap64 ((i : Int) + 1)) s n G s n (G.take i ++ [(⟨G[i].f0, t406⟩ : S76)])) else (none))) (fun k => ?_) (Ev.bind (copies_is _ q1 q2) (Ev.congr (fun k => ?_) (ih (i + 1) (by omega))))
      · conv => lhs; unfold larderlaw16_twin.l0
        rw [if_pos (by omega), if_pos (by omega), rd_T76_get G i hlt]
      · rw [if_pos (by rw [List.length_take]; omega), htk, wr64 i (by omega)]
  exact key G.length 0 (by omega)
theorem whole_is (ends : List Int) (n : Int) (h : ends.length ≤ 40) : ∃ i : Nat, ∃ hi : i ≤ ends.length, Ev (fun k => larderlaw16_whole.f k ends n) (i : Int) ∧ (∀ (j : Nat) (hj : j < i), ends[j] ≤ n) ∧ (i = ends.length ∨ ∃ h : i < ends.length, n < ends[i]) := by
  have key : ∀ d i : Nat, i + d = ends.length → (∀ (j : Nat) (hj : j < i) (hj2 : j < ends.length), ends[j] ≤ n) → ∃ i' : Nat, ∃ hi : i' ≤ ends.length, Ev (fun k => larderlaw16_whole.l0 k ends n (i : Int)) (i' : Int) ∧ (∀ (j : Nat) (hj : j < i'), ends[j] ≤ n) ∧ (i' = ends.length ∨ ∃ h : i' < ends.length, n < ends[i']) := by
    intro d
    induction d with
    | zero =>
      intro i hi hj
      refine ⟨i, by omega, Ev.step (f := fun _ => some (i : Int)) (fun k => ?_) (Ev.now _), fun j h1 => hj j h1 (by omega), .inl (by omega)⟩
      conv => lhs; unfold larderlaw16_whole.l0
      rw [if_neg (by omega)]
    | succ d ih =>
      intro i hi hj
      have hlt : i < ends.length := by omega
      by_cases hle : ends[i] ≤ n
      · obtain ⟨i', h1, h2, h3, h4⟩ := ih (i + 1) (by omega) (fun j h1 h2 => by
          by_cases e : j = i
          · subst e; exact hle
          · exact hj j (by omega) h2)
        refine ⟨i', h1, Ev.step (fun k => ?_) h2, h3, h4⟩
        conv => lhs; unfold larderlaw16_whole.l0
        rw [if_pos (by omega), if_pos (by omega), rd_get ends i hlt, if_pos hle, wr64 i (by omega)]
      · refine ⟨i, by omega, Ev.step (f := fun _ => some (i : Int)) (fun k => ?_) (Ev.now _), fun j h1 => hj j h1 (by omega), .inr ⟨hlt, by omega⟩⟩
        conv => lhs; unfold larderlaw16_whole.l0
        rw [if_pos (by omega), if_pos (by omega), rd_get ends i hlt, if_neg hle]
  exact key ends.length 0 (by omega) (fun j hj => by omega)
theorem reads_is (l : List Int) (L : List S33) (ends : List Int) (i : Nat) (hi : i ≤ L.length) (h40 : L.length ≤ 40) (he : ends.length = L.length) (hG : ∀ e ∈ L, GoodE e) (hends : ∀ (j : Nat) (h : j < ends.length), ends[j] = ((frames (L.take (j + 1))).length : Int)) (hr : Ev (fun k => record_Read.f k l) (L.take i, ((frames (L.take i)).length : Int))) :
    Ev (fun k => larderlaw16_reads.f k l L ends (i : Int)) true := by
  have hs := entries_refl (L.take i) (by rw [List.length_take]; omega) (fun e h => hG e (List.mem_of_mem_take h))
  unfold larderlaw16_reads.f
  refine Ev.bind hr ?_
  dsimp only
  by_cases h0 : i = 0
  · subst h0
    refine Ev.congr (fun k => ?_) (Ev.bind hs (Ev.now true))
    rw [if_neg (by simp), if_pos (by simp [frames]), if_pos (by simp), if_pos (by omega)]
    simp
  · refine Ev.congr (fun k => ?_) (Ev.bind hs (Ev.now true))
    have hw : wrap64 ((i : Int) - 1) = ((i - 1 : Nat) : Int) := by unfold wrap64; omega
    rw [if_pos (by omega), hw, if_pos (by omega), if_pos (by omega), rd_get ends (i - 1) (by omega), hends (i - 1) (by omega), if_pos (by rw [Nat.sub_add_cancel (by omega)]), if_pos (by omega), if_pos (by omega), Int.toNat_natCast]
end Go.Proofs.Ytdhkhjfjjbdkgaa.Rec
namespace Go.Proofs.Ytdhkhjfjjbdkgaa.Rec
open Go.RowKit Go.Proofs.YtdhkhjfjjbdkgaaW.PrintWords Go.Proofs.YtdhkhjfjjbdkgaaW.PrintLast Go.Proofs.YtdhkhjfjjbdkgaaW.PrintMore
set_option linter.unusedVariables false
set_option linter.unusedSimpArgs false
structure RowInv (f st : Int) (L : List S33) (log ends : List Int) : Prop where
  log : log = frames L
  elen : ends.length = L.length
  ends : ∀ (j : Nat) (h : j < ends.length), ends[j] = ((frames (L.take (j + 1))).length : Int)
  ent : ∀ (i : Nat) (h : i < L.length), L[i].f0 = f + i ∧ L[i].f1 = i * st
  good : ∀ e ∈ L, GoodE e
theorem frames_snoc (L : List S33) (e : S33) : frames (L ++ [e]) = frames L ++ frameE e := by unfold frames; simp
theorem row_step (f st : Int) (hf1 : f ≤ 1099511627776) (hst : 0 ≤ st) (L : List S33) (log ends : List Int) (G : List S76) (hG : BytesG G) (h40 : L.length ≤ 40) (h : RowInv f st L log ends) :
    ∃ L' log' ends', rowStep f st (L, log, ends) G = (L', log', ends') ∧ RowInv f st L' log' ends' ∧ L'.length ≤ L.length + 1 := by
  unfold rowStep
  by_cases hm : mayB (f + L.length) (L.length * st) G = true
  · rw [if_pos hm]
    refine ⟨_, _, _, rfl, ⟨?_, ?_, ?_, ?_, ?_⟩, by simp⟩
    · dsimp only; rw [frames_snoc, h.log]; rfl
    · dsimp only; rw [List.length_append, List.length_append, h.elen]; rfl
    · dsimp only
      intro j hj
      rw [List.length_append, List.length_singleton] at hj
      by_cases e : j < ends.length
      · rw [List.getElem_append_left e, h.ends j e, List.take_append_of_le_length (by rw [← h.elen]; omega)]
      · obtain rfl : j = ends.length := by omega
        rw [List.getElem_append_right (Nat.le_refl _)]
        simp only [Nat.sub_self, List.getElem_cons_zero]
        rw [List.take_of_length_le (by rw [List.length_append, h.elen]; simp), frames_snoc, h.log, List.length_append]
        rfl
    · dsimp only
      intro i hi
      rw [List.length_append, List.length_singleton] at hi
      by_cases e : i < L.length
      · rw [List.getElem_append_left e]; exact h.ent i e
      · obtain rfl : i = L.length := by omega
        rw [List.getElem_append_right (Nat.le_refl _)]
        simp
    · dsimp only
      intro e he
      rcases List.mem_append.1 he with he | he
      · exact h.good e he
      · rw [List.mem_singleton.1 he]
        exact ⟨hm, hG, Int.mul_nonneg (by omega) hst, by show f + (L.length : Int) < _; omega⟩
  · rw [if_neg hm]
    exact ⟨_, _, _, rfl, h, by omega⟩
theorem row_inv (f st : Int) (hf1 : f ≤ 1099511627776) (hst : 0 ≤ st) : ∀ (Gs : List (List S76)) (L : List S33) (log ends : List Int), (∀ G ∈ Gs, BytesG G) → L.length + Gs.length ≤ 40 → RowInv f st L log ends →
    ∃ L' log' ends', Gs.foldl (rowStep f st) (L, log, ends) = (L', log', ends') ∧ RowInv f st L' log' ends' ∧ L'.length ≤ L.length + Gs.length
  | [], L, log, ends, _, _, h => ⟨L, log, ends, rfl, h, by omega⟩
  | G :: Gs, L, log, ends, hB, h40, h => by
    rw [List.length_cons] at h40
    obtain ⟨L1, g1, e1, q1, q2, q3⟩ := row_step f st hf1 hst L log ends G (hB G (by simp)) (by omega) h
    obtain ⟨L2, g2, e2, r1, r2, r3⟩ := row_inv f st hf1 hst Gs L1 g1 e1 (fun G' h' => hB G' (by simp [h'])) (by omega) q2
    exact ⟨L2, g2, e2, by rw [List.foldl_cons, q1, r1], r2, by rw [List.length_cons]; omega⟩
theorem row_is (f st : Int) (hf1 : f ≤ 1099511627776) (hst : 0 ≤ st) (Gs : List (List S76)) (hB : ∀ G ∈ Gs, BytesG G) : ∃ L log ends, rowP f st (Gs.take 40) = (L, log, ends) ∧ RowInv f st L log ends ∧ L.length ≤ 40 := by
  have hl : (Gs.take 40).length ≤ 40 := by rw [List.length_take]; omega
  obtain ⟨L, log, ends, h1, h2, h3⟩ := row_inv f st hf1 hst (Gs.take 40) [] [] [] (fun G h => hB G (List.mem_of_mem_take h)) (by simpa using hl) ⟨rfl, rfl, fun j h => by simp at h, fun i h => by simp at h, fun e h => by cases h⟩
  exact ⟨L, log, ends, h1, h2, by simp at h3; omega⟩
theorem frames_len (L : List S33) (hG : ∀ e ∈ L, GoodE e) : (frames L).length ≤ L.length * 33587566 := by
  unfold frames
  refine flat_len_le frameE 33587566 L (fun e he => ?_)
  have := good_len (hG e he)
  unfold frameE
  rw [frameP_len]; omega
theorem frameP_bytes (b : List Int) (h : Bytes b) : Bytes (frameP b) :=
  bytes_app (headP_bytes _) (bytes_app (be_bytes _ _) (bytes_app h (bytes_app (be_bytes _ _) (fun x hx => by rw [List.mem_singleton.1 hx]; omega))))
theorem frames_bytes (L : List S33) (hG : ∀ e ∈ L, GoodE e) : Bytes (frames L) := by
  refine bytes_flat frameE L (fun e he => ?_)
  exact frameP_bytes _ (bodyP_bytes _ _ (hG e he).byt)
end Go.Proofs.Ytdhkhjfjjbdkgaa.Rec
namespace Go.Proofs.Ytdhkhjfjjbdkgaa.Rec
open Go.RowKit Go.Proofs.YtdhkhjfjjbdkgaaW.PrintWords Go.Proofs.YtdhkhjfjjbdkgaaW.PrintLast Go.Proofs.YtdhkhjfjjbdkgaaW.PrintMore
set_option linter.unusedVariables false
set_option linter.unusedSimpArgs false
structure GrpOk (G : List S76) : Prop where
  byt : BytesG G
  len : G.length ≤ 1048576
  arg : ∀ a ∈ G, a.f1.length ≤ 1048576 ∧ ∀ t ∈ a.f1, t.length ≤ 1048576
theorem rows_ok (f st : Int) (hf0 : 1 ≤ f) (hf1 : f ≤ 1099511627776) (hst : 0 ≤ st) (Gs : List (List S76)) (hG : ∀ G ∈ Gs, GrpOk G) : ∃ K, ∀ k, K ≤ k → (∀ j : Nat, j ≤ 40 → ∀ G ∈ Gs, larderlaw16_twin.f k (f + j) (j * st) G = some (f + j, j * st, G)) ∧
    (∀ j : Nat, j ≤ 40 → ∀ G ∈ Gs, record_Line.f k (f + j) (j * st) G = some (if mayB (f + j) (j * st) G = true then (frameP (bodyP (f + j) (j * st) G), 0) else ([], 162))) := by
  obtain ⟨K, hK⟩ := ev_all (List.range 41) (fun k j => ∀ G ∈ Gs, larderlaw16_twin.f k (f + (j : Int)) (j * st) G = some (f + j, j * st, G) ∧ record_Line.f k (f + j) (j * st) G = some (if mayB (f + j) (j * st) G = true then (frameP (bodyP (f + j) (j * st) G), 0) else ([], 162)))
    (fun j hj => ev_all Gs _ (fun G h => by
      have hj2 := List.mem_range.1 hj
      obtain ⟨K1, h1⟩ := twin_is (f + j) (j * st) G (hG G h).len (hG G h).arg
      obtain ⟨K2, h2⟩ := line_is (f + j) (j * st) G (by omega) (Int.mul_nonneg (by omega) hst) (hG G h).byt
      exact ⟨K1 + K2, fun k hk => ⟨h1 k (by omega), h2 k (by omega)⟩⟩))
  exact ⟨K, fun k hk => ⟨fun j hj G h => (hK k hk j (List.mem_range.2 (by omega)) G h).1, fun j hj G h => (hK k hk j (List.mem_range.2 (by omega)) G h).2⟩⟩
theorem read_cut (f st : Int) (hf : 1 ≤ f) (hf2 : f ≤ 1099511627776) (hst : 0 ≤ st) (L : List S33) (log ends : List Int) (h40 : L.length ≤ 40) (hI : RowInv f st L log ends) (i : Nat) (hi : i ≤ L.length) (l rest : List Int) (hl : l = frames (L.take i) ++ rest) (hs : small l) (hrest : NoRec rest) :
    Ev (fun k => larderlaw16_reads.f k l L ends (i : Int)) true := by
  refine reads_is l L ends i hi h40 hI.elen hI.good hI.ends ?_
  subst hl
  refine read_log f st hf hf2 hst (L.take i) (by rw [List.length_take]; omega) (fun e h => hI.good e (List.mem_of_mem_take h)) (fun j hj => ?_) rest hs hrest
  rw [List.getElem_take]
  exact hI.ent j (by rw [List.length_take] at hj; omega)
theorem torn_ok (fst step : Int) (A0 : Option Addr) (c0 : Nat) (Gs : List (List S76)) (p1 p2 p3 p4 : Int) (w : World) (hr : Kd.C (Kd.slice 76 k76) w A0 Gs.length Gs) (hm : Gs.length ≤ 1048576) (hstep : 0 ≤ step) (hG : ∀ G ∈ Gs, GrpOk G) :
    Calls Try.prog 9 #[.agg #[.int .i64 fst, .int .u64 step, .slice A0 Gs.length c0, .int .i64 p1, .int .i64 p2, .int .i64 p3, .int .u64 p4]] w fun e w' => e = .returned (.bool true) ∧ Below w.heap.size w w' := by
  obtain ⟨f, hf⟩ : ∃ f, f = if fst < 1 then 1 else if fst > 1099511627776 then 1 else fst := ⟨_, rfl⟩
  have hf0 : 1 ≤ f ∧ f ≤ 1099511627776 := by
    rw [hf]; split
    · omega
    · split <;> omega
  obtain ⟨st, hst⟩ : ∃ st, Int.tmod step 1099511627776 = st := ⟨_, rfl⟩
  have hst0 : 0 ≤ st := by rw [← hst]; exact Int.tmod_nonneg _ hstep
  have hst1 : st < 1099511627776 := by rw [← hst]; exact Int.tmod_lt_of_pos _ (by omega)
  obtain ⟨L, log, ends, hP, hI, h40⟩ := row_is f st hf0.2 hst0 Gs (fun G h => (hG G h).byt)
  have hfl := frames_len L hI.good
  have hlog : log.length ≤ 1343502640 := by
    rw [hI.log]
    exact Nat.le_trans hfl (Nat.le_trans (Nat.mul_le_mul_right _ h40) (by decide))
  have hby : Bytes log := by rw [hI.log]; exact frames_bytes L hI.good
  obtain ⟨n', hn1, hn2, hn3⟩ := into_is p1 ((log.length : Int) + 1) (by omega) (by omega)
  obtain ⟨n, rfl⟩ : ∃ n : Nat, n' = (n : Int) := ⟨n'.toNat, by omega⟩
  obtain ⟨z', hz1, hz2, hz3⟩ := into_is p2 4096 (by omega) (by omega)
  obtain ⟨z, rfl⟩ : ∃ z : Nat, z' = (z : Int) := ⟨z'.toNat, by omega⟩
  have hnl : n ≤ log.length := by omega
  obtain ⟨i, hi, hw, hlo, hhi⟩ := whole_is ends (n : Int) (by rw [hI.elen]; exact h40)
  have hiL : i ≤ L.length := by rw [← hI.elen]; exact hi
  have hle : (frames (L.take i)).length ≤ n := by
    by_cases h0 : i = 0
    · subst h0; simp [frames]
    · have h1 := hlo (i - 1) (by omega)
      rw [hI.ends (i - 1) (by omega), Nat.sub_add_cancel (by omega)] at h1
      omega
  have hnext : i = L.length ∨ ∃ h : i < L.length, n < (frames (L.take i)).length + (frameE L[i]).length := by
    rcases hhi with h | ⟨h, h2⟩
    · left; rw [h, hI.elen]
    · right
      have hlt : i < L.length := by rw [← hI.elen]; exact h
      refine ⟨hlt, ?_⟩
      rw [hI.ends i h, frames_take L i hlt, List.length_append] at h2
      omega
  have hnf : n ≤ (frames L).length := by rw [← hI.log]; exact hnl
  have full := read_cut f st hf0.1 hf0.2 hst0 L log ends h40 hI L.length (Nat.le_refl _) log [] (by rw [List.take_length, List.append_nil, hI.log]) ⟨hby, by omega⟩ (none_zeros 0)
  have cut : ∀ m : Nat, m ≤ 4096 → Ev (fun k => larderlaw16_reads.f k (log.take n ++ List.replicate m 0) L ends (i : Int)) true := fun m hm4 => by
    obtain ⟨rest, h1, h2⟩ := torn_rest L hI.good n i m hiL hle hnext hnf
    rw [hI.log]
    refine read_cut f st hf0.1 hf0.2 hst0 L log ends h40 hI i hiL _ rest h1 ⟨?_, ?_⟩ h2
    · rw [← hI.log]
      exact bytes_app (fun x hx => hby x (List.mem_of_mem_take hx)) (fun x hx => by rw [List.eq_of_mem_replicate hx]; omega)
    · rw [← hI.log, List.length_append, List.length_take, List.length_replicate]; omega
  obtain ⟨K1, h1⟩ := rows_ok f st hf0.1 hf0.2 hst0 Gs hG
  obtain ⟨K2, h2⟩ := full
  obtain ⟨K3, h3⟩ := hw
  obtain ⟨K4, h4⟩ := cut 0 (by omega)
  obtain ⟨K5, h5⟩ := cut z (by omega)
  have hk : ∃ k, K1 ≤ k ∧ K2 ≤ k ∧ K3 ≤ k ∧ K4 ≤ k ∧ K5 ≤ k := ⟨K1 + K2 + K3 + K4 + K5, by omega, by omega, by omega, by omega, by omega⟩
  obtain ⟨k, q1, q2, q3, q4, q5⟩ := hk
  have h4' := h4 k q4
  rw [List.replicate_zero, List.append_nil] at h4'
  exact torn_walk k fst step A0 c0 Gs p1 p2 p3 p4 f st w hr hm hf hst hst0 hst1 (h1 k q1).1 (h1 k q1).2 L log ends hP hlog n z (i : Int) hnl (by omega) (h2 k q2) hn1 (h3 k q3) h4' hz1 (h5 k q5)
end Go.Proofs.Ytdhkhjfjjbdkgaa.Rec
namespace Go.Proofs.Ytdhkhjfjjbdkgaa.Rec
open Go.RowKit Go.Proofs.YtdhkhjfjjbdkgaaW.PrintWords
set_option linter.unusedVariables false
abbrev CutT := Int × Int × List (List S76) × Int × Int × Int × Int
def kGs : Kd (List (List S76)) := Kd.slice 31 (Kd.slice 76 k76)
def kCut : Kd CutT := Kd.pair (Kd.int .i64) (Kd.pair (Kd.int .u64) (Kd.pair kGs (Kd.pair (Kd.int .i64) (Kd.pair (Kd.int .i64) (Kd.pair (Kd.int .i64) (Kd.int .u64))))))
def bGs (l : List (List S76)) : Nat := (l.map bG).sum + 1
theorem opens_Gs : Opens kGs 57 (fun l => ∀ G ∈ l, ∀ a ∈ G, g76 a) bGs := opens_slice Try.underlying57 (by kernel_rfl) opens_G
def wI (n : Int) : Prop := (Lit.int .i64 n).wf = true
def wU (n : Int) : Prop := (Lit.int .u64 n).wf = true
def wGs (l : List (List S76)) : Prop := ∀ G ∈ l, ∀ a ∈ G, g76 a
set_option maxRecDepth 100000 in
theorem opens_59 : Opens (Kd.iso kCut id) 59 (fun x => wI x.1 ∧ wU x.2.1 ∧ wGs x.2.2.1 ∧ wI x.2.2.2.1 ∧ wI x.2.2.2.2.1 ∧ wI x.2.2.2.2.2.1 ∧ wU x.2.2.2.2.2.2) (fun x => (1 + (1 + (bGs x.2.2.1 + (1 + (1 + (1 + 1)))))) + 1) := by
  refine opens_struct (d := kCut) (G := fun x => wI x.1 ∧ wU x.2.1 ∧ wGs x.2.2.1 ∧ wI x.2.2.2.1 ∧ wI x.2.2.2.2.1 ∧ wI x.2.2.2.2.2.1 ∧ wU x.2.2.2.2.2.2) (b := fun x => 1 + (1 + (bGs x.2.2.1 + (1 + (1 + (1 + 1)))))) Try.underlying59 (by kernel_rfl) ?_ id id (fun _ => rfl)
  refine opensAt_cons (d := Kd.int .i64) (G := wI) (b := fun _ => 1) (G2 := fun (x : Int × List (List S76) × Int × Int × Int × Int) => wU x.1 ∧ wGs x.2.1 ∧ wI x.2.2.1 ∧ wI x.2.2.2.1 ∧ wI x.2.2.2.2.1 ∧ wU x.2.2.2.2.2) (b2 := fun (x : Int × List (List S76) × Int × Int × Int × Int) => 1 + (bGs x.2.1 + (1 + (1 + (1 + 1))))) (off := 0) ?_ ?_ ?_
    (opensAt_cons (d := Kd.int .u64) (G := wU) (b := fun _ => 1) (G2 := fun (x : List (List S76) × Int × Int × Int × Int) => wGs x.1 ∧ wI x.2.1 ∧ wI x.2.2.1 ∧ wI x.2.2.2.1 ∧ wU x.2.2.2.2) (b2 := fun (x : List (List S76) × Int × Int × Int × Int) => bGs x.1 + (1 + (1 + (1 + 1)))) ?_ ?_ ?_
    (opensAt_cons (d := kGs) (G := wGs) (b := bGs) (G2 := fun (x : Int × Int × Int × Int) => wI x.1 ∧ wI x.2.1 ∧ wI x.2.2.1 ∧ wU x.2.2.2) (b2 := fun _ => 1 + (1 + (1 + 1))) ?_ ?_ ?_
    (opensAt_cons (d := Kd.int .i64) (G := wI) (b := fun _ => 1) (G2 := fun (x : Int × Int × Int) => wI x.1 ∧ wI x.2.1 ∧ wU x.2.2) (b2 := fun _ => 1 + (1 + 1)) ?_ ?_ ?_
    (opensAt_cons (d := Kd.int .i64) (G := wI) (b := fun _ => 1) (G2 := fun (x : Int × Int) => wI x.1 ∧ wU x.2) (b2 := fun _ => 1 + 1) ?_ ?_ ?_
    (opensAt_cons (d := Kd.int .i64) (G := wI) (b := fun _ => 1) (G2 := wU) (b2 := fun _ => 1) ?_ ?_ ?_ (opensAt_last ?_ ?_ ?_))))))
  · rfl
  · kernel_rfl
  · exact opens_int (by kernel_rfl)
  · rfl
  · kernel_rfl
  · exact opens_int (by kernel_rfl)
  · rfl
  · kernel_rfl
  · exact opens_Gs
  · rfl
  · kernel_rfl
  · exact opens_int Try.underlying3
  · rfl
  · kernel_rfl
  · exact opens_int Try.underlying3
  · rfl
  · kernel_rfl
  · exact opens_int Try.underlying3
  · rfl
  · kernel_rfl
  · exact opens_int (by kernel_rfl)
theorem cut_K {w : World} {x : CutT} {cs : List Value} (h : (Kd.iso kCut id).K w x cs) : ∃ A c, cs = [.int .i64 x.1, .int .u64 x.2.1, .slice A x.2.2.1.length c, .int .i64 x.2.2.2.1, .int .i64 x.2.2.2.2.1, .int .i64 x.2.2.2.2.2.1, .int .u64 x.2.2.2.2.2.2] ∧ x.2.2.1.length ≤ c ∧ Kd.C (Kd.slice 76 k76) w A x.2.2.1.length x.2.2.1 := by
  obtain ⟨_, _, rfl, rfl, ⟨_, _, rfl, rfl, ⟨_, _, rfl, ⟨A, c, rfl, h1, h2⟩, ⟨_, _, rfl, rfl, ⟨_, _, rfl, rfl, ⟨_, _, rfl, rfl, h3⟩⟩⟩⟩⟩⟩ := h
  obtain rfl := h3
  exact ⟨A, c, rfl, h1, h2⟩
theorem bGs_mem {l : List (List S76)} {G : List S76} (h : G ∈ l) : bG G < bGs l := by
  have := sum_mem bG l G h
  unfold bGs; omega
theorem bGs_len (l : List (List S76)) : l.length < bGs l := by
  have := len_sum bG l (fun t _ => by unfold bG; omega)
  unfold bGs; omega
theorem grp_ok {G : List S76} (hg : ∀ a ∈ G, g76 a) (hb : bG G ≤ 1048576) : GrpOk G where
  byt := fun a ha t ht n hn => wf_b ((hg a ha).2 t ht n hn)
  len := by have := bG_len G; omega
  arg := fun a ha => ⟨by have := sum_mem (fun a : S76 => a.f1.length) G a ha; have := bG_sum G; omega, fun t ht => by have := bG_txt ha ht; omega⟩
end Go.Proofs.Ytdhkhjfjjbdkgaa.Rec
