/- RecordBurst: the walk's premises hold of every row that came in. -/
import Derived.Test.YtdhkhjfjjbdkgaaTurn
import Derived.Test.YtdhkhjfjjbdkgaaBurstw
namespace Go.Proofs.Ytdhkhjfjjbdkgaa.Rec
open Go.RowKit Go.Proofs.YtdhkhjfjjbdkgaaW.PrintWords Go.Proofs.YtdhkhjfjjbdkgaaW.PrintLast Go.Proofs.YtdhkhjfjjbdkgaaW.PrintMore
set_option linter.unusedVariables false
set_option linter.unusedSimpArgs false
theorem Tur.near {log : List Int} {at_ : Nat} {c : List Int} {fb : Int} (h : Tur log at_ 64 c fb) : Near c log :=
  ⟨h.len, (at_ : Int), fun i hi => by
    by_cases e : bitAt c i = bitAt log i
    · exact e
    · have := h.win i e; omega⟩
theorem bytes_take {l : List Int} (h : Bytes l) (n : Nat) : Bytes (l.take n) := fun x hx => h x (List.mem_of_mem_take hx)
theorem bytes_drop {l : List Int} (h : Bytes l) (n : Nat) : Bytes (l.drop n) := fun x hx => h x (List.mem_of_mem_drop hx)
theorem burst_rest (L : List S33) (hG : ∀ e ∈ L, GoodE e) (hB : Bytes (frames L)) (at_ : Nat) (c : List Int) (fb : Int) (hT : Tur (frames L) at_ 64 c fb) (q i : Nat) (hq : fb = (q : Int)) (hi : i < L.length) (h1 : (frames (L.take i)).length ≤ q) (h2 : q < (frames (L.take i)).length + (frameE L[i]).length) :
    ∃ rest, c = frames (L.take i) ++ rest ∧ NoRec rest := by
  rcases hT.fst with ⟨h, _⟩ | ⟨p, hp1, hp2, hp3, hp4⟩
  · omega
  obtain rfl : q = p / 8 := by omega
  have hsp : frames L = frames (L.take i) ++ (frameE L[i] ++ frames (L.drop (i + 1))) := by rw [frames_split L i, frames_drop L i hi]
  have hlen := hT.len
  have hc : c = c.take (frames (L.take i)).length ++ c.drop (frames (L.take i)).length := (List.take_append_drop _ _).symm
  have hll : (frames L).length = (frames (L.take i)).length + ((frameE L[i]).length + (frames (L.drop (i + 1))).length) := by
    conv => lhs; rw [hsp]
    rw [List.length_append, List.length_append]
  have htl : (c.take (frames (L.take i)).length).length = (frames (L.take i)).length := by rw [List.length_take]; omega
  have hB1 : Bytes (frames (L.take i)) := by
    rw [hsp] at hB
    exact fun x hx => hB x (List.mem_append_left _ hx)
  have heq : c.take (frames (L.take i)).length = frames (L.take i) := by
    refine bits_eq htl (bytes_take hT.byt _) hB1 (fun j => ?_)
    by_cases hj : j < 8 * (frames (L.take i)).length
    · have e : bitAt c j = bitAt (frames L) j := by
        by_cases e : bitAt c j = bitAt (frames L) j
        · exact e
        · have := hp4 j e; omega
      rw [hc, bitAt_left _ _ _ (by omega), hsp, bitAt_left _ _ _ hj] at e
      exact e
    · rw [bitAt_out _ _ (by omega), bitAt_out _ _ (by omega)]
  rw [heq] at hc
  refine ⟨_, hc, ?_⟩
  have hN := hT.near
  rw [hsp] at hN
  rw [hc] at hN
  have hN2 := hN.right rfl
  have hg := good_len (hG L[i] (List.getElem_mem hi))
  refine burst_none (bodyP L[i].f0 L[i].f1 L[i].f2) (frames (L.drop (i + 1))) _ (by omega) (bodyP_bytes _ _ (hG L[i] (List.getElem_mem hi)).byt) (bytes_drop hT.byt _) hN2 ⟨p - 8 * (frames (L.take i)).length, ?_, ?_⟩
  · show (p - 8 * (frames (L.take i)).length) / 8 < (frameE L[i]).length
    omega
  · have e1 := bitAt_right (frames (L.take i)) (c.drop (frames (L.take i)).length) (p - 8 * (frames (L.take i)).length)
    have e2 := bitAt_right (frames (L.take i)) (frameE L[i] ++ frames (L.drop (i + 1))) (p - 8 * (frames (L.take i)).length)
    rw [show p - 8 * (frames (L.take i)).length + 8 * (frames (L.take i)).length = p by omega] at e1 e2
    rw [← hc] at e1
    rw [← hsp] at e2
    rw [← e1]
    intro h
    exact hp3 (h.trans e2.symm)
theorem burst_ok (fst step : Int) (A0 : Option Addr) (c0 : Nat) (Gs : List (List S76)) (p1 p2 p3 p4 : Int) (w : World) (hr : Kd.C (Kd.slice 76 k76) w A0 Gs.length Gs) (hm : Gs.length ≤ 1048576) (hstep : 0 ≤ step) (hG : ∀ G ∈ Gs, GrpOk G) :
    Calls Try.prog 10 #[.agg #[.int .i64 fst, .int .u64 step, .slice A0 Gs.length c0, .int .i64 p1, .int .i64 p2, .int .i64 p3, .int .u64 p4]] w fun e w' => e = .returned (.bool true) ∧ Below w.heap.size w w' := by
  obtain ⟨f, hf⟩ : ∃ f, f = if fst < 1 then 1 else if fst > 1099511627776 then 1 else fst := ⟨_, rfl⟩
  have hf0 : 1 ≤ f ∧ f ≤ 1099511627776 := by
    rw [hf]; split
    · omega
    · split <;> omega
  obtain ⟨st, hst⟩ : ∃ st, Int.tmod step 1099511627776 = st := ⟨_, rfl⟩
  have hst0 : 0 ≤ st := by rw [← hst]; exact Int.tmod_nonneg _ hstep
  have hst1 : st < 1099511627776 := by rw [← hst]; exact Int.tmod_lt_of_pos _ (by omega)
  obtain ⟨L, log, ends, hP, hI, h40⟩ := row_is f st hf0.2 hst0 Gs (fun G h => (hG G h).byt)
  have hfl := frames_len L hI.good
  have hlog : log.length ≤ 1343502640 := by
    rw [hI.log]
    exact Nat.le_trans hfl (Nat.le_trans (Nat.mul_le_mul_right _ h40) (by decide))
  have hby : Bytes log := by rw [hI.log]; exact frames_bytes L hI.good
  obtain ⟨a', ha1, ha2, ha3⟩ := into_is p3 (8 * (log.length : Int) + 1) (by omega) (by omega)
  obtain ⟨a, rfl⟩ : ∃ a : Nat, a' = (a : Int) := ⟨a'.toNat, by omega⟩
  have full := read_cut f st hf0.1 hf0.2 hst0 L log ends h40 hI L.length (Nat.le_refl _) log [] (by rw [List.take_length, List.append_nil, hI.log]) ⟨hby, by omega⟩ (none_zeros 0)
  have hcp : larderref0_Copy.f log = some log := by unfold larderref0_Copy.f; rw [if_pos (by omega)]
  obtain ⟨c, fb, hT1, hT⟩ := turned_is log hlog hby hcp a (by omega) p4
  have hclen := hT.len
  have cut : ∃ P : Prop, P ∧ (P → (fb < 0 ∧ Ev (fun k => larderlaw16_reads.f k c L ends L.length) true) ∨ (¬ fb < 0 ∧ ∃ kk : Int, Ev (fun k => larderlaw16_whole.f k ends fb) kk ∧ Ev (fun k => larderlaw16_reads.f k c L ends kk) true)) := by
    refine ⟨True, trivial, fun _ => ?_⟩
    rcases hT.fst with ⟨h1, h2⟩ | ⟨p, h1, h2, h3, h4⟩
    · exact .inl ⟨by omega, by rw [h2]; exact full⟩
    · right
      refine ⟨by omega, ?_⟩
      obtain ⟨i, hi, hw, hlo, hhi⟩ := whole_is ends fb (by rw [hI.elen]; exact h40)
      have hiL : i ≤ L.length := by rw [← hI.elen]; exact hi
      have hle : (frames (L.take i)).length ≤ p / 8 := by
        by_cases h0 : i = 0
        · subst h0; simp [frames]
        · have h1 := hlo (i - 1) (by omega)
          rw [hI.ends (i - 1) (by omega), Nat.sub_add_cancel (by omega)] at h1
          omega
      have hlt : i < L.length := by
        by_cases e : i < L.length
        · exact e
        · obtain rfl : i = L.length := by omega
          rw [List.take_length, ← hI.log] at hle
          omega
      have hnext : p / 8 < (frames (L.take i)).length + (frameE L[i]).length := by
        rcases hhi with h | ⟨h, h5⟩
        · rw [hI.elen] at h; omega
        · rw [hI.ends i h, frames_take L i hlt, List.length_append] at h5
          omega
      refine ⟨(i : Int), hw, ?_⟩
      have hT' := hT
      rw [hI.log] at hT'
      obtain ⟨rest, r1, r2⟩ := burst_rest L hI.good (by rw [← hI.log]; exact hby) a c fb hT' (p / 8) i h2 hlt hle hnext
      exact read_cut f st hf0.1 hf0.2 hst0 L log ends h40 hI i hiL c rest r1 ⟨hT.byt, by omega⟩ r2
  obtain ⟨P, hP0, hcut⟩ := cut
  have hcut := hcut hP0
  obtain ⟨K1, h1⟩ := rows_ok f st hf0.1 hf0.2 hst0 Gs hG
  obtain ⟨K2, h2⟩ := full
  obtain ⟨K3, h3⟩ := hT1
  have h4 : ∃ K, ∀ k, K ≤ k → (fb < 0 ∧ larderlaw16_reads.f k c L ends L.length = some true) ∨ (¬ fb < 0 ∧ ∃ kk, larderlaw16_whole.f k ends fb = some kk ∧ larderlaw16_reads.f k c L ends kk = some true) := by
    rcases hcut with ⟨hn, K, hK⟩ | ⟨hn, kk, ⟨K, hK⟩, ⟨K', hK'⟩⟩
    · exact ⟨K, fun k hk => .inl ⟨hn, hK k hk⟩⟩
    · exact ⟨K + K', fun k hk => .inr ⟨hn, kk, hK k (by omega), hK' k (by omega)⟩⟩
  obtain ⟨K4, h4⟩ := h4
  have hk : ∃ k, K1 ≤ k ∧ K2 ≤ k ∧ K3 ≤ k ∧ K4 ≤ k := ⟨K1 + K2 + K3 + K4, by omega, by omega, by omega, by omega⟩
  obtain ⟨k, q1, q2, q3, q4⟩ := hk
  exact burst_walk k fst step A0 c0 Gs p1 p2 p3 p4 f st w hr hm hf hst hst0 hst1 (h1 k q1).1 (h1 k q1).2 L log ends hP hlog (a : Int) fb c (h2 k q2) ha1 (h3 k q3) (h4 k q4)
end Go.Proofs.Ytdhkhjfjjbdkgaa.Rec
