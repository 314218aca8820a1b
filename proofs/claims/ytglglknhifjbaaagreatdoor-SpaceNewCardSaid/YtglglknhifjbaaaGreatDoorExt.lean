import Derived.Test.YtglglknhifjbaaaGreatDoorArw
import Derived.StillTailTactics
namespace Go.Proofs.YtglglknhifjbaaaGreatDoor.Sp
open Go.RowKit Go.Proofs.YtglglknhifjbaaaGreatDoorW.PrintWords Go.Proofs.YtglglknhifjbaaaGreatDoorW.PrintLast Go.Proofs.YtglglknhifjbaaaGreatDoorW.PrintMore
set_option linter.unusedVariables false
set_option linter.unusedSimpArgs false
theorem quiet_left {P : Program} {f : FuncId} {args : Array Value} {w : World} {n : Nat} {v : Value}
    (h : Calls P f args (w.drewN n) fun e w' => e = .returned v ∧ w.drewN n = w') : Calls P f args (w.drewN n) fun e w'' => e = .returned v ∧ ∃ m, w'' = w.drewN m :=
  h.mono fun _ _ ⟨he, hm⟩ => ⟨he, n, hm.symm⟩
theorem quiet_add_left {P : Program} {f : FuncId} {args : Array Value} {w : World} {a n : Nat} {v : Value}
    (h : Calls P f args (w.drewN (a + n)) fun e w' => e = .returned v ∧ w.drewN (a + n) = w') : Calls P f args (w.drewN (a + n)) fun e w'' => e = .returned v ∧ ∃ m, w'' = w.drewN (a + m) :=
  h.mono fun _ _ ⟨he, hm⟩ => ⟨he, n, hm.symm⟩
def Of (own : Own) (a b : Nat) : Prop := own b = 3 * a + 10 ∨ own b = 3 * a + 11 ∨ own b = 3 * a + 12
structure ArStep (w : World) (own : Own) (w' : World) (own' : Own) (a : Nat) : Prop where
  fr : Fr (Of own a) w w'
  ow : Ow own own' w
  nw : ∀ b, w.heap.size ≤ b → own' b = 0 ∨ Of own' a b
  top : ∀ b, w'.heap.size ≤ b → own' b = 0
section
variable {P : Program} {ops : Array Oper} {rest : List Oper} {o : Oper} {a : Act} {Q : Exit → Act → World → Prop}
theorem slice_own {v : Value} {w : World} {n : Nat} {e : TypeId} {xs : List Value} (h : w.ownsRow 0 e 1 v n xs) (hn : 0 < n) : ∃ g cap, v = .slice (some ⟨g, 0, none⟩) n cap ∧ g < w.heap.size ∧ Row w g cap e xs := by
  obtain ⟨g, cap, rfl, _, hlt⟩ := h.form hn
  exact ⟨g, cap, rfl, hlt, Row.mk h⟩
theorem wpList_zeros (w : World) (hgd : o.guard = none) (s x : Operand) (t ti e : TypeId) (z : Value) (bytes : Nat)
    (ho : o.op = .call { callee := .builtin .append, args := #[s, x], argTypes := #[t, ti] })
    (ht : P.underlying t = some (.slice e)) {k : IntKind} (hti : P.underlying ti = some (.int k)) (hinfo : (P.info? e).map (fun i => (i.zero, i.size, i.bytes)) = some (some z, 1, bytes)) (hz : z.cells = #[z]) (hz1 : z.oneCell' = true) (hb0 : 0 < bytes)
    (g cap n m : Nat) (xs : List Value) {kx : IntKind} (hn : n = xs.length) (hn0 : 0 < n + m) (hs : a.eval s = .slice (some ⟨g, 0, none⟩) n cap) (hx : a.eval x = .int kx (m : Int)) (hr : Row w g cap e xs) (hl : (n + m) * bytes ≤ 140737488355328)
    (h : ∀ g' cap' w1, Row w1 g' cap' e (xs ++ List.replicate m z) → w.grownBy w1 (some g) → (g' = g ∨ g' = w.heap.size) → wpList P ops Q rest (a.put o.dst (.slice (some ⟨g', 0, none⟩) (n + m) cap')) w1) :
    wpList P ops Q (o :: rest) a w := by
  subst hn
  obtain ⟨i0, hi, hzz⟩ := Option.map_eq_some_iff.1 hinfo
  simp only [Prod.mk.injEq] at hzz
  obtain ⟨hz0, hz1', hz2⟩ := hzz
  have hrep : (Builtin.zeroCells z.cells m).toList = List.replicate m z := by
    rw [hz]
    have : ∀ m, (Builtin.zeroCells #[z] m).toList = List.replicate m z := fun m => by
      simp [Builtin.zeroCells, Nat.mod_one, List.map_const']
    exact this m
  obtain ⟨v1, w1, hrun, h2, hg, hat⟩ := run_append_zeros (P := P) w 0 t ti o.type e i0 z 1 bytes ht hti hi hz0 hz1' hz2 (by rw [hz]; rfl) (by decide) hb0 _ xs.length xs hr kx m (fun u hu => by rw [hrep] at hu; rw [List.eq_of_mem_replicate hu]; exact hz1) hl (Nat.zero_le _)
  rw [hrep] at h2
  obtain ⟨g', cap', rfl, hlt, hr'⟩ := slice_own h2 hn0
  refine wpList_plain hgd fun K hK => ?_
  unfold Oper.wp execOp
  simp only [ho, resolve, invoke, builtin, Sem.run_bind, Sem.run_pure, Result.andThen_ok, List.map_toArray, List.map_cons, List.map_nil, hs, hx, hrun]
  refine hK _ _ (h g' cap' w1 hr' hg ?_)
  rcases hat with hat | hat
  · left; simpa [Value.ownBlock] using hat
  · right; simpa [Value.ownBlock] using hat
theorem wpList_push (w : World) (hgd : o.guard = none) (s x : Operand) (t e : TypeId) (z : Value) (bytes : Nat)
    (ho : o.op = .call { callee := .builtin .append, args := #[s, x], argTypes := #[t, t] })
    (ht : P.underlying t = some (.slice e)) (hinfo : (P.info? e).map (fun i => (i.zero, i.size, i.bytes)) = some (some z, 1, bytes)) (hz : z.cells.size = 1)
    (g cap n : Nat) (xs : List Value) (u : Value) (h1 : u.oneCell' = true) (hn : n = xs.length) (hs : a.eval s = .slice (some ⟨g, 0, none⟩) n cap) (hx : a.eval x = .slice (some ⟨w.heap.size, 0, none⟩) 1 1) (hr : Row w g cap e xs) (hl : (n + 1) * bytes ≤ 140737488355328) (h63 : n + 1 ≤ maxLen)
    (h : ∀ g' cap' w1, Row w1 g' cap' e (xs ++ [u]) → w.grownBy w1 (some g) → (g' = g ∨ w.heap.size ≤ g') → wpList P ops Q rest (a.put o.dst (.slice (some ⟨g', 0, none⟩) (n + 1) cap')) w1) :
    wpList P ops Q (o :: rest) a (w.alloc (.cells #[u] e)) := by
  subst hn
  obtain ⟨i0, hi, hzz⟩ := Option.map_eq_some_iff.1 hinfo
  simp only [Prod.mk.injEq] at hzz
  obtain ⟨hz0, hz1', hz2⟩ := hzz
  have hr2 : Row (w.alloc (.cells #[u] e)) g cap e xs := hr.fr ((Fr.refl (fun _ => False) w).alloc _) (fun h => h)
  refine wpList_append_lies (w.alloc (.cells #[u] e)) hgd s x t ho 0 e i0 z 1 bytes ht hi hz0 hz1' hz2 hz (by decide) _ xs.length xs hs hr2 ⟨w.heap.size, 0, none⟩ 1 1 [u] hx (by rfl) (fun j v hj => ?_) (fun v hv => by rw [List.mem_singleton.1 hv]; exact h1) (by decide) h63 hl (Nat.zero_le _) (w.heap.size + 1) (by simp) ?_
  · cases j with
    | zero =>
      injection hj with hj
      subst hj
      have e1 : (w.alloc (.cells #[u] e)).heap[w.heap.size]? = some (.cells #[u] e (0, 0)) := by rw [alloc_at, if_pos rfl]
      show (w.alloc (.cells #[u] e)).cell? ((⟨w.heap.size, 0, none⟩ : Addr).add 0) = some u
      unfold World.cell? Addr.add
      simp only [if_true]
      rw [e1]; rfl
    | succ j => simp at hj
  · intro g' cap' w1 hown hgrow hat hlt
    refine h g' cap' w1 (by have := Row.mk hown; exact this) ?_ ?_
    · have := Fr.grown ((Fr.refl (fun b => b = g) w).alloc (.cells #[u] e)) hgrow (fun k hk => .inl (by injection hk with hk; exact hk.symm))
      exact ⟨this.os, this.tape, this.output, this.size, fun i hi hne => this.block i hi (fun e => hne (by rw [e]))⟩
    · rcases hat with hat | hat
      · left; injection hat with hat; exact hat.symm
      · right; omega
end
structure Rw (w : World) (p size gw cw gf cf : Nat) (ws bs : List Nat) : Prop where
  hp : w.heap[p]? = some (.cells #[.int .i64 (size : Int), .slice (some ⟨gw, 0, none⟩) ws.length cw, .slice (some ⟨gf, 0, none⟩) bs.length cf] 145 (0, 0))
  rw : Row w gw cw 22 (ws.map wv)
  rf : Row w gf cf 22 (bs.map wv)
  ne : gw ≠ gf
theorem row_ne {w : World} {g p cap : Nat} {cs : Array Value} {tp e : TypeId} {xs : List Value} (hp : w.heap[p]? = some (.cells cs tp (0, 0))) (hr : Row w g cap e xs) (hne : tp ≠ e) : g ≠ p := by
  rintro rfl
  obtain ⟨cur, hh, _⟩ := hr.open
  rw [hp] at hh
  injection hh with hh
  injection hh with _ h2 _
  exact hne h2
section
variable {w : World} {p size gw cw gf cf : Nat} {ws bs : List Nat}
theorem Rw.pw (h : Rw w p size gw cw gf cf ws bs) : gw ≠ p := row_ne h.hp h.rw (by decide)
theorem Rw.pf (h : Rw w p size gw cw gf cf ws bs) : gf ≠ p := row_ne h.hp h.rf (by decide)
theorem Rw.c0 (h : Rw w p size gw cw gf cf ws bs) : w.cell? ⟨p, 0, none⟩ = some (.int .i64 (size : Int)) := by simp [World.cell?, h.hp]
theorem Rw.c1 (h : Rw w p size gw cw gf cf ws bs) : w.cell? ⟨p, 1, none⟩ = some (.slice (some ⟨gw, 0, none⟩) ws.length cw) := by simp [World.cell?, h.hp]
theorem Rw.c2 (h : Rw w p size gw cw gf cf ws bs) : w.cell? ⟨p, 2, none⟩ = some (.slice (some ⟨gf, 0, none⟩) bs.length cf) := by simp [World.cell?, h.hp]
theorem Rw.fp (h : Rw w p size gw cw gf cf ws bs) (i : Nat) : w.frozen? ⟨p, i, none⟩ = false := by simp [World.frozen?, h.hp]
theorem Rw.xf (h : Rw w p size gw cw gf cf ws bs) (i : Nat) (hi : i < bs.length) : w.cell? ⟨gf, i, none⟩ = some (.int .u64 (bs[i] : Int)) := by
  have := h.rf.cell i (by simpa using hi) (by rw [List.getElem_map]; rfl)
  rwa [List.getElem_map] at this
theorem Rw.lw (h : Rw w p size gw cw gf cf ws bs) : ws.length ≤ cw := by obtain ⟨cur, _, hc, _⟩ := h.rw.open; simpa using hc
theorem Rw.lf (h : Rw w p size gw cw gf cf ws bs) : bs.length ≤ cf := by obtain ⟨cur, _, hc, _⟩ := h.rf.open; simpa using hc
theorem setCell_at (w : World) (g i : Nat) (u : Value) (b : Nat) : (w.setCell ⟨g, i, none⟩ u).heap[b]? = if b = g then (match w.heap[b]? with | some (.cells c t f) => some (.cells (c.setIfInBounds i u) t f) | o => o) else w.heap[b]? := by
  have e : (w.setCell ⟨g, i, none⟩ u).heap = w.heap.modify g (fun o => match o with | .cells c t f => .cells (c.setIfInBounds i u) t f | o => o) := rfl
  rw [e, Array.getElem?_modify]
  by_cases h : b = g
  · subst h
    rw [if_pos rfl, if_pos rfl]
    cases hb : w.heap[b]? with
    | none => rfl
    | some o => cases o <;> rfl
  · rw [if_neg (fun h' => h h'.symm), if_neg h]
theorem Rw.putw {w1 : World} (h : Rw w p size gw cw gf cf ws bs) (hg : w.grownBy w1 (some gw)) {g1 c1 m : Nat} {ws1 : List Nat} (hr : Row w1 g1 c1 22 (ws1.map wv)) (hat : g1 = gw ∨ g1 = w.heap.size) (hm : m = ws1.length) :
    Rw (w1.setCell ⟨p, 1, none⟩ (.slice (some ⟨g1, 0, none⟩) m c1)) p size g1 c1 gf cf ws1 bs := by
  subst hm
  have hp1 : w1.heap[p]? = w.heap[p]? := hg.block p (blk_lt h.hp) (fun e => by injection e with e; exact h.pw e.symm)
  have hne : g1 ≠ p := by
    rcases hat with rfl | rfl
    · exact h.pw
    · have := blk_lt h.hp; omega
  refine ⟨?_, ?_, ?_, ?_⟩
  · rw [setCell_at, if_pos rfl, hp1, h.hp]; rfl
  · exact hr.same (by rw [setCell_at, if_neg hne])
  · refine h.rf.same ?_
    rw [setCell_at, if_neg h.pf]
    exact hg.block gf h.rf.lt (fun e => by injection e with e; exact h.ne e.symm)
  · rcases hat with rfl | rfl
    · exact h.ne
    · have := h.rf.lt; omega
theorem Rw.putf {w1 : World} (h : Rw w p size gw cw gf cf ws bs) (hg : w.grownBy w1 (some gf)) {g1 c1 m : Nat} {bs1 : List Nat} (hr : Row w1 g1 c1 22 (bs1.map wv)) (hat : g1 = gf ∨ w.heap.size ≤ g1) (hm : m = bs1.length) :
    Rw (w1.setCell ⟨p, 2, none⟩ (.slice (some ⟨g1, 0, none⟩) m c1)) p size gw cw g1 c1 ws bs1 := by
  subst hm
  have hp1 : w1.heap[p]? = w.heap[p]? := hg.block p (blk_lt h.hp) (fun e => by injection e with e; exact h.pf e.symm)
  have hne : g1 ≠ p := by
    rcases hat with rfl | hat
    · exact h.pf
    · have := blk_lt h.hp; omega
  refine ⟨?_, ?_, ?_, ?_⟩
  · rw [setCell_at, if_pos rfl, hp1, h.hp]; rfl
  · refine h.rw.same ?_
    rw [setCell_at, if_neg h.pw]
    exact hg.block gw h.rw.lt (fun e => by injection e with e; exact h.ne e)
  · exact hr.same (by rw [setCell_at, if_neg hne])
  · rcases hat with rfl | hat
    · exact h.ne
    · have := h.rw.lt; omega
theorem Rw.setw (h : Rw w p size gw cw gf cf ws bs) (i v : Nat) : Rw (w.setCell ⟨gw, i, none⟩ (.int .u64 (v : Int))) p size gw cw gf cf (ws.set i v) bs := by
  refine ⟨?_, ?_, ?_, h.ne⟩
  · rw [setCell_at, if_neg (fun e => h.pw e.symm), h.hp, List.length_set]
  · have := h.rw.set i (wv v)
    rw [List.map_set]; exact this
  · exact h.rf.same (by rw [setCell_at, if_neg (fun e => h.ne e.symm)])
theorem Rw.setf (h : Rw w p size gw cw gf cf ws bs) (i v : Nat) : Rw (w.setCell ⟨gf, i, none⟩ (.int .u64 (v : Int))) p size gw cw gf cf ws (bs.set i v) := by
  refine ⟨?_, ?_, ?_, h.ne⟩
  · rw [setCell_at, if_neg (fun e => h.pf e.symm), h.hp, List.length_set]
  · exact h.rw.same (by rw [setCell_at, if_neg h.ne])
  · have := h.rf.set i (wv v)
    rw [List.map_set]; exact this
theorem Rw.same {w1 : World} (h : Rw w p size gw cw gf cf ws bs) (hh : w1.heap = w.heap) : Rw w1 p size gw cw gf cf ws bs :=
  ⟨by rw [hh]; exact h.hp, h.rw.same (by rw [hh]), h.rf.same (by rw [hh]), h.ne⟩
end
def ExtPost (w : World) (own : Own) (a p size : Nat) (l : List AO) (head n : Nat) (e : Ending) (w' : World) : Prop :=
  ∃ own', e = .returned (.int .i64 (usedOf l : Int)) ∧ IsAr w' own' a p size (l ++ [(head, List.replicate (n - 1) 0)]) ∧ ArStep w own w' own' a
structure ExSt (w wr : World) (p size gw0 gf0 gw cw gf cf : Nat) (ws bs : List Nat) : Prop where
  rw : Rw wr p size gw cw gf cf ws bs
  fr : Fr (fun b => b = p ∨ b = gw0 ∨ b = gf0) w wr
  w1 : gw = gw0 ∨ w.heap.size ≤ gw
  f1 : gf = gf0 ∨ w.heap.size ≤ gf
theorem ext_one {w w1 : World} {p size gw cw gf cf : Nat} {l : List AO} {bs : List Nat} {n g1 c1 : Nat} (h : Rw w p size gw cw gf cf (blockWords l) bs) (hr : Row w1 g1 c1 22 ((blockWords l).map wv ++ List.replicate n (.int .u64 0))) (hg : w.grownBy w1 (some gw)) (hat : g1 = gw ∨ g1 = w.heap.size) (head : Nat) (hn : 1 ≤ n) :
    w1.cell? ⟨p, 1, none⟩ = some (.slice (some ⟨gw, 0, none⟩) (usedOf l) cw) ∧ w1.frozen? ⟨p, 1, none⟩ = false ∧ w1.cell? ⟨g1, usedOf l, none⟩ = some (.int .u64 0) ∧ w1.frozen? ⟨g1, usedOf l, none⟩ = false ∧ g1 ≠ p ∧ usedOf l + n ≤ c1 ∧
    Hid (ExSt w ((w1.setCell ⟨p, 1, none⟩ (.slice (some ⟨g1, 0, none⟩) (usedOf l + n) c1)).setCell ⟨g1, usedOf l, none⟩ (.int .u64 (head : Int))) p size gw gf g1 c1 gf cf ((blockWords l ++ List.replicate n 0).set (usedOf l) head) bs) := by
  have hrr : Row w1 g1 c1 22 ((blockWords l ++ List.replicate n 0).map wv) := by
    rw [List.map_append, List.map_replicate]; exact hr
  have hlen : usedOf l + n = (blockWords l ++ List.replicate n 0).length := by rw [List.length_append, block_len, List.length_replicate]
  have hR := h.putw hg hrr hat hlen
  have hp1 : w1.heap[p]? = w.heap[p]? := hg.block p (blk_lt h.hp) (fun e => by injection e with e; exact h.pw e.symm)
  have hx := hR.lw
  have hgne : g1 ≠ p := hR.pw
  refine ⟨?_, ?_, ?_, ?_, hgne, by omega, ?_⟩
  · rw [World.cell?_of_block hp1, h.c1, block_len]
  · rw [World.frozen?_of_block hp1, h.fp]
  · have := hrr.cell (usedOf l) (by rw [List.length_map]; omega) (by rw [List.getElem_map]; rfl)
    rw [this, List.getElem_map, List.getElem_append_right (by rw [block_len]; exact Nat.le_refl _), List.getElem_replicate]; rfl
  · exact hrr.free _
  · refine ⟨hR.setw _ _, ?_, ?_, .inl rfl⟩
    · refine ((Fr.grown (Fr.refl _ w) hg (fun k hk => ?_)).setCell (.inl (.inl rfl)) _).setCell ?_ _
      · injection hk with hk; subst hk; exact .inl (.inr (.inl rfl))
      · rcases hat with rfl | rfl
        · exact .inl (.inr (.inl rfl))
        · exact .inr (Nat.le_refl _)
    · rcases hat with rfl | rfl
      · exact .inl rfl
      · exact .inr (Nat.le_refl _)
theorem ext_two {w wr wq w2 : World} {p size gw0 gf0 gw cw gf cf : Nat} {ws bs : List Nat} {g2 c2 : Nat} (h : ExSt w wr p size gw0 gf0 gw cw gf cf ws bs) (hq : ∃ n, wq = wr.drewN n) (hr : Row w2 g2 c2 22 (bs.map wv ++ [.int .u64 0])) (hg : wq.grownBy w2 (some gf)) (hat : g2 = gf ∨ wq.heap.size ≤ g2) :
    w2.cell? ⟨p, 2, none⟩ = some (.slice (some ⟨gf, 0, none⟩) bs.length cf) ∧ w2.frozen? ⟨p, 2, none⟩ = false ∧
    Hid (ExSt w (w2.setCell ⟨p, 2, none⟩ (.slice (some ⟨g2, 0, none⟩) (bs.length + 1) c2)) p size gw0 gf0 gw cw g2 c2 ws (bs ++ [0])) := by
  obtain ⟨nq, rfl⟩ := hq
  have hR : Rw (wr.drewN nq) p size gw cw gf cf ws bs := h.rw.same rfl
  have hp1 : w2.heap[p]? = (wr.drewN nq).heap[p]? := hg.block p (blk_lt hR.hp) (fun e => by injection e with e; exact h.rw.pf e.symm)
  have hrr : Row w2 g2 c2 22 ((bs ++ [0]).map wv) := by rw [List.map_append]; exact hr
  refine ⟨?_, ?_, hR.putf hg hrr hat (by simp), ?_, h.w1, ?_⟩
  · rw [World.cell?_of_block hp1, hR.c2]
  · rw [World.frozen?_of_block hp1, hR.fp]
  · refine (Fr.trans h.fr (Fr.grown (P := fun b => b = gf) ((Fr.refl _ wr).drewN nq) hg (fun k hk => .inl (by injection hk with hk; exact hk.symm))) (fun i hi e => ?_)).setCell (.inl (.inl rfl)) _
    rcases h.f1 with e2 | e2
    · exact .inr (.inr (e.trans e2))
    · omega
  · rcases hat with rfl | hat
    · exact h.f1
    · right
      have := h.fr.size
      exact Nat.le_trans this hat
theorem or_pow (b r : Nat) (hb : b < 18446744073709551616) (hr : r < 64) : bits .or .u64 (b : Int) (IntKind.u64.wrap (2 ^ r)) = ((b ||| 2 ^ r : Nat) : Int) := by
  have h2 : (2 : Nat) ^ r < 2 ^ 64 := Nat.pow_lt_pow_right (by decide) hr
  have e : ((2 : Int) ^ r) = ((2 ^ r : Nat) : Int) := by simp
  have e2 : IntKind.u64.wrap (2 ^ r) = ((2 ^ r : Nat) : Int) := by
    rw [e, IntKind.wrap_u64]
    exact Int.emod_eq_of_lt (Int.natCast_nonneg _) (Int.ofNat_lt.2 h2)
  rw [e2]
  exact (bits_nat .u64 64 (by decide) (fun n h0 h1 => by rw [IntKind.wrap_u64]; omega) b (2 ^ r) hb h2).2
theorem ext_fin {w wr wq : World} {own : Own} {a p size gw0 gf0 gw cw gf cf : Nat} {l : List AO} {bs bs1 : List Nat} {head n z : Nat} (H : IsAr w own a p size l) (hS : ExSt w wr p size gw0 gf0 gw cw gf cf ((blockWords l ++ List.replicate n 0).set (usedOf l) head) bs1) (hq : ∃ n, wq = wr.drewN n)
    (hb : Bits l bs) (hbs : bs1 = bs ++ List.replicate z 0) (h1 : usedOf l + n ≤ 64 * bs1.length) (h2 : 64 * bs1.length < usedOf l + n + 64) (hlt : usedOf l / 64 < bs1.length) (hn : 1 ≤ n) (hn2 : usedOf l + n ≤ size) (hh : head < 18446744073709551616) (ho : ∀ b, w.heap.size ≤ b → own b = 0) (o1 : own p = 3 * a + 10) (o2 : own gw0 = 3 * a + 11) (o3 : own gf0 = 3 * a + 12) :
    ExtPost w own a p size l head n (.returned (.int .i64 (usedOf l : Int))) (wq.setCell ⟨gf, usedOf l / 64, none⟩ (.int .u64 (bits .or .u64 (bs1[usedOf l / 64] : Int) (IntKind.u64.wrap (2 ^ (usedOf l % 64)))))) := by
  obtain ⟨nq, rfl⟩ := hq
  have hn1 : osize (head, List.replicate (n - 1) 0) = n := by unfold osize; rw [List.length_replicate]; omega
  have hused : usedOf (l ++ [(head, List.replicate (n - 1) 0)]) = usedOf l + n := by rw [used_snoc, hn1]
  have hws : (blockWords l ++ List.replicate n 0).set (usedOf l) head = blockWords (l ++ [(head, List.replicate (n - 1) 0)]) := by
    rw [block_snoc, List.set_append, if_neg (by rw [block_len]; omega), block_len, Nat.sub_self]
    obtain ⟨m, rfl⟩ : ∃ m, n = m + 1 := ⟨n - 1, by omega⟩
    rw [List.replicate_succ, List.set_cons_zero]; rfl
  have hbl : bs1.length = bs.length + z := by rw [hbs]; simp
  have hB := hb.snoc (head, List.replicate (n - 1) 0) z (by rw [hn1]; omega) (by rw [hn1]; omega)
  rw [← hbs] at hB
  have hget : bs1.getD (usedOf l / 64) 0 = bs1[usedOf l / 64] := by rw [List.getD_eq_getElem?_getD, List.getElem?_eq_getElem hlt]; rfl
  have hb64 : bs1[usedOf l / 64] < 18446744073709551616 := by
    have hm := List.getElem_mem hlt
    have : ∀ b ∈ bs1, b < 18446744073709551616 := fun b hbm => by
      rw [hbs] at hbm
      rcases List.mem_append.1 hbm with h | h
      · exact hb.lt b h
      · rw [List.eq_of_mem_replicate h]; decide
    exact this _ hm
  rw [hget] at hB
  rw [or_pow _ _ hb64 (Nat.mod_lt _ (by decide))]
  have hR := (hS.rw.same (w1 := wr.drewN nq) rfl).setf (usedOf l / 64) (bs1[usedOf l / 64] ||| 2 ^ (usedOf l % 64))
  rw [hws] at hR
  have hFr := (hS.fr.drewN nq).setCell (p := ⟨gf, usedOf l / 64, none⟩) (by
    rcases hS.f1 with h | h
    · exact .inl (.inr (.inr h))
    · exact .inr h) (.int .u64 ((bs1[usedOf l / 64] ||| 2 ^ (usedOf l % 64) : Nat) : Int))
  obtain ⟨W, hW⟩ : ∃ W, (wr.drewN nq).setCell ⟨gf, usedOf l / 64, none⟩ (.int .u64 ((bs1[usedOf l / 64] ||| 2 ^ (usedOf l % 64) : Nat) : Int)) = W := ⟨_, rfl⟩
  rw [hW] at hR hFr ⊢
  have gwlt := hR.rw.lt
  have gflt := hR.rf.lt
  have plt := blk_lt hR.hp
  have gne := hR.ne
  have hpw := hR.pw
  have hpf := hR.pf
  have hnew : ∀ b, w.heap.size ≤ b → own b = 0 := ho
  refine ⟨fun b => if b = gw then 3 * a + 11 else if b = gf then 3 * a + 12 else own b, rfl, ⟨⟨gw, gf, cw, cf, _, ?_, hR.rw, hR.rf, hB, ?_, ?_, ?_⟩, H.s1, H.s2, by rw [hused]; exact hn2, fun o hm => ?_⟩, ⟨?_, fun b hbt => ?_, fun b hbt => ?_, fun b hbt => ?_⟩⟩
  · have := hR.hp
    rw [block_len, hused] at this
    rw [hused]; exact this
  · show (if p = gw then _ else if p = gf then _ else _) = _
    rw [if_neg (fun e => hpw e.symm), if_neg (fun e => hpf e.symm), o1]
  · show (if gw = gw then _ else _) = _
    rw [if_pos rfl]
  · show (if gf = gw then _ else if gf = gf then _ else _) = _
    rw [if_neg (fun e => gne e.symm), if_pos rfl]
  · rcases List.mem_append.1 hm with hm | hm
    · exact H.lt o hm
    · rw [List.mem_singleton.1 hm]
      exact ⟨hh, fun x hx => by rw [List.eq_of_mem_replicate hx]; decide⟩
  · exact hFr.mono (fun b _ hbp => by
      rcases hbp with rfl | rfl | rfl
      · exact .inl o1
      · exact .inr (.inl o2)
      · exact .inr (.inr o3))
  · show (if b = gw then _ else if b = gf then _ else own b) = own b
    by_cases e1 : b = gw
    · rcases hS.w1 with h | h
      · rw [if_pos e1, e1, h, o2]
      · omega
    · rw [if_neg e1]
      by_cases e2 : b = gf
      · rcases hS.f1 with h | h
        · rw [if_pos e2, e2, h, o3]
        · omega
      · rw [if_neg e2]
  · show (if b = gw then _ else if b = gf then _ else own b) = 0 ∨ Of (fun b => if b = gw then _ else if b = gf then _ else own b) a b
    by_cases e1 : b = gw
    · right; right; left; exact if_pos e1
    · by_cases e2 : b = gf
      · right; right; right; show (if b = gw then _ else _) = _; rw [if_neg e1, if_pos e2]
      · left; rw [if_neg e1, if_neg e2]; exact ho b hbt
  · show (if b = gw then _ else if b = gf then _ else own b) = 0
    rw [if_neg (by omega), if_neg (by omega)]
    exact ho b (Nat.le_trans hFr.size hbt)
set_option maxHeartbeats 4000000 in
set_option maxRecDepth 100000 in
theorem extend_walk (w : World) (own : Own) (a p size : Nat) (l : List AO) (H : IsAr w own a p size l) (head n : Nat) (hh : head < 18446744073709551616) (hn : 1 ≤ n) (hn2 : usedOf l + n ≤ size) (ho : ∀ b, w.heap.size ≤ b → own b = 0) :
    Calls Tryz.prog 165 #[.pointer (some ⟨p, 0, none⟩), .int .u64 (head : Int), .int .i64 (n : Int)] w (ExtPost w own a p size l head n) := by
  have hs2 := H.s2
  obtain ⟨gw, gf, cw, cf, bs, hp, c0, c1, c2, f0, l1, l2, cW, cF, fW, fF, rW, rF, hbits, o1, o2, o3⟩ := H.cells
  have hne : gw ≠ gf := by rintro rfl; omega
  have hrw : Rw w p size gw cw gf cf (blockWords l) bs := ⟨by rw [block_len]; exact hp, rW, rF, hne⟩
  have HH := Lib.hid H; have HO := Lib.hid ho; have HB := Lib.hid hbits; have HRW := Lib.hid hrw
  have O1 := Lib.hid o1; have O2 := Lib.hid o2; have O3 := Lib.hid o3
  have hblo := hbits.lo; have hbhi := hbits.hi
  have hf1 := f0 1
  clear H ho hbits rW rF cW cF fW fF o1 o2 o3 hp f0 hrw hne
  go_enter Tryz.func165, Tryz.ntmps165
  go_wp2_with (at_builtin; refine wpList_zeros w rfl _ _ 143 3 22 (.int .u64 0) 8 rfl Tryz.underlying143 Tryz.underlying3 (by kernel_rfl) rfl rfl (by decide) gw cw (usedOf l) n _ (by rw [words_map_len]) (by omega) (by rfl) (by rfl) HRW.out.rw (by omega) ?_; intro g1 c1' w1 hr1 hg1 hat1; obtain ⟨hq0, hq1, hq2, hq3, hq4, hq5, HS⟩ := ext_one HRW.out hr1 hg1 hat1 head (by omega); clear hr1 hg1 hat1)
  go_loopg [] (usedOf l + n + 64) (fun kq wr => ∃ gf1 cf1 bs1 z, ExSt w wr p size gw gf g1 c1' gf1 cf1 ((blockWords l ++ List.replicate n 0).set (usedOf l) head) bs1 ∧ Hid (bs1 = bs ++ List.replicate z 0) ∧ kq + 64 * bs1.length = usedOf l + n + 64 + 64 * bs.length ∧ 64 * bs1.length < usedOf l + n + 64 ∧ bs.length ≤ bs1.length)
  case atStart => exact ⟨gf, cf, bs, 0, HS, by simp [Hid], by omega, by omega, by omega⟩
  case round =>
    obtain ⟨gf1, cf1, bs1, z, hS, hbs, hk, hlt, hle⟩ := hrel
    have hlen : ((blockWords l ++ List.replicate n 0).set (usedOf l) head).length = usedOf l + n := by rw [List.length_set, List.length_append, block_len, List.length_replicate]
    have d1 := hS.rw.c1
    rw [hlen] at d1
    have d2 := hS.rw.c2
    have e2 := hS.rw.fp 2
    have lw := hS.rw.lw
    rw [hlen] at lw
    have lf := hS.rw.lf
    have HK := Lib.hid hk
    have HSS := Lib.hid hS
    have HL := Lib.hid hlen
    clear hS hlen hk c0 c1 c2 hq0 hq1 hq2 hq3 hf1
    have hwr : IntKind.i64.wrap ((bs1.length : Int) * 64) = (bs1.length : Int) * 64 := Go.IntWalk.i64_in _ (by omega)
    by_cases hc : 64 * bs1.length < usedOf l + n
    · have hd : decide ((bs1.length : Int) * 64 < (usedOf l : Int) + (n : Int)) = true := decide_eq_true (by omega)
      go_wp2_with fail
      go_quiet (fail)
      go_wp2_with (at_builtin; refine wpList_push _ rfl _ _ 143 22 (.int .u64 0) 8 rfl Tryz.underlying143 (by kernel_rfl) rfl gf1 cf1 bs1.length (bs1.map wv) (.int .u64 0) rfl (by simp) (by rfl) (by rfl) (HSS.out.rw.same rfl).rf (by omega) (by unfold maxLen; omega) ?_; intro g2 c2' w2 hr2 hg2 hat2; obtain ⟨hq0, hq1, HS2⟩ := ext_two HSS.out ⟨_, rfl⟩ hr2 hg2 hat2; clear hr2 hg2 hat2)
      go_roundg (usedOf l + n + 64 + 64 * bs.length - 64 * (bs1.length + 1))
      case measure => have := HK.out; omega
      case rel => exact ⟨g2, c2', bs1 ++ [0], z + 1, HS2, by rw [hbs.out, List.append_assoc, ← List.replicate_succ']; exact rfl, by rw [List.length_append, List.length_singleton]; omega, by rw [List.length_append, List.length_singleton]; omega, by rw [List.length_append, List.length_singleton]; omega⟩
    · have hd : decide ((bs1.length : Int) * 64 < (usedOf l : Int) + (n : Int)) = false := decide_eq_false (by omega)
      go_wp2_with fail
      go_quiet (fail)
      go_wp2_with fail
      have hq : usedOf l / 64 < bs1.length := by omega
      have hx := HSS.out.rw.xf _ hq
      have hy := HSS.out.rw.rf.free (usedOf l / 64)
      go_region
      go_wp2_with fail
      go_ret
      exact ext_fin HH.out HSS.out ⟨_, rfl⟩ HB.out hbs.out (by omega) hlt hq hn hn2 hh HO.out O1.out O2.out O3.out
end Go.Proofs.YtglglknhifjbaaaGreatDoor.Sp
