import Derived.Test.YtglglknhifjbaaaGreatDoorTwa
import Derived.Lib.BytesEntry
import Derived.Laws.Externs
namespace Go.Proofs.YtglglknhifjbaaaGreatDoor.Sp
open Go.RowKit Go.Proofs.YtglglknhifjbaaaGreatDoorW.PrintWords Go.Proofs.YtglglknhifjbaaaGreatDoorW.PrintLast Go.Proofs.YtglglknhifjbaaaGreatDoorW.PrintMore
set_option linter.unusedVariables false
set_option linter.unusedSimpArgs false
def cmpI : List Int → List Int → Int
  | [], [] => 0
  | [], _ :: _ => -1
  | _ :: _, [] => 1
  | a :: u1, b :: v1 => if a < b then -1 else if b < a then 1 else cmpI u1 v1
theorem cmpI_cases : ∀ (a b : List Int), cmpI a b = -1 ∨ cmpI a b = 0 ∨ cmpI a b = 1
  | [], [] => .inr (.inl rfl)
  | [], _ :: _ => .inl rfl
  | _ :: _, [] => .inr (.inr rfl)
  | a :: u1, b :: v1 => by
    unfold cmpI
    split
    · exact .inl rfl
    · split
      · exact .inr (.inr rfl)
      · exact cmpI_cases u1 v1
theorem cmpI_zero : ∀ (a b : List Int), cmpI a b = 0 ↔ a = b
  | [], [] => by simp [cmpI]
  | [], _ :: _ => by simp [cmpI]
  | _ :: _, [] => by simp [cmpI]
  | a :: u1, b :: v1 => by
    unfold cmpI
    by_cases h1 : a < b
    · rw [if_pos h1]; simp; omega
    · rw [if_neg h1]
      by_cases h2 : b < a
      · rw [if_pos h2]; simp; omega
      · rw [if_neg h2, cmpI_zero u1 v1]
        have : a = b := by omega
        simp [this]
theorem cmpI_neg : ∀ (a b : List Int), cmpI a b = - cmpI b a
  | [], [] => by simp [cmpI]
  | [], _ :: _ => by simp [cmpI]
  | _ :: _, [] => by simp [cmpI]
  | a :: u1, b :: v1 => by
    unfold cmpI
    by_cases h1 : a < b
    · rw [if_pos h1, if_neg (by omega), if_pos h1]
    · by_cases h2 : b < a
      · rw [if_neg h1, if_pos h2, if_pos h2]; rfl
      · rw [if_neg h1, if_neg h2, if_neg h2, if_neg h1, cmpI_neg u1 v1]
theorem cmpI_trans : ∀ (a b c : List Int), cmpI a b < 0 → cmpI b c < 0 → cmpI a c < 0
  | [], [], _, h, _ => by simp [cmpI] at h
  | [], _ :: _, [], _, h => by simp [cmpI] at h
  | [], _ :: _, _ :: _, _, _ => by simp [cmpI]
  | _ :: _, [], _, h, _ => by simp [cmpI] at h
  | _ :: _, _ :: _, [], _, h => by simp [cmpI] at h
  | a :: u1, b :: v1, c :: z1, h, k => by
    unfold cmpI at h k ⊢
    by_cases h1 : a < b
    · by_cases k1 : b < c
      · rw [if_pos (by omega)]; decide
      · rw [if_neg k1] at k
        by_cases k2 : c < b
        · rw [if_pos k2] at k; simp at k
        · rw [if_pos (by omega)]; decide
    · rw [if_neg h1] at h
      by_cases h2 : b < a
      · rw [if_pos h2] at h; simp at h
      · rw [if_neg h2] at h
        by_cases k1 : b < c
        · rw [if_pos (by omega)]; decide
        · rw [if_neg k1] at k
          by_cases k2 : c < b
          · rw [if_pos k2] at k; simp at k
          · rw [if_neg k2] at k
            rw [if_neg (by omega), if_neg (by omega)]
            exact cmpI_trans u1 v1 z1 h k
theorem cmpI_ge_trans (a b c : List Int) (h : ¬ cmpI a b < 0) (k : ¬ cmpI b c < 0) : ¬ cmpI a c < 0 := fun h3 => by
  have h1 := cmpI_neg a b
  have h2 := cmpI_neg b c
  have c1 := cmpI_cases a b
  have c2 := cmpI_cases b c
  rcases (show cmpI a b = 0 ∨ cmpI b a < 0 by omega) with e | e
  · rw [(cmpI_zero a b).1 e] at h3; exact k h3
  · rcases (show cmpI b c = 0 ∨ cmpI c b < 0 by omega) with e2 | e2
    · rw [← (cmpI_zero b c).1 e2] at h3; exact h h3
    · have := cmpI_trans a c b h3 e2
      omega
theorem cmp_bytes : ∀ (a b : List Int), IsB a → IsB b → Lib.compareBytes (Lib.bytesOf a) (Lib.bytesOf b) = cmpI a b
  | [], [], _, _ => rfl
  | [], _ :: _, _, _ => rfl
  | _ :: _, [], _, _ => rfl
  | x :: u1, y :: v1, ha, hb => by
    have ih := cmp_bytes u1 v1 ⟨fun z hz => ha.b z (List.mem_cons_of_mem _ hz)⟩ ⟨fun z hz => hb.b z (List.mem_cons_of_mem _ hz)⟩
    have h1 := ha.b x List.mem_cons_self
    have h2 := hb.b y List.mem_cons_self
    have e : ∀ (p q : Int), 0 ≤ p ∧ p < 256 → 0 ≤ q ∧ q < 256 → ((UInt8.ofNat p.toNat < UInt8.ofNat q.toNat) ↔ p < q) := fun p q hp hq => by
      rw [UInt8.lt_iff_toNat_lt, UInt8.toNat_ofNat', UInt8.toNat_ofNat']
      omega
    show (if UInt8.ofNat x.toNat < UInt8.ofNat y.toNat then -1 else if UInt8.ofNat y.toNat < UInt8.ofNat x.toNat then 1 else Lib.compareBytes (Lib.bytesOf u1) (Lib.bytesOf v1)) = _
    rw [ih]
    show _ = (if x < y then -1 else if y < x then 1 else cmpI u1 v1)
    simp only [e x y h1 h2, e y x h2 h1]
def HasB (w : World) (A : Option Addr) (b : List Int) : Prop := 0 < b.length → ∃ g o, A = some ⟨g, o, none⟩ ∧ g < w.heap.size ∧ ∀ j (h : j < b.length), w.cell? ⟨g, o + j, none⟩ = some (.int .u8 b[j])
theorem HasB.below {w w' : World} {A : Option Addr} {b : List Int} (h : HasB w A b) (hb : Below w.heap.size w w') : HasB w' A b := fun h0 => by
  obtain ⟨g, o, e, h2, h3⟩ := h h0
  exact ⟨g, o, e, Nat.lt_of_lt_of_le h2 hb.size, fun j hj => by rw [hb.cell h2]; exact h3 j hj⟩
theorem srcB_ints {w : World} {A : Option Addr} {b : List Int} (hb : IsB b) : SrcB w A (natsOf b) ↔ HasB w A b := by
  have key : ∀ j (h : j < b.length), ((natsOf b)[j]'(by rw [natsOf_len]; exact h) : Int) = b[j] := fun j h => by
    have := hb.b b[j] (List.getElem_mem h)
    simp [natsOf]; omega
  constructor
  · intro h h0
    obtain ⟨g, o, e, h1, h2⟩ := h (by rw [natsOf_len]; exact h0)
    exact ⟨g, o, e, h1, fun j hj => by rw [h2 j (by rw [natsOf_len]; exact hj), key j hj]⟩
  · intro h h0
    rw [natsOf_len] at h0
    obtain ⟨g, o, e, h1, h2⟩ := h h0
    exact ⟨g, o, e, h1, fun j hj => by
      have hj' : j < b.length := by rw [natsOf_len] at hj; exact hj
      rw [h2 j hj', key j hj']⟩
theorem bytesOf_run {P : Program} (w : World) (A : Option Addr) (b : List Int) (c : Nat) (h : HasB w A b) : (Extern.Bytes.bytesOf (.slice A b.length c)).run P w = .ok ⟨(Lib.bytesOf b).toArray⟩ w := by
  by_cases h0 : 0 < b.length
  · obtain ⟨g, o, rfl, h1, h2⟩ := h h0
    have hl := Lib.run_loadBytesX (P := P) w b ⟨g, o, none⟩ .empty (fun j x hj => by
      obtain ⟨hjl, e⟩ := List.getElem?_eq_some_iff.1 hj
      have e2 : (⟨g, o, none⟩ : Addr).add j = ⟨g, o + j, none⟩ := by unfold Addr.add; split <;> simp_all
      rw [e2, h2 j hjl, e])
    have he : (⟨ByteArray.empty.data ++ (Lib.bytesOf b).toArray⟩ : ByteArray) = ⟨(Lib.bytesOf b).toArray⟩ := by
      apply ByteArray.ext
      show (#[] : Array UInt8) ++ (Lib.bytesOf b).toArray = (Lib.bytesOf b).toArray
      simp
    rw [he] at hl
    exact hl
  · obtain rfl : b = [] := List.length_eq_zero_iff.1 (by omega)
    cases A with
    | none => rfl
    | some a => rfl
theorem compare_run (w : World) (A B : Option Addr) (a b : List Int) (c d : Nat) (ha : HasB w A a) (hb : HasB w B b) (h1 : IsB a) (h2 : IsB b) :
    (callFunc 199 #[.slice A a.length c, .slice B b.length d]).run Tryz.prog w = .ok (.value (.int .i64 (cmpI a b))) w := by
  rw [run_callFunc_extern (e := Extern.BytealgCompare.compare) Tryz.func199 (by kernel_rfl) (by kernel_rfl) (by kernel_rfl) (by kernel_rfl)]
  change Result.andThen (Sem.run Tryz.prog (do pure (goInt (Extern.BytealgCompare.cmp (← Extern.Bytes.bytesOf (.slice A a.length c)) (← Extern.Bytes.bytesOf (.slice B b.length d))))) w) _ = _
  simp only [Sem.run_bind, Sem.run_pure, bytesOf_run w A a c ha, bytesOf_run w B b d hb, Result.andThen]
  rw [Lib.cmp_eq, ← cmp_bytes a b h1 h2]
  rfl
set_option maxHeartbeats 4000000 in
theorem cmp_walk (w : World) (A B : Option Addr) (a b : List Int) (c d : Nat) (ha : HasB w A a) (hb : HasB w B b) (h1 : IsB a) (h2 : IsB b) :
    Calls Tryz.prog 145 #[.slice A a.length c, .slice B b.length d] w fun e w' => e = .returned (.int .i64 (cmpI a b)) ∧ w = w' := by
  have hr := compare_run w A B a b c d ha hb h1 h2
  obtain ⟨n, hn⟩ : ∃ n, a.length = n := ⟨_, rfl⟩
  obtain ⟨m, hm⟩ : ∃ m, b.length = m := ⟨_, rfl⟩
  obtain ⟨r, hrr⟩ : ∃ r, cmpI a b = r := ⟨_, rfl⟩
  rw [hn, hm, hrr] at hr
  rw [hn, hm, hrr]
  clear ha hb hn hm hrr
  go_enter Tryz.func145, Tryz.ntmps145
  go_wp2_with fail
  go_ret
  exact ⟨rfl, rfl⟩
end Go.Proofs.YtglglknhifjbaaaGreatDoor.Sp
namespace Go.Proofs.YtglglknhifjbaaaGreatDoor.Sp
open Go.RowKit Go.Proofs.YtglglknhifjbaaaGreatDoorW.PrintWords Go.Proofs.YtglglknhifjbaaaGreatDoorW.PrintLast Go.Proofs.YtglglknhifjbaaaGreatDoorW.PrintMore
set_option linter.unusedVariables false
set_option linter.unusedSimpArgs false
structure TRaw (G : Gr) (hs : List Nat) (bs : List (Option Nat)) (t : Nat) (T : Tab) (len : Nat) (orefs : List Nat) : Prop where
  tn : G.node t = T.tabN len
  nn : G.node T.nid = arrN (T.nb.map headId)
  on : T.oid ≠ 0 → G.node T.oid = arrN orefs ∧ orefs.length = 2 ^ T.ok ∧ 2 ≤ T.ok ∧ T.ok ≤ 20
  nl : T.nb.length = 2 ^ T.nk
  nk : 2 ≤ T.nk ∧ T.nk ≤ 20
  lt : Live hs bs t
  ln : Live hs bs T.nid
  lo : T.oid ≠ 0 → Live hs bs T.oid
  mv : T.moved ≤ 1048576
  sd : T.seed < 18446744073709551616
theorem arr_at (refs : List Nat) (pl : Nat → Nat) (j : Nat) : (arrN refs).at pl j = (refs.map pl).getD j 0 := by
  unfold Node.at arrN
  rw [List.append_nil]
theorem tab_at (T : Tab) (len : Nat) (pl : Nat → Nat) : (T.tabN len).at pl 0 = pl T.nid ∧ (T.tabN len).at pl 1 = pl T.oid ∧ (T.tabN len).at pl 2 = T.seed ∧ (T.tabN len).at pl 3 = len ∧ (T.tabN len).at pl 4 = T.moved := ⟨rfl, rfl, rfl, rfl, rfl⟩
section
variable {w : World} {own : Own} {hp : Nat} {G : Gr} {hs : List Nat} {bs : List (Option Nat)} {i tp hd t len : Nat} {T : Tab} {orefs : List Nat}
theorem own_at (H : HO w own hp G hs bs) (ht : TAt w own hp tp hd) (hh : (hd, t) ∈ G.hands) (R : TRaw G hs bs t T len orefs) (j : Nat) (hj : j < 5) (n : Nat) :
    Calls Tryz.prog 146 #[.pointer (some ⟨tp, 0, none⟩), .int .i64 (j : Int)] (w.drewN n) fun e w' => e = .returned (.int .u64 ((T.tabN len).at (plOf G hs bs) j : Int)) ∧ ∃ m, w' = w.drewN m := by
  have h := town_walk (H.drewN n) (ht.drewN n) hh R.lt j (by rw [R.tn]; exact hj)
  rw [R.tn] at h
  refine h.mono ?_
  rintro e w' ⟨rfl, m, rfl⟩
  exact ⟨rfl, n + m, by rw [World.drewN_drewN]⟩
set_option maxHeartbeats 4000000 in
set_option maxRecDepth 100000 in
theorem chain_walk (H : HO w own hp G hs bs) (gl : Gl w own) (ht : TAt w own hp tp hd) (hh : (hd, t) ∈ G.hands) (R : TRaw G hs bs t T len orefs) (h : Nat) (hx : h < 18446744073709551616) :
    Calls Tryz.prog 200 #[.pointer (some ⟨tp, 0, none⟩), .int .u64 (h : Int)] w fun e w' => e = .returned (.tuple #[.int .u64 (plOf G hs bs (T.aid h) : Int), .int .i64 (T.slot h : Int)]) ∧ ∃ n, w' = w.drewN n := by
  obtain ⟨t0, t1, t2, t3, t4⟩ := tab_at T len (plOf G hs bs)
  have O0 := own_at H ht hh R 0 (by decide)
  have O1 := own_at H ht hh R 1 (by decide)
  have O4 := own_at H ht hh R 4 (by decide)
  rw [t0] at O0
  rw [t1] at O1
  rw [t4] at O4
  have SN : ∀ n, Calls Tryz.prog 171 #[.pointer (some ⟨tp, 0, none⟩), .int .u64 (plOf G hs bs T.nid : Int)] (w.drewN n) fun e w' => e = .returned (.int .i64 ((2 ^ T.nk : Nat) : Int)) ∧ w.drewN n = w' := fun n => by
    have := tsize_walk (H.drewN n) (ht.drewN n) R.ln
    rw [R.nn] at this
    have e : (arrN (T.nb.map headId)).refs.length = 2 ^ T.nk := by show (T.nb.map headId).length = _; rw [List.length_map, R.nl]
    rwa [e] at this
  have BN : ∀ n, Calls Tryz.prog 194 #[.int .u64 (h : Int), .int .i64 ((2 ^ T.nk : Nat) : Int)] (w.drewN n) fun e w' => e = .returned (.int .i64 (bkt T.nk h : Int)) ∧ w.drewN n = w' := fun n => bucket_walk _ own (gl.drewN n) T.nk (by have := R.nk; omega) (by have := R.nk; omega) h hx
  have hpn := pl_lt H T.nid
  obtain ⟨pn, hpn0⟩ : ∃ pn, plOf G hs bs T.nid = pn := ⟨_, rfl⟩
  obtain ⟨cn, hcn⟩ : ∃ cn, 2 ^ T.nk = cn := ⟨_, rfl⟩
  obtain ⟨bn, hbn⟩ : ∃ bn, bkt T.nk h = bn := ⟨_, rfl⟩
  rw [hpn0] at O0 SN
  rw [hcn] at SN BN
  rw [hbn] at BN
  replace O0 := Lib.hid O0; replace O1 := Lib.hid O1; replace O4 := Lib.hid O4; replace SN := Lib.hid SN; replace BN := Lib.hid BN
  by_cases ho : T.oid = 0
  · have hno : T.inOld h = false := by unfold Tab.inOld; simp [ho]
    have ea : T.aid h = T.nid := by unfold Tab.aid; rw [hno]; rfl
    have es : T.slot h = bn := by unfold Tab.slot; rw [hno, ← hbn]; rfl
    rw [ea, es, hpn0]
    have O1' : Hid (∀ n, Calls Tryz.prog 146 #[.pointer (some ⟨tp, 0, none⟩), .int .i64 1] (w.drewN n) fun e w' => e = .returned (.int .u64 0) ∧ ∃ m, w' = w.drewN m) := by
      have := O1.out
      rw [ho, pl_zero H.lay] at this
      exact this
    clear H gl ht hh R O1 O4 hno ea es ho t0 t1 t2 t3 t4 hpn0 hcn hbn
    go_enter Tryz.func200, Tryz.ntmps200
    go_wp2_with fail
    refine (O1'.out 0).mono ?_
    rintro e w' ⟨rfl, m, rfl⟩
    go_wp2_with fail
    refine (O0.out m).mono ?_
    rintro e w' ⟨rfl, m1, rfl⟩
    go_wp2_with fail
    refine (SN.out _).mono ?_
    rintro e w' ⟨rfl, rfl⟩
    go_wp2_with fail
    refine (BN.out _).mono ?_
    rintro e w' ⟨rfl, rfl⟩
    go_wp2_with fail
    go_ret2
    exact ⟨rfl, _, rfl⟩
  · obtain ⟨on1, on2, on3, on4⟩ := R.on ho
    have SO : ∀ n, Calls Tryz.prog 171 #[.pointer (some ⟨tp, 0, none⟩), .int .u64 (plOf G hs bs T.oid : Int)] (w.drewN n) fun e w' => e = .returned (.int .i64 ((2 ^ T.ok : Nat) : Int)) ∧ w.drewN n = w' := fun n => by
      have := tsize_walk (H.drewN n) (ht.drewN n) (R.lo ho)
      rw [on1] at this
      have e : (arrN orefs).refs.length = 2 ^ T.ok := on2
      rwa [e] at this
    have BO : ∀ n, Calls Tryz.prog 194 #[.int .u64 (h : Int), .int .i64 ((2 ^ T.ok : Nat) : Int)] (w.drewN n) fun e w' => e = .returned (.int .i64 (bkt T.ok h : Int)) ∧ w.drewN n = w' := fun n => bucket_walk _ own (gl.drewN n) T.ok (by omega) (by omega) h hx
    have hpo := H.lay.ne0 _ (R.lo ho)
    have hmv := R.mv
    have hio : T.inOld h = decide (T.moved ≤ bkt T.ok h) := by unfold Tab.inOld; simp [ho]
    have ea : plOf G hs bs (T.aid h) = if T.inOld h then plOf G hs bs T.oid else pn := by unfold Tab.aid; split <;> simp [hpn0]
    have es : T.slot h = if T.inOld h then bkt T.ok h else bn := by unfold Tab.slot; rw [hbn]
    rw [ea, es, hio]
    obtain ⟨po, hpo0⟩ : ∃ po, plOf G hs bs T.oid = po := ⟨_, rfl⟩
    obtain ⟨co, hco⟩ : ∃ co, 2 ^ T.ok = co := ⟨_, rfl⟩
    obtain ⟨bo, hbo⟩ : ∃ bo, bkt T.ok h = bo := ⟨_, rfl⟩
    obtain ⟨mv, hmv0⟩ : ∃ mv, T.moved = mv := ⟨_, rfl⟩
    have O1' : Hid (∀ n, Calls Tryz.prog 146 #[.pointer (some ⟨tp, 0, none⟩), .int .i64 1] (w.drewN n) fun e w' => e = .returned (.int .u64 (po : Int)) ∧ ∃ m, w' = w.drewN m) := by
      have := O1.out
      rw [hpo0] at this
      exact this
    have O4' : Hid (∀ n, Calls Tryz.prog 146 #[.pointer (some ⟨tp, 0, none⟩), .int .i64 4] (w.drewN n) fun e w' => e = .returned (.int .u64 (mv : Int)) ∧ ∃ m, w' = w.drewN m) := by
      have := O4.out
      rw [hmv0] at this
      exact this
    rw [hpo0] at SO hpo
    rw [hco] at SO BO
    rw [hbo] at BO
    rw [hmv0] at hmv
    rw [hpo0, hbo, hmv0]
    replace SO := Lib.hid SO; replace BO := Lib.hid BO
    have e0 : ((po : Int) == 0) = false := by rw [beq_eq_false_iff_ne]; omega
    have m1 : IntKind.i64.wrap (mv : Int) = (mv : Int) := Go.IntWalk.i64_in _ (by omega)
    have hbol : bo < 18446744073709551616 := by rw [← hbo]; exact Nat.lt_of_le_of_lt (Nat.div_le_self _ _) hx
    clear H gl ht hh R O1 O4 hio ea es ho t0 t1 t2 t3 t4 hpn0 hcn hbn hpo0 hco hbo hmv0 on1 on2 on3 on4
    by_cases hc : mv ≤ bo
    · have d1 : decide ((mv : Int) ≤ (bo : Int)) = true := decide_eq_true (by omega)
      have d2 : decide (mv ≤ bo) = true := decide_eq_true hc
      rw [d2]
      go_enter Tryz.func200, Tryz.ntmps200
      go_wp2_with fail
      refine (O1'.out 0).mono ?_
      rintro e w' ⟨rfl, m, rfl⟩
      go_wp2_with fail
      refine (SO.out _).mono ?_
      rintro e w' ⟨rfl, rfl⟩
      go_wp2_with fail
      refine (BO.out _).mono ?_
      rintro e w' ⟨rfl, rfl⟩
      go_wp2_with fail
      refine (O4'.out m).mono ?_
      rintro e w' ⟨rfl, m4, rfl⟩
      go_wp2_with fail
      go_ret2
      exact ⟨rfl, _, rfl⟩
    · have d1 : decide ((mv : Int) ≤ (bo : Int)) = false := decide_eq_false (by omega)
      have d2 : decide (mv ≤ bo) = false := decide_eq_false hc
      rw [d2]
      go_enter Tryz.func200, Tryz.ntmps200
      go_wp2_with fail
      refine (O1'.out 0).mono ?_
      rintro e w' ⟨rfl, m, rfl⟩
      go_wp2_with fail
      refine (SO.out _).mono ?_
      rintro e w' ⟨rfl, rfl⟩
      go_wp2_with fail
      refine (BO.out _).mono ?_
      rintro e w' ⟨rfl, rfl⟩
      go_wp2_with fail
      refine (O4'.out m).mono ?_
      rintro e w' ⟨rfl, m4, rfl⟩
      go_wp2_with fail
      refine (O0.out _).mono ?_
      rintro e w' ⟨rfl, m5, rfl⟩
      go_wp2_with fail
      refine (SN.out _).mono ?_
      rintro e w' ⟨rfl, rfl⟩
      go_wp2_with fail
      refine (BN.out _).mono ?_
      rintro e w' ⟨rfl, rfl⟩
      go_wp2_with fail
      go_ret2
      exact ⟨rfl, _, rfl⟩
end
end Go.Proofs.YtglglknhifjbaaaGreatDoor.Sp
namespace Go.Proofs.YtglglknhifjbaaaGreatDoor.Sp
open Go.RowKit Go.Proofs.YtglglknhifjbaaaGreatDoorW.PrintWords Go.Proofs.YtglglknhifjbaaaGreatDoorW.PrintLast Go.Proofs.YtglglknhifjbaaaGreatDoorW.PrintMore
set_option linter.unusedVariables false
set_option linter.unusedSimpArgs false
def Dw (w W : World) : Prop := ∃ n, W = w.drewN n
theorem Dw.refl (w : World) : Dw w w := ⟨0, rfl⟩
theorem Dw.drew {w W : World} (h : Dw w W) : Dw w W.drew := by obtain ⟨n, rfl⟩ := h; exact ⟨n + 1, rfl⟩
theorem Dw.drewN {w W : World} (h : Dw w W) (n : Nat) : Dw w (W.drewN n) := by obtain ⟨m, rfl⟩ := h; exact ⟨m + n, by rw [World.drewN_drewN]⟩
theorem Dw.trans {a b c : World} (h : Dw a b) (k : Dw b c) : Dw a c := by obtain ⟨n, rfl⟩ := k; exact h.drewN n
structure Ed (w : World) (own : Own) (hp : Nat) (G : Gr) (hs : List Nat) (bs : List (Option Nat)) (w' : World) (own' : Own) (G' : Gr) : Prop where
  ho : HO w' own' hp G' hs bs
  st : HStep w own w' own'
  pl : plOf G' hs bs = plOf G hs bs
  hands : G'.hands = G.hands
  next : G'.next = G.next
  limit : G'.limit = G.limit
section
variable {w w1 w2 W : World} {own own1 own2 : Own} {hp : Nat} {G G1 G2 : Gr} {hs : List Nat} {bs : List (Option Nat)} {i tp hd t len : Nat} {T : Tab} {orefs : List Nat}
theorem Ed.refl (H : HO w own hp G hs bs) : Ed w own hp G hs bs w own G := ⟨H, HStep.refl w own, rfl, rfl, rfl, rfl⟩
theorem Ed.trans (h : Ed w own hp G hs bs w1 own1 G1) (k : Ed w1 own1 hp G1 hs bs w2 own2 G2) : Ed w own hp G hs bs w2 own2 G2 :=
  ⟨k.ho, h.st.trans k.st, k.pl.trans h.pl, k.hands.trans h.hands, k.next.trans h.next, k.limit.trans h.limit⟩
theorem Ed.dw (h : Ed w own hp G hs bs w1 own1 G1) (k : Dw w1 w2) : Ed w own hp G hs bs w2 own1 G1 := by
  obtain ⟨n, rfl⟩ := k
  exact ⟨h.ho.drewN n, h.st.trans (HStep.drewN n), h.pl, h.hands, h.next, h.limit⟩
theorem HO.dw (H : HO w own hp G hs bs) (k : Dw w W) : HO W own hp G hs bs := by obtain ⟨n, rfl⟩ := k; exact H.drewN n
theorem TAt.dw (h : TAt w own hp tp hd) (k : Dw w W) : TAt W own hp tp hd := by obtain ⟨n, rfl⟩ := k; exact h.drewN n
theorem Gl.dw (h : Gl w own) (k : Dw w W) : Gl W own := by obtain ⟨n, rfl⟩ := k; exact h.drewN n
theorem HStep.dw (own : Own) (k : Dw w W) : HStep w own W own := by obtain ⟨n, rfl⟩ := k; exact HStep.drewN n
def Node.setRef (n : Node) (j v : Nat) : Node := { n with refs := n.refs.set j v }
def Node.setRw (n : Node) (j v : Nat) : Node := { n with raws := n.raws.set j v }
theorem Node.setRef_like (n : Node) (j v : Nat) : (n.setRef j v).Like n := ⟨rfl, by simp [Node.setRef], rfl⟩
theorem Node.setRw_like (n : Node) (j v : Nat) : (n.setRw j v).Like n := ⟨rfl, rfl, by simp [Node.setRw]⟩
theorem HPutPost.ed {n : Node} {e : Ending} {w' : World} (h : HPutPost w own hp G hs bs i n e w') (hl : n.Like (G.node i)) : e = .returned (.int .i64 0) ∧ ∃ own', Ed w own hp G hs bs w' own' (G.put i n) := by
  obtain ⟨he, own', h1, h2⟩ := h
  exact ⟨he, own', h1, h2, put_pl G i n hl, rfl, rfl, rfl⟩
theorem setRef_walk (H : HO w own hp G hs bs) (h : Live hs bs i) (j v : Nat) (hj : j < (G.node i).refs.length) (hv : v = 0 ∨ Live hs bs v) :
    Calls Tryz.prog 70 #[.pointer (some ⟨hp, 0, none⟩), .int .u64 (plOf G hs bs i : Int), .int .i64 (j : Int), .int .u64 (plOf G hs bs v : Int)] w fun e w' => e = .returned (.int .i64 0) ∧ ∃ own', Ed w own hp G hs bs w' own' (G.put i ((G.node i).setRef j v)) := by
  have hok := H.lay.ok i h
  refine (hSet_walk H h j (plOf G hs bs v) (by omega) (pl_lt H v) ((G.node i).setRef j v) (Node.setRef_like _ _ _) ⟨?_, hok.lt⟩ (fun t ht => ?_) ?_ (fun _ => ⟨v, hv, rfl⟩)).mono (fun e w' hq => hq.ed (Node.setRef_like _ _ _))
  · show Shape (G.node i).kind ((G.node i).refs.set j v).length (G.node i).raws.length
    rw [List.length_set]; exact hok.sh
  · rcases List.mem_or_eq_of_mem_set (show t ∈ (G.node i).refs.set j v from ht) with ht | rfl
    · exact H.lay.closed i h t ht
    · exact hv
  · show ((G.node i).refs.set j v).map _ ++ (G.node i).raws = _
    rw [List.map_set, List.set_append, if_pos (by rw [List.length_map]; exact hj)]
theorem setRw_walk (H : HO w own hp G hs bs) (h : Live hs bs i) (j k v : Nat) (hj : j < (G.node i).raws.length) (hk : k = (G.node i).refs.length + j) (hv : v < 18446744073709551616) :
    Calls Tryz.prog 70 #[.pointer (some ⟨hp, 0, none⟩), .int .u64 (plOf G hs bs i : Int), .int .i64 (k : Int), .int .u64 (v : Int)] w fun e w' => e = .returned (.int .i64 0) ∧ ∃ own', Ed w own hp G hs bs w' own' (G.put i ((G.node i).setRw j v)) := by
  have hok := H.lay.ok i h
  refine (hSet_walk H h k v (by omega) hv ((G.node i).setRw j v) (Node.setRw_like _ _ _) ⟨?_, fun x hx => ?_⟩ (fun t ht => H.lay.closed i h t ht) ?_ (fun hlt => by omega)).mono (fun e w' hq => hq.ed (Node.setRw_like _ _ _))
  · show Shape (G.node i).kind (G.node i).refs.length ((G.node i).raws.set j v).length
    rw [List.length_set]; exact hok.sh
  · rcases List.mem_or_eq_of_mem_set (show x ∈ (G.node i).raws.set j v from hx) with hx | rfl
    · exact hok.lt x hx
    · exact hv
  · show (G.node i).refs.map _ ++ ((G.node i).raws.set j v) = _
    rw [List.set_append, if_neg (by rw [List.length_map]; omega), List.length_map, show k - (G.node i).refs.length = j by omega]
def Tab.arefs (T : Tab) (orefs : List Nat) (h : Nat) : List Nat := if T.inOld h then orefs else T.nb.map headId
theorem TRaw.arr (R : TRaw G hs bs t T len orefs) (h : Nat) : G.node (T.aid h) = arrN (T.arefs orefs h) ∧ Live hs bs (T.aid h) := by
  unfold Tab.aid Tab.arefs
  by_cases hi : T.inOld h = true
  · rw [hi]; exact ⟨(R.on (inOld_oid hi)).1, R.lo (inOld_oid hi)⟩
  · rw [Bool.not_eq_true] at hi; rw [hi]; exact ⟨R.nn, R.ln⟩
theorem TRaw.slot (R : TRaw G hs bs t T len orefs) (h : Nat) (hx : h < 18446744073709551616) : T.slot h < (T.arefs orefs h).length := by
  unfold Tab.slot Tab.arefs
  by_cases hi : T.inOld h = true
  · rw [hi]
    obtain ⟨_, h2, h3, h4⟩ := R.on (inOld_oid hi)
    simp only [if_true]
    rw [h2]; exact bkt_lt _ _ (by omega) hx
  · rw [Bool.not_eq_true] at hi; rw [hi]
    simp only [Bool.false_eq_true, if_false]
    rw [List.length_map, R.nl]; exact bkt_lt _ _ (by have := R.nk; omega) hx
set_option maxHeartbeats 4000000 in
set_option maxRecDepth 100000 in
theorem hang_walk (H : HO w own hp G hs bs) (gl : Gl w own) (ht : TAt w own hp tp hd) (hh : (hd, t) ∈ G.hands) (R : TRaw G hs bs t T len orefs) (h : Nat) (hx : h < 18446744073709551616) (x : Nat) (hxl : Live hs bs x) (hxr : 1 ≤ (G.node x).refs.length) (hxa : x ≠ T.aid h) :
    Calls Tryz.prog 191 #[.pointer (some ⟨tp, 0, none⟩), .int .u64 (plOf G hs bs x : Int), .int .u64 (h : Int)] w fun e w' => e = .returned (.tuple #[]) ∧
      ∃ own', Ed w own hp G hs bs w' own' ((G.put x ((G.node x).setRef 0 ((T.arefs orefs h).getD (T.slot h) 0))).put (T.aid h) (arrN ((T.arefs orefs h).set (T.slot h) x))) := by
  have HC := chain_walk H gl ht hh R h hx
  obtain ⟨ha, hal⟩ := R.arr h
  have hsl := R.slot h hx
  have hhead : (T.arefs orefs h).getD (T.slot h) 0 = 0 ∨ Live hs bs ((T.arefs orefs h).getD (T.slot h) 0) := by
    rw [List.getD_eq_getElem?_getD, List.getElem?_eq_getElem hsl]
    exact H.lay.closed _ hal _ (by rw [ha]; exact List.getElem_mem hsl)
  have HG := fun W (k : Dw w W) => tget_walk (H.dw k) (ht.dw k) hal (T.slot h) (by rw [ha]; show _ < (T.arefs orefs h).length + 0; omega)
  have hat : (G.node (T.aid h)).at (plOf G hs bs) (T.slot h) = plOf G hs bs ((T.arefs orefs h).getD (T.slot h) 0) := by
    rw [ha, arr_at, List.getD_eq_getElem?_getD, List.getElem?_map, List.getD_eq_getElem?_getD, List.getElem?_eq_getElem hsl]; rfl
  rw [hat] at HG
  obtain ⟨hv, hhv⟩ : ∃ hv, (T.arefs orefs h).getD (T.slot h) 0 = hv := ⟨_, rfl⟩
  rw [hhv] at hhead HG ⊢
  have HS1 := fun W (k : Dw w W) => setRef_walk (H.dw k) hxl 0 hv (by omega) hhead
  have HS2 : ∀ W1 own1, Ed w own hp G hs bs W1 own1 (G.put x ((G.node x).setRef 0 hv)) → Calls Tryz.prog 70 #[.pointer (some ⟨hp, 0, none⟩), .int .u64 (plOf G hs bs (T.aid h) : Int), .int .i64 (T.slot h : Int), .int .u64 (plOf G hs bs x : Int)] W1 fun e w' => e = .returned (.int .i64 0) ∧
      ∃ own', Ed w own hp G hs bs w' own' ((G.put x ((G.node x).setRef 0 hv)).put (T.aid h) (arrN ((T.arefs orefs h).set (T.slot h) x))) := fun W1 own1 E => by
    have hn : (G.put x ((G.node x).setRef 0 hv)).node (T.aid h) = arrN (T.arefs orefs h) := by rw [Gr.put_other _ _ _ _ (fun e => hxa e.symm)]; exact ha
    have := setRef_walk E.ho hal (T.slot h) x (by rw [hn]; exact hsl) (.inr hxl)
    rw [hn, E.pl] at this
    refine this.mono ?_
    rintro e w' ⟨he, own', E2⟩
    exact ⟨he, own', E.trans E2⟩
  have HK : ∀ W1 own1 (G1 : Gr), Ed w own hp G hs bs W1 own1 G1 → W1.cell? ⟨tp, 0, none⟩ = some (.pointer (some ⟨hp, 0, none⟩)) := fun W1 own1 G1 E => (ht.step E.st).c0
  have HDw : ∀ W (k : Dw w W), W.cell? ⟨tp, 0, none⟩ = some (.pointer (some ⟨hp, 0, none⟩)) := fun W k => (ht.dw k).c0
  have HEd : ∀ W W1 own1 (k : Dw w W) (G1 : Gr), Ed W own hp G hs bs W1 own1 G1 → Ed w own hp G hs bs W1 own1 G1 := fun W W1 own1 k G1 E => ⟨E.ho, (HStep.dw own k).trans E.st, E.pl, E.hands, E.next, E.limit⟩
  obtain ⟨px, hpx⟩ : ∃ px, plOf G hs bs x = px := ⟨_, rfl⟩
  obtain ⟨pa, hpa⟩ : ∃ pa, plOf G hs bs (T.aid h) = pa := ⟨_, rfl⟩
  obtain ⟨pv, hpv⟩ : ∃ pv, plOf G hs bs hv = pv := ⟨_, rfl⟩
  obtain ⟨sl, hsl0⟩ : ∃ sl, T.slot h = sl := ⟨_, rfl⟩
  rw [hpa, hsl0] at HC
  rw [hpa, hpv, hsl0] at HG
  rw [hpx, hpv] at HS1
  rw [hpx, hpa] at HS2
  rw [hpx]
  rw [hsl0] at HS2 ⊢
  have k0 := HDw w (Dw.refl w)
  replace HC := Lib.hid HC; replace HG := Lib.hid HG; replace HS1 := Lib.hid HS1; replace HS2 := Lib.hid HS2; replace HK := Lib.hid HK; replace HDw := Lib.hid HDw; replace HEd := Lib.hid HEd
  clear H gl ht hh R ha hal hsl hhead hat hhv hpx hpa hpv hsl0 hxl hxr hxa
  go_enter Tryz.func191, Tryz.ntmps191
  go_wp2_with fail
  refine HC.out.mono ?_
  rintro e w' ⟨rfl, n, rfl⟩
  have k1 := HDw.out _ ((Dw.refl w).drewN n)
  have k2 := HDw.out _ ((Dw.refl w).drewN n).drew
  go_wp2_with fail
  go_region_held3 (fun W => W.cell? ⟨tp, 0, none⟩ = some (.pointer (some ⟨hp, 0, none⟩))) (assumption) (first | (go_at_call 149; refine (HG.out _ ((Dw.refl w).drewN n).drew).mono ?_; rintro e w2 ⟨rfl, rfl⟩) | (go_at_call 70; refine (HS1.out _ ((Dw.refl w).drewN n).drew).mono ?_; rintro e w2 ⟨rfl, own2, h2⟩; have E2 := Lib.hid (HEd.out _ _ _ ((Dw.refl w).drewN n).drew _ h2); have k3 := HK.out _ _ _ E2.out; clear h2))
  go_wp2_with fail
  refine (HS2.out _ _ E2.out).mono ?_
  rintro e w3 ⟨rfl, own3, h3⟩
  have E3 := Lib.hid h3
  clear h3
  go_wp2_with fail
  go_end0
  exact ⟨rfl, own3, E3.out⟩
end
end Go.Proofs.YtglglknhifjbaaaGreatDoor.Sp
