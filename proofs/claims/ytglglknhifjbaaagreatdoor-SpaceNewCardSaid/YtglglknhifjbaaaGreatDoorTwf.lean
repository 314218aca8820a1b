import Derived.Test.YtglglknhifjbaaaGreatDoorTwd
import Derived.Defers
import Derived.Tactics2
namespace Go.Proofs.YtglglknhifjbaaaGreatDoor.Sp
open Go.RowKit Go.Proofs.YtglglknhifjbaaaGreatDoorW.PrintWords Go.Proofs.YtglglknhifjbaaaGreatDoorW.PrintLast Go.Proofs.YtglglknhifjbaaaGreatDoorW.PrintMore
set_option linter.unusedVariables false
set_option linter.unusedSimpArgs false
theorem below_drewN {w : World} {N : Nat} (m : Nat) : Below N w (w.drewN m) := ⟨rfl, rfl, rfl, Nat.le_refl _, fun _ _ => rfl⟩
theorem byV_ints (l : List Nat) : byV l = u8s (intsOf l) := by unfold byV u8s intsOf; rw [List.map_map]; rfl
def BReadPost (w : World) (b : List Int) (e : Ending) (w' : World) : Prop :=
  ∃ g, e = .returned (.tuple #[.slice (some ⟨g, 0, none⟩) b.length b.length, .int .i64 0]) ∧ w.heap.size ≤ g ∧ w'.heap[g]? = some (.cells (u8s b).toArray 5 (0, 0)) ∧ Below w.heap.size w w'
theorem hasB_new {w' : World} {g : Nat} {b : List Int} {ty : TypeId} (h : w'.heap[g]? = some (.cells (u8s b).toArray ty (0, 0))) : HasB w' (some ⟨g, 0, none⟩) b := fun h0 =>
  ⟨g, 0, rfl, blk_lt h, fun j hj => by simp [World.cell?, h, u8s, hj]⟩
theorem blob_isB {n : Node} {b : List Int} (hb : BlobN n b) : IsB b := ⟨fun x hx => by
  obtain ⟨j, hj, rfl⟩ := List.mem_iff_getElem.1 hx
  rw [← hb.byte j hj]
  have := getB_lt n.raws (8 + j)
  omega⟩
section
variable {w : World} {own : Own} {hp : Nat} {G : Gr} {hs : List Nat} {bs : List (Option Nat)} {i tp hd t len : Nat} {T : Tab} {rest : Plan}
theorem bReadI_walk (H : HO w own hp G hs bs) (h : Live hs bs i) (b : List Int) (hb : BlobN (G.node i) b) :
    Calls Tryz.prog 104 #[.pointer (some ⟨hp, 0, none⟩), .int .u64 (plOf G hs bs i : Int)] w (BReadPost w b) := by
  refine (bRead_walk H h b hb).mono ?_
  rintro e w' ⟨g, rfl, h1, h2, h3⟩
  have e1 := getBs_blob hb 0 b.length (by omega)
  rw [List.drop_zero, List.take_length, Nat.add_zero] at e1
  have e2 : (getBs (G.node i).raws 8 b.length).length = b.length := by simp [getBs]
  rw [byV_ints, e1] at h2
  exact ⟨g, by rw [e2], h1, h2, h3⟩
set_option maxHeartbeats 1000000 in
set_option maxRecDepth 100000 in
theorem bCompare_walk (H : HO w own hp G hs bs) (h : Live hs bs i) (b : List Int) (hb : BlobN (G.node i) b) (A : Option Addr) (k : List Int) (c : Nat) (hk : IsB k) (hA : HasB w A k) :
    Calls Tryz.prog 201 #[.pointer (some ⟨hp, 0, none⟩), .int .u64 (plOf G hs bs i : Int), .slice A k.length c] w fun e w' => e = .returned (.tuple #[.int .i64 (cmpI b k), .int .i64 0]) ∧ Below w.heap.size w w' := by
  have HR := Lib.hid (bReadI_walk H h b hb)
  have HC : Hid (∀ w' g, w'.heap[g]? = some (.cells (u8s b).toArray 5 (0, 0)) → Below w.heap.size w w' → Calls Tryz.prog 145 #[.slice (some ⟨g, 0, none⟩) b.length b.length, .slice A k.length c] w' fun e w2 => e = .returned (.int .i64 (cmpI b k)) ∧ w' = w2) :=
    Lib.hid fun w' g h1 h2 => cmp_walk w' _ A b k _ c (hasB_new h1) (hA.below h2) (blob_isB hb) hk
  obtain ⟨n, hn⟩ : ∃ n, plOf G hs bs i = n := ⟨_, rfl⟩
  obtain ⟨m, hm⟩ : ∃ m, b.length = m := ⟨_, rfl⟩
  obtain ⟨l, hl⟩ : ∃ l, k.length = l := ⟨_, rfl⟩
  obtain ⟨r, hr⟩ : ∃ r, cmpI b k = r := ⟨_, rfl⟩
  have HR' : Hid (Calls Tryz.prog 104 #[.pointer (some ⟨hp, 0, none⟩), .int .u64 (n : Int)] w fun e w' => ∃ g, e = .returned (.tuple #[.slice (some ⟨g, 0, none⟩) m m, .int .i64 0]) ∧ Hid (w'.heap[g]? = some (.cells (u8s b).toArray 5 (0, 0)) ∧ Below w.heap.size w w')) := by
    rw [hn] at HR
    refine Lib.hid (HR.out.mono ?_)
    rintro e w' ⟨g, rfl, _, h2, h3⟩
    exact ⟨g, by rw [hm], Lib.hid ⟨h2, h3⟩⟩
  rw [hm, hl, hr] at HC
  rw [hn, hl, hr]
  clear H h hb hA hk hn hm hl hr HR
  go_enter Tryz.func201, Tryz.ntmps201
  go_wp2_with fail
  refine HR'.out.mono ?_
  rintro e w' ⟨g, rfl, h1⟩
  have HC2 := Lib.hid (HC.out w' g h1.out.1 h1.out.2)
  go_wp2_with fail
  refine HC2.out.mono ?_
  rintro e w2 ⟨rfl, rfl⟩
  go_wp2_with fail
  go_ret2
  exact ⟨rfl, h1.out.2⟩
def Tab.prevId (T : Tab) (h : Nat) (c1 : List Ent) : Nat := (c1.getLast?.map Ent.id).getD (T.aid h)
def Tab.prevFld (T : Tab) (h : Nat) (c1 : List Ent) : Nat := if c1.isEmpty then T.slot h else 0
theorem Tab.prev_nil (T : Tab) (h : Nat) : T.prevId h [] = T.aid h ∧ T.prevFld h [] = T.slot h := ⟨rfl, rfl⟩
theorem Tab.prev_snoc (T : Tab) (h : Nat) (c : List Ent) (y : Ent) : T.prevId h (c ++ [y]) = y.id ∧ T.prevFld h (c ++ [y]) = 0 := by
  unfold Tab.prevId Tab.prevFld
  rw [List.getLast?_append]
  simp
theorem snoc_cases {α : Type} (l : List α) : l = [] ∨ ∃ d y, l = d ++ [y] := by
  rcases List.eq_nil_or_concat l with h | ⟨d, y, h⟩
  · exact .inl h
  · exact .inr ⟨d, y, by simpa using h⟩
theorem TSt.prev (h : TSt hs bs t T) (S : Sat G (T.planL t len ++ rest)) (x : Nat) (hx : x < 18446744073709551616) (c1 c2 : List Ent) (hc : T.cur x = c1 ++ c2) :
    Live hs bs (T.prevId x c1) ∧ T.prevFld x c1 < (G.node (T.prevId x c1)).refs.length ∧ (G.node (T.prevId x c1)).refs.getD (T.prevFld x c1) 0 = headId c2 ∧ T.prevFld x c1 ≤ 1048576 := by
  rcases snoc_cases c1 with rfl | ⟨d, y, rfl⟩
  · obtain ⟨e1, e2⟩ := T.prev_nil x
    rw [e1, e2, S.arr x]
    have hg := h.ok.heads_get x hx
    obtain ⟨hl, hv⟩ := List.getElem?_eq_some_iff.1 hg
    have R := h.raw S
    have h1 := (R.arr x).2
    refine ⟨h1, hl, ?_, ?_⟩
    · show (T.heads x).getD _ 0 = _
      rw [List.getD_eq_getElem?_getD, hg, hc]; rfl
    · have h2 := R.slot x hx
      unfold Tab.arefs at h2
      have h3 := h.ok.nk2
      by_cases hi : T.inOld x = true
      · rw [hi] at h2
        simp only [if_true, List.length_map] at h2
        obtain ⟨o1, o2, o3⟩ := h.ok.olen (inOld_oid hi)
        have := pow20 o3
        omega
      · rw [Bool.not_eq_true] at hi
        rw [hi] at h2
        simp only [Bool.false_eq_true, if_false, List.length_map] at h2
        have := h.ok.nlen
        have := pow20 h3.2
        omega
  · obtain ⟨e1, e2⟩ := T.prev_snoc x d y
    have hc' : T.cur x = d ++ y :: c2 := by rw [hc]; simp
    have hn := (S.ent h.ok x hx hc').1
    rw [e1, e2, hn]
    have hy : y ∈ T.ents := T.cur_sub x (by rw [hc']; simp)
    exact ⟨(h.le hy).1, by show 0 < 3; decide, rfl, by decide⟩
def FindPost (w : World) (G : Gr) (hs : List Nat) (bs : List (Option Nat)) (T : Tab) (x : Nat) (key : List Int) (e : Ending) (w' : World) : Prop :=
  Below w.heap.size w w' ∧
  ((∃ p f : Nat, e = .returned (.tuple #[.int .u64 (p : Int), .int .i64 (f : Int), .int .u64 0]) ∧ ∀ a ∈ T.cur x, a.key ≠ key) ∨
   (∃ c1 a c2, e = .returned (.tuple #[.int .u64 (plOf G hs bs (T.prevId x c1) : Int), .int .i64 (T.prevFld x c1 : Int), .int .u64 (plOf G hs bs a.id : Int)]) ∧ T.cur x = c1 ++ a :: c2 ∧ a.key = key))
set_option maxHeartbeats 1000000 in
set_option maxRecDepth 100000 in
theorem find_walk (H : HO w own hp G hs bs) (gl : Gl w own) (ht : TAt w own hp tp hd) (hh : (hd, t) ∈ G.hands) (h : TSt hs bs t T) (S : Sat G (T.planL t len ++ rest)) (A : Option Addr) (key : List Int) (c : Nat) (hk : IsB key) (hA : HasB w A key) (x : Nat) (hx : x = hashN T.seed key) :
    Calls Tryz.prog 147 #[.pointer (some ⟨tp, 0, none⟩), .int .u64 (x : Int), .slice A key.length c] w (FindPost w G hs bs T x key) := by
  have hxl : x < 18446744073709551616 := by rw [hx]; exact hashN_lt _ _
  have HC := chain_walk H gl ht hh (h.raw S) x hxl
  have hz : plOf G hs bs 0 = 0 := pl_zero H.lay
  have HPrev : ∀ W, Below w.heap.size w W → ∀ c1 c2, T.cur x = c1 ++ c2 → Calls Tryz.prog 149 #[.pointer (some ⟨tp, 0, none⟩), .int .u64 (plOf G hs bs (T.prevId x c1) : Int), .int .i64 (T.prevFld x c1 : Int)] W fun e w' => e = .returned (.int .u64 (plOf G hs bs (headId c2) : Int)) ∧ W = w' := fun W hb c1 c2 hc => by
    obtain ⟨p1, p2, p3, _⟩ := h.prev S x hxl c1 c2 hc
    have := tget_walk (H.below hb) (ht.below hb) p1 (T.prevFld x c1) (by omega)
    have e : (G.node (T.prevId x c1)).at (plOf G hs bs) (T.prevFld x c1) = plOf G hs bs (headId c2) := by
      unfold Node.at
      rw [List.getD_eq_getElem?_getD, List.getElem?_append_left (by rw [List.length_map]; exact p2), List.getElem?_map, ← p3, List.getD_eq_getElem?_getD, List.getElem?_eq_getElem p2]; rfl
    rwa [e] at this
  have HEnt : ∀ c1 a c2, T.cur x = c1 ++ a :: c2 → plOf G hs bs a.id ≠ 0 ∧
      (∀ W, Below w.heap.size w W → Hid (Calls Tryz.prog 149 #[.pointer (some ⟨tp, 0, none⟩), .int .u64 (plOf G hs bs a.id : Int), .int .i64 3] W fun e w' => e = .returned (.int .u64 (a.hash T.seed : Int)) ∧ W = w')) ∧
      (∀ W, Below w.heap.size w W → Hid (Calls Tryz.prog 149 #[.pointer (some ⟨tp, 0, none⟩), .int .u64 (plOf G hs bs a.id : Int), .int .i64 1] W fun e w' => e = .returned (.int .u64 (plOf G hs bs a.kid : Int)) ∧ W = w')) ∧
      (∀ W, Below w.heap.size w W → Hid (Calls Tryz.prog 201 #[.pointer (some ⟨hp, 0, none⟩), .int .u64 (plOf G hs bs a.kid : Int), .slice A key.length c] W fun e w' => e = .returned (.tuple #[.int .i64 (cmpI a.key key), .int .i64 0]) ∧ Below w.heap.size w w')) := fun c1 a c2 hc => by
    have ha : a ∈ T.ents := T.cur_sub x (by rw [hc]; simp)
    obtain ⟨n1, n2⟩ := S.ent h.ok x hxl hc
    obtain ⟨l1, l2⟩ := h.le ha
    refine ⟨H.lay.ne0 _ l1, fun W hb => Lib.hid ?_, fun W hb => Lib.hid ?_, fun W hb => Lib.hid ?_⟩
    · have := tget_walk (H.below hb) (ht.below hb) l1 3 (by rw [n1]; show 3 < 3 + 3; decide)
      rw [n1] at this
      exact this
    · have := tget_walk (H.below hb) (ht.below hb) l1 1 (by rw [n1]; show 1 < 3 + 3; decide)
      rw [n1] at this
      exact this
    · refine (bCompare_walk (H.below hb) l2 a.key n2 A key c hk (hA.below hb)).mono ?_
      rintro e w' ⟨rfl, hb2⟩
      exact ⟨rfl, hb.trans (hb2.mono hb.size)⟩
  have HCell : ∀ W, Below w.heap.size w W → W.cell? ⟨tp, 0, none⟩ = some (.pointer (some ⟨hp, 0, none⟩)) := fun W hb => (ht.below hb).c0
  obtain ⟨kl, hkl⟩ : ∃ kl, key.length = kl := ⟨_, rfl⟩
  rw [hkl] at HEnt ⊢
  replace HC := Lib.hid HC; replace HPrev := Lib.hid HPrev; replace HEnt := Lib.hid HEnt; replace HCell := Lib.hid HCell; replace hz := Lib.hid hz; replace hx := Lib.hid hx
  clear H gl ht hh h S hk hA hkl
  go_enter Tryz.func147, Tryz.ntmps147
  go_wp2_with fail
  refine HC.out.mono ?_
  rintro e w' ⟨rfl, m, rfl⟩
  go_wp2_with fail
  have hb0 : Hid (Below w.heap.size w (w.drewN m)) := Lib.hid (below_drewN m)
  obtain ⟨wo, hwo⟩ : ∃ wo, w.drewN m = wo := ⟨_, rfl⟩
  rw [hwo] at hb0 ⊢
  clear hwo
  go_loopg [6, 7] (T.cur x).length (fun gq v6 v7 wr => ∃ (c1 c2 : List Ent), v6 = .int .u64 (plOf G hs bs (T.prevId x c1) : Int) ∧ v7 = .int .i64 (T.prevFld x c1 : Int) ∧ Hid (Below w.heap.size w wr ∧ T.cur x = c1 ++ c2 ∧ (∀ a ∈ c1, a.key ≠ key) ∧ c2.length = gq))
  case atStart => exact ⟨[], T.cur x, rfl, rfl, Lib.hid ⟨hb0.out, rfl, fun a ha => by simp at ha, rfl⟩⟩
  case round =>
    obtain ⟨c1, c2, rfl, rfl, HS⟩ := hrel
    have HP := Lib.hid (HPrev.out wr HS.out.1 c1 c2 HS.out.2.1)
    have k0 := HCell.out wr HS.out.1
    obtain ⟨pp, hpp⟩ : ∃ pp, plOf G hs bs (T.prevId x c1) = pp := ⟨_, rfl⟩
    obtain ⟨pf, hpf⟩ : ∃ pf, T.prevFld x c1 = pf := ⟨_, rfl⟩
    rw [hpp, hpf] at HP
    rw [hpp, hpf]
    replace hpp := Lib.hid hpp; replace hpf := Lib.hid hpf
    cases c2 with
    | nil =>
      have hz0 : plOf G hs bs (headId ([] : List Ent)) = 0 := hz.out
      rw [hz0] at HP
      clear hz0
      go_wp2_with fail
      refine HP.out.mono ?_
      rintro e w' ⟨rfl, rfl⟩
      go_wp2_with fail
      refine bodyPost_ret (results_tmp3 rfl _ _ _) rfl ?_
      refine ⟨HS.out.1, .inl ⟨pp, pf, rfl, ?_⟩⟩
      rw [HS.out.2.1, List.append_nil]
      exact HS.out.2.2.1
    | cons a c2 =>
      obtain ⟨q0, q1, q2, q3⟩ := HEnt.out c1 a c2 HS.out.2.1
      have g1 := q1 wr HS.out.1
      have hd0 : headId (a :: c2) = a.id := rfl
      rw [hd0] at HP
      obtain ⟨pe, hpe⟩ : ∃ pe, plOf G hs bs a.id = pe := ⟨_, rfl⟩
      obtain ⟨pk, hpk⟩ : ∃ pk, plOf G hs bs a.kid = pk := ⟨_, rfl⟩
      rw [hpe] at HP q0 g1 q2
      rw [hpk] at q2 q3
      have hah : a.hash T.seed < 18446744073709551616 := hashN_lt _ _
      have c0 : ((pe : Int) == 0) = false := by rw [beq_eq_false_iff_ne]; omega
      replace hpe := Lib.hid hpe
      replace q2 := Lib.hid q2; replace q3 := Lib.hid q3
      clear q1 hpk q0 hd0
      by_cases hq : a.hash T.seed = x
      · rw [hq] at g1
        by_cases hkey : a.key = key
        · have e0 : cmpI a.key key = 0 := (cmpI_zero _ _).2 hkey
          rw [e0] at q3
          replace hkey := Lib.hid hkey
          clear e0 hq hah
          go_wp2_with fail
          refine HP.out.mono ?_
          rintro e w' ⟨rfl, rfl⟩
          go_wp2_with fail
          refine g1.out.mono ?_
          rintro e w' ⟨rfl, rfl⟩
          go_wp2_with fail
          go_region_held3 (fun W => W.cell? ⟨tp, 0, none⟩ = some (.pointer (some ⟨hp, 0, none⟩))) (first | assumption | exact HCell.out _ (HS.out.1.drew)) (first | (go_at_call 149; refine Calls.mono (q2.out _ ?_).out ?_; (exact HS.out.1.drew); rintro e w2 ⟨rfl, rfl⟩) | (go_at_call 201; refine Calls.mono (q3.out _ ?_).out ?_; (exact HS.out.1.drew); rintro e w2 ⟨rfl, h2⟩; have k3 := HCell.out _ h2; have H2 := Lib.hid h2; clear h2))
          all_goals (try (go_wp2_with fail))
          refine bodyPost_ret (results_tmp3 rfl _ _ _) rfl ?_
          refine ⟨H2.out, .inr ⟨c1, a, c2, ?_, HS.out.2.1, hkey.out⟩⟩
          rw [hpp.out, hpf.out, hpe.out]
          rfl
        · have e0 : ¬ cmpI a.key key = 0 := fun e => hkey ((cmpI_zero _ _).1 e)
          obtain ⟨ci, hci⟩ : ∃ ci, cmpI a.key key = ci := ⟨_, rfl⟩
          rw [hci] at q3 e0
          have e1 : (ci == 0) = false := by rw [beq_eq_false_iff_ne]; exact e0
          replace hkey := Lib.hid hkey
          clear hq hah hci
          go_wp2_with fail
          refine HP.out.mono ?_
          rintro e w' ⟨rfl, rfl⟩
          go_wp2_with fail
          refine g1.out.mono ?_
          rintro e w' ⟨rfl, rfl⟩
          go_wp2_with fail
          go_region_held3 (fun W => W.cell? ⟨tp, 0, none⟩ = some (.pointer (some ⟨hp, 0, none⟩))) (first | assumption | exact HCell.out _ (HS.out.1.drew)) (first | (go_at_call 149; refine Calls.mono (q2.out _ ?_).out ?_; (exact HS.out.1.drew); rintro e w2 ⟨rfl, rfl⟩) | (go_at_call 201; refine Calls.mono (q3.out _ ?_).out ?_; (exact HS.out.1.drew); rintro e w2 ⟨rfl, h2⟩; have k3 := HCell.out _ h2; have H2 := Lib.hid h2; clear h2))
          all_goals (try (go_wp2_with fail))
          go_roundg c2.length
          case measure => rw [← HS.out.2.2.2]; simp
          case rel =>
            obtain ⟨p1, p2⟩ := T.prev_snoc x c1 a
            refine ⟨c1 ++ [a], c2, by rw [p1, hpe.out], by rw [p2]; rfl, Lib.hid ⟨H2.out, by rw [HS.out.2.1]; simp, fun b hb => ?_, rfl⟩⟩
            rcases List.mem_append.1 hb with hb | hb
            · exact HS.out.2.2.1 b hb
            · rw [List.mem_singleton] at hb
              subst hb; exact hkey.out
      · obtain ⟨ah, hah2⟩ : ∃ ah, a.hash T.seed = ah := ⟨_, rfl⟩
        rw [hah2] at g1 hah hq
        have e1 : ((ah : Int) == (x : Int)) = false := by rw [beq_eq_false_iff_ne]; omega
        have hkey : Hid (a.key ≠ key) := Lib.hid fun e => by
          apply hq
          rw [← hah2, hx.out, ← e]; rfl
        clear hah2 hq
        go_wp2_with fail
        refine HP.out.mono ?_
        rintro e w' ⟨rfl, rfl⟩
        go_wp2_with fail
        refine g1.out.mono ?_
        rintro e w' ⟨rfl, rfl⟩
        go_wp2_with fail
        go_roundg c2.length
        case measure => rw [← HS.out.2.2.2]; simp
        case rel =>
          obtain ⟨p1, p2⟩ := T.prev_snoc x c1 a
          refine ⟨c1 ++ [a], c2, by rw [p1, hpe.out], by rw [p2]; rfl, Lib.hid ⟨HS.out.1, by rw [HS.out.2.1]; simp, fun b hb => ?_, rfl⟩⟩
          rcases List.mem_append.1 hb with hb | hb
          · exact HS.out.2.2.1 b hb
          · rw [List.mem_singleton] at hb
            subst hb; exact hkey.out
end
end Go.Proofs.YtglglknhifjbaaaGreatDoor.Sp
namespace Go.Proofs.YtglglknhifjbaaaGreatDoor.Sp
open Go.RowKit Go.Proofs.YtglglknhifjbaaaGreatDoorW.PrintWords Go.Proofs.YtglglknhifjbaaaGreatDoorW.PrintLast Go.Proofs.YtglglknhifjbaaaGreatDoorW.PrintMore
set_option linter.unusedVariables false
set_option linter.unusedSimpArgs false
def GetPost (w : World) (G : Gr) (hs : List Nat) (bs : List (Option Nat)) (T : Tab) (key : List Int) (e : Ending) (w' : World) : Prop :=
  Below w.heap.size w w' ∧
  ((e = .returned (.tuple #[.int .u64 0, .int .u64 0, .int .u64 0, .int .i64 63]) ∧ T.find key = none) ∨
   (∃ a, T.find key = some a ∧ e = .returned (.tuple #[.int .u64 (plOf G hs bs a.ref : Int), .int .u64 (a.a : Int), .int .u64 (a.b : Int), .int .i64 0])))
theorem Tab.Ok.find_cur {T : Tab} (h : T.Ok) (key : List Int) (hn : ∀ a ∈ T.cur (hashN T.seed key), a.key ≠ key) : T.find key = none := by
  rw [T.find_none]
  intro e he hk
  have := h.where_ e he
  have e1 : e.hash T.seed = hashN T.seed key := by unfold Ent.hash; rw [hk]
  rw [e1] at this
  exact hn e this hk
section
variable {w : World} {own : Own} {hp : Nat} {G : Gr} {hs : List Nat} {bs : List (Option Nat)} {i tp hd t len : Nat} {T : Tab} {rest : Plan}
set_option maxHeartbeats 1000000 in
set_option maxRecDepth 100000 in
theorem get_walk (H : HO w own hp G hs bs) (gl : Gl w own) (ht : TAt w own hp tp hd) (hh : (hd, t) ∈ G.hands) (h : TSt hs bs t T) (S : Sat G (T.planL t len ++ rest)) (A : Option Addr) (key : List Int) (c : Nat) (hk : IsB key) (hA : HasB w A key) (hkl : key.length ≤ 4096) :
    Calls Tryz.prog 96 #[.pointer (some ⟨tp, 0, none⟩), .slice A key.length c] w (GetPost w G hs bs T key) := by
  have R := h.raw S
  have O2 : Hid (∀ n, Calls Tryz.prog 146 #[.pointer (some ⟨tp, 0, none⟩), .int .i64 2] (w.drewN n) fun e w' => e = .returned (.int .u64 (T.seed : Int)) ∧ ∃ m, w' = w.drewN m) := Lib.hid (own_at H ht hh R 2 (by decide))
  have HH : Hid (∀ W, Below w.heap.size w W → Calls Tryz.prog 148 #[.int .u64 (T.seed : Int), .slice A key.length c] W fun e w' => e = .returned (.int .u64 (hashN T.seed key : Int)) ∧ Below w.heap.size w w') := Lib.hid fun W hb => by
    refine (hashW W T.seed h.ok.seed A key c hk ((srcB_ints hk).2 (hA.below hb)) hkl).mono ?_
    rintro e w' ⟨rfl, hb2⟩
    exact ⟨rfl, hb.trans (hb2.mono hb.size)⟩
  have HF : Hid (∀ W, Below w.heap.size w W → Calls Tryz.prog 147 #[.pointer (some ⟨tp, 0, none⟩), .int .u64 (hashN T.seed key : Int), .slice A key.length c] W (FindPost W G hs bs T (hashN T.seed key) key)) := Lib.hid fun W hb => find_walk (H.below hb) (gl.below hb) (ht.below hb) hh h S A key c hk (hA.below hb) _ rfl
  have HEnt : Hid (∀ W, Below w.heap.size w W → ∀ c1 a c2, T.cur (hashN T.seed key) = c1 ++ a :: c2 → a.key = key → Below w.heap.size w W →
      plOf G hs bs a.id ≠ 0 ∧
      Hid (Calls Tryz.prog 149 #[.pointer (some ⟨tp, 0, none⟩), .int .u64 (plOf G hs bs a.id : Int), .int .i64 2] W fun e w' => e = .returned (.int .u64 (plOf G hs bs a.ref : Int)) ∧ W = w') ∧
      Hid (Calls Tryz.prog 149 #[.pointer (some ⟨tp, 0, none⟩), .int .u64 (plOf G hs bs a.id : Int), .int .i64 4] W fun e w' => e = .returned (.int .u64 (a.a : Int)) ∧ W = w') ∧
      Hid (Calls Tryz.prog 149 #[.pointer (some ⟨tp, 0, none⟩), .int .u64 (plOf G hs bs a.id : Int), .int .i64 5] W fun e w' => e = .returned (.int .u64 (a.b : Int)) ∧ W = w') ∧
      Hid (GetPost w G hs bs T key (.returned (.tuple #[.int .u64 (plOf G hs bs a.ref : Int), .int .u64 (a.a : Int), .int .u64 (a.b : Int), .int .i64 0])) W)) := Lib.hid fun W hb c1 a c2 hc ha _ => by
    have hm : a ∈ T.ents := T.cur_sub _ (by rw [hc]; simp)
    have l1 := (h.le hm).1
    have n1 := (S.ent h.ok _ (hashN_lt _ _) hc).1
    have g := fun j (hj : j < 6) => tget_walk (H.below hb) (ht.below hb) l1 j (by rw [n1]; exact hj)
    have g2 := g 2 (by decide)
    have g4 := g 4 (by decide)
    have g5 := g 5 (by decide)
    rw [n1] at g2 g4 g5
    exact ⟨H.lay.ne0 _ l1, Lib.hid g2, Lib.hid g4, Lib.hid g5, Lib.hid ⟨hb, .inr ⟨a, (h.ok.find_some key a).2 ⟨hm, ha⟩, rfl⟩⟩⟩
  have HNone : Hid (∀ W, Below w.heap.size w W → (∀ a ∈ T.cur (hashN T.seed key), a.key ≠ key) → GetPost w G hs bs T key (.returned (.tuple #[.int .u64 0, .int .u64 0, .int .u64 0, .int .i64 63])) W) := Lib.hid fun W hb hn => ⟨hb, .inl ⟨rfl, h.ok.find_cur key hn⟩⟩
  have k1 := ht.c1
  have hdl := ht.hl
  have e0 : ((hd : Int) + 1 == 0) = false := by rw [beq_eq_false_iff_ne]; omega
  obtain ⟨x, hx⟩ : ∃ x, hashN T.seed key = x := ⟨_, rfl⟩
  obtain ⟨kl, hkl0⟩ : ∃ kl, key.length = kl := ⟨_, rfl⟩
  obtain ⟨sd, hsd⟩ : ∃ sd, T.seed = sd := ⟨_, rfl⟩
  rw [hx] at HH HF HEnt HNone
  rw [hkl0] at HH HF ⊢
  rw [hsd] at O2 HH
  clear H gl ht hh h S R hk hA hkl hx hkl0 hsd
  go_enter Tryz.func96, Tryz.ntmps96
  go_wp2_with fail
  refine (O2.out 0).mono ?_
  rintro e w' ⟨rfl, m, rfl⟩
  go_wp2_with fail
  refine (HH.out _ (below_drewN m)).mono ?_
  rintro e w1 ⟨rfl, b1⟩
  replace b1 := Lib.hid b1
  go_wp2_with fail
  refine (HF.out _ b1.out).mono ?_
  rintro e w2 ⟨b2, ⟨p, f, rfl, hn⟩ | ⟨c1, a, c2, rfl, hc, ha⟩⟩
  · have HQ := Lib.hid (HNone.out _ (b1.out.trans (b2.mono b1.out.size)) hn)
    clear hn b2
    go_wp2_with fail
    refine bodyPost_ret (results_tmp4 rfl _ _ _) rfl ?_
    exact HQ.out
  · obtain ⟨q0, q2, q4, q5, q6⟩ := HEnt.out _ (b1.out.trans (b2.mono b1.out.size)) c1 a c2 hc ha (b1.out.trans (b2.mono b1.out.size))
    obtain ⟨pe, hpe⟩ : ∃ pe, plOf G hs bs a.id = pe := ⟨_, rfl⟩
    obtain ⟨pp, hpp⟩ : ∃ pp, plOf G hs bs (T.prevId x c1) = pp := ⟨_, rfl⟩
    obtain ⟨pr, hpr⟩ : ∃ pr, plOf G hs bs a.ref = pr := ⟨_, rfl⟩
    obtain ⟨v1, hv1⟩ : ∃ v1, a.a = v1 := ⟨_, rfl⟩
    obtain ⟨v2, hv2⟩ : ∃ v2, a.b = v2 := ⟨_, rfl⟩
    obtain ⟨pf, hpf⟩ : ∃ pf, T.prevFld x c1 = pf := ⟨_, rfl⟩
    rw [hpe] at q0 q2 q4 q5
    rw [hpr] at q2 q6
    rw [hv1] at q4 q6
    rw [hv2] at q5 q6
    rw [hpe, hpp, hpf]
    have c0 : ((pe : Int) == 0) = false := by rw [beq_eq_false_iff_ne]; omega
    clear hpe hpp hpr hv1 hv2 hpf hc ha b2 q0
    go_wp2_with fail
    refine q2.out.mono ?_
    rintro e w' ⟨rfl, rfl⟩
    go_wp2_with fail
    refine q4.out.mono ?_
    rintro e w' ⟨rfl, rfl⟩
    go_wp2_with fail
    refine q5.out.mono ?_
    rintro e w' ⟨rfl, rfl⟩
    go_wp2_with fail
    refine bodyPost_ret (results_tmp4 rfl _ _ _) rfl ?_
    exact q6.out
set_option maxHeartbeats 1000000 in
set_option maxRecDepth 100000 in
theorem len_walk (H : HO w own hp G hs bs) (ht : TAt w own hp tp hd) (hh : (hd, t) ∈ G.hands) {orefs : List Nat} (R : TRaw G hs bs t T len orefs) (hl : len ≤ 1073741824) :
    Calls Tryz.prog 95 #[.pointer (some ⟨tp, 0, none⟩)] w fun e w' => e = .returned (.int .i64 (len : Int)) ∧ ∃ n, w' = w.drewN n := by
  have O3 : Hid (∀ n, Calls Tryz.prog 146 #[.pointer (some ⟨tp, 0, none⟩), .int .i64 3] (w.drewN n) fun e w' => e = .returned (.int .u64 (len : Int)) ∧ ∃ m, w' = w.drewN m) := Lib.hid (own_at H ht hh R 3 (by decide))
  have m0 : IntKind.i64.wrap (len : Int) = (len : Int) := Go.IntWalk.i64_in _ (by omega)
  clear H ht hh R
  go_enter Tryz.func95, Tryz.ntmps95
  go_wp2_with fail
  refine (O3.out 0).mono ?_
  rintro e w' ⟨rfl, m, rfl⟩
  go_wp2_with fail
  go_ret
  exact ⟨rfl, _, rfl⟩
set_option maxHeartbeats 1000000 in
set_option maxRecDepth 100000 in
theorem tlay_walk (H : HO w own hp G hs bs) (ht : TAt w own hp tp hd) (hx : Live hs bs i) (n2 : (G.node i).refs.length = 3) (n3 : (G.node i).raws.length = 3) (v a b : Nat) (hv : v = 0 ∨ Live hs bs v) (ha : a < 18446744073709551616) (hb : b < 18446744073709551616) :
    Calls Tryz.prog 190 #[.pointer (some ⟨tp, 0, none⟩), .int .u64 (plOf G hs bs i : Int), .int .u64 (plOf G hs bs v : Int), .int .u64 (a : Int), .int .u64 (b : Int)] w fun e w' => e = .returned (.tuple #[]) ∧
      ∃ own', Ed w own hp G hs bs w' own' (G.put i ((((G.node i).setRef 2 v).setRw 1 a).setRw 2 b)) := by
  have k0 := ht.c0
  have S1 : Hid (Calls Tryz.prog 70 #[.pointer (some ⟨hp, 0, none⟩), .int .u64 (plOf G hs bs i : Int), .int .i64 2, .int .u64 (plOf G hs bs v : Int)] w fun e w1 => e = .returned (.int .i64 0) ∧ w1.cell? ⟨tp, 0, none⟩ = some (.pointer (some ⟨hp, 0, none⟩)) ∧
      Hid (Calls Tryz.prog 70 #[.pointer (some ⟨hp, 0, none⟩), .int .u64 (plOf G hs bs i : Int), .int .i64 4, .int .u64 (a : Int)] w1 fun e w2 => e = .returned (.int .i64 0) ∧ w2.cell? ⟨tp, 0, none⟩ = some (.pointer (some ⟨hp, 0, none⟩)) ∧
      Hid (Calls Tryz.prog 70 #[.pointer (some ⟨hp, 0, none⟩), .int .u64 (plOf G hs bs i : Int), .int .i64 5, .int .u64 (b : Int)] w2 fun e w3 => e = .returned (.int .i64 0) ∧ Hid (∃ own', Ed w own hp G hs bs w3 own' (G.put i ((((G.node i).setRef 2 v).setRw 1 a).setRw 2 b)))))) := by
    refine Lib.hid ((setRef_walk H hx 2 v (by omega) hv).mono ?_)
    rintro e w1 ⟨rfl, own1, E1⟩
    refine ⟨rfl, (ht.step E1.st).c0, Lib.hid ?_⟩
    have q1 : (G.put i ((G.node i).setRef 2 v)).node i = (G.node i).setRef 2 v := Gr.put_same _ _ _
    have r1 : ((G.node i).setRef 2 v).refs.length = 3 := by unfold Node.setRef; rw [List.length_set]; exact n2
    have s2 := setRw_walk E1.ho hx 1 4 a (by rw [q1]; show 1 < (G.node i).raws.length; omega) (by rw [q1, r1]) ha
    rw [q1, E1.pl, Gr.put_put] at s2
    refine s2.mono ?_
    rintro e w2 ⟨rfl, own2, E2⟩
    have E3 := E1.trans E2
    refine ⟨rfl, (ht.step E3.st).c0, Lib.hid ?_⟩
    have q2 : (G.put i (((G.node i).setRef 2 v).setRw 1 a)).node i = ((G.node i).setRef 2 v).setRw 1 a := Gr.put_same _ _ _
    have s3 := setRw_walk E3.ho hx 2 5 b (by rw [q2]; show 2 < ((G.node i).raws.set 1 a).length; rw [List.length_set]; omega) (by rw [q2]; show 5 = ((G.node i).setRef 2 v).refs.length + 2; rw [r1]) hb
    rw [q2, E3.pl, Gr.put_put] at s3
    refine s3.mono ?_
    rintro e w3 ⟨rfl, own4, E4⟩
    exact ⟨rfl, Lib.hid ⟨own4, E3.trans E4⟩⟩
  obtain ⟨pi, hpi⟩ : ∃ pi, plOf G hs bs i = pi := ⟨_, rfl⟩
  obtain ⟨pv, hpv⟩ : ∃ pv, plOf G hs bs v = pv := ⟨_, rfl⟩
  rw [hpi, hpv] at S1
  rw [hpi, hpv]
  clear H ht hx n2 n3 hv ha hb hpi hpv
  go_enter Tryz.func190, Tryz.ntmps190
  go_wp2_with fail
  refine S1.out.mono ?_
  rintro e w1 ⟨rfl, k1, S2⟩
  go_wp2_with fail
  refine S2.out.mono ?_
  rintro e w2 ⟨rfl, k2, S3⟩
  go_wp2_with fail
  refine S3.out.mono ?_
  rintro e w3 ⟨rfl, HE⟩
  go_wp2_with fail
  go_end0
  exact ⟨rfl, HE.out⟩
end
end Go.Proofs.YtglglknhifjbaaaGreatDoor.Sp
