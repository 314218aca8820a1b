/- table.New where there is room for it: walked. -/
import Derived.Test.YthdahjmkkdljbaaRoot
namespace Go.Proofs.Ythdahjmkkdljbaa.Sp
open Go.RowKit Go.Proofs.YthdahjmkkdljbaaW.PrintWords Go.Proofs.YthdahjmkkdljbaaW.PrintLast Go.Proofs.YthdahjmkkdljbaaW.PrintMore
set_option linter.unusedVariables false
set_option linter.unusedSimpArgs false
/-- With more objects behind the half's. -/
def HM.add (M : HM) (l : List AO) : HM := { M with half := ⟨M.half.size, M.half.objs ++ l⟩ }
/-- With one handle more. -/
def HM.hold (M : HM) (i v : Nat) : HM := { M with roots := rootsAt M.roots i v, nroots := M.nroots + 1 }
theorem pos_app : ∀ (l r : List AO) (k : Nat), k ≤ l.length → posOf (l ++ r) k = posOf l k
  | l, r, 0, _ => by rw [pos_zero, pos_zero]
  | [], r, k + 1, h => by simp at h
  | a :: l, r, k + 1, h => by
    show osize a + posOf (l ++ r) k = osize a + posOf l k
    rw [pos_app l r k (by simpa using h)]
theorem set_mid {α : Type} (l r : List α) (a b : α) : (l ++ a :: r).set l.length b = l ++ b :: r := by
  rw [List.set_append, if_neg (Nat.lt_irrefl _), Nat.sub_self, List.set_cons_zero]
theorem get_mid {α : Type} (l r : List α) (a : α) (h : l.length < (l ++ a :: r).length) : (l ++ a :: r)[l.length] = a := by
  rw [List.getElem_append_right (Nat.le_refl _)]; simp
theorem setMid {w : World} {own : Own} {hp : Nat} {M : HM} {x : HX} {l : List AO} {a : AO} {r : List AO} {j v : Nat}
    (h : ∃ h : l.length < (l ++ a :: r).length, HMem w own hp { M with half := ⟨M.half.size, (l ++ a :: r).set l.length ((l ++ a :: r)[l.length].1, (l ++ a :: r)[l.length].2.set j v)⟩ } x) : HMem w own hp { M with half := ⟨M.half.size, l ++ (a.1, a.2.set j v) :: r⟩ } x := by
  obtain ⟨h1, h2⟩ := h
  rw [get_mid, set_mid] at h2
  exact h2
theorem tabShape : Shape 4 2 3 := ⟨by decide, by decide, by decide, by decide⟩
theorem bktShape (n : Nat) (h : n ≤ 1048576) : Shape 5 n 0 := ⟨by decide, by decide, h, by decide⟩
def TabPost (w : World) (own : Own) (hp : Nat) (M : HM) (seed : Nat) (e : Ending) (w' : World) : Prop :=
  ∃ t own' x', e = .returned (.tuple #[.pointer (some ⟨t, 0, none⟩), .int .i64 0]) ∧ w.heap.size ≤ t ∧ own' t = 0 ∧ w'.heap[t]? = some (.cells #[.pointer (some ⟨hp, 0, none⟩), .int .i64 ((M.roots.length : Int) + 1)] 95 (0, 0)) ∧
    HMem w' own' hp ((M.hold M.roots.length (usedOf M.half.objs)).add [(headW 4 2 3, [usedOf M.half.objs + 6, 0, seed, 0, 0]), (headW 5 4 0, [0, 0, 0, 0])]) x' ∧ HStep w own w' own'
set_option maxHeartbeats 4000000 in
set_option maxRecDepth 100000 in
theorem ref_walk (w : World) (own : Own) (hp : Nat) (M : HM) (x : HX) (H : HMem w own hp M x) (t i : Nat) (ht : w.heap[t]? = some (.cells #[.pointer (some ⟨hp, 0, none⟩), .int .i64 ((i : Int) + 1)] 95 (0, 0))) (hi : i < M.roots.length) (hu : M.roots[i].1 = true) (hm : M.roots.length ≤ 4611686018427387904) :
    Calls Try.prog 31 #[.pointer (some ⟨t, 0, none⟩)] w fun e w' => e = .returned (.int .u64 (M.roots[i].2 : Int)) ∧ ∃ n, w' = w.drewN n := by
  have k0 : w.cell? ⟨t, 0, none⟩ = some (.pointer (some ⟨hp, 0, none⟩)) := by simp [World.cell?, ht]
  have k1 : w.cell? ⟨t, 1, none⟩ = some (.int .i64 ((i : Int) + 1)) := by simp [World.cell?, ht]
  have HH := Lib.hid H; have HU := Lib.hid hu
  clear H hu ht
  go_enter Try.func31, Try.ntmps31
  go_wp2_with fail
  go_quiet ((go_at_call 39; exact quiet_left (at_walk _ own hp M x (HH.out.drewN _) i hi HU.out hm ((i : Int) + 1) rfl)))
  go_wp2_with fail
  go_ret
  exact ⟨rfl, _, rfl⟩
theorem HMem.roots_lt {w : World} {own : Own} {hp : Nat} {M : HM} {x : HX} (h : HMem w own hp M x) : M.half.size ≤ 1048576 := h.half.s2
set_option maxHeartbeats 8000000 in
set_option maxRecDepth 100000 in
theorem tabNew_room (w : World) (own : Own) (hp : Nat) (M : HM) (x : HX) (H : HMem w own hp M x) (seed : Nat) (hs : seed < 18446744073709551616) (hroom : usedOf M.half.objs + 11 ≤ M.half.size) (hu : ∀ j (h : j < M.roots.length), M.roots[j].1 = true) (hm : M.roots.length ≤ 1099511627776) (hn : M.nroots ≤ 1099511627776) :
    Calls Try.prog 23 #[.pointer (some ⟨hp, 0, none⟩), .int .u64 (seed : Int)] w (TabPost w own hp M seed) := by
  have hs2 := H.half.s2
  have hpos : posOf (M.half.objs ++ [(headW 4 2 3, [0, 0, 0, 0, 0])]) M.half.objs.length = usedOf M.half.objs := pos_app _ _ _ (Nat.le_refl _)
  have HH := Lib.hid H; have HU := Lib.hid hu; have HP := Lib.hid hpos
  clear H hu hpos
  go_enter Try.func23, Try.ntmps23
  go_wp2_with fail
  refine (hAlloc_room w own hp M x HH.out 4 2 3 tabShape (by decide) (by omega)).mono ?_
  rintro e w1 ⟨own1, rfl, h1, s1⟩
  have H1 : Hid (HMem w1 own1 hp (M.add [(headW 4 2 3, [0, 0, 0, 0, 0])]) x) := h1
  have S1 := Lib.hid s1
  clear h1 s1
  go_wp2_with fail
  refine (hSet_small w1 own1 hp (M.add [(headW 4 2 3, [0, 0, 0, 0, 0])]) x H1.out M.half.objs.length (by simp [HM.add]) 4 2 3 tabShape (by simp [HM.add]) (by simp [HM.add]) (usedOf M.half.objs) HP.out.symm 2 seed (by decide) hs (fun h => absurd h (by decide))).mono ?_
  rintro e w2 ⟨rfl, h2, s2⟩
  have H2 : Hid (HMem w2 own1 hp (M.add [(headW 4 2 3, [0, 0, seed, 0, 0])]) x) := setMid (M := M) (l := M.half.objs) (a := (headW 4 2 3, [0, 0, 0, 0, 0])) (r := []) (j := 2) (v := seed) h2
  have S2 := Lib.hid s2
  clear h2 s2
  go_wp2_with fail
  have hg := good_small w2 own1 hp (M.add [(headW 4 2 3, [0, 0, seed, 0, 0])]) x H2.out M.half.objs.length (by simp [HM.add]) 4 2 3 tabShape (by simp [HM.add]) (usedOf M.half.objs) (pos_app _ _ _ (Nat.le_refl _)).symm
  have hused : usedOf M.half.objs < 18446744073709551616 := by omega
  refine (root_walk w2 own1 hp (M.add [(headW 4 2 3, [0, 0, seed, 0, 0])]) x H2.out (usedOf M.half.objs) hused hg M.roots.length (Nat.le_refl _) (fun j h _ => HU.out j h) (fun h => absurd h (Nat.lt_irrefl _)) hm hn).mono ?_
  rintro e w3 ⟨own3, x3, rfl, h3, s3⟩
  have H3 : Hid (HMem w3 own3 hp ((M.hold M.roots.length (usedOf M.half.objs)).add [(headW 4 2 3, [0, 0, seed, 0, 0])]) x3) := h3
  have S3 := Lib.hid s3
  clear h3 s3 hg
  have hus : usedOf (M.half.objs ++ [(headW 4 2 3, [0, 0, seed, 0, 0])]) = usedOf M.half.objs + 6 := by rw [used_snoc]; rfl
  have HUS := Lib.hid hus
  clear hus
  go_wp2_with fail
  refine (hAlloc_room w3 own3 hp ((M.hold M.roots.length (usedOf M.half.objs)).add [(headW 4 2 3, [0, 0, seed, 0, 0])]) x3 H3.out 5 4 0 (bktShape 4 (by decide)) (by decide) (by show usedOf (M.half.objs ++ [(headW 4 2 3, [0, 0, seed, 0, 0])]) + 5 ≤ M.half.size; rw [HUS.out]; omega)).mono ?_
  rintro e w4 ⟨own4, rfl, h4, s4⟩
  rw [show usedOf ((M.hold M.roots.length (usedOf M.half.objs)).add [(headW 4 2 3, [0, 0, seed, 0, 0])]).half.objs = usedOf M.half.objs + 6 from HUS.out]
  have H4 : Hid (HMem w4 own4 hp ((M.hold M.roots.length (usedOf M.half.objs)).add [(headW 4 2 3, [0, 0, seed, 0, 0]), (headW 5 4 0, [0, 0, 0, 0])]) x3) := by
    have : (M.half.objs ++ [(headW 4 2 3, [0, 0, seed, 0, 0])]) ++ [(headW 5 4 0, [0, 0, 0, 0])] = M.half.objs ++ [(headW 4 2 3, [0, 0, seed, 0, 0]), (headW 5 4 0, [0, 0, 0, 0])] := by rw [List.append_assoc]; rfl
    have h5 : HMem w4 own4 hp { M.hold M.roots.length (usedOf M.half.objs) with half := ⟨M.half.size, (M.half.objs ++ [(headW 4 2 3, [0, 0, seed, 0, 0])]) ++ [(headW 5 4 0, [0, 0, 0, 0])]⟩ } x3 := h4
    rw [this] at h5
    exact h5
  have S4 := Lib.hid s4
  clear h4 s4
  go_wp2_with fail
  have hra : rootsAt M.roots M.roots.length (usedOf M.half.objs) = M.roots ++ [(true, usedOf M.half.objs)] := if_neg (Nat.lt_irrefl _)
  have hlen5 : M.roots.length < ((M.hold M.roots.length (usedOf M.half.objs)).add [(headW 4 2 3, [0, 0, seed, 0, 0]), (headW 5 4 0, [0, 0, 0, 0])]).roots.length := by
    show M.roots.length < (rootsAt M.roots M.roots.length (usedOf M.half.objs)).length
    rw [hra]; simp
  have hget5 : ((M.hold M.roots.length (usedOf M.half.objs)).add [(headW 4 2 3, [0, 0, seed, 0, 0]), (headW 5 4 0, [0, 0, 0, 0])]).roots[M.roots.length] = (true, usedOf M.half.objs) := by
    have e : ((M.hold M.roots.length (usedOf M.half.objs)).add [(headW 4 2 3, [0, 0, seed, 0, 0]), (headW 5 4 0, [0, 0, 0, 0])]).roots = M.roots ++ [(true, usedOf M.half.objs)] := hra
    simp only [e]
    rw [List.getElem_append_right (Nat.le_refl _)]; simp
  have hle5 : ((M.hold M.roots.length (usedOf M.half.objs)).add [(headW 4 2 3, [0, 0, seed, 0, 0]), (headW 5 4 0, [0, 0, 0, 0])]).roots.length ≤ 4611686018427387904 := by
    show (rootsAt M.roots M.roots.length (usedOf M.half.objs)).length ≤ _
    rw [hra]; simp; omega
  have H5 : Hid (HMem (w4.alloc (.cells #[.pointer (some ⟨hp, 0, none⟩), .int .i64 ((M.roots.length : Int) + 1)] 95)) own4 hp ((M.hold M.roots.length (usedOf M.half.objs)).add [(headW 4 2 3, [0, 0, seed, 0, 0]), (headW 5 4 0, [0, 0, 0, 0])]) x3) := H4.out.alloc _
  have hT5 : (w4.alloc (.cells #[.pointer (some ⟨hp, 0, none⟩), .int .i64 ((M.roots.length : Int) + 1)] 95)).heap[w4.heap.size]? = some (.cells #[.pointer (some ⟨hp, 0, none⟩), .int .i64 ((M.roots.length : Int) + 1)] 95 (0, 0)) := by rw [alloc_at, if_pos rfl]
  have HG5 := Lib.hid hget5; have HRA := Lib.hid hra; have HL5 := Lib.hid hlen5; have HT5 := Lib.hid hT5; have HLe := Lib.hid hle5
  clear hra hT5
  refine (ref_walk _ own4 hp _ x3 H5.out w4.heap.size M.roots.length HT5.out HL5.out (by rw [HG5.out]) HLe.out).mono ?_
  rw [HG5.out]
  clear hget5
  rintro e w5 ⟨rfl, n5, rfl⟩
  have H6 : Hid (HMem ((w4.alloc (.cells #[.pointer (some ⟨hp, 0, none⟩), .int .i64 ((M.roots.length : Int) + 1)] 95)).drewN n5) own4 hp ((M.hold M.roots.length (usedOf M.half.objs)).add [(headW 4 2 3, [0, 0, seed, 0, 0]), (headW 5 4 0, [0, 0, 0, 0])]) x3) := H5.out.drewN _
  go_wp2_with fail
  rw [show ((usedOf M.half.objs : Int) + 6) = ((usedOf M.half.objs + 6 : Nat) : Int) by omega]
  have hps : posOf (M.half.objs ++ [(headW 4 2 3, [0, 0, seed, 0, 0]), (headW 5 4 0, [0, 0, 0, 0])]) (M.half.objs.length + 1) = usedOf M.half.objs + 6 := by
    rw [pos_succ _ _ (by simp), pos_app _ _ _ (Nat.le_refl _)]
    rw [get_mid]; rfl
  have hg6 := good_small _ own4 hp ((M.hold M.roots.length (usedOf M.half.objs)).add [(headW 4 2 3, [0, 0, seed, 0, 0]), (headW 5 4 0, [0, 0, 0, 0])]) x3 H6.out (M.half.objs.length + 1) (by simp [HM.add, HM.hold]) 5 4 0 (bktShape 4 (by decide)) (by simp [HM.add, HM.hold, List.getElem_append_right]) (usedOf M.half.objs + 6) hps.symm
  refine (hSet_small _ own4 hp ((M.hold M.roots.length (usedOf M.half.objs)).add [(headW 4 2 3, [0, 0, seed, 0, 0]), (headW 5 4 0, [0, 0, 0, 0])]) x3 H6.out M.half.objs.length (by simp [HM.add, HM.hold]) 4 2 3 tabShape (by simp [HM.add, HM.hold]) (by simp [HM.add, HM.hold]) (usedOf M.half.objs) (pos_app _ _ _ (Nat.le_refl _)).symm 0 (usedOf M.half.objs + 6) (by decide) (by omega) (fun _ => hg6)).mono ?_
  rintro e w7 ⟨rfl, h7, s7⟩
  have H7 : Hid (HMem w7 own4 hp ((M.hold M.roots.length (usedOf M.half.objs)).add [(headW 4 2 3, [usedOf M.half.objs + 6, 0, seed, 0, 0]), (headW 5 4 0, [0, 0, 0, 0])]) x3) := setMid (M := M.hold M.roots.length (usedOf M.half.objs)) (l := M.half.objs) (a := (headW 4 2 3, [0, 0, seed, 0, 0])) (r := [(headW 5 4 0, [0, 0, 0, 0])]) (j := 0) (v := usedOf M.half.objs + 6) h7
  have S7 := Lib.hid s7
  clear h7 s7 hg6 hps
  go_wp2_with fail
  go_ret2
  have st : HStep w own w4 own4 := ((S1.out.trans S2.out).trans S3.out).trans S4.out
  have st5 := st.trans (HStep.alloc (w := w4) (o := own4) (.cells #[.pointer (some ⟨hp, 0, none⟩), .int .i64 ((M.roots.length : Int) + 1)] 95))
  have o4 : own4 w4.heap.size = 0 := H4.out.top _ (Nat.le_refl _)
  refine ⟨w4.heap.size, own4, x3, rfl, st.fr.size, o4, ?_, H7.out, (st5.trans (HStep.drewN n5)).trans S7.out⟩
  rw [S7.out.fr.block w4.heap.size (by rw [drewN_heap]; simp) (by rw [o4]; simp), drewN_heap]
  exact HT5.out
end Go.Proofs.Ythdahjmkkdljbaa.Sp
