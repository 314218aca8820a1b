import Derived.Test.YtglglknhifjbaaaGreatDoorGat
import Derived.Sort.Grow
import Derived.Sort.Statements
import Derived.Shelf.SlSortCmp.WholeK
namespace Go.Proofs.YtglglknhifjbaaaGreatDoor.Sp
open Go.RowKit Go.Proofs.YtglglknhifjbaaaGreatDoorW.PrintWords Go.Proofs.YtglglknhifjbaaaGreatDoorW.PrintLast Go.Proofs.YtglglknhifjbaaaGreatDoorW.PrintMore
set_option linter.unusedVariables false
set_option linter.unusedSimpArgs false
def cmpN (a b : Nat) : Int := if a < b then -1 else if b < a then 1 else 0
def hkI (x y : Nat × List Int) : Int := if cmpN x.1 y.1 ≠ 0 then cmpN x.1 y.1 else cmpI x.2 y.2
theorem cmpN_zero (a b : Nat) : cmpN a b = 0 ↔ a = b := by
  unfold cmpN
  split
  · simp; omega
  · split
    · simp; omega
    · simp; omega
theorem hkI_lt (x y : Nat × List Int) : hkI x y < 0 ↔ x.1 < y.1 ∨ x.1 = y.1 ∧ cmpI x.2 y.2 < 0 := by
  unfold hkI cmpN
  by_cases h1 : x.1 < y.1
  · rw [if_pos h1]; simp [h1]
  · rw [if_neg h1]
    by_cases h2 : y.1 < x.1
    · rw [if_pos h2]; simp; omega
    · rw [if_neg h2]; simp; omega
theorem hkI_zero (x y : Nat × List Int) : hkI x y = 0 ↔ x = y := by
  unfold hkI
  by_cases h : cmpN x.1 y.1 = 0
  · rw [if_neg (by simpa using h), cmpI_zero]
    have := (cmpN_zero _ _).1 h
    constructor
    · intro e; exact Prod.ext this e
    · intro e; rw [e]
  · rw [if_pos h]
    constructor
    · intro e; exact absurd e h
    · intro e; subst e; exact absurd ((cmpN_zero _ _).2 rfl) h
theorem hkI_irrefl (x : Nat × List Int) : ¬ hkI x x < 0 := by rw [(hkI_zero x x).2 rfl]; decide
theorem hkI_trans (x y z : Nat × List Int) (h : hkI x y < 0) (k : hkI y z < 0) : hkI x z < 0 := by
  rw [hkI_lt] at *
  rcases h with h | ⟨h1, h2⟩
  · left; rcases k with k | ⟨k1, k2⟩ <;> omega
  · rcases k with k | ⟨k1, k2⟩
    · left; omega
    · right; exact ⟨by omega, cmpI_trans _ _ _ h2 k2⟩
theorem hkI_ge_trans (x y z : Nat × List Int) (h : ¬ hkI x y < 0) (k : ¬ hkI y z < 0) : ¬ hkI x z < 0 := by
  rw [hkI_lt] at *
  intro h3
  rcases h3 with h3 | ⟨h3, h4⟩
  · exact h (.inl (Nat.lt_of_not_le fun hle => k (.inl (by omega))))
  · have e1 : ¬ x.1 < y.1 := fun q => h (.inl q)
    have e2 : ¬ y.1 < z.1 := fun q => k (.inl q)
    exact cmpI_ge_trans x.2 y.2 z.2 (fun q => h (.inr ⟨by omega, q⟩)) (fun q => k (.inr ⟨by omega, q⟩)) h4
set_option maxHeartbeats 1000000 in
theorem isNaN_walk (w : World) (a : Nat) : Calls Tryz.prog 236 #[.int .u64 a] w fun e w' => e = .returned (.bool false) ∧ w = w' := by
  go_enter Tryz.func236, Tryz.ntmps236
  have c0 : ((a : Int) == a) = true := by simp
  go_wp2_with fail
  go_ret
  exact ⟨rfl, rfl⟩
set_option maxHeartbeats 1000000 in
theorem cmpN_walk (w : World) (a b : Nat) : Calls Tryz.prog 224 #[.int .u64 a, .int .u64 b] w fun e w' => e = .returned (.int .i64 (cmpN a b)) ∧ w = w' := by
  have HN := Lib.hid fun W c => isNaN_walk W c
  have e1 : a < b → cmpN a b = -1 := fun h => by unfold cmpN; rw [if_pos h]
  have e2 : b < a → cmpN a b = 1 := fun h => by unfold cmpN; rw [if_neg (by omega), if_pos h]
  have e3 : ¬ a < b → ¬ b < a → cmpN a b = 0 := fun h k => by unfold cmpN; rw [if_neg h, if_neg k]
  replace e1 := Lib.hid e1; replace e2 := Lib.hid e2; replace e3 := Lib.hid e3
  go_enter Tryz.func224, Tryz.ntmps224
  by_cases h1 : (a : Int) < b
  · go_wp2_with (go_at_call 236; refine (HN.out _ _).mono ?_; rintro e w' ⟨rfl, rfl⟩)
    go_ret
    exact ⟨by rw [e1.out (by omega)]; rfl, rfl⟩
  · by_cases h2 : (b : Int) < a
    · go_wp2_with (go_at_call 236; refine (HN.out _ _).mono ?_; rintro e w' ⟨rfl, rfl⟩)
      go_ret
      exact ⟨by rw [e2.out (by omega)]; rfl, rfl⟩
    · go_wp2_with (go_at_call 236; refine (HN.out _ _).mono ?_; rintro e w' ⟨rfl, rfl⟩)
      go_ret
      exact ⟨by rw [e3.out (by omega) (by omega)]; rfl, rfl⟩
theorem KeyAt.has {w : World} {x : NK} (h : KeyAt w x) : HasB w (some ⟨x.g, 0, none⟩) x.k := fun h0 => ⟨x.g, 0, rfl, blk_lt h, fun j hj => by
  rw [Nat.zero_add]
  unfold World.cell?
  rw [show w.heap[x.g]? = _ from h]
  simp [u8s, hj]⟩
set_option maxHeartbeats 1000000 in
theorem byHash_walk (w : World) (x y : NK) (hx : HasB w (some ⟨x.g, 0, none⟩) x.k) (hy : HasB w (some ⟨y.g, 0, none⟩) y.k) (bx : IsB x.k) (by_ : IsB y.k) :
    Calls Tryz.prog 197 #[.agg (nkV x).toArray, .agg (nkV y).toArray] w fun e w' => e = .returned (.int .i64 (hkI (hkOf x) (hkOf y))) ∧ ∃ os', w' = Sort.grow w os' := by
  have HC := Lib.hid fun W => cmpN_walk W x.h y.h
  have HB := fun o1 o2 => (have hb1 : Below w.heap.size w ((w.alloc o1).alloc o2) := ((Below.refl _ _).alloc (Nat.le_refl _) o1).alloc (by simp) o2; cmp_walk ((w.alloc o1).alloc o2) (some ⟨x.g, 0, none⟩) (some ⟨y.g, 0, none⟩) x.k y.k x.k.length y.k.length (hx.below hb1) (hy.below hb1) bx by_)
  have e1 : hkI (hkOf x) (hkOf y) = if cmpN x.h y.h ≠ 0 then cmpN x.h y.h else cmpI x.k y.k := rfl
  rw [e1]
  clear e1 hx hy bx by_
  obtain ⟨a, b, g⟩ := x
  obtain ⟨a2, b2, g2⟩ := y
  unfold nkV
  dsimp only at HC HB ⊢
  obtain ⟨n1, hn1⟩ : ∃ n, b.length = n := ⟨_, rfl⟩
  obtain ⟨n2, hn2⟩ : ∃ n, b2.length = n := ⟨_, rfl⟩
  obtain ⟨r1, hr1⟩ : ∃ n, cmpN a a2 = n := ⟨_, rfl⟩
  obtain ⟨r2, hr2⟩ : ∃ n, cmpI b b2 = n := ⟨_, rfl⟩
  simp only [hn1, hn2, hr1, hr2] at HC HB ⊢
  clear hn1 hn2 hr1 hr2
  replace HB := Lib.hid HB
  go_enter Tryz.func197, Tryz.ntmps197
  by_cases h0 : r1 = 0
  · subst h0
    go_wp2_with (first | (go_at_call 224; refine (HC.out _).mono ?_; rintro e w' ⟨rfl, rfl⟩) | (go_at_call 145; refine (HB.out _ _).mono ?_; rintro e w' ⟨rfl, rfl⟩))
    go_ret
    exact ⟨rfl, _, by rw [Sort.alloc_eq_grow, Sort.alloc_eq_grow, Sort.grow_grow]⟩
  · have h0' : (r1 == 0) = false := by rw [beq_eq_false_iff_ne]; exact h0
    go_wp2_with (first | (go_at_call 224; refine (HC.out _).mono ?_; rintro e w' ⟨rfl, rfl⟩))
    go_ret
    exact ⟨rfl, _, by rw [Sort.alloc_eq_grow, Sort.alloc_eq_grow, Sort.grow_grow]⟩
end Go.Proofs.YtglglknhifjbaaaGreatDoor.Sp
namespace Go.Proofs.YtglglknhifjbaaaGreatDoor.Sp
open Go.RowKit Go.Proofs.YtglglknhifjbaaaGreatDoorW.PrintWords Go.Proofs.YtglglknhifjbaaaGreatDoorW.PrintLast Go.Proofs.YtglglknhifjbaaaGreatDoorW.PrintMore
set_option linter.unusedVariables false
set_option linter.unusedSimpArgs false
theorem flat2_get {α : Type} [Inhabited α] (f : α → List Value) (hf : ∀ x, (f x).length = 2) : ∀ (L : List α) (t : Nat), t < L.length * 2 → (L.flatMap f)[t]! = (f L[t / 2]!)[t % 2]!
  | [], t, h => by simp at h
  | x :: L, t, h => by
    obtain ⟨a, b, hab⟩ : ∃ a b, f x = [a, b] := by
      have := hf x
      match f x, this with
      | [a, b], _ => exact ⟨a, b, rfl⟩
    match t, h with
    | 0, _ => simp [hab]
    | 1, _ => simp [hab]
    | t + 2, h =>
      have ih := flat2_get f hf L t (by simp at h; omega)
      have e1 : (t + 2) / 2 = t / 2 + 1 := by omega
      have e2 : (t + 2) % 2 = t % 2 := by omega
      rw [List.flatMap_cons, hab, e1, e2]
      simpa using ih
theorem flat2_len {α : Type} (f : α → List Value) (hf : ∀ x, (f x).length = 2) (L : List α) : (L.flatMap f).length = L.length * 2 := by
  induction L with
  | nil => rfl
  | cons x L ih => rw [List.flatMap_cons, List.length_append, hf, ih, List.length_cons]; omega
theorem flatK_list {α : Type} [Inhabited α] (f : α → List Value) (hf : ∀ x, (f x).length = 2) (d : Array α) : (Sort.flatK f 2 d).toList = d.toList.flatMap f := by
  apply List.ext_getElem
  · rw [Array.length_toList, Sort.size_flatK, flat2_len f hf, Array.length_toList]
  · intro t h1 h2
    have ht : t < d.size * 2 := by simpa using h1
    have a1 := Sort.get_flatK f 2 d t ht
    have a2 := flat2_get f hf d.toList t (by simpa using ht)
    rw [getElem!_pos _ t (by simpa using h1)] at a1
    rw [getElem!_pos _ t h2] at a2
    rw [Array.getElem_toList, a1, a2]
    have hd : t / 2 < d.size := by omega
    rw [getElem!_pos d (t / 2) hd, getElem!_pos d.toList (t / 2) (by simpa using hd), Array.getElem_toList]
theorem nkV_len (x : NK) : (nkV x).length = 2 := rfl
def NKok (w : World) (g : Nat) (x : NK) : Prop := IsB x.k ∧ (x.k = [] ∨ KeyAt w x ∧ x.g ≠ g)
theorem NKok.has {w w' : World} {g : Nat} {x : NK} (h : NKok w g x) (hf : Fr (fun b => b = g) w w') : HasB w' (some ⟨x.g, 0, none⟩) x.k := by
  rcases h.2 with h | ⟨h, hg⟩
  · rw [h]; intro h0; simp at h0
  · have h' : KeyAt w' x := (hf.block x.g (blk_lt h) hg).trans h
    exact h'.has
def NKs (w : World) (g : Nat) : Type := { x : NK // NKok w g x }
instance (w : World) (g : Nat) : Inhabited (NKs w g) := ⟨⟨⟨0, [], 0⟩, ⟨fun z hz => by cases hz⟩, .inl rfl⟩⟩
def nkS {w : World} {g : Nat} (x : NKs w g) : List Value := nkV x.1
def nkC {w : World} {g : Nat} (x y : NKs w g) : Int := hkI (hkOf x.1) (hkOf y.1)
theorem nk_swo (w : World) (g : Nat) : Sort.SWO (ltOf (nkC (w := w) (g := g))) where
  irrefl x := by unfold ltOf nkC; simp; exact Int.not_lt.1 (hkI_irrefl _)
  trans x y z h k := by
    unfold ltOf nkC at *
    simp only [decide_eq_true_eq] at *
    exact hkI_trans _ _ _ h k
  ntrans x y z h k := by
    unfold ltOf nkC at *
    simp only [decide_eq_false_iff_not] at *
    exact hkI_ge_trans _ _ _ h k
theorem sortK_fr {α : Type} [Inhabited α] (enc : α → List Value) (w : World) (g n : Nat) (d : Array α) (os : Array Obj) : Fr (fun b => b = g) w (sortWorldK enc 2 w g 0 n d os) := by
  refine ⟨rfl, rfl, rfl, ?_, fun k hk hne => ?_⟩
  · unfold sortWorldK Sort.putRowK; simp
  · unfold sortWorldK
    rw [Sort.heap_grow_old _ _ (by unfold Sort.putRowK; simpa using hk)]
    have : g ≠ k := fun e => hne e.symm
    simp [Sort.putRowK, Sort.putRow, Sort.mapBlock, Sort.ahead, Array.getElem?_modify, this]
theorem sortK_blk {α : Type} [Inhabited α] (enc : α → List Value) (w : World) (g n : Nat) (d : Array α) (os : Array Obj) (cur : Array Value) (T : TypeId) (hb : w.heap[g]? = some (.cells cur T (0, 0))) :
    (sortWorldK enc 2 w g 0 n d os).heap[g]? = some (.cells (Sort.putCells id 0 (Sort.flatK enc 2 d) cur) T (0, 0)) := by
  have hk := blk_lt hb
  unfold sortWorldK
  rw [Sort.heap_grow_old _ _ (by unfold Sort.putRowK; simpa using hk)]
  simp [Sort.putRowK, Sort.putRow, Sort.mapBlock, Sort.ahead, Array.getElem?_modify, hb, Sort.onCells]
theorem take_put (F cur : Array Value) (h : F.size ≤ cur.size) : (Sort.putCells id 0 F cur).toList.take F.size = F.toList := by
  apply List.ext_getElem?
  intro j
  by_cases hj : j < F.size
  · rw [List.getElem?_take_of_lt hj, Array.getElem?_toList]
    simp [Sort.putCells, hj, show j < cur.size by omega]
  · rw [List.getElem?_take_eq_none (by omega), List.getElem?_eq_none (by simp; omega)]
def SortNPost (w : World) (v : Value) (N : Nat) (L : List NK) (e : Ending) (w' : World) : Prop :=
  ∃ L', e = .returned v ∧ NRow w' v N L' ∧ L'.Perm L ∧ L'.Pairwise (fun x y => 0 ≤ hkI (hkOf y) (hkOf x)) ∧ Fr (fun b => v.ownBlock = some b) w w'
def SortLaw (f cmp size : Nat) : Prop :=
  ∀ (α : Type) [Inhabited α] (enc : α → List Value) (_ : ∀ x, (enc x).length = size) (_ : ∀ x, ∀ v ∈ enc x, v.oneCell' = true) (cf : α → α → Int) (_ : Sort.SWO (ltOf cf)) (blk cap : Nat) (d : Array α) (w : World) (_ : CmpLays Tryz.prog cmp #[] enc size cf blk 0 d.size w) (_ : Sort.HoldsK enc size w blk 0 d) (_ : blk < w.heap.size) (_ : d.size < 4611686018427387904),
    Calls Tryz.prog f #[.slice (some ⟨blk, 0, none⟩) d.size cap, .func (.func cmp) #[] #[]] w fun e w' => e = .returned (.tuple #[]) ∧ ∃ d' n os, Sort.PermIn 0 d.size d d' ∧ Sort.SortedIn (ltOf cf) 0 d.size d' ∧ w' = sortWorldK enc size w blk 0 n d' os
def SortNone (f : Nat) : Prop := ∀ (p : Option Addr) (cap : Nat) (fv : Value) (w : World), Calls Tryz.prog f #[.slice p 0 cap, fv] w fun e w' => e = .returned (.tuple #[]) ∧ w = w'
theorem sortN_call (HS : SortLaw 223 197 2) (w : World) (v : Value) (N : Nat) (L : List NK) (H : NRow w v N L) (g n cap : Nat) (hv : v = .slice (some ⟨g, 0, none⟩) n cap) (hn : n < 4611686018427387904) :
    Calls Tryz.prog 223 #[v, .func (.func 197) #[] #[]] w fun e w' => e = .returned (.tuple #[]) ∧ ∃ L', NRow w' v N L' ∧ L'.Perm L ∧ L'.Pairwise (fun x y => 0 ≤ hkI (hkOf y) (hkOf x)) ∧ Fr (fun b => v.ownBlock = some b) w w' := by
  subst hv
  obtain ⟨hlen, hrow⟩ := H.row
  rcases hrow with ⟨h0, -⟩ | ⟨g', cap', cur, hv', hN, hb, hc1, hc2, hcs, htk⟩
  · cases h0
  injection hv' with e1 e2 e3
  injection e1 with e1
  injection e1 with e1
  subst e1 e2 e3
  have hok : ∀ x ∈ L, NKok w g x := fun x hx => by
    obtain ⟨q1, q2, q3, q4⟩ := H.keys x hx
    exact ⟨q3, .inr ⟨q1, fun e => q4 (by rw [e]; rfl)⟩⟩
  have hpm : ∀ (M : List NK) (hM : ∀ x ∈ M, NKok w g x), (M.pmap (fun x h => (⟨x, h⟩ : NKs w g)) hM).map (fun x => x.1) = M := fun M => by
    induction M with
    | nil => intro hM; rfl
    | cons x M ih => intro hM; simp only [List.pmap_cons, List.map_cons, ih]
  obtain ⟨d, hd⟩ : ∃ d : Array (NKs w g), d.toList.map (fun x => x.1) = L := ⟨(L.pmap (fun x h => (⟨x, h⟩ : NKs w g)) hok).toArray, hpm L hok⟩
  have hds : d.size = L.length := by rw [← hd]; simp
  have hfl : ∀ (d : Array (NKs w g)), (Sort.flatK nkS 2 d).toList = (d.toList.map (fun x => x.1)).flatMap nkV := fun d => by
    rw [flatK_list nkS (fun _ => rfl), List.flatMap_map]; rfl
  have hH : Sort.HoldsK nkS 2 w g 0 d := fun j hj => by
    rw [Sort.size_flatK] at hj
    have hj2 : j < cur.size := by rw [hcs]; omega
    have e : cur.toList.take (L.length * 2) = (Sort.flatK nkS 2 d).toList := by rw [hfl, hd, htk]
    have e2 : cur[j] = (Sort.flatK nkS 2 d)[j]! := by
      have h1 : (cur.toList.take (L.length * 2))[j]? = some cur[j] := by
        rw [List.getElem?_take_of_lt (by omega), Array.getElem?_toList, Array.getElem?_eq_getElem hj2]
      rw [e, Array.getElem?_toList] at h1
      obtain ⟨h2, h3⟩ := Array.getElem?_eq_some_iff.1 h1
      rw [getElem!_pos _ j h2, h3]
    refine ⟨?_, ?_⟩
    · unfold World.cell?
      rw [hb]
      simp [hj2, e2]
    · unfold World.frozen?
      rw [hb]
      simp
  have hcmp : CmpLays Tryz.prog 197 #[] (nkS (w := w) (g := g)) 2 nkC g 0 d.size w := fun m os dk hdk x y => by
    have hf := sortK_fr (nkS (w := w) (g := g)) w g m dk os
    refine (byHash_walk _ x.1 y.1 (x.2.has hf) (y.2.has hf) x.2.1 y.2.1).mono ?_
    rintro e w' ⟨rfl, os', rfl⟩
    exact ⟨rfl, 0, os', rfl⟩
  have hcall := HS (NKs w g) nkS (fun _ => rfl) (fun x v hv => nk_one x.1 v hv) nkC (nk_swo w g) g cap d w hcmp hH (blk_lt hb) (by omega)
  rw [hds] at hcall
  refine hcall.mono ?_
  rintro e w' ⟨rfl, d', m, os, hp, hs, rfl⟩
  have hf := sortK_fr (nkS (w := w) (g := g)) w g m d' os
  obtain ⟨hp1, -, hp2⟩ := hp
  have hperm : (d'.toList.map (fun x => x.1)).Perm L := by
    rw [← hd]
    refine List.Perm.map _ ?_
    have k1 : (d'.extract 0 L.length).toList = d'.toList := by rw [← hds, ← hp1, Array.extract_size]
    have k2 : (d.extract 0 L.length).toList = d.toList := by rw [← hds, Array.extract_size]
    rw [k1, k2] at hp2
    exact hp2
  have hlen' : (d'.toList.map (fun x => x.1)).length = L.length := hperm.length_eq
  have hblk := sortK_blk (nkS (w := w) (g := g)) w g m d' os cur _ hb
  have hfs : (Sort.flatK (nkS (w := w) (g := g)) 2 d').size = L.length * 2 := by rw [Sort.size_flatK, hp1, hds]
  refine ⟨rfl, d'.toList.map (fun x => x.1), ⟨⟨?_, .inr ⟨g, cap, _, by rw [hlen'], hN, hblk, by rw [hlen']; exact hc1, hc2, ?_, ?_⟩⟩, H.lo, fun x hx => ?_⟩, hperm, ?_, hf.mono (fun b _ hb => by rw [hb]; rfl)⟩
  · rw [flat2_len nkV nkV_len]
  · simp [Sort.putCells, hcs]
  · rw [hlen', ← hfs, take_put _ _ (by rw [hfs, hcs]; omega), hfl]
  · obtain ⟨q1, q2, q3, q4⟩ := H.keys x (hperm.mem_iff.1 hx)
    exact ⟨(hf.block x.g (blk_lt q1) (fun e => q4 (by rw [e]; rfl))).trans q1, q2, q3, q4⟩
  · rw [List.pairwise_map, List.pairwise_iff_getElem]
    intro i j hi hj hij
    have h1 := hs i j (Nat.zero_le _) hij (by rw [← hds, ← hp1]; simpa using hj)
    rw [getElem!_pos d' j (by simpa using hj), getElem!_pos d' i (by simpa using hi)] at h1
    unfold ltOf nkC at h1
    simp only [decide_eq_false_iff_not] at h1
    exact Int.not_lt.1 h1
set_option maxHeartbeats 1000000 in
theorem sortN_walk (HS : SortLaw 223 197 2) (H0 : SortNone 223) (w : World) (v : Value) (N : Nat) (L : List NK) (H : NRow w v N L) (hn : L.length < 4611686018427387904) :
    Calls Tryz.prog 196 #[v, .func (.func 197) #[] #[]] w (SortNPost w v N L) := by
  have HC : Calls Tryz.prog 223 #[v, .func (.func 197) #[] #[]] w fun e w' => e = .returned (.tuple #[]) ∧ ∃ L', NRow w' v N L' ∧ L'.Perm L ∧ L'.Pairwise (fun x y => 0 ≤ hkI (hkOf y) (hkOf x)) ∧ Fr (fun b => v.ownBlock = some b) w w' := by
    rcases H.row.2 with ⟨h1, h2⟩ | ⟨g, cap, cur, h1, h2⟩
    · rw [h1]
      refine (H0 none 0 _ w).mono ?_
      rintro e w' ⟨rfl, rfl⟩
      obtain rfl : L = [] := List.length_eq_zero_iff.1 h2
      exact ⟨rfl, [], by rw [← h1]; exact H, List.Perm.refl _, List.Pairwise.nil, Fr.refl _ _⟩
    · exact sortN_call HS w v N L H g L.length cap h1 hn
  replace HC := Lib.hid HC
  obtain ⟨A, c, hv⟩ := own_slice H.row
  clear H
  obtain ⟨m, hm⟩ : ∃ m, L.length = m := ⟨_, rfl⟩
  rw [hm] at hv
  clear hn hm
  subst hv
  go_enter Tryz.func196, Tryz.ntmps196
  go_wp2_with (go_at_call 223; refine HC.out.mono ?_; rintro e w' ⟨rfl, HR⟩)
  go_ret
  obtain ⟨L', h1, h2, h3, h4⟩ := HR
  exact ⟨L', rfl, h1, h2, h3, h4⟩
end Go.Proofs.YtglglknhifjbaaaGreatDoor.Sp
namespace Go.Proofs.YtglglknhifjbaaaGreatDoor.Sp
open Go.RowKit Go.Proofs.YtglglknhifjbaaaGreatDoorW.PrintWords Go.Proofs.YtglglknhifjbaaaGreatDoorW.PrintLast Go.Proofs.YtglglknhifjbaaaGreatDoorW.PrintMore
set_option linter.unusedVariables false
set_option linter.unusedSimpArgs false
def Tab.ars (T : Tab) : List (Nat × List (List Ent) × Nat) := (T.nid, T.nb, T.nk) :: (if T.oid = 0 then [] else [(T.oid, T.ob, T.ok)])
def Tab.kp (T : Tab) : Nat := if T.oid = 0 then T.nk else min T.nk T.ok
def cutB (bl : List (List Ent)) (each p : Nat) : List Ent := ((bl.drop (p * each)).take each).flatten
def Tab.gp (T : Tab) (p : Nat) : List Ent := T.ars.flatMap (fun a => cutB a.2.1 (2 ^ (a.2.2 - T.kp)) p)
theorem bkt_div (k kp h : Nat) (h1 : kp ≤ k) (h2 : k ≤ 64) : bkt kp h = bkt k h / 2 ^ (k - kp) := by
  unfold bkt
  rw [Nat.div_div_eq_div_mul, ← Nat.pow_add]
  congr 2
  omega
theorem bkt_mono (k a b : Nat) (h : a ≤ b) : bkt k a ≤ bkt k b := Nat.div_le_div_right h
theorem cutB_eq (s k kp p : Nat) (bl : List (List Ent)) (h1 : kp ≤ k) (h2 : k ≤ 64) (hb : ∀ i c, bl[i]? = some c → ∀ e ∈ c, bkt k (e.hash s) = i) : cutB bl (2 ^ (k - kp)) p = bl.flatten.filter (fun e => bkt kp (e.hash s) = p) := by
  obtain ⟨m, hm⟩ : ∃ m, 2 ^ (k - kp) = m := ⟨_, rfl⟩
  have m0 : 0 < m := by rw [← hm]; exact Nat.two_pow_pos _
  have hd : ∀ e, bkt kp (Ent.hash s e) = bkt k (e.hash s) / m := fun e => by rw [← hm]; exact bkt_div k kp _ h1 h2
  have hsp : bl = bl.take (p * m) ++ ((bl.drop (p * m)).take m ++ (bl.drop (p * m)).drop m) := by rw [List.take_append_drop, List.take_append_drop]
  rw [hm]
  unfold cutB
  conv => rhs; rw [hsp]
  rw [List.flatten_append, List.flatten_append, List.filter_append, List.filter_append]
  have f1 : (bl.take (p * m)).flatten.filter (fun e => bkt kp (e.hash s) = p) = [] := by
    rw [List.filter_eq_nil_iff]
    intro e he
    obtain ⟨i, c, hi, hc⟩ := mem_flat he
    have hlt : i < p * m := by
      have := (List.getElem?_eq_some_iff.1 hi).1
      rw [List.length_take] at this; omega
    rw [List.getElem?_take_of_lt hlt] at hi
    have := hb i c hi e hc
    simp only [decide_eq_true_eq, hd, this]
    intro hq
    have := (Nat.div_lt_iff_lt_mul m0).2 hlt
    omega
  have f3 : ((bl.drop (p * m)).drop m).flatten.filter (fun e => bkt kp (e.hash s) = p) = [] := by
    rw [List.filter_eq_nil_iff]
    intro e he
    obtain ⟨i, c, hi, hc⟩ := mem_flat he
    rw [List.drop_drop, List.getElem?_drop] at hi
    have := hb _ c hi e hc
    simp only [decide_eq_true_eq, hd, this]
    intro hq
    have h3 : p + 1 ≤ (p * m + m + i) / m := (Nat.le_div_iff_mul_le m0).2 (by rw [Nat.add_mul]; omega)
    omega
  have f2 : ((bl.drop (p * m)).take m).flatten.filter (fun e => bkt kp (e.hash s) = p) = ((bl.drop (p * m)).take m).flatten := by
    rw [List.filter_eq_self]
    intro e he
    obtain ⟨i, c, hi, hc⟩ := mem_flat he
    have hlt : i < m := by
      have := (List.getElem?_eq_some_iff.1 hi).1
      rw [List.length_take] at this; omega
    rw [List.getElem?_take_of_lt hlt, List.getElem?_drop] at hi
    have := hb _ c hi e hc
    simp only [decide_eq_true_eq, hd, this]
    have h3 : p ≤ (p * m + i) / m := (Nat.le_div_iff_mul_le m0).2 (by omega)
    have h4 : (p * m + i) / m < p + 1 := (Nat.div_lt_iff_lt_mul m0).2 (by rw [Nat.add_mul]; omega)
    omega
  rw [f1, f2, f3, List.nil_append, List.append_nil]
theorem Tab.Ok.kp_le {T : Tab} (h : T.Ok) : 2 ≤ T.kp ∧ T.kp ≤ 20 ∧ ∀ a ∈ T.ars, T.kp ≤ a.2.2 ∧ a.2.2 ≤ 20 ∧ a.2.1.length = 2 ^ a.2.2 := by
  have n1 := h.nk2
  by_cases ho : T.oid = 0
  · refine ⟨by unfold Tab.kp; rw [if_pos ho]; exact n1.1, by unfold Tab.kp; rw [if_pos ho]; exact n1.2, fun a ha => ?_⟩
    unfold Tab.ars at ha
    rw [if_pos ho, List.mem_singleton] at ha
    subst ha
    exact ⟨by unfold Tab.kp; rw [if_pos ho]; exact Nat.le_refl _, n1.2, h.nlen⟩
  · have n2 := h.olen ho
    have e : T.kp = min T.nk T.ok := by unfold Tab.kp; rw [if_neg ho]
    refine ⟨by omega, by omega, fun a ha => ?_⟩
    unfold Tab.ars at ha
    rw [if_neg ho] at ha
    rcases List.mem_cons.1 ha with rfl | ha
    · exact ⟨by show T.kp ≤ T.nk; omega, n1.2, h.nlen⟩
    · rw [List.mem_singleton] at ha
      subst ha
      exact ⟨by show T.kp ≤ T.ok; omega, n2.2.2, n2.1⟩
theorem Tab.Ok.gp_eq {T : Tab} (h : T.Ok) (p : Nat) : T.gp p = T.ents.filter (fun e => bkt T.kp (e.hash T.seed) = p) := by
  obtain ⟨-, -, hk⟩ := h.kp_le
  unfold Tab.gp Tab.ents
  by_cases ho : T.oid = 0
  · have e : T.ars = [(T.nid, T.nb, T.nk)] := by unfold Tab.ars; rw [if_pos ho]
    have k1 := hk (T.nid, T.nb, T.nk) (by rw [e]; exact List.mem_cons_self)
    rw [e, List.flatMap_singleton, (h.onone ho).1, cutB_eq T.seed T.nk T.kp p T.nb k1.1 (Nat.le_trans k1.2.1 (by decide)) h.nbk]
    simp
  · have e : T.ars = [(T.nid, T.nb, T.nk), (T.oid, T.ob, T.ok)] := by unfold Tab.ars; rw [if_neg ho]
    have k1 := hk (T.nid, T.nb, T.nk) (by rw [e]; exact List.mem_cons_self)
    have k2 := hk (T.oid, T.ob, T.ok) (by rw [e]; simp)
    rw [e, List.flatMap_cons, List.flatMap_singleton, cutB_eq T.seed T.nk T.kp p T.nb k1.1 (Nat.le_trans k1.2.1 (by decide)) h.nbk, cutB_eq T.seed T.ok T.kp p T.ob k2.1 (Nat.le_trans k2.2.1 (by decide)) h.obk, List.filter_append]
theorem Tab.Ok.gp_len {T : Tab} (h : T.Ok) (p : Nat) : (T.gp p).length ≤ T.ents.length := by rw [h.gp_eq]; exact List.length_filter_le _ _
def Tab.upto (T : Tab) (f p : Nat) : List Ent := T.ents.filter (fun e => decide (bkt T.kp (e.hash T.seed) < p) && decide (f ≤ e.hash T.seed))
theorem filter_or_perm {α : Type} (a b : α → Bool) (hd : ∀ x, ¬ (a x = true ∧ b x = true)) : ∀ (L : List α), (L.filter (fun x => a x || b x)).Perm (L.filter a ++ L.filter b)
  | [] => List.Perm.refl _
  | x :: L => by
    have ih := filter_or_perm a b hd L
    simp only [List.filter_cons]
    by_cases ha : a x = true
    · have hb : b x = false := by
        cases hb : b x with
        | false => rfl
        | true => exact absurd ⟨ha, hb⟩ (hd x)
      simp only [ha, hb, Bool.or_false, if_true, List.cons_append]
      exact ih.cons x
    · have ha' : a x = false := by simpa using ha
      by_cases hb : b x = true
      · simp only [ha', hb, Bool.or_true, if_true]
        exact (ih.cons x).trans (List.perm_middle.symm)
      · have hb' : b x = false := by simpa using hb
        simp only [ha', hb', Bool.or_false]
        exact ih
theorem Tab.Ok.upto_succ {T : Tab} (h : T.Ok) (f p : Nat) : (T.upto f (p + 1)).Perm (T.upto f p ++ (T.gp p).filter (fun e => decide (f ≤ e.hash T.seed))) := by
  rw [h.gp_eq, List.filter_filter]
  unfold Tab.upto
  have e : ∀ x : Ent, (decide (bkt T.kp (x.hash T.seed) < p + 1) && decide (f ≤ x.hash T.seed)) = ((decide (bkt T.kp (x.hash T.seed) < p) && decide (f ≤ x.hash T.seed)) || (decide (f ≤ x.hash T.seed) && decide (bkt T.kp (x.hash T.seed) = p))) := fun x => by
    by_cases q1 : f ≤ x.hash T.seed
    · by_cases q2 : bkt T.kp (x.hash T.seed) < p
      · simp [q1, q2, show bkt T.kp (x.hash T.seed) < p + 1 by omega]
      · by_cases q3 : bkt T.kp (x.hash T.seed) = p
        · simp [q1, q3]
        · simp [q1, q2, q3, show ¬ bkt T.kp (x.hash T.seed) < p + 1 by omega]
    · simp [q1]
  simp only [e]
  exact filter_or_perm _ _ (fun x hx => by simp at hx; omega) _
theorem Tab.upto_start (T : Tab) (f : Nat) : T.upto f (bkt T.kp f) = [] := by
  unfold Tab.upto
  rw [List.filter_eq_nil_iff]
  intro e he
  simp only [Bool.and_eq_true, decide_eq_true_eq, not_and]
  intro h1 h2
  have := bkt_mono T.kp _ _ h2
  omega
theorem Tab.Ok.upto_end {T : Tab} (h : T.Ok) (f : Nat) (hH : ∀ e : Ent, e.hash T.seed < 18446744073709551616) : T.upto f (2 ^ T.kp) = T.ents.filter (fun e => decide (f ≤ e.hash T.seed)) := by
  unfold Tab.upto
  congr 1
  funext e
  have := bkt_lt T.kp (e.hash T.seed) (by have := h.kp_le.2.1; omega) (hH e)
  simp [this]
theorem hkI_part {s kp : Nat} {x y : Nat × List Int} (h : bkt kp x.1 < bkt kp y.1) : 0 ≤ hkI y x := by
  have : x.1 < y.1 := Nat.lt_of_not_le fun hle => by have := bkt_mono kp _ _ hle; omega
  refine Int.not_lt.1 fun hlt => ?_
  rw [hkI_lt] at hlt
  omega
def restB (bl : List (List Ent)) (each p i : Nat) : List Ent := ((bl.drop i).take (p * each + each - i)).flatten
theorem restB_start (bl : List (List Ent)) (each p : Nat) : restB bl each p (p * each) = cutB bl each p := by
  unfold restB cutB
  rw [Nat.add_sub_cancel_left]
theorem restB_step (bl : List (List Ent)) (each p i : Nat) (h : i < p * each + each) (hl : i < bl.length) : restB bl each p i = bl[i] ++ restB bl each p (i + 1) := by
  unfold restB
  rw [List.drop_eq_getElem_cons hl, show p * each + each - i = (p * each + each - (i + 1)) + 1 by omega, List.take_succ_cons, List.flatten_cons]
theorem restB_end (bl : List (List Ent)) (each p : Nat) : restB bl each p (p * each + each) = [] := by
  unfold restB
  rw [Nat.sub_self, List.take_zero, List.flatten_nil]
def hkE (s : Nat) (e : Ent) : Nat × List Int := (e.hash s, e.key)
def SEnt (T : Tab) (f : Nat) (xs : List NK) (X : Nat → Prop) (W : World) : Prop :=
  (∀ x ∈ xs, KeyAt W x ∧ IsB x.k ∧ X x.g) ∧ (xs.map hkOf).Perm ((T.ents.filter (fun e => decide (f ≤ e.hash T.seed))).map (hkE T.seed)) ∧ xs.Pairwise (fun x y => 0 ≤ hkI (hkOf y) (hkOf x))
structure PreEnt (T : Tab) (f p : Nat) (pre : List NK) : Prop where
  perm : (pre.map hkOf).Perm ((T.upto f p).map (hkE T.seed))
  sort : pre.Pairwise (fun x y => 0 ≤ hkI (hkOf y) (hkOf x))
theorem PreEnt.start (T : Tab) (f : Nat) : PreEnt T f (bkt T.kp f) [] := ⟨by rw [T.upto_start]; exact List.Perm.refl _, List.Pairwise.nil⟩
theorem PreEnt.below {T : Tab} {f p : Nat} {pre : List NK} (h : PreEnt T f p pre) : ∀ x ∈ pre, bkt T.kp x.h < p := fun x hx => by
  have h1 := h.perm.mem_iff.1 (List.mem_map_of_mem hx)
  obtain ⟨e, he, e2⟩ := List.mem_map.1 h1
  unfold Tab.upto at he
  rw [List.mem_filter] at he
  have e3 : x.h = e.hash T.seed := (congrArg Prod.fst e2).symm
  have := he.2
  simp only [Bool.and_eq_true, decide_eq_true_eq] at this
  rw [e3]; exact this.1
theorem PreEnt.next {T : Tab} {f p : Nat} {pre L : List NK} (hT : T.Ok) (h : PreEnt T f p pre) (hL : (L.map hkOf).Perm ((T.gp p).map (hkE T.seed))) (hs : L.Pairwise (fun x y => 0 ≤ hkI (hkOf y) (hkOf x))) :
    PreEnt T f (p + 1) (pre ++ L.filter (fun x => decide (f ≤ x.h))) := by
  have hm : ∀ x ∈ L, bkt T.kp x.h = p := fun x hx => by
    have h1 := hL.mem_iff.1 (List.mem_map_of_mem hx)
    obtain ⟨e, he, e2⟩ := List.mem_map.1 h1
    rw [hT.gp_eq, List.mem_filter] at he
    have e3 : x.h = e.hash T.seed := (congrArg Prod.fst e2).symm
    rw [e3]; simpa using he.2
  refine ⟨?_, ?_⟩
  · rw [List.map_append]
    refine (List.Perm.append h.perm ?_).trans ((List.map_append ▸ ((hT.upto_succ f p).map (hkE T.seed))).symm)
    have h2 := hL.filter (fun q : Nat × List Int => decide (f ≤ q.1))
    rw [List.filter_map, List.filter_map] at h2
    exact h2
  · rw [List.pairwise_append]
    refine ⟨h.sort, hs.filter _, fun x hx y hy => ?_⟩
    have h1 := h.below x hx
    have h2 := hm y (List.mem_filter.1 hy).1
    exact hkI_part (s := 0) (kp := T.kp) (x := hkOf x) (y := hkOf y) (by show bkt T.kp x.h < bkt T.kp y.h; omega)
end Go.Proofs.YtglglknhifjbaaaGreatDoor.Sp
