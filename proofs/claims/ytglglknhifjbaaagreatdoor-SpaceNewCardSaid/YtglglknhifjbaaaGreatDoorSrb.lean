import Derived.Test.YtglglknhifjbaaaGreatDoorEnt
import Derived.Test.YtglglknhifjbaaaGreatDoorPrt
import Derived.Deep.AppendLies
import Derived.OwnWalkIn
import Derived.RangeFuncNested
import Derived.Shelf.SlSortCmp.NoneTotal
import Derived.Ground.SlsfProg
namespace Go.Proofs.YtglglknhifjbaaaGreatDoor.Sp
open Go.RowKit Go.Proofs.YtglglknhifjbaaaGreatDoorW.PrintWords Go.Proofs.YtglglknhifjbaaaGreatDoorW.PrintLast Go.Proofs.YtglglknhifjbaaaGreatDoorW.PrintMore
set_option linter.unusedVariables false
set_option linter.unusedSimpArgs false
set_option maxHeartbeats 1000000 in
theorem entries_walk (w : World) (tp f : Nat) : Calls Tryz.prog 143 #[.pointer (some ⟨tp, 0, none⟩), .int .u64 (f : Int)] w fun e w' =>
    e = .returned (.func (.func 193) #[] #[.pointer (some ⟨w.heap.size, 0, none⟩), .pointer (some ⟨w.heap.size + 1, 0, none⟩)]) ∧ w' = (w.alloc (.cells #[.pointer (some ⟨tp, 0, none⟩)] 83)).alloc (.cells #[.int .u64 (f : Int)] 22) := by
  go_enter Tryz.func143, Tryz.ntmps143
  go_wp2_with fail
  go_ret
  exact ⟨rfl, rfl⟩
def keyV (x : NK) : Value := .slice (some ⟨x.g, 0, none⟩) x.k.length x.k.length
def KI (n₀ kb : Nat) (pre : List NK) (X : Nat → Prop) (W : World) : Prop :=
  ∃ v, W.heap[kb]? = some (.cells #[v] 54 (0, 0)) ∧ W.ownsRow 0 53 1 v pre.length (pre.map keyV) ∧ (∀ b, v.ownBlock = some b → n₀ ≤ b ∧ ¬ X b) ∧ ¬ X kb ∧ n₀ ≤ kb
theorem KI.abm (n₀ kb : Nat) : AbM (KI n₀ kb) := fun s X A B h hf => by
  obtain ⟨v, h1, h2, h3, h4, h5⟩ := h
  have hlt := blk_lt h1
  refine ⟨v, (hf.block _ hlt h4).trans h1, own_move h2 (fun b hb => ?_), fun b hb => ⟨(h3 b hb).1, fun hx => ?_⟩, fun hx => ?_, h5⟩
  · obtain ⟨cells, hc⟩ := own_typed h2 b hb
    exact hf.block b (blk_lt hc) (h3 b hb).2
  · obtain ⟨cells, hc⟩ := own_typed h2 b hb
    have := blk_lt hc
    rcases hx with hx | hx
    · exact (h3 b hb).2 hx
    · omega
  · rcases hx with hx | hx
    · exact h4 hx
    · omega
theorem KI.put (n₀ kb B : Nat) : PutM B (KI n₀ kb) := fun s X W l o o' h hl ho hc => by
  obtain ⟨v, h1, h2, h3, h4, h5⟩ := h
  have hne : ∀ (b : Nat) (c : Array Value) (t : TypeId), W.heap[b]? = some (.cells c t (0, 0)) → b ≠ l := fun b c t hb e => by
    subst e
    rw [hb] at ho
    injection ho with ho
    subst ho
    exact absurd hc (by simp [Obj.isCells])
  refine ⟨v, (World.putObj_heap_other (hne _ _ _ h1)).trans h1, own_move h2 (fun b hb => ?_), h3, h4, h5⟩
  obtain ⟨cells, hc2⟩ := own_typed h2 b hb
  exact World.putObj_heap_other (hne _ _ _ hc2)
theorem SEnt.put {T : Tab} {f : Nat} {xs : List NK} {X : Nat → Prop} {W : World} (h : SEnt T f xs X W) (l : Nat) (o : Obj) (hl : ¬ X l) : SEnt T f xs X (W.putObj l o) :=
  ⟨fun x hx => by
    obtain ⟨h1, h2, h3⟩ := h.1 x hx
    exact ⟨(World.putObj_heap_other (fun e => hl (by rw [← e]; exact h3))).trans h1, h2, h3⟩, h.2⟩
section
variable {w0 : World} {hp : Nat} {G : Gr} {hs : List Nat} {bs : List (Option Nat)} {tp n₀ n b1 b2 f : Nat} {T : Tab}
theorem entries_seq (hn1 : 1 ≤ n) (HC : EnC w0 hp tp G hs bs T n₀) (hok : T.Ok) (hz : plOf G hs bs 0 = 0) (hz1 : T.oid ≠ 0 → plOf G hs bs T.oid ≠ 0)
    (HS : SortLaw 223 197 2) (HS0 : SortNone 223)
    (hf : f < 18446744073709551616) (hents : T.ents.length ≤ 1073741824) (w : World) (hfr : Fr (fun b => n₀ ≤ b) w0 w) (hb1 : n₀ ≤ b1) (hb2 : n₀ ≤ b2)
    (c1 : w.heap[b1]? = some (.cells #[.pointer (some ⟨tp, 0, none⟩)] 83 (0, 0))) (c2 : w.heap[b2]? = some (.cells #[.int .u64 (f : Int)] 22 (0, 0))) :
    SeqM Fence.wide n Tryz.prog 193 #[.pointer (some ⟨b1, 0, none⟩), .pointer (some ⟨b2, 0, none⟩)] (fun x => #[.agg (nkV x).toArray]) n₀ VK (SEnt T f) (fun _ _ _ => True) (fun b => b = b1 ∨ b = b2) w := fun l J Jx hJ hJx hY hj => by
  refine callsIn_wide.2 ((entries1 hn1 J Jx hJ hY HC hok hz hz1 HS HS0 hf hents hfr hb1 hb2 c1 c2 hj).mono ?_)
  rintro e W' ⟨h1, h2⟩
  refine ⟨h1, ?_⟩
  rcases h2 with ⟨xs, X, q1, q2⟩ | ⟨pre, X, q1⟩
  · exact .inl ⟨xs, X, q1, q2⟩
  · exact .inr ⟨pre, X, trivial, q1⟩
end
theorem wpListIn_pushOne {F : Fence} {nn : Nat} {P : Program} {ops : Array Oper} {rest : List Oper} {o : Oper} {a : Act} {Q : Exit → Act → World → Prop} (w : World) (hgd : o.guard = none) (s x : Operand) (t e : TypeId) (z : Value) (bytes : Nat)
    (ho : o.op = .call { callee := .builtin .append, args := #[s, x], argTypes := #[t, t] })
    (ht : P.underlying t = some (.slice e)) (hinfo : (P.info? e).map (fun i => (i.zero, i.size, i.bytes)) = some (some z, 1, bytes)) (hz : z.cells.size = 1)
    (v : Value) (n : Nat) (xs : List Value) (u : Value) (h1 : u.oneCell' = true) (hs : a.eval s = v) (Hn : Nat) (hx : a.eval x = .slice (some ⟨Hn, 0, none⟩) 1 1) (hc : w.cell? ⟨Hn, 0, none⟩ = some u) (hr : w.ownsRow 0 e 1 v n xs) (hl : (n + 1) * bytes ≤ 140737488355328) (h63 : n + 1 ≤ maxLen)
    (h : ∀ g' cap' w1, w1.ownsRow 0 e 1 (.slice (some ⟨g', 0, none⟩) (n + 1) cap') (n + 1) (xs ++ [u]) → w.grownBy w1 v.ownBlock → (v.ownBlock = some g' ∨ w.heap.size ≤ g') → wpListIn F nn P ops Q rest (a.put o.dst (.slice (some ⟨g', 0, none⟩) (n + 1) cap')) w1) :
    wpListIn F nn P ops Q (o :: rest) a w := by
  obtain ⟨i0, hi, hzz⟩ := Option.map_eq_some_iff.1 hinfo
  simp only [Prod.mk.injEq] at hzz
  obtain ⟨hz0, hz1', hz2⟩ := hzz
  refine wpListIn_plain hgd fun K hK' => ?_
  obtain ⟨g, cap, w', hrun, r1, r2, r3, r4⟩ := run_append_lies (P := P) w t o.type 0 e i0 z 1 bytes ht hi hz0 hz1' hz2 hz (by decide) v n xs hr ⟨Hn, 0, none⟩ 1 1 [u] rfl (fun j y hj => by
    match j, hj with
    | 0, hj => simp at hj; subst hj; simpa [Addr.add] using hc) (fun y hy => by rw [List.mem_singleton] at hy; subst hy; exact h1) (by decide) h63 hl (Nat.zero_le _) w.heap.size rfl
  unfold Oper.wpIn
  refine ⟨?_, ?_⟩
  · simp [Oper.about, ho, resolve, Target.leads, Sem.run_pure]
  · rw [Oper.semAt_plain F _ _ (by rw [ho]; intro c hc'; cases hc')]
    simp [execOp, ho, resolve, invoke, builtin, hs, hx, hrun, Result.andThen]
    exact hK' _ _ (h g cap w' r1 r2 (r3.imp id (fun e => Nat.le_of_eq e.symm)))
end Go.Proofs.YtglglknhifjbaaaGreatDoor.Sp
namespace Go.Proofs
open Go.Shelf
def Tryz.sortNl_ren : Go.Shelf.Ren := ⟨fun | 6 => 223 | 15 => 180 | 14 => 235 | 28 => 214 | 29 => 215 | 20 => 246 | 21 => 247 | 22 => 248 | 23 => 249 | 24 => 250 | 25 => 251 | 26 => 252 | 27 => 253 | 46 => 257 | 47 => 227 | 48 => 228 | 49 => 258 | 50 => 259 | 57 => 261 | n => n, fun | 22 => 266 | 24 => 215 | 25 => 269 | 3 => 3 | 39 => 164 | 0 => 0 | 53 => 284 | 55 => 22 | 4 => 4 | 46 => 277 | 45 => 276 | 50 => 281 | 5 => 5 | 9 => 9 | 66 => 293 | 70 => 296 | 76 => 306 | 77 => 307 | n => n, fun | n => n⟩
theorem Tryz.sortNl : Go.Proofs.SlLaysF0.n6 Tryz.prog Tryz.sortNl_ren := {
  mixed := by kernel_rfl
  f6 := ⟨Tryz.f223.name, by decide, Tryz.func223.trans (congrArg some (by kernel_rfl))⟩
  f14 := ⟨Tryz.f235.name, by decide, Tryz.func235.trans (congrArg some (by kernel_rfl))⟩
  f15 := Tryz.func180.trans (congrArg some (by kernel_rfl))
  f20 := ⟨Tryz.f246.name, by decide, Tryz.func246.trans (congrArg some (by kernel_rfl))⟩
  f21 := ⟨Tryz.f247.name, by decide, Tryz.func247.trans (congrArg some (by kernel_rfl))⟩
  f22 := ⟨Tryz.f248.name, by decide, Tryz.func248.trans (congrArg some (by kernel_rfl))⟩
  f23 := ⟨Tryz.f249.name, by decide, Tryz.func249.trans (congrArg some (by kernel_rfl))⟩
  f24 := ⟨Tryz.f250.name, by decide, Tryz.func250.trans (congrArg some (by kernel_rfl))⟩
  f25 := ⟨Tryz.f251.name, by decide, Tryz.func251.trans (congrArg some (by kernel_rfl))⟩
  f26 := ⟨Tryz.f252.name, by decide, Tryz.func252.trans (congrArg some (by kernel_rfl))⟩
  f27 := ⟨Tryz.f253.name, by decide, Tryz.func253.trans (congrArg some (by kernel_rfl))⟩
  f28 := Tryz.func214.trans (congrArg some (by kernel_rfl))
  f29 := Tryz.func215.trans (congrArg some (by kernel_rfl))
  f46 := ⟨Tryz.f257.name, by decide, Tryz.func257.trans (congrArg some (by kernel_rfl))⟩
  f47 := Tryz.func227.trans (congrArg some (by kernel_rfl))
  f48 := Tryz.func228.trans (congrArg some (by kernel_rfl))
  f49 := ⟨Tryz.f258.name, by decide, Tryz.func258.trans (congrArg some (by kernel_rfl))⟩
  f50 := ⟨Tryz.f259.name, by decide, Tryz.func259.trans (congrArg some (by kernel_rfl))⟩
  f57 := ⟨Tryz.f261.name, by decide, Tryz.func261.trans (congrArg some (by kernel_rfl))⟩
  t0 := Tryz.underlying0
  a0 := Tryz.isAgg0
  z0 := Tryz.sizeOf0
  v0 := Tryz.zeroValue0
  t3 := Tryz.underlying3
  a3 := Tryz.isAgg3
  z3 := Tryz.sizeOf3
  v3 := Tryz.zeroValue3
  t4 := Tryz.underlying4
  a4 := Tryz.isAgg4
  z4 := Tryz.sizeOf4
  v4 := Tryz.zeroValue4
  t5 := Tryz.underlying5
  a5 := Tryz.isAgg5
  z5 := Tryz.sizeOf5
  v5 := Tryz.zeroValue5
  t9 := Tryz.underlying9
  a9 := Tryz.isAgg9
  z9 := Tryz.sizeOf9
  v9 := Tryz.zeroValue9
  t22 := Tryz.underlying266
  a22 := Tryz.isAgg266
  z22 := Tryz.sizeOf266
  v22 := Tryz.zeroValue266
  t25 := Tryz.underlying269
  a25 := Tryz.isAgg269
  z25 := Tryz.sizeOf269
  v25 := Tryz.zeroValue269
  t39 := Tryz.underlying164
  a39 := Tryz.isAgg164
  z39 := Tryz.sizeOf164
  v39 := Tryz.zeroValue164
  t45 := Tryz.underlying276
  a45 := Tryz.isAgg276
  z45 := Tryz.sizeOf276
  v45 := Tryz.zeroValue276
  t46 := Tryz.underlying277
  a46 := Tryz.isAgg277
  z46 := Tryz.sizeOf277
  v46 := Tryz.zeroValue277
  t50 := Tryz.underlying281
  a50 := Tryz.isAgg281
  z50 := Tryz.sizeOf281
  v50 := Tryz.zeroValue281
  t53 := Tryz.underlying284
  a53 := Tryz.isAgg284
  z53 := Tryz.sizeOf284
  v53 := Tryz.zeroValue284
  t55 := Tryz.underlying22
  a55 := Tryz.isAgg22
  z55 := Tryz.sizeOf22
  v55 := Tryz.zeroValue22
  t66 := Tryz.underlying293
  a66 := Tryz.isAgg293
  z66 := Tryz.sizeOf293
  v66 := Tryz.zeroValue293
  t70 := Tryz.underlying296
  a70 := Tryz.isAgg296
  z70 := Tryz.sizeOf296
  v70 := Tryz.zeroValue296
  t76 := Tryz.underlying306
  a76 := Tryz.isAgg306
  z76 := Tryz.sizeOf306
  v76 := Tryz.zeroValue306
  t77 := Tryz.underlying307
  a77 := Tryz.isAgg307
  z77 := Tryz.sizeOf307
  v77 := Tryz.zeroValue307 }
def Tryz.sortBl_ren : Go.Shelf.Ren := ⟨fun | 6 => 198 | 15 => 180 | 14 => 225 | 28 => 214 | 29 => 215 | 20 => 237 | 21 => 238 | 22 => 239 | 23 => 240 | 24 => 241 | 25 => 242 | 26 => 243 | 27 => 244 | 46 => 254 | 47 => 227 | 48 => 228 | 49 => 255 | 50 => 256 | 57 => 260 | n => n, fun | 22 => 54 | 24 => 53 | 25 => 130 | 3 => 3 | 39 => 164 | 0 => 0 | 53 => 284 | 55 => 22 | 4 => 4 | 46 => 277 | 45 => 276 | 50 => 281 | 5 => 5 | 9 => 9 | 66 => 293 | 70 => 296 | 76 => 306 | 77 => 307 | n => n, fun | n => n⟩
theorem Tryz.sortBl : Go.Proofs.SlLaysF.n6 Tryz.prog Tryz.sortBl_ren := {
  mixed := by kernel_rfl
  f6 := ⟨Tryz.f198.name, by decide, Tryz.func198.trans (congrArg some (by kernel_rfl))⟩
  f14 := ⟨Tryz.f225.name, by decide, Tryz.func225.trans (congrArg some (by kernel_rfl))⟩
  f15 := Tryz.func180.trans (congrArg some (by kernel_rfl))
  f20 := ⟨Tryz.f237.name, by decide, Tryz.func237.trans (congrArg some (by kernel_rfl))⟩
  f21 := ⟨Tryz.f238.name, by decide, Tryz.func238.trans (congrArg some (by kernel_rfl))⟩
  f22 := ⟨Tryz.f239.name, by decide, Tryz.func239.trans (congrArg some (by kernel_rfl))⟩
  f23 := ⟨Tryz.f240.name, by decide, Tryz.func240.trans (congrArg some (by kernel_rfl))⟩
  f24 := ⟨Tryz.f241.name, by decide, Tryz.func241.trans (congrArg some (by kernel_rfl))⟩
  f25 := ⟨Tryz.f242.name, by decide, Tryz.func242.trans (congrArg some (by kernel_rfl))⟩
  f26 := ⟨Tryz.f243.name, by decide, Tryz.func243.trans (congrArg some (by kernel_rfl))⟩
  f27 := ⟨Tryz.f244.name, by decide, Tryz.func244.trans (congrArg some (by kernel_rfl))⟩
  f28 := Tryz.func214.trans (congrArg some (by kernel_rfl))
  f29 := Tryz.func215.trans (congrArg some (by kernel_rfl))
  f46 := ⟨Tryz.f254.name, by decide, Tryz.func254.trans (congrArg some (by kernel_rfl))⟩
  f47 := Tryz.func227.trans (congrArg some (by kernel_rfl))
  f48 := Tryz.func228.trans (congrArg some (by kernel_rfl))
  f49 := ⟨Tryz.f255.name, by decide, Tryz.func255.trans (congrArg some (by kernel_rfl))⟩
  f50 := ⟨Tryz.f256.name, by decide, Tryz.func256.trans (congrArg some (by kernel_rfl))⟩
  f57 := ⟨Tryz.f260.name, by decide, Tryz.func260.trans (congrArg some (by kernel_rfl))⟩
  t0 := Tryz.underlying0
  a0 := Tryz.isAgg0
  z0 := Tryz.sizeOf0
  v0 := Tryz.zeroValue0
  t3 := Tryz.underlying3
  a3 := Tryz.isAgg3
  z3 := Tryz.sizeOf3
  v3 := Tryz.zeroValue3
  t4 := Tryz.underlying4
  a4 := Tryz.isAgg4
  z4 := Tryz.sizeOf4
  v4 := Tryz.zeroValue4
  t5 := Tryz.underlying5
  a5 := Tryz.isAgg5
  z5 := Tryz.sizeOf5
  v5 := Tryz.zeroValue5
  t9 := Tryz.underlying9
  a9 := Tryz.isAgg9
  z9 := Tryz.sizeOf9
  v9 := Tryz.zeroValue9
  t22 := Tryz.underlying54
  a22 := Tryz.isAgg54
  z22 := Tryz.sizeOf54
  v22 := Tryz.zeroValue54
  a24 := Tryz.isAgg53
  z24 := Tryz.sizeOf53
  t25 := Tryz.underlying130
  a25 := Tryz.isAgg130
  z25 := Tryz.sizeOf130
  v25 := Tryz.zeroValue130
  t39 := Tryz.underlying164
  a39 := Tryz.isAgg164
  z39 := Tryz.sizeOf164
  v39 := Tryz.zeroValue164
  t45 := Tryz.underlying276
  a45 := Tryz.isAgg276
  z45 := Tryz.sizeOf276
  v45 := Tryz.zeroValue276
  t46 := Tryz.underlying277
  a46 := Tryz.isAgg277
  z46 := Tryz.sizeOf277
  v46 := Tryz.zeroValue277
  t50 := Tryz.underlying281
  a50 := Tryz.isAgg281
  z50 := Tryz.sizeOf281
  v50 := Tryz.zeroValue281
  t53 := Tryz.underlying284
  a53 := Tryz.isAgg284
  z53 := Tryz.sizeOf284
  v53 := Tryz.zeroValue284
  t55 := Tryz.underlying22
  a55 := Tryz.isAgg22
  z55 := Tryz.sizeOf22
  v55 := Tryz.zeroValue22
  t66 := Tryz.underlying293
  a66 := Tryz.isAgg293
  z66 := Tryz.sizeOf293
  v66 := Tryz.zeroValue293
  t70 := Tryz.underlying296
  a70 := Tryz.isAgg296
  z70 := Tryz.sizeOf296
  v70 := Tryz.zeroValue296
  t76 := Tryz.underlying306
  a76 := Tryz.isAgg306
  z76 := Tryz.sizeOf306
  v76 := Tryz.zeroValue306
  t77 := Tryz.underlying307
  a77 := Tryz.isAgg307
  z77 := Tryz.sizeOf307
  v77 := Tryz.zeroValue307 }
end Go.Proofs
namespace Go.Proofs.YtglglknhifjbaaaGreatDoor.Sp
open Go.RowKit Go.Proofs.YtglglknhifjbaaaGreatDoorW.PrintWords Go.Proofs.YtglglknhifjbaaaGreatDoorW.PrintLast Go.Proofs.YtglglknhifjbaaaGreatDoorW.PrintMore
theorem sortLawN : SortLaw 223 197 2 := fun α _ enc hk h1 cf hO blk cap d w hcmp hH hblk hsz => by
  have eg : ∀ args w, (callFunc 197 args).run Tryz.prog w = .ok (.enter 197 args) w := enters_of Tryz.func197 (by kernel_rfl) rfl
  exact AnyQ.slices_SortFunc Tryz.sortNl 2 Tryz.isAgg215 Tryz.sizeOf215 enc hk h1 cf hO _ #[] blk 0 cap d w eg hcmp hH hblk hsz
theorem sortNoneN : SortNone 223 := fun p cap fv w => (AnyF.slices_SortFunc_none Tryz.sortNl p cap fv w).mono fun _ _ h => ⟨h.1, h.2.symm⟩
def SortLaw1 (f cmp : Nat) : Prop :=
  ∀ (α : Type) [Inhabited α] (enc : α → Value) (_ : OneCell enc) (cf : α → α → Int) (_ : Sort.SWO (ltOf cf)) (blk cap : Nat) (d : Array α) (w : World) (_ : CmpLays1 Tryz.prog cmp #[] enc cf blk 0 d.size w) (_ : Sort.Holds enc w blk 0 d) (_ : blk < w.heap.size) (_ : d.size < 4611686018427387904),
    Calls Tryz.prog f #[.slice (some ⟨blk, 0, none⟩) d.size cap, .func (.func cmp) #[] #[]] w fun e w' => e = .returned (.tuple #[]) ∧ ∃ d' n os, Sort.PermIn 0 d.size d d' ∧ Sort.SortedIn (ltOf cf) 0 d.size d' ∧ w' = sortWorld enc w blk 0 n d' os
theorem sortLawB : SortLaw1 198 145 := fun α _ enc h1 cf hO blk cap d w hcmp hH hblk hsz => by
  have eg : ∀ args w, (callFunc 145 args).run Tryz.prog w = .ok (.enter 145 args) w := enters_of Tryz.func145 (by kernel_rfl) rfl
  exact Any.slices_SortFunc Tryz.sortBl enc h1 cf hO _ #[] blk 0 cap d w eg hcmp hH hblk hsz
theorem sortNoneB : SortNone 198 := fun p cap fv w => (AnyF.slices_SortFunc_none (P := Tryz.prog) (ρ := Tryz.sortBl_ren) { Tryz.sortBl with } p cap fv w).mono fun _ _ h => ⟨h.1, h.2.symm⟩
end Go.Proofs.YtglglknhifjbaaaGreatDoor.Sp
namespace Go.Proofs.YtglglknhifjbaaaGreatDoor.Sp
open Go.RowKit Go.Proofs.YtglglknhifjbaaaGreatDoorW.PrintWords Go.Proofs.YtglglknhifjbaaaGreatDoorW.PrintLast Go.Proofs.YtglglknhifjbaaaGreatDoorW.PrintMore
set_option linter.unusedVariables false
set_option linter.unusedSimpArgs false
structure KRow (w : World) (v : Value) (L : List NK) : Prop where
  row : w.ownsRow 0 53 1 v L.length (L.map keyV)
  keys : ∀ x ∈ L, KeyAt w x ∧ IsB x.k ∧ v.ownBlock ≠ some x.g
def keyS {w : World} {g : Nat} (x : NKs w g) : Value := keyV x.1
def keyC {w : World} {g : Nat} (x y : NKs w g) : Int := cmpI x.1.k y.1.k
theorem key_swo (w : World) (g : Nat) : Sort.SWO (ltOf (keyC (w := w) (g := g))) where
  irrefl x := by unfold ltOf keyC; rw [(cmpI_zero _ _).2 rfl]; rfl
  trans x y z h k := by
    unfold ltOf keyC at *
    simp only [decide_eq_true_eq] at *
    exact cmpI_trans _ _ _ h k
  ntrans x y z h k := by
    unfold ltOf keyC at *
    simp only [decide_eq_false_iff_not] at *
    exact cmpI_ge_trans _ _ _ h k
theorem sort1_fr {α : Type} [Inhabited α] (enc : α → Value) (w : World) (g n : Nat) (d : Array α) (os : Array Obj) : Fr (fun b => b = g) w (sortWorld enc w g 0 n d os) := by
  refine ⟨rfl, rfl, rfl, ?_, fun k hk hne => ?_⟩
  · unfold sortWorld; simp
  · unfold sortWorld
    rw [Sort.heap_grow_old _ _ (by simpa using hk)]
    have : g ≠ k := fun e => hne e.symm
    simp [Sort.putRow, Sort.mapBlock, Sort.ahead, Array.getElem?_modify, this]
theorem sort1_blk {α : Type} [Inhabited α] (enc : α → Value) (w : World) (g n : Nat) (d : Array α) (os : Array Obj) (cur : Array Value) (T : TypeId) (hb : w.heap[g]? = some (.cells cur T (0, 0))) :
    (sortWorld enc w g 0 n d os).heap[g]? = some (.cells (Sort.putCells enc 0 d cur) T (0, 0)) := by
  have hk := blk_lt hb
  unfold sortWorld
  rw [Sort.heap_grow_old _ _ (by simpa using hk)]
  simp [Sort.putRow, Sort.mapBlock, Sort.ahead, Array.getElem?_modify, hb, Sort.onCells]
theorem take_put1 {α : Type} [Inhabited α] (enc : α → Value) (d : Array α) (cur : Array Value) (h : d.size ≤ cur.size) : (Sort.putCells enc 0 d cur).toList.take d.size = d.toList.map enc := by
  apply List.ext_getElem?
  intro j
  by_cases hj : j < d.size
  · rw [List.getElem?_take_of_lt hj, Array.getElem?_toList]
    simp [Sort.putCells, hj, show j < cur.size by omega]
  · rw [List.getElem?_take_eq_none (by omega), List.getElem?_eq_none (by simp; omega)]
def SortBPost (w : World) (v : Value) (L : List NK) (e : Ending) (w' : World) : Prop :=
  ∃ L', e = .returned v ∧ KRow w' v L' ∧ L'.Perm L ∧ L'.Pairwise (fun x y => 0 ≤ cmpI y.k x.k) ∧ Fr (fun b => v.ownBlock = some b) w w'
theorem sortB_call (w : World) (v : Value) (L : List NK) (H : KRow w v L) (g n cap : Nat) (hv : v = .slice (some ⟨g, 0, none⟩) n cap) (hn : n < 4611686018427387904) :
    Calls Tryz.prog 198 #[v, .func (.func 145) #[] #[]] w fun e w' => e = .returned (.tuple #[]) ∧ ∃ L', KRow w' v L' ∧ L'.Perm L ∧ L'.Pairwise (fun x y => 0 ≤ cmpI y.k x.k) ∧ Fr (fun b => v.ownBlock = some b) w w' := by
  subst hv
  obtain ⟨hlen, hrow⟩ := H.row
  rcases hrow with ⟨h0, -⟩ | ⟨g', cap', cur, hv', hN, hb, hc1, hc2, hcs, htk⟩
  · cases h0
  injection hv' with e1 e2 e3
  injection e1 with e1
  injection e1 with e1
  subst e1 e2 e3
  have hok : ∀ x ∈ L, NKok w g x := fun x hx => by
    obtain ⟨q1, q3, q4⟩ := H.keys x hx
    exact ⟨q3, .inr ⟨q1, fun e => q4 (by rw [e]; rfl)⟩⟩
  have hpm : ∀ (M : List NK) (hM : ∀ x ∈ M, NKok w g x), (M.pmap (fun x h => (⟨x, h⟩ : NKs w g)) hM).map (fun x => x.1) = M := fun M => by
    induction M with
    | nil => intro hM; rfl
    | cons x M ih => intro hM; simp only [List.pmap_cons, List.map_cons, ih]
  obtain ⟨d, hd⟩ : ∃ d : Array (NKs w g), d.toList.map (fun x => x.1) = L := ⟨(L.pmap (fun x h => (⟨x, h⟩ : NKs w g)) hok).toArray, hpm L hok⟩
  have hds : d.size = L.length := by rw [← hd]; simp
  have hmm : ∀ (d : Array (NKs w g)), d.toList.map keyS = (d.toList.map (fun x => x.1)).map keyV := fun d => by rw [List.map_map]; rfl
  have hH : Sort.Holds keyS w g 0 d := fun j hj => by
    have hj2 : j < cur.size := by rw [hcs]; omega
    have e : cur.toList.take (L.length * 1) = d.toList.map keyS := by rw [hmm, hd, htk]
    have e2 : cur[j] = keyS d[j]! := by
      have h1 : (cur.toList.take (L.length * 1))[j]? = some cur[j] := by
        rw [List.getElem?_take_of_lt (by omega), Array.getElem?_toList, Array.getElem?_eq_getElem hj2]
      rw [e, List.getElem?_map, Array.getElem?_toList, Array.getElem?_eq_getElem hj] at h1
      rw [getElem!_pos d j hj]
      simpa using h1.symm
    refine ⟨?_, ?_⟩
    · unfold World.cell?
      rw [hb]
      simp [hj2, e2]
    · unfold World.frozen?
      rw [hb]
      simp
  have hcmp : CmpLays1 Tryz.prog 145 #[] (keyS (w := w) (g := g)) keyC g 0 d.size w := fun m os dk hdk x y => by
    have hf := sort1_fr (keyS (w := w) (g := g)) w g m dk os
    refine (cmp_walk _ _ _ x.1.k y.1.k _ _ (x.2.has hf) (y.2.has hf) x.2.1 y.2.1).mono ?_
    rintro e w' ⟨rfl, rfl⟩
    exact ⟨rfl, 0, #[], by rw [Sort.grow_empty]; rfl⟩
  have hcall := sortLawB (NKs w g) keyS (fun _ => rfl) keyC (key_swo w g) g cap d w hcmp hH (blk_lt hb) (by omega)
  rw [hds] at hcall
  refine hcall.mono ?_
  rintro e w' ⟨rfl, d', m, os, hp, hs, rfl⟩
  have hf := sort1_fr (keyS (w := w) (g := g)) w g m d' os
  obtain ⟨hp1, -, hp2⟩ := hp
  have hperm : (d'.toList.map (fun x => x.1)).Perm L := by
    rw [← hd]
    refine List.Perm.map _ ?_
    have k1 : (d'.extract 0 L.length).toList = d'.toList := by rw [← hds, ← hp1, Array.extract_size]
    have k2 : (d.extract 0 L.length).toList = d.toList := by rw [← hds, Array.extract_size]
    rw [k1, k2] at hp2
    exact hp2
  have hlen' : (d'.toList.map (fun x => x.1)).length = L.length := hperm.length_eq
  have hblk := sort1_blk (keyS (w := w) (g := g)) w g m d' os cur _ hb
  have hd's : d'.size = L.length := hp1.trans hds
  refine ⟨rfl, d'.toList.map (fun x => x.1), ⟨⟨?_, .inr ⟨g, cap, _, by rw [hlen'], hN, hblk, by rw [hlen']; exact hc1, hc2, ?_, ?_⟩⟩, fun x hx => ?_⟩, hperm, ?_, hf.mono (fun b _ hb => by rw [hb]; rfl)⟩
  · rw [List.length_map, Nat.mul_one]
  · simp [Sort.putCells, hcs]
  · rw [hlen', Nat.mul_one, ← hd's, take_put1 _ _ _ (by rw [hd's, hcs]; omega), hmm]
  · obtain ⟨q1, q3, q4⟩ := H.keys x (hperm.mem_iff.1 hx)
    exact ⟨(hf.block x.g (blk_lt q1) (fun e => q4 (by rw [e]; rfl))).trans q1, q3, q4⟩
  · rw [List.pairwise_map, List.pairwise_iff_getElem]
    intro i j hi hj hij
    have h1 := hs i j (Nat.zero_le _) hij (by rw [← hd's]; simpa using hj)
    rw [getElem!_pos d' j (by simpa using hj), getElem!_pos d' i (by simpa using hi)] at h1
    unfold ltOf keyC at h1
    simp only [decide_eq_false_iff_not] at h1
    exact Int.not_lt.1 h1
set_option maxHeartbeats 1000000 in
theorem sortB_walk (w : World) (v : Value) (L : List NK) (H : KRow w v L) (hn : L.length < 4611686018427387904) :
    Calls Tryz.prog 144 #[v, .func (.func 145) #[] #[]] w (SortBPost w v L) := by
  have HC : Calls Tryz.prog 198 #[v, .func (.func 145) #[] #[]] w fun e w' => e = .returned (.tuple #[]) ∧ ∃ L', KRow w' v L' ∧ L'.Perm L ∧ L'.Pairwise (fun x y => 0 ≤ cmpI y.k x.k) ∧ Fr (fun b => v.ownBlock = some b) w w' := by
    rcases H.row.2 with ⟨h1, h2⟩ | ⟨g, cap, cur, h1, h2⟩
    · rw [h1]
      refine (sortNoneB none 0 _ w).mono ?_
      rintro e w' ⟨rfl, rfl⟩
      obtain rfl : L = [] := List.length_eq_zero_iff.1 h2
      exact ⟨rfl, [], by rw [← h1]; exact H, List.Perm.refl _, List.Pairwise.nil, Fr.refl _ _⟩
    · exact sortB_call w v L H g L.length cap h1 hn
  replace HC := Lib.hid HC
  obtain ⟨A, c, hv⟩ := own_slice H.row
  clear H
  obtain ⟨m, hm⟩ : ∃ m, L.length = m := ⟨_, rfl⟩
  rw [hm] at hv
  clear hn hm
  subst hv
  go_enter Tryz.func144, Tryz.ntmps144
  go_wp2_with (go_at_call 198; refine HC.out.mono ?_; rintro e w' ⟨rfl, HR⟩)
  go_ret
  obtain ⟨L', h1, h2, h3, h4⟩ := HR
  exact ⟨L', rfl, h1, h2, h3, h4⟩
end Go.Proofs.YtglglknhifjbaaaGreatDoor.Sp
