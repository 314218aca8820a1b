/- larderref0.Copy's contract, in the printed functions' form. -/
import Derived.Test.YtdhkhjfjjbdkgaaSum
import Derived.Laws.CopyOwn
namespace Go.Proofs.Ytdhkhjfjjbdkgaa.Rec
open Go.RowKit Go.Proofs.YtdhkhjfjjbdkgaaW.PrintWords Go.Proofs.YtdhkhjfjjbdkgaaW.PrintLast Go.Proofs.YtdhkhjfjjbdkgaaW.PrintMore
set_option linter.unusedVariables false
set_option linter.unusedSimpArgs false
theorem infoU8 : (Try.prog.info? 5).map (fun i => (i.zero, i.size, i.bytes)) = some (some (.int .u8 0), 1, 1) := by kernel_rfl
theorem sizeU8 : (Try.prog.info? 5).map (·.size) = some 1 := by kernel_rfl
def Halt (p : Prop) : Prop := p
theorem halt {p : Prop} (h : Halt p) : p := h
theorem unhalt {p : Prop} (h : p) : Halt p := h
def u8s (l : List Int) : List Value := l.map fun x => .int .u8 x
theorem u8s_len (l : List Int) : (u8s l).length = l.length := by simp [u8s]
theorem u8s_one (l : List Int) : ∀ v ∈ u8s l, v.oneCell' = true := by intro v hv; simp [u8s] at hv; obtain ⟨x, _, rfl⟩ := hv; rfl
theorem u8s_src {w : World} {A : Option Addr} {l : List Int} (h : Kd.C (Kd.int .u8) w A l.length l) (h0 : 0 < l.length) : ∃ ad, A = some ad ∧ ∀ j v, (u8s l)[j]? = some v → w.cell? (ad.add j) = some v := by
  obtain ⟨ad, e, hc⟩ := (Kd.reads_of_C (d := (0 : Int)) h).2.2 h0
  refine ⟨ad, e, fun j v hv => ?_⟩
  have hj : j < l.length := by have := (List.getElem?_eq_some_iff.1 hv).1; rwa [u8s_len] at this
  have h2 := hc j hj
  rw [h2]
  rw [u8s, List.getElem?_map, List.getElem?_eq_getElem hj] at hv
  rw [List.getD_eq_getElem?_getD, List.getElem?_eq_getElem hj]
  exact hv
theorem splice_zero {cur cs : List Value} : (splice cur 0 cs).take cs.length = cs := by simp [splice]
set_option maxHeartbeats 2000000 in
set_option maxRecDepth 100000 in
theorem copy_walk (A0 : Option Addr) (c0 : Nat) (l0 : List Int) (w : World) (hr0 : Kd.C (Kd.int .u8) w A0 l0.length l0) (hc0 : l0.length ≤ c0) (hm : l0.length ≤ 281474976710656) :
    Calls Try.prog 37 #[.slice A0 l0.length c0] w fun e w' => ∃ v0_ : Value, e = .returned (v0_) ∧ Kd.R (Kd.int .u8) 5 w' w.heap.size (fun _ => True) v0_ l0 ∧ Below w.heap.size w w' := by
  have HR0 := Aside0.mk hr0
  clear hr0
  go_enter Try.func37, Try.ntmps37
  go_wp2_with ((with_reducible refine gate_dst (N := 6) rfl ?_); refine halt ?_)
  refine unhalt ?_
  refine Kd.R_make (Kd.int .u8) _ 5 rfl (N := 6) rfl 37 _ _ rfl (l0.length : Int) rfl rfl Try.underlying37 (.int .u8 0) 1 infoU8 rfl (by decide) (by omega) 0 (ok := fun _ => True) (okp := fun _ => True) rfl (fun _ hk => hk) trivial (by omega) (by simpa using hm) (Below.refl _ _) (Nat.le_refl _) ?_
  intro v w1 ho hb hg hnew
  obtain ⟨hlen, ⟨e0, hz⟩ | ⟨g, cap, cur, rfl, hg1, hh, hn, hc, hsz, htake⟩⟩ := Kd.own_of_R ho
  · obtain ⟨b, hb1, _⟩ := hnew
    rw [e0] at hb1
    simp [Value.ownBlock] at hb1
  · rw [show (List.replicate ((l0.length : Nat) : Int).toNat (0 : Int)).length = l0.length from by simp] at *
    have HS := Aside0.mk (fun h0 => u8s_src (Kd.C_below HR0.out hb) h0)
    have hh' : w1.heap[g]? = some (.cells cur.toList.toArray 5 (0, 0)) := by simpa using hh
    have HH := Aside0.mk hh'
    have HBw := Aside0.mk hb
    clear ho hb hg hnew htake hlen HR0 hh hh'
    go_wp2_with ((with_reducible refine gate_dst (N := 9) rfl ?_); refine halt ?_)
    refine unhalt ?_
    refine wpList_copy_splice rfl _ _ 37 37 rfl 5 Try.underlying37 sizeU8 _ _ _ _ _ _ rfl rfl g 0 cur.toList 5 HH.out (u8s l0) (by rw [u8s_len]; exact (Nat.min_self _).symm) (fun hp => ?_) (by rw [u8s_len]; simp; omega) (u8s_one l0) w.heap.size w HBw.out hg1 ?_
    · obtain ⟨ad, rfl, hs⟩ := HS.out (by rw [u8s_len] at hp; exact hp)
      exact ⟨rfl, ad, rfl, hs⟩
    · intro w2 hg2 hb2
      have HG2 := Aside0.mk hg2.out
      have HB2 := Aside0.mk hb2
      clear hg2 hb2
      go_wp2_with fail
      go_ret
      refine ⟨_, rfl, Kd.R_of_own ⟨?_, .inr ⟨g, cap, _, rfl, hg1, HG2.out, hn, hc, ?_, ?_⟩⟩ (fun _ _ => trivial), HB2.out⟩
      · simp [encs_length]
      · have := length_splice cur.toList 0 (u8s l0) (by rw [u8s_len]; simp; omega)
        simpa [hsz] using this
      · have := splice_zero (cur := cur.toList) (cs := u8s l0)
        rw [u8s_len] at this
        simpa [u8s, encs] using this
/-- Copy's answer, in the printed functions' form. -/
def larderref0_Copy.f (l0 : List Int) : Option (List Int) := if l0.length ≤ 281474976710656 then some l0 else none
theorem larderref0_Copy.calls (A0 : Option Addr) (c0 : Nat) (l0 : List Int) (r : List Int) (w : World) (hr0 : Kd.C (Kd.int .u8) w A0 l0.length l0) (hc0 : l0.length ≤ c0) (h : larderref0_Copy.f l0 = some r) :
    Calls Try.prog 37 #[.slice A0 l0.length c0] w fun e w' => ∃ v0_ : Value, e = .returned (v0_) ∧ Kd.R (Kd.int .u8) 5 w' w.heap.size (fun _ => True) v0_ r ∧ Below w.heap.size w w' := by
  unfold larderref0_Copy.f at h
  split at h
  · rename_i hm
    obtain rfl := Option.some.inj h
    exact copy_walk A0 c0 l0 w hr0 hc0 hm
  · cases h
end Go.Proofs.Ytdhkhjfjjbdkgaa.Rec
