/- larderlaw3.commands: two lists that hold the same rows are told alike. -/
import Derived.Test.YtdhkhjfjjbdkgaaDoorProg
import Derived.WalkKit
import Derived.KernelRfl
import Derived.Below
import Derived.RowKit3
import Derived.Lib.Hide
import Derived.WalkLawsBesides
import Derived.WalkSpells
import Derived.LoopTactic
import Derived.Outline
import Derived.Deep.QuietTactic
import Derived.BigQuiet
namespace Go.Proofs.YtdhkhjfjjbdkgaaDoor.Tab
open Go.RowKit
set_option linter.unusedVariables false
set_option linter.unusedSimpArgs false
/-- A row of the table. -/
structure Cmd where
  name : ByteArray
  arity : Int
  write : Bool
  first : Int
  last : Int
  step : Int
  count : Int
def Cmd.cells (c : Cmd) : List Value := [.string c.name, .int .i64 c.arity, .bool c.write, .int .i64 c.first, .int .i64 c.last, .int .i64 c.step, .int .i64 c.count]
def zc : Cmd := ⟨⟨#[]⟩, 0, false, 0, 0, 0, 0⟩
/-- At that address so many rows are read. -/
def Reads (w : World) (b : Nat) (xs : List Cmd) : Prop := ∀ i j u, i < xs.length → ((xs.getD i zc).cells)[j]? = some u → w.cell? ⟨b, i * 7 + j, none⟩ = some u
set_option maxHeartbeats 1000000 in
theorem same (w : World) (b1 b2 n c1 c2 : Nat) (xs : List Cmd) (hn : n = xs.length) (hm : n ≤ 1000000) (h1 : Reads w b1 xs) (h2 : Reads w b2 xs) :
    Calls Tryd.prog 18 #[.slice (some ⟨b1, 0, none⟩) n c1, .slice (some ⟨b2, 0, none⟩) n c2] w fun e w' => e = .returned (.bool true) ∧ Below w.heap.size w w' := by
  have H1 := Lib.hid h1; clear h1
  have H2 := Lib.hid h2; clear h2
  have HN := Lib.hid hn; clear hn
  go_enter Tryd.func18, Tryd.ntmps18
  go_wp2
  go_loopw [5] (fun i wr => ∃ k : Nat, k ≤ n ∧ i = .int .i64 k ∧ ∃ q, wr = w.drewN q) (fun i _ => n - (intOf i).toNat)
  case atStart => exact ⟨0, Nat.zero_le _, rfl, 0, rfl⟩
  case round =>
    obtain ⟨k, hk, rfl, q, rfl⟩ := hrel
    by_cases hlt : k < n
    · have hk1 : k < xs.length := by rw [← HN.out]; exact hlt
      obtain ⟨⟨nm, ar, wr, fi, la, st, co⟩, hx⟩ : ∃ c, xs.getD k zc = c := ⟨_, rfl⟩
      have f1 := fun j u => H1.out k j u hk1; have f2 := fun j u => H2.out k j u hk1
      rw [hx] at f1 f2; clear hx hk1
      have a0 : w.cell? ⟨b1, k * 7, none⟩ = _ := f1 0 _ rfl; have a1 := f1 1 _ rfl; have a2 := f1 2 _ rfl; have a3 := f1 3 _ rfl; have a4 := f1 4 _ rfl; have a5 := f1 5 _ rfl; have a6 := f1 6 _ rfl; clear f1
      have c0 : w.cell? ⟨b2, k * 7, none⟩ = _ := f2 0 _ rfl; have c1' := f2 1 _ rfl; have c2' := f2 2 _ rfl; have c3 := f2 3 _ rfl; have c4 := f2 4 _ rfl; have c5 := f2 5 _ rfl; have c6 := f2 6 _ rfl; clear f2
      go_wp2_with fail
      go_quiet (fail)
      go_wp2_with fail
      go_roundw
      case rel => exact ⟨k + 1, by omega, by go_num, _, rfl⟩
      case measure => simp [intOf]; omega
    · go_wp2_with fail
      go_ret
      exact ⟨rfl, ⟨rfl, rfl, rfl, Nat.le_refl _, fun _ _ => rfl⟩⟩
end Go.Proofs.YtdhkhjfjjbdkgaaDoor.Tab
