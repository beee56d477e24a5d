/-
  Texts of this proof, one behind the other: OpenSides.
-/
import Derived.Test.YtcjnchjmpkapmaaGreatR5
/- What RankMerged is given: a list of confs with calls; bytes. -/
set_option linter.unusedSimpArgs false namespace Go.Proofs.YtcjnchjmpkapmaaGreat
open Go.ChangeShapes Go.WideShapes Go.ChangeAt Go.RowKit
set_option linter.unusedVariables false
set_option maxRecDepth 100000

structure SideX where
  l : Int
  k : Int
  K : Int
  A : Option Addr
  c : Nat
  ops : List Op3
instance : Inhabited SideX := ⟨⟨0, 0, 0, none, 0, []⟩⟩
def encSd : Enc SideX 4 := ⟨fun s => [.int .i64 s.l, .int .i64 s.k, .int .i64 s.K, .slice s.A s.ops.length s.c], fun _ => rfl, by intro x u hu; simp at hu; rcases hu with rfl | rfl | rfl | rfl <;> rfl⟩
def SideOk (W : World) (s : SideX) : Prop := Sl W W.heap.size encO s.A s.ops ∧ intsO s.ops ∧ i64 s.l ∧ i64 s.k ∧ i64 s.K ∧ s.ops.length ≤ maxLen
def encU : Enc Nat 1 := ⟨fun x => [.int .u8 x], fun _ => rfl, by intro x u hu; simp at hu; subst hu; rfl⟩
section
variable {H : Type} {enc : TypeId × Value → H} {w : World} {base : Nat} {spare : Nat → Bool} {held : Bool}
end
end Go.Proofs.YtcjnchjmpkapmaaGreat
