/- Small words that all walks use. -/
import Derived.Test.YtalnhdfgjjhhbaaRows
import Derived.WalkKit
import Derived.WalkLawsBesides
import Derived.ProofKit
import Derived.OpenShut
import Derived.Below
import Derived.Lib.Hide
import Derived.BigQuiet
import Derived.Deep.DeepMust
import Derived.Outline
namespace Go.Proofs.Ytalnhdfgjjhhbaa
open Go.ChangeShapes Go.WideShapes Go.ChangeAt Go.RowKit

theorem ret_bool {a b : Bool} (h : a = b) : Ending.returned (.bool a) = .returned (.bool b) := by rw [h]
theorem ret_int {k : IntKind} {a b : Int} (h : a = b) : Ending.returned (.int k a) = .returned (.int k b) := by rw [h]

@[go_sem] theorem run_store_float (P : Program) (w : World) (a : Addr) (m : Mode) (k : FloatKind) (b : Nat) : (store a (.float k b) m).run P w = stored P w a (.float k b) m := run_store P w a _ m rfl
@[go_sem] theorem run_store_complex (P : Program) (w : World) (a : Addr) (m : Mode) (k : FloatKind) (x y : Nat) : (store a (.complex k x y) m).run P w = stored P w a (.complex k x y) m := run_store P w a _ m rfl

/-- Below old memory's end all cells and marks read as before. -/
theorem bcell {W w1 : World} (hb : Below W.heap.size W w1) :
    (∀ b o, b < W.heap.size → w1.cell? ⟨b, o, none⟩ = W.cell? ⟨b, o, none⟩) ∧ (∀ b o, b < W.heap.size → w1.frozen? ⟨b, o, none⟩ = W.frozen? ⟨b, o, none⟩) :=
  ⟨fun b o h => hb.cell (p := ⟨b, o, none⟩) h, fun b o h => hb.frozen (p := ⟨b, o, none⟩) h⟩
/-- A call's new memory, told from where the caller began. -/
theorem Below.then_ {w W w1 : World} (h : Below w.heap.size w W) (hb : Below W.heap.size W w1) : Below w.heap.size w w1 := h.trans (hb.mono h.size)
theorem Below.allocW {w w' : World} (h : Below w.heap.size w w') (o : Obj) : Below w.heap.size w (w'.alloc o) := h.alloc h.size o
theorem bsize {B : Nat} {W w1 : World} (hb : Below B W w1) : W.heap.size ≤ w1.heap.size := hb.size

/-- New blocks, and a count of draws. -/
structure Ext where
  new : Array Obj
  drawn : Nat
instance : Inhabited Ext := ⟨⟨#[], 0⟩⟩
def ext (W : World) (x : Ext) : World := { W with heap := W.heap ++ x.new, drawn := x.drawn }

theorem Below.ext_of {W w' : World} (h : Below W.heap.size W w') : ∃ x, w' = ext W x := by
  refine ⟨⟨w'.heap.extract W.heap.size w'.heap.size, w'.drawn⟩, ?_⟩
  have hh : w'.heap = W.heap ++ w'.heap.extract W.heap.size w'.heap.size := by
    have hs := h.size
    apply Array.ext_getElem?
    intro i
    rw [Array.getElem?_append]
    split
    · rename_i hi; exact h.block i hi
    · rename_i hi
      rw [Array.getElem?_extract]
      have e : W.heap.size + (i - W.heap.size) = i := by omega
      simp only [e, Nat.min_self]
      split
      · rfl
      · rw [Array.getElem?_eq_none (by omega)]
  cases w' with
  | mk heap tape drawn os output =>
    have h1 := h.os
    have h2 := h.tape
    have h3 := h.output
    simp only at h1 h2 h3 hh
    simp only [ext]
    rw [← hh, h1, h2, h3]

theorem ext_below (W : World) (x : Ext) : Below W.heap.size W (ext W x) := by
  refine ⟨rfl, rfl, rfl, by simp [ext], fun k hk => ?_⟩
  simp [ext, Array.getElem?_append, hk]

@[go_sem] theorem ext_size (W : World) (x : Ext) : (ext W x).heap.size = W.heap.size + x.new.size := by simp [ext]
@[go_sem] theorem ext_cell (W : World) (x : Ext) (b o : Nat) (s : Option Nat) (h : b < W.heap.size) : (ext W x).cell? ⟨b, o, s⟩ = W.cell? ⟨b, o, s⟩ :=
  (ext_below W x).cell (p := ⟨b, o, s⟩) h
@[go_sem] theorem ext_frozen (W : World) (x : Ext) (b o : Nat) (s : Option Nat) (h : b < W.heap.size) : (ext W x).frozen? ⟨b, o, s⟩ = W.frozen? ⟨b, o, s⟩ :=
  (ext_below W x).frozen (p := ⟨b, o, s⟩) h
@[go_sem] theorem ext_setCell (W : World) (x : Ext) (b o : Nat) (s : Option Nat) (v : Value) (h : b < W.heap.size) : (ext W x).setCell ⟨b, o, s⟩ v = ext (W.setCell ⟨b, o, s⟩ v) x := by
  simp only [ext, World.setCell]
  congr 1
  apply Array.ext_getElem?
  intro i
  simp only [Array.getElem?_modify, Array.getElem?_append, Array.size_modify]
  by_cases hi : b = i
  · subst hi; simp [h]
  · simp [hi]
theorem ext_ext (W : World) (x y : Ext) : ext (ext W x) y = ext W ⟨x.new ++ y.new, y.drawn⟩ := by
  simp [ext]
theorem ext_drew (W : World) (x : Ext) : (ext W x).drew = ext W ⟨x.new, x.drawn + 1⟩ := rfl
theorem drew_ext (W : World) (x : Ext) : ext W.drew x = ext W x := rfl

/-- A region that draws its order, whose operations only read, and whose calls only make memory: one walk serves every order. -/
theorem wp_region_ext {P : Program} {id : Nat} {Q : Exit → Act → World → Prop} {a : Act} {w : World} {l : List Oper} (hm : P.follows .mixedOrders = true) (hB : Region.lexB .any l.toArray = true)
    (h : wpQuiet P l.toArray (fun w' => ∃ x, w' = ext w x) (fun a' => ∀ w', (∃ x, w' = ext w x) → Q .normal a' w') l a) : (Code.region id l.toArray true).wp P Q a w :=
  wp_region_quiet (C := fun w' => ∃ x, w' = ext w x) hm hB ⟨⟨#[], w.drawn + 1⟩, by simp [ext]⟩ (by simpa using h)
theorem quiet_ext {P : Program} {f : FuncId} {args : Array Value} {w : World} {x : Ext} {v : Value}
    (h : Calls P f args (ext w x) fun e w' => e = .returned v ∧ Below (ext w x).heap.size (ext w x) w') : Calls P f args (ext w x) fun e w'' => e = .returned v ∧ ∃ y, w'' = ext w y :=
  h.mono fun _ _ ⟨he, hb⟩ => ⟨he, by obtain ⟨y, hy⟩ := Below.ext_of hb; rw [hy, ext_ext]; exact ⟨_, rfl⟩⟩
theorem below_of_ext {W w' : World} (h : ∃ x, w' = ext W x) : Below W.heap.size W w' := by
  obtain ⟨x, rfl⟩ := h
  exact ext_below W x
theorem Below.extW {w w' : World} (h : Below w.heap.size w w') (x : Ext) : Below w.heap.size w (ext w' x) := h.trans ((ext_below w' x).mono h.size)
end Go.Proofs.Ytalnhdfgjjhhbaa
