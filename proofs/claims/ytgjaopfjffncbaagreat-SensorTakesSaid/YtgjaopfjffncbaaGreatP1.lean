/-
  Texts of this proof, one behind the other: Base, Mem, Arith, Turn, Roll, Make, Dense, Vary, Seal, Seal2, Crew, Letter, Sensor, CrewOf, SensorRight, Dense2, ProbeLaw.
-/
import Derived.Test.YtgjaopfjffncbaaGreatRows
import Derived.WalkKit
import Derived.WalkLawsBesides
import Derived.ProofKit
import Derived.OpenShut
import Derived.Below
import Derived.Lib.Hide
import Derived.BigQuiet
import Derived.Deep.DeepMust
import Derived.Outline
import Derived.Maps.AppendAt
import Derived.Deep.AppendLies
import Derived.Laws.OwnMore
import Derived.Deep.SlicePairs
import Derived.Deep.Fields
import Derived.ChangeSame
import Derived.Test.YtgjaopfjffncbaaGreatShelf
import Derived.Lib.ItoaNum
import Derived.OwnWalk
import Derived.Deep.RegionHeld3
import Derived.Deep.DrawnRows
import Derived.Laws.BitsLemmas
import Derived.Laws.IdiomStrings
import Derived.Laws.Concat
import Derived.RegionTactic
import Derived.ChangeAlike
/- Small words that all walks use. -/
set_option linter.unusedSimpArgs false namespace Go.Proofs.YtgjaopfjffncbaaGreat
open Go.ChangeShapes Go.WideShapes Go.ChangeAt Go.RowKit

theorem ret_bool {a b : Bool} (h : a = b) : Ending.returned (.bool a) = .returned (.bool b) := by rw [h]
theorem ret_int {k : IntKind} {a b : Int} (h : a = b) : Ending.returned (.int k a) = .returned (.int k b) := by rw [h]

@[go_sem] theorem run_store_float (P : Program) (w : World) (a : Addr) (m : Mode) (k : FloatKind) (b : Nat) : (store a (.float k b) m).run P w = stored P w a (.float k b) m := run_store P w a _ m rfl
@[go_sem] theorem run_store_complex (P : Program) (w : World) (a : Addr) (m : Mode) (k : FloatKind) (x y : Nat) : (store a (.complex k x y) m).run P w = stored P w a (.complex k x y) m := run_store P w a _ m rfl

/-- Below old memory's end all cells and marks read as before. -/
theorem bcell {W w1 : World} (hb : Below W.heap.size W w1) :
    (∀ b o, b < W.heap.size → w1.cell? ⟨b, o, none⟩ = W.cell? ⟨b, o, none⟩) ∧ (∀ b o, b < W.heap.size → w1.frozen? ⟨b, o, none⟩ = W.frozen? ⟨b, o, none⟩) :=
  ⟨fun b o h => hb.cell (p := ⟨b, o, none⟩) h, fun b o h => hb.frozen (p := ⟨b, o, none⟩) h⟩
/-- A call's new memory, told from where the caller began. -/
theorem Below.then_ {w W w1 : World} (h : Below w.heap.size w W) (hb : Below W.heap.size W w1) : Below w.heap.size w w1 := h.trans (hb.mono h.size)
theorem Below.allocW {w w' : World} (h : Below w.heap.size w w') (o : Obj) : Below w.heap.size w (w'.alloc o) := h.alloc h.size o
theorem bsize {B : Nat} {W w1 : World} (hb : Below B W w1) : W.heap.size ≤ w1.heap.size := hb.size

/-- New blocks, and a count of draws. -/
structure Ext where
  new : Array Obj
  drawn : Nat
instance : Inhabited Ext := ⟨⟨#[], 0⟩⟩
def ext (W : World) (x : Ext) : World := { W with heap := W.heap ++ x.new, drawn := x.drawn }

theorem Below.ext_of {W w' : World} (h : Below W.heap.size W w') : ∃ x, w' = ext W x := by
  refine ⟨⟨w'.heap.extract W.heap.size w'.heap.size, w'.drawn⟩, ?_⟩
  have hh : w'.heap = W.heap ++ w'.heap.extract W.heap.size w'.heap.size := by
    have hs := h.size
    apply Array.ext_getElem?
    intro i
    rw [Array.getElem?_append]
    split
    · rename_i hi; exact h.block i hi
    · rename_i hi
      rw [Array.getElem?_extract]
      have e : W.heap.size + (i - W.heap.size) = i := by omega
      simp only [e, Nat.min_self]
      split
      · rfl
      · rw [Array.getElem?_eq_none (by omega)]
  cases w' with
  | mk heap tape drawn os output =>
    have h1 := h.os
    have h2 := h.tape
    have h3 := h.output
    simp only at h1 h2 h3 hh
    simp only [ext]
    rw [← hh, h1, h2, h3]

theorem ext_below (W : World) (x : Ext) : Below W.heap.size W (ext W x) := by
  refine ⟨rfl, rfl, rfl, by simp [ext], fun k hk => ?_⟩
  simp [ext, Array.getElem?_append, hk]

@[go_sem] theorem ext_size (W : World) (x : Ext) : (ext W x).heap.size = W.heap.size + x.new.size := by simp [ext]
@[go_sem] theorem ext_cell (W : World) (x : Ext) (b o : Nat) (s : Option Nat) (h : b < W.heap.size) : (ext W x).cell? ⟨b, o, s⟩ = W.cell? ⟨b, o, s⟩ :=
  (ext_below W x).cell (p := ⟨b, o, s⟩) h
@[go_sem] theorem ext_frozen (W : World) (x : Ext) (b o : Nat) (s : Option Nat) (h : b < W.heap.size) : (ext W x).frozen? ⟨b, o, s⟩ = W.frozen? ⟨b, o, s⟩ :=
  (ext_below W x).frozen (p := ⟨b, o, s⟩) h
@[go_sem] theorem ext_setCell (W : World) (x : Ext) (b o : Nat) (s : Option Nat) (v : Value) (h : b < W.heap.size) : (ext W x).setCell ⟨b, o, s⟩ v = ext (W.setCell ⟨b, o, s⟩ v) x := by
  simp only [ext, World.setCell]
  congr 1
  apply Array.ext_getElem?
  intro i
  simp only [Array.getElem?_modify, Array.getElem?_append, Array.size_modify]
  by_cases hi : b = i
  · subst hi; simp [h]
  · simp [hi]
theorem ext_ext (W : World) (x y : Ext) : ext (ext W x) y = ext W ⟨x.new ++ y.new, y.drawn⟩ := by
  simp [ext]
theorem ext_drew (W : World) (x : Ext) : (ext W x).drew = ext W ⟨x.new, x.drawn + 1⟩ := rfl
theorem drew_ext (W : World) (x : Ext) : ext W.drew x = ext W x := rfl

/-- A region that draws its order, whose operations only read, and whose calls only make memory: one walk serves every order. -/
theorem wp_region_ext {P : Program} {id : Nat} {Q : Exit → Act → World → Prop} {a : Act} {w : World} {l : List Oper} (hm : P.follows .mixedOrders = true) (hB : Region.lexB .any l.toArray = true)
    (h : wpQuiet P l.toArray (fun w' => ∃ x, w' = ext w x) (fun a' => ∀ w', (∃ x, w' = ext w x) → Q .normal a' w') l a) : (Code.region id l.toArray true).wp P Q a w :=
  wp_region_quiet (C := fun w' => ∃ x, w' = ext w x) hm hB ⟨⟨#[], w.drawn + 1⟩, by simp [ext]⟩ (by simpa using h)
theorem quiet_ext {P : Program} {f : FuncId} {args : Array Value} {w : World} {x : Ext} {v : Value}
    (h : Calls P f args (ext w x) fun e w' => e = .returned v ∧ Below (ext w x).heap.size (ext w x) w') : Calls P f args (ext w x) fun e w'' => e = .returned v ∧ ∃ y, w'' = ext w y :=
  h.mono fun _ _ ⟨he, hb⟩ => ⟨he, by obtain ⟨y, hy⟩ := Below.ext_of hb; rw [hy, ext_ext]; exact ⟨_, rfl⟩⟩
theorem below_of_ext {W w' : World} (h : ∃ x, w' = ext W x) : Below W.heap.size W w' := by
  obtain ⟨x, rfl⟩ := h
  exact ext_below W x
theorem Below.extW {w w' : World} (h : Below w.heap.size w w') (x : Ext) : Below w.heap.size w (ext w' x) := h.trans ((ext_below w' x).mono h.size)
end Go.Proofs.YtgjaopfjffncbaaGreat
/- Words for memory: a slice that reads as a list; a list that the call owns; append of one element. -/
namespace Go.Proofs.YtgjaopfjffncbaaGreat
open Go.ChangeShapes Go.WideShapes Go.ChangeAt Go.RowKit

/-- How an element lies in memory: so many cells, each of one cell. -/
structure Enc (α : Type) (size : Nat) where
  enc : α → List Value
  len : ∀ x, (enc x).length = size
  one : ∀ x, ∀ u ∈ enc x, u.oneCell' = true

/-- The slice at address A reads as the list l, below block B. -/
def Sl {α : Type} {size : Nat} (w : World) (B : Nat) (E : Enc α size) (A : Option Addr) (l : List α) : Prop :=
  l = [] ∨ ∃ b off, A = some ⟨b, off, none⟩ ∧ b < B ∧ ∀ i x, l[i]? = some x → ∀ j u, (E.enc x)[j]? = some u → w.cell? ⟨b, off + i * size + j, none⟩ = some u

theorem add_plain (g o k : Nat) : (⟨g, o, none⟩ : Addr).add k = ⟨g, o + k, none⟩ := by
  unfold Addr.add
  split
  · rename_i h; subst h; rfl
  · rfl
theorem Sl.nil {α : Type} {size : Nat} {w : World} {B : Nat} {E : Enc α size} {A : Option Addr} : Sl w B E A [] := .inl rfl
theorem Sl.keep {α : Type} {size : Nat} {w w' : World} {B B' : Nat} {E : Enc α size} {A : Option Addr} {l : List α} (h : Sl w B E A l) (hB : B ≤ B')
    (hk : ∀ p : Addr, p.block < B → w'.cell? p = w.cell? p) : Sl w' B' E A l := by
  rcases h with h | ⟨b, off, hA, hb, hc⟩
  · exact .inl h
  · exact .inr ⟨b, off, hA, Nat.lt_of_lt_of_le hb hB, fun i x hi j u hj => (hk ⟨b, _, none⟩ hb).trans (hc i x hi j u hj)⟩
theorem Sl.drew {α : Type} {size : Nat} {w : World} {B : Nat} {E : Enc α size} {A : Option Addr} {l : List α} (h : Sl w B E A l) : Sl w.drew B E A l := h
theorem Sl.below {α : Type} {size : Nat} {w w' : World} {B : Nat} {E : Enc α size} {A : Option Addr} {l : List α} (h : Sl w B E A l) (hb : Below B w w') : Sl w' B E A l :=
  h.keep (Nat.le_refl _) fun _ hp => hb.cell hp
theorem Sl.at_ {α : Type} {size : Nat} {w : World} {B : Nat} {E : Enc α size} {A : Option Addr} {l : List α} (h : Sl w B E A l) {k : Nat} (hk : k < l.length) :
    ∃ b off, A = some ⟨b, off, none⟩ ∧ b < B ∧ ∀ j u, (E.enc l[k])[j]? = some u → w.cell? ⟨b, off + k * size + j, none⟩ = some u := by
  rcases h with h | ⟨b, off, hA, hb, hc⟩
  · subst h; simp at hk
  · exact ⟨b, off, hA, hb, fun j u hj => hc k _ (List.getElem?_eq_getElem hk) j u hj⟩

/-- The call owns, from block 'base' on, the slice v: a stretch of a block, with its spare room; it holds the list l. -/
def Own {α : Type} {size : Nat} (w : World) (base : Nat) (e : TypeId) (E : Enc α size) (v : Value) (l : List α) : Prop :=
  (v = .slice none 0 0 ∧ l = []) ∨
  ∃ g off cap cur, v = .slice (some ⟨g, off, none⟩) l.length cap ∧ base ≤ g ∧ w.heap[g]? = some (.cells cur e (0, 0)) ∧ l.length ≤ cap ∧ cap ≤ maxLen ∧ off + cap * size ≤ cur.size ∧
    ∀ j u, (l.flatMap E.enc)[j]? = some u → cur[off + j]? = some u

theorem flat_len {α : Type} {size : Nat} (E : Enc α size) (l : List α) : (l.flatMap E.enc).length = l.length * size := by
  induction l with
  | nil => simp
  | cons x l ih => simp [ih, E.len, Nat.add_mul, Nat.add_comm]
theorem flat_get {α : Type} {size : Nat} (E : Enc α size) (l : List α) (i j : Nat) (x : α) (u : Value) (hi : l[i]? = some x) (hj : (E.enc x)[j]? = some u) :
    (l.flatMap E.enc)[i * size + j]? = some u := by
  induction l generalizing i with
  | nil => simp at hi
  | cons y l ih =>
    have hl := E.len y
    cases i with
    | zero =>
      simp at hi; subst hi
      have hlt : j < (E.enc y).length := (List.getElem?_eq_some_iff.1 hj).1
      rw [List.flatMap_cons, Nat.zero_mul, Nat.zero_add, List.getElem?_append_left hlt]
      exact hj
    | succ i =>
      simp at hi
      have := ih i hi
      rw [List.flatMap_cons, List.getElem?_append_right (by rw [hl, Nat.add_mul]; omega), hl]
      rw [← this]
      congr 1
      rw [Nat.add_mul]; omega

theorem flat_inv {α : Type} {size : Nat} (E : Enc α size) (l : List α) (j : Nat) (u : Value) (h : (l.flatMap E.enc)[j]? = some u) : ∃ k x q, l[k]? = some x ∧ (E.enc x)[q]? = some u ∧ j = k * size + q := by
  induction l generalizing j with
  | nil => simp at h
  | cons y l ih =>
    have hl := E.len y
    rw [List.flatMap_cons] at h
    by_cases hlt : j < (E.enc y).length
    · rw [List.getElem?_append_left hlt] at h
      exact ⟨0, y, j, rfl, h, by omega⟩
    · rw [List.getElem?_append_right (by omega), hl] at h
      obtain ⟨k, x, q, hk, hq, hj⟩ := ih _ h
      exact ⟨k + 1, x, q, by simpa using hk, hq, by rw [Nat.add_mul]; omega⟩
theorem grownBy_of_below {a w : World} (h : Below a.heap.size a w) (row : Option Nat) : a.grownBy w row := ⟨h.os, h.tape, h.output, h.size, fun i hi _ => h.block i hi⟩
section
variable {α β : Type} {size s1 s2 : Nat} {w w' : World} {base e e1 e2 : Nat} {E : Enc α size} {v : Value} {l : List α}
theorem lt_of_block {g : Nat} {o : Obj} (h : w.heap[g]? = some o) : g < w.heap.size := by
  rcases Nat.lt_or_ge g w.heap.size with hlt | hge
  · exact hlt
  · rw [Array.getElem?_eq_none hge] at h; cases h
theorem Own.nil (w : World) (base : Nat) (e : TypeId) (E : Enc α size) : Own w base e E (.slice none 0 0) [] := .inl ⟨rfl, rfl⟩
theorem Own.of_block (h : Own w base e E v l) (hb : ∀ g, v.ownBlock = some g → w'.heap[g]? = w.heap[g]?) : Own w' base e E v l := by
  rcases h with h | ⟨g, off, cap, cur, rfl, hg, hh, r⟩
  · exact .inl h
  · exact .inr ⟨g, off, cap, cur, rfl, hg, (hb g rfl).trans hh, r⟩
theorem Own.lt (h : Own w base e E v l) : ∀ k, v.ownBlock = some k → base ≤ k ∧ k < w.heap.size := by
  intro k hk
  rcases h with ⟨rfl, _⟩ | ⟨g, off, cap, cur, rfl, hg, hh, r⟩
  · cases hk
  · have : g = k := by simpa [Value.ownBlock] using hk
    subst this
    exact ⟨hg, lt_of_block hh⟩
theorem Own.alloc (h : Own w base e E v l) (o : Obj) : Own (w.alloc o) base e E v l := h.of_block fun g hg => Below.heap_alloc w o g (h.lt g hg).2
theorem Own.drew (h : Own w base e E v l) : Own w.drew base e E v l := h
/-- It is kept where its block is not written. -/
theorem Own.kept {row : Option Nat} (h : Own w base e E v l) (hg : w.grownBy w' row) (hne : v.ownBlock = none ∨ v.ownBlock ≠ row) : Own w' base e E v l :=
  h.of_block fun g hv => hg.block g (h.lt g hv).2 (by
    rcases hne with hne | hne
    · rw [hv] at hne; cases hne
    · rw [← hv]; exact hne)
theorem Own.below (h : Own w base e E v l) (hb : Below w.heap.size w w') : Own w' base e E v l := h.of_block fun g hv => hb.block g (h.lt g hv).2
theorem Own.setCell (h : Own w base e E v l) {p : Addr} (hp : v.ownBlock ≠ some p.block) (u : Value) : Own (w.setCell p u) base e E v l :=
  h.of_block fun g hv => Below.heap_setCell _ _ _ _ (fun he => hp (by rw [hv, he]))
theorem Own.base_le (h : Own w base e E v l) {b : Nat} (hb : b ≤ base) : Own w b e E v l := by
  rcases h with h | ⟨g, off, cap, cur, hv, hg, r⟩
  · exact .inl h
  · exact .inr ⟨g, off, cap, cur, hv, Nat.le_trans hb hg, r⟩
theorem Own.form (h : Own w base e E v l) :
    ∃ A cap, v = .slice A l.length cap ∧ l.length ≤ cap ∧ cap ≤ maxLen ∧ Sl w w.heap.size E A l ∧ (A = none ∨ ∃ g off, A = some ⟨g, off, none⟩ ∧ base ≤ g) := by
  rcases h with ⟨rfl, rfl⟩ | ⟨g, off, cap, cur, rfl, hg, hh, h1, h2, h3, h4⟩
  · exact ⟨none, 0, rfl, by simp, by simp, .nil, .inl rfl⟩
  · refine ⟨some ⟨g, off, none⟩, cap, rfl, h1, h2, .inr ⟨g, off, rfl, lt_of_block hh, fun i x hi j u hj => ?_⟩, .inr ⟨g, off, rfl, hg⟩⟩
    rw [cell_of_row _ _ _ _ _ _ hh, Nat.add_assoc]
    exact h4 _ u (flat_get E l i j x u hi hj)
theorem Own.not_at (h : Own w base e E v l) (b : Nat) (hb : w.heap.size ≤ b) : v.ownBlock ≠ some b := fun he => by
  have := (h.lt b he).2
  omega
theorem own_ne {E1 : Enc α s1} {E2 : Enc β s2} {v1 v2 : Value} {l1 : List α} {l2 : List β} {b1 b2 : Nat} (h1 : Own w b1 e1 E1 v1 l1) (h2 : Own w b2 e2 E2 v2 l2) (hne : e1 ≠ e2) :
    v1.ownBlock = none ∨ v1.ownBlock ≠ v2.ownBlock := by
  rcases h1 with ⟨rfl, _⟩ | ⟨g1, o1, c1, u1, rfl, _, hh1, _⟩
  · exact .inl rfl
  · right
    rcases h2 with ⟨rfl, _⟩ | ⟨g2, o2, c2, u2, rfl, _, hh2, _⟩
    · simp [Value.ownBlock]
    · intro he
      have : g1 = g2 := by simpa [Value.ownBlock] using he
      subst this
      rw [hh1] at hh2
      injection hh2 with hh2
      injection hh2 with _ ht
      exact hne ht
/-- A block of another element type, known whole, is not the slice's. -/
theorem Own.ne_block (h : Own w base e E v l) {g t : Nat} {cs : Array Value} {fr : Nat × Nat} (hb : w.heap[g]? = some (.cells cs t fr)) (hne : e ≠ t) : v.ownBlock ≠ some g := by
  rcases h with ⟨rfl, _⟩ | ⟨g1, o1, c1, u1, rfl, _, hh1, _⟩
  · simp [Value.ownBlock]
  · intro he
    have : g1 = g := by simpa [Value.ownBlock] using he
    subst this
    rw [hh1] at hb
    injection hb with hb
    injection hb with _ ht
    exact hne ht
/-- A literal: a new block just of these elements. -/
theorem Own.lit (W : World) (E : Enc α size) (l : List α) (e : TypeId) (hb : base ≤ W.heap.size) (hm : l.length ≤ maxLen) :
    Own (W.alloc (.cells (l.flatMap E.enc).toArray e)) base e E (.slice (some ⟨W.heap.size, 0, none⟩) l.length l.length) l :=
  .inr ⟨W.heap.size, 0, l.length, _, rfl, hb, heap_alloc_new W _, Nat.le_refl _, hm, by rw [List.size_toArray, flat_len]; omega, fun j u hj => by simpa using hj⟩
/-- Cut at the front and at the end: v[lo:hi], v[lo:hi:mx]. -/
theorem Own.cut {A : Option Addr} {n cap : Nat} (h : Own w base e E (.slice A n cap) l) {lo hi mx : Nat} (h1 : lo ≤ hi) (h2 : hi ≤ l.length) (h3 : hi ≤ mx) (h4 : mx ≤ cap) :
    Own w base e E (.slice (if mx = lo then A else A.map (·.add (lo * size))) (hi - lo) (mx - lo)) ((l.take hi).drop lo) := by
  rcases h with ⟨hv, rfl⟩ | ⟨g, off, cap', cur, hv, hg, hh, k1, k2, k3, k4⟩
  · cases hv
    have e1 : hi = 0 := by simpa using h2
    have e2 : mx = 0 := by omega
    have e3 : lo = 0 := by omega
    subst e1 e2 e3
    exact .inl ⟨by simp, by simp⟩
  · cases hv
    have hlen : ((l.take hi).drop lo).length = hi - lo := by simp; omega
    have hcell : ∀ j u, (((l.take hi).drop lo).flatMap E.enc)[j]? = some u → cur[off + lo * size + j]? = some u := by
      intro j u hj
      have e1 : l.flatMap E.enc = (l.take lo).flatMap E.enc ++ (((l.take hi).drop lo).flatMap E.enc ++ (l.drop hi).flatMap E.enc) := by
        rw [← List.flatMap_append, ← List.flatMap_append]
        congr 1
        have e2 : l.take lo = (l.take hi).take lo := by rw [List.take_take]; congr 1; omega
        rw [← List.append_assoc, e2, List.take_append_drop, List.take_append_drop]
      have := k4 (lo * size + j) u (by
        rw [e1, List.getElem?_append_right (by rw [flat_len, List.length_take]; rw [Nat.min_eq_left (by omega)]; omega), flat_len, List.length_take, Nat.min_eq_left (by omega)]
        rw [show lo * size + j - lo * size = j by omega, List.getElem?_append_left (List.getElem?_eq_some_iff.1 hj).1]
        exact hj)
      rwa [← Nat.add_assoc] at this
    by_cases hml : mx = lo
    · have : hi = lo := by omega
      subst hml this
      rw [if_pos rfl]
      refine .inr ⟨g, off, 0, cur, by rw [hlen]; simp, hg, hh, by rw [hlen]; simp, by simp, ?_, fun j u hj => ?_⟩
      · have := Nat.le_trans (Nat.le_add_right off (cap * size)) k3
        simpa using this
      · have : (l.take hi).drop hi = [] := List.eq_nil_of_length_eq_zero (by rw [hlen]; simp)
        rw [this] at hj
        simp at hj
    · rw [if_neg hml]
      refine .inr ⟨g, off + lo * size, mx - lo, cur, by rw [hlen]; simp [add_plain], hg, hh, by rw [hlen]; omega, by omega, ?_, hcell⟩
      have : lo * size + (mx - lo) * size ≤ cap * size := by rw [← Nat.add_mul]; exact Nat.mul_le_mul_right _ (by omega)
      omega
end

/-- A block that is not the one written reads as before. -/
theorem grown_cell {w w' : World} {row : Option Nat} (hg : w.grownBy w' row) (b : Nat) (hb : b < w.heap.size) (hne : row ≠ some b) (o : Nat) : w'.cell? ⟨b, o, none⟩ = w.cell? ⟨b, o, none⟩ :=
  hg.cell_far ⟨b, o, none⟩ hb (Ne.symm hne)
theorem grown_frozen {w w' : World} {row : Option Nat} (hg : w.grownBy w' row) (b : Nat) (hb : b < w.heap.size) (hne : row ≠ some b) (o : Nat) : w'.frozen? ⟨b, o, none⟩ = w.frozen? ⟨b, o, none⟩ :=
  hg.frozen_far ⟨b, o, none⟩ hb (Ne.symm hne)
/-- What a slice's type is. -/
structure SliceTy (P : Program) (t e : TypeId) (size bytes : Nat) (z : Value) : Prop where
  ht : P.underlying t = some (.slice e)
  hinfo : (P.info? e).map (fun i => (i.zero, i.size, i.bytes)) = some (some z, size, bytes)
  hzs : z.cells.size = size
  hsz : 0 < size

theorem flat_one {α : Type} {size : Nat} (E : Enc α size) (l : List α) : ∀ u ∈ l.flatMap E.enc, u.oneCell' = true := by
  intro u hu
  obtain ⟨x, _, hx⟩ := List.mem_flatMap.1 hu
  exact E.one x u hx

section
variable {P : Program} {t e : TypeId} {size bytes : Nat} {z : Value} {α : Type} {E : Enc α size}
/-- append(v, src...): behind it the list is longer by the source's. -/
theorem app_run (T : SliceTy P t e size bytes z) (ty : TypeId) (W : World) (base : Nat) (v : Value) (l : List α) (hown : Own W base e E v l) (A : Option Addr) (c : Nat) (l2 : List α) (B : Nat) (hsrc : Sl W B E A l2)
    (hn : (l.length + l2.length) * bytes ≤ 140737488355328) (hm : l.length + l2.length ≤ maxLen) (hbase : base ≤ W.heap.size) :
    ∃ v' w', (Builtin.append_ #[t, t] ty #[v, .slice A l2.length c]).run P W = .ok v' w' ∧ Own w' base e E v' (l ++ l2) ∧ W.grownBy w' v.ownBlock ∧
      (v'.ownBlock = v.ownBlock ∨ v'.ownBlock = some W.heap.size) ∧ (l2 ≠ [] → v' ≠ .slice none 0 0) := by
  obtain ⟨i, hi, e1⟩ := Option.map_eq_some_iff.1 T.hinfo
  simp only [Prod.mk.injEq] at e1
  obtain ⟨hz, hsize, hby⟩ := e1
  subst hsize hby
  have ht := T.ht
  have h63 : l.length + l2.length ≤ 9223372036854775807 := by simp only [maxLen] at hm; omega
  rcases hl2 : l2 with _ | ⟨y, l3⟩
  · -- nothing is appended
    subst hl2
    have h0 : (Builtin.append_ #[t, t] ty #[v, .slice A ([] : List α).length c]).run P W = .ok v W := by
      have hfirst : ∀ k, (Builtin.firstCells k 0 (.slice A 0 c)).run P W = .ok #[] W := by
        intro k
        cases A with
        | none => simp [Builtin.firstCells]
        | some a => simp [Builtin.firstCells, loadCells, loadCellsFrom]
      rcases hown with ⟨rfl, _⟩ | ⟨g, off, cap, cur, rfl, _, _, hlc, _⟩
      · simp [Builtin.append_, run_underlying ht, sizeOf, typeInfo, hi, Builtin.lenOf, hfirst]
      · simp [Builtin.append_, run_underlying ht, sizeOf, typeInfo, hi, Builtin.lenOf, hfirst, hlc, storeCells]
    refine ⟨v, W, h0, by simpa using hown, ⟨rfl, rfl, rfl, Nat.le_refl _, fun _ _ _ => rfl⟩, .inl rfl, fun h => absurd rfl h⟩
  · rw [← hl2]
    have hne : 0 < l2.length := by rw [hl2]; simp
    obtain ⟨b, o, rfl, hb, hc⟩ : ∃ b off, A = some ⟨b, off, none⟩ ∧ b < B ∧ ∀ k x, l2[k]? = some x → ∀ j u, (E.enc x)[j]? = some u → W.cell? ⟨b, off + k * i.size + j, none⟩ = some u := by
      rcases hsrc with h | h
      · rw [h] at hne; simp at hne
      · exact h
    have hl : (l2.flatMap E.enc).length = l2.length * i.size := flat_len E l2
    have hnews : ∀ j u, (l2.flatMap E.enc)[j]? = some u → W.cell? ((⟨b, o, none⟩ : Addr).add j) = some u := by
      intro j u hj
      obtain ⟨k, x, q, hk, hq, hjk⟩ := flat_inv E l2 j u hj
      have := hc k x hk q u hq
      rw [add_plain, hjk, ← Nat.add_assoc]
      exact this
    have grown : ∀ (old : Nat), old < l.length + l2.length →
        Own (W.drew.alloc (.cells ((l.flatMap E.enc).toArray ++ (l2.flatMap E.enc).toArray ++ Builtin.zeroCells z.cells (grownCap W (l.length + l2.length) old e - (l.length + l2.length))) e)) base e E
          (.slice (some ⟨W.heap.size, 0, none⟩) (l.length + l2.length) (grownCap W (l.length + l2.length) old e)) (l ++ l2) := by
      intro old ho
      have hge := grownCap_ge W (l.length + l2.length) old e
      refine .inr ⟨W.heap.size, 0, _, _, by rw [List.length_append], hbase, heap_alloc_new W.drew _, by rw [List.length_append]; exact hge, grownCap_le_maxLen W _ old e hm, ?_, fun j u hj => ?_⟩
      · simp only [Array.size_append, List.size_toArray, size_zeroCells, T.hzs, flat_len, ← Nat.add_mul]
        refine Nat.le_of_eq ?_
        rw [Nat.zero_add]
        congr 1
        omega
      · have hlt := (List.getElem?_eq_some_iff.1 hj).1
        rw [List.flatMap_append] at hj hlt
        rw [Nat.zero_add, Array.getElem?_append_left (by simpa using hlt)]
        simpa using hj
    have gfr : ∀ (cs : Array Value) (row : Option Nat), W.grownBy (W.drew.alloc (.cells cs e)) row := fun cs row => ⟨rfl, rfl, rfl, by simp, fun k hk _ => heap_alloc_old W.drew _ hk⟩
    rcases hown with ⟨rfl, rfl⟩ | ⟨g, off, cap, cur, rfl, hbg, hg, hnc, hcm, hcs, hcur⟩
    · have hr := run_append_nil (P := P) W t ty e i z ht hi hz ⟨b, o, none⟩ l2.length c _ hl hnews hne (by omega) (by have hb := hn; simp only [List.length_nil, Nat.zero_add] at hb; omega)
      have hgr := grown 0 (by simpa using hne)
      simp only [List.length_nil, Nat.zero_add, List.nil_append, List.flatMap_nil] at hgr ⊢
      refine ⟨_, _, hr, ?_, gfr _ _, .inr rfl, fun _ => by simp⟩
      simpa using hgr
    · by_cases hroom : l.length + l2.length ≤ cap
      · have hfit : off + l.length * i.size + (l2.flatMap E.enc).length ≤ cur.size := by
          have := Nat.mul_le_mul_right i.size hroom
          rw [Nat.add_mul] at this
          rw [hl]
          omega
        have hf := run_firstCells_some (P := P) W i.size l2.length ⟨b, o, none⟩ l2.length c _ hl hnews
        have hst := run_storeCells_at P g (off + l.length * i.size) e (l2.flatMap E.enc) 0 cur W hg (by simpa using hfit) (flat_one E l2)
        simp only [Nat.add_zero] at hst
        have hr : (Builtin.append_ #[t, t] ty #[.slice (some ⟨g, off, none⟩) l.length cap, .slice (some ⟨b, o, none⟩) l2.length c]).run P W =
            .ok (.slice (some ⟨g, off, none⟩) (l.length + l2.length) cap) (W.setRow g (cur.toList.take (off + l.length * i.size) ++ l2.flatMap E.enc ++ cur.toList.drop (off + l.length * i.size + (l2.flatMap E.enc).length)).toArray) := by
          simp [Builtin.append_, run_underlying ht, sizeOf, typeInfo, hi, Builtin.lenOf, hroom, hf, add_plain, hst]
        refine ⟨_, _, hr, .inr ⟨g, off, cap, _, by rw [List.length_append], hbg, setRow_heap W g cur _ e _ hg, by rw [List.length_append]; exact hroom, hcm, ?_, fun j u hj => ?_⟩,
          ⟨rfl, rfl, rfl, by simp, fun k _ hk => setRow_other W g k _ (fun e => hk (by simp [Value.ownBlock, e]))⟩, .inl rfl, fun _ => by simp⟩
        · simp only [List.size_toArray, List.length_append, List.length_take, List.length_drop, Array.length_toList]
          omega
        · rw [List.flatMap_append] at hj
          have hlen1 : (l.flatMap E.enc).length = l.length * i.size := flat_len E l
          rw [List.getElem?_toArray]
          by_cases hj1 : j < (l.flatMap E.enc).length
          · rw [List.getElem?_append_left hj1] at hj
            have h4 := hcur j u hj
            rw [List.append_assoc, List.getElem?_append_left (by simp only [List.length_take, Array.length_toList]; omega), List.getElem?_take_of_lt (by omega), Array.getElem?_toList]
            exact h4
          · rw [List.getElem?_append_right (by omega)] at hj
            have hj2 := (List.getElem?_eq_some_iff.1 hj).1
            rw [List.append_assoc, List.getElem?_append_right (by simp only [List.length_take, Array.length_toList]; omega), List.getElem?_append_left (by simp only [List.length_take, Array.length_toList]; omega)]
            rw [← hj]
            congr 1
            simp only [List.length_take, Array.length_toList]
            omega
      · have holds : ∀ j u, (l.flatMap E.enc)[j]? = some u → W.cell? ((⟨g, off, none⟩ : Addr).add j) = some u := by
          intro j u hj
          rw [add_plain, cell_of_row _ _ _ _ _ _ hg]
          exact hcur j u hj
        have hr := run_append_grow (P := P) W t ty e i z ht hi hz ⟨g, off, none⟩ l.length cap _ (flat_len E l) holds ⟨b, o, none⟩ l2.length c _ hl hnews (by omega) (by omega) (growslice_fits (by omega) hn)
        exact ⟨_, _, hr, grown cap (by omega), gfr _ _, .inr rfl, fun _ => by simp⟩

/-- append(v, src...) in a plain region. -/
theorem wpList_app {w : World} {ops : Array Oper} {rest : List Oper} {o : Oper} {a : Act} {Q : Exit → Act → World → Prop} (T : SliceTy P t e size bytes z) (hgd : o.guard = none) (s x : Operand)
    (ho : o.op = .call { callee := .builtin .append, args := #[s, x], argTypes := #[t, t] }) (E : Enc α size) (base : Nat) (v : Value) (l : List α) (hs : a.eval s = v) (hown : Own w base e E v l)
    (A : Option Addr) (c : Nat) (l2 : List α) (B : Nat) (hx : a.eval x = .slice A l2.length c) (hsrc : Sl w B E A l2) (hn : (l.length + l2.length) * bytes ≤ 140737488355328) (hm : l.length + l2.length ≤ maxLen) (hbase : base ≤ w.heap.size)
    (h : ∀ v' w', Own w' base e E v' (l ++ l2) → w.grownBy w' v.ownBlock → (v'.ownBlock = v.ownBlock ∨ v'.ownBlock = some w.heap.size) → Below base w w' → (l2 ≠ [] → v' ≠ .slice none 0 0) →
      wpList P ops Q rest (a.put o.dst v') w') : wpList P ops Q (o :: rest) a w := by
  refine wpList_plain hgd fun K hK => ?_
  obtain ⟨v', w', hr, h2, h3, h4, h5⟩ := app_run T o.type w base v l hown A c l2 B hsrc hn hm hbase
  unfold Oper.wp execOp
  simp only [ho, resolve, invoke, builtin, Sem.run_bind, Sem.run_pure, Result.andThen_ok, List.map_toArray, List.map_cons, List.map_nil, hs, hx, hr]
  exact hK _ _ (h v' w' h2 h3 h4 ((Below.refl base w).grown h3 hbase fun k hk => (hown.lt k hk).1) h5)

theorem step_app {w : World} {ops : Array Oper} {o : Oper} {a : Act} {K : Act → World → Prop} {Q : Exit → Act → World → Prop} {F : Prop} (T : SliceTy P t e size bytes z) (hgd : o.guard = none) (s x : Operand)
    (ho : o.op = .call { callee := .builtin .append, args := #[s, x], argTypes := #[t, t] }) (E : Enc α size) (base : Nat) (v : Value) (l : List α) (hs : a.eval s = v) (hown : Own w base e E v l)
    (A : Option Addr) (c : Nat) (l2 : List α) (B : Nat) (hx : a.eval x = .slice A l2.length c) (hsrc : Sl w B E A l2) (hn : (l.length + l2.length) * bytes ≤ 140737488355328) (hm : l.length + l2.length ≤ maxLen) (hbase : base ≤ w.heap.size)
    (h : ∀ v' w', Own w' base e E v' (l ++ l2) → w.grownBy w' v.ownBlock → (v'.ownBlock = v.ownBlock ∨ v'.ownBlock = some w.heap.size) → Below base w w' → (l2 ≠ [] → v' ≠ .slice none 0 0) → K (a.put o.dst v') w') :
    if Region.wanted o (yielded ops a.tmps) = true then Oper.wp P o a w K Q else F := by
  have hw : Region.wanted o (yielded ops a.tmps) = true := by simp [Region.wanted, hgd]
  rw [if_pos hw]
  obtain ⟨v', w', hr, h2, h3, h4, h5⟩ := app_run T o.type w base v l hown A c l2 B hsrc hn hm hbase
  unfold Oper.wp execOp
  simp only [ho, resolve, invoke, builtin, Sem.run_bind, Sem.run_pure, Result.andThen_ok, List.map_toArray, List.map_cons, List.map_nil, hs, hx, hr]
  exact h v' w' h2 h3 h4 ((Below.refl base w).grown h3 hbase fun k hk => (hown.lt k hk).1) h5

theorem sl_lit (W : World) (E : Enc α size) (l : List α) (e : TypeId) (b : Nat) (hb : W.heap.size = b) : Sl (W.alloc (.cells (l.flatMap E.enc).toArray e)) (b + 1) E (some ⟨b, 0, none⟩) l := by
  subst hb
  exact .inr ⟨W.heap.size, 0, rfl, by omega, fun i x hi j u hj => by
    rw [cell_of_row _ _ _ _ _ _ (heap_alloc_new W _), Nat.zero_add]
    simpa using flat_get E l i j x u hi hj⟩

/-- append(s, x), one element: behind it the list is one longer. -/
theorem wpList_push {w : World} {ops : Array Oper} {rest : List Oper} {o : Oper} {a : Act} {Q : Exit → Act → World → Prop} (T : SliceTy P t e size bytes z) (hgd : o.guard = none) (s x : Operand)
    (ho : o.op = .call { callee := .builtin .append, args := #[s, x], argTypes := #[t, t] }) (E : Enc α size) (W : World) (base : Nat) (v : Value) (l : List α) (hs : a.eval s = v) (hown : Own W base e E v l)
    (x0 : α) (hx : a.eval x = .slice (some ⟨W.heap.size, 0, none⟩) 1 1) (hw : w = W.alloc (.cells (E.enc x0).toArray e)) (hn : (l.length + 1) * bytes ≤ 140737488355328) (hm : l.length + 1 ≤ maxLen) (hbase : base ≤ W.heap.size)
    (h : ∀ v' w', Own w' base e E v' (l ++ [x0]) → W.grownBy w' v.ownBlock → W.heap.size < w'.heap.size → (v'.ownBlock = v.ownBlock ∨ v'.ownBlock = some (W.heap.size + 1)) → Below base W w' → v' ≠ .slice none 0 0 →
      wpList P ops Q rest (a.put o.dst v') w') : wpList P ops Q (o :: rest) a w := by
  subst hw
  have hsl := sl_lit W E [x0] e _ rfl
  simp only [List.flatMap_cons, List.flatMap_nil, List.append_nil] at hsl
  refine wpList_app T hgd s x ho E base v l hs (hown.alloc _) (some ⟨W.heap.size, 0, none⟩) 1 [x0] _ (by simpa using hx) hsl (by simpa using hn) (by simpa using hm) (by simp; omega) fun v' w' h2 h3 h4 h5 h6 => ?_
  have hs := h3.size
  simp at hs
  refine h v' w' h2 ⟨h3.os, h3.tape, h3.output, by omega, fun i hi hne => (h3.block i (by simp; omega) hne).trans (Below.heap_alloc W _ i hi)⟩ (by omega) ?_ ?_ (h6 (by simp))
  · rcases h4 with h4 | h4
    · exact .inl h4
    · right; rw [h4]; simp
  · exact ((Below.refl base W).alloc hbase _).trans h5
end
/-- Of the blocks of the call only those of these types may have turned. -/
structure KeepT (T : List TypeId) (w w' : World) : Prop where
  os : w'.os = w.os
  tape : w'.tape = w.tape
  output : w'.output = w.output
  size : w.heap.size ≤ w'.heap.size
  block : ∀ (b : Nat) (o : Obj), w.heap[b]? = some o → (∀ cs t fr, o = Obj.cells cs t fr → t ∉ T) → w'.heap[b]? = some o
theorem KeepT.refl (T : List TypeId) (w : World) : KeepT T w w := ⟨rfl, rfl, rfl, Nat.le_refl _, fun _ _ h _ => h⟩
theorem KeepT.trans {T : List TypeId} {a b c : World} (h : KeepT T a b) (k : KeepT T b c) : KeepT T a c :=
  ⟨k.os.trans h.os, k.tape.trans h.tape, k.output.trans h.output, Nat.le_trans h.size k.size, fun i o hi ht => k.block i o (h.block i o hi ht) ht⟩
theorem KeepT.of_below {T : List TypeId} {a b : World} (h : Below a.heap.size a b) : KeepT T a b :=
  ⟨h.os, h.tape, h.output, h.size, fun i _ hi _ => (h.block i (lt_of_block hi)).trans hi⟩
theorem KeepT.drew {T : List TypeId} {a b : World} (h : KeepT T a b) : KeepT T a b.drew := ⟨h.os, h.tape, h.output, h.size, h.block⟩
theorem KeepT.alloc {T : List TypeId} {a b : World} (h : KeepT T a b) (o : Obj) : KeepT T a (b.alloc o) := h.trans (.of_below ((Below.refl _ _).alloc (Nat.le_refl _) o))
theorem KeepT.setCell {T : List TypeId} {a b : World} (h : KeepT T a b) {p : Addr} {cs : Array Value} {t : TypeId} {fr : Nat × Nat} (hb : b.heap[p.block]? = some (.cells cs t fr)) (ht : t ∈ T) (u : Value) : KeepT T a (b.setCell p u) :=
  h.trans ⟨rfl, rfl, rfl, by simp [World.setCell], fun i _ hi hT => by
    rw [Below.heap_setCell _ _ _ _ (by rintro rfl; rw [hb] at hi; cases hi; exact hT _ _ _ rfl ht)]
    exact hi⟩
theorem KeepT.grown {T : List TypeId} {a b c : World} {α : Type} {size : Nat} {base e : Nat} {E : Enc α size} {v : Value} {l : List α} (h : KeepT T a b) (ho : Own b base e E v l) (hg : b.grownBy c v.ownBlock) (he : e ∈ T) : KeepT T a c :=
  h.trans ⟨hg.os, hg.tape, hg.output, hg.size, fun i _ hi hT => (hg.block i (lt_of_block hi) (fun heq => by
    rcases ho with ⟨rfl, _⟩ | ⟨g1, o1, c1, u1, rfl, _, hh1, _⟩
    · cases heq
    · have : i = g1 := by simpa [Value.ownBlock] using heq
      subst this
      rw [hh1] at hi
      cases hi
      exact hT _ _ _ rfl he)).trans hi⟩
theorem KeepT.own {T : List TypeId} {a b : World} {α : Type} {size : Nat} {base e : Nat} {E : Enc α size} {v : Value} {l : List α} (h : KeepT T a b) (ho : Own a base e E v l) (he : e ∉ T) : Own b base e E v l :=
  ho.of_block fun g hv => by
    rcases ho with ⟨rfl, _⟩ | ⟨g1, o1, c1, u1, rfl, _, hh1, _⟩
    · cases hv
    · have : g1 = g := by simpa [Value.ownBlock] using hv
      subst this
      rw [hh1]
      exact h.block _ _ hh1 (by intro cs t fr e1; cases e1; exact he)


section
variable {α : Type} {size : Nat} {w : World} {base e : Nat} {E : Enc α size} {l : List α}
/-- v[:k:k] -/
theorem Own.pre {a : Addr} {n cap : Nat} (h : Own w base e E (.slice (some a) n cap) l) {k : Nat} (hk : k ≤ l.length) : Own w base e E (.slice (some a) k k) (l.take k) := by
  have hc : l.length ≤ cap := by
    rcases h with ⟨hv, _⟩ | ⟨g, off, cap', cur, hv, _, _, h1, _⟩
    · cases hv
    · cases hv; exact h1
  have := h.cut (lo := 0) (hi := k) (mx := k) (Nat.zero_le _) hk (Nat.le_refl _) (by omega)
  simp only [Nat.sub_zero, List.drop_zero, Nat.zero_mul] at this
  split at this
  · exact this
  · simpa [Addr.add] using this
/-- v[:k] -/
theorem Own.upTo {a : Addr} {n cap : Nat} (h : Own w base e E (.slice (some a) n cap) l) {k : Nat} (hk : k ≤ l.length) : Own w base e E (.slice (some a) k cap) (l.take k) := by
  have hc : l.length ≤ cap := by
    rcases h with ⟨hv, _⟩ | ⟨g, off, cap', cur, hv, _, _, h1, _⟩
    · cases hv
    · cases hv; exact h1
  have := h.cut (lo := 0) (hi := k) (mx := cap) (Nat.zero_le _) hk (by omega) (Nat.le_refl _)
  simp only [Nat.sub_zero, List.drop_zero, Nat.zero_mul] at this
  split at this
  · exact this
  · simpa [Addr.add] using this
theorem Sl.drop {B b off : Nat} (h : Sl w B E (some ⟨b, off, none⟩) l) (k : Nat) : Sl w B E (some ⟨b, off + k * size, none⟩) (l.drop k) := by
  rcases h with rfl | ⟨b', off', hA, hb, hc⟩
  · exact .inl (by simp)
  · cases hA
    refine .inr ⟨b, _, rfl, hb, fun i x hi j u hj => ?_⟩
    rw [List.getElem?_drop] at hi
    have := hc _ x hi j u hj
    rw [Nat.add_mul] at this
    rw [← this]
    congr 2
    omega
theorem Sl.take {B : Nat} {A : Option Addr} (h : Sl w B E A l) (k : Nat) : Sl w B E A (l.take k) := by
  rcases h with rfl | ⟨b, off, hA, hb, hc⟩
  · exact .inl (by simp)
  · refine .inr ⟨b, off, hA, hb, fun i x hi j u hj => hc i x ?_ j u hj⟩
    rw [List.getElem?_take] at hi
    split at hi
    · exact hi
    · cases hi
end

section
variable {α : Type} {size : Nat} {w : World} {base e : Nat} {E : Enc α size} {l : List α}
theorem Own.frozen {b off n cap : Nat} (h : Own w base e E (.slice (some ⟨b, off, none⟩) n cap) l) (j : Nat) : w.frozen? ⟨b, j, none⟩ = false := by
  rcases h with ⟨hv, _⟩ | ⟨g, o, c, cur, hv, _, hh, _⟩
  · cases hv
  · cases hv
    simp [World.frozen?, hh]
theorem idx_ne {size k k' j j' : Nat} (hj : j < size) (hj' : j' < size) (h : k ≠ k') : k * size + j ≠ k' * size + j' := by
  intro he
  rcases Nat.lt_or_gt_of_ne h with hlt | hlt
  · have := Nat.mul_le_mul_right size (Nat.succ_le_of_lt hlt)
    rw [Nat.succ_mul] at this
    omega
  · have := Nat.mul_le_mul_right size (Nat.succ_le_of_lt hlt)
    rw [Nat.succ_mul] at this
    omega
/-- v[k].field = u -/
theorem Own.setElem {b off n cap : Nat} (h : Own w base e E (.slice (some ⟨b, off, none⟩) n cap) l) (k j : Nat) (hk : k < l.length) (hj : j < size) (u : Value) (x' : α) (hx : E.enc x' = (E.enc l[k]).set j u) :
    Own (w.setCell ⟨b, off + k * size + j, none⟩ u) base e E (.slice (some ⟨b, off, none⟩) n cap) (l.set k x') := by
  rcases h with ⟨hv, _⟩ | ⟨g, o, c, cur, hv, hg, hh, h1, h2, h3, h4⟩
  · cases hv
  · cases hv
    have hin : off + k * size + j < cur.size := by
      have e0 : (k + 1) * size ≤ cap * size := Nat.mul_le_mul_right _ (by omega)
      rw [Nat.add_mul] at e0
      omega
    refine .inr ⟨b, off, cap, cur.setIfInBounds (off + k * size + j) u, by rw [List.length_set], hg, ?_, by rw [List.length_set]; exact h1, h2, by rw [Array.size_setIfInBounds]; exact h3, fun q v hq => ?_⟩
    · simp [World.setCell, Array.getElem?_modify, hh]
    · obtain ⟨k', x, q', hk', hq', hqe⟩ := flat_inv E _ q v hq
      have hql : q' < size := by
        have := (List.getElem?_eq_some_iff.1 hq').1
        rwa [E.len] at this
      rw [List.getElem?_set] at hk'
      by_cases he : k = k'
      · subst he
        rw [if_pos rfl, if_pos hk] at hk'
        cases hk'
        rw [hx, List.getElem?_set] at hq'
        by_cases he2 : j = q'
        · subst he2
          rw [if_pos rfl] at hq'
          split at hq'
          · cases hq'
            rw [hqe, ← Nat.add_assoc, Array.getElem?_setIfInBounds_self_of_lt hin]
          · cases hq'
        · rw [if_neg he2] at hq'
          rw [hqe, ← Nat.add_assoc, Array.getElem?_setIfInBounds_ne (by omega)]
          have := h4 (k * size + q') v (flat_get E l k q' _ v (List.getElem?_eq_getElem hk) hq')
          rwa [← Nat.add_assoc] at this
      · rw [if_neg he] at hk'
        have hne := idx_ne hj hql he
        rw [hqe, Array.getElem?_setIfInBounds_ne (by omega)]
        exact h4 _ v (flat_get E l k' q' x v hk' hq')
end
theorem heap_new_at (w : World) (o : Obj) (b : Nat) (hb : b = w.heap.size) : (w.alloc o).heap[b]? = some o := by subst hb; exact heap_alloc_new w o
theorem heap_new_lt (w : World) (o : Obj) (b : Nat) (hb : b < w.heap.size) : (w.alloc o).heap[b]? = w.heap[b]? := Below.heap_alloc w o b hb
/-- A block that is known whole: its cells, and that none is frozen. -/
theorem blk_cell {w : World} {b t : Nat} {cs : Array Value} {fr : Nat × Nat} (h : w.heap[b]? = some (.cells cs t fr)) (o : Nat) : w.cell? ⟨b, o, none⟩ = cs[o]? := cell_of_row _ _ _ _ _ _ h
theorem blk_frozen {w : World} {b t : Nat} {cs : Array Value} (h : w.heap[b]? = some (.cells cs t (0, 0))) (o : Nat) : w.frozen? ⟨b, o, none⟩ = false := by simp [World.frozen?, h]
/-- It is kept where another slice grows, of another element type. -/
theorem blk_grown {w w' : World} {b t : Nat} {cs : Array Value} {fr : Nat × Nat} {α : Type} {size base e : Nat} {E : Enc α size} {v : Value} {l : List α} (h : w.heap[b]? = some (.cells cs t fr)) (ho : Own w base e E v l) (hg : w.grownBy w' v.ownBlock) (hne : e ≠ t) :
    w'.heap[b]? = some (.cells cs t fr) := (hg.block b (lt_of_block h) (Ne.symm (ho.ne_block h hne))).trans h
theorem blk_grown_not {w w' : World} {b : Nat} {o : Obj} {row : Option Nat} (h : w.heap[b]? = some o) (hg : w.grownBy w' row) (hne : row ≠ some b) : w'.heap[b]? = some o := (hg.block b (lt_of_block h) (Ne.symm hne)).trans h
theorem blk_below {w w' : World} {b : Nat} {o : Obj} (h : w.heap[b]? = some o) (hb : Below w.heap.size w w') : w'.heap[b]? = some o := (hb.block b (lt_of_block h)).trans h
/-- Block b is of cells of type t. -/
def TypeAt (w : World) (b t : Nat) : Prop := ∃ cs fr, w.heap[b]? = some (.cells cs t fr)
theorem TypeAt.of {w : World} {b t : Nat} {cs : Array Value} {fr : Nat × Nat} (h : w.heap[b]? = some (.cells cs t fr)) : TypeAt w b t := ⟨cs, fr, h⟩
theorem TypeAt.setCell {w : World} {b t : Nat} {p : Addr} {u : Value} (h : TypeAt w b t) : TypeAt (w.setCell p u) b t := by
  obtain ⟨cs, fr, h⟩ := h
  by_cases hp : p.block = b
  · exact ⟨_, _, by simp only [World.setCell, Array.getElem?_modify]; rw [if_pos hp, h]; rfl⟩
  · exact ⟨cs, fr, by rw [Below.heap_setCell _ _ _ _ (Ne.symm hp)]; exact h⟩
theorem TypeAt.lt {w : World} {b t : Nat} (h : TypeAt w b t) : b < w.heap.size := by
  obtain ⟨cs, fr, h⟩ := h
  exact lt_of_block h
theorem TypeAt.below {w w' : World} {b t : Nat} (h : TypeAt w b t) (hb : Below w.heap.size w w') : TypeAt w' b t := by
  obtain ⟨cs, fr, h⟩ := h
  exact ⟨cs, fr, blk_below h hb⟩
theorem TypeAt.alloc {w : World} {b t : Nat} (h : TypeAt w b t) (o : Obj) : TypeAt (w.alloc o) b t := h.below ((Below.refl _ _).alloc (Nat.le_refl _) o)
theorem TypeAt.drew {w : World} {b t : Nat} (h : TypeAt w b t) : TypeAt w.drew b t := h
theorem Own.setCellT {α : Type} {size : Nat} {w : World} {base e t : Nat} {E : Enc α size} {v : Value} {l : List α} {p : Addr} {u : Value} (h : Own w base e E v l) (hT : TypeAt w p.block t) (hne : e ≠ t) : Own (w.setCell p u) base e E v l := by
  obtain ⟨cs, fr, hh⟩ := hT
  exact h.setCell (h.ne_block hh hne) u
theorem Own.setCellB {α : Type} {size : Nat} {w : World} {base e : Nat} {E : Enc α size} {v : Value} {l : List α} {p : Addr} {u : Value} (h : Own w base e E v l) (hp : p.block < base) : Own (w.setCell p u) base e E v l :=
  h.setCell (fun he => by have := (h.lt _ he).1; omega) u
theorem Own.len_le {α : Type} {size : Nat} {w : World} {base e n cap : Nat} {A : Option Addr} {E : Enc α size} {l : List α} (h : Own w base e E (.slice A n cap) l) : n = l.length ∧ l.length ≤ cap ∧ cap ≤ maxLen := by
  rcases h with ⟨hv, rfl⟩ | ⟨g, o, c, cur, hv, _, _, h1, h2, _⟩
  · cases hv; simp
  · cases hv; exact ⟨rfl, h1, h2⟩
theorem Own.sl {α : Type} {size : Nat} {w : World} {base e n cap : Nat} {A : Option Addr} {E : Enc α size} {l : List α} (h : Own w base e E (.slice A n cap) l) : Sl w w.heap.size E A l := by
  obtain ⟨A', cap', hv, _, _, hS, _⟩ := h.form
  cases hv
  exact hS
/-- A slice that reads as a list, in a block of cells of type e. -/
def SlT {α : Type} {size : Nat} (w : World) (e : TypeId) (E : Enc α size) (A : Option Addr) (l : List α) : Prop :=
  l = [] ∨ ∃ b off, A = some ⟨b, off, none⟩ ∧ TypeAt w b e ∧ ∀ i x, l[i]? = some x → ∀ j u, (E.enc x)[j]? = some u → w.cell? ⟨b, off + i * size + j, none⟩ = some u
section
variable {α : Type} {size : Nat} {w w' : World} {e t : TypeId} {E : Enc α size} {A : Option Addr} {l : List α}
theorem SlT.nil : SlT w e E A [] := .inl rfl
theorem SlT.sl (h : SlT w e E A l) : Sl w w.heap.size E A l := by
  rcases h with h | ⟨b, off, hA, hT, hc⟩
  · exact .inl h
  · exact .inr ⟨b, off, hA, hT.lt, hc⟩
theorem SlT.below (h : SlT w e E A l) (hb : Below w.heap.size w w') : SlT w' e E A l := by
  rcases h with h | ⟨b, off, hA, hT, hc⟩
  · exact .inl h
  · exact .inr ⟨b, off, hA, hT.below hb, fun i x hi j u hj => (hb.cell (p := ⟨b, _, none⟩) hT.lt).trans (hc i x hi j u hj)⟩
theorem SlT.alloc (h : SlT w e E A l) (o : Obj) : SlT (w.alloc o) e E A l := h.below ((Below.refl _ _).alloc (Nat.le_refl _) o)
theorem SlT.drew (h : SlT w e E A l) : SlT w.drew e E A l := h
theorem SlT.setCellT {p : Addr} {u : Value} (h : SlT w e E A l) (hp : TypeAt w p.block t) (hne : e ≠ t) : SlT (w.setCell p u) e E A l := by
  rcases h with h | ⟨b, off, hA, hT, hc⟩
  · exact .inl h
  · refine .inr ⟨b, off, hA, hT.setCell, fun i x hi j v hj => ?_⟩
    have hpb : p.block ≠ b := by
      rintro rfl
      obtain ⟨_, _, h1⟩ := hT
      obtain ⟨_, _, h2⟩ := hp
      rw [h1] at h2
      cases h2
      exact hne rfl
    rw [World.cell?_of_block (w := w) (Below.heap_setCell w p u b (Ne.symm hpb))]
    exact hc i x hi j v hj
theorem Own.slT {base n cap : Nat} (h : Own w base e E (.slice A n cap) l) : SlT w e E A l := by
  rcases h with ⟨hv, rfl⟩ | ⟨g, off, cap, cur, hv, hg, hh, h1, h2, h3, h4⟩
  · exact .inl rfl
  · cases hv
    refine .inr ⟨g, off, rfl, .of hh, fun i x hi j u hj => ?_⟩
    rw [cell_of_row _ _ _ _ _ _ hh, Nat.add_assoc]
    exact h4 _ u (flat_get E l i j x u hi hj)
theorem SlT.cell_at {b off : Nat} (h : SlT w e E (some ⟨b, off, none⟩) l) {k : Nat} (hk : k < l.length) (j : Nat) (u : Value) (hj : (E.enc l[k])[j]? = some u) : w.cell? ⟨b, off + k * size + j, none⟩ = some u := by
  rcases h with h | ⟨b', off', hA, _, hc⟩
  · subst h; simp at hk
  · cases hA; exact hc k _ (List.getElem?_eq_getElem hk) j u hj
theorem SlT.at_ (h : SlT w e E A l) {k : Nat} (hk : k < l.length) : ∃ b off, A = some ⟨b, off, none⟩ ∧ TypeAt w b e ∧ ∀ j u, (E.enc l[k])[j]? = some u → w.cell? ⟨b, off + k * size + j, none⟩ = some u := by
  rcases h with h | ⟨b, off, hA, hb, hc⟩
  · subst h; simp at hk
  · exact ⟨b, off, hA, hb, fun j u hj => hc k _ (List.getElem?_eq_getElem hk) j u hj⟩
end
end Go.Proofs.YtgjaopfjffncbaaGreat
/- Packages reckon and twig: what their calls answer. -/
namespace Go.Proofs.YtgjaopfjffncbaaGreat
open Go.ChangeShapes Go.WideShapes Go.ChangeAt Go.RowKit
set_option linter.unusedVariables false

/-- A node of a universe. -/
def isNode (l id : Int) : Bool := decide ((1 ≤ l ∧ l ≤ 48) ∧ 1 ≤ id ∧ id < 2 * 2 ^ l.toNat)
theorem pow_pos' (n : Nat) : (0 : Int) < 2 ^ n := by
  have := Nat.two_pow_pos n
  have h : ((2 ^ n : Nat) : Int) = 2 ^ n := by simp
  omega
theorem pow_le' {n m : Nat} (h : n ≤ m) : (2 : Int) ^ n ≤ 2 ^ m := by
  have := Nat.pow_le_pow_right (n := 2) (by decide) h
  have h1 : ((2 ^ n : Nat) : Int) = 2 ^ n := by simp
  have h2 : ((2 ^ m : Nat) : Int) = 2 ^ m := by simp
  omega
theorem pow_48 {n : Nat} (h : n ≤ 48) : (2 : Int) ^ n ≤ 281474976710656 := by
  have := pow_le' h
  simpa using this

theorem universe_ (w : World) (l : Int) : Calls Tryz.prog 150 #[.int .i64 l] w fun e w' => e = .returned (.bool (decide (1 ≤ l ∧ l ≤ 48))) ∧ Below w.heap.size w w' := by
  by_cases h1 : 1 ≤ l
  · go_enter Tryz.func150, Tryz.ntmps150
    go_wp2_with fail
    go_ret
    exact ⟨ret_bool (by simp [h1]), (by repeat (first | with_reducible exact Below.refl _ _ | with_reducible assumption | ((with_reducible refine Below.setCell ?_ ?_ _); rotate_left; · (first | omega | exact Nat.le_refl _ | (simp <;> omega))) | (with_reducible refine Below.allocW ?_ _) | (with_reducible refine Below.drew ?_) | (with_reducible refine Below.extW ?_ _)))⟩
  · go_enter Tryz.func150, Tryz.ntmps150
    go_wp2_with fail
    go_ret
    exact ⟨ret_bool (by simp; omega), (by repeat (first | with_reducible exact Below.refl _ _ | with_reducible assumption | ((with_reducible refine Below.setCell ?_ ?_ _); rotate_left; · (first | omega | exact Nat.le_refl _ | (simp <;> omega))) | (with_reducible refine Below.allocW ?_ _) | (with_reducible refine Below.drew ?_) | (with_reducible refine Below.extW ?_ _)))⟩

theorem twig_Right (w : World) (l id : Int) : Calls Tryz.prog 178 #[.int .i64 l, .int .i64 id] w fun e w' => e = .returned (.bool (isNode l id)) ∧ Below w.heap.size w w' := by
  by_cases h1 : 1 ≤ l ∧ l ≤ 48
  · by_cases h2 : 1 ≤ id
    · obtain ⟨n, rfl⟩ := Int.eq_ofNat_of_zero_le (show 0 ≤ l by omega)
      have hp := pow_48 (n := n) (by omega)
      have hq := pow_pos' n
      have e0 : isNode n id = decide (id < 2 * 2 ^ n) := by simp [isNode, h1, h2]
      have E0 := Lib.hid e0
      have e1 : decide (1 ≤ (n : Int) ∧ (n : Int) ≤ 48) = true := by simpa using h1
      have E1 := Lib.hid e1
      clear e0 e1
      go_enter Tryz.func178, Tryz.ntmps178
      go_wp2_with fail
      refine (universe_ _ _).mono ?_
      rintro e w1 ⟨rfl, hb1⟩
      have B1 : Below w.heap.size w w1 := Below.then_ (by repeat (first | with_reducible exact Below.refl _ _ | with_reducible assumption | ((with_reducible refine Below.setCell ?_ ?_ _); rotate_left; · (first | omega | exact Nat.le_refl _ | (simp <;> omega))) | (with_reducible refine Below.allocW ?_ _) | (with_reducible refine Below.drew ?_) | (with_reducible refine Below.extW ?_ _))) hb1
      have s1 : w.heap.size ≤ w1.heap.size := B1.size
      rw [E1.out]
      go_wp2_with fail
      go_ret
      exact ⟨ret_bool E0.out.symm, (by repeat (first | with_reducible exact Below.refl _ _ | with_reducible assumption | ((with_reducible refine Below.setCell ?_ ?_ _); rotate_left; · (first | omega | exact Nat.le_refl _ | (simp <;> omega))) | (with_reducible refine Below.allocW ?_ _) | (with_reducible refine Below.drew ?_) | (with_reducible refine Below.extW ?_ _)))⟩
    · have e0 : isNode l id = false := by simp [isNode, h2]
      have E0 := Lib.hid e0
      have e1 : decide (1 ≤ l ∧ l ≤ 48) = true := by simpa using h1
      have E1 := Lib.hid e1
      clear e0 e1
      go_enter Tryz.func178, Tryz.ntmps178
      go_wp2_with fail
      refine (universe_ _ _).mono ?_
      rintro e w1 ⟨rfl, hb1⟩
      have B1 : Below w.heap.size w w1 := Below.then_ (by repeat (first | with_reducible exact Below.refl _ _ | with_reducible assumption | ((with_reducible refine Below.setCell ?_ ?_ _); rotate_left; · (first | omega | exact Nat.le_refl _ | (simp <;> omega))) | (with_reducible refine Below.allocW ?_ _) | (with_reducible refine Below.drew ?_) | (with_reducible refine Below.extW ?_ _))) hb1
      have s1 : w.heap.size ≤ w1.heap.size := B1.size
      rw [E1.out]
      go_wp2_with fail
      go_ret
      exact ⟨ret_bool E0.out.symm, (by repeat (first | with_reducible exact Below.refl _ _ | with_reducible assumption | ((with_reducible refine Below.setCell ?_ ?_ _); rotate_left; · (first | omega | exact Nat.le_refl _ | (simp <;> omega))) | (with_reducible refine Below.allocW ?_ _) | (with_reducible refine Below.drew ?_) | (with_reducible refine Below.extW ?_ _)))⟩
  · have e0 : isNode l id = false := by simp [isNode, h1]
    have E0 := Lib.hid e0
    have e1 : decide (1 ≤ l ∧ l ≤ 48) = false := by simpa using h1
    have E1 := Lib.hid e1
    clear e0 e1
    go_enter Tryz.func178, Tryz.ntmps178
    go_wp2_with fail
    refine (universe_ _ _).mono ?_
    rintro e w1 ⟨rfl, hb1⟩
    have B1 : Below w.heap.size w w1 := Below.then_ (by repeat (first | with_reducible exact Below.refl _ _ | with_reducible assumption | ((with_reducible refine Below.setCell ?_ ?_ _); rotate_left; · (first | omega | exact Nat.le_refl _ | (simp <;> omega))) | (with_reducible refine Below.allocW ?_ _) | (with_reducible refine Below.drew ?_) | (with_reducible refine Below.extW ?_ _))) hb1
    have s1 : w.heap.size ≤ w1.heap.size := B1.size
    rw [E1.out]
    go_wp2_with fail
    go_ret
    exact ⟨ret_bool E0.out.symm, (by repeat (first | with_reducible exact Below.refl _ _ | with_reducible assumption | ((with_reducible refine Below.setCell ?_ ?_ _); rotate_left; · (first | omega | exact Nat.le_refl _ | (simp <;> omega))) | (with_reducible refine Below.allocW ?_ _) | (with_reducible refine Below.drew ?_) | (with_reducible refine Below.extW ?_ _)))⟩

/-- Lib.bitLen and the power of two below a number. -/
theorem bitLen_log (n : Nat) (h0 : n ≠ 0) (h : n < 2 ^ 64) : Lib.bitLen n = n.log2 + 1 := by
  have := Lib.bitLenAux_bounds 64 n h h0
  have h1 : 2 ^ (Lib.bitLen n - 1) ≤ n := this.2.1
  have h2 : n < 2 ^ Lib.bitLen n := this.2.2
  have h3 : 1 ≤ Lib.bitLen n := this.1
  have h4 := Nat.log2_self_le h0
  have h5 : n < 2 ^ (n.log2 + 1) := Nat.lt_log2_self
  have h6 : n.log2 < Lib.bitLen n := (Nat.pow_lt_pow_iff_right (by decide : 1 < 2)).1 (Nat.lt_of_le_of_lt h4 h2)
  have h7 : Lib.bitLen n - 1 < n.log2 + 1 := (Nat.pow_lt_pow_iff_right (by decide : 1 < 2)).1 (Nat.lt_of_le_of_lt h1 h5)
  omega

theorem reckon_Log (w : World) (n : Int) (hn : n ≤ 9223372036854775807) : Calls Tryz.prog 214 #[.int .i64 n] w fun e w' =>
    e = .returned (if 1 ≤ n then .tuple #[.int .i64 n.toNat.log2, .bool true] else .tuple #[.int .i64 0, .bool false]) ∧ Below w.heap.size w w' := by
  by_cases h1 : 1 ≤ n
  · rw [if_pos h1]
    have hl : (Lib.bitLen n.toNat : Int) = n.toNat.log2 + 1 := by
      have := bitLen_log n.toNat (by omega) (by omega)
      omega
    have hb : n.toNat.log2 < 64 := (Nat.log2_lt (by omega)).2 (by omega)
    have HL := Lib.hid hl
    clear hl
    have h2 : 0 ≤ n := by omega
    go_enter Tryz.func214, Tryz.ntmps214
    go_wp2_with fail
    refine (Tryz.bits_Len64 _ _ (by omega) (by omega)).mono ?_
    rintro e w1 ⟨rfl, rfl⟩
    rw [HL.out]
    go_wp2_with fail
    go_ret2
    exact ⟨by simp, (by repeat (first | with_reducible exact Below.refl _ _ | with_reducible assumption | ((with_reducible refine Below.setCell ?_ ?_ _); rotate_left; · (first | omega | exact Nat.le_refl _ | (simp <;> omega))) | (with_reducible refine Below.allocW ?_ _) | (with_reducible refine Below.drew ?_) | (with_reducible refine Below.extW ?_ _)))⟩
  · rw [if_neg h1]
    go_enter Tryz.func214, Tryz.ntmps214
    go_wp2_with fail
    go_ret2
    exact ⟨rfl, (by repeat (first | with_reducible exact Below.refl _ _ | with_reducible assumption | ((with_reducible refine Below.setCell ?_ ?_ _); rotate_left; · (first | omega | exact Nat.le_refl _ | (simp <;> omega))) | (with_reducible refine Below.allocW ?_ _) | (with_reducible refine Below.drew ?_) | (with_reducible refine Below.extW ?_ _)))⟩

theorem twig_Depth (w : World) (n : Int) (hn : n ≤ 9223372036854775807) : Calls Tryz.prog 179 #[.int .i64 n] w fun e w' =>
    e = .returned (if 1 ≤ n then .tuple #[.int .i64 n.toNat.log2, .bool true] else .tuple #[.int .i64 0, .bool false]) ∧ Below w.heap.size w w' := by
  by_cases h1 : 1 ≤ n
  · rw [if_pos h1]
    go_enter Tryz.func179, Tryz.ntmps179
    go_wp2_with fail
    refine (reckon_Log _ n hn).mono ?_
    rintro e w1 ⟨rfl, hb1⟩
    have B1 : Below w.heap.size w w1 := Below.then_ (by repeat (first | with_reducible exact Below.refl _ _ | with_reducible assumption | ((with_reducible refine Below.setCell ?_ ?_ _); rotate_left; · (first | omega | exact Nat.le_refl _ | (simp <;> omega))) | (with_reducible refine Below.allocW ?_ _) | (with_reducible refine Below.drew ?_) | (with_reducible refine Below.extW ?_ _))) hb1
    have s1 : w.heap.size ≤ w1.heap.size := B1.size
    rw [if_pos h1]
    go_wp2_with fail
    go_ret2
    exact ⟨rfl, (by repeat (first | with_reducible exact Below.refl _ _ | with_reducible assumption | ((with_reducible refine Below.setCell ?_ ?_ _); rotate_left; · (first | omega | exact Nat.le_refl _ | (simp <;> omega))) | (with_reducible refine Below.allocW ?_ _) | (with_reducible refine Below.drew ?_) | (with_reducible refine Below.extW ?_ _)))⟩
  · rw [if_neg h1]
    go_enter Tryz.func179, Tryz.ntmps179
    go_wp2_with fail
    refine (reckon_Log _ n hn).mono ?_
    rintro e w1 ⟨rfl, hb1⟩
    have B1 : Below w.heap.size w w1 := Below.then_ (by repeat (first | with_reducible exact Below.refl _ _ | with_reducible assumption | ((with_reducible refine Below.setCell ?_ ?_ _); rotate_left; · (first | omega | exact Nat.le_refl _ | (simp <;> omega))) | (with_reducible refine Below.allocW ?_ _) | (with_reducible refine Below.drew ?_) | (with_reducible refine Below.extW ?_ _))) hb1
    have s1 : w.heap.size ≤ w1.heap.size := B1.size
    rw [if_neg (by omega)]
    go_wp2_with fail
    go_ret2
    exact ⟨rfl, (by repeat (first | with_reducible exact Below.refl _ _ | with_reducible assumption | ((with_reducible refine Below.setCell ?_ ?_ _); rotate_left; · (first | omega | exact Nat.le_refl _ | (simp <;> omega))) | (with_reducible refine Below.allocW ?_ _) | (with_reducible refine Below.drew ?_) | (with_reducible refine Below.extW ?_ _)))⟩

/-- The depth of a node, and what the ends are made of. -/
theorem node_facts {n x : Nat} (hn : n ≤ 48) (h1 : 1 ≤ x) (h2 : (x : Int) < 2 * 2 ^ n) : ∃ d b t : Nat, x.log2 = d ∧ n - d = b ∧ d + b = n ∧ x = 2 ^ d + t ∧ t < 2 ^ d ∧ (t + 1) * 2 ^ b ≤ 2 ^ n := by
  have hx : x < 2 ^ (n + 1) := by
    have : ((2 ^ (n + 1) : Nat) : Int) = 2 * 2 ^ n := by rw [Nat.pow_succ]; simp; omega
    omega
  have hd : x.log2 < n + 1 := (Nat.log2_lt (by omega)).2 hx
  have h3 := Nat.log2_self_le (show x ≠ 0 by omega)
  have h4 : x < 2 ^ (x.log2 + 1) := Nat.lt_log2_self
  rw [Nat.pow_succ] at h4
  refine ⟨x.log2, n - x.log2, x - 2 ^ x.log2, rfl, rfl, by omega, by omega, by omega, ?_⟩
  have h5 : (x - 2 ^ x.log2 + 1) ≤ 2 ^ x.log2 := by omega
  calc (x - 2 ^ x.log2 + 1) * 2 ^ (n - x.log2) ≤ 2 ^ x.log2 * 2 ^ (n - x.log2) := Nat.mul_le_mul_right _ h5
    _ = 2 ^ n := by rw [← Nat.pow_add]; congr 1; omega

/-- The ends of a node. -/
def endsOf (l id : Int) : Int × Int × Bool :=
  if isNode l id = true then ((id - 2 ^ id.toNat.log2) * 2 ^ (l.toNat - id.toNat.log2), (id - 2 ^ id.toNat.log2) * 2 ^ (l.toNat - id.toNat.log2) + 2 ^ (l.toNat - id.toNat.log2) - 1, true) else (0, 0, false)
def endsV (r : Int × Int × Bool) : Value := .tuple #[.int .i64 r.1, .int .i64 r.2.1, .bool r.2.2]
theorem isNode_nat {l id : Int} (h : isNode l id = true) : ∃ n x : Nat, l = n ∧ id = x ∧ 1 ≤ n ∧ n ≤ 48 ∧ 1 ≤ x ∧ (x : Int) < 2 * 2 ^ n := by
  simp only [isNode, decide_eq_true_eq] at h
  obtain ⟨⟨h1, h2⟩, h3, h4⟩ := h
  obtain ⟨n, rfl⟩ := Int.eq_ofNat_of_zero_le (show 0 ≤ l by omega)
  obtain ⟨x, rfl⟩ := Int.eq_ofNat_of_zero_le (show 0 ≤ id by omega)
  exact ⟨n, x, rfl, rfl, by omega, by omega, by omega, by simpa using h4⟩

set_option maxRecDepth 100000 in
theorem twig_Ends (w : World) (l id : Int) (hid : id ≤ 9223372036854775807) : Calls Tryz.prog 139 #[.int .i64 l, .int .i64 id] w fun e w' => e = .returned (endsV (endsOf l id)) ∧ Below w.heap.size w w' := by
  cases hN : isNode l id
  · have e1 : endsOf l id = (0, 0, false) := by simp [endsOf, hN]
    rw [e1]
    have E1 := Lib.hid hN
    clear e1 hN
    go_enter Tryz.func139, Tryz.ntmps139
    go_wp2_with fail
    refine (twig_Right _ l id).mono ?_
    rintro e w1 ⟨rfl, hb1⟩
    have B1 : Below w.heap.size w w1 := Below.then_ (by repeat (first | with_reducible exact Below.refl _ _ | with_reducible assumption | ((with_reducible refine Below.setCell ?_ ?_ _); rotate_left; · (first | omega | exact Nat.le_refl _ | (simp <;> omega))) | (with_reducible refine Below.allocW ?_ _) | (with_reducible refine Below.drew ?_) | (with_reducible refine Below.extW ?_ _))) hb1
    have s1 : w.heap.size ≤ w1.heap.size := B1.size
    rw [E1.out]
    go_wp2_with fail
    go_ret3
    exact ⟨rfl, (by repeat (first | with_reducible exact Below.refl _ _ | with_reducible assumption | ((with_reducible refine Below.setCell ?_ ?_ _); rotate_left; · (first | omega | exact Nat.le_refl _ | (simp <;> omega))) | (with_reducible refine Below.allocW ?_ _) | (with_reducible refine Below.drew ?_) | (with_reducible refine Below.extW ?_ _)))⟩
  · obtain ⟨n, x, rfl, rfl, hn1, hn2, hx1, hx2⟩ := isNode_nat hN
    obtain ⟨d, b, t, hd, hb, hdb, hxt, htd, hprod⟩ := node_facts hn2 hx1 hx2
    have e1 : endsOf n x = ((t : Int) * 2 ^ b, (t : Int) * 2 ^ b + 2 ^ b - 1, true) := by
      simp only [endsOf, hN, if_true, Int.toNat_natCast, hd, hb]
      have : (x : Int) - 2 ^ d = t := by rw [hxt]; push_cast; omega
      rw [this]
    rw [e1]
    have E1 := Lib.hid hN
    have E2 := Lib.hid hd
    have q1 : (n : Int) - (d : Int) = (b : Int) := by omega
    have q2 : (x : Int) - 2 ^ d = (t : Int) := by rw [hxt]; push_cast; omega
    have q3 := pow_pos' b
    have q4 := pow_48 (n := b) (by omega)
    have q5 := pow_48 (n := n) hn2
    have q6 := pow_48 (n := d) (by omega)
    have q7 := pow_pos' d
    have q8 : (t : Int) * 2 ^ b + 2 ^ b ≤ 2 ^ n := by
      have h : (((t + 1) * 2 ^ b : Nat) : Int) ≤ ((2 ^ n : Nat) : Int) := by exact_mod_cast hprod
      push_cast at h
      rw [Int.add_mul, Int.one_mul] at h
      exact h
    have q9 : 0 ≤ (t : Int) * 2 ^ b := Int.mul_nonneg (by omega) (by omega)
    have q10 : (x : Int) ≤ 562949953421312 := by omega
    have Q := Lib.hid (And.intro hxt (And.intro htd hprod))
    clear e1 hN hd hb hxt htd hprod hx2
    go_enter Tryz.func139, Tryz.ntmps139
    go_wp2_with fail
    refine (twig_Right _ n x).mono ?_
    rintro e w1 ⟨rfl, hb1⟩
    have B1 : Below w.heap.size w w1 := Below.then_ (by repeat (first | with_reducible exact Below.refl _ _ | with_reducible assumption | ((with_reducible refine Below.setCell ?_ ?_ _); rotate_left; · (first | omega | exact Nat.le_refl _ | (simp <;> omega))) | (with_reducible refine Below.allocW ?_ _) | (with_reducible refine Below.drew ?_) | (with_reducible refine Below.extW ?_ _))) hb1
    have s1 : w.heap.size ≤ w1.heap.size := B1.size
    rw [E1.out]
    go_wp2_with fail
    refine (twig_Depth _ x (by omega)).mono ?_
    rintro e w2 ⟨rfl, hb2⟩
    have B2 : Below w.heap.size w w2 := Below.then_ (by repeat (first | with_reducible exact Below.refl _ _ | with_reducible assumption | ((with_reducible refine Below.setCell ?_ ?_ _); rotate_left; · (first | omega | exact Nat.le_refl _ | (simp <;> omega))) | (with_reducible refine Below.allocW ?_ _) | (with_reducible refine Below.drew ?_) | (with_reducible refine Below.extW ?_ _))) hb2
    have s2 : w.heap.size ≤ w2.heap.size := B2.size
    rw [if_pos (by omega)]
    simp only [Int.toNat_natCast, E2.out]
    go_wp2_with fail
    refine wp_region_ext (by kernel_rfl) (by kernel_rfl) ?_
    repeat (go_big_quiet_step (fail))
    refine wpQuiet_nil ?_
    intro w3 hb3
    replace hb3 := below_of_ext hb3
    have B3 : Below w.heap.size w w3 := Below.then_ (by repeat (first | with_reducible exact Below.refl _ _ | with_reducible assumption | ((with_reducible refine Below.setCell ?_ ?_ _); rotate_left; · (first | omega | exact Nat.le_refl _ | (simp <;> omega))) | (with_reducible refine Below.allocW ?_ _) | (with_reducible refine Below.drew ?_) | (with_reducible refine Below.extW ?_ _))) hb3
    have s3 : w.heap.size ≤ w3.heap.size := B3.size
    go_wp2_with fail
    go_ret3
    exact ⟨rfl, (by repeat (first | with_reducible exact Below.refl _ _ | with_reducible assumption | ((with_reducible refine Below.setCell ?_ ?_ _); rotate_left; · (first | omega | exact Nat.le_refl _ | (simp <;> omega))) | (with_reducible refine Below.allocW ?_ _) | (with_reducible refine Below.drew ?_) | (with_reducible refine Below.extW ?_ _)))⟩

/-- The children of a node. -/
def kidsOf (l id : Int) : Int × Int × Bool := if isNode l id = true ∧ id < 2 ^ l.toNat then (2 * id, 2 * id + 1, true) else (0, 0, false)
set_option maxRecDepth 100000 in
theorem twig_Kids (w : World) (l id : Int) : Calls Tryz.prog 235 #[.int .i64 l, .int .i64 id] w fun e w' => e = .returned (endsV (kidsOf l id)) ∧ Below w.heap.size w w' := by
  cases hN : isNode l id
  · have e1 : kidsOf l id = (0, 0, false) := by simp [kidsOf, hN]
    rw [e1]
    have E1 := Lib.hid hN
    clear e1 hN
    go_enter Tryz.func235, Tryz.ntmps235
    go_wp2_with fail
    refine (twig_Right _ l id).mono ?_
    rintro e w1 ⟨rfl, hb1⟩
    have B1 : Below w.heap.size w w1 := Below.then_ (by repeat (first | with_reducible exact Below.refl _ _ | with_reducible assumption | ((with_reducible refine Below.setCell ?_ ?_ _); rotate_left; · (first | omega | exact Nat.le_refl _ | (simp <;> omega))) | (with_reducible refine Below.allocW ?_ _) | (with_reducible refine Below.drew ?_) | (with_reducible refine Below.extW ?_ _))) hb1
    have s1 : w.heap.size ≤ w1.heap.size := B1.size
    rw [E1.out]
    go_wp2_with fail
    go_ret3
    exact ⟨rfl, (by repeat (first | with_reducible exact Below.refl _ _ | with_reducible assumption | ((with_reducible refine Below.setCell ?_ ?_ _); rotate_left; · (first | omega | exact Nat.le_refl _ | (simp <;> omega))) | (with_reducible refine Below.allocW ?_ _) | (with_reducible refine Below.drew ?_) | (with_reducible refine Below.extW ?_ _)))⟩
  · obtain ⟨n, x, rfl, rfl, hn1, hn2, hx1, hx2⟩ := isNode_nat hN
    have q5 := pow_48 (n := n) hn2
    have q6 := pow_pos' n
    have E1 := Lib.hid hN
    have q7 : (x : Int) ≤ 562949953421312 := by omega
    by_cases hk : (x : Int) < 2 ^ n
    · have e1 : kidsOf n x = (2 * (x : Int), 2 * (x : Int) + 1, true) := by simp [kidsOf, hN, hk]
      rw [e1]
      clear e1 hN hx2
      go_enter Tryz.func235, Tryz.ntmps235
      go_wp2_with fail
      refine (twig_Right _ n x).mono ?_
      rintro e w1 ⟨rfl, hb1⟩
      have B1 : Below w.heap.size w w1 := Below.then_ (by repeat (first | with_reducible exact Below.refl _ _ | with_reducible assumption | ((with_reducible refine Below.setCell ?_ ?_ _); rotate_left; · (first | omega | exact Nat.le_refl _ | (simp <;> omega))) | (with_reducible refine Below.allocW ?_ _) | (with_reducible refine Below.drew ?_) | (with_reducible refine Below.extW ?_ _))) hb1
      have s1 : w.heap.size ≤ w1.heap.size := B1.size
      rw [E1.out]

      go_wp2_with fail
      go_ret3
      exact ⟨rfl, (by repeat (first | with_reducible exact Below.refl _ _ | with_reducible assumption | ((with_reducible refine Below.setCell ?_ ?_ _); rotate_left; · (first | omega | exact Nat.le_refl _ | (simp <;> omega))) | (with_reducible refine Below.allocW ?_ _) | (with_reducible refine Below.drew ?_) | (with_reducible refine Below.extW ?_ _)))⟩
    · have e1 : kidsOf n x = (0, 0, false) := by
        simp only [kidsOf]
        rw [if_neg]
        intro h
        exact hk (by simpa using h.2)
      rw [e1]
      clear e1 hN hx2
      go_enter Tryz.func235, Tryz.ntmps235
      go_wp2_with fail
      refine (twig_Right _ n x).mono ?_
      rintro e w1 ⟨rfl, hb1⟩
      have B1 : Below w.heap.size w w1 := Below.then_ (by repeat (first | with_reducible exact Below.refl _ _ | with_reducible assumption | ((with_reducible refine Below.setCell ?_ ?_ _); rotate_left; · (first | omega | exact Nat.le_refl _ | (simp <;> omega))) | (with_reducible refine Below.allocW ?_ _) | (with_reducible refine Below.drew ?_) | (with_reducible refine Below.extW ?_ _))) hb1
      have s1 : w.heap.size ≤ w1.heap.size := B1.size
      rw [E1.out]
      go_wp2_with fail
      go_ret3
      exact ⟨rfl, (by repeat (first | with_reducible exact Below.refl _ _ | with_reducible assumption | ((with_reducible refine Below.setCell ?_ ?_ _); rotate_left; · (first | omega | exact Nat.le_refl _ | (simp <;> omega))) | (with_reducible refine Below.allocW ?_ _) | (with_reducible refine Below.drew ?_) | (with_reducible refine Below.extW ?_ _)))⟩

theorem reckon_counts (w : World) (a b : Int) : Calls Tryz.prog 226 #[.int .i64 a, .int .i64 b] w fun e w' => e = .returned (.bool (decide (0 ≤ a ∧ 0 ≤ b))) ∧ Below w.heap.size w w' := by
  by_cases h1 : 0 ≤ a
  · go_enter Tryz.func226, Tryz.ntmps226
    go_wp2_with fail
    go_ret
    exact ⟨ret_bool (by simp [h1]), (by repeat (first | with_reducible exact Below.refl _ _ | with_reducible assumption | ((with_reducible refine Below.setCell ?_ ?_ _); rotate_left; · (first | omega | exact Nat.le_refl _ | (simp <;> omega))) | (with_reducible refine Below.allocW ?_ _) | (with_reducible refine Below.drew ?_) | (with_reducible refine Below.extW ?_ _)))⟩
  · go_enter Tryz.func226, Tryz.ntmps226
    go_wp2_with fail
    go_ret
    exact ⟨ret_bool (by simp; omega), (by repeat (first | with_reducible exact Below.refl _ _ | with_reducible assumption | ((with_reducible refine Below.setCell ?_ ?_ _); rotate_left; · (first | omega | exact Nat.le_refl _ | (simp <;> omega))) | (with_reducible refine Below.allocW ?_ _) | (with_reducible refine Below.drew ?_) | (with_reducible refine Below.extW ?_ _)))⟩
/-- A sum that is checked. -/
def addOf (a b : Int) : Int × Bool := if 0 ≤ a ∧ 0 ≤ b ∧ a + b ≤ 9223372036854775807 then (a + b, true) else (0, false)
def okV (r : Int × Bool) : Value := .tuple #[.int .i64 r.1, .bool r.2]
theorem reckon_Add (w : World) (a b : Int) (ha : a ≤ 9223372036854775807) (hb : b ≤ 9223372036854775807) : Calls Tryz.prog 188 #[.int .i64 a, .int .i64 b] w fun e w' => e = .returned (okV (addOf a b)) ∧ Below w.heap.size w w' := by
  by_cases h1 : 0 ≤ a ∧ 0 ≤ b
  · have E1 := Lib.hid (show decide (0 ≤ a ∧ 0 ≤ b) = true by simpa using h1)
    obtain ⟨h1, h2⟩ := h1
    by_cases h3 : 9223372036854775807 - b < a
    · have e1 : addOf a b = (0, false) := by simp only [addOf]; rw [if_neg (by omega)]
      rw [e1]
      clear e1
      go_enter Tryz.func188, Tryz.ntmps188
      go_wp2_with fail
      refine (reckon_counts _ a b).mono ?_
      rintro e w1 ⟨rfl, hb1⟩
      have B1 : Below w.heap.size w w1 := Below.then_ (by repeat (first | with_reducible exact Below.refl _ _ | with_reducible assumption | ((with_reducible refine Below.setCell ?_ ?_ _); rotate_left; · (first | omega | exact Nat.le_refl _ | (simp <;> omega))) | (with_reducible refine Below.allocW ?_ _) | (with_reducible refine Below.drew ?_) | (with_reducible refine Below.extW ?_ _))) hb1
      have s1 : w.heap.size ≤ w1.heap.size := B1.size
      rw [E1.out]
      go_wp2_with fail
      go_ret2
      exact ⟨rfl, (by repeat (first | with_reducible exact Below.refl _ _ | with_reducible assumption | ((with_reducible refine Below.setCell ?_ ?_ _); rotate_left; · (first | omega | exact Nat.le_refl _ | (simp <;> omega))) | (with_reducible refine Below.allocW ?_ _) | (with_reducible refine Below.drew ?_) | (with_reducible refine Below.extW ?_ _)))⟩
    · have e1 : addOf a b = (a + b, true) := by simp only [addOf]; rw [if_pos (by omega)]
      rw [e1]
      clear e1
      go_enter Tryz.func188, Tryz.ntmps188
      go_wp2_with fail
      refine (reckon_counts _ a b).mono ?_
      rintro e w1 ⟨rfl, hb1⟩
      have B1 : Below w.heap.size w w1 := Below.then_ (by repeat (first | with_reducible exact Below.refl _ _ | with_reducible assumption | ((with_reducible refine Below.setCell ?_ ?_ _); rotate_left; · (first | omega | exact Nat.le_refl _ | (simp <;> omega))) | (with_reducible refine Below.allocW ?_ _) | (with_reducible refine Below.drew ?_) | (with_reducible refine Below.extW ?_ _))) hb1
      have s1 : w.heap.size ≤ w1.heap.size := B1.size
      rw [E1.out]
      go_wp2_with fail
      go_ret2
      exact ⟨rfl, (by repeat (first | with_reducible exact Below.refl _ _ | with_reducible assumption | ((with_reducible refine Below.setCell ?_ ?_ _); rotate_left; · (first | omega | exact Nat.le_refl _ | (simp <;> omega))) | (with_reducible refine Below.allocW ?_ _) | (with_reducible refine Below.drew ?_) | (with_reducible refine Below.extW ?_ _)))⟩
  · have E1 := Lib.hid (show decide (0 ≤ a ∧ 0 ≤ b) = false by simpa using h1)
    have e1 : addOf a b = (0, false) := by simp only [addOf]; rw [if_neg (by omega)]
    rw [e1]
    clear e1 h1
    go_enter Tryz.func188, Tryz.ntmps188
    go_wp2_with fail
    refine (reckon_counts _ a b).mono ?_
    rintro e w1 ⟨rfl, hb1⟩
    have B1 : Below w.heap.size w w1 := Below.then_ (by repeat (first | with_reducible exact Below.refl _ _ | with_reducible assumption | ((with_reducible refine Below.setCell ?_ ?_ _); rotate_left; · (first | omega | exact Nat.le_refl _ | (simp <;> omega))) | (with_reducible refine Below.allocW ?_ _) | (with_reducible refine Below.drew ?_) | (with_reducible refine Below.extW ?_ _))) hb1
    have s1 : w.heap.size ≤ w1.heap.size := B1.size
    rw [E1.out]
    go_wp2_with fail
    go_ret2
    exact ⟨rfl, (by repeat (first | with_reducible exact Below.refl _ _ | with_reducible assumption | ((with_reducible refine Below.setCell ?_ ?_ _); rotate_left; · (first | omega | exact Nat.le_refl _ | (simp <;> omega))) | (with_reducible refine Below.allocW ?_ _) | (with_reducible refine Below.drew ?_) | (with_reducible refine Below.extW ?_ _)))⟩
/-- How often b goes into a. -/
def divOf (a b : Int) : Int × Bool := if a < 0 ∨ b < 1 then (0, false) else (a / b, true)
theorem reckon_Div (w : World) (a b : Int) (ha : a ≤ 9223372036854775807) (hb : b ≤ 9223372036854775807) : Calls Tryz.prog 239 #[.int .i64 a, .int .i64 b] w fun e w' => e = .returned (okV (divOf a b)) ∧ Below w.heap.size w w' := by
  by_cases h1 : a < 0
  · have e1 : divOf a b = (0, false) := by simp only [divOf]; rw [if_pos (by omega)]
    rw [e1]
    clear e1
    go_enter Tryz.func239, Tryz.ntmps239
    go_wp2_with fail
    go_ret2
    exact ⟨rfl, (by repeat (first | with_reducible exact Below.refl _ _ | with_reducible assumption | ((with_reducible refine Below.setCell ?_ ?_ _); rotate_left; · (first | omega | exact Nat.le_refl _ | (simp <;> omega))) | (with_reducible refine Below.allocW ?_ _) | (with_reducible refine Below.drew ?_) | (with_reducible refine Below.extW ?_ _)))⟩
  · by_cases h2 : b < 1
    · have e1 : divOf a b = (0, false) := by simp only [divOf]; rw [if_pos (by omega)]
      rw [e1]
      clear e1
      go_enter Tryz.func239, Tryz.ntmps239
      go_wp2_with fail
      go_ret2
      exact ⟨rfl, (by repeat (first | with_reducible exact Below.refl _ _ | with_reducible assumption | ((with_reducible refine Below.setCell ?_ ?_ _); rotate_left; · (first | omega | exact Nat.le_refl _ | (simp <;> omega))) | (with_reducible refine Below.allocW ?_ _) | (with_reducible refine Below.drew ?_) | (with_reducible refine Below.extW ?_ _)))⟩
    · have e1 : divOf a b = (a / b, true) := by simp only [divOf]; rw [if_neg (by omega)]
      rw [e1]
      clear e1
      have q1 : 0 ≤ a / b := Int.ediv_nonneg (by omega) (by omega)
      have q2 : a / b ≤ a := Int.ediv_le_self _ (by omega)
      go_enter Tryz.func239, Tryz.ntmps239
      go_wp2_with fail
      unfold okV
      go_ret2
      exact ⟨rfl, (by repeat (first | with_reducible exact Below.refl _ _ | with_reducible assumption | ((with_reducible refine Below.setCell ?_ ?_ _); rotate_left; · (first | omega | exact Nat.le_refl _ | (simp <;> omega))) | (with_reducible refine Below.allocW ?_ _) | (with_reducible refine Below.drew ?_) | (with_reducible refine Below.extW ?_ _)))⟩
end Go.Proofs.YtgjaopfjffncbaaGreat
/- Objects behind pointers: what a call on one may turn. -/
namespace Go.Proofs.YtgjaopfjffncbaaGreat
open Go.ChangeShapes Go.WideShapes Go.ChangeAt Go.RowKit
set_option linter.unusedVariables false

/-- Of the blocks that stood only those in F may have turned. -/
structure Turn (F : Nat → Prop) (w w' : World) : Prop where
  os : w'.os = w.os
  tape : w'.tape = w.tape
  output : w'.output = w.output
  size : w.heap.size ≤ w'.heap.size
  block : ∀ b, b < w.heap.size → ¬ F b → w'.heap[b]? = w.heap[b]?
/-- A footprint behind a call: of the elder one, or new. -/
def Grow (w : World) (F F' : Nat → Prop) : Prop := ∀ b, F' b → F b ∨ w.heap.size ≤ b
section
variable {F F' F'' : Nat → Prop} {w w1 w2 : World}
theorem Turn.refl (F : Nat → Prop) (w : World) : Turn F w w := ⟨rfl, rfl, rfl, Nat.le_refl _, fun _ _ _ => rfl⟩
theorem Turn.mono (h : Turn F w w1) (hF : ∀ b, b < w.heap.size → F b → F' b) : Turn F' w w1 := ⟨h.os, h.tape, h.output, h.size, fun b hb hn => h.block b hb fun hf => hn (hF b hb hf)⟩
theorem Turn.trans (h : Turn F w w1) (k : Turn F' w1 w2) (hG : Grow w F F') : Turn F w w2 :=
  ⟨k.os.trans h.os, k.tape.trans h.tape, k.output.trans h.output, Nat.le_trans h.size k.size, fun b hb hn => (k.block b (Nat.lt_of_lt_of_le hb h.size) fun hf => by
    rcases hG b hf with hf | hf
    · exact hn hf
    · omega).trans (h.block b hb hn)⟩
theorem Turn.of_below (h : Below w.heap.size w w1) : Turn F w w1 := ⟨h.os, h.tape, h.output, h.size, fun b hb _ => h.block b hb⟩
theorem Turn.below (h : Turn F w w1) {base : Nat} (hF : ∀ b, F b → base ≤ b) (hb : base ≤ w.heap.size) : Below base w w1 :=
  ⟨h.os, h.tape, h.output, h.size, fun b hlt => h.block b (by omega) fun hf => by have := hF b hf; omega⟩
theorem Turn.more (h : Turn F w w1) (k : Below w1.heap.size w1 w2) : Turn F w w2 := h.trans (.of_below k) (fun _ hf => .inl hf)
theorem Turn.setCell (h : Turn F w w1) {p : Addr} (hp : F p.block ∨ w.heap.size ≤ p.block) (u : Value) : Turn F w (w1.setCell p u) :=
  ⟨h.os, h.tape, h.output, by simp [World.setCell]; exact h.size, fun b hb hn => by
    rw [Below.heap_setCell _ _ _ _ (by
      rintro rfl
      rcases hp with hp | hp
      · exact hn hp
      · omega)]
    exact h.block b hb hn⟩
theorem Turn.alloc (h : Turn F w w1) (o : Obj) : Turn F w (w1.alloc o) := h.more ((Below.refl _ _).alloc (Nat.le_refl _) o)
theorem Turn.drew (h : Turn F w w1) : Turn F w w1.drew := ⟨h.os, h.tape, h.output, h.size, h.block⟩
theorem Turn.grown (h : Turn F w w1) {row : Option Nat} (hg : w1.grownBy w2 row) (hr : ∀ b, row = some b → F b ∨ w.heap.size ≤ b) : Turn F w w2 :=
  ⟨hg.os.trans h.os, hg.tape.trans h.tape, hg.output.trans h.output, Nat.le_trans h.size hg.size, fun b hb hn => (hg.block b (Nat.lt_of_lt_of_le hb h.size) fun he => by
    rcases hr b he.symm with hf | hf
    · exact hn hf
    · omega).trans (h.block b hb hn)⟩
theorem Grow.refl : Grow w F F := fun _ h => .inl h
theorem Grow.trans (h : Grow w F F') (k : Grow w1 F' F'') (hs : w.heap.size ≤ w1.heap.size) : Grow w F F'' := fun b hb => by
  rcases k b hb with hb | hb
  · exact h b hb
  · exact .inr (Nat.le_trans hs hb)
theorem Turn.keep {o : Obj} {b : Nat} (h : Turn F w w1) (hb : w.heap[b]? = some o) (hn : ¬ F b) : w1.heap[b]? = some o := (h.block b (lt_of_block hb) hn).trans hb
theorem Turn.own {α : Type} {size base e : Nat} {E : Enc α size} {v : Value} {l : List α} (h : Turn F w w1) (ho : Own w base e E v l) (hn : ∀ b, v.ownBlock = some b → ¬ F b) : Own w1 base e E v l :=
  ho.of_block fun g hv => h.block g (ho.lt g hv).2 (hn g hv)
theorem Turn.cell {b o : Nat} (h : Turn F w w1) (hb : b < w.heap.size) (hn : ¬ F b) : w1.cell? ⟨b, o, none⟩ = w.cell? ⟨b, o, none⟩ := World.cell?_of_block (h.block b hb hn)
end

/-- A node: its number, and its weight. -/
abbrev Nd := Int × Int
/-- A roll: the numbers rise, and the weights are at least 1. -/
def Roll (r : List Nd) : Prop := r.Pairwise (fun a b => a.1 < b.1) ∧ ∀ x ∈ r, 1 ≤ x.1 ∧ 1 ≤ x.2
/-- A node's weight in a roll. -/
def getR : List Nd → Int → Int
  | [], _ => 0
  | x :: r, id => if x.1 = id then x.2 else getR r id
/-- A weight more. -/
def addR : List Nd → Int → Int → List Nd
  | [], id, c => [(id, c)]
  | x :: r, id, c => if x.1 = id then (id, x.2 + c) :: r else if id < x.1 then (id, c) :: x :: r else x :: addR r id c
/-- A node less. -/
def delR : List Nd → Int → List Nd
  | [], _ => []
  | x :: r, id => if x.1 = id then r else x :: delR r id
def sumR : List Nd → Int
  | [] => 0
  | x :: r => x.2 + sumR r

theorem Roll.tail {x : Nd} {r : List Nd} (h : Roll (x :: r)) : Roll r := ⟨(List.pairwise_cons.1 h.1).2, fun y hy => h.2 y (List.mem_cons_of_mem _ hy)⟩
theorem Roll.head {x : Nd} {r : List Nd} (h : Roll (x :: r)) : ∀ y ∈ r, x.1 < y.1 := (List.pairwise_cons.1 h.1).1
theorem getR_none {r : List Nd} {id : Int} (h : ∀ x ∈ r, x.1 ≠ id) : getR r id = 0 := by
  induction r with
  | nil => rfl
  | cons x r ih =>
    simp only [getR]
    rw [if_neg (h x (by simp)), ih fun y hy => h y (by simp [hy])]
theorem getR_mem {r : List Nd} (hr : Roll r) {x : Nd} (hx : x ∈ r) : getR r x.1 = x.2 := by
  induction r with
  | nil => simp at hx
  | cons y r ih =>
    simp only [getR]
    rcases List.mem_cons.1 hx with rfl | hx
    · rw [if_pos rfl]
    · have := hr.head x hx
      rw [if_neg (by omega)]
      exact ih hr.tail hx
theorem getR_pos {r : List Nd} (hr : Roll r) {id : Int} (h : getR r id ≠ 0) : (id, getR r id) ∈ r := by
  induction r with
  | nil => simp [getR] at h
  | cons y r ih =>
    simp only [getR] at h ⊢
    by_cases hy : y.1 = id
    · rw [if_pos hy]; subst hy; simp
    · rw [if_neg hy] at h ⊢
      exact List.mem_cons_of_mem _ (ih hr.tail h)
theorem getR_nonneg {r : List Nd} (hr : Roll r) (id : Int) : 0 ≤ getR r id := by
  by_cases h : getR r id = 0
  · omega
  · have := (hr.2 _ (getR_pos hr h)).2
    simp only at this
    omega
/-- Two rolls with the same weights are one. -/
theorem Roll.ext {r s : List Nd} (hr : Roll r) (hs : Roll s) (h : ∀ id, getR r id = getR s id) : r = s := by
  induction r generalizing s with
  | nil =>
    cases s with
    | nil => rfl
    | cons y s =>
      have h1 := h y.1
      have h2 := (hs.2 y (by simp)).2
      simp [getR] at h1
      omega
  | cons x r ih =>
    cases s with
    | nil =>
      have h1 := h x.1
      have h2 := (hr.2 x (by simp)).2
      simp [getR] at h1
      omega
    | cons y s =>
      have hx := hr.2 x (by simp)
      have hy := hs.2 y (by simp)
      have e1 : x.1 = y.1 := by
        rcases Int.lt_trichotomy x.1 y.1 with hlt | heq | hlt
        · have h1 := h x.1
          simp only [getR, if_true] at h1
          rw [if_neg (by omega), getR_none (fun z hz => by have := hs.head z hz; omega)] at h1
          omega
        · exact heq
        · have h1 := h y.1
          simp only [getR, if_true] at h1
          rw [if_neg (by omega), getR_none (fun z hz => by have := hr.head z hz; omega)] at h1
          omega
      have e2 : x.2 = y.2 := by
        have h1 := h x.1
        simp only [getR, if_true] at h1
        rw [if_pos e1.symm] at h1
        exact h1
      have e3 : x = y := Prod.ext e1 e2
      subst e3
      congr 1
      refine ih hr.tail hs.tail fun id => ?_
      have h1 := h id
      simp only [getR] at h1
      by_cases hid : x.1 = id
      · rw [getR_none (fun z hz => by have := hr.head z hz; omega), getR_none (fun z hz => by have := hs.head z hz; omega)]
      · rw [if_neg hid, if_neg hid] at h1
        exact h1

theorem addR_mem {r : List Nd} {id c : Int} {y : Nd} (h : y ∈ addR r id c) : y.1 = id ∨ y ∈ r := by
  induction r with
  | nil => simp [addR] at h; subst h; exact .inl rfl
  | cons x r ih =>
    simp only [addR] at h
    split at h
    · rcases List.mem_cons.1 h with rfl | h
      · exact .inl rfl
      · exact .inr (List.mem_cons_of_mem _ h)
    · split at h
      · rcases List.mem_cons.1 h with rfl | h
        · exact .inl rfl
        · exact .inr h
      · rcases List.mem_cons.1 h with rfl | h
        · exact .inr (by simp)
        · exact (ih h).imp (fun h => h) (fun h => List.mem_cons_of_mem _ h)
theorem Roll.cons {x : Nd} {r : List Nd} (h : Roll r) (hx : ∀ y ∈ r, x.1 < y.1) (h1 : 1 ≤ x.1) (h2 : 1 ≤ x.2) : Roll (x :: r) := by
  refine ⟨List.pairwise_cons.2 ⟨hx, h.1⟩, fun y hy => ?_⟩
  rcases List.mem_cons.1 hy with rfl | hy
  · exact ⟨h1, h2⟩
  · exact h.2 y hy
theorem Roll.add {r : List Nd} (hr : Roll r) {id c : Int} (h1 : 1 ≤ id) (h2 : 1 ≤ c) : Roll (addR r id c) := by
  induction r with
  | nil => exact Roll.cons hr (by simp) h1 h2
  | cons x r ih =>
    have hx := hr.2 x (by simp)
    simp only [addR]
    split
    · rename_i he
      exact Roll.cons hr.tail (fun y hy => by have := hr.head y hy; simp only; omega) h1 (by simp only; omega)
    · split
      · rename_i hlt
        refine Roll.cons hr (fun y hy => ?_) h1 h2
        rcases List.mem_cons.1 hy with rfl | hy
        · exact hlt
        · have := hr.head y hy; simp only; omega
      · rename_i hne hge
        refine Roll.cons (ih hr.tail) (fun y hy => ?_) hx.1 hx.2
        rcases addR_mem hy with hy | hy
        · omega
        · exact hr.head y hy
theorem getR_add {r : List Nd} (hr : Roll r) (id c j : Int) : getR (addR r id c) j = if j = id then getR r id + c else getR r j := by
  induction r with
  | nil =>
    simp only [addR, getR]
    by_cases h : id = j
    · rw [if_pos h, if_pos h.symm]; omega
    · rw [if_neg h, if_neg (fun e => h e.symm)]
  | cons x r ih =>
    simp only [addR]
    split
    · rename_i he
      simp only [getR]
      by_cases h : j = id
      · subst h; simp [he]
      · have h2 : ¬ x.1 = j := by omega
        rw [if_neg (fun e => h e.symm), if_neg h, if_neg h2]
    · rename_i hne
      split
      · rename_i hlt
        have h0 : getR (x :: r) id = 0 := getR_none (fun y hy => by
          rcases List.mem_cons.1 hy with rfl | hy
          · omega
          · have := hr.head y hy; omega)
        show (if id = j then c else getR (x :: r) j) = _
        by_cases h : j = id
        · rw [if_pos h.symm, if_pos h, h0]; omega
        · rw [if_neg (fun e => h e.symm), if_neg h]
      · show (if x.1 = j then x.2 else getR (addR r id c) j) = if j = id then (if x.1 = id then x.2 else getR r id) + c else (if x.1 = j then x.2 else getR r j)
        rw [ih hr.tail]
        by_cases h : j = id
        · subst h; rw [if_neg hne, if_pos rfl, if_pos rfl]; simp [hne]
        · rw [if_neg h, if_neg h]
theorem sumR_add (r : List Nd) (id c : Int) : sumR (addR r id c) = sumR r + c := by
  induction r with
  | nil => simp [addR, sumR]
  | cons x r ih =>
    simp only [addR]
    split
    · simp only [sumR]; omega
    · split
      · simp only [sumR]; omega
      · simp only [sumR, ih]; omega
theorem len_add {r : List Nd} (hr : Roll r) (id c : Int) : (addR r id c).length = if getR r id = 0 then r.length + 1 else r.length := by
  induction r with
  | nil => simp [addR, getR]
  | cons x r ih =>
    have hx := hr.2 x (by simp)
    simp only [addR, getR]
    split
    · rw [if_neg (by omega)]; simp
    · split
      · rw [if_pos (getR_none fun y hy => by have := hr.head y hy; omega)]; simp
      · simp only [List.length_cons, ih hr.tail]
        split <;> rfl
theorem delR_sub {r : List Nd} {id : Int} {y : Nd} (h : y ∈ delR r id) : y ∈ r := by
  induction r with
  | nil => simp [delR] at h
  | cons x r ih =>
    simp only [delR] at h
    split at h
    · exact List.mem_cons_of_mem _ h
    · rcases List.mem_cons.1 h with rfl | h
      · simp
      · exact List.mem_cons_of_mem _ (ih h)
theorem Roll.del {r : List Nd} (hr : Roll r) (id : Int) : Roll (delR r id) := by
  induction r with
  | nil => exact hr
  | cons x r ih =>
    have hx := hr.2 x (by simp)
    simp only [delR]
    split
    · exact hr.tail
    · exact Roll.cons (ih hr.tail) (fun y hy => hr.head y (delR_sub hy)) hx.1 hx.2
theorem getR_del {r : List Nd} (hr : Roll r) (id j : Int) : getR (delR r id) j = if j = id then 0 else getR r j := by
  induction r with
  | nil => simp [delR, getR]
  | cons x r ih =>
    simp only [delR]
    split
    · rename_i he
      by_cases h : j = id
      · rw [if_pos h, getR_none fun y hy => by have := hr.head y hy; omega]
      · simp only [getR]; rw [if_neg h, if_neg (by omega)]
    · rename_i hne
      simp only [getR]
      rw [ih hr.tail]
      by_cases h : j = id
      · subst h; rw [if_neg hne, if_pos rfl]; simp
      · rw [if_neg h, if_neg h]
theorem sumR_del {r : List Nd} (hr : Roll r) (id : Int) : sumR (delR r id) = sumR r - getR r id := by
  induction r with
  | nil => simp [delR, sumR, getR]
  | cons x r ih =>
    simp only [delR, getR]
    split
    · simp only [sumR]; omega
    · simp only [sumR, ih hr.tail]; omega
theorem sumR_nonneg {r : List Nd} (hr : Roll r) : 0 ≤ sumR r := by
  induction r with
  | nil => simp [sumR]
  | cons x r ih =>
    have hx := hr.2 x (by simp)
    have := ih hr.tail
    simp only [sumR]; omega
theorem getR_le_sum {r : List Nd} (hr : Roll r) (id : Int) : getR r id ≤ sumR r := by
  have h := sumR_del hr id
  have h2 := sumR_nonneg (hr.del id)
  omega
theorem len_le_sum {r : List Nd} (hr : Roll r) : (r.length : Int) ≤ sumR r := by
  induction r with
  | nil => simp [sumR]
  | cons x r ih =>
    have hx := hr.2 x (by simp)
    have := ih hr.tail
    simp only [sumR, List.length_cons]; omega
end Go.Proofs.YtgjaopfjffncbaaGreat
/- Package roll: lists of nodes. -/
namespace Go.Proofs.YtgjaopfjffncbaaGreat
open Go.ChangeShapes Go.WideShapes Go.ChangeAt Go.RowKit
set_option linter.unusedVariables false

def encN : Enc Nd 2 := ⟨fun x => [.int .i64 x.1, .int .i64 x.2], fun _ => rfl, by intro x u hu; simp at hu; rcases hu with rfl | rfl <;> rfl⟩
theorem tyN : SliceTy Tryz.prog 37 115 2 16 (.agg #[.int .i64 0, .int .i64 0]) := ⟨Tryz.underlying37, by kernel_rfl, rfl, by decide⟩
def i64 (n : Int) : Prop := -9223372036854775808 ≤ n ∧ n ≤ 9223372036854775807
/-- All numbers of a list are ints. -/
def ints (l : List Nd) : Prop := ∀ x ∈ l, i64 x.1 ∧ i64 x.2
def most : Int := 72057594037927935

/-- The weight of all, from n on. -/
def totalFrom (n : Int) : List Nd → Int × Bool
  | [] => (n, true)
  | x :: l => if (addOf n x.2).2 = true ∧ (addOf n x.2).1 ≤ most then totalFrom (addOf n x.2).1 l else (0, false)
def totalOf (l : List Nd) : Int × Bool := totalFrom 0 l
theorem drop_cons {α : Type} {l : List α} {k : Nat} (h : k < l.length) : l.drop k = l[k] :: l.drop (k + 1) := List.drop_eq_getElem_cons h
theorem addOf_le (a b : Int) (h : (addOf a b).2 = true) : 0 ≤ (addOf a b).1 ∧ (addOf a b).1 ≤ 9223372036854775807 := by
  unfold addOf at h ⊢
  split
  · rename_i hc; exact ⟨by simp only; omega, hc.2.2⟩
  · simp

set_option maxRecDepth 100000 in
theorem roll_Total (w : World) (A : Option Addr) (cap : Nat) (l : List Nd) (hS : Sl w w.heap.size encN A l) (hI : ints l) (hm : l.length ≤ maxLen) :
    Calls Tryz.prog 236 #[.slice A l.length cap] w fun e w' => e = .returned (okV (totalOf l)) ∧ Below w.heap.size w w' := by
  have HS := Lib.hid hS
  have HI := Lib.hid hI
  unfold maxLen at hm
  clear hS hI
  go_enter Tryz.func236, Tryz.ntmps236
  go_wp2_with fail
  go_loopw [4, 11] (fun n i wr => ∃ (k : Nat) (m : Int), k ≤ l.length ∧ i = .int .i64 k ∧ n = .int .i64 m ∧ 0 ≤ m ∧ m ≤ 72057594037927935 ∧ totalOf l = totalFrom m (l.drop k) ∧ Below w.heap.size w wr) (fun _ i _ => l.length - (intOf i).toNat)
  case atStart => exact ⟨0, 0, by omega, rfl, rfl, by omega, by omega, rfl, Below.refl _ _⟩
  case round =>
    obtain ⟨k, m, hk, rfl, rfl, hm0, hm1, hT, hB⟩ := hrel
    have HT := Lib.hid hT
    clear hT
    have hs := hB.size
    by_cases hlt : k < l.length
    · obtain ⟨b, off, rfl, hb, hc⟩ := (HS.out.below hB).at_ hlt
      have d0 := hc 0 (.int .i64 l[k].1) rfl
      have d1 := hc 1 (.int .i64 l[k].2) rfl
      simp only [Nat.add_zero] at d0
      have hx := (HI.out _ (List.getElem_mem hlt)).2
      have hN : totalOf l = if (addOf m l[k].2).2 = true ∧ (addOf m l[k].2).1 ≤ most then totalFrom (addOf m l[k].2).1 (l.drop (k + 1)) else (0, false) := by rw [HT.out, drop_cons hlt]; rfl
      have HN := Lib.hid hN
      have HA := Lib.hid (addOf_le m l[k].2)
      have HC := Lib.hid (reckon_Add · m l[k].2 (by omega) hx.2)
      clear hc hN hx
      obtain ⟨x, hx⟩ : ∃ x, x = l[k] := ⟨_, rfl⟩
      rw [← hx] at d0 d1 HN HA HC
      clear hx
      generalize addOf m x.2 = r at HN HA HC
      obtain ⟨r1, r2⟩ := r
      go_wp2_with fail
      refine (HC.out _).mono ?_
      rintro e w1 ⟨rfl, hb1⟩
      have B1 : Below w.heap.size w w1 := Below.then_ (by repeat (first | with_reducible exact Below.refl _ _ | with_reducible assumption | ((with_reducible refine Below.setCell ?_ ?_ _); rotate_left; · (first | omega | exact Nat.le_refl _ | (simp <;> omega))) | (with_reducible refine Below.allocW ?_ _) | (with_reducible refine Below.drew ?_) | (with_reducible refine Below.extW ?_ _))) hb1
      have s1 : w.heap.size ≤ w1.heap.size := B1.size
      have z1_0 : wr.heap.size < w1.heap.size := by have := hb1.size; (try simp at this); omega
      have y1_0 : wr.heap.size ≤ w1.heap.size := Nat.le_of_lt z1_0
      have c1_0 := fun o => hb1.cell (p := ⟨wr.heap.size, o, none⟩) (by first | omega | (simp <;> omega))
      have f1_0 := fun o => hb1.frozen (p := ⟨wr.heap.size, o, none⟩) (by first | omega | (simp <;> omega))
      unfold okV
      cases r2
      · go_wp2_with fail
        go_ret2
        exact ⟨by rw [HN.out, if_neg (by simp)]; rfl, (by repeat (first | with_reducible exact Below.refl _ _ | with_reducible assumption | ((with_reducible refine Below.setCell ?_ ?_ _); rotate_left; · (first | omega | exact Nat.le_refl _ | (simp <;> omega))) | (with_reducible refine Below.allocW ?_ _) | (with_reducible refine Below.drew ?_) | (with_reducible refine Below.extW ?_ _)))⟩
      · by_cases hle : r1 ≤ 72057594037927935
        · have h0 : 0 ≤ r1 := (HA.out rfl).1
          go_wp2_with fail
          go_roundw
          case rel => exact ⟨k + 1, r1, by omega, by go_num, rfl, h0, hle, by rw [HN.out, if_pos ⟨by simp, hle⟩], (by repeat (first | with_reducible exact Below.refl _ _ | with_reducible assumption | ((with_reducible refine Below.setCell ?_ ?_ _); rotate_left; · (first | omega | exact Nat.le_refl _ | (simp <;> omega))) | (with_reducible refine Below.allocW ?_ _) | (with_reducible refine Below.drew ?_) | (with_reducible refine Below.extW ?_ _)))⟩
          case measure => simp [intOf]; omega
        · go_wp2_with fail
          go_ret2
          exact ⟨by rw [HN.out, if_neg (fun h => by have h2 : r1 ≤ 72057594037927935 := h.2; omega)]; rfl, (by repeat (first | with_reducible exact Below.refl _ _ | with_reducible assumption | ((with_reducible refine Below.setCell ?_ ?_ _); rotate_left; · (first | omega | exact Nat.le_refl _ | (simp <;> omega))) | (with_reducible refine Below.allocW ?_ _) | (with_reducible refine Below.drew ?_) | (with_reducible refine Below.extW ?_ _)))⟩
    · obtain rfl : k = l.length := by omega
      have HE := Lib.hid (show totalOf l = (m, true) by rw [HT.out, List.drop_length]; rfl)
      go_wp2_with fail
      go_ret2
      exact ⟨by rw [HE.out]; rfl, (by repeat (first | with_reducible exact Below.refl _ _ | with_reducible assumption | ((with_reducible refine Below.setCell ?_ ?_ _); rotate_left; · (first | omega | exact Nat.le_refl _ | (simp <;> omega))) | (with_reducible refine Below.allocW ?_ _) | (with_reducible refine Below.drew ?_) | (with_reducible refine Below.extW ?_ _)))⟩

/-- The numbers rise, and are nodes; the weights are at least 1. -/
def risesFrom (l last : Int) : List Nd → Bool
  | [] => true
  | x :: r => decide (last < x.1) && isNode l x.1 && decide (1 ≤ x.2) && risesFrom l x.1 r
/-- A roll. -/
def rightOf (l : Int) (r : List Nd) : Bool := risesFrom l 0 r && (totalOf r).2 && isNode l 1

set_option maxRecDepth 100000 in
theorem roll_Right (w : World) (u : Int) (A : Option Addr) (cap : Nat) (l : List Nd) (hS : Sl w w.heap.size encN A l) (hI : ints l) (hm : l.length ≤ maxLen) :
    Calls Tryz.prog 210 #[.int .i64 u, .slice A l.length cap] w fun e w' => e = .returned (.bool (rightOf u l)) ∧ Below w.heap.size w w' := by
  have HS := Lib.hid hS
  have HI := Lib.hid hI
  have HM := Lib.hid hm
  unfold maxLen at hm
  clear hS hI
  go_enter Tryz.func210, Tryz.ntmps210
  go_wp2_with fail
  go_loopw [5, 12] (fun n i wr => ∃ (k : Nat) (m : Int), k ≤ l.length ∧ i = .int .i64 k ∧ n = .int .i64 m ∧ risesFrom u 0 l = risesFrom u m (l.drop k) ∧ Below w.heap.size w wr) (fun _ i _ => l.length - (intOf i).toNat)
  case atStart => exact ⟨0, 0, by omega, rfl, rfl, rfl, Below.refl _ _⟩
  case round =>
    obtain ⟨k, m, hk, rfl, rfl, hT, hB⟩ := hrel
    have HT := Lib.hid hT
    clear hT
    have hs := hB.size
    by_cases hlt : k < l.length
    · obtain ⟨b, off, rfl, hb, hc⟩ := (HS.out.below hB).at_ hlt
      have d0 := hc 0 (.int .i64 l[k].1) rfl
      have d1 := hc 1 (.int .i64 l[k].2) rfl
      simp only [Nat.add_zero] at d0
      have hN : risesFrom u 0 l = (decide (m < l[k].1) && isNode u l[k].1 && decide (1 ≤ l[k].2) && risesFrom u l[k].1 (l.drop (k + 1))) := by rw [HT.out, drop_cons hlt]; rfl
      have HN := Lib.hid hN
      clear hc hN
      obtain ⟨x, hx⟩ : ∃ x, x = l[k] := ⟨_, rfl⟩
      rw [← hx] at d0 d1 HN
      clear hx
      by_cases h1 : m < x.1
      · cases h2 : isNode u x.1
        · have H2 := Lib.hid h2
          have HR := Lib.hid (show rightOf u l = false by unfold rightOf; rw [HN.out, h2]; simp)
          clear h2
          go_wp2_with fail
          refine (twig_Right _ u x.1).mono ?_
          rintro e w1 ⟨rfl, hb1⟩
          have B1 : Below w.heap.size w w1 := Below.then_ (by repeat (first | with_reducible exact Below.refl _ _ | with_reducible assumption | ((with_reducible refine Below.setCell ?_ ?_ _); rotate_left; · (first | omega | exact Nat.le_refl _ | (simp <;> omega))) | (with_reducible refine Below.allocW ?_ _) | (with_reducible refine Below.drew ?_) | (with_reducible refine Below.extW ?_ _))) hb1
          have s1 : w.heap.size ≤ w1.heap.size := B1.size
          have z1_0 : wr.heap.size < w1.heap.size := by have := hb1.size; (try simp at this); omega
          have y1_0 : wr.heap.size ≤ w1.heap.size := Nat.le_of_lt z1_0
          have c1_0 := fun o => hb1.cell (p := ⟨wr.heap.size, o, none⟩) (by first | omega | (simp <;> omega))
          have f1_0 := fun o => hb1.frozen (p := ⟨wr.heap.size, o, none⟩) (by first | omega | (simp <;> omega))
          rw [H2.out]
          go_wp2_with fail
          go_ret
          exact ⟨ret_bool HR.out.symm, (by repeat (first | with_reducible exact Below.refl _ _ | with_reducible assumption | ((with_reducible refine Below.setCell ?_ ?_ _); rotate_left; · (first | omega | exact Nat.le_refl _ | (simp <;> omega))) | (with_reducible refine Below.allocW ?_ _) | (with_reducible refine Below.drew ?_) | (with_reducible refine Below.extW ?_ _)))⟩
        · have H2 := Lib.hid h2
          by_cases h3 : 1 ≤ x.2
          · have HR := Lib.hid (show risesFrom u 0 l = risesFrom u x.1 (l.drop (k + 1)) by rw [HN.out, h2]; simp [h1, h3])
            clear h2
            go_wp2_with fail
            refine (twig_Right _ u x.1).mono ?_
            rintro e w1 ⟨rfl, hb1⟩
            have B1 : Below w.heap.size w w1 := Below.then_ (by repeat (first | with_reducible exact Below.refl _ _ | with_reducible assumption | ((with_reducible refine Below.setCell ?_ ?_ _); rotate_left; · (first | omega | exact Nat.le_refl _ | (simp <;> omega))) | (with_reducible refine Below.allocW ?_ _) | (with_reducible refine Below.drew ?_) | (with_reducible refine Below.extW ?_ _))) hb1
            have s1 : w.heap.size ≤ w1.heap.size := B1.size
            have z1_0 : wr.heap.size < w1.heap.size := by have := hb1.size; (try simp at this); omega
            have y1_0 : wr.heap.size ≤ w1.heap.size := Nat.le_of_lt z1_0
            have c1_0 := fun o => hb1.cell (p := ⟨wr.heap.size, o, none⟩) (by first | omega | (simp <;> omega))
            have f1_0 := fun o => hb1.frozen (p := ⟨wr.heap.size, o, none⟩) (by first | omega | (simp <;> omega))
            rw [H2.out]
            go_wp2_with fail
            go_roundw
            case rel => exact ⟨k + 1, x.1, by omega, by go_num, rfl, HR.out, (by repeat (first | with_reducible exact Below.refl _ _ | with_reducible assumption | ((with_reducible refine Below.setCell ?_ ?_ _); rotate_left; · (first | omega | exact Nat.le_refl _ | (simp <;> omega))) | (with_reducible refine Below.allocW ?_ _) | (with_reducible refine Below.drew ?_) | (with_reducible refine Below.extW ?_ _)))⟩
            case measure => simp [intOf]; omega
          · have HR := Lib.hid (show rightOf u l = false by unfold rightOf; rw [HN.out]; simp [h3])
            clear h2
            go_wp2_with fail
            refine (twig_Right _ u x.1).mono ?_
            rintro e w1 ⟨rfl, hb1⟩
            have B1 : Below w.heap.size w w1 := Below.then_ (by repeat (first | with_reducible exact Below.refl _ _ | with_reducible assumption | ((with_reducible refine Below.setCell ?_ ?_ _); rotate_left; · (first | omega | exact Nat.le_refl _ | (simp <;> omega))) | (with_reducible refine Below.allocW ?_ _) | (with_reducible refine Below.drew ?_) | (with_reducible refine Below.extW ?_ _))) hb1
            have s1 : w.heap.size ≤ w1.heap.size := B1.size
            have z1_0 : wr.heap.size < w1.heap.size := by have := hb1.size; (try simp at this); omega
            have y1_0 : wr.heap.size ≤ w1.heap.size := Nat.le_of_lt z1_0
            have c1_0 := fun o => hb1.cell (p := ⟨wr.heap.size, o, none⟩) (by first | omega | (simp <;> omega))
            have f1_0 := fun o => hb1.frozen (p := ⟨wr.heap.size, o, none⟩) (by first | omega | (simp <;> omega))
            rw [H2.out]
            go_wp2_with fail
            go_ret
            exact ⟨ret_bool HR.out.symm, (by repeat (first | with_reducible exact Below.refl _ _ | with_reducible assumption | ((with_reducible refine Below.setCell ?_ ?_ _); rotate_left; · (first | omega | exact Nat.le_refl _ | (simp <;> omega))) | (with_reducible refine Below.allocW ?_ _) | (with_reducible refine Below.drew ?_) | (with_reducible refine Below.extW ?_ _)))⟩
      · have HR := Lib.hid (show rightOf u l = false by unfold rightOf; rw [HN.out]; simp [h1])
        go_wp2_with fail
        go_ret
        exact ⟨ret_bool HR.out.symm, (by repeat (first | with_reducible exact Below.refl _ _ | with_reducible assumption | ((with_reducible refine Below.setCell ?_ ?_ _); rotate_left; · (first | omega | exact Nat.le_refl _ | (simp <;> omega))) | (with_reducible refine Below.allocW ?_ _) | (with_reducible refine Below.drew ?_) | (with_reducible refine Below.extW ?_ _)))⟩
    · obtain rfl : k = l.length := by omega
      have HE := Lib.hid (show rightOf u l = ((totalOf l).2 && isNode u 1) by unfold rightOf; rw [HT.out, List.drop_length]; simp [risesFrom])
      have HC := Lib.hid (roll_Total · A cap l · HI.out HM.out)
      generalize totalOf l = r at HE HC
      obtain ⟨r1, r2⟩ := r
      go_wp2_with fail
      refine (HC.out _ (HS.out.keep hs fun p hp => hB.cell hp)).mono ?_
      rintro e w1 ⟨rfl, hb1⟩
      have B1 : Below w.heap.size w w1 := Below.then_ (by repeat (first | with_reducible exact Below.refl _ _ | with_reducible assumption | ((with_reducible refine Below.setCell ?_ ?_ _); rotate_left; · (first | omega | exact Nat.le_refl _ | (simp <;> omega))) | (with_reducible refine Below.allocW ?_ _) | (with_reducible refine Below.drew ?_) | (with_reducible refine Below.extW ?_ _))) hb1
      have s1 : w.heap.size ≤ w1.heap.size := B1.size
      unfold okV
      cases r2
      · go_wp2_with fail
        go_ret
        exact ⟨ret_bool HE.out.symm, (by repeat (first | with_reducible exact Below.refl _ _ | with_reducible assumption | ((with_reducible refine Below.setCell ?_ ?_ _); rotate_left; · (first | omega | exact Nat.le_refl _ | (simp <;> omega))) | (with_reducible refine Below.allocW ?_ _) | (with_reducible refine Below.drew ?_) | (with_reducible refine Below.extW ?_ _)))⟩
      · go_wp2_with fail
        refine (twig_Right _ u 1).mono ?_
        rintro e w2 ⟨rfl, hb2⟩
        have B2 : Below w.heap.size w w2 := Below.then_ (by repeat (first | with_reducible exact Below.refl _ _ | with_reducible assumption | ((with_reducible refine Below.setCell ?_ ?_ _); rotate_left; · (first | omega | exact Nat.le_refl _ | (simp <;> omega))) | (with_reducible refine Below.allocW ?_ _) | (with_reducible refine Below.drew ?_) | (with_reducible refine Below.extW ?_ _))) hb2
        have s2 : w.heap.size ≤ w2.heap.size := B2.size
        go_wp2_with fail
        go_ret
        exact ⟨ret_bool HE.out.symm, (by repeat (first | with_reducible exact Below.refl _ _ | with_reducible assumption | ((with_reducible refine Below.setCell ?_ ?_ _); rotate_left; · (first | omega | exact Nat.le_refl _ | (simp <;> omega))) | (with_reducible refine Below.allocW ?_ _) | (with_reducible refine Below.drew ?_) | (with_reducible refine Below.extW ?_ _)))⟩
end Go.Proofs.YtgjaopfjffncbaaGreat
/- make: a slice of so many elements of nought. -/
namespace Go.Proofs.YtgjaopfjffncbaaGreat
open Go.ChangeShapes Go.WideShapes Go.ChangeAt Go.RowKit
set_option linter.unusedVariables false

theorem Own.of_row {α : Type} {size base e n : Nat} {w : World} {E : Enc α size} {v : Value} {l : List α} (h : w.ownsRow base e size v n (l.flatMap E.enc)) (hl : l.length = n) (hs : 0 < size) : Own w base e E v l := by
  subst hl
  obtain ⟨h1, h2⟩ := h
  rcases h2 with ⟨rfl, h0⟩ | ⟨g, cap, cur, rfl, hg, hh, hle, hm, hsz, hx⟩
  · exact .inl ⟨rfl, List.length_eq_zero_iff.1 h0⟩
  · refine .inr ⟨g, 0, cap, cur, rfl, hg, hh, hle, hm, by omega, fun j u hj => ?_⟩
    rw [← hx] at hj
    rw [List.getElem?_take] at hj
    split at hj
    · simpa using hj
    · cases hj
/-- The cells of n elements of nought. -/
theorem made_flat {α : Type} {size : Nat} (E : Enc α size) (x : α) (z : Array Value) (n : Nat) (hz : z.toList = E.enc x) (hs : 0 < size) : (madeCells z (n * size)).toList = (List.replicate n x).flatMap E.enc := by
  have hzs : z.size = size := by have := E.len x; rw [← hz] at this; simpa using this
  apply List.ext_getElem?
  intro j
  have hlen : ((List.replicate n x).flatMap E.enc).length = n * size := by rw [flat_len]; simp
  by_cases hj : j < n * size
  · have hk : j / size < n := Nat.div_lt_of_lt_mul (by rw [Nat.mul_comm]; exact hj)
    have hr : j % size < size := Nat.mod_lt _ hs
    have h1 : (List.replicate n x)[j / size]? = some x := by simp [hk]
    obtain ⟨u, h2⟩ : ∃ u, (E.enc x)[j % size]? = some u := ⟨_, List.getElem?_eq_getElem (by rw [E.len]; exact hr)⟩
    have h3 := flat_get E (List.replicate n x) (j / size) (j % size) x _ h1 h2
    rw [Nat.mul_comm, Nat.div_add_mod] at h3
    rw [h3]
    simp only [madeCells, Array.toList_map, Array.toList_range, List.getElem?_map, List.getElem?_range hj, Option.map_some]
    congr 1
    rw [hzs]
    have h4 : (z.toList)[j % size]? = some u := by rw [hz]; exact h2
    have h5 : j % size < z.size := by omega
    rw [getElem!_pos z (j % size) h5]
    simp [h5] at h4
    exact h4
  · rw [List.getElem?_eq_none (by simp [size_madeCells]; omega), List.getElem?_eq_none (by omega)]
end Go.Proofs.YtgjaopfjffncbaaGreat
/- Package dense: nodes in an array. -/
namespace Go.Proofs.YtgjaopfjffncbaaGreat
open Go.ChangeShapes Go.WideShapes Go.ChangeAt Go.RowKit
set_option linter.unusedVariables false
attribute [local go_sem ↓] Go.wp_at_zero Go.wp_at_succ

def encZ : Enc Int 1 := ⟨fun x => [.int .i64 x], fun _ => rfl, by intro x u hu; simp at hu; subst hu; rfl⟩
theorem tyZ : SliceTy Tryz.prog 133 3 1 8 (.int .i64 0) := ⟨Tryz.underlying133, by kernel_rfl, rfl, by decide⟩
/-- A slice's block. -/
def foot2 (g : Nat) (v : Value) : Nat → Prop := fun b => b = g ∨ v.ownBlock = some b
/-- The array in block g holds the roll r; F: its blocks. -/
def DenseAt (w : World) (g l : Nat) (r : List Nd) (F : Nat → Prop) : Prop :=
  ∃ (v : Value) (C : List Int), w.heap[g]? = some (.cells #[.int .i64 l, .int .i64 r.length, .int .i64 (sumR r), v] 218 (0, 0)) ∧ Own w 0 3 encZ v C ∧ C.length = 2 * 2 ^ l ∧ (∀ i : Nat, i < C.length → C[i]? = some (getR r i)) ∧
    F = foot2 g v
/-- What a store's content has to be. -/
structure Fits (l : Nat) (r : List Nd) : Prop where
  roll : Roll r
  lt : ∀ x ∈ r, x.1 < 2 * 2 ^ l
  sum : sumR r ≤ 72057594037927935
theorem DenseAt.keep {w w' : World} {g l : Nat} {r : List Nd} {F : Nat → Prop} (h : DenseAt w g l r F) (hk : ∀ b, F b → w'.heap[b]? = w.heap[b]?) : DenseAt w' g l r F := by
  obtain ⟨v, C, hh, ho, hl, hc, rfl⟩ := h
  exact ⟨v, C, (hk g (.inl rfl)).trans hh, ho.of_block fun b hb => hk b (.inr hb), hl, hc, rfl⟩
theorem DenseAt.lt {w : World} {g l : Nat} {r : List Nd} {F : Nat → Prop} (h : DenseAt w g l r F) : ∀ b, F b → b < w.heap.size := by
  obtain ⟨v, C, hh, ho, hl, hc, rfl⟩ := h
  rintro b (rfl | hb)
  · exact lt_of_block hh
  · exact (ho.lt b hb).2
theorem DenseAt.below {w w' : World} {g l : Nat} {r : List Nd} {F : Nat → Prop} (h : DenseAt w g l r F) (hb : Below w.heap.size w w') : DenseAt w' g l r F := h.keep fun b hf => hb.block b (h.lt b hf)

theorem dense_L (w : World) (g l : Nat) (r : List Nd) (F : Nat → Prop) (h : DenseAt w g l r F) : Calls Tryz.prog 147 #[.pointer (some ⟨g, 0, none⟩)] w fun e w' => e = .returned (.int .i64 l) ∧ Below w.heap.size w w' := by
  obtain ⟨v, C, hh, _⟩ := h
  have c := blk_cell hh
  have z := lt_of_block hh
  clear hh
  go_enter Tryz.func147, Tryz.ntmps147
  go_wp2_with fail
  go_ret
  exact ⟨rfl, (by repeat (first | with_reducible exact Below.refl _ _ | with_reducible assumption | ((with_reducible refine Below.setCell ?_ ?_ _); rotate_left; · (first | omega | exact Nat.le_refl _ | (simp <;> omega))) | (with_reducible refine Below.allocW ?_ _) | (with_reducible refine Below.drew ?_) | (with_reducible refine Below.extW ?_ _)))⟩
theorem dense_Total (w : World) (g l : Nat) (r : List Nd) (F : Nat → Prop) (h : DenseAt w g l r F) : Calls Tryz.prog 137 #[.pointer (some ⟨g, 0, none⟩)] w fun e w' => e = .returned (.int .i64 (sumR r)) ∧ Below w.heap.size w w' := by
  obtain ⟨v, C, hh, _⟩ := h
  have c := blk_cell hh
  have z := lt_of_block hh
  clear hh
  go_enter Tryz.func137, Tryz.ntmps137
  go_wp2_with fail
  go_ret
  exact ⟨rfl, (by repeat (first | with_reducible exact Below.refl _ _ | with_reducible assumption | ((with_reducible refine Below.setCell ?_ ?_ _); rotate_left; · (first | omega | exact Nat.le_refl _ | (simp <;> omega))) | (with_reducible refine Below.allocW ?_ _) | (with_reducible refine Below.drew ?_) | (with_reducible refine Below.extW ?_ _)))⟩

theorem infoZ : ((Tryz.prog).info? 3).map (fun i => (i.zero, i.size, i.bytes)) = some (some (.int .i64 0), 1, 8) := by kernel_rfl
theorem dense_New_no (w : World) (l : Int) (h : l < 1 ∨ 16 < l) : Calls Tryz.prog 145 #[.int .i64 l] w fun e w' => e = .returned (.tuple #[.pointer none, .int .i64 2]) ∧ Below w.heap.size w w' := by
  by_cases h1 : l < 1
  · go_enter Tryz.func145, Tryz.ntmps145
    go_wp2_with fail
    go_ret2
    exact ⟨rfl, (by repeat (first | with_reducible exact Below.refl _ _ | with_reducible assumption | ((with_reducible refine Below.setCell ?_ ?_ _); rotate_left; · (first | omega | exact Nat.le_refl _ | (simp <;> omega))) | (with_reducible refine Below.allocW ?_ _) | (with_reducible refine Below.drew ?_) | (with_reducible refine Below.extW ?_ _)))⟩
  · have h2 : 16 < l := by omega
    go_enter Tryz.func145, Tryz.ntmps145
    go_wp2_with fail
    go_ret2
    exact ⟨rfl, (by repeat (first | with_reducible exact Below.refl _ _ | with_reducible assumption | ((with_reducible refine Below.setCell ?_ ?_ _); rotate_left; · (first | omega | exact Nat.le_refl _ | (simp <;> omega))) | (with_reducible refine Below.allocW ?_ _) | (with_reducible refine Below.drew ?_) | (with_reducible refine Below.extW ?_ _)))⟩
set_option maxRecDepth 100000 in
theorem dense_New (w : World) (n : Nat) (h1 : 1 ≤ n) (h2 : n ≤ 16) : Calls Tryz.prog 145 #[.int .i64 n] w fun e w' =>
    ∃ g F, e = .returned (.tuple #[.pointer (some ⟨g, 0, none⟩), .int .i64 0]) ∧ DenseAt w' g n [] F ∧ (∀ b, F b → w.heap.size ≤ b) ∧ Below w.heap.size w w' := by
  obtain ⟨i, hi, hz0, hz1, hz2⟩ := info_parts infoZ
  have q1 : (1 : Int) ≤ (n : Int) := by omega
  have q2 : (n : Int) ≤ 16 := by omega
  have q3 : (2 : Int) ^ n ≤ 65536 := by have := pow_le' h2; simpa using this
  have q4 := pow_pos' n
  have q5 : 2 ^ n ≤ 65536 := by have := Nat.pow_le_pow_right (n := 2) (by decide) h2; simpa using this
  have Q5 := Lib.hid q5
  clear q5
  go_enter Tryz.func145, Tryz.ntmps145
  go_wp2_with ((at_make; refine wpList_make_full _ rfl _ _ 133 rfl w.heap.size 3 i (.int .i64 0) 1 Tryz.underlying133 hi hz0 hz1 _ _ _ _ (2 * 2 ^ n) rfl rfl ?hL ?hC ?b2 ?b3 ?b4 ?hK))
  case hL => simp
  case hC => simp
  case b2 => rw [hz2]; have := Q5.out; omega
  case b3 => have := Q5.out; simp only [maxLen]; omega
  case b4 => exact Nat.le_refl _
  case hK =>
    intro w1 hr hg
    have hmf := made_flat encZ 0 #[.int .i64 0] (2 * 2 ^ n) rfl (by decide)
    rw [Nat.mul_one] at hmf
    rw [hmf] at hr
    have ho := Own.of_row hr (by simp) (by decide)
    have HO := Lib.hid ho
    have b1 : Below w.heap.size w w1 := (Below.refl _ _).grown hg (Nat.le_refl _) (fun k hk => by cases hk)
    have z1 := b1.size
    clear hr ho hg hmf
    go_wp2_with fail
    go_ret2
    have hC : ∀ i : Nat, i < (List.replicate (2 * 2 ^ n) (0 : Int)).length → (List.replicate (2 * 2 ^ n) (0 : Int))[i]? = some (getR [] i) := fun i hi => by simp at hi; simp [hi, getR]
    exact ⟨w1.heap.size, _, rfl, ⟨_, _, heap_new_at w1 _ _ rfl, (HO.out.base_le (Nat.zero_le _)).alloc _, by simp, hC, rfl⟩, fun b hb => by
      rcases hb with rfl | hb
      · exact z1
      · cases hb; exact Nat.le_refl _, (by repeat (first | with_reducible exact Below.refl _ _ | with_reducible assumption | ((with_reducible refine Below.setCell ?_ ?_ _); rotate_left; · (first | omega | exact Nat.le_refl _ | (simp <;> omega))) | (with_reducible refine Below.allocW ?_ _) | (with_reducible refine Below.drew ?_) | (with_reducible refine Below.extW ?_ _)))⟩

theorem isNode_of {l k : Nat} (h1 : 1 ≤ l) (h2 : l ≤ 48) (h3 : 1 ≤ k) (h4 : k < 2 * 2 ^ l) : isNode l k = true := by
  simp only [isNode, decide_eq_true_eq, Int.toNat_natCast]
  refine ⟨⟨by omega, by omega⟩, by omega, ?_⟩
  exact_mod_cast h4
theorem own_at0 {α : Type} {size : Nat} {w : World} {base e : Nat} {E : Enc α size} {v : Value} {l : List α} (h : Own w base e E v l) (hl : 0 < l.length) : ∃ b off cap, v = .slice (some ⟨b, off, none⟩) l.length cap ∧ l.length ≤ cap := by
  rcases h with ⟨_, rfl⟩ | ⟨g, off, cap, cur, hv, _, _, hc, _⟩
  · simp at hl
  · exact ⟨g, off, cap, hv, hc⟩
theorem heap_set_at {w : World} {g i : Nat} {cs : Array Value} {t : TypeId} (h : w.heap[g]? = some (.cells cs t (0, 0))) (u : Value) : (w.setCell ⟨g, i, none⟩ u).heap[g]? = some (.cells (cs.setIfInBounds i u) t (0, 0)) := by
  simp [World.setCell, Array.getElem?_modify, h]
/-- The stores of Add. -/
theorem dense_stored {w : World} {g l b off cap k : Nat} {r r' : List Nd} {C : List Int} {a u m : Int} {v0 v1 v2 : Value} (hh : w.heap[g]? = some (.cells #[v0, v1, v2, .slice (some ⟨b, off, none⟩) C.length cap] 218 (0, 0)))
    (ho : Own w 0 3 encZ (.slice (some ⟨b, off, none⟩) C.length cap) C) (hl : C.length = 2 * 2 ^ l) (hc : ∀ i : Nat, i < C.length → C[i]? = some (getR r i)) (hk : k < C.length)
    (hr : ∀ j : Int, getR r' j = if j = k then a else getR r j) (hu : (r'.length : Int) = u) (hm : sumR r' = m) (hv0 : v0 = .int .i64 l := by rfl) :
    DenseAt (((w.setCell ⟨g, 1, none⟩ (.int .i64 u)).setCell ⟨b, off + k, none⟩ (.int .i64 a)).setCell ⟨g, 2, none⟩ (.int .i64 m)) g l r' (foot2 g (.slice (some ⟨b, off, none⟩) C.length cap)) := by
  have hne := ho.ne_block hh (by decide)
  have hgb : g ≠ b := fun he => hne (by rw [he]; rfl)
  have o1 := ho.setCell (p := ⟨g, 1, none⟩) hne (.int .i64 u)
  have o2 := o1.setElem k 0 hk (by decide) (.int .i64 a) a rfl
  rw [Nat.mul_one, Nat.add_zero] at o2
  subst hv0
  have k1 := heap_set_at (i := 1) hh (.int .i64 u)
  have k2 : ((w.setCell ⟨g, 1, none⟩ (.int .i64 u)).setCell ⟨b, off + k, none⟩ (.int .i64 a)).heap[g]? = _ := (Below.heap_setCell _ _ _ _ hgb).trans k1
  have k3 := heap_set_at (i := 2) k2 (.int .i64 m)
  have hne2 := o2.ne_block k2 (by decide)
  have o3 := o2.setCell (p := ⟨g, 2, none⟩) hne2 (.int .i64 m)
  subst hu hm
  refine ⟨_, C.set k a, by rw [k3]; rfl, o3, by simpa using hl, fun i hi => ?_, rfl⟩
  rw [List.length_set] at hi
  rw [List.getElem?_set]
  by_cases hik : k = i
  · subst hik
    rw [if_pos rfl, if_pos hi, hr, if_pos rfl]
  · rw [if_neg hik, hc i hi, hr, if_neg (by omega)]
/-- The stores of Add. -/
theorem dense_stored2 {w : World} {g l b off cap k : Nat} {r r' : List Nd} {C : List Int} {a m : Int} {v0 v2 : Value} (hh : w.heap[g]? = some (.cells #[v0, .int .i64 r.length, v2, .slice (some ⟨b, off, none⟩) C.length cap] 218 (0, 0)))
    (ho : Own w 0 3 encZ (.slice (some ⟨b, off, none⟩) C.length cap) C) (hl : C.length = 2 * 2 ^ l) (hc : ∀ i : Nat, i < C.length → C[i]? = some (getR r i)) (hk : k < C.length)
    (hr : ∀ j : Int, getR r' j = if j = k then a else getR r j) (hu : r'.length = r.length) (hm : sumR r' = m) (hv0 : v0 = .int .i64 l := by rfl) :
    DenseAt ((w.setCell ⟨b, off + k, none⟩ (.int .i64 a)).setCell ⟨g, 2, none⟩ (.int .i64 m)) g l r' (foot2 g (.slice (some ⟨b, off, none⟩) C.length cap)) := by
  have hne := ho.ne_block hh (by decide)
  have hgb : g ≠ b := fun he => hne (by rw [he]; rfl)
  have o2 := ho.setElem k 0 hk (by decide) (.int .i64 a) a rfl
  rw [Nat.mul_one, Nat.add_zero] at o2
  subst hv0
  have k2 : (w.setCell ⟨b, off + k, none⟩ (.int .i64 a)).heap[g]? = _ := (Below.heap_setCell _ _ _ _ hgb).trans hh
  have k3 := heap_set_at (i := 2) k2 (.int .i64 m)
  have hne2 := o2.ne_block k2 (by decide)
  have o3 := o2.setCell (p := ⟨g, 2, none⟩) hne2 (.int .i64 m)
  subst hm
  refine ⟨_, C.set k a, by rw [k3, hu]; rfl, o3, by simpa using hl, fun i hi => ?_, rfl⟩
  rw [List.length_set] at hi
  rw [List.getElem?_set]
  by_cases hik : k = i
  · subst hik
    rw [if_pos rfl, if_pos hi, hr, if_pos rfl]
  · rw [if_neg hik, hc i hi, hr, if_neg (by omega)]
set_option maxRecDepth 100000 in
theorem dense_Add_new (w : World) (g l : Nat) (r : List Nd) (F : Nat → Prop) (h : DenseAt w g l r F) (hf : Fits l r) (h1 : 1 ≤ l) (h2 : l ≤ 16) (k : Nat) (hk1 : 1 ≤ k) (hk2 : k < 2 * 2 ^ l) (c : Int) (hc : 0 < c) (hsum : sumR r + c ≤ 72057594037927935) (h0 : getR r k = 0) :
    Calls Tryz.prog 154 #[.pointer (some ⟨g, 0, none⟩), .int .i64 k, .int .i64 c] w fun e w' => e = .returned (.int .i64 0) ∧ DenseAt w' g l (addR r k c) F ∧ Turn F w w' := by
  have HN := Lib.hid (isNode_of h1 (by omega) hk1 hk2)
  have hs0 := sumR_nonneg hf.roll
  have hlen := len_le_sum hf.roll
  have HA := Lib.hid (show addOf (sumR r) c = (sumR r + c, true) by simp only [addOf]; rw [if_pos (by omega)])
  obtain ⟨v, C, hh, ho, hl, hcc, rfl⟩ := h
  obtain ⟨b, off, cap, rfl, hcap⟩ := own_at0 ho (by omega)
  have d := ho.slT.cell_at (k := k) (by omega) 0 (.int .i64 C[k]) rfl
  have hck := hcc k (by omega)
  rw [List.getElem?_eq_getElem (by omega)] at hck
  injection hck with hck
  rw [hck, h0] at d
  simp only [Nat.mul_one, Nat.add_zero] at d
  have hnb : g ≠ b := fun he => ho.ne_block hh (by decide) (by rw [he]; rfl)
  have hnb' : b ≠ g := fun he => hnb he.symm
  have cc := blk_cell hh
  have cf := blk_frozen hh
  have fb := ho.frozen (off + k)
  have zg := lt_of_block hh
  have zb := (ho.lt b rfl).2
  have H := Lib.hid hh
  have HO := Lib.hid ho
  have i0 : (0 : Int) ≤ (k : Int) := by omega
  have i1 : (k : Int) < (C.length : Int) := by omega
  clear hh ho hck
  go_enter Tryz.func154, Tryz.ntmps154
  go_wp2_with fail
  refine (twig_Right _ l k).mono ?_
  rintro e w1 ⟨rfl, hb1⟩
  have B1 : Below w.heap.size w w1 := Below.then_ (by repeat (first | with_reducible exact Below.refl _ _ | with_reducible assumption | ((with_reducible refine Below.setCell ?_ ?_ _); rotate_left; · (first | omega | exact Nat.le_refl _ | (simp <;> omega))) | (with_reducible refine Below.allocW ?_ _) | (with_reducible refine Below.drew ?_) | (with_reducible refine Below.extW ?_ _))) hb1
  have s1 : w.heap.size ≤ w1.heap.size := B1.size
  rw [HN.out]
  have k1 := blk_below H.out hb1
  have o1 := HO.out.below hb1
  have cc1 := blk_cell k1
  have cf1 := blk_frozen k1
  have d1 := (hb1.cell (p := ⟨b, off + k, none⟩) zb).trans d
  have f1 := o1.frozen (off + k)
  have zg1 := lt_of_block k1
  have zb1 := (o1.lt b rfl).2
  have K1 := Lib.hid k1
  have O1 := Lib.hid o1
  clear cc cf d fb k1 o1
  go_wp2_with fail
  refine (reckon_Add _ (sumR r) c (by omega) (by omega)).mono ?_
  rintro e w2 ⟨rfl, hb2⟩
  have B2 : Below w.heap.size w w2 := Below.then_ (by repeat (first | with_reducible exact Below.refl _ _ | with_reducible assumption | ((with_reducible refine Below.setCell ?_ ?_ _); rotate_left; · (first | omega | exact Nat.le_refl _ | (simp <;> omega))) | (with_reducible refine Below.allocW ?_ _) | (with_reducible refine Below.drew ?_) | (with_reducible refine Below.extW ?_ _))) hb2
  have s2 : w.heap.size ≤ w2.heap.size := B2.size
  rw [HA.out]
  unfold okV
  have k2 := blk_below K1.out hb2
  have o2 := O1.out.below hb2
  have cc2 := blk_cell k2
  have cf2 := blk_frozen k2
  have d2 := (hb2.cell (p := ⟨b, off + k, none⟩) zb1).trans d1
  have f2 := o2.frozen (off + k)
  have zg2 := lt_of_block k2
  have zb2 := (o2.lt b rfl).2
  have K2 := Lib.hid k2
  have O2 := Lib.hid o2
  have T2 : Turn (foot2 g (.slice (some ⟨b, off, none⟩) C.length cap)) w w2 := .of_below B2
  clear cc1 cf1 d1 f1 k2 o2
  go_wp2_with fail
  go_ret
  refine ⟨rfl, ?_, ?_⟩
  · exact dense_stored (r' := addR r k c) K2.out O2.out hl hcc (by omega) (fun j => by rw [getR_add hf.roll, h0]; simp) (by rw [len_add hf.roll, if_pos h0]; push_cast; rfl) (sumR_add r k c)
  · refine Turn.setCell (Turn.setCell (Turn.setCell T2 ?_ _) ?_ _) ?_ _
    · exact .inl (.inl rfl)
    · exact .inl (.inr rfl)
    · exact .inl (.inl rfl)
set_option maxRecDepth 100000 in
theorem dense_Add_old (w : World) (g l : Nat) (r : List Nd) (F : Nat → Prop) (h : DenseAt w g l r F) (hf : Fits l r) (h1 : 1 ≤ l) (h2 : l ≤ 16) (k : Nat) (hk1 : 1 ≤ k) (hk2 : k < 2 * 2 ^ l) (c : Int) (hc : 0 ≤ c) (hsum : sumR r + c ≤ 72057594037927935) (h0 : 0 < getR r k) :
    Calls Tryz.prog 154 #[.pointer (some ⟨g, 0, none⟩), .int .i64 k, .int .i64 c] w fun e w' => e = .returned (.int .i64 0) ∧ DenseAt w' g l (addR r k c) F ∧ Turn F w w' := by
  have HN := Lib.hid (isNode_of h1 (by omega) hk1 hk2)
  have hs0 := sumR_nonneg hf.roll
  have hlen := len_le_sum hf.roll
  have HA := Lib.hid (show addOf (sumR r) c = (sumR r + c, true) by simp only [addOf]; rw [if_pos (by omega)])
  obtain ⟨v, C, hh, ho, hl, hcc, rfl⟩ := h
  obtain ⟨b, off, cap, rfl, hcap⟩ := own_at0 ho (by omega)
  have d := ho.slT.cell_at (k := k) (by omega) 0 (.int .i64 C[k]) rfl
  have hck := hcc k (by omega)
  rw [List.getElem?_eq_getElem (by omega)] at hck
  injection hck with hck
  rw [hck] at d
  simp only [Nat.mul_one, Nat.add_zero] at d
  have hnb : g ≠ b := fun he => ho.ne_block hh (by decide) (by rw [he]; rfl)
  have hnb' : b ≠ g := fun he => hnb he.symm
  have cc := blk_cell hh
  have cf := blk_frozen hh
  have fb := ho.frozen (off + k)
  have zg := lt_of_block hh
  have zb := (ho.lt b rfl).2
  have H := Lib.hid hh
  have HO := Lib.hid ho
  have hgs := getR_le_sum hf.roll k
  have i0 : (0 : Int) ≤ (k : Int) := by omega
  have i1 : (k : Int) < (C.length : Int) := by omega
  clear hh ho hck
  go_enter Tryz.func154, Tryz.ntmps154
  go_wp2_with fail
  refine (twig_Right _ l k).mono ?_
  rintro e w1 ⟨rfl, hb1⟩
  have B1 : Below w.heap.size w w1 := Below.then_ (by repeat (first | with_reducible exact Below.refl _ _ | with_reducible assumption | ((with_reducible refine Below.setCell ?_ ?_ _); rotate_left; · (first | omega | exact Nat.le_refl _ | (simp <;> omega))) | (with_reducible refine Below.allocW ?_ _) | (with_reducible refine Below.drew ?_) | (with_reducible refine Below.extW ?_ _))) hb1
  have s1 : w.heap.size ≤ w1.heap.size := B1.size
  rw [HN.out]
  have k1 := blk_below H.out hb1
  have o1 := HO.out.below hb1
  have cc1 := blk_cell k1
  have cf1 := blk_frozen k1
  have d1 := (hb1.cell (p := ⟨b, off + k, none⟩) zb).trans d
  have f1 := o1.frozen (off + k)
  have zg1 := lt_of_block k1
  have zb1 := (o1.lt b rfl).2
  have K1 := Lib.hid k1
  have O1 := Lib.hid o1
  clear cc cf d fb k1 o1
  go_wp2_with fail
  refine (reckon_Add _ (sumR r) c (by omega) (by omega)).mono ?_
  rintro e w2 ⟨rfl, hb2⟩
  have B2 : Below w.heap.size w w2 := Below.then_ (by repeat (first | with_reducible exact Below.refl _ _ | with_reducible assumption | ((with_reducible refine Below.setCell ?_ ?_ _); rotate_left; · (first | omega | exact Nat.le_refl _ | (simp <;> omega))) | (with_reducible refine Below.allocW ?_ _) | (with_reducible refine Below.drew ?_) | (with_reducible refine Below.extW ?_ _))) hb2
  have s2 : w.heap.size ≤ w2.heap.size := B2.size
  rw [HA.out]
  unfold okV
  have k2 := blk_below K1.out hb2
  have o2 := O1.out.below hb2
  have cc2 := blk_cell k2
  have cf2 := blk_frozen k2
  have d2 := (hb2.cell (p := ⟨b, off + k, none⟩) zb1).trans d1
  have f2 := o2.frozen (off + k)
  have zg2 := lt_of_block k2
  have zb2 := (o2.lt b rfl).2
  have K2 := Lib.hid k2
  have O2 := Lib.hid o2
  have T2 : Turn (foot2 g (.slice (some ⟨b, off, none⟩) C.length cap)) w w2 := .of_below B2
  clear cc1 cf1 d1 f1 k2 o2
  go_wp2_with fail
  go_ret
  refine ⟨rfl, ?_, ?_⟩
  · exact dense_stored2 (r' := addR r k c) K2.out O2.out hl hcc (by omega) (fun j => getR_add hf.roll k c j) (by rw [len_add hf.roll, if_neg (by omega)]) (sumR_add r k c)
  · refine Turn.setCell (Turn.setCell T2 ?_ _) ?_ _
    · exact .inl (.inr rfl)
    · exact .inl (.inl rfl)
end Go.Proofs.YtgjaopfjffncbaaGreat
/- Package vary: numbers as bytes. -/
namespace Go.Proofs.YtgjaopfjffncbaaGreat
open Go.ChangeShapes Go.WideShapes Go.ChangeAt Go.RowKit
set_option linter.unusedVariables false
set_option linter.unusedSimpArgs false
set_option maxRecDepth 100000

def encB8 : Enc UInt8 1 := ⟨fun b => [.int .u8 (b.toNat : Int)], fun _ => rfl, by intro x u hu; simp at hu; subst hu; rfl⟩
theorem tyU8 : SliceTy Tryz.prog 151 5 1 1 (.int .u8 0) := ⟨Tryz.underlying151, by kernel_rfl, rfl, by decide⟩
/-- A number's bytes. -/
def oneB (n : Nat) : List UInt8 := if h : 128 ≤ n then UInt8.ofNat (n % 128 + 128) :: oneB (n / 128) else [UInt8.ofNat n]
termination_by n
decreasing_by omega
theorem oneB_ge {n : Nat} (h : 128 ≤ n) : oneB n = UInt8.ofNat (n % 128 + 128) :: oneB (n / 128) := by rw [oneB, dif_pos h]
theorem oneB_lt {n : Nat} (h : ¬ 128 ≤ n) : oneB n = [UInt8.ofNat n] := by rw [oneB, dif_neg h]
theorem oneB_len : ∀ (k n : Nat), n < 128 ^ k → 1 ≤ k → (oneB n).length ≤ k := by
  intro k
  induction k with
  | zero => intro n _ h; omega
  | succ k ih =>
    intro n hn _
    by_cases h : 128 ≤ n
    · rw [oneB_ge h, List.length_cons]
      have h1 : n / 128 < 128 ^ k := by rw [Nat.pow_succ] at hn; exact Nat.div_lt_of_lt_mul (by rw [Nat.mul_comm]; exact hn)
      have h2 : 1 ≤ k := by
        rcases Nat.eq_zero_or_pos k with rfl | h2
        · simp at hn; omega
        · exact h2
      have := ih _ h1 h2
      omega
    · rw [oneB_lt h]; simp
theorem oneB_le {n : Nat} (h : n ≤ 9223372036854775807) : (oneB n).length ≤ 9 := oneB_len 9 n (by have : (128 : Nat) ^ 9 = 9223372036854775808 := by decide
                                                                                                  omega) (by decide)
theorem oneB_pos (n : Nat) : 1 ≤ (oneB n).length := by
  rw [oneB]
  split <;> simp
theorem or_128 : ∀ x : Fin 256, x.val ||| 128 = x.val % 128 + 128 := by decide
theorem byte_or (m : Nat) : bits BinOp.or IntKind.u8 (IntKind.u8.wrap (m : Int)) 128 = (((UInt8.ofNat (m % 128 + 128)).toNat : Nat) : Int) := by
  have hw : IntKind.u8.wrap (m : Int) = ((m % 256 : Nat) : Int) := by rw [IntKind.wrap_u8]; omega
  have h := (bits_nat .u8 8 (by decide) (fun n h0 h1 => by rw [IntKind.wrap_u8]; omega) (m % 256) 128 (by omega) (by decide)).2
  rw [hw]
  rw [show ((128 : Int)) = ((128 : Nat) : Int) from rfl, h, or_128 ⟨m % 256, by omega⟩]
  simp only [UInt8.toNat_ofNat']
  congr 1
  omega
theorem byte_or' (m : Nat) : bits BinOp.or IntKind.u8 ((m : Int) % 256) 128 = (((UInt8.ofNat (m % 128 + 128)).toNat : Nat) : Int) := by
  have h := byte_or m
  rwa [IntKind.wrap_u8] at h
theorem byte_one' {m : Nat} (h : ¬ 128 ≤ m) : (m : Int) = (((UInt8.ofNat m).toNat : Nat) : Int) := by
  rw [UInt8.toNat_ofNat']
  omega
theorem byte_one {m : Nat} (h : ¬ 128 ≤ m) : IntKind.u8.wrap (m : Int) = (((UInt8.ofNat m).toNat : Nat) : Int) := by
  rw [IntKind.wrap_u8, UInt8.toNat_ofNat']
  omega
set_option maxHeartbeats 1000000 in
theorem vary_one (w : World) (base : Nat) (v : Value) (l : List UInt8) (n : Nat) (ho : Own w base 5 encB8 v l) (hb : base ≤ w.heap.size) (hl : l.length ≤ 67108864) (hn : n ≤ 9223372036854775807) :
    Calls Tryz.prog 183 #[v, .int .i64 n] w fun e w' => ∃ v', e = .returned v' ∧ Own w' base 5 encB8 v' (l ++ oneB n) ∧ Below base w w' := by
  have HO := Lib.hid ho
  have HL := Lib.hid (oneB_le hn)
  clear ho
  go_enter Tryz.func183, Tryz.ntmps183
  go_wp2_with fail
  go_loopw [0, 1] (fun u i wr => ∃ (m : Nat) (pre : List UInt8), i = .int .i64 m ∧ m ≤ n ∧ Own wr base 5 encB8 u (l ++ pre) ∧ pre ++ oneB m = oneB n ∧ Below base w wr) (fun _ i _ => (intOf i).toNat)
  case atStart => exact ⟨n, [], rfl, Nat.le_refl _, by simpa using HO.out, rfl, Below.refl _ _⟩
  case round =>
    obtain ⟨m, pre, rfl, hm, ho, he, hB⟩ := hrel
    have hpl : pre.length ≤ 8 := by
      have h1 := HL.out
      have h2 := oneB_pos m
      rw [← he, List.length_append] at h1
      omega
    have HB := Lib.hid hB
    have HE := Lib.hid he
    obtain ⟨Ao, co, rfl, _⟩ := ho.form
    have HOr := Lib.hid ho
    have sz := hB.size
    clear ho he hB
    by_cases h : 128 ≤ m
    · have h1 : (128 : Int) ≤ (m : Int) := by omega
      have HE2 : Hid ((pre ++ [UInt8.ofNat (m % 128 + 128)]) ++ oneB (m / 128) = oneB n) := Lib.hid (by rw [← HE.out, oneB_ge h]; simp)
      have hbo := byte_or' m
      obtain ⟨L, hL⟩ : ∃ L, L = l ++ pre := ⟨_, rfl⟩
      have hLl : L.length ≤ 67108872 := by rw [hL, List.length_append]; omega
      rw [← hL] at HOr ⊢
      have HLe := Lib.hid hL
      clear hL
      generalize UInt8.ofNat (m % 128 + 128) = b at hbo HE2
      go_wp2_with ((at_builtin; go_loud (refine wpList_push tyU8 rfl _ _ rfl encB8 wr base (.slice Ao L.length co) L rfl HOr.out b (by go_simp) (by simp [encB8, hbo]) ?c1 ?c2 ?c3 ?c4)))
      case c1 => omega
      case c2 => unfold maxLen; omega
      case c3 => omega
      case c4 =>
        intro v' w' ho' _ _ _ hb' _
        have HO2 := Lib.hid ho'
        have HB2 := Lib.hid (HB.out.trans hb')
        have hsz := hb'.size
        clear ho' hb'
        go_wp2_with fail
        go_roundw
        case rel => exact ⟨m / 128, pre ++ [b], by go_num, by omega, by have := HO2.out; rw [HLe.out] at this; simpa using this, HE2.out, HB2.out⟩
        case measure => simp [intOf]; omega
    · have h1 : ¬ (128 : Int) ≤ (m : Int) := by omega
      have HE2 : Hid (pre ++ [UInt8.ofNat m] = oneB n) := Lib.hid (by rw [← HE.out, oneB_lt h])
      have hbo := byte_one' h
      obtain ⟨L, hL⟩ : ∃ L, L = l ++ pre := ⟨_, rfl⟩
      have hLl : L.length ≤ 67108872 := by rw [hL, List.length_append]; omega
      rw [← hL] at HOr ⊢
      have HLe := Lib.hid hL
      clear hL
      generalize UInt8.ofNat m = b at hbo HE2
      go_wp2_with ((at_builtin; go_loud (refine wpList_push tyU8 rfl _ _ rfl encB8 wr base (.slice Ao L.length co) L rfl HOr.out b (by go_simp) (by simp [encB8, hbo]) ?d1 ?d2 ?d3 ?d4)))
      case d1 => omega
      case d2 => unfold maxLen; omega
      case d3 => omega
      case d4 =>
        intro v' w' ho' _ _ _ hb' _
        have HO2 := Lib.hid ho'
        have HB2 := Lib.hid (HB.out.trans hb')
        clear ho' hb'
        go_wp2_with fail
        exact bodyPost_ret (v := v') (by simp only [results, Tryz.results183]; go_simp) rfl ⟨_, rfl, by rw [← HE2.out, ← List.append_assoc, ← HLe.out]; exact HO2.out, HB2.out⟩
/-- Numbers' bytes. -/
def putB (L : List Int) : List UInt8 := L.flatMap fun x => oneB x.toNat
theorem putB_nil : putB [] = [] := rfl
theorem putB_take {L : List Int} {q : Nat} (h : q < L.length) : putB (L.take (q + 1)) = putB (L.take q) ++ oneB (L[q]).toNat := by
  unfold putB
  rw [List.take_succ_eq_append_getElem h, List.flatMap_append]
  simp
theorem putB_len : ∀ {L : List Int}, (∀ x ∈ L, x ≤ 9223372036854775807) → (putB L).length ≤ 9 * L.length := by
  intro L
  induction L with
  | nil => intro _; simp [putB]
  | cons x L ih =>
    intro h
    have h1 := ih fun y hy => h y (List.mem_cons_of_mem _ hy)
    have h2 : (oneB x.toNat).length ≤ 9 := oneB_le (by have := h x (List.mem_cons_self ..); omega)
    have h3 : putB (x :: L) = oneB x.toNat ++ putB L := by simp [putB]
    rw [h3, List.length_append, List.length_cons]
    omega
theorem putB_pos {L : List Int} (h : 0 < L.length) : 0 < (putB L).length := by
  match L, h with
  | x :: L, _ =>
    have h3 : putB (x :: L) = oneB x.toNat ++ putB L := by simp [putB]
    have := oneB_pos x.toNat
    rw [h3, List.length_append]
    omega
theorem bytes_back {w : World} {b off cap : Nat} {l : List UInt8} {base : Nat} (ho : Own w base 5 encB8 (.slice (some ⟨b, off, none⟩) l.length cap) l) :
    ∀ (j : Nat) (hj : j < l.length), w.cell? (Addr.add ⟨b, off, none⟩ j) = some (.int .u8 (l[j].toNat : Int)) := by
  intro j hj
  obtain ⟨b', off', he, _, hc⟩ := ho.sl.at_ hj
  injection he with he
  injection he with h1 h2
  subst h1 h2
  have h3 := hc 0 (.int .u8 (l[j].toNat : Int)) rfl
  rw [show Addr.add ⟨b, off, none⟩ j = ⟨b, off + j, none⟩ by
    unfold Addr.add; split <;> simp_all]
  simpa using h3
set_option maxHeartbeats 1000000 in
theorem vary_Put (w : World) (base : Nat) (v : Value) (L : List Int) (ho : Own w base 3 encZ v L) (hi : ∀ x ∈ L, i64 x) (hl : L.length ≤ 65536) (h0 : 0 < L.length) :
    Calls Tryz.prog 141 #[v] w fun e w' => (∃ t, e = .returned (.tuple #[.string t, .int .i64 (if L.all (fun x => decide (0 ≤ x)) = true then 0 else 2)]) ∧ (L.all (fun x => decide (0 ≤ x)) = true → t = ⟨(putB L).toArray⟩)) ∧ Below w.heap.size w w' := by
  obtain ⟨A, c, rfl, _⟩ := ho.form
  have HO := Lib.hid (ho.base_le (Nat.zero_le _))
  have HI := Lib.hid hi
  have HP := Lib.hid (putB_pos h0)
  clear ho hi
  go_enter Tryz.func141, Tryz.ntmps141
  go_wp2_with fail
  go_loopw [4, 9] (fun u j wr => ∃ q : Nat, q ≤ L.length ∧ j = .int .i64 q ∧ Own wr w.heap.size 5 encB8 u (putB (L.take q)) ∧ (∀ x ∈ L.take q, 0 ≤ x) ∧ Below w.heap.size w wr) (fun _ j _ => L.length - (intOf j).toNat)
  case atStart => exact ⟨0, Nat.zero_le _, rfl, Own.nil _ _ _ _, by simp, Below.refl _ _⟩
  case round =>
    obtain ⟨q, hq, rfl, ho, hp, hB⟩ := hrel
    have HB := Lib.hid hB
    have HR := Lib.hid (HO.out.below hB)
    have HU := Lib.hid ho
    have HPq := Lib.hid hp
    have sz := hB.size
    clear ho hp hB
    by_cases hlt : q < L.length
    · have hqi : (q : Int) < (L.length : Int) := by omega
      obtain ⟨b, off, rfl, hb, hc⟩ := HR.out.sl.at_ hlt
      have d0 := hc 0 (.int .i64 L[q]) rfl
      simp only [Nat.mul_one, Nat.add_zero] at d0
      have hx1 := HI.out _ (List.getElem_mem hlt)
      by_cases hx : L[q] < 0
      · have hall : L.all (fun x => decide (0 ≤ x)) = false := by
          rw [List.all_eq_false]
          exact ⟨L[q], List.getElem_mem hlt, by simpa using hx⟩
        clear hc
        generalize L[q] = x at *
        go_wp2_with fail
        all_goals exact bodyPost_ret (v := .tuple #[.string ⟨#[]⟩, .int .i64 2]) (by simp only [results, Tryz.results141]; go_simp) rfl ⟨⟨_, rfl⟩, HB.out⟩
      · have HTk := Lib.hid (putB_take hlt)
        have HPn : Hid (∀ x ∈ L.take (q + 1), 0 ≤ x) := Lib.hid (by
          rw [List.take_succ_eq_append_getElem hlt]
          intro x hx'
          rcases List.mem_append.1 hx' with h | h
          · exact HPq.out x h
          · simp only [List.mem_singleton] at h; subst h; omega)
        obtain ⟨n, hn⟩ : ∃ n : Nat, L[q] = (n : Int) := ⟨L[q].toNat, by omega⟩
        have hn9 : n ≤ 9223372036854775807 := by have := hx1.2; omega
        have hn0 : decide ((n : Int) < 0) = false := by simp
        rw [hn] at d0 HTk
        have hlq : (putB (L.take q)).length ≤ 67108864 := by
          have h1 := putB_len (L := L.take q) fun y hy => (HI.out y (List.mem_of_mem_take hy)).2
          have h2 : (L.take q).length ≤ 65536 := by rw [List.length_take]; omega
          omega
        clear hc hx hx1 hn
        go_wp2_with fail
        refine (vary_one wr w.heap.size _ (putB (L.take q)) n HU.out sz hlq hn9).mono ?_
        rintro e w1 ⟨v1, rfl, ho1, hb1⟩
        have HO1 := Lib.hid ho1
        have HB1 := Lib.hid (HB.out.trans hb1)
        clear ho1 hb1
        go_wp2_with fail
        go_roundw
        case rel => exact ⟨q + 1, by omega, by go_num, by rw [HTk.out]; exact HO1.out, HPn.out, HB1.out⟩
        case measure => simp [intOf]; omega
    · obtain rfl : q = L.length := by omega
      rw [List.take_length] at HU HPq
      have hqi : decide ((L.length : Int) < (L.length : Int)) = false := by simp
      have hall : L.all (fun x => decide (0 ≤ x)) = true := by
        rw [List.all_eq_true]
        intro x hx
        simpa using HPq.out x hx
      obtain ⟨bb, oo, cc, rfl, _⟩ := own_at0 HU.out HP.out
      have hcv := run_convert_bytes_back (P := Tryz.prog) wr 151 9 5 ⟨bb, oo, none⟩ cc (putB L) Tryz.underlying151 Tryz.underlying5 Tryz.underlying9 (bytes_back HU.out)
      generalize hG : putB L = G at HU hcv ⊢
      have HG := Lib.hid hG
      clear hG
      go_wp2_with fail
      all_goals exact bodyPost_ret (v := .tuple #[.string ⟨G.toArray⟩, .int .i64 0]) (by simp only [results, Tryz.results141]; go_simp) rfl ⟨by rw [HG.out], HB.out⟩
end Go.Proofs.YtgjaopfjffncbaaGreat
/- Package seal: texts' sums. -/
namespace Go.Proofs.YtgjaopfjffncbaaGreat
open Go.ChangeShapes Go.WideShapes Go.ChangeAt Go.RowKit
set_option linter.unusedVariables false
set_option linter.unusedSimpArgs false
set_option maxRecDepth 100000

/-- A sum with a byte more; a text more. -/
def sum1 (s : Nat × Nat) (b : UInt8) : Nat × Nat := ((s.1 + b.toNat) % 65521, (s.2 + (s.1 + b.toNat)) % 65521)
def sumT (s : Nat × Nat) (l : List UInt8) : Nat × Nat := l.foldl sum1 s
def sumV (s : Nat × Nat) : Value := .agg #[.int .i64 s.1, .int .i64 s.2]
theorem sumT_nil (s) : sumT s [] = s := rfl
theorem sumT_app (s) (l m : List UInt8) : sumT s (l ++ m) = sumT (sumT s l) m := by simp [sumT, List.foldl_append]
theorem sum1_lt (s) (b : UInt8) : (sum1 s b).1 < 65521 ∧ (sum1 s b).2 < 65521 := ⟨Nat.mod_lt _ (by decide), Nat.mod_lt _ (by decide)⟩
theorem sumT_lt {s : Nat × Nat} (h : s.1 < 65521 ∧ s.2 < 65521) : ∀ l : List UInt8, (sumT s l).1 < 65521 ∧ (sumT s l).2 < 65521 := by
  intro l
  induction l generalizing s with
  | nil => exact h
  | cons b l ih => exact ih (sum1_lt s b)
theorem seal_Begin (w : World) : Calls Tryz.prog 198 #[] w fun e w' => e = .returned (sumV (1, 0)) ∧ Below w.heap.size w w' := by
  go_enter Tryz.func198, Tryz.ntmps198
  go_wp2_with fail
  exact bodyPost_ret (v := .agg #[.int .i64 1, .int .i64 0]) (by simp only [results, Tryz.results198]; go_simp) rfl ⟨rfl, (by repeat (first | with_reducible exact Below.refl _ _ | with_reducible assumption | ((with_reducible refine Below.setCell ?_ ?_ _); rotate_left; · (first | omega | exact Nat.le_refl _ | (simp <;> omega))) | (with_reducible refine Below.allocW ?_ _) | (with_reducible refine Below.drew ?_) | (with_reducible refine Below.extW ?_ _)))⟩
theorem back4 (W : World) (a b c d : UInt8) (n : Nat) (hn : n = W.heap.size) :
    (convert 151 9 (.slice (some ⟨n, 0, none⟩) 4 4)).run Tryz.prog (W.alloc (.cells #[.int .u8 (a.toNat : Int), .int .u8 (b.toNat : Int), .int .u8 (c.toNat : Int), .int .u8 (d.toNat : Int)] 5)) = .ok (.string ⟨[a, b, c, d].toArray⟩) (W.alloc (.cells #[.int .u8 (a.toNat : Int), .int .u8 (b.toNat : Int), .int .u8 (c.toNat : Int), .int .u8 (d.toNat : Int)] 5)) := by
  subst hn
  refine run_convert_bytes_back (P := Tryz.prog) _ 151 9 5 ⟨W.heap.size, 0, none⟩ 4 [a, b, c, d] Tryz.underlying151 Tryz.underlying5 Tryz.underlying9 ?_
  intro j hj
  rw [show Addr.add ⟨W.heap.size, 0, none⟩ j = ⟨W.heap.size, j, none⟩ by unfold Addr.add; split <;> simp_all]
  rw [World.cell?_alloc_mark]
  simp only [List.length_cons, List.length_nil] at hj
  match j, hj with
  | 0, _ => rfl
  | 1, _ => rfl
  | 2, _ => rfl
  | 3, _ => rfl
def bytesL (s : Nat × Nat) : List UInt8 := [UInt8.ofNat (s.2 / 256), UInt8.ofNat s.2, UInt8.ofNat (s.1 / 256), UInt8.ofNat s.1]
theorem seal_Bytes (w : World) (s : Nat × Nat) (h : s.1 < 65521 ∧ s.2 < 65521) : Calls Tryz.prog 169 #[sumV s] w fun e w' => e = .returned (.string ⟨(bytesL s).toArray⟩) ∧ Below w.heap.size w w' := by
  unfold sumV
  have h1 : (s.2 : Int) / 256 = ((UInt8.ofNat (s.2 / 256)).toNat : Int) := by rw [UInt8.toNat_ofNat']; omega
  have h2 : (s.2 : Int) % 256 = ((UInt8.ofNat s.2).toNat : Int) := by rw [UInt8.toNat_ofNat']; omega
  have h3 : (s.1 : Int) / 256 = ((UInt8.ofNat (s.1 / 256)).toNat : Int) := by rw [UInt8.toNat_ofNat']; omega
  have h4 : (s.1 : Int) % 256 = ((UInt8.ofNat s.1).toNat : Int) := by rw [UInt8.toNat_ofNat']; omega
  unfold bytesL
  generalize UInt8.ofNat (s.2 / 256) = a at h1 ⊢
  generalize UInt8.ofNat s.2 = b at h2 ⊢
  generalize UInt8.ofNat (s.1 / 256) = c at h3 ⊢
  generalize UInt8.ofNat s.1 = d at h4 ⊢
  have hcv := back4 (w.alloc (.cells #[.int .i64 s.1, .int .i64 s.2] 231)) a b c d (w.heap.size + 1) (by simp)
  have HB : Hid (Below w.heap.size w ((w.alloc (.cells #[.int .i64 s.1, .int .i64 s.2] 231)).alloc (.cells #[.int .u8 (a.toNat : Int), .int .u8 (b.toNat : Int), .int .u8 (c.toNat : Int), .int .u8 (d.toNat : Int)] 5))) := Lib.hid (by repeat (first | with_reducible exact Below.refl _ _ | with_reducible assumption | ((with_reducible refine Below.setCell ?_ ?_ _); rotate_left; · (first | omega | exact Nat.le_refl _ | (simp <;> omega))) | (with_reducible refine Below.allocW ?_ _) | (with_reducible refine Below.drew ?_) | (with_reducible refine Below.extW ?_ _)))
  have h5 := h.1
  have h6 := h.2
  clear h
  go_enter Tryz.func169, Tryz.ntmps169
  go_wp2_with fail
  exact bodyPost_ret (v := .string ⟨[a, b, c, d].toArray⟩) (by simp only [results, Tryz.results169]; go_simp) rfl ⟨rfl, HB.out⟩
/-- A sum's cells. -/
def SealAt (W : World) (b lo hi : Nat) : Prop := W.heap[b]? = some (.cells #[.int .i64 lo, .int .i64 hi] 231 (0, 0))
theorem SealAt.below {w w' : World} {b lo hi : Nat} (h : SealAt w b lo hi) (hb : Below w.heap.size w w') : SealAt w' b lo hi := blk_below h hb
theorem SealAt.set {w : World} {b lo hi q o : Nat} (h : SealAt w b lo hi) (hne : b ≠ q) (u : Value) : SealAt (w.setCell ⟨q, o, none⟩ u) b lo hi := (Below.heap_setCell _ _ _ _ hne).trans h
theorem SealAt.put0 {w : World} {b lo hi : Nat} (h : SealAt w b lo hi) (x : Nat) : SealAt (w.setCell ⟨b, 0, none⟩ (.int .i64 x)) b x hi := heap_set_at (i := 0) h _
theorem SealAt.put1 {w : World} {b lo hi : Nat} (h : SealAt w b lo hi) (x : Nat) : SealAt (w.setCell ⟨b, 1, none⟩ (.int .i64 x)) b lo x := heap_set_at (i := 1) h _
theorem sum_step {A : Nat × Nat} {lo hi : Nat} (b : UInt8) (h1 : lo % 65521 = A.1) (h2 : hi % 65521 = A.2) : (lo + b.toNat) % 65521 = (sum1 A b).1 ∧ (hi + (lo + b.toNat)) % 65521 = (sum1 A b).2 := by
  unfold sum1
  dsimp only
  omega
theorem sumT_take {A : Nat × Nat} {l : List UInt8} {q : Nat} (h : q < l.length) : sumT A (l.take (q + 1)) = sum1 (sumT A (l.take q)) l[q] := by
  rw [List.take_succ_eq_append_getElem h, sumT_app]
  rfl
theorem text_at (W : World) (l : List UInt8) (q : Nat) (h : q < l.length) : (Instr.index 9 (.string ⟨l.toArray⟩) (.int .i64 q)).run Tryz.prog W = .ok (.int .u8 (l[q].toNat : Int)) W := by
  have hq : 0 ≤ (q : Int) ∧ (q : Int) < ((ByteArray.mk l.toArray).size : Int) := ⟨by omega, by show (q : Int) < (l.toArray.size : Int); simp; exact h⟩
  rw [run_index_string W 9 ⟨l.toArray⟩ .i64 q Tryz.underlying9, dif_pos hq]
  rfl
def strSize : Value → Nat
  | .string b => b.size
  | _ => 0
theorem text_drop (l : List UInt8) (n : Nat) : (ByteArray.mk l.toArray).extract n l.length = ⟨(l.drop n).toArray⟩ := by
  apply ByteArray.ext
  simp [ByteArray.data_extract]
  exact List.take_of_length_le (by simp)
theorem SealAt.drew {w : World} {b lo hi : Nat} (h : SealAt w b lo hi) : SealAt w.drew b lo hi := h
theorem SealAt.new (w : World) (lo hi : Nat) : SealAt (w.alloc (.cells #[.int .i64 lo, .int .i64 hi] 231)) w.heap.size lo hi := heap_alloc_new w _
theorem SealAt.alloc {w : World} {b lo hi : Nat} (h : SealAt w b lo hi) (o : Obj) : SealAt (w.alloc o) b lo hi := h.below ((Below.refl _ _).alloc (Nat.le_refl _) o)
theorem size_alloc1 (w : World) (o : Obj) : (w.alloc o).heap.size = w.heap.size + 1 := by simp
set_option maxHeartbeats 4000000 in
theorem seal_More (w : World) (s : Nat × Nat) (l : List UInt8) (h : s.1 < 65521 ∧ s.2 < 65521) (hl : l.length ≤ 1000000000000) :
    Calls Tryz.prog 199 #[sumV s, .string ⟨l.toArray⟩] w fun e w' => e = .returned (sumV (sumT s l)) ∧ Below w.heap.size w w' := by
  unfold sumV
  have HS := Lib.hid h
  clear h
  go_enter Tryz.func199, Tryz.ntmps199
  go_wp2_with fail
  go_loopw [1] (fun t wr => ∃ (pre suf : List UInt8), t = .string ⟨suf.toArray⟩ ∧ pre ++ suf = l ∧ SealAt wr w.heap.size (sumT s pre).1 (sumT s pre).2 ∧ SealAt wr (w.heap.size + 1) 0 0 ∧ Below w.heap.size w wr) (fun t _ => strSize t)
  case atStart =>
    refine ⟨[], l, rfl, rfl, (SealAt.new w s.1 s.2).alloc _, ?_, (by repeat (first | with_reducible exact Below.refl _ _ | with_reducible assumption | ((with_reducible refine Below.setCell ?_ ?_ _); rotate_left; · (first | omega | exact Nat.le_refl _ | (simp <;> omega))) | (with_reducible refine Below.allocW ?_ _) | (with_reducible refine Below.drew ?_) | (with_reducible refine Below.extW ?_ _)))⟩
    have := SealAt.new (w.alloc (.cells #[.int .i64 s.1, .int .i64 s.2] 231)) 0 0
    rw [size_alloc1] at this
    exact this
  case round =>
    obtain ⟨pre, suf, rfl, he, hx, hy, hB⟩ := hrel
    have HE := Lib.hid he
    have HX := Lib.hid hx
    have HY := Lib.hid hy
    have HB := Lib.hid hB
    have hsl : suf.length ≤ 1000000000000 := by rw [← he, List.length_append] at hl; omega
    have HLt := Lib.hid (sumT_lt HS.out pre)
    have sz := hB.size
    clear he hx hy hB
    by_cases h0 : 0 < suf.length
    · have h1 : (0 : Int) < (suf.length : Int) := by omega
      obtain ⟨n, hn⟩ : ∃ n : Nat, n = min suf.length 5000 := ⟨_, rfl⟩
      have hmin : min (suf.length : Int) 5000 = (n : Int) := by omega
      have hn1 : 1 ≤ n ∧ n ≤ 5000 ∧ n ≤ suf.length := by omega
      clear hn
      go_wp2_with fail
      go_loopw [14] (fun j W => ∃ q lo hi : Nat, j = .int .i64 q ∧ q ≤ n ∧ SealAt W w.heap.size lo hi ∧ lo ≤ 65520 + 255 * q ∧ hi ≤ 65520 + q * 1400000 ∧ lo % 65521 = (sumT (sumT s pre) (suf.take q)).1 ∧ hi % 65521 = (sumT (sumT s pre) (suf.take q)).2 ∧ SealAt W (w.heap.size + 1) 0 0 ∧ Below w.heap.size w W) (fun j _ => n - (intOf j).toNat)
      case atStart =>
        have hL := HLt.out
        exact ⟨0, _, _, rfl, Nat.zero_le _, HX.out, by omega, by omega, Nat.mod_eq_of_lt hL.1, Nat.mod_eq_of_lt hL.2, HY.out, HB.out⟩
      case round =>
        obtain ⟨q, lo, hi, rfl, hq, hx, hlo, hhi, hm1, hm2, hy, hB⟩ := hrel
        have HM := Lib.hid (And.intro hm1 hm2)
        have HY2 := Lib.hid hy
        have HB2 := Lib.hid hB
        have HX2 := Lib.hid hx
        have cc := blk_cell hx
        have cf := blk_frozen hx
        have zb := lt_of_block hx
        clear hm1 hm2 hy hB hx
        by_cases hqn : q < n
        · have hqi : (q : Int) < (n : Int) := by omega
          have hqs : q < suf.length := by omega
          have hqsi : (q : Int) < (suf.length : Int) := by omega
          have HS1 := Lib.hid (sumT_take (A := sumT s pre) hqs)
          have HS2 := Lib.hid (sum_step suf[q] HM.out.1 HM.out.2)
          have hbl : (suf[q]).toNat < 256 := (suf[q]).toNat_lt
          have hix := fun W => text_at W suf q hqs
          generalize suf[q] = y at HS1 HS2 hbl hix
          generalize y.toNat = b at HS2 hbl hix
          obtain ⟨lo2, hlo2⟩ : ∃ lo2 : Nat, lo2 = lo + b := ⟨_, rfl⟩
          rw [← hlo2] at HS2
          have hw : (lo : Int) + (b : Int) = (lo2 : Int) := by omega
          have HX3 := Lib.hid (HX2.out.put0 lo2).drew
          have HY3 := Lib.hid (HY2.out.set (q := w.heap.size) (o := 0) (by omega) (.int .i64 lo2)).drew
          have HB3 := Lib.hid (Below.setCell (p := ⟨w.heap.size, 0, none⟩) HB2.out (Nat.le_refl _) (.int .i64 lo2)).drew
          have hlo3 : lo2 ≤ 65520 + 255 * (q + 1) := by omega
          clear hlo2
          go_wp2_with fail
          go_region
          generalize (wr.setCell ⟨w.heap.size, 0, none⟩ (.int .i64 lo2)).drew = W3 at HX3 HY3 HB3 ⊢
          have cc3 := blk_cell HX3.out
          have cf3 := blk_frozen HX3.out
          have zb3 := lt_of_block HX3.out
          clear cc cf zb hw
          obtain ⟨hi2, hhi2⟩ : ∃ hi2 : Nat, hi2 = hi + lo2 := ⟨_, rfl⟩
          rw [← hhi2] at HS2
          have HX4 := Lib.hid (HX3.out.put1 hi2)
          have HY4 := Lib.hid (HY3.out.set (q := w.heap.size) (o := 1) (by omega) (.int .i64 hi2))
          have HB4 := Lib.hid (Below.setCell (p := ⟨w.heap.size, 1, none⟩) HB3.out (Nat.le_refl _) (.int .i64 hi2))
          have hw2 : (hi : Int) + (lo2 : Int) = (hi2 : Int) := by omega
          have hhi3 : hi2 ≤ 65520 + (q + 1) * 1400000 := by omega
          clear hhi2
          go_wp2_with fail
          go_roundw
          case rel => exact ⟨q + 1, lo2, hi2, by go_num, by omega, HX4.out, hlo3, hhi3, by rw [HS1.out]; exact HS2.out.1, by rw [HS1.out]; exact HS2.out.2, HY4.out, HB4.out⟩
          case measure => simp [intOf]; omega
        · obtain rfl : q = n := by omega
          have hqi : decide ((q : Int) < (q : Int)) = false := by simp
          have HEX : Hid (pre ++ suf.take q ++ suf.drop q = l) := Lib.hid (by rw [List.append_assoc, List.take_append_drop]; exact HE.out)
          have hm : sumT (sumT s pre) (suf.take q) = sumT s (pre ++ suf.take q) := (sumT_app _ _ _).symm
          have HM2 := Lib.hid (And.intro (HM.out.1.trans (congrArg Prod.fst hm)) (HM.out.2.trans (congrArg Prod.snd hm)))
          generalize pre ++ suf.take q = pre2 at HEX HM2 hm
          clear hm HM
          have hloi : (lo : Int) % 65521 = ((sumT s pre2).1 : Int) := by have := HM2.out.1; omega
          have hhii : (hi : Int) % 65521 = ((sumT s pre2).2 : Int) := by have := HM2.out.2; omega
          generalize hA : (sumT s pre2).1 = A1 at hloi
          generalize hA2 : (sumT s pre2).2 = A2 at hhii
          have HA := Lib.hid (And.intro hA hA2)
          clear hA hA2
          have HX3 := Lib.hid ((HX2.out.put0 A1).put1 A2)
          have HY3 := Lib.hid ((HY2.out.set (q := w.heap.size) (o := 0) (by omega) (.int .i64 A1)).set (q := w.heap.size) (o := 1) (by omega) (.int .i64 A2))
          have HB3 := Lib.hid (Below.setCell (p := ⟨w.heap.size, 1, none⟩) (Below.setCell (p := ⟨w.heap.size, 0, none⟩) HB2.out (Nat.le_refl _) (.int .i64 A1)) (Nat.le_refl _) (.int .i64 A2))
          have htd := text_drop suf q
          go_wp2_with fail
          go_roundw
          case rel => exact ⟨pre2, suf.drop q, rfl, HEX.out, by rw [HA.out.1, HA.out.2]; exact HX3.out, HY3.out, HB3.out⟩
          case measure =>
            show (List.drop q suf).toArray.size < suf.toArray.size
            simp
            omega
    · obtain rfl : suf = [] := List.eq_nil_of_length_eq_zero (by omega)
      obtain rfl : pre = l := by simpa using HE.out
      have cc := blk_cell HX.out
      have cf := blk_frozen HX.out
      have zb := lt_of_block HX.out
      have cd := blk_cell HY.out
      have cg := blk_frozen HY.out
      have zc := lt_of_block HY.out
      have HYe := Lib.hid ((HY.out.put0 (sumT s pre).1).put1 (sumT s pre).2)
      have HBe := Lib.hid (Below.setCell (p := ⟨w.heap.size + 1, 1, none⟩) (Below.setCell (p := ⟨w.heap.size + 1, 0, none⟩) HB.out (by simp) (.int .i64 (sumT s pre).1)) (by simp) (.int .i64 (sumT s pre).2))
      go_wp2_with fail
      generalize ((wr.setCell ⟨w.heap.size + 1, 0, none⟩ (.int .i64 (sumT s pre).1)).setCell ⟨w.heap.size + 1, 1, none⟩ (.int .i64 (sumT s pre).2)) = W4 at HYe HBe ⊢
      have ce := blk_cell HYe.out
      have cfe := blk_frozen HYe.out
      have ze := lt_of_block HYe.out
      exact bodyPost_ret (v := .agg #[.int .i64 (sumT s pre).1, .int .i64 (sumT s pre).2]) (by simp only [results, Tryz.results199]; go_simp) rfl ⟨rfl, HBe.out⟩
end Go.Proofs.YtgjaopfjffncbaaGreat
/- Package seal: the sum of texts, and a sealed text. -/
namespace Go.Proofs.YtgjaopfjffncbaaGreat
open Go.ChangeShapes Go.WideShapes Go.ChangeAt Go.RowKit
set_option linter.unusedVariables false
set_option linter.unusedSimpArgs false
set_option maxRecDepth 100000

def encT : Enc (List UInt8) 1 := ⟨fun l => [.string ⟨l.toArray⟩], fun _ => rfl, by intro x u hu; simp at hu; subst hu; rfl⟩
theorem flat_take {L : List (List UInt8)} {q : Nat} (h : q < L.length) : (L.take (q + 1)).flatten = (L.take q).flatten ++ L[q] := by
  rw [List.take_succ_eq_append_getElem h, List.flatten_append]
  simp
set_option maxHeartbeats 2000000 in
theorem seal_Of (w : World) (base : Nat) (v : Value) (L : List (List UInt8)) (ho : Own w base 9 encT v L) (hl : ∀ l ∈ L, l.length ≤ 1000000000000) (hn : L.length ≤ 1000000) :
    Calls Tryz.prog 168 #[v] w fun e w' => e = .returned (sumV (sumT (1, 0) L.flatten)) ∧ Below w.heap.size w w' := by
  obtain ⟨A, c, rfl, _⟩ := ho.form
  have HO := Lib.hid (ho.base_le (Nat.zero_le _))
  have HLn := Lib.hid hl
  have HY0 := Lib.hid (SealAt.new w 0 0)
  have HB0 : Hid (Below w.heap.size w (w.alloc (.cells #[.int .i64 (0 : Nat), .int .i64 (0 : Nat)] 231))) := Lib.hid (by repeat (first | with_reducible exact Below.refl _ _ | with_reducible assumption | ((with_reducible refine Below.setCell ?_ ?_ _); rotate_left; · (first | omega | exact Nat.le_refl _ | (simp <;> omega))) | (with_reducible refine Below.allocW ?_ _) | (with_reducible refine Below.drew ?_) | (with_reducible refine Below.extW ?_ _)))
  have HMo := Lib.hid (fun W s l => seal_More W s l)
  unfold sumV at HMo ⊢
  clear ho hl
  generalize hG : sumT (1, 0) L.flatten = G
  have HG := Lib.hid hG
  clear hG
  go_enter Tryz.func168, Tryz.ntmps168
  go_wp2_with fail
  refine (seal_Begin _).mono ?_
  unfold sumV
  rintro e w1 ⟨rfl, hb1⟩
  have s1 := hb1.size
  rw [size_alloc1] at s1
  have HY1 := Lib.hid (HY0.out.below hb1)
  have HB1 := Lib.hid (HB0.out.trans (hb1.mono (by simp)))
  clear hb1
  go_wp2_with fail
  go_loopw [9] (fun j wr => ∃ q : Nat, j = .int .i64 q ∧ q ≤ L.length ∧ SealAt wr w1.heap.size (sumT (1, 0) (L.take q).flatten).1 (sumT (1, 0) (L.take q).flatten).2 ∧ SealAt wr w.heap.size 0 0 ∧ Below w.heap.size w wr) (fun j _ => L.length - (intOf j).toNat)
  case atStart =>
    refine ⟨0, rfl, Nat.zero_le _, SealAt.new w1 1 0, HY1.out.alloc _, HB1.out.alloc (by omega) _⟩
  case round =>
    obtain ⟨q, rfl, hq, hx, hy, hB⟩ := hrel
    have HX := Lib.hid hx
    have HY := Lib.hid hy
    have HB := Lib.hid hB
    have HR := Lib.hid (HO.out.below hB)
    have sz := hB.size
    have cc := blk_cell hx
    have cf := blk_frozen hx
    have zb := lt_of_block hx
    clear hx hy hB
    by_cases hlt : q < L.length
    · have hqi : (q : Int) < (L.length : Int) := by omega
      obtain ⟨b, off, rfl, hb, hc⟩ := HR.out.sl.at_ hlt
      have d0 := hc 0 (.string ⟨(L[q]).toArray⟩) rfl
      simp only [Nat.mul_one, Nat.add_zero] at d0
      have HF := Lib.hid (flat_take hlt)
      have HL := Lib.hid (HLn.out _ (List.getElem_mem hlt))
      have HA := Lib.hid (sumT_app (1, 0) (L.take q).flatten L[q])
      have HS := Lib.hid (sumT_lt (s := (1, 0)) (by decide) (L.take q).flatten)
      generalize L[q] = l at d0 HF HL HA
      rw [← HF.out] at HA
      generalize sumT (1, 0) (L.take q).flatten = S at HX HS HA cc
      clear hc
      go_wp2_with fail
      refine (HMo.out _ S l HS.out HL.out).mono ?_
      rintro e w2 ⟨rfl, hb2⟩
      have HX2 := Lib.hid (HX.out.below hb2)
      have HY2 := Lib.hid (HY.out.below hb2)
      have HB2 := Lib.hid (HB.out.trans (hb2.mono sz))
      have cc2 := blk_cell HX2.out
      have cf2 := blk_frozen HX2.out
      have zb2 := lt_of_block HX2.out
      rw [← HA.out]
      clear hb2 cc cf zb HF
      generalize hT : sumT (1, 0) (L.take (q + 1)).flatten = T
      have HT := Lib.hid hT
      clear hT HA
      have HX3 := Lib.hid ((HX2.out.put0 T.1).put1 T.2)
      have HY3 := Lib.hid ((HY2.out.set (q := w1.heap.size) (o := 0) (by omega) (.int .i64 T.1)).set (q := w1.heap.size) (o := 1) (by omega) (.int .i64 T.2))
      have HB3 := Lib.hid (Below.setCell (p := ⟨w1.heap.size, 1, none⟩) (Below.setCell (p := ⟨w1.heap.size, 0, none⟩) HB2.out (by simp; omega) (.int .i64 T.1)) (by simp; omega) (.int .i64 T.2))
      go_wp2_with fail
      go_roundw
      case rel => exact ⟨q + 1, by go_num, by omega, by rw [HT.out]; exact HX3.out, HY3.out, HB3.out⟩
      case measure => simp [intOf]; omega
    · obtain rfl : q = L.length := by omega
      rw [List.take_length, HG.out] at HX cc
      have hqi : decide ((L.length : Int) < (L.length : Int)) = false := by simp
      have cd := blk_cell HY.out
      have cg := blk_frozen HY.out
      have zc := lt_of_block HY.out
      have HYe := Lib.hid ((HY.out.put0 G.1).put1 G.2)
      have HBe := Lib.hid (Below.setCell (p := ⟨w.heap.size, 1, none⟩) (Below.setCell (p := ⟨w.heap.size, 0, none⟩) HB.out (by simp) (.int .i64 G.1)) (by simp) (.int .i64 G.2))
      go_wp2_with fail
      generalize ((wr.setCell ⟨w.heap.size, 0, none⟩ (.int .i64 G.1)).setCell ⟨w.heap.size, 1, none⟩ (.int .i64 G.2)) = W4 at HYe HBe ⊢
      have ce := blk_cell HYe.out
      have cfe := blk_frozen HYe.out
      have ze := lt_of_block HYe.out
      exact bodyPost_ret (v := .agg #[.int .i64 G.1, .int .i64 G.2]) (by simp only [results, Tryz.results168]; go_simp) rfl ⟨rfl, HBe.out⟩
/-- A sealed text. -/
def sealT (l : List UInt8) : List UInt8 := l ++ bytesL (sumT (1, 0) l)
theorem sealT_len (l : List UInt8) : (sealT l).length = l.length + 4 := by simp [sealT, bytesL]
set_option maxHeartbeats 1000000 in
theorem seal_Seal (w : World) (l : List UInt8) (hl : l.length ≤ 8000000) : Calls Tryz.prog 143 #[.string ⟨l.toArray⟩] w fun e w' => e = .returned (.string ⟨(sealT l).toArray⟩) ∧ Below w.heap.size w w' := by
  unfold sealT
  have HO : Hid (Own (w.alloc (.cells #[.string ⟨l.toArray⟩] 9)) w.heap.size 9 encT (.slice (some ⟨w.heap.size, 0, none⟩) 1 1) [l]) := Lib.hid (Own.lit w encT [l] 9 (Nat.le_refl _) (by simp [maxLen]))
  have HF := Lib.hid (seal_Of _ _ _ _ HO.out (by simp; omega) (by simp))
  have HB0 : Hid (Below w.heap.size w (w.alloc (.cells #[.string ⟨l.toArray⟩] 9))) := Lib.hid (by repeat (first | with_reducible exact Below.refl _ _ | with_reducible assumption | ((with_reducible refine Below.setCell ?_ ?_ _); rotate_left; · (first | omega | exact Nat.le_refl _ | (simp <;> omega))) | (with_reducible refine Below.allocW ?_ _) | (with_reducible refine Below.drew ?_) | (with_reducible refine Below.extW ?_ _)))
  have hfl : [l].flatten = l := by simp
  rw [hfl] at HF
  have HS := Lib.hid (sumT_lt (s := (1, 0)) (by decide) l)
  generalize sumT (1, 0) l = S at HF HS ⊢
  clear hfl HO
  go_enter Tryz.func143, Tryz.ntmps143
  go_wp2_with fail
  refine HF.out.mono ?_
  rintro e w1 ⟨rfl, hb1⟩
  have HB1 := Lib.hid (HB0.out.trans (hb1.mono (by simp)))
  clear hb1
  go_wp2_with fail
  refine (seal_Bytes _ S HS.out).mono ?_
  rintro e w2 ⟨rfl, hb2⟩
  have HB2 := Lib.hid (HB1.out.trans (hb2.mono HB1.out.size))
  clear hb2
  have hcat := fun W => run_string_add_lists (P := Tryz.prog) W l (bytesL S) (by omega) (by simp [bytesL])
  go_wp2_with fail
  exact bodyPost_ret (v := .string ⟨(l ++ bytesL S).toArray⟩) (by simp only [results, Tryz.results143]; go_simp) rfl ⟨rfl, HB2.out⟩
end Go.Proofs.YtgjaopfjffncbaaGreat
/- Package crew, and reference 27: sets of sensors. -/
namespace Go.Proofs.YtgjaopfjffncbaaGreat
open Go.ChangeShapes Go.WideShapes Go.ChangeAt Go.RowKit
set_option linter.unusedVariables false
set_option linter.unusedSimpArgs false
set_option maxRecDepth 100000

/-- Is a number a sensor? -/
def isCrew (i : Int) : Bool := decide (0 ≤ i ∧ i < 48)
theorem isCrew_nat {i : Int} (h : isCrew i = true) : ∃ n : Nat, i = n ∧ n < 48 := by
  simp only [isCrew, decide_eq_true_eq] at h
  obtain ⟨n, rfl⟩ := Int.eq_ofNat_of_zero_le h.1
  exact ⟨n, rfl, by omega⟩
def hasN (s i : Nat) : Bool := decide (s / 2 ^ i % 2 = 1)
/-- Is a sensor in a set? -/
def hasC (s : Nat) (i : Int) : Bool := isCrew i && hasN s i.toNat
/-- A set with a sensor. -/
def withC (s : Nat) (i : Int) : Nat := if isCrew i = true then (if hasN s i.toNat = true then s else s + 2 ^ i.toNat) else s
def rightC (s : Nat) : Bool := decide (s ≤ 281474976710655)
theorem wrap_u64s {n : Int} (h0 : 0 ≤ n) (h1 : n < 2 ^ 64) : IntKind.u64.wrap n = n := by rw [IntKind.wrap_u64]; omega
theorem pow_crew {i : Nat} (hi : i < 48) : 2 ^ i ≤ 140737488355328 ∧ 1 ≤ 2 ^ i := by
  have h1 : 2 ^ i ≤ 2 ^ 47 := Nat.pow_le_pow_right (by decide) (by omega)
  have h2 := Nat.two_pow_pos i
  omega
theorem and_one (s i : Nat) (hs : s < 2 ^ 64) : (bits BinOp.and IntKind.u64 ((s : Int) / 2 ^ i) 1 == 1) = hasN s i := by
  have e : ((s : Int) / 2 ^ i) = ((s / 2 ^ i : Nat) : Int) := by rw [Int.natCast_ediv]; norm_cast
  have hl : s / 2 ^ i < 2 ^ 64 := Nat.lt_of_le_of_lt (Nat.div_le_self _ _) hs
  have h := (bits_nat .u64 64 (by decide) (fun n h0 h1 => wrap_u64s h0 h1) (s / 2 ^ i) 1 hl (by decide)).1
  rw [e]
  rw [show ((1 : Int)) = ((1 : Nat) : Int) from rfl, h, Nat.and_one_is_mod]
  unfold hasN
  by_cases hc : s / 2 ^ i % 2 = 1
  · simp [hc]
  · have : s / 2 ^ i % 2 = 0 := by omega
    simp [this]
theorem or_two_pow_add {s i : Nat} (h : s.testBit i = false) : 2 ^ i + s = s ||| 2 ^ i := by
  apply Nat.eq_of_testBit_eq
  intro j
  rw [Nat.testBit_or, Nat.testBit_two_pow]
  rcases Nat.lt_trichotomy j i with hj | rfl | hj
  · rw [Nat.testBit_two_pow_add_gt hj]; simp; omega
  · rw [Nat.testBit_two_pow_add_eq, h]; simp
  · have e : 2 ^ i + s = 2 ^ i * (1 + s / 2 ^ i) + s % 2 ^ i := by
      rw [Nat.mul_add, Nat.mul_one]
      have := Nat.div_add_mod s (2 ^ i)
      omega
    have hd : s / 2 ^ i % 2 = 0 := by
      rw [Nat.testBit_eq_decide_div_mod_eq] at h
      simp at h
      omega
    have h1 : (2 ^ i + s).testBit j = s.testBit j := by
      rw [Nat.testBit_eq_decide_div_mod_eq, Nat.testBit_eq_decide_div_mod_eq]
      congr 2
      obtain ⟨k, rfl⟩ : ∃ k, j = i + 1 + k := ⟨j - (i + 1), by omega⟩
      have key : (2 ^ i + s) / 2 ^ (i + 1) = s / 2 ^ (i + 1) := by
        rw [Nat.pow_succ, ← Nat.div_div_eq_div_mul, ← Nat.div_div_eq_div_mul, Nat.add_comm, Nat.add_div_right _ (Nat.two_pow_pos i)]
        omega
      rw [Nat.pow_add, ← Nat.div_div_eq_div_mul, ← Nat.div_div_eq_div_mul, key]
    rw [h1]
    have : ¬ i = j := by omega
    simp [this]
theorem or_pow (s i : Nat) (hs : s < 2 ^ 64) (hi : i < 48) : bits BinOp.or IntKind.u64 (s : Int) ((2 ^ i : Nat) : Int) = ((if hasN s i = true then s else s + 2 ^ i : Nat) : Int) := by
  have hp := pow_crew hi
  rw [(bits_nat .u64 64 (by decide) (fun n h0 h1 => wrap_u64s h0 h1) s (2 ^ i) hs (by omega)).2]
  congr 1
  have ht : hasN s i = s.testBit i := by
    unfold hasN
    rw [Nat.testBit_eq_decide_div_mod_eq]
  rw [ht]
  apply Nat.eq_of_testBit_eq
  intro j
  rw [Nat.testBit_or, Nat.testBit_two_pow]
  by_cases hb : s.testBit i = true
  · rw [if_pos hb]
    by_cases hij : i = j
    · subst hij; simp [hb]
    · simp [hij]
  · rw [if_neg hb]
    have hb' : s.testBit i = false := by simpa using hb
    rw [Nat.add_comm, or_two_pow_add hb', Nat.testBit_or, Nat.testBit_two_pow]
theorem withC_lt {s : Nat} {i : Int} (hs : s < 2 ^ 63) : withC s i < 2 ^ 64 := by
  unfold withC
  split
  · rename_i h
    obtain ⟨n, rfl, hn⟩ := isCrew_nat h
    have := pow_crew hn
    split
    · omega
    · rw [Int.toNat_natCast]; omega
  · omega
theorem crew_is (i : Int) (w : World) : Calls Tryz.prog 131 #[.int .i64 i] w fun e w' => e = .returned (.bool (isCrew i)) ∧ Below w.heap.size w w' := by
  unfold isCrew
  by_cases h : 0 ≤ i
  · have h1 : decide (0 ≤ i) = true := by simpa using h
    go_enter Tryz.func131, Tryz.ntmps131
    go_wp2_with fail
    go_ret
    exact ⟨by simp [h], Below.refl _ _⟩
  · have h1 : decide (0 ≤ i) = false := by simpa using h
    go_enter Tryz.func131, Tryz.ntmps131
    go_wp2_with fail
    go_ret
    exact ⟨by simp [h], Below.refl _ _⟩
theorem crew_one (i : Int) (w : World) : Calls Tryz.prog 74 #[.int .i64 i] w fun e w' => e = .returned (.int .u64 ((if isCrew i = true then 2 ^ i.toNat else 0 : Nat) : Int)) ∧ Below w.heap.size w w' := by
  have HC := Lib.hid (fun W => crew_is i W)
  cases hc : isCrew i
  · rw [hc] at HC
    clear hc
    go_enter Tryz.func74, Tryz.ntmps74
    go_wp2_with fail
    refine (HC.out w).mono ?_
    rintro e w1 ⟨rfl, hb1⟩
    go_wp2_with fail
    go_ret
    exact ⟨rfl, hb1⟩
  · rw [hc] at HC
    obtain ⟨n, rfl, hn⟩ := isCrew_nat hc
    clear hc
    have hw : Hid (IntKind.u64.wrap (2 ^ n) = ((2 ^ n : Nat) : Int)) := Lib.hid (by
      have hp := pow_crew hn
      have e : (2 : Int) ^ n = ((2 ^ n : Nat) : Int) := by norm_cast
      rw [e, wrap_u64s (by omega) (by omega)])
    go_enter Tryz.func74, Tryz.ntmps74
    go_wp2_with fail
    refine (HC.out w).mono ?_
    rintro e w1 ⟨rfl, hb1⟩
    go_wp2_with fail
    go_ret
    refine ⟨?_, hb1⟩
    simp only [Array.getD_eq_getD_getElem?, Int.toNat_natCast]
    simp [hw.out]
theorem crew_With (s : Nat) (i : Int) (hs : s < 2 ^ 64) (w : World) : Calls Tryz.prog 24 #[.int .u64 s, .int .i64 i] w fun e w' => e = .returned (.int .u64 (withC s i)) ∧ Below w.heap.size w w' := by
  have HC := Lib.hid (fun W => crew_one i W)
  unfold withC
  cases hc : isCrew i
  · rw [hc] at HC
    clear hc
    simp only [Bool.false_eq_true, if_false] at HC ⊢
    have h0 : Hid (bits BinOp.or IntKind.u64 (s : Int) 0 = (s : Int)) := Lib.hid (by
      have := (bits_nat .u64 64 (by decide) (fun n h0 h1 => wrap_u64s h0 h1) s 0 hs (by decide)).2
      simpa using this)
    go_enter Tryz.func24, Tryz.ntmps24
    go_wp2_with fail
    refine (HC.out w).mono ?_
    rintro e w1 ⟨rfl, hb1⟩
    go_wp2_with fail
    go_ret
    refine ⟨?_, hb1⟩
    simp [h0.out]
  · rw [hc] at HC
    obtain ⟨n, rfl, hn⟩ := isCrew_nat hc
    clear hc
    simp only [if_true, Int.toNat_natCast] at HC ⊢
    have h0 := Lib.hid (or_pow s n hs hn)
    obtain ⟨p, hp⟩ : ∃ p, p = 2 ^ n := ⟨_, rfl⟩
    rw [← hp] at HC h0 ⊢
    clear hp
    generalize (if hasN s n = true then s else s + p) = sp at h0 ⊢
    go_enter Tryz.func24, Tryz.ntmps24
    go_wp2_with fail
    refine (HC.out w).mono ?_
    rintro e w1 ⟨rfl, hb1⟩
    go_wp2_with fail
    go_ret
    refine ⟨?_, hb1⟩
    have h2 := h0.out
    simp only [Array.getD_eq_getD_getElem?]
    simp [h2]
theorem crew_Has (s : Nat) (i : Int) (hs : s < 2 ^ 64) (w : World) : Calls Tryz.prog 94 #[.int .u64 s, .int .i64 i] w fun e w' => e = .returned (.bool (hasC s i)) ∧ Below w.heap.size w w' := by
  have HC := Lib.hid (fun W => crew_is i W)
  unfold hasC
  cases hc : isCrew i
  · rw [hc] at HC
    clear hc
    go_enter Tryz.func94, Tryz.ntmps94
    go_wp2_with fail
    refine (HC.out w).mono ?_
    rintro e w1 ⟨rfl, hb1⟩
    go_wp2_with fail
    go_ret
    exact ⟨by simp, hb1⟩
  · rw [hc] at HC
    obtain ⟨n, rfl, hn⟩ := isCrew_nat hc
    clear hc
    have h0 := Lib.hid (and_one s n hs)
    go_enter Tryz.func94, Tryz.ntmps94
    go_wp2_with fail
    refine (HC.out w).mono ?_
    rintro e w1 ⟨rfl, hb1⟩
    go_wp2_with fail
    go_ret
    refine ⟨?_, hb1⟩
    have := h0.out
    simp [this]
theorem crew_Right (s : Nat) (w : World) : Calls Tryz.prog 93 #[.int .u64 s] w fun e w' => e = .returned (.bool (rightC s)) ∧ Below w.heap.size w w' := by
  have e : decide ((s : Int) ≤ 281474976710655) = decide (s ≤ 281474976710655) := decide_eq_decide.2 (by omega)
  unfold rightC
  rw [← e]
  clear e
  go_enter Tryz.func93, Tryz.ntmps93
  go_wp2_with fail
  go_ret
  exact ⟨rfl, Below.refl _ _⟩
/-- Reference 27. -/
theorem ref27_Is (i : Int) (w : World) : Calls Tryz.prog 45 #[.int .i64 i] w fun e w' => e = .returned (.bool (isCrew i)) ∧ Below w.heap.size w w' := by
  unfold isCrew
  by_cases h : 0 ≤ i
  · have h1 : decide (0 ≤ i) = true := by simpa using h
    go_enter Tryz.func45, Tryz.ntmps45
    go_wp2_with fail
    go_ret
    exact ⟨by simp [h], Below.refl _ _⟩
  · have h1 : decide (0 ≤ i) = false := by simpa using h
    go_enter Tryz.func45, Tryz.ntmps45
    go_wp2_with fail
    go_ret
    exact ⟨by simp [h], Below.refl _ _⟩
theorem pow_step {q n : Nat} (h : q < n) (hn : n ≤ 48) : IntKind.u64.wrap (2 * ((2 ^ q : Nat) : Int)) = ((2 ^ (q + 1) : Nat) : Int) := by
  have h1 : 2 ^ (q + 1) ≤ 2 ^ 48 := Nat.pow_le_pow_right (by decide) (by omega)
  have h2 : 2 ^ (q + 1) = 2 * 2 ^ q := by rw [Nat.pow_succ]; omega
  rw [wrap_u64s (by omega) (by omega)]
  omega
theorem ref27_bit (n : Nat) (hn : n ≤ 48) (w : World) : Calls Tryz.prog 97 #[.int .i64 n] w fun e w' => e = .returned (.int .u64 ((2 ^ n : Nat) : Int)) ∧ Below w.heap.size w w' := by
  have HP := Lib.hid (fun q (h : q < n) => pow_step h hn)
  go_enter Tryz.func97, Tryz.ntmps97
  go_wp2_with fail
  go_loopw [3, 4] (fun s i wr => ∃ q, q ≤ n ∧ i = .int .i64 q ∧ s = .int .u64 ((2 ^ q : Nat) : Int) ∧ Below w.heap.size w wr) (fun _ i _ => n - (intOf i).toNat)
  case atStart => exact ⟨0, Nat.zero_le _, rfl, rfl, Below.refl _ _⟩
  case round =>
    obtain ⟨q, hq, rfl, rfl, hB⟩ := hrel
    by_cases hlt : q < n
    · have hst := Lib.hid (HP.out q hlt)
      obtain ⟨p, hp⟩ : ∃ p, p = 2 ^ q := ⟨_, rfl⟩
      rw [← hp] at hst ⊢
      have HPq := Lib.hid hp
      clear hp
      obtain ⟨p2, hp2⟩ : ∃ p, p = 2 ^ (q + 1) := ⟨_, rfl⟩
      rw [← hp2] at hst
      have HP2 := Lib.hid hp2
      clear hp2
      go_wp2_with fail
      go_roundw
      case rel => exact ⟨q + 1, hlt, by go_num, by rw [hst.out, HP2.out], hB⟩
      case measure => simp [intOf]; omega
    · obtain rfl : q = n := by omega
      go_wp2_with fail
      go_ret
      refine ⟨?_, hB⟩
      simp
theorem ref27_Right (s : Nat) (w : World) : Calls Tryz.prog 46 #[.int .u64 s] w fun e w' => e = .returned (.bool (rightC s)) ∧ Below w.heap.size w w' := by
  have e : decide ((s : Int) < 281474976710656) = decide (s ≤ 281474976710655) := decide_eq_decide.2 (by omega)
  have HB : Hid (Calls Tryz.prog 97 #[.int .i64 48] w fun e w' => e = .returned (.int .u64 281474976710656) ∧ Below w.heap.size w w') := Lib.hid (ref27_bit 48 (by decide) w)
  unfold rightC
  rw [← e]
  clear e
  go_enter Tryz.func46, Tryz.ntmps46
  go_wp2_with fail
  refine HB.out.mono ?_
  rintro e w1 ⟨rfl, hb1⟩
  go_wp2_with fail
  go_ret
  exact ⟨rfl, hb1⟩
theorem ref_has {s n p : Nat} (hs : s < 2 ^ 64) (hp : p = 2 ^ n) : ((IntKind.u64.wrap ((s : Int) / (p : Int))).tmod 2 == 1) = hasN s n := by
  subst hp
  have e : (s : Int) / ((2 ^ n : Nat) : Int) = ((s / 2 ^ n : Nat) : Int) := (Int.natCast_ediv s (2 ^ n)).symm
  have hl : s / 2 ^ n ≤ s := Nat.div_le_self _ _
  rw [e]
  unfold hasN
  generalize s / 2 ^ n = q at hl ⊢
  rw [wrap_u64s (by omega) (by omega), Int.tmod_eq_emod_of_nonneg (by omega)]
  by_cases hc : q % 2 = 1
  · have : (q : Int) % 2 = 1 := by omega
    simp [hc, this]
  · have : (q : Int) % 2 = 0 := by omega
    simp [hc, this]
theorem ref27_Has (s : Nat) (i : Int) (hs : s < 2 ^ 64) (w : World) : Calls Tryz.prog 47 #[.int .u64 s, .int .i64 i] w fun e w' => e = .returned (.bool (hasC s i)) ∧ Below w.heap.size w w' := by
  have HC := Lib.hid (fun W => ref27_Is i W)
  unfold hasC
  cases hc : isCrew i
  · rw [hc] at HC
    clear hc
    go_enter Tryz.func47, Tryz.ntmps47
    go_wp2_with fail
    refine (HC.out w).mono ?_
    rintro e w1 ⟨rfl, hb1⟩
    go_wp2_with fail
    go_ret
    exact ⟨by simp, hb1⟩
  · rw [hc] at HC
    obtain ⟨n, rfl, hn⟩ := isCrew_nat hc
    clear hc
    have HB := Lib.hid (fun W => ref27_bit n (by omega) W)
    have hp := pow_crew hn
    have h0 := Lib.hid (fun p (h : p = 2 ^ n) => ref_has hs h)
    obtain ⟨p, hpe⟩ : ∃ p, p = 2 ^ n := ⟨_, rfl⟩
    have h1 := Lib.hid (h0.out p hpe)
    rw [← hpe] at HB hp
    have hp1 : ((p : Int) == 0) = false := by simp; omega
    clear hpe h0
    simp only [Int.toNat_natCast]
    generalize hasN s n = b at h1 ⊢
    go_enter Tryz.func47, Tryz.ntmps47
    go_wp2_with fail
    refine (HC.out w).mono ?_
    rintro e w1 ⟨rfl, hb1⟩
    go_wp2_with fail
    refine (HB.out w1).mono ?_
    rintro e w2 ⟨rfl, hb2⟩
    have B2 := Lib.hid (Below.then_ hb1 hb2)
    go_wp2_with fail
    go_ret
    refine ⟨?_, B2.out⟩
    have := h1.out
    simp [this]
theorem ref27_With (s : Nat) (i : Int) (hs : s < 2 ^ 63) (w : World) : Calls Tryz.prog 53 #[.int .u64 s, .int .i64 i] w fun e w' => e = .returned (.int .u64 (withC s i)) ∧ Below w.heap.size w w' := by
  have HC := Lib.hid (fun W => ref27_Is i W)
  have HH := Lib.hid (fun W => ref27_Has s i (by omega) W)
  unfold withC
  cases hc : isCrew i
  · rw [hc] at HC
    clear hc
    simp only [Bool.false_eq_true, if_false]
    go_enter Tryz.func53, Tryz.ntmps53
    go_wp2_with fail
    refine (HC.out w).mono ?_
    rintro e w1 ⟨rfl, hb1⟩
    go_wp2_with fail
    go_ret
    exact ⟨rfl, hb1⟩
  · have hh : hasC s i = hasN s i.toNat := by unfold hasC; rw [hc]; simp
    rw [hc] at HC
    rw [hh] at HH
    obtain ⟨n, rfl, hn⟩ := isCrew_nat hc
    clear hc hh
    simp only [if_true, Int.toNat_natCast] at HH ⊢
    have HB := Lib.hid (fun W => ref27_bit n (by omega) W)
    have hp := pow_crew hn
    cases hb : hasN s n
    · rw [hb] at HH
      have hw : Hid (IntKind.u64.wrap ((s : Int) + ((2 ^ n : Nat) : Int)) = ((s + 2 ^ n : Nat) : Int)) := Lib.hid (by rw [wrap_u64s (by omega) (by omega)]; omega)
      obtain ⟨p, hpe⟩ : ∃ p, p = 2 ^ n := ⟨_, rfl⟩
      rw [← hpe] at HB hw ⊢
      clear hpe hp hb
      simp only [Bool.false_eq_true, if_false]
      go_enter Tryz.func53, Tryz.ntmps53
      go_wp2_with fail
      refine (HC.out w).mono ?_
      rintro e w1 ⟨rfl, hb1⟩
      go_wp2_with fail
      refine (HH.out w1).mono ?_
      rintro e w2 ⟨rfl, hb2⟩
      have B2 := Lib.hid (Below.then_ hb1 hb2)
      go_wp2_with fail
      refine (HB.out w2).mono ?_
      rintro e w3 ⟨rfl, hb3⟩
      have B3 := Lib.hid (Below.then_ B2.out hb3)
      go_wp2_with fail
      go_ret
      refine ⟨?_, B3.out⟩
      have h2 := hw.out
      simp only [Array.getD_eq_getD_getElem?]
      simp [h2]
    · rw [hb] at HH
      clear hp hb HB
      simp only [if_true]
      go_enter Tryz.func53, Tryz.ntmps53
      go_wp2_with fail
      refine (HC.out w).mono ?_
      rintro e w1 ⟨rfl, hb1⟩
      go_wp2_with fail
      refine (HH.out w1).mono ?_
      rintro e w2 ⟨rfl, hb2⟩
      have B2 := Lib.hid (Below.then_ hb1 hb2)
      go_wp2_with fail
      go_ret
      exact ⟨rfl, B2.out⟩
end Go.Proofs.YtgjaopfjffncbaaGreat
/- Package letter: right letters, and their bytes. -/
namespace Go.Proofs.YtgjaopfjffncbaaGreat
open Go.ChangeShapes Go.WideShapes Go.ChangeAt Go.RowKit
set_option linter.unusedVariables false
set_option linter.unusedSimpArgs false
set_option maxRecDepth 100000

/-- A letter: epoch, sender, cover, body. -/
structure Ltr where
  e : Int
  f : Int
  c : Nat
  b : List UInt8
def ltrV (x : Ltr) : Value := .agg #[.int .i64 x.e, .int .i64 x.f, .int .u64 x.c, .string ⟨x.b.toArray⟩]
def rightL (x : Ltr) : Bool := decide (0 ≤ x.e) && hasC x.c x.f && rightC x.c && decide (x.b.length ≤ 1048576)
def LtrAt (W : World) (g : Nat) (x : Ltr) : Prop := W.heap[g]? = some (.cells #[.int .i64 x.e, .int .i64 x.f, .int .u64 x.c, .string ⟨x.b.toArray⟩] 136 (0, 0))
theorem LtrAt.below {w w' : World} {g : Nat} {x : Ltr} (h : LtrAt w g x) (hb : Below w.heap.size w w') : LtrAt w' g x := blk_below h hb
theorem LtrAt.new (w : World) (x : Ltr) : LtrAt (w.alloc (.cells #[.int .i64 x.e, .int .i64 x.f, .int .u64 x.c, .string ⟨x.b.toArray⟩] 136)) w.heap.size x := heap_alloc_new w _
set_option maxHeartbeats 1000000 in
theorem letter_Right (w : World) (x : Ltr) (hc : x.c < 2 ^ 64) : Calls Tryz.prog 144 #[ltrV x] w fun e w' => e = .returned (.bool (rightL x)) ∧ Below w.heap.size w w' := by
  obtain ⟨e, f, c, b⟩ := x
  have HH := Lib.hid (fun W => crew_Has c f hc W)
  have HR := Lib.hid (fun W => crew_Right c W)
  have HB0 : Hid (Below w.heap.size w (w.alloc (.cells #[.int .i64 e, .int .i64 f, .int .u64 c, .string ⟨b.toArray⟩] 136))) := Lib.hid (by repeat (first | with_reducible exact Below.refl _ _ | with_reducible assumption | ((with_reducible refine Below.setCell ?_ ?_ _); rotate_left; · (first | omega | exact Nat.le_refl _ | (simp <;> omega))) | (with_reducible refine Below.allocW ?_ _) | (with_reducible refine Below.drew ?_) | (with_reducible refine Below.extW ?_ _)))
  have HL0 := Lib.hid (LtrAt.new w ⟨e, f, c, b⟩)
  clear hc
  unfold ltrV rightL
  dsimp only
  have hlb : decide ((b.length : Int) ≤ 1048576) = decide (b.length ≤ 1048576) := decide_eq_decide.2 (by omega)
  rw [← hlb]
  clear hlb
  generalize hasC c f = z2 at HH ⊢
  generalize rightC c = z3 at HR ⊢
  by_cases h : 0 ≤ e
  · have hd : decide (0 ≤ e) = true := by simpa using h
    rw [hd, Bool.true_and]
    cases z2
    · rw [Bool.false_and, Bool.false_and]
      go_enter Tryz.func144, Tryz.ntmps144
      go_wp2_with fail
      refine (HH.out _).mono ?_
      rintro e1 w1 ⟨rfl, hb1⟩
      have HB1 := Lib.hid (HB0.out.trans (hb1.mono (by simp)))
      clear hb1
      go_wp2_with fail
      exact bodyPost_ret (v := .bool false) (by simp only [results, Tryz.results144]; go_simp) rfl ⟨rfl, HB1.out⟩
    · rw [Bool.true_and]
      generalize hZ : (z3 && decide ((b.length : Int) ≤ 1048576)) = Z
      have HZ := Lib.hid hZ
      clear hZ
      go_enter Tryz.func144, Tryz.ntmps144
      go_wp2_with fail
      refine (HH.out _).mono ?_
      rintro e1 w1 ⟨rfl, hb1⟩
      have HB1 := Lib.hid (HB0.out.trans (hb1.mono (by simp)))
      have HL1 := Lib.hid (HL0.out.below hb1)
      clear hb1
      have cc := blk_cell HL1.out
      have cf := blk_frozen HL1.out
      have zb := lt_of_block HL1.out
      go_wp2_with fail
      refine (HR.out _).mono ?_
      rintro e2 w2 ⟨rfl, hb2⟩
      have HB2 := Lib.hid (HB1.out.trans (hb2.mono HB1.out.size))
      have HL2 := Lib.hid (HL1.out.below hb2)
      clear hb2 cc cf zb
      have cc2 := blk_cell HL2.out
      have cf2 := blk_frozen HL2.out
      have zb2 := lt_of_block HL2.out
      cases z3
      · go_wp2_with fail
        exact bodyPost_ret (v := .bool false) (by simp only [results, Tryz.results144]; go_simp) rfl ⟨by rw [← HZ.out, Bool.false_and], HB2.out⟩
      · rw [Bool.true_and] at HZ
        go_wp2_with fail
        exact bodyPost_ret (v := .bool (decide ((b.length : Int) ≤ 1048576))) (by simp only [results, Tryz.results144]; go_simp) rfl ⟨by rw [← HZ.out], HB2.out⟩
  · have hd : decide (0 ≤ e) = false := by simpa using h
    rw [hd, Bool.false_and, Bool.false_and, Bool.false_and]
    go_enter Tryz.func144, Tryz.ntmps144
    go_wp2_with fail
    exact bodyPost_ret (v := .bool false) (by simp only [results, Tryz.results144]; go_simp) rfl ⟨rfl, HB0.out⟩
/-- A letter's text. -/
def ltrL (x : Ltr) : List Int := [x.e, x.f, (x.c : Int), (x.b.length : Int)]
def ltrT (x : Ltr) : List UInt8 := sealT ([68, 87, 76, 1] ++ putB (ltrL x) ++ x.b)
set_option maxHeartbeats 1000000 in
theorem letter_Encode_no (w : World) (x : Ltr) (hc : x.c < 2 ^ 64) (h : rightL x = false) : Calls Tryz.prog 90 #[ltrV x] w fun e w' => e = .returned (.tuple #[.string ⟨#[]⟩, .int .i64 2]) ∧ Below w.heap.size w w' := by
  have HR := Lib.hid (fun W => letter_Right W x hc)
  simp only [h] at HR
  have HB0 : Hid (Below w.heap.size w (w.alloc (.cells #[.int .i64 x.e, .int .i64 x.f, .int .u64 x.c, .string ⟨x.b.toArray⟩] 136))) := Lib.hid (by repeat (first | with_reducible exact Below.refl _ _ | with_reducible assumption | ((with_reducible refine Below.setCell ?_ ?_ _); rotate_left; · (first | omega | exact Nat.le_refl _ | (simp <;> omega))) | (with_reducible refine Below.allocW ?_ _) | (with_reducible refine Below.drew ?_) | (with_reducible refine Below.extW ?_ _)))
  clear hc h
  obtain ⟨e, f, c, b⟩ := x
  unfold ltrV at HR ⊢
  dsimp only at HR HB0 ⊢
  go_enter Tryz.func90, Tryz.ntmps90
  go_wp2_with fail
  refine (HR.out _).mono ?_
  rintro e1 w1 ⟨rfl, hb1⟩
  have HB1 := Lib.hid (HB0.out.trans (hb1.mono (by simp)))
  clear hb1
  go_wp2_with fail
  all_goals exact bodyPost_ret (v := .tuple #[.string ⟨#[]⟩, .int .i64 2]) (by simp only [results, Tryz.results90]; go_simp) rfl ⟨rfl, HB1.out⟩
set_option maxHeartbeats 2000000 in
theorem letter_Encode (w : World) (x : Ltr) (h : rightL x = true) (he : i64 x.e) (hf : i64 x.f) : Calls Tryz.prog 90 #[ltrV x] w fun e w' => e = .returned (.tuple #[.string ⟨(ltrT x).toArray⟩, .int .i64 0]) ∧ Below w.heap.size w w' := by
  have hs := h
  simp only [rightL, hasC, rightC, isCrew, Bool.and_eq_true, decide_eq_true_eq] at hs
  obtain ⟨⟨⟨h1, ⟨h2, _⟩⟩, h3⟩, h4⟩ := hs
  have HR := Lib.hid (fun W => letter_Right W x (by omega))
  simp only [h] at HR
  have HA0 := Lib.hid (LtrAt.new w x)
  have HB0 : Hid (Below w.heap.size w (w.alloc (.cells #[.int .i64 x.e, .int .i64 x.f, .int .u64 x.c, .string ⟨x.b.toArray⟩] 136))) := Lib.hid (by repeat (first | with_reducible exact Below.refl _ _ | with_reducible assumption | ((with_reducible refine Below.setCell ?_ ?_ _); rotate_left; · (first | omega | exact Nat.le_refl _ | (simp <;> omega))) | (with_reducible refine Below.allocW ?_ _) | (with_reducible refine Below.drew ?_) | (with_reducible refine Below.extW ?_ _)))
  have hal : (ltrL x).all (fun y => decide (0 ≤ y)) = true := by simp [ltrL]; omega
  have hi : ∀ y ∈ ltrL x, i64 y := by
    intro y hy
    simp only [ltrL, List.mem_cons, List.not_mem_nil, or_false] at hy
    rcases hy with rfl | rfl | rfl | rfl
    · exact he
    · exact hf
    · constructor <;> omega
    · constructor <;> omega
  have HP : Hid (∀ W, Calls Tryz.prog 141 #[.slice (some ⟨W.heap.size, 0, none⟩) 4 4] (W.alloc (.cells #[.int .i64 x.e, .int .i64 x.f, .int .i64 (x.c : Int), .int .i64 (x.b.length : Int)] 3)) fun e w' => e = .returned (.tuple #[.string ⟨(putB (ltrL x)).toArray⟩, .int .i64 0]) ∧ Below W.heap.size W w') := Lib.hid (fun W => by
    have h5 := vary_Put _ _ _ (ltrL x) (Own.lit W encZ (ltrL x) 3 (Nat.le_refl _) (by simp [ltrL, maxLen])) hi (by simp [ltrL]) (by simp [ltrL])
    refine h5.mono ?_
    rintro e w' ⟨⟨t, he, ht⟩, hb⟩
    rw [if_pos hal] at he
    exact ⟨by rw [he, ht hal], ((Below.refl W.heap.size W).alloc (Nat.le_refl _) _).trans (hb.mono (by simp))⟩)
  have hcw : wrap64 (x.c : Int) = (x.c : Int) := by unfold wrap64; omega
  have hpl : (putB (ltrL x)).length ≤ 36 := putB_len (L := ltrL x) fun y hy => (hi y hy).2
  have hlt : ([68, 87, 76, 1] ++ putB (ltrL x) ++ x.b : List UInt8).length ≤ 8000000 := by
    simp only [List.length_append, List.length_cons, List.length_nil]
    omega
  have HSe := Lib.hid (fun W => seal_Seal W ([68, 87, 76, 1] ++ putB (ltrL x) ++ x.b) hlt)
  have hc1 := fun W => run_string_add_lists (P := Tryz.prog) W [68, 87, 76, 1] (putB (ltrL x)) (by simp) (by omega)
  have hc2 := fun W => run_string_add_lists (P := Tryz.prog) W ([68, 87, 76, 1] ++ putB (ltrL x)) x.b (by simp only [List.length_append, List.length_cons, List.length_nil]; omega) (by omega)
  unfold ltrT
  generalize hG : sealT ([68, 87, 76, 1] ++ putB (ltrL x) ++ x.b) = G at HSe ⊢
  clear hG hlt hi hal
  generalize hU : [68, 87, 76, 1] ++ putB (ltrL x) = U at hc1 hc2 HSe
  generalize putB (ltrL x) = V at HP hc1 hpl
  generalize hY : U ++ x.b = Y at hc2 HSe
  clear hU hY hpl he hf h h1 h2 h3
  obtain ⟨e, f, c, b⟩ := x
  unfold ltrV at HR ⊢
  dsimp only at *
  go_enter Tryz.func90, Tryz.ntmps90
  go_wp2_with fail
  refine (HR.out _).mono ?_
  rintro e1 w1 ⟨rfl, hb1⟩
  have HB1 := Lib.hid (HB0.out.trans (hb1.mono (by simp)))
  have HA1 := Lib.hid (HA0.out.below hb1)
  clear hb1
  have cc := blk_cell HA1.out
  have cf := blk_frozen HA1.out
  have zb := lt_of_block HA1.out
  go_wp2_with fail
  refine (HP.out _).mono ?_
  rintro e2 w2 ⟨rfl, hb2⟩
  have HB2 := Lib.hid (HB1.out.trans (hb2.mono HB1.out.size))
  have HA2 := Lib.hid (HA1.out.below hb2)
  clear hb2 cc cf zb
  have cc2 := blk_cell HA2.out
  have cf2 := blk_frozen HA2.out
  have zb2 := lt_of_block HA2.out
  go_wp2_with fail
  refine (HSe.out _).mono ?_
  rintro e3 w3 ⟨rfl, hb3⟩
  have HB3 := Lib.hid (HB2.out.trans (hb3.mono HB2.out.size))
  clear hb3
  go_wp2_with fail
  all_goals exact bodyPost_ret (v := .tuple #[.string ⟨G.toArray⟩, .int .i64 0]) (by simp only [results, Tryz.results90]; go_simp) rfl ⟨rfl, HB3.out⟩
end Go.Proofs.YtgjaopfjffncbaaGreat
/- Package sensor: a sensor in memory, and what it tells of itself. -/
namespace Go.Proofs.YtgjaopfjffncbaaGreat
open Go.ChangeShapes Go.WideShapes Go.ChangeAt Go.RowKit
set_option linter.unusedVariables false
set_option linter.unusedSimpArgs false
set_option maxRecDepth 100000

/-- A place: itself, its children, how long it waits. -/
structure Plc where
  me : Int
  kids : Nat
  wait : Int
/-- A sensor beside its digest. -/
structure Sen where
  l : Int
  k : Int
  kd : Int
  p : Plc
  ep : Int
  ti : Int
  heard : Nat
  cover : Nat
  sent : Bool
def plcV (p : Plc) : Value := .agg #[.int .i64 p.me, .int .u64 p.kids, .int .i64 p.wait]
def SenAt (W : World) (g dg : Nat) (s : Sen) : Prop := W.heap[g]? = some (.cells #[.int .i64 s.l, .int .i64 s.k, .int .i64 s.kd, .int .i64 s.p.me, .int .u64 s.p.kids, .int .i64 s.p.wait, .int .i64 s.ep, .int .i64 s.ti, .int .u64 s.heard, .int .u64 s.cover, .bool s.sent, .pointer (some ⟨dg, 0, none⟩)] 100 (0, 0))
theorem SenAt.below {w w' : World} {g dg : Nat} {s : Sen} (h : SenAt w g dg s) (hb : Below w.heap.size w w') : SenAt w' g dg s := blk_below h hb
theorem sensor_Epoch (w : World) (g dg : Nat) (s : Sen) (h : SenAt w g dg s) : Calls Tryz.prog 49 #[.pointer (some ⟨g, 0, none⟩)] w fun e w' => e = .returned (.int .i64 s.ep) ∧ Below w.heap.size w w' := by
  have cc := blk_cell h
  have cf := blk_frozen h
  have zb := lt_of_block h
  go_enter Tryz.func49, Tryz.ntmps49
  go_wp2_with fail
  exact bodyPost_ret (v := .int .i64 s.ep) (by simp only [results, Tryz.results49]; go_simp) rfl ⟨rfl, (by repeat (first | with_reducible exact Below.refl _ _ | with_reducible assumption | ((with_reducible refine Below.setCell ?_ ?_ _); rotate_left; · (first | omega | exact Nat.le_refl _ | (simp <;> omega))) | (with_reducible refine Below.allocW ?_ _) | (with_reducible refine Below.drew ?_) | (with_reducible refine Below.extW ?_ _)))⟩
theorem sensor_Heard (w : World) (g dg : Nat) (s : Sen) (h : SenAt w g dg s) : Calls Tryz.prog 31 #[.pointer (some ⟨g, 0, none⟩)] w fun e w' => e = .returned (.int .u64 s.heard) ∧ Below w.heap.size w w' := by
  have cc := blk_cell h
  have cf := blk_frozen h
  have zb := lt_of_block h
  go_enter Tryz.func31, Tryz.ntmps31
  go_wp2_with fail
  exact bodyPost_ret (v := .int .u64 s.heard) (by simp only [results, Tryz.results31]; go_simp) rfl ⟨rfl, (by repeat (first | with_reducible exact Below.refl _ _ | with_reducible assumption | ((with_reducible refine Below.setCell ?_ ?_ _); rotate_left; · (first | omega | exact Nat.le_refl _ | (simp <;> omega))) | (with_reducible refine Below.allocW ?_ _) | (with_reducible refine Below.drew ?_) | (with_reducible refine Below.extW ?_ _)))⟩
theorem sensor_Cover (w : World) (g dg : Nat) (s : Sen) (h : SenAt w g dg s) : Calls Tryz.prog 30 #[.pointer (some ⟨g, 0, none⟩)] w fun e w' => e = .returned (.int .u64 s.cover) ∧ Below w.heap.size w w' := by
  have cc := blk_cell h
  have cf := blk_frozen h
  have zb := lt_of_block h
  go_enter Tryz.func30, Tryz.ntmps30
  go_wp2_with fail
  exact bodyPost_ret (v := .int .u64 s.cover) (by simp only [results, Tryz.results30]; go_simp) rfl ⟨rfl, (by repeat (first | with_reducible exact Below.refl _ _ | with_reducible assumption | ((with_reducible refine Below.setCell ?_ ?_ _); rotate_left; · (first | omega | exact Nat.le_refl _ | (simp <;> omega))) | (with_reducible refine Below.allocW ?_ _) | (with_reducible refine Below.drew ?_) | (with_reducible refine Below.extW ?_ _)))⟩
theorem sensor_Ticks (w : World) (g dg : Nat) (s : Sen) (h : SenAt w g dg s) : Calls Tryz.prog 50 #[.pointer (some ⟨g, 0, none⟩)] w fun e w' => e = .returned (.int .i64 s.ti) ∧ Below w.heap.size w w' := by
  have cc := blk_cell h
  have cf := blk_frozen h
  have zb := lt_of_block h
  go_enter Tryz.func50, Tryz.ntmps50
  go_wp2_with fail
  exact bodyPost_ret (v := .int .i64 s.ti) (by simp only [results, Tryz.results50]; go_simp) rfl ⟨rfl, (by repeat (first | with_reducible exact Below.refl _ _ | with_reducible assumption | ((with_reducible refine Below.setCell ?_ ?_ _); rotate_left; · (first | omega | exact Nat.le_refl _ | (simp <;> omega))) | (with_reducible refine Below.allocW ?_ _) | (with_reducible refine Below.drew ?_) | (with_reducible refine Below.extW ?_ _)))⟩
theorem sensor_Sent (w : World) (g dg : Nat) (s : Sen) (h : SenAt w g dg s) : Calls Tryz.prog 41 #[.pointer (some ⟨g, 0, none⟩)] w fun e w' => e = .returned (.bool s.sent) ∧ Below w.heap.size w w' := by
  have cc := blk_cell h
  have cf := blk_frozen h
  have zb := lt_of_block h
  go_enter Tryz.func41, Tryz.ntmps41
  go_wp2_with fail
  exact bodyPost_ret (v := .bool s.sent) (by simp only [results, Tryz.results41]; go_simp) rfl ⟨rfl, (by repeat (first | with_reducible exact Below.refl _ _ | with_reducible assumption | ((with_reducible refine Below.setCell ?_ ?_ _); rotate_left; · (first | omega | exact Nat.le_refl _ | (simp <;> omega))) | (with_reducible refine Below.allocW ?_ _) | (with_reducible refine Below.drew ?_) | (with_reducible refine Below.extW ?_ _)))⟩
theorem sensor_Place (w : World) (g dg : Nat) (s : Sen) (h : SenAt w g dg s) : Calls Tryz.prog 48 #[.pointer (some ⟨g, 0, none⟩)] w fun e w' => e = .returned (plcV s.p) ∧ Below w.heap.size w w' := by
  unfold plcV
  have cc := blk_cell h
  have cf := blk_frozen h
  have zb := lt_of_block h
  go_enter Tryz.func48, Tryz.ntmps48
  go_wp2_with fail
  exact bodyPost_ret (v := .agg #[.int .i64 s.p.me, .int .u64 s.p.kids, .int .i64 s.p.wait]) (by simp only [results, Tryz.results48]; go_simp) rfl ⟨rfl, (by repeat (first | with_reducible exact Below.refl _ _ | with_reducible assumption | ((with_reducible refine Below.setCell ?_ ?_ _); rotate_left; · (first | omega | exact Nat.le_refl _ | (simp <;> omega))) | (with_reducible refine Below.allocW ?_ _) | (with_reducible refine Below.drew ?_) | (with_reducible refine Below.extW ?_ _)))⟩
end Go.Proofs.YtgjaopfjffncbaaGreat
/- Package crew: a set of one sensor. -/
namespace Go.Proofs.YtgjaopfjffncbaaGreat
open Go.ChangeShapes Go.WideShapes Go.ChangeAt Go.RowKit
set_option linter.unusedVariables false
set_option linter.unusedSimpArgs false
set_option maxRecDepth 100000

set_option maxHeartbeats 1000000 in
theorem crew_Of1 (w : World) (base : Nat) (v : Value) (i : Int) (ho : Own w base 3 encZ v [i]) : Calls Tryz.prog 92 #[v] w fun e w' => e = .returned (.tuple #[.int .u64 (if isCrew i = true then withC 0 i else 0 : Nat), .bool (isCrew i)]) ∧ Below w.heap.size w w' := by
  obtain ⟨A, c, rfl, _⟩ := ho.form
  have HO := Lib.hid (ho.base_le (Nat.zero_le _))
  clear ho
  go_enter Tryz.func92, Tryz.ntmps92
  go_wp2_with fail
  go_loopw [4, 9] (fun u j wr => ∃ q : Nat, j = .int .i64 q ∧ q ≤ 1 ∧ u = .int .u64 ((if q = 0 then 0 else withC 0 i : Nat) : Int) ∧ (q = 1 → isCrew i = true) ∧ Below w.heap.size w wr) (fun _ j _ => 1 - (intOf j).toNat)
  case atStart => exact ⟨0, rfl, by omega, rfl, by omega, Below.refl _ _⟩
  case round =>
    obtain ⟨q, rfl, hq, rfl, hcr, hB⟩ := hrel
    have HB := Lib.hid hB
    have HR := Lib.hid (HO.out.below hB)
    have sz := hB.size
    clear hB
    by_cases hlt : q = 0
    · subst hlt
      obtain ⟨b, off, rfl, hb, hc⟩ := HR.out.sl.at_ (k := 0) (by simp)
      have d0 := hc 0 (.int .i64 i) rfl
      simp only [Nat.zero_mul, Nat.add_zero] at d0
      rw [if_pos rfl]
      clear hc hcr
      go_wp2_with fail
      refine (crew_is i _).mono ?_
      rintro e w1 ⟨rfl, hb1⟩
      have HB1 := Lib.hid (HB.out.trans (hb1.mono sz))
      clear hb1
      cases hi : isCrew i
      · go_wp2_with fail
        all_goals exact bodyPost_ret (v := .tuple #[.int .u64 0, .bool false]) (by simp only [results, Tryz.results92]; go_simp) rfl ⟨by simp [hi], HB1.out⟩
      · go_wp2_with fail
        refine (crew_With 0 i (by decide) _).mono ?_
        rintro e w2 ⟨rfl, hb2⟩
        have HB2 := Lib.hid (HB1.out.trans (hb2.mono HB1.out.size))
        clear hb2
        go_wp2_with fail
        go_roundw
        case rel => exact ⟨1, by go_num, by omega, rfl, fun _ => hi, HB2.out⟩
        case measure => simp [intOf]
    · obtain rfl : q = 1 := by omega
      have hi := hcr rfl
      rw [if_neg (by decide)]
      go_wp2_with fail
      all_goals exact bodyPost_ret (v := .tuple #[.int .u64 (withC 0 i : Nat), .bool true]) (by simp only [results, Tryz.results92]; go_simp) rfl ⟨by simp [hi], HB.out⟩
end Go.Proofs.YtgjaopfjffncbaaGreat
/- Package sensor: right places. -/
namespace Go.Proofs.YtgjaopfjffncbaaGreat
open Go.ChangeShapes Go.WideShapes Go.ChangeAt Go.RowKit
set_option linter.unusedVariables false
set_option linter.unusedSimpArgs false
set_option maxRecDepth 100000

def PlcAt (W : World) (g : Nat) (p : Plc) : Prop := W.heap[g]? = some (.cells #[.int .i64 p.me, .int .u64 p.kids, .int .i64 p.wait] 34 (0, 0))
theorem PlcAt.below {w w' : World} {g : Nat} {p : Plc} (h : PlcAt w g p) (hb : Below w.heap.size w w') : PlcAt w' g p := blk_below h hb
theorem PlcAt.new (w : World) (p : Plc) : PlcAt (w.alloc (.cells #[.int .i64 p.me, .int .u64 p.kids, .int .i64 p.wait] 34)) w.heap.size p := heap_alloc_new w _
def rightS (p : Plc) : Bool := isCrew p.me && rightC p.kids && !hasC p.kids p.me && decide (1 ≤ p.wait) && decide (p.wait ≤ 1048576)
set_option maxHeartbeats 2000000 in
theorem sensor_right (w : World) (p : Plc) (hk : p.kids < 2 ^ 64) : Calls Tryz.prog 43 #[plcV p] w fun e w' => e = .returned (.bool (rightS p)) ∧ Below w.heap.size w w' := by
  have HA0 := Lib.hid (PlcAt.new w p)
  have HB0 : Hid (Below w.heap.size w (w.alloc (.cells #[.int .i64 p.me, .int .u64 p.kids, .int .i64 p.wait] 34))) := Lib.hid (by repeat (first | with_reducible exact Below.refl _ _ | with_reducible assumption | ((with_reducible refine Below.setCell ?_ ?_ _); rotate_left; · (first | omega | exact Nat.le_refl _ | (simp <;> omega))) | (with_reducible refine Below.allocW ?_ _) | (with_reducible refine Below.drew ?_) | (with_reducible refine Below.extW ?_ _)))
  have HR := Lib.hid (fun W => crew_Right p.kids W)
  have HH := Lib.hid (fun W => crew_Has p.kids p.me hk W)
  have HO : Hid (∀ W n, W.heap.size = n → Calls Tryz.prog 92 #[.slice (some ⟨n, 0, none⟩) 1 1] (W.alloc (.cells #[.int .i64 p.me] 3)) fun e w' => e = .returned (.tuple #[.int .u64 (if isCrew p.me = true then withC 0 p.me else 0 : Nat), .bool (isCrew p.me)]) ∧ Below W.heap.size W w') := Lib.hid (fun W n hn => by
    subst hn
    refine (crew_Of1 _ _ _ p.me (Own.lit W encZ [p.me] 3 (Nat.le_refl _) (by simp [maxLen]))).mono ?_
    rintro e w' ⟨he, hb⟩
    exact ⟨he, ((Below.refl W.heap.size W).alloc (Nat.le_refl _) _).trans (hb.mono (by simp))⟩)
  generalize hZ : rightS p = Z
  have HZ := Lib.hid hZ
  clear hZ hk
  generalize hU : (if isCrew p.me = true then withC 0 p.me else 0) = U at HO
  clear hU
  obtain ⟨me, kids, wait⟩ := p
  unfold plcV
  unfold rightS at HZ
  dsimp only at *
  generalize isCrew me = z1 at *
  generalize rightC kids = z2 at *
  generalize hasC kids me = z3 at *
  go_enter Tryz.func43, Tryz.ntmps43
  go_wp2_with fail
  refine (HO.out _ _ (by simp)).mono ?_
  rintro e1 w1 ⟨rfl, hb1⟩
  have HB1 := Lib.hid (HB0.out.trans (hb1.mono (by simp)))
  have HA1 := Lib.hid (HA0.out.below hb1)
  clear hb1
  have cc := blk_cell HA1.out
  have cf := blk_frozen HA1.out
  have zb := lt_of_block HA1.out
  cases z1
  · go_wp2_with fail
    exact bodyPost_ret (v := .bool false) (by simp only [results, Tryz.results43]; go_simp) rfl ⟨by rw [← HZ.out]; rfl, HB1.out⟩
  go_wp2_with fail
  refine (HR.out _).mono ?_
  rintro e2 w2 ⟨rfl, hb2⟩
  have HB2 := Lib.hid (HB1.out.trans (hb2.mono HB1.out.size))
  have HA2 := Lib.hid (HA1.out.below hb2)
  clear hb2 cc cf zb
  have cc2 := blk_cell HA2.out
  have cf2 := blk_frozen HA2.out
  have zb2 := lt_of_block HA2.out
  cases z2
  · go_wp2_with fail
    exact bodyPost_ret (v := .bool false) (by simp only [results, Tryz.results43]; go_simp) rfl ⟨by rw [← HZ.out]; rfl, HB2.out⟩
  go_wp2_with fail
  refine (HH.out _).mono ?_
  rintro e3 w3 ⟨rfl, hb3⟩
  have HB3 := Lib.hid (HB2.out.trans (hb3.mono HB2.out.size))
  have HA3 := Lib.hid (HA2.out.below hb3)
  clear hb3 cc2 cf2 zb2
  have cc3 := blk_cell HA3.out
  have cf3 := blk_frozen HA3.out
  have zb3 := lt_of_block HA3.out
  cases z3
  · by_cases h1 : 1 ≤ wait
    · have hd : decide (1 ≤ wait) = true := by simpa using h1
      rw [hd] at HZ
      go_wp2_with fail
      exact bodyPost_ret (v := .bool (decide (wait ≤ 1048576))) (by simp only [results, Tryz.results43]; go_simp) rfl ⟨by rw [← HZ.out]; rfl, HB3.out⟩
    · have hd : decide (1 ≤ wait) = false := by simpa using h1
      rw [hd] at HZ
      go_wp2_with fail
      exact bodyPost_ret (v := .bool false) (by simp only [results, Tryz.results43]; go_simp) rfl ⟨by rw [← HZ.out]; rfl, HB3.out⟩
  · go_wp2_with fail
    exact bodyPost_ret (v := .bool false) (by simp only [results, Tryz.results43]; go_simp) rfl ⟨by rw [← HZ.out]; rfl, HB3.out⟩
end Go.Proofs.YtgjaopfjffncbaaGreat
/- Package dense: Snap, Get; what the footprint is made of. -/
namespace Go.Proofs.YtgjaopfjffncbaaGreat
open Go.ChangeShapes Go.WideShapes Go.ChangeAt Go.RowKit
set_option linter.unusedVariables false

/-- The nodes below a number. -/
def belowR (r : List Nd) (k : Int) : List Nd := r.filter fun x => decide (x.1 < k)
theorem belowR_zero {r : List Nd} (hr : Roll r) : belowR r 0 = [] := by
  unfold belowR
  rw [List.filter_eq_nil_iff]
  intro x hx
  have := (hr.2 x hx).1
  simp; omega
theorem belowR_all {r : List Nd} {k : Int} (h : ∀ x ∈ r, x.1 < k) : belowR r k = r := by
  unfold belowR
  rw [List.filter_eq_self]
  intro x hx
  simpa using h x hx
theorem belowR_succ {r : List Nd} (hr : Roll r) (k : Int) : belowR r (k + 1) = belowR r k ++ if 0 < getR r k then [(k, getR r k)] else [] := by
  induction r with
  | nil => simp [belowR, getR]
  | cons x r ih =>
    have ih := ih hr.tail
    have hh := hr.head
    have hx := hr.2 x (by simp)
    unfold belowR at ih ⊢
    by_cases h1 : x.1 < k
    · rw [List.filter_cons, if_pos (by simp; omega), List.filter_cons, if_pos (by simpa using h1), ih]
      have e2 : getR (x :: r) k = getR r k := by simp only [getR]; rw [if_neg (by omega)]
      rw [e2]
      rfl
    · have e0 : r.filter (fun y => decide (y.1 < k)) = [] := by
        rw [List.filter_eq_nil_iff]; intro y hy; have := hh y hy; simp; omega
      have e1 : r.filter (fun y => decide (y.1 < k + 1)) = [] := by
        rw [List.filter_eq_nil_iff]; intro y hy; have := hh y hy; simp; omega
      by_cases h2 : x.1 = k
      · rw [List.filter_cons, if_pos (by simp; omega), List.filter_cons, if_neg (by simp; omega), e0, e1]
        have e2 : getR (x :: r) k = x.2 := by simp only [getR]; rw [if_pos h2]
        rw [e2, if_pos (by omega)]
        simp [← h2]
      · rw [List.filter_cons, if_neg (by simp; omega), List.filter_cons, if_neg (by simp; omega), e0, e1]
        have e2 : getR (x :: r) k = 0 := by simp only [getR]; rw [if_neg h2, getR_none (fun y hy => by have := hh y hy; omega)]
        rw [e2]
        simp
theorem belowR_len (r : List Nd) (k : Int) : (belowR r k).length ≤ r.length := List.length_filter_le _ _
theorem belowR_le {r : List Nd} (hr : Roll r) (k : Nat) : (belowR r k).length ≤ k := by
  induction k with
  | zero => simp [belowR_zero hr]
  | succ k ih =>
    have := belowR_succ hr (k : Int)
    push_cast
    rw [this, List.length_append]
    split
    · simp; omega
    · simp; omega
theorem Fits.len {l : Nat} {r : List Nd} (h : Fits l r) : r.length ≤ 2 * 2 ^ l := by
  have h1 := belowR_le h.roll (2 * 2 ^ l)
  rw [belowR_all (fun x hx => by have := h.lt x hx; push_cast; exact this)] at h1
  exact h1

theorem DenseAt.typed {w : World} {g l : Nat} {r : List Nd} {F : Nat → Prop} (h : DenseAt w g l r F) : ∀ b, F b → TypeAt w b 218 ∨ TypeAt w b 3 := by
  obtain ⟨v, C, hh, ho, hl, hc, rfl⟩ := h
  rintro b (rfl | hb)
  · exact .inl (.of hh)
  · rcases ho with ⟨rfl, _⟩ | ⟨g1, o1, c1, u1, rfl, _, hh1, _⟩
    · cases hb
    · cases hb; exact .inr (.of hh1)

set_option maxRecDepth 100000 in
theorem dense_Snap (w : World) (g l : Nat) (r : List Nd) (F : Nat → Prop) (h : DenseAt w g l r F) (hf : Fits l r) (h2 : l ≤ 16) : Calls Tryz.prog 109 #[.pointer (some ⟨g, 0, none⟩)] w fun e w' =>
    ∃ v, e = .returned v ∧ Own w' w.heap.size 115 encN v r ∧ Below w.heap.size w w' := by
  obtain ⟨v, C, hh, ho, hl, hcc, rfl⟩ := h
  have h5 : 2 ^ l ≤ 65536 := by have := Nat.pow_le_pow_right (n := 2) (by decide) h2; simpa using this
  have hpos : 0 < 2 ^ l := Nat.two_pow_pos l
  obtain ⟨b, off, cap, rfl, hcap⟩ := own_at0 ho (by omega)
  have hS := ho.slT
  have cc := blk_cell hh
  have zg := lt_of_block hh
  have zb := (ho.lt b rfl).2
  have hCl : C.length ≤ 131072 := by omega
  have hlen := len_le_sum hf.roll
  have hsum := hf.sum
  have HS := Lib.hid hS
  have HC := Lib.hid hcc
  have HL := Lib.hid hl
  have HR := Lib.hid hf
  clear hh ho hS hcc hl
  go_enter Tryz.func109, Tryz.ntmps109
  go_wp2_with fail
  go_loopw [3, 13] (fun v i wr => ∃ k : Nat, k ≤ C.length ∧ i = .int .i64 k ∧ Below w.heap.size w wr ∧ Own wr w.heap.size 115 encN v (belowR r k)) (fun _ i _ => C.length - (intOf i).toNat)
  case atStart => exact ⟨0, Nat.zero_le _, rfl, (by repeat (first | with_reducible exact Below.refl _ _ | with_reducible assumption | ((with_reducible refine Below.setCell ?_ ?_ _); rotate_left; · (first | omega | exact Nat.le_refl _ | (simp <;> omega))) | (with_reducible refine Below.allocW ?_ _) | (with_reducible refine Below.drew ?_) | (with_reducible refine Below.extW ?_ _))), by have := belowR_zero HR.out.roll; simp only [Int.natCast_zero]; rw [this]; exact Own.nil _ _ _ _⟩
  case round =>
    obtain ⟨k, hk, rfl, hB, hown⟩ := hrel
    have HO := Lib.hid hown
    clear hown
    have hs := hB.size
    by_cases hlt : k < C.length
    · have hck := HC.out k hlt
      rw [List.getElem?_eq_getElem hlt] at hck
      injection hck with hck
      have hcell := (hB.cell (p := ⟨b, off + k, none⟩) zb).trans (by have := HS.out.cell_at hlt 0 (.int .i64 C[k]) rfl; simpa using this)
      have HS1 := Lib.hid (belowR_succ HR.out.roll (k : Int))
      rw [hck] at hcell
      have hkl := belowR_le HR.out.roll k
      generalize getR r k = n at hcell HS1
      by_cases hn : 0 < n
      · have HS2 := Lib.hid (show belowR r ((k : Int) + 1) = belowR r k ++ [((k : Int), n)] by rw [HS1.out, if_pos hn])
        clear hck
        go_wp2_with ((at_builtin; refine wpList_push tyN rfl _ _ rfl encN wr w.heap.size u3 _ rfl HO.out ((k : Int), n) (by go_simp) rfl ?c1 ?c2 ?c3 ?c4))
        case c1 => omega
        case c2 => simp only [maxLen]; omega
        case c3 => exact hs
        case c4 =>
          intro v' w2 hown2 hgrow _ hlies hb2 _
          go_wp2_with fail
          go_roundw
          case rel => exact ⟨k + 1, by omega, by go_num, Below.trans hB hb2, by push_cast; rw [HS2.out]; exact hown2⟩
          case measure => simp [intOf]; omega
      · have HS2 := Lib.hid (show belowR r ((k : Int) + 1) = belowR r k by rw [HS1.out, if_neg hn]; simp)
        clear hck
        go_wp2_with fail
        go_roundw
        case rel => exact ⟨k + 1, by omega, by go_num, hB, by push_cast; rw [HS2.out]; exact HO.out⟩
        case measure => simp [intOf]; omega
    · obtain rfl : k = C.length := by omega
      have he : belowR r (C.length : Nat) = r := belowR_all fun x hx => by have := HR.out.lt x hx; rw [HL.out]; push_cast; exact this
      rw [he] at HO
      go_wp2_with fail
      go_ret
      exact ⟨_, rfl, HO.out, hB⟩
end Go.Proofs.YtgjaopfjffncbaaGreat
/- A table that is looked through: what is where. No program in sight. -/
namespace Go.Proofs.YtgjaopfjffncbaaGreat
set_option linter.unusedVariables false

/-- The slot at which looking begins. -/
def homeOf (b : Nat) (id : Int) : Nat := (id.toNat * 11400714819323198485 % 18446744073709551616) / 2 ^ (64 - b)
theorem homeOf_lt {b : Nat} (h : b ≤ 64) (id : Int) : homeOf b id < 2 ^ b := by
  unfold homeOf
  apply Nat.div_lt_of_lt_mul
  rw [← Nat.pow_add]
  have : 64 - b + b = 64 := by omega
  rw [this]
  exact Nat.mod_lt _ (by decide)
def full (x : Nd) : Bool := decide (x.2 ≠ 0)
/-- The slot so many steps on. -/
def step (n h d : Nat) : Nat := (h + d) % n
/-- Does looking for a number end at a slot? -/
def stopAt (S : List Nd) (id : Int) (i : Nat) : Prop := ∀ x, S[i]? = some x → x.2 = 0 ∨ x.1 = id
/-- Looking for a number ends here, d steps from home. -/
structure LookAt (S : List Nd) (b : Nat) (id : Int) (i d : Nat) : Prop where
  at_ : i = step (2 ^ b) (homeOf b id) d
  lt : d < 2 ^ b
  stop : stopAt S id i
  way : ∀ d' < d, ¬ stopAt S id (step (2 ^ b) (homeOf b id) d')
/-- The table S of 2^b slots has the nodes m, in whatever order. -/
structure PInv (b : Nat) (S m : List Nd) : Prop where
  len : S.length = 2 ^ b
  perm : (S.filter full).Perm m
  ids : (m.map (·.1)).Nodup
  pos : ∀ x ∈ m, 1 ≤ x.2
  reach : ∀ i x, S[i]? = some x → x.2 ≠ 0 → ∃ d, d < 2 ^ b ∧ i = step (2 ^ b) (homeOf b x.1) d ∧ ∀ d' < d, ∀ y, S[step (2 ^ b) (homeOf b x.1) d']? = some y → y.2 ≠ 0

theorem step_inj {n h d d' : Nat} (hd : d < n) (hd' : d' < n) (h1 : step n h d = step n h d') : d = d' := by
  unfold step at h1
  have := Nat.mod_lt (h + d) (show 0 < n by omega)
  have e1 := Nat.div_add_mod (h + d) n
  have e2 := Nat.div_add_mod (h + d') n
  rw [h1] at e1
  have h3 : n * ((h + d) / n) + d' = n * ((h + d') / n) + d := by omega
  rcases Nat.lt_trichotomy ((h + d) / n) ((h + d') / n) with hl | he | hl
  · have := Nat.mul_le_mul_left n (Nat.succ_le_of_lt hl)
    rw [Nat.mul_succ] at this
    omega
  · rw [he] at h3; omega
  · have := Nat.mul_le_mul_left n (Nat.succ_le_of_lt hl)
    rw [Nat.mul_succ] at this
    omega
theorem step_lt {n h d : Nat} (hn : 0 < n) : step n h d < n := Nat.mod_lt _ hn
/-- Each slot is so many steps from another one. -/
theorem step_onto {n h i : Nat} (hi : i < n) (hh : h < n) : ∃ d, d < n ∧ i = step n h d := by
  unfold step
  by_cases hle : h ≤ i
  · exact ⟨i - h, by omega, by rw [show h + (i - h) = i by omega, Nat.mod_eq_of_lt hi]⟩
  · exact ⟨n - h + i, by omega, by rw [show h + (n - h + i) = i + n by omega, Nat.add_mod_right, Nat.mod_eq_of_lt hi]⟩

theorem mem_getR {m : List Nd} (h : (m.map (·.1)).Nodup) {x : Nd} (hx : x ∈ m) : getR m x.1 = x.2 := by
  induction m with
  | nil => simp at hx
  | cons y m ih =>
    rw [List.map_cons, List.nodup_cons] at h
    simp only [getR]
    rcases List.mem_cons.1 hx with rfl | hx
    · rw [if_pos rfl]
    · rw [if_neg]
      · exact ih h.2 hx
      · intro he
        exact h.1 (by rw [he]; exact List.mem_map_of_mem hx)
theorem getR_mem' {m : List Nd} {id : Int} (h : getR m id ≠ 0) : (id, getR m id) ∈ m := by
  induction m with
  | nil => simp [getR] at h
  | cons y m ih =>
    simp only [getR] at h ⊢
    by_cases hy : y.1 = id
    · rw [if_pos hy]; subst hy; simp
    · rw [if_neg hy] at h ⊢
      exact List.mem_cons_of_mem _ (ih h)

section
variable {b : Nat} {S m : List Nd} {id : Int} {i d : Nat}
theorem PInv.mem (h : PInv b S m) {x : Nd} (hx : S[i]? = some x) (h0 : x.2 ≠ 0) : x ∈ m :=
  h.perm.mem_iff.1 (List.mem_filter.2 ⟨List.mem_of_getElem? hx, by simp [full, h0]⟩)
theorem PInv.find (h : PInv b S m) {x : Nd} (hx : x ∈ m) : ∃ i : Nat, S[i]? = some x := by
  have := (List.mem_filter.1 (h.perm.mem_iff.2 hx)).1
  exact List.getElem?_of_mem this
/-- Two full slots with one number are one. -/
theorem PInv.one (h : PInv b S m) {j : Nat} {x y : Nd} (hi : S[i]? = some x) (hj : S[j]? = some y) (hx : x.2 ≠ 0) (hy : y.2 ≠ 0) (he : x.1 = y.1) : i = j := by
  have hn : ((S.filter full).map (·.1)).Nodup := (h.perm.map _).nodup_iff.2 h.ids
  have key : ∀ (l : List Nd) (i j : Nat) (x y : Nd), ((l.filter full).map (·.1)).Nodup → l[i]? = some x → l[j]? = some y → x.2 ≠ 0 → y.2 ≠ 0 → x.1 = y.1 → i = j := by
    intro l
    induction l with
    | nil => intro i j x y _ hi; simp at hi
    | cons z l ih =>
      intro i j x y hn hi hj hx hy he
      have hmem : ∀ (k : Nat) (u : Nd), l[k]? = some u → u.2 ≠ 0 → u.1 ∈ (l.filter full).map (·.1) := fun k u hu h0 =>
        List.mem_map_of_mem (List.mem_filter.2 ⟨List.mem_of_getElem? hu, by simp [full, h0]⟩)
      cases i with
      | zero =>
        cases j with
        | zero => rfl
        | succ j =>
          simp at hi hj
          subst hi
          rw [List.filter_cons, if_pos (by simp [full, hx]), List.map_cons, List.nodup_cons] at hn
          exact absurd (by rw [he]; exact hmem j y hj hy) hn.1
      | succ i =>
        cases j with
        | zero =>
          simp at hi hj
          subst hj
          rw [List.filter_cons, if_pos (by simp [full, hy]), List.map_cons, List.nodup_cons] at hn
          exact absurd (by rw [← he]; exact hmem i x hi hx) hn.1
        | succ j =>
          simp at hi hj
          congr 1
          refine ih i j x y ?_ hi hj hx hy he
          rw [List.filter_cons] at hn
          split at hn
          · rw [List.map_cons, List.nodup_cons] at hn; exact hn.2
          · exact hn
  exact key S i j x y hn hi hj hx hy he
theorem PInv.count (h : PInv b S m) : (S.filter full).length = m.length := h.perm.length_eq
/-- There is a free slot. -/
theorem PInv.free (h : PInv b S m) (hm : m.length < 2 ^ b) : ∃ (i : Nat) (x : Nd), S[i]? = some x ∧ x.2 = 0 := by
  have h1 : (S.filter full).length < S.length := by rw [h.count, h.len]; exact hm
  obtain ⟨x, hx, hf⟩ := List.length_filter_lt_length_iff_exists.1 h1
  obtain ⟨i, hi⟩ := List.getElem?_of_mem hx
  exact ⟨i, x, hi, by simpa [full] using hf⟩
/-- Looking for a number ends. -/
theorem PInv.ends (h : PInv b S m) (hm : m.length < 2 ^ b) (hb : b ≤ 64) (id : Int) : ∃ d, d < 2 ^ b ∧ stopAt S id (step (2 ^ b) (homeOf b id) d) := by
  obtain ⟨i, x, hi, hx⟩ := h.free hm
  have hlt : i < 2 ^ b := by rw [← h.len]; exact (List.getElem?_eq_some_iff.1 hi).1
  obtain ⟨d, hd, he⟩ := step_onto hlt (homeOf_lt hb id)
  exact ⟨d, hd, fun y hy => by rw [← he, hi] at hy; cases hy; exact .inl hx⟩
theorem LookAt.i_lt (hl : LookAt S b id i d) : i < 2 ^ b := by rw [hl.at_]; exact step_lt (Nat.two_pow_pos b)
theorem LookAt.slot (h : PInv b S m) (hl : LookAt S b id i d) : ∃ x, S[i]? = some x := by
  have : i < S.length := by rw [h.len]; exact hl.i_lt
  exact ⟨_, List.getElem?_eq_getElem this⟩
/-- It has the number. -/
theorem LookAt.hit (h : PInv b S m) (hl : LookAt S b id i d) (h0 : getR m id ≠ 0) : S[i]? = some (id, getR m id) := by
  obtain ⟨j, hj⟩ := h.find (getR_mem' h0)
  obtain ⟨D, hD, hjD, hway⟩ := h.reach j _ hj h0
  have hstop : stopAt S id (step (2 ^ b) (homeOf b id) D) := fun y hy => by
    simp only at hjD
    rw [← hjD, hj] at hy
    cases hy
    exact .inr rfl
  rcases Nat.lt_trichotomy d D with hlt | he | hlt
  · obtain ⟨x, hx⟩ := hl.slot h
    have h1 : x.2 ≠ 0 := hway d hlt x (by rw [← hl.at_]; exact hx)
    have h2 : x.1 = id := (hl.stop x hx).resolve_left h1
    have h3 := h.one hx hj h1 h0 h2
    rw [hl.at_, hjD] at h3
    have := step_inj hl.lt hD h3
    omega
  · rw [hl.at_, he, ← hjD]; exact hj
  · exact absurd hstop (hl.way D hlt)
/-- It is free. -/
theorem LookAt.miss (h : PInv b S m) (hl : LookAt S b id i d) (h0 : getR m id = 0) : ∃ x, S[i]? = some x ∧ x.2 = 0 := by
  obtain ⟨x, hx⟩ := hl.slot h
  refine ⟨x, hx, ?_⟩
  rcases hl.stop x hx with h1 | h1
  · exact h1
  · apply Classical.byContradiction
    intro hne
    have hm := h.mem hx hne
    have := mem_getR h.ids hm
    rw [h1, h0] at this
    exact hne this.symm
theorem LookAt.get (h : PInv b S m) (hl : LookAt S b id i d) : ∃ x, S[i]? = some x ∧ x.2 = getR m id ∧ (getR m id ≠ 0 → x.1 = id) := by
  by_cases h0 : getR m id = 0
  · obtain ⟨x, hx, hz⟩ := hl.miss h h0
    exact ⟨x, hx, by rw [h0]; exact hz, fun h => absurd h0 h⟩
  · exact ⟨_, hl.hit h h0, rfl, fun _ => rfl⟩

theorem set_split {α : Type} {l : List α} {i : Nat} {y : α} (hi : l[i]? = some y) : l = l.take i ++ y :: l.drop (i + 1) := by
  obtain ⟨hlt, he⟩ := List.getElem?_eq_some_iff.1 hi
  rw [← he, ← List.drop_eq_getElem_cons hlt, List.take_append_drop]
theorem filter_set_new {y x : Nd} (hi : S[i]? = some y) (hy : y.2 = 0) (hx : x.2 ≠ 0) : ((S.set i x).filter full).Perm (x :: S.filter full) := by
  have h1 := set_split hi
  have hlt := (List.getElem?_eq_some_iff.1 hi).1
  have h2 : S.set i x = S.take i ++ x :: S.drop (i + 1) := by rw [List.set_eq_take_append_cons_drop, if_pos hlt]
  rw [h2, List.filter_append, List.filter_cons, if_pos (by simp [full, hx])]
  conv => rhs; rw [h1]
  rw [List.filter_append, List.filter_cons, if_neg (by simp [full, hy])]
  exact List.perm_middle
theorem filter_set_old {y x : Nd} (hi : S[i]? = some y) (hy : y.2 ≠ 0) (hx : x.2 ≠ 0) : ∃ t, (S.filter full).Perm (y :: t) ∧ ((S.set i x).filter full).Perm (x :: t) := by
  have h1 := set_split hi
  have hlt := (List.getElem?_eq_some_iff.1 hi).1
  have h2 : S.set i x = S.take i ++ x :: S.drop (i + 1) := by rw [List.set_eq_take_append_cons_drop, if_pos hlt]
  refine ⟨(S.take i).filter full ++ (S.drop (i + 1)).filter full, ?_, ?_⟩
  · conv => lhs; rw [h1]
    rw [List.filter_append, List.filter_cons, if_pos (by simp [full, hy])]
    exact List.perm_middle
  · rw [h2, List.filter_append, List.filter_cons, if_pos (by simp [full, hx])]
    exact List.perm_middle
theorem get_set {x y : Nd} {j : Nat} (h : (S.set i x)[j]? = some y) : (j = i ∧ y = x) ∨ (j ≠ i ∧ S[j]? = some y) := by
  rw [List.getElem?_set] at h
  by_cases hij : i = j
  · subst hij
    rw [if_pos rfl] at h
    split at h
    · cases h; exact .inl ⟨rfl, rfl⟩
    · cases h
  · rw [if_neg hij] at h
    exact .inr ⟨fun e => hij e.symm, h⟩
/-- A node more, at the free slot where looking for it ends. -/
theorem PInv.put (h : PInv b S m) (hl : LookAt S b id i d) (h0 : ∀ x ∈ m, x.1 ≠ id) {c : Int} (hc : 1 ≤ c) : PInv b (S.set i (id, c)) ((id, c) :: m) := by
  have hg : getR m id = 0 := getR_none h0
  obtain ⟨y, hy, hy0⟩ := hl.miss h hg
  refine ⟨by rw [List.length_set]; exact h.len, ?_, ?_, ?_, ?_⟩
  · exact (filter_set_new hy hy0 (by simp only; omega)).trans (h.perm.cons _)
  · rw [List.map_cons, List.nodup_cons]
    refine ⟨fun hm => ?_, h.ids⟩
    obtain ⟨x, hx, he⟩ := List.mem_map.1 hm
    exact h0 x hx he
  · intro x hx
    rcases List.mem_cons.1 hx with rfl | hx
    · exact hc
    · exact h.pos x hx
  · intro j x hj hx0
    rcases get_set hj with ⟨rfl, rfl⟩ | ⟨hne, hj⟩
    · refine ⟨d, hl.lt, hl.at_, fun d' hd' z hz => ?_⟩
      have hw := hl.way d' hd'
      rcases get_set hz with ⟨he, rfl⟩ | ⟨_, hz⟩
      · simp only; omega
      · intro hz0
        exact hw fun u hu => by simp only at hz; rw [hz] at hu; cases hu; exact .inl hz0
    · obtain ⟨D, hD, he, hw⟩ := h.reach j x hj hx0
      refine ⟨D, hD, he, fun d' hd' z hz => ?_⟩
      rcases get_set hz with ⟨_, rfl⟩ | ⟨_, hz⟩
      · simp only; omega
      · exact hw d' hd' z hz
/-- Another weight, of a node that is there. -/
theorem PInv.turn (h : PInv b S m) {v c : Int} {t : List Nd} (hi : S[i]? = some (id, v)) (hv : v ≠ 0) (hc : 1 ≤ c) (hm : m.Perm ((id, v) :: t)) : PInv b (S.set i (id, c)) ((id, c) :: t) := by
  obtain ⟨t', h1, h2⟩ := filter_set_old (x := (id, c)) hi hv (by simp only; omega)
  have ht : t'.Perm t := ((h1.symm.trans h.perm).trans hm).cons_inv
  refine ⟨by rw [List.length_set]; exact h.len, h2.trans (ht.cons _), ?_, ?_, ?_⟩
  · have := (hm.map (·.1)).nodup_iff.1 h.ids
    simpa using this
  · intro x hx
    rcases List.mem_cons.1 hx with rfl | hx
    · exact hc
    · exact h.pos x (hm.mem_iff.2 (List.mem_cons_of_mem _ hx))
  · intro j x hj hx0
    rcases get_set hj with ⟨rfl, rfl⟩ | ⟨hne, hj⟩
    · obtain ⟨D, hD, he, hw⟩ := h.reach _ _ hi hv
      refine ⟨D, hD, he, fun d' hd' z hz => ?_⟩
      rcases get_set hz with ⟨_, rfl⟩ | ⟨_, hz⟩
      · simp only; omega
      · exact hw d' hd' z hz
    · obtain ⟨D, hD, he, hw⟩ := h.reach j x hj hx0
      refine ⟨D, hD, he, fun d' hd' z hz => ?_⟩
      rcases get_set hz with ⟨_, rfl⟩ | ⟨_, hz⟩
      · simp only; omega
      · exact hw d' hd' z hz
theorem PInv.perm' (h : PInv b S m) {m' : List Nd} (hp : m.Perm m') : PInv b S m' :=
  ⟨h.len, h.perm.trans hp, (hp.map _).nodup_iff.1 h.ids, fun x hx => h.pos x (hp.mem_iff.2 hx), h.reach⟩
theorem PInv.empty (b : Nat) : PInv b (List.replicate (2 ^ b) (0, 0)) [] := by
  refine ⟨by simp, ?_, by simp, by simp, ?_⟩
  · rw [List.filter_eq_nil_iff.2]
    intro x hx
    have := List.eq_of_mem_replicate hx
    subst this
    simp [full]
  · intro i x hi h0
    have := List.eq_of_mem_replicate (List.mem_of_getElem? hi)
    subst this
    simp at h0
end

theorem Roll.ids {r : List Nd} (h : Roll r) : (r.map (·.1)).Nodup := by
  rw [List.nodup_iff_pairwise_ne, List.pairwise_map]
  exact h.1.imp fun {a b} hab => by omega
theorem addR_perm_new {r : List Nd} (hr : Roll r) {id c : Int} (h0 : getR r id = 0) : (addR r id c).Perm ((id, c) :: r) := by
  induction r with
  | nil => exact .refl _
  | cons x r ih =>
    have hx := hr.2 x (by simp)
    simp only [getR] at h0
    by_cases he : x.1 = id
    · rw [if_pos he] at h0; omega
    · rw [if_neg he] at h0
      simp only [addR]
      rw [if_neg he]
      split
      · exact .refl _
      · exact ((ih hr.tail h0).cons x).trans (.swap _ _ _)
theorem addR_perm_old {r : List Nd} (hr : Roll r) {id c : Int} (h0 : getR r id ≠ 0) : ∃ t, r.Perm ((id, getR r id) :: t) ∧ (addR r id c).Perm ((id, getR r id + c) :: t) := by
  induction r with
  | nil => simp [getR] at h0
  | cons x r ih =>
    have hx := hr.2 x (by simp)
    simp only [getR] at h0 ⊢
    by_cases he : x.1 = id
    · rw [if_pos he]
      subst he
      exact ⟨r, .refl _, by simp [addR]⟩
    · rw [if_neg he] at h0 ⊢
      obtain ⟨t, h1, h2⟩ := ih hr.tail h0
      have hlt : ¬ id < x.1 := by
        intro hlt
        apply h0
        exact getR_none fun y hy => by have := hr.head y hy; omega
      refine ⟨x :: t, (h1.cons x).trans (.swap _ _ _), ?_⟩
      simp only [addR]
      rw [if_neg he, if_neg hlt]
      exact (h2.cons x).trans (.swap _ _ _)
theorem delR_perm {r : List Nd} (hr : Roll r) {id : Int} (h0 : getR r id ≠ 0) : r.Perm ((id, getR r id) :: delR r id) := by
  induction r with
  | nil => simp [getR] at h0
  | cons x r ih =>
    simp only [getR] at h0 ⊢
    by_cases he : x.1 = id
    · rw [if_pos he]
      subst he
      simp [delR]
    · rw [if_neg he] at h0 ⊢
      simp only [delR]
      rw [if_neg he]
      exact ((ih hr.tail h0).cons x).trans (.swap _ _ _)
end Go.Proofs.YtgjaopfjffncbaaGreat
