/- Words for memory: a slice that reads as a list; a list that the call owns; append of one element. -/
import Derived.Test.YtldgiclbhpmppaaBase
import Derived.Maps.AppendAt
import Derived.Deep.AppendLies
import Derived.Laws.OwnMore
import Derived.Deep.SlicePairs
import Derived.Deep.Fields
import Derived.ChangeSame
namespace Go.Proofs.Ytldgiclbhpmppaa
open Go.ChangeShapes Go.WideShapes Go.ChangeAt Go.RowKit

/-- How an element lies in memory: so many cells, each of one cell. -/
structure Enc (α : Type) (size : Nat) where
  enc : α → List Value
  len : ∀ x, (enc x).length = size
  one : ∀ x, ∀ u ∈ enc x, u.oneCell' = true

/-- The slice at address A reads as the list l, below block B. -/
def Sl {α : Type} {size : Nat} (w : World) (B : Nat) (E : Enc α size) (A : Option Addr) (l : List α) : Prop :=
  l = [] ∨ ∃ b off, A = some ⟨b, off, none⟩ ∧ b < B ∧ ∀ i x, l[i]? = some x → ∀ j u, (E.enc x)[j]? = some u → w.cell? ⟨b, off + i * size + j, none⟩ = some u

theorem add_plain (g o k : Nat) : (⟨g, o, none⟩ : Addr).add k = ⟨g, o + k, none⟩ := by
  unfold Addr.add
  split
  · rename_i h; subst h; rfl
  · rfl
theorem Sl.nil {α : Type} {size : Nat} {w : World} {B : Nat} {E : Enc α size} {A : Option Addr} : Sl w B E A [] := .inl rfl
theorem Sl.keep {α : Type} {size : Nat} {w w' : World} {B B' : Nat} {E : Enc α size} {A : Option Addr} {l : List α} (h : Sl w B E A l) (hB : B ≤ B')
    (hk : ∀ p : Addr, p.block < B → w'.cell? p = w.cell? p) : Sl w' B' E A l := by
  rcases h with h | ⟨b, off, hA, hb, hc⟩
  · exact .inl h
  · exact .inr ⟨b, off, hA, Nat.lt_of_lt_of_le hb hB, fun i x hi j u hj => (hk ⟨b, _, none⟩ hb).trans (hc i x hi j u hj)⟩
theorem Sl.below {α : Type} {size : Nat} {w w' : World} {B : Nat} {E : Enc α size} {A : Option Addr} {l : List α} (h : Sl w B E A l) (hb : Below B w w') : Sl w' B E A l :=
  h.keep (Nat.le_refl _) fun _ hp => hb.cell hp
theorem Sl.at_ {α : Type} {size : Nat} {w : World} {B : Nat} {E : Enc α size} {A : Option Addr} {l : List α} (h : Sl w B E A l) {k : Nat} (hk : k < l.length) :
    ∃ b off, A = some ⟨b, off, none⟩ ∧ b < B ∧ ∀ j u, (E.enc l[k])[j]? = some u → w.cell? ⟨b, off + k * size + j, none⟩ = some u := by
  rcases h with h | ⟨b, off, hA, hb, hc⟩
  · subst h; simp at hk
  · exact ⟨b, off, hA, hb, fun j u hj => hc k _ (List.getElem?_eq_getElem hk) j u hj⟩

/-- The call owns, from block 'base' on, the slice v; it holds the list l. -/
def Own {α : Type} {size : Nat} (w : World) (base : Nat) (e : TypeId) (E : Enc α size) (v : Value) (l : List α) : Prop :=
  w.ownsRow base e size v l.length (l.flatMap E.enc)

theorem flat_len {α : Type} {size : Nat} (E : Enc α size) (l : List α) : (l.flatMap E.enc).length = l.length * size := by
  induction l with
  | nil => simp
  | cons x l ih => simp [ih, E.len, Nat.add_mul, Nat.add_comm]
theorem flat_get {α : Type} {size : Nat} (E : Enc α size) (l : List α) (i j : Nat) (x : α) (u : Value) (hi : l[i]? = some x) (hj : (E.enc x)[j]? = some u) :
    (l.flatMap E.enc)[i * size + j]? = some u := by
  induction l generalizing i with
  | nil => simp at hi
  | cons y l ih =>
    have hl := E.len y
    cases i with
    | zero =>
      simp at hi; subst hi
      have hlt : j < (E.enc y).length := (List.getElem?_eq_some_iff.1 hj).1
      rw [List.flatMap_cons, Nat.zero_mul, Nat.zero_add, List.getElem?_append_left hlt]
      exact hj
    | succ i =>
      simp at hi
      have := ih i hi
      rw [List.flatMap_cons, List.getElem?_append_right (by rw [hl, Nat.add_mul]; omega), hl]
      rw [← this]
      congr 1
      rw [Nat.add_mul]; omega

theorem Own.nil {α : Type} {size : Nat} (w : World) (base : Nat) (e : TypeId) (E : Enc α size) : Own w base e E (.slice none 0 0) [] := World.ownsRow_nil _ _ _ _
theorem Own.alloc {α : Type} {size : Nat} {w : World} {base : Nat} {e : TypeId} {E : Enc α size} {v : Value} {l : List α} (h : Own w base e E v l) (o : Obj) : Own (w.alloc o) base e E v l := World.ownsRow.alloc h o
theorem Own.drew {α : Type} {size : Nat} {w : World} {base : Nat} {e : TypeId} {E : Enc α size} {v : Value} {l : List α} (h : Own w base e E v l) : Own w.drew base e E v l := h
theorem Own.lt {α : Type} {size : Nat} {w : World} {base : Nat} {e : TypeId} {E : Enc α size} {v : Value} {l : List α} (h : Own w base e E v l) : ∀ k, v.ownBlock = some k → base ≤ k ∧ k < w.heap.size := World.ownsRow.lt h
/-- It is kept where its block is not written. -/
theorem Own.kept {α : Type} {size : Nat} {w w' : World} {base : Nat} {e : TypeId} {E : Enc α size} {v : Value} {l : List α} {row : Option Nat} (h : Own w base e E v l) (hg : w.grownBy w' row) (hne : v.ownBlock = none ∨ v.ownBlock ≠ row) :
    Own w' base e E v l := World.ownsRow.kept h hg hne
theorem grownBy_of_below {a w : World} (h : Below a.heap.size a w) (row : Option Nat) : a.grownBy w row := ⟨h.os, h.tape, h.output, h.size, fun i hi _ => h.block i hi⟩
theorem Own.below {α : Type} {size : Nat} {w w' : World} {base : Nat} {e : TypeId} {E : Enc α size} {v : Value} {l : List α} (h : Own w base e E v l) (hb : Below w.heap.size w w') : Own w' base e E v l := by
  have hg : w.grownBy w' none := grownBy_of_below hb none
  rcases hv : v.ownBlock with _ | k
  · exact h.kept hg (.inl hv)
  · exact h.kept hg (.inr (by rw [hv]; simp))
theorem Own.setCell {α : Type} {size : Nat} {w : World} {base : Nat} {e : TypeId} {E : Enc α size} {v : Value} {l : List α} (h : Own w base e E v l) {p : Addr} (hp : v.ownBlock ≠ some p.block) (u : Value) : Own (w.setCell p u) base e E v l := by
  obtain ⟨h1, h2⟩ := h
  refine ⟨h1, ?_⟩
  rcases h2 with h2 | ⟨g, cap, cur, hv, hg, hh, r⟩
  · exact Or.inl h2
  · refine Or.inr ⟨g, cap, cur, hv, hg, ?_, r⟩
    rw [Below.heap_setCell _ _ _ _ (by subst hv; simpa [Value.ownBlock] using hp)]
    exact hh
theorem Own.form {α : Type} {size : Nat} {w : World} {base : Nat} {e : TypeId} {E : Enc α size} {v : Value} {l : List α} (h : Own w base e E v l) :
    ∃ A cap, v = .slice A l.length cap ∧ l.length ≤ cap ∧ cap ≤ maxLen ∧ Sl w w.heap.size E A l ∧ (A = none ∨ ∃ g, A = some ⟨g, 0, none⟩ ∧ base ≤ g) := by
  have h0 := h
  rcases h.2 with ⟨rfl, hn⟩ | ⟨g, cap, cur, rfl, hg, hh, h1, h2, h3, h4⟩
  · have : l = [] := List.eq_nil_of_length_eq_zero hn
    subst this
    exact ⟨none, 0, rfl, by simp, by simp, .nil, .inl rfl⟩
  · refine ⟨some ⟨g, 0, none⟩, cap, rfl, h1, h2, .inr ⟨g, 0, rfl, (h0.lt g rfl).2, fun i x hi j u hj => ?_⟩, .inr ⟨g, rfl, hg⟩⟩
    have hx := flat_get E l i j x u hi hj
    have := World.ownsRow.cells h0 (g := g) rfl (i * size + j) u hx
    rw [add_plain] at this
    simpa using this

/-- A block that is not the one written reads as before. -/
theorem grown_cell {w w' : World} {row : Option Nat} (hg : w.grownBy w' row) (b : Nat) (hb : b < w.heap.size) (hne : row ≠ some b) (o : Nat) : w'.cell? ⟨b, o, none⟩ = w.cell? ⟨b, o, none⟩ :=
  hg.cell_far ⟨b, o, none⟩ hb (Ne.symm hne)
theorem grown_frozen {w w' : World} {row : Option Nat} (hg : w.grownBy w' row) (b : Nat) (hb : b < w.heap.size) (hne : row ≠ some b) (o : Nat) : w'.frozen? ⟨b, o, none⟩ = w.frozen? ⟨b, o, none⟩ :=
  hg.frozen_far ⟨b, o, none⟩ hb (Ne.symm hne)
theorem Own.not_at {α : Type} {size : Nat} {w : World} {base : Nat} {e : TypeId} {E : Enc α size} {v : Value} {l : List α} (h : Own w base e E v l) (b : Nat) (hb : w.heap.size ≤ b) : v.ownBlock ≠ some b := fun he => by
  have := (h.lt b he).2
  omega

/-- What a slice's type is. -/
structure SliceTy (P : Program) (t e : TypeId) (size bytes : Nat) (z : Value) : Prop where
  ht : P.underlying t = some (.slice e)
  hinfo : (P.info? e).map (fun i => (i.zero, i.size, i.bytes)) = some (some z, size, bytes)
  hzs : z.cells.size = size
  hsz : 0 < size

section
variable {P : Program} {t e : TypeId} {size bytes : Nat} {z : Value} {α : Type} {E : Enc α size}
theorem push_run (T : SliceTy P t e size bytes z) (ty : TypeId) (W : World) (base : Nat) (v : Value) (l : List α) (x0 : α) (hown : Own W base e E v l) (hn : (l.length + 1) * bytes ≤ 140737488355328) (hm : l.length + 1 ≤ maxLen) (hbase : base ≤ W.heap.size) :
    ∃ v' w', (Builtin.append_ #[t, t] ty #[v, .slice (some ⟨W.heap.size, 0, none⟩) 1 1]).run P (W.alloc (.cells (E.enc x0).toArray e)) = .ok v' w' ∧ Own w' base e E v' (l ++ [x0]) ∧ W.grownBy w' v.ownBlock ∧ W.heap.size < w'.heap.size ∧
      (v'.ownBlock = v.ownBlock ∨ v'.ownBlock = some (W.heap.size + 1)) ∧ Below base W w' ∧ v' ≠ .slice none 0 0 := by
  obtain ⟨i, hi, e1⟩ := Option.map_eq_some_iff.1 T.hinfo
  simp only [Prod.mk.injEq] at e1
  obtain ⟨hz, hsize, hby⟩ := e1
  have hb : (W.alloc (.cells (E.enc x0).toArray e)).heap[W.heap.size]? = some (.cells (E.enc x0).toArray e (0, 0)) := heap_alloc_new W _
  have hnews : ∀ j u, (E.enc x0)[j]? = some u → (W.alloc (.cells (E.enc x0).toArray e)).cell? ((⟨W.heap.size, 0, none⟩ : Addr).add j) = some u := by
    intro j u hj
    have hc := cell_of_row _ W.heap.size j _ _ _ hb
    have ha : (⟨W.heap.size, 0, none⟩ : Addr).add j = ⟨W.heap.size, j, none⟩ := by unfold Addr.add; split <;> simp_all
    rw [ha, hc]
    simpa using hj
  obtain ⟨v', w', hr, h2, h3, h4, h5⟩ := run_append_own_at (P := P) (W.alloc (.cells (E.enc x0).toArray e)) base t ty e i z size bytes T.ht hi hz hsize hby T.hzs T.hsz v l.length _ (World.ownsRow.alloc hown _) ⟨W.heap.size, 0, none⟩ 1 1 (E.enc x0)
    (by rw [E.len]; simp) hnews (E.one x0) hm hn (by simp; omega)
  refine ⟨v', w', hr, ?_, ?_, ?_, ?_, ?_, ?_⟩
  · unfold Own; simpa using h2
  · have hs := h3.size
    simp at hs
    exact ⟨h3.os, h3.tape, h3.output, by omega, fun i hi hne => (h3.block i (by simp; omega) hne).trans (Below.heap_alloc W _ i hi)⟩
  · have hs := h3.size
    simp at hs
    omega
  · rcases h5 with h5 | h5
    · exact .inl h5
    · right; rw [h5]; simp
  · refine ((Below.refl base W).alloc hbase _).grown h3 (by simp; omega) fun k hk => (hown.lt k hk).1
  · intro hv
    have := (h4.1 hv).2
    simp at this

/-- append(s, x), one element: behind it the list is one longer. -/
theorem wpList_push {w : World} {ops : Array Oper} {rest : List Oper} {o : Oper} {a : Act} {Q : Exit → Act → World → Prop} (T : SliceTy P t e size bytes z) (hgd : o.guard = none) (s x : Operand)
    (ho : o.op = .call { callee := .builtin .append, args := #[s, x], argTypes := #[t, t] }) (E : Enc α size) (W : World) (base : Nat) (v : Value) (l : List α) (hs : a.eval s = v) (hown : Own W base e E v l)
    (x0 : α) (hx : a.eval x = .slice (some ⟨W.heap.size, 0, none⟩) 1 1) (hw : w = W.alloc (.cells (E.enc x0).toArray e)) (hn : (l.length + 1) * bytes ≤ 140737488355328) (hm : l.length + 1 ≤ maxLen) (hbase : base ≤ W.heap.size)
    (h : ∀ v' w', Own w' base e E v' (l ++ [x0]) → W.grownBy w' v.ownBlock → W.heap.size < w'.heap.size → (v'.ownBlock = v.ownBlock ∨ v'.ownBlock = some (W.heap.size + 1)) → Below base W w' → v' ≠ .slice none 0 0 →
      wpList P ops Q rest (a.put o.dst v') w') : wpList P ops Q (o :: rest) a w := by
  subst hw
  refine wpList_plain hgd fun K hK => ?_
  obtain ⟨v', w', hr, h2, h3, h3', h4, h5, h6⟩ := push_run T o.type W base v l x0 hown hn hm hbase
  unfold Oper.wp execOp
  simp only [ho, resolve, invoke, builtin, Sem.run_bind, Sem.run_pure, Result.andThen_ok, List.map_toArray, List.map_cons, List.map_nil, hs, hx, hr]
  exact hK _ _ (h v' w' h2 h3 h3' h4 h5 h6)
end
end Go.Proofs.Ytldgiclbhpmppaa
