/- Words for memory: a slice that reads as a list; a list that the call owns; append of one element. -/
import Derived.Test.YtalnhdfgjjhhbaaBase
import Derived.Maps.AppendAt
import Derived.Deep.AppendLies
import Derived.Laws.OwnMore
import Derived.Deep.SlicePairs
import Derived.Deep.Fields
import Derived.ChangeSame
namespace Go.Proofs.Ytalnhdfgjjhhbaa
open Go.ChangeShapes Go.WideShapes Go.ChangeAt Go.RowKit

/-- How an element lies in memory: so many cells, each of one cell. -/
structure Enc (α : Type) (size : Nat) where
  enc : α → List Value
  len : ∀ x, (enc x).length = size
  one : ∀ x, ∀ u ∈ enc x, u.oneCell' = true

/-- The slice at address A reads as the list l, below block B. -/
def Sl {α : Type} {size : Nat} (w : World) (B : Nat) (E : Enc α size) (A : Option Addr) (l : List α) : Prop :=
  l = [] ∨ ∃ b off, A = some ⟨b, off, none⟩ ∧ b < B ∧ ∀ i x, l[i]? = some x → ∀ j u, (E.enc x)[j]? = some u → w.cell? ⟨b, off + i * size + j, none⟩ = some u

theorem add_plain (g o k : Nat) : (⟨g, o, none⟩ : Addr).add k = ⟨g, o + k, none⟩ := by
  unfold Addr.add
  split
  · rename_i h; subst h; rfl
  · rfl
theorem Sl.nil {α : Type} {size : Nat} {w : World} {B : Nat} {E : Enc α size} {A : Option Addr} : Sl w B E A [] := .inl rfl
theorem Sl.keep {α : Type} {size : Nat} {w w' : World} {B B' : Nat} {E : Enc α size} {A : Option Addr} {l : List α} (h : Sl w B E A l) (hB : B ≤ B')
    (hk : ∀ p : Addr, p.block < B → w'.cell? p = w.cell? p) : Sl w' B' E A l := by
  rcases h with h | ⟨b, off, hA, hb, hc⟩
  · exact .inl h
  · exact .inr ⟨b, off, hA, Nat.lt_of_lt_of_le hb hB, fun i x hi j u hj => (hk ⟨b, _, none⟩ hb).trans (hc i x hi j u hj)⟩
theorem Sl.drew {α : Type} {size : Nat} {w : World} {B : Nat} {E : Enc α size} {A : Option Addr} {l : List α} (h : Sl w B E A l) : Sl w.drew B E A l := h
theorem Sl.below {α : Type} {size : Nat} {w w' : World} {B : Nat} {E : Enc α size} {A : Option Addr} {l : List α} (h : Sl w B E A l) (hb : Below B w w') : Sl w' B E A l :=
  h.keep (Nat.le_refl _) fun _ hp => hb.cell hp
theorem Sl.at_ {α : Type} {size : Nat} {w : World} {B : Nat} {E : Enc α size} {A : Option Addr} {l : List α} (h : Sl w B E A l) {k : Nat} (hk : k < l.length) :
    ∃ b off, A = some ⟨b, off, none⟩ ∧ b < B ∧ ∀ j u, (E.enc l[k])[j]? = some u → w.cell? ⟨b, off + k * size + j, none⟩ = some u := by
  rcases h with h | ⟨b, off, hA, hb, hc⟩
  · subst h; simp at hk
  · exact ⟨b, off, hA, hb, fun j u hj => hc k _ (List.getElem?_eq_getElem hk) j u hj⟩

/-- The call owns, from block 'base' on, the slice v: a stretch of a block, with its spare room; it holds the list l. -/
def Own {α : Type} {size : Nat} (w : World) (base : Nat) (e : TypeId) (E : Enc α size) (v : Value) (l : List α) : Prop :=
  (v = .slice none 0 0 ∧ l = []) ∨
  ∃ g off cap cur, v = .slice (some ⟨g, off, none⟩) l.length cap ∧ base ≤ g ∧ w.heap[g]? = some (.cells cur e (0, 0)) ∧ l.length ≤ cap ∧ cap ≤ maxLen ∧ off + cap * size ≤ cur.size ∧
    ∀ j u, (l.flatMap E.enc)[j]? = some u → cur[off + j]? = some u

theorem flat_len {α : Type} {size : Nat} (E : Enc α size) (l : List α) : (l.flatMap E.enc).length = l.length * size := by
  induction l with
  | nil => simp
  | cons x l ih => simp [ih, E.len, Nat.add_mul, Nat.add_comm]
theorem flat_get {α : Type} {size : Nat} (E : Enc α size) (l : List α) (i j : Nat) (x : α) (u : Value) (hi : l[i]? = some x) (hj : (E.enc x)[j]? = some u) :
    (l.flatMap E.enc)[i * size + j]? = some u := by
  induction l generalizing i with
  | nil => simp at hi
  | cons y l ih =>
    have hl := E.len y
    cases i with
    | zero =>
      simp at hi; subst hi
      have hlt : j < (E.enc y).length := (List.getElem?_eq_some_iff.1 hj).1
      rw [List.flatMap_cons, Nat.zero_mul, Nat.zero_add, List.getElem?_append_left hlt]
      exact hj
    | succ i =>
      simp at hi
      have := ih i hi
      rw [List.flatMap_cons, List.getElem?_append_right (by rw [hl, Nat.add_mul]; omega), hl]
      rw [← this]
      congr 1
      rw [Nat.add_mul]; omega

theorem flat_inv {α : Type} {size : Nat} (E : Enc α size) (l : List α) (j : Nat) (u : Value) (h : (l.flatMap E.enc)[j]? = some u) : ∃ k x q, l[k]? = some x ∧ (E.enc x)[q]? = some u ∧ j = k * size + q := by
  induction l generalizing j with
  | nil => simp at h
  | cons y l ih =>
    have hl := E.len y
    rw [List.flatMap_cons] at h
    by_cases hlt : j < (E.enc y).length
    · rw [List.getElem?_append_left hlt] at h
      exact ⟨0, y, j, rfl, h, by omega⟩
    · rw [List.getElem?_append_right (by omega), hl] at h
      obtain ⟨k, x, q, hk, hq, hj⟩ := ih _ h
      exact ⟨k + 1, x, q, by simpa using hk, hq, by rw [Nat.add_mul]; omega⟩
theorem grownBy_of_below {a w : World} (h : Below a.heap.size a w) (row : Option Nat) : a.grownBy w row := ⟨h.os, h.tape, h.output, h.size, fun i hi _ => h.block i hi⟩
section
variable {α β : Type} {size s1 s2 : Nat} {w w' : World} {base e e1 e2 : Nat} {E : Enc α size} {v : Value} {l : List α}
theorem lt_of_block {g : Nat} {o : Obj} (h : w.heap[g]? = some o) : g < w.heap.size := by
  rcases Nat.lt_or_ge g w.heap.size with hlt | hge
  · exact hlt
  · rw [Array.getElem?_eq_none hge] at h; cases h
theorem Own.nil (w : World) (base : Nat) (e : TypeId) (E : Enc α size) : Own w base e E (.slice none 0 0) [] := .inl ⟨rfl, rfl⟩
theorem Own.of_block (h : Own w base e E v l) (hb : ∀ g, v.ownBlock = some g → w'.heap[g]? = w.heap[g]?) : Own w' base e E v l := by
  rcases h with h | ⟨g, off, cap, cur, rfl, hg, hh, r⟩
  · exact .inl h
  · exact .inr ⟨g, off, cap, cur, rfl, hg, (hb g rfl).trans hh, r⟩
theorem Own.lt (h : Own w base e E v l) : ∀ k, v.ownBlock = some k → base ≤ k ∧ k < w.heap.size := by
  intro k hk
  rcases h with ⟨rfl, _⟩ | ⟨g, off, cap, cur, rfl, hg, hh, r⟩
  · cases hk
  · have : g = k := by simpa [Value.ownBlock] using hk
    subst this
    exact ⟨hg, lt_of_block hh⟩
theorem Own.alloc (h : Own w base e E v l) (o : Obj) : Own (w.alloc o) base e E v l := h.of_block fun g hg => Below.heap_alloc w o g (h.lt g hg).2
theorem Own.drew (h : Own w base e E v l) : Own w.drew base e E v l := h
/-- It is kept where its block is not written. -/
theorem Own.kept {row : Option Nat} (h : Own w base e E v l) (hg : w.grownBy w' row) (hne : v.ownBlock = none ∨ v.ownBlock ≠ row) : Own w' base e E v l :=
  h.of_block fun g hv => hg.block g (h.lt g hv).2 (by
    rcases hne with hne | hne
    · rw [hv] at hne; cases hne
    · rw [← hv]; exact hne)
theorem Own.below (h : Own w base e E v l) (hb : Below w.heap.size w w') : Own w' base e E v l := h.of_block fun g hv => hb.block g (h.lt g hv).2
theorem Own.setCell (h : Own w base e E v l) {p : Addr} (hp : v.ownBlock ≠ some p.block) (u : Value) : Own (w.setCell p u) base e E v l :=
  h.of_block fun g hv => Below.heap_setCell _ _ _ _ (fun he => hp (by rw [hv, he]))
theorem Own.base_le (h : Own w base e E v l) {b : Nat} (hb : b ≤ base) : Own w b e E v l := by
  rcases h with h | ⟨g, off, cap, cur, hv, hg, r⟩
  · exact .inl h
  · exact .inr ⟨g, off, cap, cur, hv, Nat.le_trans hb hg, r⟩
theorem Own.form (h : Own w base e E v l) :
    ∃ A cap, v = .slice A l.length cap ∧ l.length ≤ cap ∧ cap ≤ maxLen ∧ Sl w w.heap.size E A l ∧ (A = none ∨ ∃ g off, A = some ⟨g, off, none⟩ ∧ base ≤ g) := by
  rcases h with ⟨rfl, rfl⟩ | ⟨g, off, cap, cur, rfl, hg, hh, h1, h2, h3, h4⟩
  · exact ⟨none, 0, rfl, by simp, by simp, .nil, .inl rfl⟩
  · refine ⟨some ⟨g, off, none⟩, cap, rfl, h1, h2, .inr ⟨g, off, rfl, lt_of_block hh, fun i x hi j u hj => ?_⟩, .inr ⟨g, off, rfl, hg⟩⟩
    rw [cell_of_row _ _ _ _ _ _ hh, Nat.add_assoc]
    exact h4 _ u (flat_get E l i j x u hi hj)
theorem Own.not_at (h : Own w base e E v l) (b : Nat) (hb : w.heap.size ≤ b) : v.ownBlock ≠ some b := fun he => by
  have := (h.lt b he).2
  omega
theorem own_ne {E1 : Enc α s1} {E2 : Enc β s2} {v1 v2 : Value} {l1 : List α} {l2 : List β} {b1 b2 : Nat} (h1 : Own w b1 e1 E1 v1 l1) (h2 : Own w b2 e2 E2 v2 l2) (hne : e1 ≠ e2) :
    v1.ownBlock = none ∨ v1.ownBlock ≠ v2.ownBlock := by
  rcases h1 with ⟨rfl, _⟩ | ⟨g1, o1, c1, u1, rfl, _, hh1, _⟩
  · exact .inl rfl
  · right
    rcases h2 with ⟨rfl, _⟩ | ⟨g2, o2, c2, u2, rfl, _, hh2, _⟩
    · simp [Value.ownBlock]
    · intro he
      have : g1 = g2 := by simpa [Value.ownBlock] using he
      subst this
      rw [hh1] at hh2
      injection hh2 with hh2
      injection hh2 with _ ht
      exact hne ht
/-- A block of another element type, known whole, is not the slice's. -/
theorem Own.ne_block (h : Own w base e E v l) {g t : Nat} {cs : Array Value} {fr : Nat × Nat} (hb : w.heap[g]? = some (.cells cs t fr)) (hne : e ≠ t) : v.ownBlock ≠ some g := by
  rcases h with ⟨rfl, _⟩ | ⟨g1, o1, c1, u1, rfl, _, hh1, _⟩
  · simp [Value.ownBlock]
  · intro he
    have : g1 = g := by simpa [Value.ownBlock] using he
    subst this
    rw [hh1] at hb
    injection hb with hb
    injection hb with _ ht
    exact hne ht
/-- A literal: a new block just of these elements. -/
theorem Own.lit (W : World) (E : Enc α size) (l : List α) (e : TypeId) (hb : base ≤ W.heap.size) (hm : l.length ≤ maxLen) :
    Own (W.alloc (.cells (l.flatMap E.enc).toArray e)) base e E (.slice (some ⟨W.heap.size, 0, none⟩) l.length l.length) l :=
  .inr ⟨W.heap.size, 0, l.length, _, rfl, hb, heap_alloc_new W _, Nat.le_refl _, hm, by rw [List.size_toArray, flat_len]; omega, fun j u hj => by simpa using hj⟩
/-- Cut at the front and at the end: v[lo:hi], v[lo:hi:mx]. -/
theorem Own.cut {A : Option Addr} {n cap : Nat} (h : Own w base e E (.slice A n cap) l) {lo hi mx : Nat} (h1 : lo ≤ hi) (h2 : hi ≤ l.length) (h3 : hi ≤ mx) (h4 : mx ≤ cap) :
    Own w base e E (.slice (if mx = lo then A else A.map (·.add (lo * size))) (hi - lo) (mx - lo)) ((l.take hi).drop lo) := by
  rcases h with ⟨hv, rfl⟩ | ⟨g, off, cap', cur, hv, hg, hh, k1, k2, k3, k4⟩
  · cases hv
    have e1 : hi = 0 := by simpa using h2
    have e2 : mx = 0 := by omega
    have e3 : lo = 0 := by omega
    subst e1 e2 e3
    exact .inl ⟨by simp, by simp⟩
  · cases hv
    have hlen : ((l.take hi).drop lo).length = hi - lo := by simp; omega
    have hcell : ∀ j u, (((l.take hi).drop lo).flatMap E.enc)[j]? = some u → cur[off + lo * size + j]? = some u := by
      intro j u hj
      have e1 : l.flatMap E.enc = (l.take lo).flatMap E.enc ++ (((l.take hi).drop lo).flatMap E.enc ++ (l.drop hi).flatMap E.enc) := by
        rw [← List.flatMap_append, ← List.flatMap_append]
        congr 1
        have e2 : l.take lo = (l.take hi).take lo := by rw [List.take_take]; congr 1; omega
        rw [← List.append_assoc, e2, List.take_append_drop, List.take_append_drop]
      have := k4 (lo * size + j) u (by
        rw [e1, List.getElem?_append_right (by rw [flat_len, List.length_take]; rw [Nat.min_eq_left (by omega)]; omega), flat_len, List.length_take, Nat.min_eq_left (by omega)]
        rw [show lo * size + j - lo * size = j by omega, List.getElem?_append_left (List.getElem?_eq_some_iff.1 hj).1]
        exact hj)
      rwa [← Nat.add_assoc] at this
    by_cases hml : mx = lo
    · have : hi = lo := by omega
      subst hml this
      rw [if_pos rfl]
      refine .inr ⟨g, off, 0, cur, by rw [hlen]; simp, hg, hh, by rw [hlen]; simp, by simp, ?_, fun j u hj => ?_⟩
      · have := Nat.le_trans (Nat.le_add_right off (cap * size)) k3
        simpa using this
      · have : (l.take hi).drop hi = [] := List.eq_nil_of_length_eq_zero (by rw [hlen]; simp)
        rw [this] at hj
        simp at hj
    · rw [if_neg hml]
      refine .inr ⟨g, off + lo * size, mx - lo, cur, by rw [hlen]; simp [add_plain], hg, hh, by rw [hlen]; omega, by omega, ?_, hcell⟩
      have : lo * size + (mx - lo) * size ≤ cap * size := by rw [← Nat.add_mul]; exact Nat.mul_le_mul_right _ (by omega)
      omega
end

/-- A block that is not the one written reads as before. -/
theorem grown_cell {w w' : World} {row : Option Nat} (hg : w.grownBy w' row) (b : Nat) (hb : b < w.heap.size) (hne : row ≠ some b) (o : Nat) : w'.cell? ⟨b, o, none⟩ = w.cell? ⟨b, o, none⟩ :=
  hg.cell_far ⟨b, o, none⟩ hb (Ne.symm hne)
theorem grown_frozen {w w' : World} {row : Option Nat} (hg : w.grownBy w' row) (b : Nat) (hb : b < w.heap.size) (hne : row ≠ some b) (o : Nat) : w'.frozen? ⟨b, o, none⟩ = w.frozen? ⟨b, o, none⟩ :=
  hg.frozen_far ⟨b, o, none⟩ hb (Ne.symm hne)
/-- What a slice's type is. -/
structure SliceTy (P : Program) (t e : TypeId) (size bytes : Nat) (z : Value) : Prop where
  ht : P.underlying t = some (.slice e)
  hinfo : (P.info? e).map (fun i => (i.zero, i.size, i.bytes)) = some (some z, size, bytes)
  hzs : z.cells.size = size
  hsz : 0 < size

theorem flat_one {α : Type} {size : Nat} (E : Enc α size) (l : List α) : ∀ u ∈ l.flatMap E.enc, u.oneCell' = true := by
  intro u hu
  obtain ⟨x, _, hx⟩ := List.mem_flatMap.1 hu
  exact E.one x u hx

section
variable {P : Program} {t e : TypeId} {size bytes : Nat} {z : Value} {α : Type} {E : Enc α size}
/-- append(v, src...): behind it the list is longer by the source's. -/
theorem app_run (T : SliceTy P t e size bytes z) (ty : TypeId) (W : World) (base : Nat) (v : Value) (l : List α) (hown : Own W base e E v l) (A : Option Addr) (c : Nat) (l2 : List α) (B : Nat) (hsrc : Sl W B E A l2)
    (hn : (l.length + l2.length) * bytes ≤ 140737488355328) (hm : l.length + l2.length ≤ maxLen) (hbase : base ≤ W.heap.size) :
    ∃ v' w', (Builtin.append_ #[t, t] ty #[v, .slice A l2.length c]).run P W = .ok v' w' ∧ Own w' base e E v' (l ++ l2) ∧ W.grownBy w' v.ownBlock ∧
      (v'.ownBlock = v.ownBlock ∨ v'.ownBlock = some W.heap.size) ∧ (l2 ≠ [] → v' ≠ .slice none 0 0) := by
  obtain ⟨i, hi, e1⟩ := Option.map_eq_some_iff.1 T.hinfo
  simp only [Prod.mk.injEq] at e1
  obtain ⟨hz, hsize, hby⟩ := e1
  subst hsize hby
  have ht := T.ht
  have h63 : l.length + l2.length ≤ 9223372036854775807 := by simp only [maxLen] at hm; omega
  rcases hl2 : l2 with _ | ⟨y, l3⟩
  · -- nothing is appended
    subst hl2
    have h0 : (Builtin.append_ #[t, t] ty #[v, .slice A ([] : List α).length c]).run P W = .ok v W := by
      have hfirst : ∀ k, (Builtin.firstCells k 0 (.slice A 0 c)).run P W = .ok #[] W := by
        intro k
        cases A with
        | none => simp [Builtin.firstCells]
        | some a => simp [Builtin.firstCells, loadCells, loadCellsFrom]
      rcases hown with ⟨rfl, _⟩ | ⟨g, off, cap, cur, rfl, _, _, hlc, _⟩
      · simp [Builtin.append_, run_underlying ht, sizeOf, typeInfo, hi, Builtin.lenOf, hfirst]
      · simp [Builtin.append_, run_underlying ht, sizeOf, typeInfo, hi, Builtin.lenOf, hfirst, hlc, storeCells]
    refine ⟨v, W, h0, by simpa using hown, ⟨rfl, rfl, rfl, Nat.le_refl _, fun _ _ _ => rfl⟩, .inl rfl, fun h => absurd rfl h⟩
  · rw [← hl2]
    have hne : 0 < l2.length := by rw [hl2]; simp
    obtain ⟨b, o, rfl, hb, hc⟩ : ∃ b off, A = some ⟨b, off, none⟩ ∧ b < B ∧ ∀ k x, l2[k]? = some x → ∀ j u, (E.enc x)[j]? = some u → W.cell? ⟨b, off + k * i.size + j, none⟩ = some u := by
      rcases hsrc with h | h
      · rw [h] at hne; simp at hne
      · exact h
    have hl : (l2.flatMap E.enc).length = l2.length * i.size := flat_len E l2
    have hnews : ∀ j u, (l2.flatMap E.enc)[j]? = some u → W.cell? ((⟨b, o, none⟩ : Addr).add j) = some u := by
      intro j u hj
      obtain ⟨k, x, q, hk, hq, hjk⟩ := flat_inv E l2 j u hj
      have := hc k x hk q u hq
      rw [add_plain, hjk, ← Nat.add_assoc]
      exact this
    have grown : ∀ (old : Nat), old < l.length + l2.length →
        Own (W.drew.alloc (.cells ((l.flatMap E.enc).toArray ++ (l2.flatMap E.enc).toArray ++ Builtin.zeroCells z.cells (grownCap W (l.length + l2.length) old e - (l.length + l2.length))) e)) base e E
          (.slice (some ⟨W.heap.size, 0, none⟩) (l.length + l2.length) (grownCap W (l.length + l2.length) old e)) (l ++ l2) := by
      intro old ho
      have hge := grownCap_ge W (l.length + l2.length) old e
      refine .inr ⟨W.heap.size, 0, _, _, by rw [List.length_append], hbase, heap_alloc_new W.drew _, by rw [List.length_append]; exact hge, grownCap_le_maxLen W _ old e hm, ?_, fun j u hj => ?_⟩
      · simp only [Array.size_append, List.size_toArray, size_zeroCells, T.hzs, flat_len, ← Nat.add_mul]
        refine Nat.le_of_eq ?_
        rw [Nat.zero_add]
        congr 1
        omega
      · have hlt := (List.getElem?_eq_some_iff.1 hj).1
        rw [List.flatMap_append] at hj hlt
        rw [Nat.zero_add, Array.getElem?_append_left (by simpa using hlt)]
        simpa using hj
    have gfr : ∀ (cs : Array Value) (row : Option Nat), W.grownBy (W.drew.alloc (.cells cs e)) row := fun cs row => ⟨rfl, rfl, rfl, by simp, fun k hk _ => heap_alloc_old W.drew _ hk⟩
    rcases hown with ⟨rfl, rfl⟩ | ⟨g, off, cap, cur, rfl, hbg, hg, hnc, hcm, hcs, hcur⟩
    · have hr := run_append_nil (P := P) W t ty e i z ht hi hz ⟨b, o, none⟩ l2.length c _ hl hnews hne (by omega) (by have hb := hn; simp only [List.length_nil, Nat.zero_add] at hb; omega)
      have hgr := grown 0 (by simpa using hne)
      simp only [List.length_nil, Nat.zero_add, List.nil_append, List.flatMap_nil] at hgr ⊢
      refine ⟨_, _, hr, ?_, gfr _ _, .inr rfl, fun _ => by simp⟩
      simpa using hgr
    · by_cases hroom : l.length + l2.length ≤ cap
      · have hfit : off + l.length * i.size + (l2.flatMap E.enc).length ≤ cur.size := by
          have := Nat.mul_le_mul_right i.size hroom
          rw [Nat.add_mul] at this
          rw [hl]
          omega
        have hf := run_firstCells_some (P := P) W i.size l2.length ⟨b, o, none⟩ l2.length c _ hl hnews
        have hst := run_storeCells_at P g (off + l.length * i.size) e (l2.flatMap E.enc) 0 cur W hg (by simpa using hfit) (flat_one E l2)
        simp only [Nat.add_zero] at hst
        have hr : (Builtin.append_ #[t, t] ty #[.slice (some ⟨g, off, none⟩) l.length cap, .slice (some ⟨b, o, none⟩) l2.length c]).run P W =
            .ok (.slice (some ⟨g, off, none⟩) (l.length + l2.length) cap) (W.setRow g (cur.toList.take (off + l.length * i.size) ++ l2.flatMap E.enc ++ cur.toList.drop (off + l.length * i.size + (l2.flatMap E.enc).length)).toArray) := by
          simp [Builtin.append_, run_underlying ht, sizeOf, typeInfo, hi, Builtin.lenOf, hroom, hf, add_plain, hst]
        refine ⟨_, _, hr, .inr ⟨g, off, cap, _, by rw [List.length_append], hbg, setRow_heap W g cur _ e _ hg, by rw [List.length_append]; exact hroom, hcm, ?_, fun j u hj => ?_⟩,
          ⟨rfl, rfl, rfl, by simp, fun k _ hk => setRow_other W g k _ (fun e => hk (by simp [Value.ownBlock, e]))⟩, .inl rfl, fun _ => by simp⟩
        · simp only [List.size_toArray, List.length_append, List.length_take, List.length_drop, Array.length_toList]
          omega
        · rw [List.flatMap_append] at hj
          have hlen1 : (l.flatMap E.enc).length = l.length * i.size := flat_len E l
          rw [List.getElem?_toArray]
          by_cases hj1 : j < (l.flatMap E.enc).length
          · rw [List.getElem?_append_left hj1] at hj
            have h4 := hcur j u hj
            rw [List.append_assoc, List.getElem?_append_left (by simp only [List.length_take, Array.length_toList]; omega), List.getElem?_take_of_lt (by omega), Array.getElem?_toList]
            exact h4
          · rw [List.getElem?_append_right (by omega)] at hj
            have hj2 := (List.getElem?_eq_some_iff.1 hj).1
            rw [List.append_assoc, List.getElem?_append_right (by simp only [List.length_take, Array.length_toList]; omega), List.getElem?_append_left (by simp only [List.length_take, Array.length_toList]; omega)]
            rw [← hj]
            congr 1
            simp only [List.length_take, Array.length_toList]
            omega
      · have holds : ∀ j u, (l.flatMap E.enc)[j]? = some u → W.cell? ((⟨g, off, none⟩ : Addr).add j) = some u := by
          intro j u hj
          rw [add_plain, cell_of_row _ _ _ _ _ _ hg]
          exact hcur j u hj
        have hr := run_append_grow (P := P) W t ty e i z ht hi hz ⟨g, off, none⟩ l.length cap _ (flat_len E l) holds ⟨b, o, none⟩ l2.length c _ hl hnews (by omega) (by omega) (growslice_fits (by omega) hn)
        exact ⟨_, _, hr, grown cap (by omega), gfr _ _, .inr rfl, fun _ => by simp⟩

/-- append(v, src...) in a plain region. -/
theorem wpList_app {w : World} {ops : Array Oper} {rest : List Oper} {o : Oper} {a : Act} {Q : Exit → Act → World → Prop} (T : SliceTy P t e size bytes z) (hgd : o.guard = none) (s x : Operand)
    (ho : o.op = .call { callee := .builtin .append, args := #[s, x], argTypes := #[t, t] }) (E : Enc α size) (base : Nat) (v : Value) (l : List α) (hs : a.eval s = v) (hown : Own w base e E v l)
    (A : Option Addr) (c : Nat) (l2 : List α) (B : Nat) (hx : a.eval x = .slice A l2.length c) (hsrc : Sl w B E A l2) (hn : (l.length + l2.length) * bytes ≤ 140737488355328) (hm : l.length + l2.length ≤ maxLen) (hbase : base ≤ w.heap.size)
    (h : ∀ v' w', Own w' base e E v' (l ++ l2) → w.grownBy w' v.ownBlock → (v'.ownBlock = v.ownBlock ∨ v'.ownBlock = some w.heap.size) → Below base w w' → (l2 ≠ [] → v' ≠ .slice none 0 0) →
      wpList P ops Q rest (a.put o.dst v') w') : wpList P ops Q (o :: rest) a w := by
  refine wpList_plain hgd fun K hK => ?_
  obtain ⟨v', w', hr, h2, h3, h4, h5⟩ := app_run T o.type w base v l hown A c l2 B hsrc hn hm hbase
  unfold Oper.wp execOp
  simp only [ho, resolve, invoke, builtin, Sem.run_bind, Sem.run_pure, Result.andThen_ok, List.map_toArray, List.map_cons, List.map_nil, hs, hx, hr]
  exact hK _ _ (h v' w' h2 h3 h4 ((Below.refl base w).grown h3 hbase fun k hk => (hown.lt k hk).1) h5)

theorem step_app {w : World} {ops : Array Oper} {o : Oper} {a : Act} {K : Act → World → Prop} {Q : Exit → Act → World → Prop} {F : Prop} (T : SliceTy P t e size bytes z) (hgd : o.guard = none) (s x : Operand)
    (ho : o.op = .call { callee := .builtin .append, args := #[s, x], argTypes := #[t, t] }) (E : Enc α size) (base : Nat) (v : Value) (l : List α) (hs : a.eval s = v) (hown : Own w base e E v l)
    (A : Option Addr) (c : Nat) (l2 : List α) (B : Nat) (hx : a.eval x = .slice A l2.length c) (hsrc : Sl w B E A l2) (hn : (l.length + l2.length) * bytes ≤ 140737488355328) (hm : l.length + l2.length ≤ maxLen) (hbase : base ≤ w.heap.size)
    (h : ∀ v' w', Own w' base e E v' (l ++ l2) → w.grownBy w' v.ownBlock → (v'.ownBlock = v.ownBlock ∨ v'.ownBlock = some w.heap.size) → Below base w w' → (l2 ≠ [] → v' ≠ .slice none 0 0) → K (a.put o.dst v') w') :
    if Region.wanted o (yielded ops a.tmps) = true then Oper.wp P o a w K Q else F := by
  have hw : Region.wanted o (yielded ops a.tmps) = true := by simp [Region.wanted, hgd]
  rw [if_pos hw]
  obtain ⟨v', w', hr, h2, h3, h4, h5⟩ := app_run T o.type w base v l hown A c l2 B hsrc hn hm hbase
  unfold Oper.wp execOp
  simp only [ho, resolve, invoke, builtin, Sem.run_bind, Sem.run_pure, Result.andThen_ok, List.map_toArray, List.map_cons, List.map_nil, hs, hx, hr]
  exact h v' w' h2 h3 h4 ((Below.refl base w).grown h3 hbase fun k hk => (hown.lt k hk).1) h5

theorem sl_lit (W : World) (E : Enc α size) (l : List α) (e : TypeId) (b : Nat) (hb : W.heap.size = b) : Sl (W.alloc (.cells (l.flatMap E.enc).toArray e)) (b + 1) E (some ⟨b, 0, none⟩) l := by
  subst hb
  exact .inr ⟨W.heap.size, 0, rfl, by omega, fun i x hi j u hj => by
    rw [cell_of_row _ _ _ _ _ _ (heap_alloc_new W _), Nat.zero_add]
    simpa using flat_get E l i j x u hi hj⟩

/-- append(s, x), one element: behind it the list is one longer. -/
theorem wpList_push {w : World} {ops : Array Oper} {rest : List Oper} {o : Oper} {a : Act} {Q : Exit → Act → World → Prop} (T : SliceTy P t e size bytes z) (hgd : o.guard = none) (s x : Operand)
    (ho : o.op = .call { callee := .builtin .append, args := #[s, x], argTypes := #[t, t] }) (E : Enc α size) (W : World) (base : Nat) (v : Value) (l : List α) (hs : a.eval s = v) (hown : Own W base e E v l)
    (x0 : α) (hx : a.eval x = .slice (some ⟨W.heap.size, 0, none⟩) 1 1) (hw : w = W.alloc (.cells (E.enc x0).toArray e)) (hn : (l.length + 1) * bytes ≤ 140737488355328) (hm : l.length + 1 ≤ maxLen) (hbase : base ≤ W.heap.size)
    (h : ∀ v' w', Own w' base e E v' (l ++ [x0]) → W.grownBy w' v.ownBlock → W.heap.size < w'.heap.size → (v'.ownBlock = v.ownBlock ∨ v'.ownBlock = some (W.heap.size + 1)) → Below base W w' → v' ≠ .slice none 0 0 →
      wpList P ops Q rest (a.put o.dst v') w') : wpList P ops Q (o :: rest) a w := by
  subst hw
  have hsl := sl_lit W E [x0] e _ rfl
  simp only [List.flatMap_cons, List.flatMap_nil, List.append_nil] at hsl
  refine wpList_app T hgd s x ho E base v l hs (hown.alloc _) (some ⟨W.heap.size, 0, none⟩) 1 [x0] _ (by simpa using hx) hsl (by simpa using hn) (by simpa using hm) (by simp; omega) fun v' w' h2 h3 h4 h5 h6 => ?_
  have hs := h3.size
  simp at hs
  refine h v' w' h2 ⟨h3.os, h3.tape, h3.output, by omega, fun i hi hne => (h3.block i (by simp; omega) hne).trans (Below.heap_alloc W _ i hi)⟩ (by omega) ?_ ?_ (h6 (by simp))
  · rcases h4 with h4 | h4
    · exact .inl h4
    · right; rw [h4]; simp
  · exact ((Below.refl base W).alloc hbase _).trans h5
end
/-- Of the blocks of the call only those of these types may have turned. -/
structure KeepT (T : List TypeId) (w w' : World) : Prop where
  os : w'.os = w.os
  tape : w'.tape = w.tape
  output : w'.output = w.output
  size : w.heap.size ≤ w'.heap.size
  block : ∀ (b : Nat) (o : Obj), w.heap[b]? = some o → (∀ cs t fr, o = Obj.cells cs t fr → t ∉ T) → w'.heap[b]? = some o
theorem KeepT.refl (T : List TypeId) (w : World) : KeepT T w w := ⟨rfl, rfl, rfl, Nat.le_refl _, fun _ _ h _ => h⟩
theorem KeepT.trans {T : List TypeId} {a b c : World} (h : KeepT T a b) (k : KeepT T b c) : KeepT T a c :=
  ⟨k.os.trans h.os, k.tape.trans h.tape, k.output.trans h.output, Nat.le_trans h.size k.size, fun i o hi ht => k.block i o (h.block i o hi ht) ht⟩
theorem KeepT.of_below {T : List TypeId} {a b : World} (h : Below a.heap.size a b) : KeepT T a b :=
  ⟨h.os, h.tape, h.output, h.size, fun i _ hi _ => (h.block i (lt_of_block hi)).trans hi⟩
theorem KeepT.drew {T : List TypeId} {a b : World} (h : KeepT T a b) : KeepT T a b.drew := ⟨h.os, h.tape, h.output, h.size, h.block⟩
theorem KeepT.alloc {T : List TypeId} {a b : World} (h : KeepT T a b) (o : Obj) : KeepT T a (b.alloc o) := h.trans (.of_below ((Below.refl _ _).alloc (Nat.le_refl _) o))
theorem KeepT.setCell {T : List TypeId} {a b : World} (h : KeepT T a b) {p : Addr} {cs : Array Value} {t : TypeId} {fr : Nat × Nat} (hb : b.heap[p.block]? = some (.cells cs t fr)) (ht : t ∈ T) (u : Value) : KeepT T a (b.setCell p u) :=
  h.trans ⟨rfl, rfl, rfl, by simp [World.setCell], fun i _ hi hT => by
    rw [Below.heap_setCell _ _ _ _ (by rintro rfl; rw [hb] at hi; cases hi; exact hT _ _ _ rfl ht)]
    exact hi⟩
theorem KeepT.grown {T : List TypeId} {a b c : World} {α : Type} {size : Nat} {base e : Nat} {E : Enc α size} {v : Value} {l : List α} (h : KeepT T a b) (ho : Own b base e E v l) (hg : b.grownBy c v.ownBlock) (he : e ∈ T) : KeepT T a c :=
  h.trans ⟨hg.os, hg.tape, hg.output, hg.size, fun i _ hi hT => (hg.block i (lt_of_block hi) (fun heq => by
    rcases ho with ⟨rfl, _⟩ | ⟨g1, o1, c1, u1, rfl, _, hh1, _⟩
    · cases heq
    · have : i = g1 := by simpa [Value.ownBlock] using heq
      subst this
      rw [hh1] at hi
      cases hi
      exact hT _ _ _ rfl he)).trans hi⟩
theorem KeepT.own {T : List TypeId} {a b : World} {α : Type} {size : Nat} {base e : Nat} {E : Enc α size} {v : Value} {l : List α} (h : KeepT T a b) (ho : Own a base e E v l) (he : e ∉ T) : Own b base e E v l :=
  ho.of_block fun g hv => by
    rcases ho with ⟨rfl, _⟩ | ⟨g1, o1, c1, u1, rfl, _, hh1, _⟩
    · cases hv
    · have : g1 = g := by simpa [Value.ownBlock] using hv
      subst this
      rw [hh1]
      exact h.block _ _ hh1 (by intro cs t fr e1; cases e1; exact he)


section
variable {α : Type} {size : Nat} {w : World} {base e : Nat} {E : Enc α size} {l : List α}
/-- v[:k:k] -/
theorem Own.pre {a : Addr} {n cap : Nat} (h : Own w base e E (.slice (some a) n cap) l) {k : Nat} (hk : k ≤ l.length) : Own w base e E (.slice (some a) k k) (l.take k) := by
  have hc : l.length ≤ cap := by
    rcases h with ⟨hv, _⟩ | ⟨g, off, cap', cur, hv, _, _, h1, _⟩
    · cases hv
    · cases hv; exact h1
  have := h.cut (lo := 0) (hi := k) (mx := k) (Nat.zero_le _) hk (Nat.le_refl _) (by omega)
  simp only [Nat.sub_zero, List.drop_zero, Nat.zero_mul] at this
  split at this
  · exact this
  · simpa [Addr.add] using this
/-- v[:k] -/
theorem Own.upTo {a : Addr} {n cap : Nat} (h : Own w base e E (.slice (some a) n cap) l) {k : Nat} (hk : k ≤ l.length) : Own w base e E (.slice (some a) k cap) (l.take k) := by
  have hc : l.length ≤ cap := by
    rcases h with ⟨hv, _⟩ | ⟨g, off, cap', cur, hv, _, _, h1, _⟩
    · cases hv
    · cases hv; exact h1
  have := h.cut (lo := 0) (hi := k) (mx := cap) (Nat.zero_le _) hk (by omega) (Nat.le_refl _)
  simp only [Nat.sub_zero, List.drop_zero, Nat.zero_mul] at this
  split at this
  · exact this
  · simpa [Addr.add] using this
theorem Sl.drop {B b off : Nat} (h : Sl w B E (some ⟨b, off, none⟩) l) (k : Nat) : Sl w B E (some ⟨b, off + k * size, none⟩) (l.drop k) := by
  rcases h with rfl | ⟨b', off', hA, hb, hc⟩
  · exact .inl (by simp)
  · cases hA
    refine .inr ⟨b, _, rfl, hb, fun i x hi j u hj => ?_⟩
    rw [List.getElem?_drop] at hi
    have := hc _ x hi j u hj
    rw [Nat.add_mul] at this
    rw [← this]
    congr 2
    omega
theorem Sl.take {B : Nat} {A : Option Addr} (h : Sl w B E A l) (k : Nat) : Sl w B E A (l.take k) := by
  rcases h with rfl | ⟨b, off, hA, hb, hc⟩
  · exact .inl (by simp)
  · refine .inr ⟨b, off, hA, hb, fun i x hi j u hj => hc i x ?_ j u hj⟩
    rw [List.getElem?_take] at hi
    split at hi
    · exact hi
    · cases hi
end

section
variable {α : Type} {size : Nat} {w : World} {base e : Nat} {E : Enc α size} {l : List α}
theorem Own.frozen {b off n cap : Nat} (h : Own w base e E (.slice (some ⟨b, off, none⟩) n cap) l) (j : Nat) : w.frozen? ⟨b, j, none⟩ = false := by
  rcases h with ⟨hv, _⟩ | ⟨g, o, c, cur, hv, _, hh, _⟩
  · cases hv
  · cases hv
    simp [World.frozen?, hh]
theorem idx_ne {size k k' j j' : Nat} (hj : j < size) (hj' : j' < size) (h : k ≠ k') : k * size + j ≠ k' * size + j' := by
  intro he
  rcases Nat.lt_or_gt_of_ne h with hlt | hlt
  · have := Nat.mul_le_mul_right size (Nat.succ_le_of_lt hlt)
    rw [Nat.succ_mul] at this
    omega
  · have := Nat.mul_le_mul_right size (Nat.succ_le_of_lt hlt)
    rw [Nat.succ_mul] at this
    omega
/-- v[k].field = u -/
theorem Own.setElem {b off n cap : Nat} (h : Own w base e E (.slice (some ⟨b, off, none⟩) n cap) l) (k j : Nat) (hk : k < l.length) (hj : j < size) (u : Value) (x' : α) (hx : E.enc x' = (E.enc l[k]).set j u) :
    Own (w.setCell ⟨b, off + k * size + j, none⟩ u) base e E (.slice (some ⟨b, off, none⟩) n cap) (l.set k x') := by
  rcases h with ⟨hv, _⟩ | ⟨g, o, c, cur, hv, hg, hh, h1, h2, h3, h4⟩
  · cases hv
  · cases hv
    have hin : off + k * size + j < cur.size := by
      have e0 : (k + 1) * size ≤ cap * size := Nat.mul_le_mul_right _ (by omega)
      rw [Nat.add_mul] at e0
      omega
    refine .inr ⟨b, off, cap, cur.setIfInBounds (off + k * size + j) u, by rw [List.length_set], hg, ?_, by rw [List.length_set]; exact h1, h2, by rw [Array.size_setIfInBounds]; exact h3, fun q v hq => ?_⟩
    · simp [World.setCell, Array.getElem?_modify, hh]
    · obtain ⟨k', x, q', hk', hq', hqe⟩ := flat_inv E _ q v hq
      have hql : q' < size := by
        have := (List.getElem?_eq_some_iff.1 hq').1
        rwa [E.len] at this
      rw [List.getElem?_set] at hk'
      by_cases he : k = k'
      · subst he
        rw [if_pos rfl, if_pos hk] at hk'
        cases hk'
        rw [hx, List.getElem?_set] at hq'
        by_cases he2 : j = q'
        · subst he2
          rw [if_pos rfl] at hq'
          split at hq'
          · cases hq'
            rw [hqe, ← Nat.add_assoc, Array.getElem?_setIfInBounds_self_of_lt hin]
          · cases hq'
        · rw [if_neg he2] at hq'
          rw [hqe, ← Nat.add_assoc, Array.getElem?_setIfInBounds_ne (by omega)]
          have := h4 (k * size + q') v (flat_get E l k q' _ v (List.getElem?_eq_getElem hk) hq')
          rwa [← Nat.add_assoc] at this
      · rw [if_neg he] at hk'
        have hne := idx_ne hj hql he
        rw [hqe, Array.getElem?_setIfInBounds_ne (by omega)]
        exact h4 _ v (flat_get E l k' q' x v hk' hq')
end
theorem heap_new_at (w : World) (o : Obj) (b : Nat) (hb : b = w.heap.size) : (w.alloc o).heap[b]? = some o := by subst hb; exact heap_alloc_new w o
theorem heap_new_lt (w : World) (o : Obj) (b : Nat) (hb : b < w.heap.size) : (w.alloc o).heap[b]? = w.heap[b]? := Below.heap_alloc w o b hb
/-- A block that is known whole: its cells, and that none is frozen. -/
theorem blk_cell {w : World} {b t : Nat} {cs : Array Value} {fr : Nat × Nat} (h : w.heap[b]? = some (.cells cs t fr)) (o : Nat) : w.cell? ⟨b, o, none⟩ = cs[o]? := cell_of_row _ _ _ _ _ _ h
theorem blk_frozen {w : World} {b t : Nat} {cs : Array Value} (h : w.heap[b]? = some (.cells cs t (0, 0))) (o : Nat) : w.frozen? ⟨b, o, none⟩ = false := by simp [World.frozen?, h]
/-- It is kept where another slice grows, of another element type. -/
theorem blk_grown {w w' : World} {b t : Nat} {cs : Array Value} {fr : Nat × Nat} {α : Type} {size base e : Nat} {E : Enc α size} {v : Value} {l : List α} (h : w.heap[b]? = some (.cells cs t fr)) (ho : Own w base e E v l) (hg : w.grownBy w' v.ownBlock) (hne : e ≠ t) :
    w'.heap[b]? = some (.cells cs t fr) := (hg.block b (lt_of_block h) (Ne.symm (ho.ne_block h hne))).trans h
theorem blk_grown_not {w w' : World} {b : Nat} {o : Obj} {row : Option Nat} (h : w.heap[b]? = some o) (hg : w.grownBy w' row) (hne : row ≠ some b) : w'.heap[b]? = some o := (hg.block b (lt_of_block h) (Ne.symm hne)).trans h
theorem blk_below {w w' : World} {b : Nat} {o : Obj} (h : w.heap[b]? = some o) (hb : Below w.heap.size w w') : w'.heap[b]? = some o := (hb.block b (lt_of_block h)).trans h
/-- Block b is of cells of type t. -/
def TypeAt (w : World) (b t : Nat) : Prop := ∃ cs fr, w.heap[b]? = some (.cells cs t fr)
theorem TypeAt.of {w : World} {b t : Nat} {cs : Array Value} {fr : Nat × Nat} (h : w.heap[b]? = some (.cells cs t fr)) : TypeAt w b t := ⟨cs, fr, h⟩
theorem TypeAt.setCell {w : World} {b t : Nat} {p : Addr} {u : Value} (h : TypeAt w b t) : TypeAt (w.setCell p u) b t := by
  obtain ⟨cs, fr, h⟩ := h
  by_cases hp : p.block = b
  · exact ⟨_, _, by simp only [World.setCell, Array.getElem?_modify]; rw [if_pos hp, h]; rfl⟩
  · exact ⟨cs, fr, by rw [Below.heap_setCell _ _ _ _ (Ne.symm hp)]; exact h⟩
theorem TypeAt.lt {w : World} {b t : Nat} (h : TypeAt w b t) : b < w.heap.size := by
  obtain ⟨cs, fr, h⟩ := h
  exact lt_of_block h
theorem TypeAt.below {w w' : World} {b t : Nat} (h : TypeAt w b t) (hb : Below w.heap.size w w') : TypeAt w' b t := by
  obtain ⟨cs, fr, h⟩ := h
  exact ⟨cs, fr, blk_below h hb⟩
theorem TypeAt.alloc {w : World} {b t : Nat} (h : TypeAt w b t) (o : Obj) : TypeAt (w.alloc o) b t := h.below ((Below.refl _ _).alloc (Nat.le_refl _) o)
theorem TypeAt.drew {w : World} {b t : Nat} (h : TypeAt w b t) : TypeAt w.drew b t := h
theorem Own.setCellT {α : Type} {size : Nat} {w : World} {base e t : Nat} {E : Enc α size} {v : Value} {l : List α} {p : Addr} {u : Value} (h : Own w base e E v l) (hT : TypeAt w p.block t) (hne : e ≠ t) : Own (w.setCell p u) base e E v l := by
  obtain ⟨cs, fr, hh⟩ := hT
  exact h.setCell (h.ne_block hh hne) u
theorem Own.setCellB {α : Type} {size : Nat} {w : World} {base e : Nat} {E : Enc α size} {v : Value} {l : List α} {p : Addr} {u : Value} (h : Own w base e E v l) (hp : p.block < base) : Own (w.setCell p u) base e E v l :=
  h.setCell (fun he => by have := (h.lt _ he).1; omega) u
theorem Own.len_le {α : Type} {size : Nat} {w : World} {base e n cap : Nat} {A : Option Addr} {E : Enc α size} {l : List α} (h : Own w base e E (.slice A n cap) l) : n = l.length ∧ l.length ≤ cap ∧ cap ≤ maxLen := by
  rcases h with ⟨hv, rfl⟩ | ⟨g, o, c, cur, hv, _, _, h1, h2, _⟩
  · cases hv; simp
  · cases hv; exact ⟨rfl, h1, h2⟩
theorem Own.sl {α : Type} {size : Nat} {w : World} {base e n cap : Nat} {A : Option Addr} {E : Enc α size} {l : List α} (h : Own w base e E (.slice A n cap) l) : Sl w w.heap.size E A l := by
  obtain ⟨A', cap', hv, _, _, hS, _⟩ := h.form
  cases hv
  exact hS
/-- A slice that reads as a list, in a block of cells of type e. -/
def SlT {α : Type} {size : Nat} (w : World) (e : TypeId) (E : Enc α size) (A : Option Addr) (l : List α) : Prop :=
  l = [] ∨ ∃ b off, A = some ⟨b, off, none⟩ ∧ TypeAt w b e ∧ ∀ i x, l[i]? = some x → ∀ j u, (E.enc x)[j]? = some u → w.cell? ⟨b, off + i * size + j, none⟩ = some u
section
variable {α : Type} {size : Nat} {w w' : World} {e t : TypeId} {E : Enc α size} {A : Option Addr} {l : List α}
theorem SlT.nil : SlT w e E A [] := .inl rfl
theorem SlT.sl (h : SlT w e E A l) : Sl w w.heap.size E A l := by
  rcases h with h | ⟨b, off, hA, hT, hc⟩
  · exact .inl h
  · exact .inr ⟨b, off, hA, hT.lt, hc⟩
theorem SlT.below (h : SlT w e E A l) (hb : Below w.heap.size w w') : SlT w' e E A l := by
  rcases h with h | ⟨b, off, hA, hT, hc⟩
  · exact .inl h
  · exact .inr ⟨b, off, hA, hT.below hb, fun i x hi j u hj => (hb.cell (p := ⟨b, _, none⟩) hT.lt).trans (hc i x hi j u hj)⟩
theorem SlT.alloc (h : SlT w e E A l) (o : Obj) : SlT (w.alloc o) e E A l := h.below ((Below.refl _ _).alloc (Nat.le_refl _) o)
theorem SlT.drew (h : SlT w e E A l) : SlT w.drew e E A l := h
theorem SlT.setCellT {p : Addr} {u : Value} (h : SlT w e E A l) (hp : TypeAt w p.block t) (hne : e ≠ t) : SlT (w.setCell p u) e E A l := by
  rcases h with h | ⟨b, off, hA, hT, hc⟩
  · exact .inl h
  · refine .inr ⟨b, off, hA, hT.setCell, fun i x hi j v hj => ?_⟩
    have hpb : p.block ≠ b := by
      rintro rfl
      obtain ⟨_, _, h1⟩ := hT
      obtain ⟨_, _, h2⟩ := hp
      rw [h1] at h2
      cases h2
      exact hne rfl
    rw [World.cell?_of_block (w := w) (Below.heap_setCell w p u b (Ne.symm hpb))]
    exact hc i x hi j v hj
theorem Own.slT {base n cap : Nat} (h : Own w base e E (.slice A n cap) l) : SlT w e E A l := by
  rcases h with ⟨hv, rfl⟩ | ⟨g, off, cap, cur, hv, hg, hh, h1, h2, h3, h4⟩
  · exact .inl rfl
  · cases hv
    refine .inr ⟨g, off, rfl, .of hh, fun i x hi j u hj => ?_⟩
    rw [cell_of_row _ _ _ _ _ _ hh, Nat.add_assoc]
    exact h4 _ u (flat_get E l i j x u hi hj)
theorem SlT.cell_at {b off : Nat} (h : SlT w e E (some ⟨b, off, none⟩) l) {k : Nat} (hk : k < l.length) (j : Nat) (u : Value) (hj : (E.enc l[k])[j]? = some u) : w.cell? ⟨b, off + k * size + j, none⟩ = some u := by
  rcases h with h | ⟨b', off', hA, _, hc⟩
  · subst h; simp at hk
  · cases hA; exact hc k _ (List.getElem?_eq_getElem hk) j u hj
theorem SlT.at_ (h : SlT w e E A l) {k : Nat} (hk : k < l.length) : ∃ b off, A = some ⟨b, off, none⟩ ∧ TypeAt w b e ∧ ∀ j u, (E.enc l[k])[j]? = some u → w.cell? ⟨b, off + k * size + j, none⟩ = some u := by
  rcases h with h | ⟨b, off, hA, hb, hc⟩
  · subst h; simp at hk
  · exact ⟨b, off, hA, hb, fun j u hj => hc k _ (List.getElem?_eq_getElem hk) j u hj⟩
end
end Go.Proofs.Ytalnhdfgjjhhbaa
