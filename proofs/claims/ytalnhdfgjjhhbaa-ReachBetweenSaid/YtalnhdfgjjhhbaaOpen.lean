/- What the laws are given: a conf, a list of nodes, and both. -/
import Derived.Test.YtalnhdfgjjhhbaaRefLoad
namespace Go.Proofs.Ytalnhdfgjjhhbaa
open Go.ChangeShapes Go.WideShapes Go.ChangeAt Go.RowKit
set_option linter.unusedVariables false
set_option maxRecDepth 100000

/-- A list of elements that comes in. -/
theorem slice_of_trod {α : Type} [Inhabited α] {size : Nat} (E : Enc α size) (ok : α → Prop) {t e : TypeId} (ht : (Try.prog).underlying t = some (.slice e)) (hC : (Try.prog).cellsOf e = size) (hs : 0 < size)
    {H : Type} {enc : TypeId × Value → H} {w : World} {base : Nat} {spare : Nat → Bool} {held : Bool} {fuel : Nat} {cs : List Value} {x : DataW H × List MemPlace}
    (el : ∀ (fuel : Nat) (cs : List Value) (x : DataW H × List MemPlace), DataW.trod enc Try.prog w base spare held fuel e cs = some x → ∃ o : α, cs = E.enc o ∧ ok o) (h : DataW.trod enc Try.prog w base spare held fuel t cs = some x) :
    ∃ (l : List α) (A : Option Addr) (cap : Nat), cs = [.slice A l.length cap] ∧ Sl w w.heap.size E A l ∧ (∀ o ∈ l, ok o) ∧ l.length ≤ maxLen := by
  rcases Deep.open_slice ht h with ⟨hcs, _⟩ | ⟨a, len, cap, m, n, D, Pl, hcs, _, hl, hm, hmm, _, hx⟩
  · exact ⟨[], none, 0, hcs, .nil, by simp, by simp⟩
  · subst hcs
    have hle : len ≤ m := by rw [hmm]; split <;> omega
    have each : ∀ i, i < len → ∃ o : α, ok o ∧ ∀ j u, (E.enc o)[j]? = some u → w.cell? (a.add (i * size + j)) = some u := by
      intro i hi
      obtain ⟨cs', hc, ht'⟩ := hx i (by omega)
      rw [hC] at hc
      obtain ⟨o, rfl, hk⟩ := el _ _ _ ht'
      obtain ⟨_, hcl, hat⟩ := World.cells?_some hc
      refine ⟨o, hk, fun j u hj => ?_⟩
      have hj6 : j < size := by have := (List.getElem?_eq_some_iff.1 hj).1; rwa [E.len] at this
      rw [← Go.Deep.add_add, hat j hj6, hj]
    obtain ⟨f, hF⟩ := Deep.choose_lt each
    refine ⟨(List.range len).map f, some a, cap, by simp, ?_, ?_, by simp; omega⟩
    · by_cases h0 : len = 0
      · subst h0; exact .inl rfl
      · obtain ⟨b, off, spot⟩ := a
        obtain ⟨u0, hu0⟩ : ∃ u, (E.enc (f 0))[0]? = some u := ⟨_, List.getElem?_eq_getElem (by rw [E.len]; exact hs)⟩
        have hc0 := (hF 0 (by omega)).2 0 _ hu0
        have hspot : spot = none := by simpa [Addr.add] using World.cell?_spot hc0
        subst hspot
        have hb : b < w.heap.size := by
          simp only [add_plain, Nat.zero_mul, Nat.add_zero] at hc0
          exact lt_of_cell hc0
        refine .inr ⟨b, off, rfl, hb, fun i x hi j u hj => ?_⟩
        have hlt : i < len := by
          have := (List.getElem?_eq_some_iff.1 hi).1
          simpa using this
        simp [hlt] at hi
        subst hi
        have := (hF i hlt).2 j u hj
        rw [add_plain, ← Nat.add_assoc] at this
        exact this
    · intro o ho
      obtain ⟨i, hi, rfl⟩ := List.mem_map.1 ho
      exact (hF i (List.mem_range.1 hi)).1
theorem i64_of_wf {n : Int} (h : (Lit.int .i64 n).wf = true) : i64 n := by
  simp only [Lit.wf, Bool.and_eq_true, decide_eq_true_eq] at h
  have hmn : IntKind.i64.min = -9223372036854775808 := by decide
  have hmx : IntKind.i64.max = 9223372036854775807 := by decide
  rw [hmn, hmx] at h
  exact h
section
variable {H : Type} {enc : TypeId × Value → H} {w : World} {base : Nat} {spare : Nat → Bool} {held : Bool} {fuel : Nat} {cs : List Value} {x : DataW H × List MemPlace}
theorem node_of_trod (h : DataW.trod enc Try.prog w base spare held fuel 59 cs = some x) : ∃ o : Nd, cs = encN.enc o ∧ i64 o.1 ∧ i64 o.2 := by
  obtain ⟨xs, n, _, _, hlen, hxl, hf⟩ := DataW.trod_struct Try.underlying59 h
  have hC : (Try.prog).cellsOf 59 = 2 := by kernel_rfl
  have hCi : (Try.prog).cellsOf 3 = 1 := by kernel_rfl
  rw [hC] at hlen
  match cs, hlen with
  | [c0, c1], _ =>
    match xs, hxl with
    | [y0, y1], _ =>
      have g0 : DataW.trod enc Try.prog w base spare held n 3 (([c0, c1].drop 0).take ((Try.prog).cellsOf 3)) = some y0 := hf 0 _ rfl
      have g1 : DataW.trod enc Try.prog w base spare held n 3 (([c0, c1].drop 1).take ((Try.prog).cellsOf 3)) = some y1 := hf 1 _ rfl
      simp only [hCi] at g0 g1
      obtain ⟨k, e0, _, k0⟩ := DataW.trod_int Try.underlying3 g0
      obtain ⟨i, e1, _, k1⟩ := DataW.trod_int Try.underlying3 g1
      simp at e0 e1
      subst e0 e1
      exact ⟨(k, i), rfl, i64_of_wf k0, i64_of_wf k1⟩
theorem conf_of_trod (h : DataW.trod enc Try.prog w base spare held fuel 23 cs = some x) : ∃ l k K : Int, cs = [.int .i64 l, .int .i64 k, .int .i64 K] ∧ i64 l ∧ i64 k ∧ i64 K := by
  obtain ⟨xs, n, _, _, hlen, hxl, hf⟩ := DataW.trod_struct Try.underlying23 h
  have hC : (Try.prog).cellsOf 23 = 3 := by kernel_rfl
  have hCi : (Try.prog).cellsOf 3 = 1 := by kernel_rfl
  rw [hC] at hlen
  match cs, hlen with
  | [c0, c1, c2], _ =>
    match xs, hxl with
    | [y0, y1, y2], _ =>
      have g0 : DataW.trod enc Try.prog w base spare held n 3 (([c0, c1, c2].drop 0).take ((Try.prog).cellsOf 3)) = some y0 := hf 0 _ rfl
      have g1 : DataW.trod enc Try.prog w base spare held n 3 (([c0, c1, c2].drop 1).take ((Try.prog).cellsOf 3)) = some y1 := hf 1 _ rfl
      have g2 : DataW.trod enc Try.prog w base spare held n 3 (([c0, c1, c2].drop 2).take ((Try.prog).cellsOf 3)) = some y2 := hf 2 _ rfl
      simp only [hCi] at g0 g1 g2
      obtain ⟨k, e0, _, k0⟩ := DataW.trod_int Try.underlying3 g0
      obtain ⟨i, e1, _, k1⟩ := DataW.trod_int Try.underlying3 g1
      obtain ⟨j, e2, _, k2⟩ := DataW.trod_int Try.underlying3 g2
      simp at e0 e1 e2
      subst e0 e1 e2
      exact ⟨k, i, j, rfl, i64_of_wf k0, i64_of_wf k1, i64_of_wf k2⟩
theorem nodes_of_trod (h : DataW.trod enc Try.prog w base spare held fuel 24 cs = some x) : ∃ (l : List Nd) (A : Option Addr) (cap : Nat), cs = [.slice A l.length cap] ∧ Sl w w.heap.size encN A l ∧ ints l ∧ l.length ≤ maxLen := by
  obtain ⟨l, A, cap, h1, h2, h3, h4⟩ := slice_of_trod encN (fun o => i64 o.1 ∧ i64 o.2) Try.underlying24 (by kernel_rfl) (by decide) (fun _ _ _ h => node_of_trod h) h
  exact ⟨l, A, cap, h1, h2, h3, h4⟩
theorem loaded_of_trod (h : DataW.trod enc Try.prog w base spare held fuel 26 cs = some x) :
    ∃ (l k K : Int) (r : List Nd) (A : Option Addr) (cap : Nat), cs = [.int .i64 l, .int .i64 k, .int .i64 K, .slice A r.length cap] ∧ Sl w w.heap.size encN A r ∧ ints r ∧ i64 l ∧ i64 k ∧ i64 K ∧ r.length ≤ maxLen := by
  obtain ⟨xs, n, _, _, hlen, hxl, hf⟩ := DataW.trod_struct Try.underlying26 h
  have hC : (Try.prog).cellsOf 26 = 4 := by kernel_rfl
  have hCi : (Try.prog).cellsOf 23 = 3 := by kernel_rfl
  have hCs : (Try.prog).cellsOf 24 = 1 := by kernel_rfl
  rw [hC] at hlen
  match cs, hlen with
  | [c0, c1, c2, c3], _ =>
    match xs, hxl with
    | [y0, y1], _ =>
      have g0 : DataW.trod enc Try.prog w base spare held n 23 (([c0, c1, c2, c3].drop 0).take ((Try.prog).cellsOf 23)) = some y0 := hf 0 _ rfl
      have g1 : DataW.trod enc Try.prog w base spare held n 24 (([c0, c1, c2, c3].drop 3).take ((Try.prog).cellsOf 24)) = some y1 := hf 1 _ rfl
      rw [hCi] at g0
      rw [hCs] at g1
      obtain ⟨l, k, K, e0, w0, w1, w2⟩ := conf_of_trod g0
      obtain ⟨r, A, cap, e1, hS, hI, hm⟩ := nodes_of_trod g1
      simp at e0 e1
      obtain ⟨rfl, rfl, rfl⟩ := e0
      subst e1
      exact ⟨l, k, K, r, A, cap, rfl, hS, hI, w0, w1, w2, hm⟩
end
/-- A conf and nodes, by value. -/
def loadedV (l k K : Int) (A : Option Addr) (n cap : Nat) : Value := .agg #[.int .i64 l, .int .i64 k, .int .i64 K, .slice A n cap]
theorem open_Loaded {H : Type} {enc : TypeId × Value → H} {w : World} {base : Nat} {spare : Nat → Bool} {held : Bool} {r : Reach} {b0 : Nat} {v : Value} {d : DataW H} {p : List MemPlace}
    (hv : Value.okWide Try.prog w r b0 26 v) (h : DataW.Trod enc Try.prog w base spare held 26 v d p) :
    ∃ (l k K : Int) (r : List Nd) (A : Option Addr) (cap : Nat), v = loadedV l k K A r.length cap ∧ Sl w w.heap.size encN A r ∧ ints r ∧ i64 l ∧ i64 k ∧ i64 K ∧ r.length ≤ maxLen := by
  obtain ⟨cs, rfl, hsz⟩ := okWide_struct Try.underlying26 hv
  obtain ⟨fuel, hf⟩ := h
  obtain ⟨l, k, K, r, A, cap, hc, rest⟩ := loaded_of_trod hf
  refine ⟨l, k, K, r, A, cap, ?_, rest⟩
  obtain ⟨c⟩ := cs
  have : c = [.int .i64 l, .int .i64 k, .int .i64 K, .slice A r.length cap] := by simpa [Value.cells] using hc
  subst this
  rfl
end Go.Proofs.Ytalnhdfgjjhhbaa
