/- What the laws of chapter 30 are given: a call by value; a list of calls. -/
import Derived.Test.YtclkcbhghbdffaaWaveLaw
namespace Go.Proofs.Ytclkcbhghbdffaa
open Go.ChangeShapes Go.WideShapes Go.ChangeAt Go.RowKit
set_option linter.unusedVariables false

instance : Inhabited OpS := ⟨⟨0, 0, 0, 0, ⟨#[]⟩, 0⟩⟩
def encO : Enc OpS 6 := ⟨fun o => [.int .i64 o.kind, .int .i64 o.i, .int .i64 o.to_, .int .i64 o.at_, .string o.text, .int .u8 o.by_], fun _ => rfl, by intro x u hu; simp at hu; rcases hu with rfl | rfl | rfl | rfl | rfl | rfl <;> rfl⟩

theorem op_of_trod {H : Type} {enc : TypeId × Value → H} {w : World} {base : Nat} {spare : Nat → Bool} {held : Bool} {fuel : Nat} {cs : List Value} {x : DataW H × List MemPlace}
    (h : DataW.trod enc Try.prog w base spare held fuel 38 cs = some x) : ∃ o : OpS, cs = encO.enc o ∧ o.ok := by
  obtain ⟨xs, n, _, _, hlen, hxl, hf⟩ := DataW.trod_struct Try.underlying38 h
  have hC : (Try.prog).cellsOf 38 = 6 := by kernel_rfl
  rw [hC] at hlen
  have hone := Deep.hone_of (P := Try.prog) (fs := _) (by kernel_rfl : Deep.oneCellFields Try.prog (match (Try.prog).underlying 38 with | some (.struct fs) => fs | _ => #[]) = true)
  rw [Try.underlying38] at hone
  match cs, hlen with
  | [c0, c1, c2, c3, c4, c5], _ =>
    match xs, hxl with
    | [y0, y1, y2, y3, y4, y5], _ =>
      have g : ∀ i f, _ → _ := fun i f hi => by
        have := hf i f hi
        rw [(hone i f hi).1, (hone i f hi).2] at this
        exact this
      obtain ⟨k, e0, _, _⟩ := DataW.trod_int Try.underlying3 (g 0 _ rfl)
      obtain ⟨i, e1, _, _⟩ := DataW.trod_int Try.underlying3 (g 1 _ rfl)
      obtain ⟨t, e2, _, _⟩ := DataW.trod_int Try.underlying3 (g 2 _ rfl)
      obtain ⟨a, e3, _, _⟩ := DataW.trod_int Try.underlying3 (g 3 _ rfl)
      obtain ⟨tx, e4, _, h4⟩ := DataW.trod_string Try.underlying9 (g 4 _ rfl)
      obtain ⟨b, e5, _, h5⟩ := DataW.trod_int Try.underlying5 (g 5 _ rfl)
      simp at e0 e1 e2 e3 e4 e5
      subst e0 e1 e2 e3 e4 e5
      simp only [Lit.wf, Bool.and_eq_true, decide_eq_true_eq] at h5
      have hmn : IntKind.u8.min = 0 := by decide
      have hmx : IntKind.u8.max = 255 := by decide
      rw [hmn, hmx] at h5
      exact ⟨⟨k, i, t, a, tx, b⟩, rfl, h5.1, h5.2, h4⟩

theorem open_Op {H : Type} {enc : TypeId × Value → H} {w : World} {base : Nat} {spare : Nat → Bool} {held : Bool} {r : Reach} {b0 : Nat} {v : Value} {d : DataW H} {p : List MemPlace}
    (hv : Value.okWide Try.prog w r b0 38 v) (h : DataW.Trod enc Try.prog w base spare held 38 v d p) : ∃ o : OpS, v = opV o ∧ o.ok := by
  obtain ⟨cs, rfl, hsz⟩ := okWide_struct Try.underlying38 hv
  obtain ⟨fuel, hf⟩ := h
  obtain ⟨o, hc, hk⟩ := op_of_trod hf
  refine ⟨o, ?_, hk⟩
  obtain ⟨l⟩ := cs
  have : l = encO.enc o := by simpa [Value.cells] using hc
  subst this
  rfl
theorem open_Ops {H : Type} {enc : TypeId × Value → H} {w : World} {base : Nat} {spare : Nat → Bool} {held : Bool} {r : Reach} {b0 : Nat} {v : Value} {d : DataW H} {p : List MemPlace}
    (hv : Value.okWide Try.prog w r b0 31 v) (h : DataW.Trod enc Try.prog w base spare held 31 v d p) :
    ∃ (l : List OpS) (A : Option Addr) (cap : Nat), v = .slice A l.length cap ∧ Sl w w.heap.size encO A l ∧ (∀ o ∈ l, o.ok) ∧ l.length ≤ maxLen := by
  obtain ⟨a0, len, cap, rfl⟩ := okWide_slice Try.underlying31 hv
  obtain ⟨fuel, hf⟩ := h
  have hC : (Try.prog).cellsOf 38 = 6 := by kernel_rfl
  rcases Deep.open_slice Try.underlying31 hf with ⟨hcs, _⟩ | ⟨a, len', cap', m, n, D, Pl, hcs, _, hl, hm, hmm, _, hx⟩
  · simp [Value.cells] at hcs
    obtain ⟨rfl, rfl, rfl⟩ := hcs
    exact ⟨[], none, 0, rfl, .nil, by simp, by simp⟩
  · simp [Value.cells] at hcs
    obtain ⟨rfl, rfl, rfl⟩ := hcs
    have hle : len ≤ m := by rw [hmm]; split <;> omega
    have each : ∀ i, i < len → ∃ o : OpS, o.ok ∧ ∀ j u, (encO.enc o)[j]? = some u → w.cell? (a.add (i * 6 + j)) = some u := by
      intro i hi
      obtain ⟨cs', hc, ht⟩ := hx i (by omega)
      rw [hC] at hc
      obtain ⟨o, rfl, hk⟩ := op_of_trod ht
      obtain ⟨_, hcl, hat⟩ := World.cells?_some hc
      refine ⟨o, hk, fun j u hj => ?_⟩
      have hj6 : j < 6 := by have := (List.getElem?_eq_some_iff.1 hj).1; simpa [encO] using this
      rw [← Go.Deep.add_add, hat j hj6, hj]
    obtain ⟨f, hF⟩ := Deep.choose_lt each
    refine ⟨(List.range len).map f, some a, cap, by simp, ?_, ?_, by simp; omega⟩
    · by_cases h0 : len = 0
      · subst h0; exact .inl rfl
      · obtain ⟨b, off, spot⟩ := a
        have hc0 := (hF 0 (by omega)).2 0 _ rfl
        have hspot : spot = none := by simpa [Addr.add] using World.cell?_spot hc0
        subst hspot
        have hb : b < w.heap.size := by
          rcases Nat.lt_or_ge b w.heap.size with h | h
          · exact h
          · simp only [add_plain, Nat.zero_mul, Nat.add_zero] at hc0
            unfold World.cell? at hc0
            rw [Array.getElem?_eq_none h] at hc0
            cases hc0
        refine .inr ⟨b, off, rfl, hb, fun i x hi j u hj => ?_⟩
        have hlt : i < len := by
          have := (List.getElem?_eq_some_iff.1 hi).1
          simpa using this
        simp [hlt] at hi
        subst hi
        have := (hF i hlt).2 j u hj
        rw [add_plain, ← Nat.add_assoc] at this
        exact this
    · intro o ho
      obtain ⟨i, hi, rfl⟩ := List.mem_map.1 ho
      exact (hF i (List.mem_range.1 hi)).1
end Go.Proofs.Ytclkcbhghbdffaa
