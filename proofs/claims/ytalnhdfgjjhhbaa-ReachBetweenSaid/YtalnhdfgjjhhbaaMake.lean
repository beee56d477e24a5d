/- make: a slice of so many elements of nought. -/
import Derived.Test.YtalnhdfgjjhhbaaTurn
import Derived.OwnWalk
namespace Go.Proofs.Ytalnhdfgjjhhbaa
open Go.ChangeShapes Go.WideShapes Go.ChangeAt Go.RowKit
set_option linter.unusedVariables false

theorem Own.of_row {α : Type} {size base e n : Nat} {w : World} {E : Enc α size} {v : Value} {l : List α} (h : w.ownsRow base e size v n (l.flatMap E.enc)) (hl : l.length = n) (hs : 0 < size) : Own w base e E v l := by
  subst hl
  obtain ⟨h1, h2⟩ := h
  rcases h2 with ⟨rfl, h0⟩ | ⟨g, cap, cur, rfl, hg, hh, hle, hm, hsz, hx⟩
  · exact .inl ⟨rfl, List.length_eq_zero_iff.1 h0⟩
  · refine .inr ⟨g, 0, cap, cur, rfl, hg, hh, hle, hm, by omega, fun j u hj => ?_⟩
    rw [← hx] at hj
    rw [List.getElem?_take] at hj
    split at hj
    · simpa using hj
    · cases hj
/-- The cells of n elements of nought. -/
theorem made_flat {α : Type} {size : Nat} (E : Enc α size) (x : α) (z : Array Value) (n : Nat) (hz : z.toList = E.enc x) (hs : 0 < size) : (madeCells z (n * size)).toList = (List.replicate n x).flatMap E.enc := by
  have hzs : z.size = size := by have := E.len x; rw [← hz] at this; simpa using this
  apply List.ext_getElem?
  intro j
  have hlen : ((List.replicate n x).flatMap E.enc).length = n * size := by rw [flat_len]; simp
  by_cases hj : j < n * size
  · have hk : j / size < n := Nat.div_lt_of_lt_mul (by rw [Nat.mul_comm]; exact hj)
    have hr : j % size < size := Nat.mod_lt _ hs
    have h1 : (List.replicate n x)[j / size]? = some x := by simp [hk]
    obtain ⟨u, h2⟩ : ∃ u, (E.enc x)[j % size]? = some u := ⟨_, List.getElem?_eq_getElem (by rw [E.len]; exact hr)⟩
    have h3 := flat_get E (List.replicate n x) (j / size) (j % size) x _ h1 h2
    rw [Nat.mul_comm, Nat.div_add_mod] at h3
    rw [h3]
    simp only [madeCells, Array.toList_map, Array.toList_range, List.getElem?_map, List.getElem?_range hj, Option.map_some]
    congr 1
    rw [hzs]
    have h4 : (z.toList)[j % size]? = some u := by rw [hz]; exact h2
    have h5 : j % size < z.size := by omega
    rw [getElem!_pos z (j % size) h5]
    simp [h5] at h4
    exact h4
  · rw [List.getElem?_eq_none (by simp [size_madeCells]; omega), List.getElem?_eq_none (by omega)]
end Go.Proofs.Ytalnhdfgjjhhbaa
