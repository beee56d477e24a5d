/-
  Texts of this proof, one behind the other: Same, OpenInts.
-/
import Derived.Test.YtcjnchjmpkapmaaGreatP3
import Derived.Test.YtcjnchjmpkapmaaGreatR7
/- Reference 5: Same, of two lists that are the same. -/
set_option linter.unusedSimpArgs false namespace Go.Proofs.YtcjnchjmpkapmaaGreat
open Go.ChangeShapes Go.WideShapes Go.ChangeAt Go.RowKit
set_option linter.unusedVariables false
set_option maxRecDepth 100000

theorem ref5_Same (w : World) (A1 A2 : Option Addr) (c1 c2 : Nat) (l : List Int) (h1 : Sl w w.heap.size encZ A1 l) (h2 : Sl w w.heap.size encZ A2 l) (hm : l.length ≤ 67108864) :
    Calls Tryz.prog 28 #[.slice A1 l.length c1, .slice A2 l.length c2] w fun e w' => e = .returned (.bool true) ∧ Below w.heap.size w w' := by
  have H1 := Lib.hid h1
  have H2 := Lib.hid h2
  clear h1 h2
  go_enter Tryz.func28, Tryz.ntmps28
  go_wp2_with fail
  go_loopw [5] (fun i wr => ∃ q : Nat, q ≤ l.length ∧ i = .int .i64 q ∧ Below w.heap.size w wr) (fun i _ => l.length - (intOf i).toNat)
  case atStart => exact ⟨0, Nat.zero_le _, rfl, Below.refl _ _⟩
  case round =>
    obtain ⟨q, hq, rfl, hB⟩ := hrel
    have hsz := hB.size
    by_cases hlt : q < l.length
    · obtain ⟨b1, o1, rfl, hb1, hc1⟩ := H1.out.at_ hlt
      obtain ⟨b2, o2, rfl, hb2, hc2⟩ := H2.out.at_ hlt
      have d1 := hc1 0 (.int .i64 l[q]) rfl
      have d2 := hc2 0 (.int .i64 l[q]) rfl
      simp only [Nat.mul_one, Nat.add_zero] at d1 d2
      have e1 := (hB.cell (p := ⟨b1, o1 + q, none⟩) hb1).trans d1
      have e2 := (hB.cell (p := ⟨b2, o2 + q, none⟩) hb2).trans d2
      have lb1 : b1 < wr.heap.size := Nat.lt_of_lt_of_le hb1 hsz
      have lb2 : b2 < wr.heap.size := Nat.lt_of_lt_of_le hb2 hsz
      clear hc1 hc2 d1 d2
      go_wp2_with fail
      refine wp_region_ext (by kernel_rfl) (by kernel_rfl) ?_
      repeat (go_big_quiet_step (fail))
      refine wpQuiet_nil ?_
      intro w1 hb1
      replace hb1 := below_of_ext hb1
      have B1 : Below w.heap.size w w1 := Below.then_ (by repeat (first | with_reducible exact Below.refl _ _ | with_reducible assumption | ((with_reducible refine Below.setCell ?_ ?_ _); rotate_left; · (first | omega | exact Nat.le_refl _ | (simp <;> omega))) | (with_reducible refine Below.allocW ?_ _) | (with_reducible refine Below.drew ?_) | (with_reducible refine Below.extW ?_ _))) hb1
      have s1 : w.heap.size ≤ w1.heap.size := B1.size
      go_wp2_with fail
      go_roundw
      case rel => exact ⟨q + 1, by omega, by go_num, (by repeat (first | with_reducible exact Below.refl _ _ | with_reducible assumption | ((with_reducible refine Below.setCell ?_ ?_ _); rotate_left; · (first | omega | exact Nat.le_refl _ | (simp <;> omega))) | (with_reducible refine Below.allocW ?_ _) | (with_reducible refine Below.drew ?_) | (with_reducible refine Below.extW ?_ _)))⟩
      case measure => simp [intOf]; omega
    · obtain rfl : q = l.length := by omega
      go_wp2_with fail
      go_ret
      exact ⟨rfl, hB⟩
end Go.Proofs.YtcjnchjmpkapmaaGreat
/- A list of ints that came in. -/
namespace Go.Proofs.YtcjnchjmpkapmaaGreat
open Go.ChangeShapes Go.WideShapes Go.ChangeAt Go.RowKit
set_option linter.unusedVariables false
set_option maxRecDepth 100000

theorem open_Ints {H : Type} {enc : TypeId × Value → H} {w : World} {base : Nat} {spare : Nat → Bool} {held : Bool} {r : Reach} {b0 : Nat} {v : Value} {d : DataW H} {p : List MemPlace}
    (hv : Value.okWide Tryz.prog w r b0 49 v) (h : DataW.Trod enc Tryz.prog w base spare held 49 v d p) :
    ∃ (ks : List Int) (A : Option Addr) (cap : Nat), v = .slice A ks.length cap ∧ Sl w w.heap.size encZ A ks ∧ (∀ x ∈ ks, i64 x) ∧ ks.length ≤ maxLen := by
  obtain ⟨A, n, cap, rfl⟩ := okWide_slice Tryz.underlying49 hv
  obtain ⟨fuel, hf⟩ := h
  obtain ⟨l, A', cap', hc, rest⟩ := slice_of_trod encZ i64 Tryz.underlying49 (by kernel_rfl) (by decide) (fun fuel cs x h => by
    obtain ⟨k, e0, _, k0⟩ := DataW.trod_int Tryz.underlying3 h
    exact ⟨k, e0, i64_of_wf k0⟩) hf
  have hc' : Value.slice A n cap = .slice A' l.length cap' := by simpa [Value.cells] using hc
  rw [hc']
  exact ⟨l, A', cap', rfl, rest⟩
end Go.Proofs.YtcjnchjmpkapmaaGreat
