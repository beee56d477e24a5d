/-
  Texts of this proof, one behind the other: Reach2, Table, TabOf, FitsP, Of, Gap, GapRef, Plus, Bits, EachOf, Bound, Bound2, Mean, BoundRef, Ref20Sum, Ref20Mean, Worst, Worst2, Alive20, BoundSumsW, GapBoth, GapAt, Part1, GapParts, GapEnds, Leaf, MemIn, BinsLaw, Runs, ReachRef, Edges, BinsOfP, DigCells, MemTwo, SortZ, GapIter, GapStops, GapTurn, GapApart, GapMost, GapMostY.
-/
import Derived.Deep.RegionWith
import Derived.Deep.DeepCutAuto
import Derived.Shelf.SlSorted.Search
import Derived.Laws.Externs
import Derived.Lib.SlicesCompact
import Derived.Laws.BitsLemmas
import Derived.OwnWalkIn
import Derived.Test.YtmadmlkmdnjmaaaGreatShelf
import Derived.Test.YtmadmlkmdnjmaaaGreatP2
import Derived.Test.YtmadmlkmdnjmaaaGreatP3
/- Package reach: Between and Share. -/
set_option linter.unusedSimpArgs false namespace Go.Proofs.YtmadmlkmdnjmaaaGreat
open Go.ChangeShapes Go.WideShapes Go.ChangeAt Go.RowKit
set_option linter.unusedVariables false
set_option maxRecDepth 100000

/-- What Between tells: the two weights, and the error. -/
def betw (l : Int) (r : List Nd) (a b : Int) : Int × Int × Int := if b < a then (0, 0, 2) else (betwLow l r a b, betwHigh l r a b, 0)
/-- What Share tells. -/
def share (l : Int) (r : List Nd) (a b d : Int) : Int × Int × Int :=
  if sumR r = 0 then (0, 0, 7) else if d < 1 ∨ b < a then (0, 0, 2) else (((betwLow l r a b).toNat * d.toNat / (sumR r).toNat : Nat), (upV (betwHigh l r a b).toNat d.toNat (sumR r).toNat : Nat), 0)
def bothV (t : Int × Int × Int) : Value := .tuple #[.agg #[.int .i64 t.1, .int .i64 t.2.1], .int .i64 t.2.2]
theorem betw_no {l a b : Int} {r : List Nd} (h : b < a) : bothV (betw l r a b) = .tuple #[.agg #[.int .i64 0, .int .i64 0], .int .i64 2] := by unfold betw; rw [if_pos h]; rfl
theorem betw_yes {l a b : Int} {r : List Nd} (h : ¬ b < a) : bothV (betw l r a b) = .tuple #[.agg #[.int .i64 (betwLow l r a b), .int .i64 (betwHigh l r a b)], .int .i64 0] := by unfold betw; rw [if_neg h]; rfl

theorem reach_Between (w : World) (g K l : Nat) (k : Int) (r : List Nd) (F : Nat → Prop) (a b : Int) (h : DigAt w g K l k r F) (hn : r.length ≤ 67108864) :
    Calls Tryz.prog 32 #[.pointer (some ⟨g, 0, none⟩), .int .i64 a, .int .i64 b] w fun e w' => e = .returned (bothV (betw l r a b)) ∧ Below w.heap.size w w' := by
  have HD := Lib.hid h
  clear h
  by_cases hab : b < a
  · rw [betw_no hab]
    go_enter Tryz.func32, Tryz.ntmps32
    go_wp2_with fail
    exact bodyPost_ret (v := .tuple #[.agg #[.int .i64 0, .int .i64 0], .int .i64 2]) (by simp only [results, Tryz.results32]; go_simp) rfl ⟨rfl, (by repeat (first | with_reducible exact Below.refl _ _ | with_reducible assumption | ((with_reducible refine Below.setCell ?_ ?_ _); rotate_left; · (first | omega | exact Nat.le_refl _ | (simp <;> omega))) | (with_reducible refine Below.allocW ?_ _) | (with_reducible refine Below.drew ?_) | (with_reducible refine Below.extW ?_ _)))⟩
  · rw [betw_yes hab]
    have h1 : decide (b < a) = false := by simpa using hab
    have hba : a ≤ b := by omega
    clear hab
    go_enter Tryz.func32, Tryz.ntmps32
    go_wp2_with fail
    have B0 : Below w.heap.size w (((w.alloc (.cells #[.int .i64 a] 3)).alloc (.cells #[.int .i64 b] 3)).alloc (.cells #[.int .i64 0, .int .i64 0] 51)) := (by repeat (first | with_reducible exact Below.refl _ _ | with_reducible assumption | ((with_reducible refine Below.setCell ?_ ?_ _); rotate_left; · (first | omega | exact Nat.le_refl _ | (simp <;> omega))) | (with_reducible refine Below.allocW ?_ _) | (with_reducible refine Below.drew ?_) | (with_reducible refine Below.extW ?_ _)))
    have ca : (((w.alloc (.cells #[.int .i64 a] 3)).alloc (.cells #[.int .i64 b] 3)).alloc (.cells #[.int .i64 0, .int .i64 0] 51)).cell? ⟨w.heap.size, 0, none⟩ = some (.int .i64 a) := by go_simp
    have cb : (((w.alloc (.cells #[.int .i64 a] 3)).alloc (.cells #[.int .i64 b] 3)).alloc (.cells #[.int .i64 0, .int .i64 0] 51)).cell? ⟨w.heap.size + 1, 0, none⟩ = some (.int .i64 b) := by go_simp
    have HA := Lib.hid ca
    have HB := Lib.hid cb
    clear ca cb
    refine (digest_Conf _ g K l k r F (HD.out.below B0)).mono ?_
    rintro e w1 ⟨rfl, hb1⟩
    have B1 : Below w.heap.size w w1 := Below.then_ (by repeat (first | with_reducible exact Below.refl _ _ | with_reducible assumption | ((with_reducible refine Below.setCell ?_ ?_ _); rotate_left; · (first | omega | exact Nat.le_refl _ | (simp <;> omega))) | (with_reducible refine Below.allocW ?_ _) | (with_reducible refine Below.drew ?_) | (with_reducible refine Below.extW ?_ _))) hb1
    have s1 : w.heap.size ≤ w1.heap.size := B1.size
    have z1_0 : w.heap.size < w1.heap.size := by have := hb1.size; (try simp at this); omega
    have y1_0 : w.heap.size ≤ w1.heap.size := Nat.le_of_lt z1_0
    have c1_0 := fun o => hb1.cell (p := ⟨w.heap.size, o, none⟩) (by first | omega | (simp <;> omega))
    have f1_0 := fun o => hb1.frozen (p := ⟨w.heap.size, o, none⟩) (by first | omega | (simp <;> omega))
    have z1_1 : w.heap.size + 1 < w1.heap.size := by have := hb1.size; (try simp at this); omega
    have y1_1 : w.heap.size + 1 ≤ w1.heap.size := Nat.le_of_lt z1_1
    have c1_1 := fun o => hb1.cell (p := ⟨w.heap.size + 1, o, none⟩) (by first | omega | (simp <;> omega))
    have f1_1 := fun o => hb1.frozen (p := ⟨w.heap.size + 1, o, none⟩) (by first | omega | (simp <;> omega))
    have z1_2 : w.heap.size + 1 + 1 < w1.heap.size := by have := hb1.size; (try simp at this); omega
    have y1_2 : w.heap.size + 1 + 1 ≤ w1.heap.size := Nat.le_of_lt z1_2
    have c1_2 := fun o => hb1.cell (p := ⟨w.heap.size + 1 + 1, o, none⟩) (by first | omega | (simp <;> omega))
    have f1_2 := fun o => hb1.frozen (p := ⟨w.heap.size + 1 + 1, o, none⟩) (by first | omega | (simp <;> omega))
    have KD := Lib.hid ((HD.out.below B1).below ((Below.refl w1.heap.size w1).alloc (Nat.le_refl _) (.cells #[.int .i64 l] 3)))
    have WA := (Below.refl w1.heap.size w1).alloc (Nat.le_refl _) (.cells #[.int .i64 l] 3)
    have ca := (WA.cell (p := ⟨w.heap.size, 0, none⟩) z1_0).trans ((c1_0 0).trans HA.out)
    have cb := (WA.cell (p := ⟨w.heap.size + 1, 0, none⟩) z1_1).trans ((c1_1 0).trans HB.out)
    have HA1 := Lib.hid ca
    have HB1 := Lib.hid cb
    clear ca cb WA hb1
    go_wp2_with fail
    refine (sum_Between _ g K l k r F a b w1.heap.size w.heap.size (w.heap.size + 1) KD.out hn (by go_simp) HA1.out HB1.out).mono ?_
    rintro e w2 ⟨rfl, hb2⟩
    have B2 : Below w.heap.size w w2 := Below.then_ (by repeat (first | with_reducible exact Below.refl _ _ | with_reducible assumption | ((with_reducible refine Below.setCell ?_ ?_ _); rotate_left; · (first | omega | exact Nat.le_refl _ | (simp <;> omega))) | (with_reducible refine Below.allocW ?_ _) | (with_reducible refine Below.drew ?_) | (with_reducible refine Below.extW ?_ _))) hb2
    have s2 : w.heap.size ≤ w2.heap.size := B2.size
    have z2_0 : w.heap.size + 1 + 1 < w2.heap.size := by have := hb2.size; (try simp at this); omega
    have y2_0 : w.heap.size + 1 + 1 ≤ w2.heap.size := Nat.le_of_lt z2_0
    have c2_0 := fun o => hb2.cell (p := ⟨w.heap.size + 1 + 1, o, none⟩) (by first | omega | (simp <;> omega))
    have f2_0 := fun o => hb2.frozen (p := ⟨w.heap.size + 1 + 1, o, none⟩) (by first | omega | (simp <;> omega))
    go_wp2_with fail
    exact bodyPost_ret (v := .tuple #[.agg #[.int .i64 (betwLow l r a b), .int .i64 (betwHigh l r a b)], .int .i64 0]) (by simp only [results, Tryz.results32]; go_simp) rfl ⟨rfl, (by repeat (first | with_reducible exact Below.refl _ _ | with_reducible assumption | ((with_reducible refine Below.setCell ?_ ?_ _); rotate_left; · (first | omega | exact Nat.le_refl _ | (simp <;> omega))) | (with_reducible refine Below.allocW ?_ _) | (with_reducible refine Below.drew ?_) | (with_reducible refine Below.extW ?_ _)))⟩
theorem reach_Between_nil (w : World) (a b : Int) :
    Calls Tryz.prog 32 #[.pointer none, .int .i64 a, .int .i64 b] w fun e w' => e = .returned (bothV (0, 0, 1)) ∧ Below w.heap.size w w' := by
  unfold bothV
  go_enter Tryz.func32, Tryz.ntmps32
  go_wp2_with fail
  exact bodyPost_ret (v := .tuple #[.agg #[.int .i64 0, .int .i64 0], .int .i64 1]) (by simp only [results, Tryz.results32]; go_simp) rfl ⟨rfl, (by repeat (first | with_reducible exact Below.refl _ _ | with_reducible assumption | ((with_reducible refine Below.setCell ?_ ?_ _); rotate_left; · (first | omega | exact Nat.le_refl _ | (simp <;> omega))) | (with_reducible refine Below.allocW ?_ _) | (with_reducible refine Below.drew ?_) | (with_reducible refine Below.extW ?_ _)))⟩
end Go.Proofs.YtmadmlkmdnjmaaaGreat
/- Package rank: tables. -/
namespace Go.Proofs.YtmadmlkmdnjmaaaGreat
open Go.ChangeShapes Go.WideShapes Go.ChangeAt Go.RowKit
set_option linter.unusedVariables false
set_option maxRecDepth 100000

/-- What a table says of a number. -/
def upT (t : List Nd) (x : Int) : Int := if atMost t x = 0 then 0 else (t.getD (atMost t x - 1) (0, 0)).2
theorem Tab.upT {l t : List Nd} (h : Tab l t) (x : Int) : upT t x = wUp l x := by
  unfold Go.Proofs.YtmadmlkmdnjmaaaGreat.upT
  by_cases h0 : atMost t x = 0
  · rw [if_pos h0, h.none h0]
  · have hi : atMost t x - 1 < t.length := by have := atMost_le t x; omega
    rw [if_neg h0, getD_at hi, h.some h0 hi]
theorem upTo_closure (W : World) (b2 b3 i n c2 blk off : Nat) (v2 : Value) (x y : Int) (hi : i < n) (hn : n ≤ 67108864) (h2 : W.cell? ⟨b2, 0, none⟩ = some (.slice (some ⟨blk, off, none⟩) n c2)) (h3 : W.cell? ⟨b3, 0, none⟩ = some (.int .i64 x)) (h4 : W.cell? ⟨blk, off + i, none⟩ = some (.int .i64 y)) :
    Calls Tryz.prog 169 (#[.int .i64 i] ++ #[.pointer (some ⟨b2, 0, none⟩), .pointer (some ⟨b3, 0, none⟩)]) W fun e w' => e = .returned (.bool (decide (x < y))) ∧ ∃ q os, w' = Go.Sort.grow (W.drewN q) os := by
  have hi1 : (i : Int) < (n : Int) := by omega
  go_enter Tryz.func169, Tryz.ntmps169
  go_wp2_with fail
  go_region
  all_goals go_wp2_with fail
  all_goals go_ret
  all_goals exact ⟨rfl, 1, #[], by rw [Go.Sort.grow_empty]; rfl⟩
theorem enters_upTo : ∀ args W, (callFunc 169 args).run Tryz.prog W = .ok (.enter 169 args) W := enters_of Tryz.func169 (by kernel_rfl) rfl
theorem rise_mono {t : List Nd} (hr : t.Pairwise fun a b => a.1 < b.1) (x : Int) (a b : Nat) (hab : a ≤ b) (hb : b < t.length) (h : decide (x < (t.getD a (0, 0)).1) = true) : decide (x < (t.getD b (0, 0)).1) = true := by
  rw [getD_at (by omega)] at h
  rw [getD_at hb]
  simp only [decide_eq_true_eq] at h ⊢
  rcases Nat.lt_or_ge a b with hlt | hge
  · have := List.pairwise_iff_getElem.1 hr a b (by omega) hb hlt; omega
  · obtain rfl : a = b := by omega
    exact h
theorem sums_upTo (w : World) (A1 A2 : Option Addr) (c1 c2 : Nat) (t : List Nd) (x : Int) (h1 : Sl w w.heap.size encZ A1 (t.map (·.1))) (h2 : Sl w w.heap.size encZ A2 (t.map (·.2))) (hm : t.length ≤ 67108864) (hr : t.Pairwise fun a b => a.1 < b.1) :
    Calls Tryz.prog 102 #[.agg #[.slice A1 t.length c1, .slice A2 t.length c2], .int .i64 x] w fun e w' => e = .returned (.int .i64 (upT t x)) ∧ Below w.heap.size w w' := by
  obtain ⟨W0, hW0⟩ : ∃ W0, W0 = (w.alloc (.cells #[.slice A1 t.length c1, .slice A2 t.length c2] 161)).alloc (.cells #[.int .i64 x] 3) := ⟨_, rfl⟩
  have hsz : W0.heap.size = w.heap.size + 1 + 1 := by rw [hW0]; simp
  have B0 : Below w.heap.size w W0 := by rw [hW0]; exact (by repeat (first | with_reducible exact Below.refl _ _ | with_reducible assumption | ((with_reducible refine Below.setCell ?_ ?_ _); rotate_left; · (first | omega | exact Nat.le_refl _ | (simp <;> omega))) | (with_reducible refine Below.allocW ?_ _) | (with_reducible refine Below.drew ?_) | (with_reducible refine Below.extW ?_ _)))
  have k0 : W0.cell? ⟨w.heap.size, 0, none⟩ = some (.slice A1 t.length c1) := by rw [hW0]; go_simp
  have k1 : W0.cell? ⟨w.heap.size, 1, none⟩ = some (.slice A2 t.length c2) := by rw [hW0]; go_simp
  have k2 : W0.cell? ⟨w.heap.size + 1, 0, none⟩ = some (.int .i64 x) := by rw [hW0]; go_simp
  have hS := Go.Proofs.Any.sort_Search Tryz.search 169 #[.pointer (some ⟨w.heap.size, 0, none⟩), .pointer (some ⟨w.heap.size + 1, 0, none⟩)] t.length (fun i => decide (x < (t.getD i (0, 0)).1)) W0 enters_upTo (by omega)
    (fun m os i hi => by
      rw [getD_at hi]
      rcases h1 with h1 | ⟨blk, off, rfl, hb, hc⟩
      · have : t.length = 0 := by have := congrArg List.length h1; simpa using this
        omega
      · have hc' := hc i t[i].1 (by simp [hi]) 0 (.int .i64 t[i].1) rfl
        simp only [Nat.add_zero, Nat.mul_one] at hc'
        refine upTo_closure _ w.heap.size (w.heap.size + 1) i t.length c1 blk off undef x t[i].1 hi hm (Go.cell_grown (by simp only [hsz]; omega) k0 m os) (Go.cell_grown (by simp only [hsz]; omega) k2 m os) (Go.cell_grown (by simp only [hsz]; omega) ((B0.cell (p := ⟨blk, off + i, none⟩) hb).trans hc') m os))
    (rise_mono hr x)
  have HS : Hid (Calls Tryz.prog 165 #[.int .i64 t.length, .func (.func 169) #[] #[.pointer (some ⟨w.heap.size, 0, none⟩), .pointer (some ⟨w.heap.size + 1, 0, none⟩)]] W0 fun e w' => e = .returned (.int .i64 (atMost t x)) ∧ ∃ q os, w' = Go.Sort.grow (W0.drewN q) os) := Lib.hid hS
  have hle := atMost_le t x
  have H2 := Lib.hid h2
  have HW := Lib.hid hW0
  have K1 := Lib.hid k1
  have HB0 := Lib.hid B0
  have HZ := Lib.hid hsz
  clear hS h1 h2 hr k0 k1 k2 B0 hsz hW0
  unfold upT
  generalize hk : atMost t x = k at HS hle ⊢
  clear hk
  by_cases hk0 : k = 0
  · subst hk0
    rw [if_pos rfl]
    go_enter Tryz.func102, Tryz.ntmps102
    go_wp2_with fail
    rw [← HW.out]
    refine HS.out.mono ?_
    rintro e w1 ⟨rfl, q, os, rfl⟩
    go_wp2_with fail
    go_ret
    exact ⟨rfl, HB0.out.trans (Go.Proofs.below_grown_sl w.heap.size W0 q os (by have := HZ.out; omega))⟩
  · rw [if_neg hk0]
    obtain ⟨m, rfl⟩ : ∃ m, k = m + 1 := ⟨k - 1, by omega⟩
    simp only [Nat.add_sub_cancel]
    have hm1 : m < t.length := by omega
    rw [getD_at hm1]
    have g0 : ((m + 1 : Nat) == 0) = false := by simp
    have g2 : (m : Int) < (t.length : Int) := by omega
    obtain ⟨blk, off, rfl, hb, hc⟩ := H2.out.at_ (k := m) (by simpa using hm1)
    have hc' := hc 0 (.int .i64 t[m].2) (by simp [encZ])
    simp only [Nat.add_zero, Nat.mul_one] at hc'
    generalize t[m].2 = z at hc' ⊢
    clear hc
    go_enter Tryz.func102, Tryz.ntmps102
    go_wp2_with fail
    rw [← HW.out]
    refine HS.out.mono ?_
    rintro e w1 ⟨rfl, q, os, hw1⟩
    have hB1 : Below w.heap.size w w1 := by rw [hw1]; exact HB0.out.trans (Go.Proofs.below_grown_sl w.heap.size W0 q os (by have := HZ.out; omega))
    have c1' : w1.cell? ⟨w.heap.size, 1, none⟩ = some (.slice (some ⟨blk, off, none⟩) t.length c2) := by rw [hw1]; exact Go.cell_grown (by have := HZ.out; simp only; omega) K1.out q os
    have c2' := (hB1.cell (p := ⟨blk, off + m, none⟩) hb).trans hc'
    clear hw1 hc'
    go_wp2_with fail
    go_ret
    exact ⟨rfl, hB1⟩
end Go.Proofs.YtmadmlkmdnjmaaaGreat
/- Package rank: Low, High, Both, Steps of a table; Of. -/
namespace Go.Proofs.YtmadmlkmdnjmaaaGreat
open Go.ChangeShapes Go.WideShapes Go.ChangeAt Go.RowKit
set_option linter.unusedVariables false
set_option maxRecDepth 100000

/-- A table in block g: n, and two tables; all of it in blocks from L on and below B. -/
def TabAt (w : World) (L B g : Nat) (n : Int) (lt ft : List Nd) : Prop :=
  L ≤ g ∧ g < B ∧ ∃ A1 c1 A2 c2 A3 c3 A4 c4, w.heap[g]? = some (.cells #[.int .i64 n, .slice A1 lt.length c1, .slice A2 lt.length c2, .slice A3 ft.length c3, .slice A4 ft.length c4] 164 (0, 0)) ∧
    (Own w L 3 encZ (.slice A1 lt.length c1) (lt.map (·.1)) ∧ Own w L 3 encZ (.slice A2 lt.length c2) (lt.map (·.2)) ∧ Own w L 3 encZ (.slice A3 ft.length c3) (ft.map (·.1)) ∧ Own w L 3 encZ (.slice A4 ft.length c4) (ft.map (·.2))) ∧
    ∀ A n c, (A, n, c) ∈ [(A1, lt.length, c1), (A2, lt.length, c2), (A3, ft.length, c3), (A4, ft.length, c4)] → ∀ k, (Value.slice A n c).ownBlock = some k → k < B
section
variable {w w' : World} {L B g : Nat} {n : Int} {lt ft : List Nd}
theorem TabAt.keep (h : TabAt w L B g n lt ft) (hk : ∀ b, L ≤ b → b < B → w'.heap[b]? = w.heap[b]?) : TabAt w' L B g n lt ft := by
  obtain ⟨h0, h0', A1, c1, A2, c2, A3, c3, A4, c4, h1, ⟨h2, h3, h4, h5⟩, h6⟩ := h
  refine ⟨h0, h0', A1, c1, A2, c2, A3, c3, A4, c4, (hk g h0 h0').trans h1, ⟨?_, ?_, ?_, ?_⟩, h6⟩
  · exact h2.of_block fun b hb => hk b (h2.lt b hb).1 (h6 _ _ _ (by simp) b hb)
  · exact h3.of_block fun b hb => hk b (h3.lt b hb).1 (h6 _ _ _ (by simp) b hb)
  · exact h4.of_block fun b hb => hk b (h4.lt b hb).1 (h6 _ _ _ (by simp) b hb)
  · exact h5.of_block fun b hb => hk b (h5.lt b hb).1 (h6 _ _ _ (by simp) b hb)
theorem TabAt.below (h : TabAt w L B g n lt ft) (hb : Below B w w') : TabAt w' L B g n lt ft := h.keep fun b _ hlt => hb.block b hlt
theorem TabAt.set (h : TabAt w L B g n lt ft) {p : Addr} (hp : p.block < L) (u : Value) : TabAt (w.setCell p u) L B g n lt ft := h.keep fun b hb _ => Below.heap_setCell _ _ _ _ (by omega)
theorem table_Low (x : Int) (h : TabAt w L B g n lt ft) (hm : lt.length ≤ 67108864) (hr : lt.Pairwise fun a b => a.1 < b.1) :
    Calls Tryz.prog 39 #[.pointer (some ⟨g, 0, none⟩), .int .i64 x] w fun e w' => e = .returned (.int .i64 (upT lt x)) ∧ Below w.heap.size w w' := by
  obtain ⟨h0, h0', A1, c1, A2, c2, A3, c3, A4, c4, h1, ⟨o2, o3, o4, o5⟩, h6⟩ := h
  have h2 := o2.sl
  have h3 := o3.sl
  have h4 := o4.sl
  have h5 := o5.sl
  have c := blk_cell h1
  have H2 := Lib.hid h2
  have H3 := Lib.hid h3
  have HR := Lib.hid hr
  clear h1 h2 h3 h4 h5 hr o2 o3 o4 o5 h6
  go_enter Tryz.func39, Tryz.ntmps39
  go_wp2_with fail
  refine (sums_upTo _ A1 A2 c1 c2 lt x H2.out H3.out hm HR.out).mono ?_
  rintro e w1 ⟨rfl, hb1⟩
  have B1 : Below w.heap.size w w1 := Below.then_ (by repeat (first | with_reducible exact Below.refl _ _ | with_reducible assumption | ((with_reducible refine Below.setCell ?_ ?_ _); rotate_left; · (first | omega | exact Nat.le_refl _ | (simp <;> omega))) | (with_reducible refine Below.allocW ?_ _) | (with_reducible refine Below.drew ?_) | (with_reducible refine Below.extW ?_ _))) hb1
  have s1 : w.heap.size ≤ w1.heap.size := B1.size
  go_wp2_with fail
  go_ret
  exact ⟨rfl, (by repeat (first | with_reducible exact Below.refl _ _ | with_reducible assumption | ((with_reducible refine Below.setCell ?_ ?_ _); rotate_left; · (first | omega | exact Nat.le_refl _ | (simp <;> omega))) | (with_reducible refine Below.allocW ?_ _) | (with_reducible refine Below.drew ?_) | (with_reducible refine Below.extW ?_ _)))⟩
theorem table_High (x : Int) (h : TabAt w L B g n lt ft) (hm : ft.length ≤ 67108864) (hr : ft.Pairwise fun a b => a.1 < b.1) :
    Calls Tryz.prog 40 #[.pointer (some ⟨g, 0, none⟩), .int .i64 x] w fun e w' => e = .returned (.int .i64 (upT ft x)) ∧ Below w.heap.size w w' := by
  obtain ⟨h0, h0', A1, c1, A2, c2, A3, c3, A4, c4, h1, ⟨o2, o3, o4, o5⟩, h6⟩ := h
  have h2 := o2.sl
  have h3 := o3.sl
  have h4 := o4.sl
  have h5 := o5.sl
  have c := blk_cell h1
  have H2 := Lib.hid h4
  have H3 := Lib.hid h5
  have HR := Lib.hid hr
  clear h1 h2 h3 h4 h5 hr o2 o3 o4 o5 h6
  go_enter Tryz.func40, Tryz.ntmps40
  go_wp2_with fail
  refine (sums_upTo _ A3 A4 c3 c4 ft x H2.out H3.out hm HR.out).mono ?_
  rintro e w1 ⟨rfl, hb1⟩
  have B1 : Below w.heap.size w w1 := Below.then_ (by repeat (first | with_reducible exact Below.refl _ _ | with_reducible assumption | ((with_reducible refine Below.setCell ?_ ?_ _); rotate_left; · (first | omega | exact Nat.le_refl _ | (simp <;> omega))) | (with_reducible refine Below.allocW ?_ _) | (with_reducible refine Below.drew ?_) | (with_reducible refine Below.extW ?_ _))) hb1
  have s1 : w.heap.size ≤ w1.heap.size := B1.size
  go_wp2_with fail
  go_ret
  exact ⟨rfl, (by repeat (first | with_reducible exact Below.refl _ _ | with_reducible assumption | ((with_reducible refine Below.setCell ?_ ?_ _); rotate_left; · (first | omega | exact Nat.le_refl _ | (simp <;> omega))) | (with_reducible refine Below.allocW ?_ _) | (with_reducible refine Below.drew ?_) | (with_reducible refine Below.extW ?_ _)))⟩
theorem table_Both (x : Int) (h : TabAt w L B g n lt ft) (hBw : B ≤ w.heap.size) (hm : lt.length ≤ 67108864) (hr : lt.Pairwise fun a b => a.1 < b.1) (hm2 : ft.length ≤ 67108864) (hr2 : ft.Pairwise fun a b => a.1 < b.1) :
    Calls Tryz.prog 41 #[.pointer (some ⟨g, 0, none⟩), .int .i64 x] w fun e w' => e = .returned (.agg #[.int .i64 (upT lt x), .int .i64 (upT ft x)]) ∧ Below w.heap.size w w' := by
  have HA := Lib.hid (h.below ((Below.refl B w).alloc hBw (.cells #[.int .i64 0, .int .i64 0] 51)))
  have HR := Lib.hid hr
  have HR2 := Lib.hid hr2
  clear h hr hr2
  go_enter Tryz.func41, Tryz.ntmps41
  go_wp2_with fail
  refine (table_Low x HA.out hm HR.out).mono ?_
  rintro e w1 ⟨rfl, hb1⟩
  have B1 : Below w.heap.size w w1 := Below.then_ (by repeat (first | with_reducible exact Below.refl _ _ | with_reducible assumption | ((with_reducible refine Below.setCell ?_ ?_ _); rotate_left; · (first | omega | exact Nat.le_refl _ | (simp <;> omega))) | (with_reducible refine Below.allocW ?_ _) | (with_reducible refine Below.drew ?_) | (with_reducible refine Below.extW ?_ _))) hb1
  have s1 : w.heap.size ≤ w1.heap.size := B1.size
  have z1_0 : w.heap.size < w1.heap.size := by have := hb1.size; (try simp at this); omega
  have y1_0 : w.heap.size ≤ w1.heap.size := Nat.le_of_lt z1_0
  have c1_0 := fun o => hb1.cell (p := ⟨w.heap.size, o, none⟩) (by first | omega | (simp <;> omega))
  have f1_0 := fun o => hb1.frozen (p := ⟨w.heap.size, o, none⟩) (by first | omega | (simp <;> omega))
  have HA1 := Lib.hid (HA.out.below (hb1.mono (by simp; omega)))
  have K := Lib.hid ((bothAt.new w 0 0).below hb1)
  go_wp2_with fail
  refine (table_High x HA1.out hm2 HR2.out).mono ?_
  rintro e w2 ⟨rfl, hb2⟩
  have B2 : Below w.heap.size w w2 := Below.then_ (by repeat (first | with_reducible exact Below.refl _ _ | with_reducible assumption | ((with_reducible refine Below.setCell ?_ ?_ _); rotate_left; · (first | omega | exact Nat.le_refl _ | (simp <;> omega))) | (with_reducible refine Below.allocW ?_ _) | (with_reducible refine Below.drew ?_) | (with_reducible refine Below.extW ?_ _))) hb2
  have s2 : w.heap.size ≤ w2.heap.size := B2.size
  have k := K.out.below hb2
  have cc := blk_cell k
  have cf := blk_frozen k
  have zz := lt_of_block k
  clear k
  go_wp2_with fail
  exact bodyPost_ret (v := .agg #[.int .i64 (upT lt x), .int .i64 (upT ft x)]) (by simp only [results, Tryz.results41]; go_simp) rfl ⟨rfl, (by repeat (first | with_reducible exact Below.refl _ _ | with_reducible assumption | ((with_reducible refine Below.setCell ?_ ?_ _); rotate_left; · (first | omega | exact Nat.le_refl _ | (simp <;> omega))) | (with_reducible refine Below.allocW ?_ _) | (with_reducible refine Below.drew ?_) | (with_reducible refine Below.extW ?_ _)))⟩
end
@[go_sem] theorem run_eqZ_nil (w : World) (A : Option Addr) (n c : Nat) : (binOp .eql 49 (.slice A n c) (.slice none 0 0)).run Tryz.prog w = .ok (.bool A.isNone) w := Lib.run_eql_slice_nil w _ _ A n c 0 0 Tryz.underlying49
theorem clone_Z (w : World) (A : Option Addr) (cap : Nat) (l : List Int) (hS : Sl w w.heap.size encZ A l) (hn : l.length ≤ 67108864) :
    Calls Tryz.prog 103 #[.slice A l.length cap] w (OwnPost 3 encZ l w) := by
  rcases A with _ | a
  · have h0 : l = [] := by
      rcases hS with h | ⟨b, off, hA, _⟩
      · exact h
      · cases hA
    subst h0
    go_enter Tryz.func103, Tryz.ntmps103
    go_wp2_with fail
    go_ret
    exact ⟨_, rfl, Own.nil _ _ _ _, (by repeat (first | with_reducible exact Below.refl _ _ | with_reducible assumption | ((with_reducible refine Below.setCell ?_ ?_ _); rotate_left; · (first | omega | exact Nat.le_refl _ | (simp <;> omega))) | (with_reducible refine Below.allocW ?_ _) | (with_reducible refine Below.drew ?_) | (with_reducible refine Below.extW ?_ _)))⟩
  · have HS := Lib.hid hS
    clear hS
    go_enter Tryz.func103, Tryz.ntmps103
    go_wp2_with ((at_builtin; refine wpList_app tyZ rfl _ _ rfl encZ w.heap.size (.slice (some ⟨w.heap.size, 0, none⟩) 0 0) [] rfl ?ho (some a) cap l w.heap.size rfl ?hs ?c1 ?c2 ?c3 ?c4))
    case ho => exact .inr ⟨w.heap.size, 0, 0, #[], rfl, Nat.le_refl _, heap_alloc_new w _, Nat.le_refl _, by simp, by simp, fun j u hj => by simp at hj⟩
    case hs => exact HS.out.keep (Nat.le_refl _) fun p hp => ((Below.refl w.heap.size w).alloc (Nat.le_refl _) _).cell hp
    case c1 => simp; omega
    case c2 => simp [maxLen]; omega
    case c3 => simp
    case c4 =>
      intro v' w1 ho1 _ _ hb1 _
      have B1 : Below w.heap.size w w1 := ((Below.refl w.heap.size w).alloc (Nat.le_refl _) _).trans hb1
      have HO1 := Lib.hid (show Own w1 w.heap.size 3 encZ v' l by simpa using ho1)
      clear ho1
      go_wp2_with fail
      go_ret
      exact ⟨_, rfl, HO1.out, B1⟩
theorem table_Steps {w : World} {L B g : Nat} {n : Int} {lt ft : List Nd} (h : TabAt w L B g n lt ft) (hm : lt.length ≤ 67108864) :
    Calls Tryz.prog 42 #[.pointer (some ⟨g, 0, none⟩)] w (OwnPost 3 encZ (lt.map (·.1)) w) := by
  obtain ⟨h0, h0', A1, c1, A2, c2, A3, c3, A4, c4, h1, ⟨o2, o3, o4, o5⟩, h6⟩ := h
  have h2 := o2.sl
  have h3 := o3.sl
  have h4 := o4.sl
  have h5 := o5.sl
  have c := blk_cell h1
  have HC := Lib.hid (clone_Z w A1 c1 (lt.map (·.1)) h2 (by simpa using hm))
  rw [List.length_map] at HC
  clear h1 h2 h3 h4 h5 o2 o3 o4 o5 h6
  go_enter Tryz.func42, Tryz.ntmps42
  go_wp2_with fail
  refine HC.out.mono ?_
  rintro e w1 ⟨v, rfl, ho, hb⟩
  have HO := Lib.hid ho
  clear ho
  go_wp2_with fail
  go_ret
  exact ⟨_, rfl, HO.out, hb⟩
end Go.Proofs.YtmadmlkmdnjmaaaGreat
/- The ends of the nodes of a roll that fits. -/
namespace Go.Proofs.YtmadmlkmdnjmaaaGreat
open Go.ChangeShapes Go.WideShapes Go.ChangeAt Go.RowKit
set_option linter.unusedVariables false

theorem ends_48 {l : Nat} (hl : l ≤ 48) {id : Int} (h : isNode l id = true) : 0 ≤ (endsOf l id).1 ∧ (endsOf l id).1 ≤ (endsOf l id).2.1 ∧ (endsOf l id).2.1 ≤ 281474976710655 := by
  have h1 := ends_bounds h
  have h2 := pow_48 (n := l) hl
  omega
theorem Fits.nodes {l : Nat} {r : List Nd} (hf : Fits l r) (hl : 1 ≤ l ∧ l ≤ 48) : ∀ x ∈ r, isNode l x.1 = true := by
  intro x hx
  have h1 := (hf.roll.2 x hx).1
  have h2 := hf.lt x hx
  simp only [isNode, decide_eq_true_eq, Int.toNat_natCast]
  omega
end Go.Proofs.YtmadmlkmdnjmaaaGreat
/- Package rank: Of: a digest's table. -/
namespace Go.Proofs.YtmadmlkmdnjmaaaGreat
open Go.ChangeShapes Go.WideShapes Go.ChangeAt Go.RowKit
set_option linter.unusedVariables false
set_option maxRecDepth 100000

/-- Where nodes end, and begin, and what they weigh. -/
def lastL (l : Int) (r : List Nd) : List Nd := r.map fun x => ((endsOf l x.1).2.1, x.2)
def firstL (l : Int) (r : List Nd) : List Nd := r.map fun x => ((endsOf l x.1).1, x.2)
theorem low_up (l : Int) (r : List Nd) (y : Int) : wUp (lastL l r) y = lowOf l r y := by
  induction r with
  | nil => rfl
  | cons x r ih =>
    simp only [lastL, List.map_cons, wUp, lowOf, weighR, decide_eq_true_eq] at ih ⊢
    rw [ih]
theorem high_up (l : Int) (r : List Nd) (y : Int) : wUp (firstL l r) y = highOf l r y := by
  induction r with
  | nil => rfl
  | cons x r ih =>
    simp only [firstL, List.map_cons, wUp, highOf, weighR, decide_eq_true_eq] at ih ⊢
    rw [ih]
theorem sum_last (l : Int) (r : List Nd) : sumR (lastL l r) = sumR r := by
  induction r with
  | nil => rfl
  | cons x r ih => simp only [lastL, List.map_cons, sumR] at ih ⊢; rw [ih]
theorem sum_first (l : Int) (r : List Nd) : sumR (firstL l r) = sumR r := by
  induction r with
  | nil => rfl
  | cons x r ih => simp only [firstL, List.map_cons, sumR] at ih ⊢; rw [ih]
theorem tyRd : SliceTy Tryz.prog 29 128 2 16 (.agg #[.int .i64 0, .int .i64 0]) := ⟨Tryz.underlying29, by kernel_rfl, rfl, by decide⟩
/-- A digest's table. -/
def OfPost (l : Int) (r : List Nd) (w : World) (e : Ending) (w' : World) : Prop :=
  ∃ g lt ft, e = .returned (.pointer (some ⟨g, 0, none⟩)) ∧ TabAt w' w.heap.size w'.heap.size g (sumR r) lt ft ∧ Tab (lastL l r) lt ∧ Tab (firstL l r) ft ∧ lt.length ≤ r.length ∧ ft.length ≤ r.length ∧ Below w.heap.size w w'
/-- Two lists of readings that grow. -/
structure TwoR (W : World) (B : Nat) (U1 : Value) (L1 : List Nd) (U2 : Value) (L2 : List Nd) : Prop where
  own1 : Own W B 128 encN U1 L1
  own2 : Own W B 128 encN U2 L2
  sep : Sep U1 U2
section
variable {W W' : World} {B : Nat} {U1 U1' : Value} {L1 L1' : List Nd} {U2 U2' : Value} {L2 L2' : List Nd}
theorem TwoR.below (h : TwoR W B U1 L1 U2 L2) (hb : Below W.heap.size W W') : TwoR W' B U1 L1 U2 L2 := ⟨h.own1.below hb, h.own2.below hb, h.sep⟩
theorem TwoR.app1 (h : TwoR W B U1 L1 U2 L2) {k : Nat} (hg : W.grownBy W' U1.ownBlock) (ho : Own W' B 128 encN U1' L1') (hl : U1'.ownBlock = U1.ownBlock ∨ U1'.ownBlock = some (W.heap.size + k)) : TwoR W' B U1' L1' U2 L2 :=
  ⟨ho, h.own2.kept hg (by
    cases e : U2.ownBlock with
    | none => exact .inl rfl
    | some g => exact .inr fun he => h.sep g (by rw [← he]) e), fun g h1 h2 => by
      rcases hl with hl | hl
      · exact h.sep g (hl ▸ h1) h2
      · rw [hl] at h1; cases h1; have := (h.own2.lt _ h2).2; omega⟩
theorem TwoR.app2 (h : TwoR W B U1 L1 U2 L2) {k : Nat} (hg : W.grownBy W' U2.ownBlock) (ho : Own W' B 128 encN U2' L2') (hl : U2'.ownBlock = U2.ownBlock ∨ U2'.ownBlock = some (W.heap.size + k)) : TwoR W' B U1 L1 U2' L2' :=
  ⟨h.own1.kept hg (by
    cases e : U1.ownBlock with
    | none => exact .inl rfl
    | some g => exact .inr fun he => h.sep g e (by rw [← he])), ho, fun g h1 h2 => by
      rcases hl with hl | hl
      · exact h.sep g h1 (hl ▸ h2)
      · rw [hl] at h2; cases h2; have := (h.own1.lt _ h1).2; omega⟩
end
theorem take_last {l : Int} {r : List Nd} {q : Nat} (h : q < r.length) : lastL l (r.take (q + 1)) = lastL l (r.take q) ++ [((endsOf l r[q].1).2.1, r[q].2)] := by
  unfold lastL; rw [List.take_succ_eq_append_getElem h, List.map_append]; rfl
theorem take_first {l : Int} {r : List Nd} {q : Nat} (h : q < r.length) : firstL l (r.take (q + 1)) = firstL l (r.take q) ++ [((endsOf l r[q].1).1, r[q].2)] := by
  unfold firstL; rw [List.take_succ_eq_append_getElem h, List.map_append]; rfl
theorem rank_Of_nil (w : World) : Calls Tryz.prog 37 #[.pointer none] w fun e w' => e = .returned (.pointer none) ∧ Below w.heap.size w w' := by
  go_enter Tryz.func37, Tryz.ntmps37
  go_wp2_with fail
  go_ret
  exact ⟨rfl, (by repeat (first | with_reducible exact Below.refl _ _ | with_reducible assumption | ((with_reducible refine Below.setCell ?_ ?_ _); rotate_left; · (first | omega | exact Nat.le_refl _ | (simp <;> omega))) | (with_reducible refine Below.allocW ?_ _) | (with_reducible refine Below.drew ?_) | (with_reducible refine Below.extW ?_ _)))⟩
set_option maxHeartbeats 2000000 in
theorem rank_Of (w : World) (g K l : Nat) (k : Int) (r : List Nd) (F : Nat → Prop) (h : DigAt w g K l k r F) (hn : r.length ≤ 67108864) :
    Calls Tryz.prog 37 #[.pointer (some ⟨g, 0, none⟩)] w (OfPost l r w) := by
  have hf := h.fits
  have hll := h.l_le
  have HD := Lib.hid h
  have hnd := hf.nodes hll
  have hlast : ∀ x ∈ lastL l r, 0 ≤ x.1 ∧ x.1 ≤ 281474976710655 := fun x hx => by
    obtain ⟨y, hy, rfl⟩ := List.mem_map.1 hx
    have := ends_48 hll.2 (hnd y hy); simp only; omega
  have hfirst : ∀ x ∈ firstL l r, 0 ≤ x.1 ∧ x.1 ≤ 281474976710655 := fun x hx => by
    obtain ⟨y, hy, rfl⟩ := List.mem_map.1 hx
    have := ends_48 hll.2 (hnd y hy); simp only; omega
  have hlast1 : ∀ x ∈ lastL l r, 1 ≤ x.2 := fun x hx => by obtain ⟨y, hy, rfl⟩ := List.mem_map.1 hx; exact (hf.roll.2 y hy).2
  have hfirst1 : ∀ x ∈ firstL l r, 1 ≤ x.2 := fun x hx => by obtain ⟨y, hy, rfl⟩ := List.mem_map.1 hx; exact (hf.roll.2 y hy).2
  have ML := Lib.hid (fun W base v (ho : Own W base 128 encN v (lastL l r)) => rank_made W base v (lastL l r) ho hlast hlast1 (by rw [sum_last]; exact hf.sum) (by simpa [lastL] using hn))
  have MF := Lib.hid (fun W base v (ho : Own W base 128 encN v (firstL l r)) => rank_made W base v (firstL l r) ho hfirst hfirst1 (by rw [sum_first]; exact hf.sum) (by simpa [firstL] using hn))
  clear h hlast hfirst hlast1 hfirst1 hnd
  go_enter Tryz.func37, Tryz.ntmps37
  go_wp2_with fail
  refine (digest_Conf _ g K l k r F HD.out).mono ?_
  rintro e w1 ⟨rfl, hb1⟩
  have B1 : Below w.heap.size w w1 := Below.then_ (by repeat (first | with_reducible exact Below.refl _ _ | with_reducible assumption | ((with_reducible refine Below.setCell ?_ ?_ _); rotate_left; · (first | omega | exact Nat.le_refl _ | (simp <;> omega))) | (with_reducible refine Below.allocW ?_ _) | (with_reducible refine Below.drew ?_) | (with_reducible refine Below.extW ?_ _))) hb1
  have s1 : w.heap.size ≤ w1.heap.size := B1.size
  have HD1 := Lib.hid (HD.out.below B1)
  go_wp2_with fail
  refine (digest_Nodes _ g K l k r F HD1.out hn).mono ?_
  rintro e w2 ⟨v, rfl, ho, hb2⟩
  have B2 : Below w.heap.size w w2 := Below.then_ (by repeat (first | with_reducible exact Below.refl _ _ | with_reducible assumption | ((with_reducible refine Below.setCell ?_ ?_ _); rotate_left; · (first | omega | exact Nat.le_refl _ | (simp <;> omega))) | (with_reducible refine Below.allocW ?_ _) | (with_reducible refine Below.drew ?_) | (with_reducible refine Below.extW ?_ _))) hb2
  have s2 : w.heap.size ≤ w2.heap.size := B2.size
  have HO := Lib.hid ho
  have HB2 := Lib.hid B2
  obtain ⟨A, cap, rfl, _⟩ := ho.form
  clear ho hb1 hb2 B1 B2
  go_wp2_with fail
  go_loopw [3, 4, 19] (fun f t i wr => ∃ (q : Nat) (v1 v2 : Value), q ≤ r.length ∧ i = .int .i64 q ∧ f = v1 ∧ t = v2 ∧ TwoR wr w2.heap.size v1 (firstL l (r.take q)) v2 (lastL l (r.take q)) ∧ Own wr w1.heap.size 116 encN (.slice A r.length cap) r ∧ Below w.heap.size w wr ∧ w2.heap.size ≤ wr.heap.size) (fun _ _ i _ => r.length - (intOf i).toNat)
  case atStart => exact ⟨0, .slice none 0 0, .slice none 0 0, Nat.zero_le _, rfl, rfl, rfl, ⟨Own.nil _ _ _ _, Own.nil _ _ _ _, (fun g h => by cases h)⟩, HO.out, HB2.out, Nat.le_refl _⟩
  case round =>
    obtain ⟨q, v1, v2, hq, rfl, rfl, rfl, htwo, hown, hB, hs⟩ := hrel
    have KT := Lib.hid htwo
    have KO := Lib.hid hown
    have KB := Lib.hid hB
    clear htwo hown
    by_cases hlt : q < r.length
    · obtain ⟨c, off, rfl, hc, hcl⟩ := KO.out.sl.at_ hlt
      have d0 := hcl 0 (.int .i64 r[q].1) rfl
      have d1 := hcl 1 (.int .i64 r[q].2) rfl
      simp only [Nat.add_zero] at d0
      have hxl := hf.lt _ (List.getElem_mem hlt)
      have hp := pow_48 (n := l) hll.2
      have TL := Lib.hid (take_last (l := l) hlt)
      have TF := Lib.hid (take_first (l := l) hlt)
      obtain ⟨x, hxe⟩ : ∃ x, x = r[q] := ⟨_, rfl⟩
      rw [← hxe] at d0 d1 hxl TL TF
      have hx1 : x.1 ≤ 562949953421312 := by omega
      have HE := Lib.hid (twig_Ends · l x.1 (by omega))
      have lf : (firstL l (r.take q)).length = q := by simp [firstL]; omega
      have ll : (lastL l (r.take q)).length = q := by simp [lastL]; omega
      have LF := Lib.hid lf
      have LL := Lib.hid ll
      generalize endsOf l x.1 = t at HE TL TF
      obtain ⟨t1, t2, t3⟩ := t
      simp only at TL TF
      unfold endsV at HE
      clear hcl hxe hxl hp lf ll
      go_wp2_with fail
      refine (HE.out _).mono ?_
      rintro e w3 ⟨rfl, hb3⟩
      have c3 := fun o => hb3.cell (p := ⟨wr.heap.size, o, none⟩) (by simp)
      have z3 : wr.heap.size < w3.heap.size := by have := hb3.size; simp at this; omega
      have BW : Below wr.heap.size wr w3 := ((Below.refl wr.heap.size wr).alloc (Nat.le_refl _) _).trans (hb3.mono (by simp))
      have T3 := Lib.hid (KT.out.below BW)
      have O3 := Lib.hid (KO.out.below BW)
      have B3 := Lib.hid (KB.out.trans (BW.mono KB.out.size))
      clear BW hb3
      go_wp2_with ((at_builtin; refine wpList_push tyRd rfl _ _ rfl encN w3 w2.heap.size u3 _ rfl T3.out.own1 (t1, x.2) (by go_simp) rfl ?c1 ?c2 ?c3 ?c4))
      case c1 => have := LF.out; omega
      case c2 => have := LF.out; simp only [maxLen]; omega
      case c3 => omega
      case c4 =>
        intro v1' w4 ho4 hg4 hz4 hl4 hb4 _
        have T4 := Lib.hid (T3.out.app1 hg4 ho4 hl4)
        have O4 := Lib.hid (O3.out.kept hg4 (own_ne O3.out T3.out.own1 (by decide)))
        have s2w : w.heap.size ≤ w2.heap.size := HB2.out.size
        have B4 := Lib.hid (B3.out.trans (hb4.mono s2w))
        have ow1 : ∀ g, (u3 : Value).ownBlock = some g → g < wr.heap.size := fun g hg => (KT.out.own1.lt g hg).2
        have c4 := fun o => (grown_cell hg4 wr.heap.size z3 (fun h => by have := ow1 _ h; omega) o).trans (c3 o)
        have z4 : wr.heap.size < w4.heap.size := by omega
        clear ho4 hg4 hl4 hb4 ow1 c3
        go_wp2_with ((at_builtin; refine wpList_push tyRd rfl _ _ rfl encN w4 w2.heap.size u4 _ rfl T4.out.own2 (t2, x.2) (by go_simp) rfl ?c1 ?c2 ?c3 ?c4))
        case c1 => have := LL.out; omega
        case c2 => have := LL.out; simp only [maxLen]; omega
        case c3 => omega
        case c4 =>
          intro v2' w5 ho5 hg5 hz5 hl5 hb5 _
          have T5 := Lib.hid (T4.out.app2 hg5 ho5 hl5)
          have O5 := Lib.hid (O4.out.kept hg5 (own_ne O4.out T4.out.own2 (by decide)))
          have B5 := Lib.hid (B4.out.trans (hb5.mono s2w))
          have z5 : w2.heap.size ≤ w5.heap.size := by omega
          clear ho5 hg5 hl5 hb5
          go_wp2_with fail
          go_roundw
          case rel => exact ⟨q + 1, v1', v2', by omega, by go_num, rfl, rfl, by rw [TF.out, TL.out]; exact T5.out, O5.out, B5.out, z5⟩
          case measure => simp [intOf]; omega
    · obtain rfl : q = r.length := by omega
      rw [List.take_length] at KT
      have s2w : w.heap.size ≤ w2.heap.size := HB2.out.size
      have HDr := Lib.hid (HD.out.below KB.out)
      go_wp2_with fail
      refine (digest_N _ g K l k r F HDr.out).mono ?_
      rintro e w3 ⟨rfl, hb3⟩
      have B3 : Below w.heap.size w w3 := Below.then_ (by repeat (first | with_reducible exact Below.refl _ _ | with_reducible assumption | ((with_reducible refine Below.setCell ?_ ?_ _); rotate_left; · (first | omega | exact Nat.le_refl _ | (simp <;> omega))) | (with_reducible refine Below.allocW ?_ _) | (with_reducible refine Below.drew ?_) | (with_reducible refine Below.extW ?_ _))) hb3
      have s3 : w.heap.size ≤ w3.heap.size := B3.size
      have T3 := Lib.hid (KT.out.below hb3)
      go_wp2_with fail
      refine (ML.out w3 _ _ T3.out.own2).mono ?_
      rintro e w4 ⟨lt, A1, c1, A2, c2, rfl, htl, hll1, o1, o2, hT4⟩
      have B4 := Lib.hid (hT4.below (base := w2.heap.size) (fun b hb => (T3.out.own2.lt b hb).1) (by have := hb3.size; omega))
      have F4 := Lib.hid (hT4.own T3.out.own1 (fun b hb => T3.out.sep b hb))
      have P1 := Lib.hid o1
      have P2 := Lib.hid o2
      have HTL := Lib.hid htl
      have HLL := Lib.hid hll1
      have hs4 := hT4.size
      have hfb := Lib.hid (fun b hb => (T3.out.own1.lt b hb).2)
      clear o1 o2 htl hll1 hT4
      go_wp2_with fail
      refine (MF.out w4 _ _ F4.out).mono ?_
      rintro e w5 ⟨ft, A3, c3, A4, c4, rfl, htf, hll2, o3, o4, hT5⟩
      have B5 := Lib.hid (hT5.below (base := w2.heap.size) (fun b hb => (F4.out.lt b hb).1) (by have := hb3.size; omega))
      have Q1 := Lib.hid (hT5.own P1.out (fun b hb hf => by have := (P1.out.lt b hb).1; have := hfb.out b hf; omega))
      have Q2 := Lib.hid (hT5.own P2.out (fun b hb hf => by have := (P2.out.lt b hb).1; have := hfb.out b hf; omega))
      have Q3 := Lib.hid o3
      have Q4 := Lib.hid o4
      have HTF := Lib.hid htf
      have HLL2 := Lib.hid hll2
      clear o3 o4 htf hll2 hT5
      go_wp2_with fail
      go_ret
      have BF : Below w.heap.size w w5 := (B3.trans ((B4.out.trans B5.out).mono s2w))
      have l1 := (Q1.out.alloc (.cells #[.int .i64 (sumR r), .slice A1 lt.length c1, .slice A2 lt.length c2, .slice A3 ft.length c3, .slice A4 ft.length c4] 164)).base_le (b := w.heap.size) (by have := BF.size; have := hb3.size; omega)
      have l2 := (Q2.out.alloc (.cells #[.int .i64 (sumR r), .slice A1 lt.length c1, .slice A2 lt.length c2, .slice A3 ft.length c3, .slice A4 ft.length c4] 164)).base_le (b := w.heap.size) (by have := BF.size; have := hb3.size; omega)
      have l3 := (Q3.out.alloc (.cells #[.int .i64 (sumR r), .slice A1 lt.length c1, .slice A2 lt.length c2, .slice A3 ft.length c3, .slice A4 ft.length c4] 164)).base_le (b := w.heap.size) (by have := B4.out.size; have := hb3.size; omega)
      have l4 := (Q4.out.alloc (.cells #[.int .i64 (sumR r), .slice A1 lt.length c1, .slice A2 lt.length c2, .slice A3 ft.length c3, .slice A4 ft.length c4] 164)).base_le (b := w.heap.size) (by have := B4.out.size; have := hb3.size; omega)
      refine ⟨w5.heap.size, lt, ft, rfl, ⟨BF.size, by simp, A1, c1, A2, c2, A3, c3, A4, c4, heap_alloc_new w5 _, ⟨l1, l2, l3, l4⟩, fun A n c hm k hk => ?_⟩, HTL.out, HTF.out, by have := HLL.out; simpa [lastL] using this, by have := HLL2.out; simpa [firstL] using this, BF.alloc (by have := BF.size; omega) _⟩
      simp only [List.mem_cons, List.not_mem_nil, or_false, Prod.mk.injEq] at hm
      rcases hm with ⟨rfl, rfl, rfl⟩ | ⟨rfl, rfl, rfl⟩ | ⟨rfl, rfl, rfl⟩ | ⟨rfl, rfl, rfl⟩
      · exact (l1.lt k hk).2
      · exact (l2.lt k hk).2
      · exact (l3.lt k hk).2
      · exact (l4.lt k hk).2
end Go.Proofs.YtmadmlkmdnjmaaaGreat
/- Package gap: less, wrong, side, Side. -/
namespace Go.Proofs.YtmadmlkmdnjmaaaGreat
open Go.ChangeShapes Go.WideShapes Go.ChangeAt Go.RowKit
set_option linter.unusedVariables false
set_option maxRecDepth 100000

theorem table_N {w : World} {L B g : Nat} {n : Int} {lt ft : List Nd} (h : TabAt w L B g n lt ft) :
    Calls Tryz.prog 38 #[.pointer (some ⟨g, 0, none⟩)] w fun e w' => e = .returned (.int .i64 n) ∧ Below w.heap.size w w' := by
  obtain ⟨h0, h0', A1, c1, A2, c2, A3, c3, A4, c4, h1, _, _⟩ := h
  have c := blk_cell h1
  have z := lt_of_block h1
  clear h1
  go_enter Tryz.func38, Tryz.ntmps38
  go_wp2_with fail
  go_ret
  exact ⟨rfl, (by repeat (first | with_reducible exact Below.refl _ _ | with_reducible assumption | ((with_reducible refine Below.setCell ?_ ?_ _); rotate_left; · (first | omega | exact Nat.le_refl _ | (simp <;> omega))) | (with_reducible refine Below.allocW ?_ _) | (with_reducible refine Below.drew ?_) | (with_reducible refine Below.extW ?_ _)))⟩
theorem gap_less (w : World) (a b c d : Nat) (ha : a ≤ 9223372036854775807) (hb : b ≤ 9223372036854775807) (hc : c ≤ 9223372036854775807) (hd : d ≤ 9223372036854775807) :
    Calls Tryz.prog 177 #[.int .i64 a, .int .i64 b, .int .i64 c, .int .i64 d] w fun e w' => e = .returned (.bool (decide (a * d < c * b))) ∧ Below w.heap.size w w' := by
  have HO := Lib.hid (reckon_Order · a d c b ha hd hc hb)
  have e : decide (a * d < c * b) = decide (ordV a d c b < 0) := by unfold ordV; rw [decide_eq_decide]; exact (cmpV_lt _ _).symm
  rw [e]
  generalize ordV a d c b = o at HO
  clear e
  go_enter Tryz.func177, Tryz.ntmps177
  go_wp2_with fail
  refine (HO.out _).mono ?_
  rintro e w1 ⟨rfl, hb1⟩
  have B1 : Below w.heap.size w w1 := Below.then_ (by repeat (first | with_reducible exact Below.refl _ _ | with_reducible assumption | ((with_reducible refine Below.setCell ?_ ?_ _); rotate_left; · (first | omega | exact Nat.le_refl _ | (simp <;> omega))) | (with_reducible refine Below.allocW ?_ _) | (with_reducible refine Below.drew ?_) | (with_reducible refine Below.extW ?_ _))) hb1
  have s1 : w.heap.size ≤ w1.heap.size := B1.size
  go_wp2_with fail
  go_ret
  exact ⟨rfl, B1⟩
/-- What is wrong with two. -/
def gapErr (l m : Int) (a b : List Nd) : Int := if l ≠ m then 6 else if sumR a = 0 ∨ sumR b = 0 then 7 else 0
def sideN (n m pl ph ql qh : Nat) : Int := if qh * n < pl * m then 1 else if ph * m < ql * n then -1 else 0
set_option maxHeartbeats 1000000 in
theorem gap_side (w : World) (x : Int) {L1 B1 g1 L2 B2 g2 : Nat} {lt1 ft1 lt2 ft2 : List Nd} (n m pl ph ql qh : Nat) (h1 : TabAt w L1 B1 g1 n lt1 ft1) (h2 : TabAt w L2 B2 g2 m lt2 ft2) (b1 : B1 ≤ w.heap.size) (b2 : B2 ≤ w.heap.size)
    (m1 : lt1.length ≤ 67108864) (r1 : lt1.Pairwise fun a b => a.1 < b.1) (m1' : ft1.length ≤ 67108864) (r1' : ft1.Pairwise fun a b => a.1 < b.1) (m2 : lt2.length ≤ 67108864) (r2 : lt2.Pairwise fun a b => a.1 < b.1) (m2' : ft2.length ≤ 67108864) (r2' : ft2.Pairwise fun a b => a.1 < b.1)
    (e1 : upT lt1 x = pl) (e2 : upT ft1 x = ph) (e3 : upT lt2 x = ql) (e4 : upT ft2 x = qh) (k1 : n ≤ 9223372036854775807) (k2 : m ≤ 9223372036854775807) (k3 : pl ≤ 9223372036854775807) (k4 : ph ≤ 9223372036854775807) (k5 : ql ≤ 9223372036854775807) (k6 : qh ≤ 9223372036854775807) :
    Calls Tryz.prog 111 #[.pointer (some ⟨g1, 0, none⟩), .pointer (some ⟨g2, 0, none⟩), .int .i64 x] w fun e w' => e = .returned (.int .i64 (sideN n m pl ph ql qh)) ∧ Below w.heap.size w w' := by
  have HB1 := Lib.hid (fun W (h : TabAt W L1 B1 g1 n lt1 ft1) (hb : B1 ≤ W.heap.size) => table_Both x h hb m1 r1 m1' r1')
  have HB2 := Lib.hid (fun W (h : TabAt W L2 B2 g2 m lt2 ft2) (hb : B2 ≤ W.heap.size) => table_Both x h hb m2 r2 m2' r2')
  rw [e1, e2] at HB1
  rw [e3, e4] at HB2
  have T1 := Lib.hid h1
  have T2 := Lib.hid h2
  have HL1 := Lib.hid (fun W => gap_less W qh m pl n k6 k2 k3 k1)
  have HL2 := Lib.hid (fun W => gap_less W ph n ql m k4 k1 k5 k2)
  clear h1 h2 r1 r2 r1' r2' e1 e2 e3 e4
  have hcase : (decide (qh * n < pl * m) = true ∧ sideN n m pl ph ql qh = 1) ∨ (decide (qh * n < pl * m) = false ∧ decide (ph * m < ql * n) = true ∧ sideN n m pl ph ql qh = -1) ∨ (decide (qh * n < pl * m) = false ∧ decide (ph * m < ql * n) = false ∧ sideN n m pl ph ql qh = 0) := by
    unfold sideN
    by_cases d1 : qh * n < pl * m
    · exact .inl ⟨by simpa using d1, by rw [if_pos d1]⟩
    · by_cases d2 : ph * m < ql * n
      · exact .inr (.inl ⟨by simpa using d1, by simpa using d2, by rw [if_neg d1, if_pos d2]⟩)
      · exact .inr (.inr ⟨by simpa using d1, by simpa using d2, by rw [if_neg d1, if_neg d2]⟩)
  rcases hcase with ⟨f1, f3⟩ | ⟨f1, f2, f3⟩ | ⟨f1, f2, f3⟩
  all_goals (
    rw [f1] at HL1
    (try rw [f2] at HL2)
    rw [f3]
    clear f1 f3
    (try clear f2)
    go_enter Tryz.func111, Tryz.ntmps111
    go_wp2_with fail
    refine (HB1.out _ T1.out b1).mono ?_
    rintro e w1 ⟨rfl, hb1⟩
    have s1 := hb1.size
    have U1 := Lib.hid (T1.out.below (hb1.mono b1))
    have U2 := Lib.hid (T2.out.below (hb1.mono b2))
    have BB1 := Lib.hid hb1
    clear hb1
    go_wp2_with fail
    refine (HB2.out _ U2.out (by omega)).mono ?_
    rintro e w2 ⟨rfl, hb2⟩
    have s2 := hb2.size
    have V1 := Lib.hid (U1.out.below (hb2.mono (by omega)))
    have V2 := Lib.hid (U2.out.below (hb2.mono (by omega)))
    have BB2 := Lib.hid (BB1.out.trans (hb2.mono s1))
    clear hb2
    go_wp2_with fail
    have BA : Below w2.heap.size w2 ((w2.alloc (.cells #[.int .i64 pl, .int .i64 ph] 51)).alloc (.cells #[.int .i64 ql, .int .i64 qh] 51)) := ((Below.refl _ _).alloc (Nat.le_refl _) _).alloc (by simp) _
    have P3 : Hid (bothAt ((w2.alloc (.cells #[.int .i64 pl, .int .i64 ph] 51)).alloc (.cells #[.int .i64 ql, .int .i64 qh] 51)) w2.heap.size pl ph) := Lib.hid ((bothAt.new w2 pl ph).alloc _)
    have Q3 : Hid (bothAt ((w2.alloc (.cells #[.int .i64 pl, .int .i64 ph] 51)).alloc (.cells #[.int .i64 ql, .int .i64 qh] 51)) (w2.heap.size + 1) ql qh) := Lib.hid (heap_new_at _ _ (w2.heap.size + 1) (by simp))
    have BB3 := Lib.hid (BB2.out.trans (BA.mono (Nat.le_trans s1 s2)))
    have s3 := BA.size
    have T3 : Hid (TabAt ((w2.alloc (.cells #[.int .i64 pl, .int .i64 ph] 51)).alloc (.cells #[.int .i64 ql, .int .i64 qh] 51)) L1 B1 g1 n lt1 ft1 ∧ TabAt ((w2.alloc (.cells #[.int .i64 pl, .int .i64 ph] 51)).alloc (.cells #[.int .i64 ql, .int .i64 qh] 51)) L2 B2 g2 m lt2 ft2 ∧ B1 ≤ ((w2.alloc (.cells #[.int .i64 pl, .int .i64 ph] 51)).alloc (.cells #[.int .i64 ql, .int .i64 qh] 51)).heap.size ∧ B2 ≤ ((w2.alloc (.cells #[.int .i64 pl, .int .i64 ph] 51)).alloc (.cells #[.int .i64 ql, .int .i64 qh] 51)).heap.size) := Lib.hid ⟨V1.out.below (BA.mono (by omega)), V2.out.below (BA.mono (by omega)), by omega, by omega⟩
    clear BA
    generalize (w2.alloc (.cells #[.int .i64 pl, .int .i64 ph] 51)).alloc (.cells #[.int .i64 ql, .int .i64 qh] 51) = W3 at P3 Q3 BB3 s3 T3 ⊢
    have cp := blk_cell P3.out
    have cq := blk_cell Q3.out
    have zp := lt_of_block P3.out
    have zq := lt_of_block Q3.out)
  · refine wp_region_ext (by kernel_rfl) (by kernel_rfl) ?_
    repeat (go_big_quiet_step (first
      | (go_at_call_of 38 (Value.pointer (some ⟨g1, 0, none⟩)); exact quiet_ext (table_N (T3.out.1.below ((ext_below _ _).mono T3.out.2.2.1))))
      | (go_at_call_of 38 (Value.pointer (some ⟨g2, 0, none⟩)); exact quiet_ext (table_N (T3.out.2.1.below ((ext_below _ _).mono T3.out.2.2.2))))
      | (go_at_call 177; exact quiet_ext (HL1.out _))))
    have BX := BB3.out
    refine wpQuiet_nil ?_
    intro w4 hb4
    replace hb4 := below_of_ext hb4
    have B4 : Below w.heap.size w w4 := Below.then_ (by repeat (first | with_reducible exact Below.refl _ _ | with_reducible assumption | ((with_reducible refine Below.setCell ?_ ?_ _); rotate_left; · (first | omega | exact Nat.le_refl _ | (simp <;> omega))) | (with_reducible refine Below.allocW ?_ _) | (with_reducible refine Below.drew ?_) | (with_reducible refine Below.extW ?_ _))) hb4
    have s4 : w.heap.size ≤ w4.heap.size := B4.size
    go_wp2_with fail
    go_ret
    exact ⟨rfl, BB3.out.trans (hb4.mono BB3.out.size)⟩
  · refine wp_region_ext (by kernel_rfl) (by kernel_rfl) ?_
    repeat (go_big_quiet_step (first
      | (go_at_call_of 38 (Value.pointer (some ⟨g1, 0, none⟩)); exact quiet_ext (table_N (T3.out.1.below ((ext_below _ _).mono T3.out.2.2.1))))
      | (go_at_call_of 38 (Value.pointer (some ⟨g2, 0, none⟩)); exact quiet_ext (table_N (T3.out.2.1.below ((ext_below _ _).mono T3.out.2.2.2))))
      | (go_at_call 177; exact quiet_ext (HL1.out _))))
    have BX := BB3.out
    refine wpQuiet_nil ?_
    intro w4 hb4
    replace hb4 := below_of_ext hb4
    have B4 : Below w.heap.size w w4 := Below.then_ (by repeat (first | with_reducible exact Below.refl _ _ | with_reducible assumption | ((with_reducible refine Below.setCell ?_ ?_ _); rotate_left; · (first | omega | exact Nat.le_refl _ | (simp <;> omega))) | (with_reducible refine Below.allocW ?_ _) | (with_reducible refine Below.drew ?_) | (with_reducible refine Below.extW ?_ _))) hb4
    have s4 : w.heap.size ≤ w4.heap.size := B4.size
    have P4 := Lib.hid (P3.out.below hb4)
    have Q4 := Lib.hid (Q3.out.below hb4)
    have BB4 := Lib.hid (BB3.out.trans (hb4.mono BB3.out.size))
    have s4' := hb4.size
    have T4 : Hid (TabAt w4 L1 B1 g1 n lt1 ft1 ∧ TabAt w4 L2 B2 g2 m lt2 ft2 ∧ B1 ≤ w4.heap.size ∧ B2 ≤ w4.heap.size) := Lib.hid ⟨T3.out.1.below (hb4.mono T3.out.2.2.1), T3.out.2.1.below (hb4.mono T3.out.2.2.2), Nat.le_trans T3.out.2.2.1 s4', Nat.le_trans T3.out.2.2.2 s4'⟩
    clear cp cq zp zq
    have cp := blk_cell P4.out
    have cq := blk_cell Q4.out
    have zp := lt_of_block P4.out
    have zq := lt_of_block Q4.out
    go_wp2_with fail
    refine wp_region_ext (by kernel_rfl) (by kernel_rfl) ?_
    repeat (go_big_quiet_step (first
      | (go_at_call_of 38 (Value.pointer (some ⟨g1, 0, none⟩)); exact quiet_ext (table_N (T4.out.1.below ((ext_below _ _).mono T4.out.2.2.1))))
      | (go_at_call_of 38 (Value.pointer (some ⟨g2, 0, none⟩)); exact quiet_ext (table_N (T4.out.2.1.below ((ext_below _ _).mono T4.out.2.2.2))))
      | (go_at_call 177; exact quiet_ext (HL2.out _))))
    have BY := BB4.out
    refine wpQuiet_nil ?_
    intro w5 hb5
    replace hb5 := below_of_ext hb5
    have B5 : Below w.heap.size w w5 := Below.then_ (by repeat (first | with_reducible exact Below.refl _ _ | with_reducible assumption | ((with_reducible refine Below.setCell ?_ ?_ _); rotate_left; · (first | omega | exact Nat.le_refl _ | (simp <;> omega))) | (with_reducible refine Below.allocW ?_ _) | (with_reducible refine Below.drew ?_) | (with_reducible refine Below.extW ?_ _))) hb5
    have s5 : w.heap.size ≤ w5.heap.size := B5.size
    go_wp2_with fail
    go_ret
    exact ⟨rfl, BB4.out.trans (hb5.mono BB4.out.size)⟩
  · refine wp_region_ext (by kernel_rfl) (by kernel_rfl) ?_
    repeat (go_big_quiet_step (first
      | (go_at_call_of 38 (Value.pointer (some ⟨g1, 0, none⟩)); exact quiet_ext (table_N (T3.out.1.below ((ext_below _ _).mono T3.out.2.2.1))))
      | (go_at_call_of 38 (Value.pointer (some ⟨g2, 0, none⟩)); exact quiet_ext (table_N (T3.out.2.1.below ((ext_below _ _).mono T3.out.2.2.2))))
      | (go_at_call 177; exact quiet_ext (HL1.out _))))
    have BX := BB3.out
    refine wpQuiet_nil ?_
    intro w4 hb4
    replace hb4 := below_of_ext hb4
    have B4 : Below w.heap.size w w4 := Below.then_ (by repeat (first | with_reducible exact Below.refl _ _ | with_reducible assumption | ((with_reducible refine Below.setCell ?_ ?_ _); rotate_left; · (first | omega | exact Nat.le_refl _ | (simp <;> omega))) | (with_reducible refine Below.allocW ?_ _) | (with_reducible refine Below.drew ?_) | (with_reducible refine Below.extW ?_ _))) hb4
    have s4 : w.heap.size ≤ w4.heap.size := B4.size
    have P4 := Lib.hid (P3.out.below hb4)
    have Q4 := Lib.hid (Q3.out.below hb4)
    have BB4 := Lib.hid (BB3.out.trans (hb4.mono BB3.out.size))
    have s4' := hb4.size
    have T4 : Hid (TabAt w4 L1 B1 g1 n lt1 ft1 ∧ TabAt w4 L2 B2 g2 m lt2 ft2 ∧ B1 ≤ w4.heap.size ∧ B2 ≤ w4.heap.size) := Lib.hid ⟨T3.out.1.below (hb4.mono T3.out.2.2.1), T3.out.2.1.below (hb4.mono T3.out.2.2.2), Nat.le_trans T3.out.2.2.1 s4', Nat.le_trans T3.out.2.2.2 s4'⟩
    clear cp cq zp zq
    have cp := blk_cell P4.out
    have cq := blk_cell Q4.out
    have zp := lt_of_block P4.out
    have zq := lt_of_block Q4.out
    go_wp2_with fail
    refine wp_region_ext (by kernel_rfl) (by kernel_rfl) ?_
    repeat (go_big_quiet_step (first
      | (go_at_call_of 38 (Value.pointer (some ⟨g1, 0, none⟩)); exact quiet_ext (table_N (T4.out.1.below ((ext_below _ _).mono T4.out.2.2.1))))
      | (go_at_call_of 38 (Value.pointer (some ⟨g2, 0, none⟩)); exact quiet_ext (table_N (T4.out.2.1.below ((ext_below _ _).mono T4.out.2.2.2))))
      | (go_at_call 177; exact quiet_ext (HL2.out _))))
    have BY := BB4.out
    refine wpQuiet_nil ?_
    intro w5 hb5
    replace hb5 := below_of_ext hb5
    have B5 : Below w.heap.size w w5 := Below.then_ (by repeat (first | with_reducible exact Below.refl _ _ | with_reducible assumption | ((with_reducible refine Below.setCell ?_ ?_ _); rotate_left; · (first | omega | exact Nat.le_refl _ | (simp <;> omega))) | (with_reducible refine Below.allocW ?_ _) | (with_reducible refine Below.drew ?_) | (with_reducible refine Below.extW ?_ _))) hb5
    have s5 : w.heap.size ≤ w5.heap.size := B5.size
    go_wp2_with fail
    go_ret
    exact ⟨rfl, BB4.out.trans (hb5.mono BB4.out.size)⟩
theorem gap_wrong (w : World) (g1 K1 l1 g2 K2 l2 : Nat) (k1 k2 : Int) (r1 r2 : List Nd) (F1 F2 : Nat → Prop) (h1 : DigAt w g1 K1 l1 k1 r1 F1) (h2 : DigAt w g2 K2 l2 k2 r2 F2) :
    Calls Tryz.prog 110 #[.pointer (some ⟨g1, 0, none⟩), .pointer (some ⟨g2, 0, none⟩)] w fun e w' => e = .returned (.int .i64 (gapErr l1 l2 r1 r2)) ∧ Below w.heap.size w w' := by
  have HD1 := Lib.hid h1
  have HD2 := Lib.hid h2
  have HC1 := Lib.hid (digest_Conf · g1 K1 l1 k1 r1 F1 ·)
  have HC2 := Lib.hid (digest_Conf · g2 K2 l2 k2 r2 F2 ·)
  have HN1 := Lib.hid (digest_N · g1 K1 l1 k1 r1 F1 ·)
  have HN2 := Lib.hid (digest_N · g2 K2 l2 k2 r2 F2 ·)
  have q1 := h1.l_le
  have q2 := h2.l_le
  have hcase : (((l1 : Int) == (l2 : Int)) = false ∧ gapErr l1 l2 r1 r2 = 6) ∨ (l1 = l2 ∧ sumR r1 = 0 ∧ gapErr l1 l2 r1 r2 = 7) ∨ (l1 = l2 ∧ (sumR r1 == 0) = false ∧ sumR r2 = 0 ∧ gapErr l1 l2 r1 r2 = 7) ∨ (l1 = l2 ∧ (sumR r1 == 0) = false ∧ (sumR r2 == 0) = false ∧ gapErr l1 l2 r1 r2 = 0) := by
    unfold gapErr
    by_cases c1 : (l1 : Int) = l2
    · have c1' : l1 = l2 := by omega
      by_cases c2 : sumR r1 = 0
      · exact .inr (.inl ⟨c1', c2, by rw [if_neg (not_not_intro c1), if_pos (.inl c2)]⟩)
      · by_cases c3 : sumR r2 = 0
        · exact .inr (.inr (.inl ⟨c1', by simpa using c2, c3, by rw [if_neg (not_not_intro c1), if_pos (.inr c3)]⟩))
        · exact .inr (.inr (.inr ⟨c1', by simpa using c2, by simpa using c3, by rw [if_neg (not_not_intro c1), if_neg (by simp [c2, c3])]⟩))
    · exact .inl ⟨by simpa using c1, by rw [if_pos c1]⟩
  clear h1 h2
  rcases hcase with ⟨f1, fe⟩ | ⟨f1, f2, fe⟩ | ⟨f1, f2, f3, fe⟩ | ⟨f1, f2, f3, fe⟩
  · rw [fe]
    clear fe HN1 HN2
    go_enter Tryz.func110, Tryz.ntmps110
    go_wp2_with fail
    refine (HC1.out _ HD1.out).mono ?_
    rintro e w1 ⟨rfl, hb1⟩
    have B1 : Below w.heap.size w w1 := Below.then_ (by repeat (first | with_reducible exact Below.refl _ _ | with_reducible assumption | ((with_reducible refine Below.setCell ?_ ?_ _); rotate_left; · (first | omega | exact Nat.le_refl _ | (simp <;> omega))) | (with_reducible refine Below.allocW ?_ _) | (with_reducible refine Below.drew ?_) | (with_reducible refine Below.extW ?_ _))) hb1
    have s1 : w.heap.size ≤ w1.heap.size := B1.size
    go_wp2_with fail
    refine (HC2.out _ (HD2.out.below hb1)).mono ?_
    rintro e w2 ⟨rfl, hb2⟩
    have B2 : Below w.heap.size w w2 := Below.then_ (by repeat (first | with_reducible exact Below.refl _ _ | with_reducible assumption | ((with_reducible refine Below.setCell ?_ ?_ _); rotate_left; · (first | omega | exact Nat.le_refl _ | (simp <;> omega))) | (with_reducible refine Below.allocW ?_ _) | (with_reducible refine Below.drew ?_) | (with_reducible refine Below.extW ?_ _))) hb2
    have s2 : w.heap.size ≤ w2.heap.size := B2.size
    go_wp2_with fail
    go_ret
    exact ⟨rfl, (by repeat (first | with_reducible exact Below.refl _ _ | with_reducible assumption | ((with_reducible refine Below.setCell ?_ ?_ _); rotate_left; · (first | omega | exact Nat.le_refl _ | (simp <;> omega))) | (with_reducible refine Below.allocW ?_ _) | (with_reducible refine Below.drew ?_) | (with_reducible refine Below.extW ?_ _)))⟩
  · subst f1
    rw [fe]
    rw [f2] at HN1
    clear fe f2 HN2
    go_enter Tryz.func110, Tryz.ntmps110
    go_wp2_with fail
    refine (HC1.out _ HD1.out).mono ?_
    rintro e w1 ⟨rfl, hb1⟩
    have B1 : Below w.heap.size w w1 := Below.then_ (by repeat (first | with_reducible exact Below.refl _ _ | with_reducible assumption | ((with_reducible refine Below.setCell ?_ ?_ _); rotate_left; · (first | omega | exact Nat.le_refl _ | (simp <;> omega))) | (with_reducible refine Below.allocW ?_ _) | (with_reducible refine Below.drew ?_) | (with_reducible refine Below.extW ?_ _))) hb1
    have s1 : w.heap.size ≤ w1.heap.size := B1.size
    have D1 := Lib.hid (HD1.out.below hb1)
    have D2 := Lib.hid (HD2.out.below hb1)
    go_wp2_with fail
    refine (HC2.out _ D2.out).mono ?_
    rintro e w2 ⟨rfl, hb2⟩
    have B2 : Below w.heap.size w w2 := Below.then_ (by repeat (first | with_reducible exact Below.refl _ _ | with_reducible assumption | ((with_reducible refine Below.setCell ?_ ?_ _); rotate_left; · (first | omega | exact Nat.le_refl _ | (simp <;> omega))) | (with_reducible refine Below.allocW ?_ _) | (with_reducible refine Below.drew ?_) | (with_reducible refine Below.extW ?_ _))) hb2
    have s2 : w.heap.size ≤ w2.heap.size := B2.size
    go_wp2_with fail
    refine (HN1.out _ (D1.out.below hb2)).mono ?_
    rintro e w3 ⟨rfl, hb3⟩
    have B3 : Below w.heap.size w w3 := Below.then_ (by repeat (first | with_reducible exact Below.refl _ _ | with_reducible assumption | ((with_reducible refine Below.setCell ?_ ?_ _); rotate_left; · (first | omega | exact Nat.le_refl _ | (simp <;> omega))) | (with_reducible refine Below.allocW ?_ _) | (with_reducible refine Below.drew ?_) | (with_reducible refine Below.extW ?_ _))) hb3
    have s3 : w.heap.size ≤ w3.heap.size := B3.size
    go_wp2_with fail
    go_ret
    exact ⟨rfl, (by repeat (first | with_reducible exact Below.refl _ _ | with_reducible assumption | ((with_reducible refine Below.setCell ?_ ?_ _); rotate_left; · (first | omega | exact Nat.le_refl _ | (simp <;> omega))) | (with_reducible refine Below.allocW ?_ _) | (with_reducible refine Below.drew ?_) | (with_reducible refine Below.extW ?_ _)))⟩
  · subst f1
    rw [fe]
    rw [f3] at HN2
    generalize sumR r1 = n at HN1 f2
    clear fe f3
    go_enter Tryz.func110, Tryz.ntmps110
    go_wp2_with fail
    refine (HC1.out _ HD1.out).mono ?_
    rintro e w1 ⟨rfl, hb1⟩
    have B1 : Below w.heap.size w w1 := Below.then_ (by repeat (first | with_reducible exact Below.refl _ _ | with_reducible assumption | ((with_reducible refine Below.setCell ?_ ?_ _); rotate_left; · (first | omega | exact Nat.le_refl _ | (simp <;> omega))) | (with_reducible refine Below.allocW ?_ _) | (with_reducible refine Below.drew ?_) | (with_reducible refine Below.extW ?_ _))) hb1
    have s1 : w.heap.size ≤ w1.heap.size := B1.size
    have D1 := Lib.hid (HD1.out.below hb1)
    have D2 := Lib.hid (HD2.out.below hb1)
    go_wp2_with fail
    refine (HC2.out _ D2.out).mono ?_
    rintro e w2 ⟨rfl, hb2⟩
    have B2 : Below w.heap.size w w2 := Below.then_ (by repeat (first | with_reducible exact Below.refl _ _ | with_reducible assumption | ((with_reducible refine Below.setCell ?_ ?_ _); rotate_left; · (first | omega | exact Nat.le_refl _ | (simp <;> omega))) | (with_reducible refine Below.allocW ?_ _) | (with_reducible refine Below.drew ?_) | (with_reducible refine Below.extW ?_ _))) hb2
    have s2 : w.heap.size ≤ w2.heap.size := B2.size
    have E1 := Lib.hid (D1.out.below hb2)
    have E2 := Lib.hid (D2.out.below hb2)
    go_wp2_with fail
    refine (HN1.out _ E1.out).mono ?_
    rintro e w3 ⟨rfl, hb3⟩
    have B3 : Below w.heap.size w w3 := Below.then_ (by repeat (first | with_reducible exact Below.refl _ _ | with_reducible assumption | ((with_reducible refine Below.setCell ?_ ?_ _); rotate_left; · (first | omega | exact Nat.le_refl _ | (simp <;> omega))) | (with_reducible refine Below.allocW ?_ _) | (with_reducible refine Below.drew ?_) | (with_reducible refine Below.extW ?_ _))) hb3
    have s3 : w.heap.size ≤ w3.heap.size := B3.size
    go_wp2_with fail
    refine (HN2.out _ (E2.out.below hb3)).mono ?_
    rintro e w4 ⟨rfl, hb4⟩
    have B4 : Below w.heap.size w w4 := Below.then_ (by repeat (first | with_reducible exact Below.refl _ _ | with_reducible assumption | ((with_reducible refine Below.setCell ?_ ?_ _); rotate_left; · (first | omega | exact Nat.le_refl _ | (simp <;> omega))) | (with_reducible refine Below.allocW ?_ _) | (with_reducible refine Below.drew ?_) | (with_reducible refine Below.extW ?_ _))) hb4
    have s4 : w.heap.size ≤ w4.heap.size := B4.size
    go_wp2_with fail
    go_ret
    exact ⟨rfl, (by repeat (first | with_reducible exact Below.refl _ _ | with_reducible assumption | ((with_reducible refine Below.setCell ?_ ?_ _); rotate_left; · (first | omega | exact Nat.le_refl _ | (simp <;> omega))) | (with_reducible refine Below.allocW ?_ _) | (with_reducible refine Below.drew ?_) | (with_reducible refine Below.extW ?_ _)))⟩
  · subst f1
    rw [fe]
    generalize sumR r1 = n at HN1 f2
    generalize sumR r2 = m at HN2 f3
    clear fe
    go_enter Tryz.func110, Tryz.ntmps110
    go_wp2_with fail
    refine (HC1.out _ HD1.out).mono ?_
    rintro e w1 ⟨rfl, hb1⟩
    have B1 : Below w.heap.size w w1 := Below.then_ (by repeat (first | with_reducible exact Below.refl _ _ | with_reducible assumption | ((with_reducible refine Below.setCell ?_ ?_ _); rotate_left; · (first | omega | exact Nat.le_refl _ | (simp <;> omega))) | (with_reducible refine Below.allocW ?_ _) | (with_reducible refine Below.drew ?_) | (with_reducible refine Below.extW ?_ _))) hb1
    have s1 : w.heap.size ≤ w1.heap.size := B1.size
    have D1 := Lib.hid (HD1.out.below hb1)
    have D2 := Lib.hid (HD2.out.below hb1)
    go_wp2_with fail
    refine (HC2.out _ D2.out).mono ?_
    rintro e w2 ⟨rfl, hb2⟩
    have B2 : Below w.heap.size w w2 := Below.then_ (by repeat (first | with_reducible exact Below.refl _ _ | with_reducible assumption | ((with_reducible refine Below.setCell ?_ ?_ _); rotate_left; · (first | omega | exact Nat.le_refl _ | (simp <;> omega))) | (with_reducible refine Below.allocW ?_ _) | (with_reducible refine Below.drew ?_) | (with_reducible refine Below.extW ?_ _))) hb2
    have s2 : w.heap.size ≤ w2.heap.size := B2.size
    have E1 := Lib.hid (D1.out.below hb2)
    have E2 := Lib.hid (D2.out.below hb2)
    go_wp2_with fail
    refine (HN1.out _ E1.out).mono ?_
    rintro e w3 ⟨rfl, hb3⟩
    have B3 : Below w.heap.size w w3 := Below.then_ (by repeat (first | with_reducible exact Below.refl _ _ | with_reducible assumption | ((with_reducible refine Below.setCell ?_ ?_ _); rotate_left; · (first | omega | exact Nat.le_refl _ | (simp <;> omega))) | (with_reducible refine Below.allocW ?_ _) | (with_reducible refine Below.drew ?_) | (with_reducible refine Below.extW ?_ _))) hb3
    have s3 : w.heap.size ≤ w3.heap.size := B3.size
    go_wp2_with fail
    refine (HN2.out _ (E2.out.below hb3)).mono ?_
    rintro e w4 ⟨rfl, hb4⟩
    have B4 : Below w.heap.size w w4 := Below.then_ (by repeat (first | with_reducible exact Below.refl _ _ | with_reducible assumption | ((with_reducible refine Below.setCell ?_ ?_ _); rotate_left; · (first | omega | exact Nat.le_refl _ | (simp <;> omega))) | (with_reducible refine Below.allocW ?_ _) | (with_reducible refine Below.drew ?_) | (with_reducible refine Below.extW ?_ _))) hb4
    have s4 : w.heap.size ≤ w4.heap.size := B4.size
    go_wp2_with fail
    go_ret
    exact ⟨rfl, (by repeat (first | with_reducible exact Below.refl _ _ | with_reducible assumption | ((with_reducible refine Below.setCell ?_ ?_ _); rotate_left; · (first | omega | exact Nat.le_refl _ | (simp <;> omega))) | (with_reducible refine Below.allocW ?_ _) | (with_reducible refine Below.drew ?_) | (with_reducible refine Below.extW ?_ _)))⟩
theorem sideV_nat (n m pl ph ql qh : Nat) : sideV n m pl ph ql qh = sideN n m pl ph ql qh := by
  unfold sideV sideN
  have e : ∀ a b c d : Nat, ((a : Int) * b < (c : Int) * d) = (a * b < c * d) := fun a b c d => by rw [← Int.natCast_mul, ← Int.natCast_mul]; exact propext Int.ofNat_lt
  simp only [e]
/-- What Side tells. -/
def sideT (l m : Int) (a b : List Nd) (x : Int) : Int := if gapErr l m a b = 0 then sideOf l a b x else 0
theorem gapErr_ok {l m : Int} {a b : List Nd} (h : gapErr l m a b = 0) : l = m := by
  unfold gapErr at h
  split at h
  · cases h
  · rename_i h1; exact Decidable.not_not.1 h1
theorem low_range {l : Int} {r : List Nd} (hr : Roll r) (x : Int) : 0 ≤ lowOf l r x ∧ lowOf l r x ≤ sumR r := weighR_le hr
theorem high_range' {l : Int} {r : List Nd} (hr : Roll r) (x : Int) : 0 ≤ highOf l r x ∧ highOf l r x ≤ sumR r := weighR_le hr
theorem gap_Side (w : World) (g1 K1 l1 g2 K2 l2 : Nat) (k1 k2 : Int) (r1 r2 : List Nd) (F1 F2 : Nat → Prop) (x : Int) (h1 : DigAt w g1 K1 l1 k1 r1 F1) (h2 : DigAt w g2 K2 l2 k2 r2 F2) (hn1 : r1.length ≤ 67108864) (hn2 : r2.length ≤ 67108864) :
    Calls Tryz.prog 52 #[.pointer (some ⟨g1, 0, none⟩), .pointer (some ⟨g2, 0, none⟩), .int .i64 x] w fun e w' => e = .returned (.tuple #[.int .i64 (sideT l1 l2 r1 r2 x), .int .i64 (gapErr l1 l2 r1 r2)]) ∧ Below w.heap.size w w' := by
  have HW := Lib.hid (gap_wrong w g1 K1 l1 g2 K2 l2 k1 k2 r1 r2 F1 F2 h1 h2)
  have hf1 := h1.fits
  have hf2 := h2.fits
  have HD1 := Lib.hid h1
  have HD2 := Lib.hid h2
  by_cases he : gapErr l1 l2 r1 r2 = 0
  · have hll := gapErr_ok he
    obtain rfl : l1 = l2 := by omega
    have hs : sideT l1 l1 r1 r2 x = sideOf l1 r1 r2 x := by unfold sideT; rw [if_pos he]
    rw [he] at HW
    rw [he, hs]
    clear he hs hll h1 h2
    unfold sideOf
    have z1 := sumR_nonneg hf1.roll
    have z2 := sumR_nonneg hf2.roll
    have y1 := hf1.sum
    have y2 := hf2.sum
    have a1 := low_range (l := l1) hf1.roll x
    have a2 := high_range' (l := l1) hf1.roll x
    have a3 := low_range (l := l1) hf2.roll x
    have a4 := high_range' (l := l1) hf2.roll x
    have HO1 := Lib.hid (rank_Of · g1 K1 l1 k1 r1 F1 · hn1)
    have HO2 := Lib.hid (rank_Of · g2 K2 l1 k2 r2 F2 · hn2)
    obtain ⟨n, e1⟩ := Int.eq_ofNat_of_zero_le z1
    obtain ⟨m, e2⟩ := Int.eq_ofNat_of_zero_le z2
    obtain ⟨pl, e3⟩ := Int.eq_ofNat_of_zero_le a1.1
    obtain ⟨ph, e4⟩ := Int.eq_ofNat_of_zero_le a2.1
    obtain ⟨ql, e5⟩ := Int.eq_ofNat_of_zero_le a3.1
    obtain ⟨qh, e6⟩ := Int.eq_ofNat_of_zero_le a4.1
    rw [e1, e2, e3, e4, e5, e6, sideV_nat]
    have E := Lib.hid (And.intro e1 (And.intro e2 (And.intro e3 (And.intro e4 (And.intro e5 e6)))))
    have b1 : n ≤ 9223372036854775807 := by omega
    have b2 : m ≤ 9223372036854775807 := by omega
    have b3 : pl ≤ 9223372036854775807 := by omega
    have b4 : ph ≤ 9223372036854775807 := by omega
    have b5 : ql ≤ 9223372036854775807 := by omega
    have b6 : qh ≤ 9223372036854775807 := by omega
    clear e1 e2 e3 e4 e5 e6 a1 a2 a3 a4 z1 z2 y1 y2
    go_enter Tryz.func52, Tryz.ntmps52
    go_wp2_with fail
    refine (HW.out).mono ?_
    rintro e w1 ⟨rfl, hb1⟩
    have B1 : Below w.heap.size w w1 := Below.then_ (by repeat (first | with_reducible exact Below.refl _ _ | with_reducible assumption | ((with_reducible refine Below.setCell ?_ ?_ _); rotate_left; · (first | omega | exact Nat.le_refl _ | (simp <;> omega))) | (with_reducible refine Below.allocW ?_ _) | (with_reducible refine Below.drew ?_) | (with_reducible refine Below.extW ?_ _))) hb1
    have s1 : w.heap.size ≤ w1.heap.size := B1.size
    go_wp2_with fail
    refine (HO1.out _ (HD1.out.below hb1)).mono ?_
    rintro e w2 ⟨t1, lt1, ft1, rfl, htab1, htl1, htf1, hl1, hl2, hb2⟩
    have B2 : Below w.heap.size w w2 := B1.trans (hb2.mono s1)
    have s2 := B2.size
    have T1 := Lib.hid htab1
    have D2 := Lib.hid ((HD2.out.below hb1).below hb2)
    clear hb2 htab1
    go_wp2_with fail
    refine (HO2.out _ D2.out).mono ?_
    rintro e w3 ⟨t2, lt2, ft2, rfl, htab2, htl2, htf2, hl3, hl4, hb3⟩
    have B3 : Below w.heap.size w w3 := B2.trans (hb3.mono s2)
    have s3 := B3.size
    have s23 := hb3.size
    have TT1 := Lib.hid (T1.out.below hb3)
    have TT2 := Lib.hid htab2
    clear hb3 htab2
    have U1 : Hid (TabAt w3 w1.heap.size w2.heap.size t1 n lt1 ft1) := Lib.hid (E.out.1 ▸ TT1.out)
    have U2 : Hid (TabAt w3 w2.heap.size w3.heap.size t2 m lt2 ft2) := Lib.hid (E.out.2.1 ▸ TT2.out)
    have HGS := Lib.hid (gap_side w3 x n m pl ph ql qh U1.out U2.out s23 (Nat.le_refl _) (by omega) htl1.rise (by omega) htf1.rise (by omega) htl2.rise (by omega) htf2.rise
      (by rw [htl1.upT, low_up]; exact E.out.2.2.1) (by rw [htf1.upT, high_up]; exact E.out.2.2.2.1) (by rw [htl2.upT, low_up]; exact E.out.2.2.2.2.1) (by rw [htf2.upT, high_up]; exact E.out.2.2.2.2.2) b1 b2 b3 b4 b5 b6)
    clear htl1 htf1 htl2 htf2
    go_wp2_with fail
    refine HGS.out.mono ?_
    rintro e w4 ⟨rfl, hb4⟩
    go_wp2_with fail
    go_ret2
    exact ⟨rfl, B3.trans (hb4.mono s3)⟩
  · have hs : sideT l1 l2 r1 r2 x = 0 := by unfold sideT; rw [if_neg he]
    rw [hs]
    have hne : (gapErr l1 l2 r1 r2 == 0) = false := by simpa using he
    clear hs he h1 h2
    generalize gapErr l1 l2 r1 r2 = er at HW hne
    go_enter Tryz.func52, Tryz.ntmps52
    go_wp2_with fail
    refine (HW.out).mono ?_
    rintro e w1 ⟨rfl, hb1⟩
    have B1 : Below w.heap.size w w1 := Below.then_ (by repeat (first | with_reducible exact Below.refl _ _ | with_reducible assumption | ((with_reducible refine Below.setCell ?_ ?_ _); rotate_left; · (first | omega | exact Nat.le_refl _ | (simp <;> omega))) | (with_reducible refine Below.allocW ?_ _) | (with_reducible refine Below.drew ?_) | (with_reducible refine Below.extW ?_ _))) hb1
    have s1 : w.heap.size ≤ w1.heap.size := B1.size
    go_wp2_with fail
    go_ret2
    exact ⟨rfl, B1⟩
end Go.Proofs.YtmadmlkmdnjmaaaGreat
/- The reference of layer 21 (gap): wrong. -/
namespace Go.Proofs.YtmadmlkmdnjmaaaGreat
open Go.ChangeShapes Go.WideShapes Go.ChangeAt Go.RowKit
set_option linter.unusedVariables false
set_option maxRecDepth 100000

end Go.Proofs.YtmadmlkmdnjmaaaGreat
/- Package reckon: Plus, Over. -/
namespace Go.Proofs.YtmadmlkmdnjmaaaGreat
open Go.ChangeShapes Go.WideShapes Go.ChangeAt Go.RowKit
set_option linter.unusedVariables false
set_option maxRecDepth 100000

/-- A number of two words. -/
def wideV (n : Nat) : Value := .agg #[.int .u64 (n % 18446744073709551616 : Nat), .int .u64 (n / 18446744073709551616 : Nat)]
theorem wide_add {n p : Nat} : ((n + p) % 18446744073709551616 = (n % 18446744073709551616 + p % 18446744073709551616) % 18446744073709551616) ∧
    (n + p) / 18446744073709551616 = n / 18446744073709551616 + p / 18446744073709551616 + (n % 18446744073709551616 + p % 18446744073709551616) / 18446744073709551616 := by omega
theorem wide_div (n : Nat) : n / 18446744073709551616 * 18446744073709551616 + n % 18446744073709551616 = n := Nat.div_add_mod' _ _
end Go.Proofs.YtmadmlkmdnjmaaaGreat
/- Reference 1: Bits: a number of two words as digits. -/
namespace Go.Proofs.YtmadmlkmdnjmaaaGreat
open Go.ChangeShapes Go.WideShapes Go.ChangeAt Go.RowKit
set_option linter.unusedVariables false
set_option maxRecDepth 100000

theorem bits_step (x m : Nat) : x / 2 ^ m = 2 * (x / 2 ^ (m + 1)) + x / 2 ^ m % 2 := by
  rw [Nat.pow_succ, ← Nat.div_div_eq_div_mul]; omega
theorem bits_val (b x m j : Nat) (h : j = m + 1) (hj : j ≤ 64) : (b * 2 ^ (64 - j) + x / 2 ^ j) + (b * 2 ^ (64 - j) + x / 2 ^ j) + x / 2 ^ m % 2 = b * 2 ^ (64 - m) + x / 2 ^ m := by
  subst h
  have e : 64 - m = (64 - (m + 1)) + 1 := by omega
  have := bits_step x m
  rw [e, Nat.pow_succ 2 (64 - (m + 1)), ← Nat.mul_assoc b]
  omega
end Go.Proofs.YtmadmlkmdnjmaaaGreat
/- Package bound: each: a function value called for all nodes. -/
namespace Go.Proofs.YtmadmlkmdnjmaaaGreat
open Go.ChangeShapes Go.WideShapes Go.ChangeAt Go.RowKit
set_option linter.unusedVariables false
set_option maxRecDepth 100000

/-- What is so of the world behind so many nodes: it stays where only new blocks come. -/
structure Stays (I : Nat → World → Prop) : Prop where
  st : ∀ q W W', I q W → Below W.heap.size W W' → I q W'
end Go.Proofs.YtmadmlkmdnjmaaaGreat
/- Package bound: Least, Greatest. -/
namespace Go.Proofs.YtmadmlkmdnjmaaaGreat
open Go.ChangeShapes Go.WideShapes Go.ChangeAt Go.RowKit
set_option linter.unusedVariables false
set_option maxRecDepth 100000

def wrongOf (r : List Nd) : Int := if sumR r = 0 then 7 else 0
/-- The least first, and the least last value of nodes. -/
def leastStep (l : Int) (a : Int × Int) (x : Nd) : Int × Int := (min a.1 (endsOf l x.1).1, min a.2 (endsOf l x.1).2.1)
def leastOf (l : Int) (r : List Nd) : Int × Int := r.foldl (leastStep l) (9223372036854775807, 9223372036854775807)
theorem leastOf_succ {l : Int} {r : List Nd} {q : Nat} (h : q < r.length) : leastOf l (r.take (q + 1)) = leastStep l (leastOf l (r.take q)) r[q] := by
  unfold leastOf
  rw [List.take_succ_eq_append_getElem h, List.foldl_append]; rfl
theorem KeepN.set {w : World} {b o : Nat} {x y : Int} (h : bothAt w b x y) (u : Value) : KeepN w (w.setCell ⟨b, o, none⟩ u) := by
  refine ⟨by simp [World.setCell], fun c cs fr hc => ?_⟩
  have hne : c ≠ b := by
    rintro rfl
    unfold bothAt at h
    rw [h] at hc
    injection hc with hc
    injection hc with _ ht
    exact absurd ht (by decide)
  exact (Below.heap_setCell _ _ _ _ hne).trans hc
theorem Below.set_at {B : Nat} {w W : World} {b o : Nat} {u : Value} (h : Below B w W) (hb : B ≤ b) : Below B w (W.setCell ⟨b, o, none⟩ u) := h.setCell (p := ⟨b, o, none⟩) hb u

/-- The two results in memory behind some nodes. -/
def BoundI (w : World) (b0 b1 : Nat) (f : Nat → Int × Int) (q : Nat) (W : World) : Prop := Below w.heap.size w W ∧ bothAt W b0 0 0 ∧ bothAt W b1 (f q).1 (f q).2
theorem boundI_stays (w : World) (b0 b1 : Nat) (f : Nat → Int × Int) : Stays (BoundI w b0 b1 f) := ⟨fun q W W' ⟨h1, h2, h3⟩ hb => ⟨h1.trans (hb.mono h1.size), h2.below hb, h3.below hb⟩⟩
def leastT (l : Int) (r : List Nd) : Int × Int × Int := if sumR r = 0 then (0, 0, 7) else ((leastOf l r).1, (leastOf l r).2, 0)
end Go.Proofs.YtmadmlkmdnjmaaaGreat
/- Package bound: Greatest, Spread. -/
namespace Go.Proofs.YtmadmlkmdnjmaaaGreat
open Go.ChangeShapes Go.WideShapes Go.ChangeAt Go.RowKit
set_option linter.unusedVariables false
set_option maxRecDepth 100000

/-- The greatest first, and the greatest last value of nodes. -/
def mostStep (l : Int) (a : Int × Int) (x : Nd) : Int × Int := (max a.1 (endsOf l x.1).1, max a.2 (endsOf l x.1).2.1)
def mostOf (l : Int) (r : List Nd) : Int × Int := r.foldl (mostStep l) (0, 0)
theorem mostOf_succ {l : Int} {r : List Nd} {q : Nat} (h : q < r.length) : mostOf l (r.take (q + 1)) = mostStep l (mostOf l (r.take q)) r[q] := by
  unfold mostOf
  rw [List.take_succ_eq_append_getElem h, List.foldl_append]; rfl
def mostT (l : Int) (r : List Nd) : Int × Int × Int := if sumR r = 0 then (0, 0, 7) else ((mostOf l r).1, (mostOf l r).2, 0)
end Go.Proofs.YtmadmlkmdnjmaaaGreat
/- Package bound: Sum, Mean. -/
namespace Go.Proofs.YtmadmlkmdnjmaaaGreat
open Go.ChangeShapes Go.WideShapes Go.ChangeAt Go.RowKit
set_option linter.unusedVariables false
set_option maxRecDepth 100000

/-- Values times weights. -/
def sumW (l : Int) (hi : Bool) : List Nd → Nat
  | [] => 0
  | x :: r => (if hi = true then (endsOf l x.1).2.1 else (endsOf l x.1).1).toNat * x.2.toNat + sumW l hi r
theorem sumW_append (l : Int) (hi : Bool) (a b : List Nd) : sumW l hi (a ++ b) = sumW l hi a + sumW l hi b := by
  induction a with
  | nil => simp [sumW]
  | cons x a ih => simp only [List.cons_append, sumW, ih]; omega
theorem sumW_succ {l : Int} {hi : Bool} {r : List Nd} {q : Nat} (h : q < r.length) : sumW l hi (r.take (q + 1)) = sumW l hi (r.take q) + (if hi = true then (endsOf l r[q].1).2.1 else (endsOf l r[q].1).1).toNat * r[q].2.toNat := by
  rw [List.take_succ_eq_append_getElem h, sumW_append]
  simp [sumW]
theorem sumW_le {l : Nat} (hl : l ≤ 48) {r : List Nd} (hr : Roll r) (hn : ∀ x ∈ r, isNode l x.1 = true) (hi : Bool) : sumW l hi r ≤ 281474976710655 * (sumR r).toNat := by
  induction r with
  | nil => simp [sumW]
  | cons x r ih =>
    have hx := ends_48 hl (hn x (by simp))
    have h0 := sumR_nonneg hr.tail
    have hx2 := (hr.2 x (by simp)).2
    have hi2 := ih hr.tail (fun y hy => hn y (by simp [hy]))
    have e : (sumR (x :: r)).toNat = x.2.toNat + (sumR r).toNat := by simp only [sumR]; omega
    rw [e, Nat.mul_add]
    simp only [sumW]
    have : (if hi = true then (endsOf l x.1).2.1 else (endsOf l x.1).1).toNat ≤ 281474976710655 := by split <;> omega
    have := Nat.mul_le_mul_right x.2.toNat this
    omega
theorem KeepN.setT {w W : World} {b o t : Nat} (k : KeepN w W) (h : TypeAt W b t) (ht : t ≠ 116) (u : Value) : KeepN w (W.setCell ⟨b, o, none⟩ u) := by
  refine keepN_t k ⟨by simp [World.setCell], fun c cs fr hc => ?_⟩
  have hne : c ≠ b := by
    rintro rfl
    obtain ⟨cs', fr', h⟩ := h
    rw [h] at hc
    injection hc with hc
    injection hc with _ h2
    exact ht h2
  exact (Below.heap_setCell _ _ _ _ hne).trans hc
theorem KeepN.more {w W W' : World} (k : KeepN w W) (h : Below W.heap.size W W') : KeepN w W' := keepN_t k (KeepN.of_below h)
theorem sum_step {l : Nat} (hl1 : 1 ≤ l ∧ l ≤ 48) {r : List Nd} (hf : Fits l r) {q : Nat} (hq : q < r.length) : ∃ lo hi c : Nat, (endsOf l r[q].1).1 = lo ∧ (endsOf l r[q].1).2.1 = hi ∧ r[q].2 = c ∧ lo ≤ 281474976710655 ∧ hi ≤ 281474976710655 ∧ c ≤ 72057594037927935 ∧
    sumW l false (r.take (q + 1)) = sumW l false (r.take q) + lo * c ∧ sumW l true (r.take (q + 1)) = sumW l true (r.take q) + hi * c ∧ sumW l false (r.take (q + 1)) / 18446744073709551616 ≤ 18446744073709551615 ∧ sumW l true (r.take (q + 1)) / 18446744073709551616 ≤ 18446744073709551615 := by
  have hn := hf.nodes hl1
  have hl := hl1.2
  have hx := ends_48 hl (hn _ (List.getElem_mem hq))
  have hx2 := (hf.roll.2 _ (List.getElem_mem hq)).2
  have hc := sumR_take_le hf.roll (q + 1)
  have hc2 := sumR_take_succ hq
  have hc3 := sumR_nonneg (hf.roll.take q)
  have hs := hf.sum
  have b0 := sumW_le hl (hf.roll.take (q + 1)) (fun x hx => hn x (List.mem_of_mem_take hx)) false
  have b1 := sumW_le hl (hf.roll.take (q + 1)) (fun x hx => hn x (List.mem_of_mem_take hx)) true
  have hm : 281474976710655 * (sumR (r.take (q + 1))).toNat ≤ 281474976710655 * 72057594037927935 := Nat.mul_le_mul_left _ (by omega)
  refine ⟨(endsOf l r[q].1).1.toNat, (endsOf l r[q].1).2.1.toNat, r[q].2.toNat, by omega, by omega, by omega, by omega, by omega, by omega, ?_, ?_, by omega, by omega⟩
  · rw [sumW_succ hq]; simp
  · rw [sumW_succ hq]; simp
def meanT (l : Int) (r : List Nd) : Int × Int × Int := if sumR r = 0 then (0, 0, 7) else ((sumW l false r / (sumR r).toNat : Nat), (sumW l true r / (sumR r).toNat + (if sumW l true r % (sumR r).toNat = 0 then 0 else 1) : Nat), 0)
end Go.Proofs.YtmadmlkmdnjmaaaGreat
/- The reference of layer 20 (bound): Ends. -/
namespace Go.Proofs.YtmadmlkmdnjmaaaGreat
open Go.ChangeShapes Go.WideShapes Go.ChangeAt Go.RowKit
set_option linter.unusedVariables false
set_option maxRecDepth 100000

theorem lt_or_dec (a b : Int) : a < b ∨ decide (a < b) = false := by
  by_cases h : a < b
  · exact .inl h
  · exact .inr (decide_eq_false h)
/-- The four ends, as the document finds them. -/
structure E4 where
  a : Int
  b : Int
  c : Int
  d : Int
def e4Step (l : Int) (e : E4) (x : Nd) : E4 := ⟨if (endsOf l x.1).1 < e.a then (endsOf l x.1).1 else e.a, if (endsOf l x.1).2.1 < e.b then (endsOf l x.1).2.1 else e.b, if e.c < (endsOf l x.1).1 then (endsOf l x.1).1 else e.c, if e.d < (endsOf l x.1).2.1 then (endsOf l x.1).2.1 else e.d⟩
def e4Of (l : Int) (r : List Nd) : E4 := r.foldl (e4Step l) ⟨281474976710656, 281474976710656, -1, -1⟩
theorem e4Of_succ {l : Int} {r : List Nd} {q : Nat} (h : q < r.length) : e4Of l (r.take (q + 1)) = e4Step l (e4Of l (r.take q)) r[q] := by
  unfold e4Of
  rw [List.take_succ_eq_append_getElem h, List.foldl_append]; rfl
theorem blk_set {w : World} {b q o : Nat} {u : Value} {ob : Obj} (h : w.heap[b]? = some ob) (hne : b ≠ q) : (w.setCell ⟨q, o, none⟩ u).heap[b]? = some ob := (Below.heap_setCell _ _ _ _ hne).trans h

end Go.Proofs.YtmadmlkmdnjmaaaGreat
/- The reference of layer 20 (bound): Sum. -/
namespace Go.Proofs.YtmadmlkmdnjmaaaGreat
open Go.ChangeShapes Go.WideShapes Go.ChangeAt Go.RowKit
set_option linter.unusedVariables false
set_option maxRecDepth 100000

theorem drew_hs (W : World) : W.drew.heap = W.heap := rfl
/-- What a reference's sum leaves: a list of digits. -/
def SumPost (n : Nat) (m : Nat) (w : World) (e : Ending) (w' : World) : Prop := ∃ v L, e = .returned v ∧ Own w' w.heap.size 3 encD v L ∧ okD L ∧ valD L = n ∧ L.length ≤ m ∧ Below w.heap.size w w'
end Go.Proofs.YtmadmlkmdnjmaaaGreat
/- The reference of layer 20 (bound): Mean. -/
namespace Go.Proofs.YtmadmlkmdnjmaaaGreat
open Go.ChangeShapes Go.WideShapes Go.ChangeAt Go.RowKit
set_option linter.unusedVariables false
set_option maxRecDepth 100000

end Go.Proofs.YtmadmlkmdnjmaaaGreat
/- Package bound: Worst, Spread. -/
namespace Go.Proofs.YtmadmlkmdnjmaaaGreat
open Go.ChangeShapes Go.WideShapes Go.ChangeAt Go.RowKit
set_option linter.unusedVariables false
set_option maxRecDepth 100000

/-- A number in a block. -/
def intAt (w : World) (b : Nat) (x : Int) : Prop := w.heap[b]? = some (.cells #[.int .i64 x] 3 (0, 0))
theorem intAt.below {w w' : World} {b : Nat} {x : Int} (h : intAt w b x) (hb : Below w.heap.size w w') : intAt w' b x := blk_below h hb
theorem intAt.alloc {w : World} {b : Nat} {x : Int} (h : intAt w b x) (o : Obj) : intAt (w.alloc o) b x := h.below ((Below.refl _ _).alloc (Nat.le_refl _) o)
theorem intAt.set {w : World} {b q o : Nat} {x : Int} (h : intAt w b x) (hne : b ≠ q) (u : Value) : intAt (w.setCell ⟨q, o, none⟩ u) b x := (Below.heap_setCell _ _ _ _ hne).trans h
theorem intAt.put {w : World} {b : Nat} {x : Int} (h : intAt w b x) (y : Int) : intAt (w.setCell ⟨b, 0, none⟩ (.int .i64 y)) b y := heap_set_at (i := 0) h _
theorem intAt.ty {w : World} {b : Nat} {x : Int} (h : intAt w b x) : TypeAt w b 3 := .of h
/-- Where least is told, and how little: one number more. -/
def worstStep (a : Int × Int) (at_ n : Int) : Int × Int := if a.2 < n ∨ n = a.2 ∧ at_ < a.1 then (at_, n) else a
/-- What became of the world. -/
def TryEnd (w : World) (bx bg : Nat) (r : Int × Int) (w' : World) : Prop :=
  intAt w' bx r.1 ∧ intAt w' bg r.2 ∧ KeepN w w' ∧ (∀ C, C ≤ bx → C ≤ bg → C ≤ w.heap.size → Below C w w') ∧ (∀ b, b < w.heap.size → b ≠ bx → b ≠ bg → w'.heap[b]? = w.heap[b]?)
theorem try_same {w w1 : World} {bx bg : Nat} {x gp : Int} (hb : Below w.heap.size w w1) (X : intAt w1 bx x) (G : intAt w1 bg gp) (o : Obj) : TryEnd w bx bg (x, gp) (w1.alloc o) :=
  have hB := hb.alloc hb.size o
  ⟨X.alloc o, G.alloc o, KeepN.of_below hB, fun C _ _ h => hB.mono h, fun b h _ _ => hB.block b h⟩
theorem try_put {w w1 : World} {bx bg : Nat} {x gp : Int} (hb : Below w.heap.size w w1) (X : intAt w1 bx x) (G : intAt w1 bg gp) (hne : bg ≠ bx) (o : Obj) (a n : Int) :
    TryEnd w bx bg (a, n) (((w1.setCell ⟨bx, 0, none⟩ (.int .i64 a)).setCell ⟨bg, 0, none⟩ (.int .i64 n)).alloc o) :=
  ⟨((X.put a).set hne.symm _).alloc o, ((G.set hne _).put n).alloc o, (((KeepN.of_below hb).setT X.ty (by decide) _).setT (G.set hne _).ty (by decide) _).more ((Below.refl _ _).alloc (Nat.le_refl _) o),
    fun C h1 h2 h3 => (((hb.mono h3).setCell (p := ⟨bx, 0, none⟩) h1 _).setCell (p := ⟨bg, 0, none⟩) h2 _).alloc (by have := hb.size; simp only [World.size_setCell]; omega) o,
    fun b h h1 h2 => (Below.heap_alloc _ o b (by have := hb.size; simp only [World.size_setCell]; omega)).trans ((Below.heap_setCell _ _ _ _ h2).trans ((Below.heap_setCell _ _ _ _ h1).trans (hb.block b h)))⟩
end Go.Proofs.YtmadmlkmdnjmaaaGreat
/- Package bound: Worst. -/
namespace Go.Proofs.YtmadmlkmdnjmaaaGreat
open Go.ChangeShapes Go.WideShapes Go.ChangeAt Go.RowKit
set_option linter.unusedVariables false
set_option maxRecDepth 100000

@[go_sem] theorem run_store_func (P : Program) (w : World) (a : Addr) (m : Mode) (f : Fn) (ts : Array Value) (cs : Array Value) : (store a (.func f ts cs) m).run P w = stored P w a (.func f ts cs) m := run_store P w a _ m rfl
def gapAt (l : Int) (r : List Nd) (x : Int) : Int := highOf l r x - lowOf l r x
/-- The worst behind some nodes. -/
def worstPre (l : Int) (r : List Nd) (p : List Nd) : Int × Int := p.foldl (fun a x => worstStep a (endsOf l x.1).1 (gapAt l r (endsOf l x.1).1)) (worstStep (0, 0) 0 (gapAt l r 0))
theorem worstPre_succ {l : Int} {r : List Nd} {q : Nat} (h : q < r.length) : worstPre l r (r.take (q + 1)) = worstStep (worstPre l r (r.take q)) (endsOf l r[q].1).1 (gapAt l r (endsOf l r[q].1).1) := by
  unfold worstPre
  rw [List.take_succ_eq_append_getElem h, List.foldl_append]; rfl
theorem gap_range {l : Int} {r : List Nd} (h : Roll r) (hs : sumR r ≤ 72057594037927935) (x : Int) : -72057594037927936 ≤ gapAt l r x ∧ gapAt l r x ≤ 72057594037927936 := by
  have h1 := weighR_le (l := l) (f := fun _ hi => decide (hi ≤ x)) h
  have h2 := weighR_le (l := l) (f := fun lo _ => decide (lo ≤ x)) h
  unfold gapAt highOf lowOf
  omega
def worstT (l : Int) (r : List Nd) : Int × Int × Int := if sumR r = 0 then (0, 0, 7) else ((worstPre l r r).1, (worstPre l r r).2, 0)
def triV (t : Int × Int × Int) : Value := .tuple #[.int .i64 t.1, .int .i64 t.2.1, .int .i64 t.2.2]
end Go.Proofs.YtmadmlkmdnjmaaaGreat
/- Chapter 20's example. -/
namespace Go.Proofs.YtmadmlkmdnjmaaaGreat
open Go.ChangeShapes Go.WideShapes Go.ChangeAt Go.RowKit
set_option linter.unusedVariables false
set_option maxRecDepth 100000

theorem least20 : leastT ((2 : Nat) : Int) nodes16 = (0, 0, 0) := by decide +kernel
theorem most20 : mostT ((2 : Nat) : Int) nodes16 = (3, 3, 0) := by decide +kernel
theorem mean20 : meanT ((2 : Nat) : Int) nodes16 = (1, 2, 0) := by decide +kernel
theorem worst20 : worstT ((2 : Nat) : Int) nodes16 = (0, 1, 0) := by decide +kernel
end Go.Proofs.YtmadmlkmdnjmaaaGreat
/- Chapter 20: the sums and the mean: the law. -/
namespace Go.Proofs.YtmadmlkmdnjmaaaGreat
open Go.ChangeShapes Go.WideShapes Go.ChangeAt Go.RowKit
set_option linter.unusedVariables false
set_option linter.unusedSimpArgs false
set_option maxRecDepth 100000

/-- What it holds then: the record, and the mean. -/
def MeanAt (W : World) (p q : Nat) (k l : Int) (A : Option Addr) (n cap : Nat) (x y : Int) : Prop :=
  W.heap[p]? = some (.cells #[.int .i64 k, .int .i64 l, .slice A n cap] 57 (0, 0)) ∧ bothAt W q x y
theorem MeanAt.below {w w' : World} {p q : Nat} {k l : Int} {A : Option Addr} {n cap : Nat} {x y : Int} (h : MeanAt w p q k l A n cap x y) (hb : Below w.heap.size w w') : MeanAt w' p q k l A n cap x y :=
  ⟨blk_below h.1 hb, h.2.below hb⟩
end Go.Proofs.YtmadmlkmdnjmaaaGreat
/- The reference of layer 21 (gap): both. -/
namespace Go.Proofs.YtmadmlkmdnjmaaaGreat
open Go.ChangeShapes Go.WideShapes Go.ChangeAt Go.RowKit
set_option linter.unusedVariables false
set_option linter.unusedSimpArgs false
set_option maxRecDepth 100000

end Go.Proofs.YtmadmlkmdnjmaaaGreat
/- The reference of layer 21 (gap): at, Side. -/
namespace Go.Proofs.YtmadmlkmdnjmaaaGreat
open Go.ChangeShapes Go.WideShapes Go.ChangeAt Go.RowKit
set_option linter.unusedVariables false
set_option linter.unusedSimpArgs false
set_option maxRecDepth 100000

/-- The record of a digest, in a box. -/
def digBox (W : World) (b : Nat) (k u : Int) (A : Option Addr) (n cap : Nat) : Prop := W.heap[b]? = some (.cells #[.int .i64 k, .int .i64 u, .slice A n cap] 57 (0, 0))
theorem digBox.below {w w' : World} {b : Nat} {k u : Int} {A : Option Addr} {n cap : Nat} (h : digBox w b k u A n cap) (hb : Below w.heap.size w w') : digBox w' b k u A n cap := blk_below h hb
theorem digBox.set {w : World} {b : Nat} {k u : Int} {A : Option Addr} {n cap : Nat} (h : digBox w b k u A n cap) {p : Addr} (hne : b ≠ p.block) (v : Value) : digBox (w.setCell p v) b k u A n cap := (Below.heap_setCell _ _ _ _ hne).trans h
theorem SlU.alloc {α : Type} {size : Nat} {w : World} {E : Enc α size} {A : Option Addr} {l : List α} (h : Sl w w.heap.size E A l) (o : Obj) : Sl (w.alloc o) (w.alloc o).heap.size E A l := h.keep (by simp) fun p hp => Go.RowKit.Below.cell (B := w.heap.size) ((Below.refl _ _).alloc (Nat.le_refl _) o) hp
theorem SlU.ext {α : Type} {size : Nat} {w : World} {E : Enc α size} {A : Option Addr} {l : List α} (h : Sl w w.heap.size E A l) (x : Ext) : Sl (ext w x) (ext w x).heap.size E A l := h.keep (by simp [Go.Proofs.YtmadmlkmdnjmaaaGreat.ext]) fun p hp => (ext_below w x).cell hp
theorem SlU.drew {α : Type} {size : Nat} {w : World} {E : Enc α size} {A : Option Addr} {l : List α} (h : Sl w w.heap.size E A l) : Sl w.drew w.drew.heap.size E A l := h
/-- What region 1 leaves. -/
structure AtR (W0 : World) (P Q : Nat) (pl ph ql qh : Int) (W : World) : Prop where
  p0 : W.cell? ⟨P, 0, none⟩ = some (.int .i64 pl)
  p1 : W.cell? ⟨P, 1, none⟩ = some (.int .i64 ph)
  q0 : W.cell? ⟨Q, 0, none⟩ = some (.int .i64 ql)
  q1 : W.cell? ⟨Q, 1, none⟩ = some (.int .i64 qh)
  pz : P < W.heap.size
  qz : Q < W.heap.size
  blw : Below W0.heap.size W0 W
end Go.Proofs.YtmadmlkmdnjmaaaGreat
/- The reference of layer 1: Part. -/
namespace Go.Proofs.YtmadmlkmdnjmaaaGreat
open Go.ChangeShapes Go.WideShapes Go.ChangeAt Go.RowKit
set_option linter.unusedVariables false
set_option maxRecDepth 100000

end Go.Proofs.YtmadmlkmdnjmaaaGreat
/- Shares in parts, rounded down and up: package gap, and the reference of layer 21. -/
namespace Go.Proofs.YtmadmlkmdnjmaaaGreat
open Go.ChangeShapes Go.WideShapes Go.ChangeAt Go.RowKit
set_option linter.unusedVariables false
set_option linter.unusedSimpArgs false
set_option maxRecDepth 100000

set_option maxHeartbeats 1000000 in
theorem gap_parts (w : World) (x : Int) {L B g : Nat} {lt ft : List Nd} (n d pl ph : Nat) (h : TabAt w L B g n lt ft) (hb : B ≤ w.heap.size) (m1 : lt.length ≤ 67108864) (r1 : lt.Pairwise fun a b => a.1 < b.1) (m1' : ft.length ≤ 67108864) (r1' : ft.Pairwise fun a b => a.1 < b.1)
    (e1 : upT lt x = pl) (e2 : upT ft x = ph) (hn : 1 ≤ n) (hn2 : n ≤ 9223372036854775807) (hd : d ≤ 9223372036854775807) (hp : pl ≤ n) (hq : ph ≤ n) :
    Calls Tryz.prog 114 #[.pointer (some ⟨g, 0, none⟩), .int .i64 x, .int .i64 d] w fun e w' => e = .returned (.tuple #[.int .i64 (pl * d / n : Nat), .int .i64 (upV ph d n : Nat)]) ∧ Below w.heap.size w w' := by
  have HB1 := Lib.hid (fun W (h : TabAt W L B g n lt ft) (hb : B ≤ W.heap.size) => table_Both x h hb m1 r1 m1' r1')
  rw [e1, e2] at HB1
  have T1 := Lib.hid h
  have HP := Lib.hid (reckon_Part · pl d n hd hn hn2 hp)
  have HU := Lib.hid (reckon_PartUp · ph d n hd hn hn2 hq)
  have u1 := part_le (b := d) hp hn
  have u2 := up_le (b := d) hq hn
  clear h r1 r1' e1 e2
  generalize pl * d / n = u at HP u1 ⊢
  generalize upV ph d n = v at HU u2 ⊢
  go_enter Tryz.func114, Tryz.ntmps114
  go_wp2_with fail
  refine (HB1.out _ T1.out hb).mono ?_
  rintro e w1 ⟨rfl, hb1⟩
  have s1 := hb1.size
  have U1 := Lib.hid (T1.out.below (hb1.mono hb))
  have BB1 := Lib.hid hb1
  clear hb1
  go_wp2_with fail
  have BA : Below w1.heap.size w1 (w1.alloc (.cells #[.int .i64 pl, .int .i64 ph] 51)) := (Below.refl _ _).alloc (Nat.le_refl _) _
  have P3 : Hid (bothAt (w1.alloc (.cells #[.int .i64 pl, .int .i64 ph] 51)) w1.heap.size pl ph) := Lib.hid (bothAt.new w1 pl ph)
  have BB3 := Lib.hid (BB1.out.trans (BA.mono s1))
  have T3 := Lib.hid (U1.out.below (BA.mono (by omega)))
  have s3 := BA.size
  have HBw : Hid (B ≤ (w1.alloc (.cells #[.int .i64 pl, .int .i64 ph] 51)).heap.size) := Lib.hid (by omega)
  clear BA
  generalize w1.alloc (.cells #[.int .i64 pl, .int .i64 ph] 51) = W3 at P3 BB3 s3 T3 HBw ⊢
  have cp := blk_cell P3.out
  have zp := lt_of_block P3.out
  refine wp_region_ext (by kernel_rfl) (by kernel_rfl) ?_
  repeat (go_big_quiet_step (first
    | (go_at_call 38; exact quiet_ext (table_N (T3.out.below ((ext_below _ _).mono HBw.out))))
    | (go_at_call 180; exact quiet_ext (HP.out _))))
  have BX := BB3.out
  refine wpQuiet_nil ?_
  intro w4 hb4
  replace hb4 := below_of_ext hb4
  have B4 : Below w.heap.size w w4 := Below.then_ (by repeat (first | with_reducible exact Below.refl _ _ | with_reducible assumption | ((with_reducible refine Below.setCell ?_ ?_ _); rotate_left; · (first | omega | exact Nat.le_refl _ | (simp <;> omega))) | (with_reducible refine Below.allocW ?_ _) | (with_reducible refine Below.drew ?_) | (with_reducible refine Below.extW ?_ _))) hb4
  have s4 : w.heap.size ≤ w4.heap.size := B4.size
  have z4_0 : w1.heap.size < w4.heap.size := by have := hb4.size; (try simp at this); omega
  have y4_0 : w1.heap.size ≤ w4.heap.size := Nat.le_of_lt z4_0
  have c4_0 := fun o => hb4.cell (p := ⟨w1.heap.size, o, none⟩) (by first | omega | (simp <;> omega))
  have f4_0 := fun o => hb4.frozen (p := ⟨w1.heap.size, o, none⟩) (by first | omega | (simp <;> omega))
  have T4 := Lib.hid (T3.out.below (hb4.mono HBw.out))
  have HBw4 : Hid (B ≤ w4.heap.size) := Lib.hid (Nat.le_trans HBw.out hb4.size)
  go_wp2_with fail
  refine wp_region_ext (by kernel_rfl) (by kernel_rfl) ?_
  repeat (go_big_quiet_step (first
    | (go_at_call 38; exact quiet_ext (table_N (T4.out.below ((ext_below _ _).mono HBw4.out))))
    | (go_at_call 181; exact quiet_ext (HU.out _))))
  refine wpQuiet_nil ?_
  intro w5 hb5
  replace hb5 := below_of_ext hb5
  have B5 : Below w.heap.size w w5 := Below.then_ (by repeat (first | with_reducible exact Below.refl _ _ | with_reducible assumption | ((with_reducible refine Below.setCell ?_ ?_ _); rotate_left; · (first | omega | exact Nat.le_refl _ | (simp <;> omega))) | (with_reducible refine Below.allocW ?_ _) | (with_reducible refine Below.drew ?_) | (with_reducible refine Below.extW ?_ _))) hb5
  have s5 : w.heap.size ≤ w5.heap.size := B5.size
  go_wp2_with fail
  go_ret2
  exact ⟨rfl, B5⟩
end Go.Proofs.YtmadmlkmdnjmaaaGreat
/- Chapter 21: where something may change: plain laws. -/
namespace Go.Proofs.YtmadmlkmdnjmaaaGreat
open Go.ChangeShapes Go.WideShapes Go.ChangeAt Go.RowKit
set_option linter.unusedVariables false

/-- Where nodes begin and end. -/
def edgeL (l : Int) (r : List Nd) : List Int := r.flatMap fun x => [(endsOf l x.1).1, (endsOf l x.1).2.1]
theorem edgeL_append (l : Int) (a b : List Nd) : edgeL l (a ++ b) = edgeL l a ++ edgeL l b := by simp [edgeL]
theorem edgeL_len (l : Int) (r : List Nd) : (edgeL l r).length = 2 * r.length := by
  induction r with
  | nil => rfl
  | cons x r ih => simp only [edgeL, List.flatMap_cons, List.length_append, List.length_cons, List.length_nil] at ih ⊢; omega
theorem edgeL_take (l : Int) (r : List Nd) {q : Nat} (h : q < r.length) : edgeL l (r.take (q + 1)) = edgeL l (r.take q) ++ [(endsOf l r[q].1).1, (endsOf l r[q].1).2.1] := by
  rw [List.take_succ_eq_append_getElem h, edgeL_append]
  simp [edgeL]
/-- 0, and where the nodes of both begin and end. -/
def gapE (l : Int) (a b : List Nd) : List Int := 0 :: edgeL l (a ++ b)
theorem gapE_len (l : Int) (a b : List Nd) : (gapE l a b).length = 2 * (a.length + b.length) + 1 := by simp only [gapE, List.length_cons, edgeL_len, List.length_append]
/-- A rising list of just these. -/
def Rising (L E : List Int) : Prop := L.Pairwise (· ≤ ·) ∧ (∀ x, x ∈ L ↔ x ∈ E)
theorem compact_mem (d : Array Int) (m : Nat) : ∀ j, j < m → d[j]! ∈ Lib.compactUpTo d m := by
  induction m with
  | zero => intro j hj; omega
  | succ m ih =>
    intro j hj
    rw [Lib.compactUpTo_succ]
    by_cases e : j = m
    · subst e
      by_cases k : Lib.keeps d j = true
      · rw [if_pos k]; simp
      · rw [if_neg k, List.append_nil]
        have k' : ¬ (j = 0 ∨ d[j]! ≠ d[j - 1]!) := by simpa [Lib.keeps] using k
        have h0 : j ≠ 0 := fun h => k' (.inl h)
        have h1 : d[j]! = d[j - 1]! := Decidable.not_not.1 fun h => k' (.inr h)
        rw [h1]
        exact ih _ (by omega)
    · exact List.mem_append_left _ (ih j (by omega))
theorem compact_sub (zs : List Int) : (Lib.compact zs).Sublist zs := by
  unfold Lib.compact Lib.compactUpTo
  have h := (List.filter_sublist (l := List.range zs.length) (p := Lib.keeps zs.toArray)).map (fun j => zs.toArray[j]!)
  have e := Lib.range_map_get zs.toArray
  simp only [List.size_toArray, List.toList_toArray] at e
  rwa [e] at h
theorem compact_rising (E : List Int) : Rising (Lib.compact (E.mergeSort fun x y => decide (x ≤ y))) E := by
  have hp : (E.mergeSort fun x y => decide (x ≤ y)).Pairwise (· ≤ ·) := by
    have := List.pairwise_mergeSort (le := fun (x y : Int) => decide (x ≤ y)) (fun a b c h1 h2 => by simp only [decide_eq_true_eq] at *; omega) (fun a b => by simp only [Bool.or_eq_true, decide_eq_true_eq]; omega) E
    exact this.imp fun h => by simpa using h
  refine ⟨hp.sublist (compact_sub _), fun x => ?_⟩
  rw [← List.mem_mergeSort (le := fun (x y : Int) => decide (x ≤ y)) (l := E)]
  generalize E.mergeSort (fun x y => decide (x ≤ y)) = zs
  constructor
  · exact fun h => (compact_sub _).subset h
  · intro h
    obtain ⟨j, hj, rfl⟩ := List.getElem_of_mem h
    have := compact_mem zs.toArray zs.length j hj
    rw [getElem!_pos _ _ (by simpa using hj)] at this
    simpa [Lib.compact] using this
theorem compact_len_le (E : List Int) : (Lib.compact (E.mergeSort fun x y => decide (x ≤ y))).length ≤ E.length := by
  have := (compact_sub (E.mergeSort fun x y => decide (x ≤ y))).length_le
  rwa [List.length_mergeSort] at this
/-- The first one of a rising list is the least of any. -/
theorem apFold_rising {f : Int → Int} {L E : List Int} (h : Rising L E) {r : Int × Int} (hr : apIs f L r) : r = apFold f E := apIs_unique h.2 hr (apFold_is f E)
theorem gapFold_rising {l d : Int} {a b : List Nd} {L E : List Int} (h : Rising L E) : gapFold l d a b L = gapFold l d a b E := gapFold_set h.2
end Go.Proofs.YtmadmlkmdnjmaaaGreat
/- Leaves: package twig, and the reference of layer 2. -/
namespace Go.Proofs.YtmadmlkmdnjmaaaGreat
open Go.ChangeShapes Go.WideShapes Go.ChangeAt Go.RowKit
set_option linter.unusedVariables false
set_option maxRecDepth 100000

/-- Is a number a value of a universe? -/
def isVal (l : Nat) (x : Int) : Bool := decide (0 ≤ x) && decide (x < 2 ^ l)
def leafV (l : Nat) (x : Int) : Value := .tuple #[.int .i64 (if isVal l x = true then 2 ^ l + x else 0), .bool (isVal l x)]
theorem leafV_yes {l : Nat} {x : Int} (h : isVal l x = true) : leafV l x = .tuple #[.int .i64 (2 ^ l + x), .bool true] := by unfold leafV; rw [h]; rfl
theorem leafV_no {l : Nat} {x : Int} (h : isVal l x = false) : leafV l x = .tuple #[.int .i64 0, .bool false] := by unfold leafV; rw [h]; rfl
theorem or_leaf {l : Nat} (h : l ≤ 48) {x : Int} (h0 : 0 ≤ x) (h1 : x < 2 ^ l) : bits .or .i64 (2 ^ l) x = 2 ^ l + x := by
  have p1 := pow_48 h
  have p2 := pow_pos' l
  exact bits_join .i64 63 (by decide) (fun n h0 h1 => by rw [IntKind.wrap_i64]; omega) l (2 ^ l) x (by omega) (Int.emod_self) (by omega) h0 h1 (by omega)
theorem twig_Leaf (w : World) (l : Nat) (x : Int) (h1 : 1 ≤ l) (h2 : l ≤ 48) : Calls Tryz.prog 96 #[.int .i64 l, .int .i64 x] w fun e w' => e = .returned (leafV l x) ∧ Below w.heap.size w w' := by
  have p1 := pow_48 h2
  have p2 := pow_pos' l
  have HU := Lib.hid (show decide (1 ≤ (l : Int) ∧ (l : Int) ≤ 48) = true by simp; omega)
  have l1 : (1 : Int) ≤ (l : Int) := by omega
  have l2 : (l : Int) ≤ 48 := by omega
  by_cases hx0 : x < 0
  · rw [leafV_no (by unfold isVal; simp; omega)]
    go_enter Tryz.func96, Tryz.ntmps96
    go_wp2_with fail
    refine (universe_ _ _).mono ?_
    rintro e w1 ⟨rfl, hb1⟩
    have B1 : Below w.heap.size w w1 := Below.then_ (by repeat (first | with_reducible exact Below.refl _ _ | with_reducible assumption | ((with_reducible refine Below.setCell ?_ ?_ _); rotate_left; · (first | omega | exact Nat.le_refl _ | (simp <;> omega))) | (with_reducible refine Below.allocW ?_ _) | (with_reducible refine Below.drew ?_) | (with_reducible refine Below.extW ?_ _))) hb1
    have s1 : w.heap.size ≤ w1.heap.size := B1.size
    rw [HU.out]
    go_wp2_with fail
    go_ret2
    exact ⟨rfl, B1⟩
  · have k0 : decide (x < 0) = false := by simpa using hx0
    by_cases hx1 : x < 2 ^ l
    · rw [leafV_yes (by unfold isVal; simp; omega)]
      have HO := Lib.hid (or_leaf h2 (show 0 ≤ x by omega) hx1)
      have k1 : decide ((2 : Int) ^ l ≤ x) = false := by simp; omega
      go_enter Tryz.func96, Tryz.ntmps96
      go_wp2_with fail
      refine (universe_ _ _).mono ?_
      rintro e w1 ⟨rfl, hb1⟩
      have B1 : Below w.heap.size w w1 := Below.then_ (by repeat (first | with_reducible exact Below.refl _ _ | with_reducible assumption | ((with_reducible refine Below.setCell ?_ ?_ _); rotate_left; · (first | omega | exact Nat.le_refl _ | (simp <;> omega))) | (with_reducible refine Below.allocW ?_ _) | (with_reducible refine Below.drew ?_) | (with_reducible refine Below.extW ?_ _))) hb1
      have s1 : w.heap.size ≤ w1.heap.size := B1.size
      rw [HU.out]
      go_wp2_with fail
      go_ret2
      exact ⟨by simp [HO.out], B1⟩
    · rw [leafV_no (by unfold isVal; simp; omega)]
      have k1 : decide ((2 : Int) ^ l ≤ x) = true := by simp; omega
      go_enter Tryz.func96, Tryz.ntmps96
      go_wp2_with fail
      refine (universe_ _ _).mono ?_
      rintro e w1 ⟨rfl, hb1⟩
      have B1 : Below w.heap.size w w1 := Below.then_ (by repeat (first | with_reducible exact Below.refl _ _ | with_reducible assumption | ((with_reducible refine Below.setCell ?_ ?_ _); rotate_left; · (first | omega | exact Nat.le_refl _ | (simp <;> omega))) | (with_reducible refine Below.allocW ?_ _) | (with_reducible refine Below.drew ?_) | (with_reducible refine Below.extW ?_ _))) hb1
      have s1 : w.heap.size ≤ w1.heap.size := B1.size
      rw [HU.out]
      go_wp2_with fail
      go_ret2
      exact ⟨rfl, B1⟩
theorem ref2_Leaf (w : World) (l : Nat) (x : Int) (h1 : 1 ≤ l) (h2 : l ≤ 48) : Calls Tryz.prog 297 #[.int .i64 l, .int .i64 x] w fun e w' => e = .returned (leafV l x) ∧ Below w.heap.size w w' := by
  have p1 := pow_48 h2
  have p2 := pow_pos' l
  have HU := Lib.hid (show decide (1 ≤ (l : Int) ∧ (l : Int) ≤ 48) = true by simp; omega)
  have HP := Lib.hid (ref2_Power · l (by omega))
  by_cases hx0 : x < 0
  · rw [leafV_no (by unfold isVal; simp; omega)]
    go_enter Tryz.func297, Tryz.ntmps297
    go_wp2_with fail
    refine (ref2_Is _ _).mono ?_
    rintro e w1 ⟨rfl, hb1⟩
    have B1 : Below w.heap.size w w1 := Below.then_ (by repeat (first | with_reducible exact Below.refl _ _ | with_reducible assumption | ((with_reducible refine Below.setCell ?_ ?_ _); rotate_left; · (first | omega | exact Nat.le_refl _ | (simp <;> omega))) | (with_reducible refine Below.allocW ?_ _) | (with_reducible refine Below.drew ?_) | (with_reducible refine Below.extW ?_ _))) hb1
    have s1 : w.heap.size ≤ w1.heap.size := B1.size
    rw [HU.out]
    go_wp2_with fail
    go_ret2
    exact ⟨rfl, B1⟩
  · have k0 : decide (x < 0) = false := by simpa using hx0
    by_cases hx1 : x < 2 ^ l
    · rw [leafV_yes (by unfold isVal; simp; omega)]
      have k1 : decide ((2 : Int) ^ l ≤ x) = false := by simp; omega
      go_enter Tryz.func297, Tryz.ntmps297
      go_wp2_with fail
      refine (ref2_Is _ _).mono ?_
      rintro e w1 ⟨rfl, hb1⟩
      have B1 : Below w.heap.size w w1 := Below.then_ (by repeat (first | with_reducible exact Below.refl _ _ | with_reducible assumption | ((with_reducible refine Below.setCell ?_ ?_ _); rotate_left; · (first | omega | exact Nat.le_refl _ | (simp <;> omega))) | (with_reducible refine Below.allocW ?_ _) | (with_reducible refine Below.drew ?_) | (with_reducible refine Below.extW ?_ _))) hb1
      have s1 : w.heap.size ≤ w1.heap.size := B1.size
      rw [HU.out]
      go_wp2_with fail
      refine (HP.out _).mono ?_
      rintro e w2 ⟨rfl, hb2⟩
      have B2 : Below w.heap.size w w2 := Below.then_ (by repeat (first | with_reducible exact Below.refl _ _ | with_reducible assumption | ((with_reducible refine Below.setCell ?_ ?_ _); rotate_left; · (first | omega | exact Nat.le_refl _ | (simp <;> omega))) | (with_reducible refine Below.allocW ?_ _) | (with_reducible refine Below.drew ?_) | (with_reducible refine Below.extW ?_ _))) hb2
      have s2 : w.heap.size ≤ w2.heap.size := B2.size
      go_wp2_with fail
      refine (HP.out _).mono ?_
      rintro e w3 ⟨rfl, hb3⟩
      have B3 : Below w.heap.size w w3 := Below.then_ (by repeat (first | with_reducible exact Below.refl _ _ | with_reducible assumption | ((with_reducible refine Below.setCell ?_ ?_ _); rotate_left; · (first | omega | exact Nat.le_refl _ | (simp <;> omega))) | (with_reducible refine Below.allocW ?_ _) | (with_reducible refine Below.drew ?_) | (with_reducible refine Below.extW ?_ _))) hb3
      have s3 : w.heap.size ≤ w3.heap.size := B3.size
      go_wp2_with fail
      go_ret2
      exact ⟨rfl, B3⟩
    · rw [leafV_no (by unfold isVal; simp; omega)]
      have k1 : decide ((2 : Int) ^ l ≤ x) = true := by simp; omega
      go_enter Tryz.func297, Tryz.ntmps297
      go_wp2_with fail
      refine (ref2_Is _ _).mono ?_
      rintro e w1 ⟨rfl, hb1⟩
      have B1 : Below w.heap.size w w1 := Below.then_ (by repeat (first | with_reducible exact Below.refl _ _ | with_reducible assumption | ((with_reducible refine Below.setCell ?_ ?_ _); rotate_left; · (first | omega | exact Nat.le_refl _ | (simp <;> omega))) | (with_reducible refine Below.allocW ?_ _) | (with_reducible refine Below.drew ?_) | (with_reducible refine Below.extW ?_ _))) hb1
      have s1 : w.heap.size ≤ w1.heap.size := B1.size
      rw [HU.out]
      go_wp2_with fail
      refine (HP.out _).mono ?_
      rintro e w2 ⟨rfl, hb2⟩
      have B2 : Below w.heap.size w w2 := Below.then_ (by repeat (first | with_reducible exact Below.refl _ _ | with_reducible assumption | ((with_reducible refine Below.setCell ?_ ?_ _); rotate_left; · (first | omega | exact Nat.le_refl _ | (simp <;> omega))) | (with_reducible refine Below.allocW ?_ _) | (with_reducible refine Below.drew ?_) | (with_reducible refine Below.extW ?_ _))) hb2
      have s2 : w.heap.size ≤ w2.heap.size := B2.size
      go_wp2_with fail
      go_ret2
      exact ⟨rfl, B2⟩
end Go.Proofs.YtmadmlkmdnjmaaaGreat
/- Appends inside a fence; what a round keeps. -/
namespace Go.Proofs.YtmadmlkmdnjmaaaGreat
open Go.ChangeShapes Go.WideShapes Go.ChangeAt Go.RowKit
set_option linter.unusedVariables false

section
variable {α : Type} {P : Program} {t e : TypeId} {size bytes : Nat} {z : Value} {F : Fence} {n : Nat}
theorem wpListIn_app {w : World} {ops : Array Oper} {rest : List Oper} {o : Oper} {a : Act} {Q : Exit → Act → World → Prop} (T : SliceTy P t e size bytes z) (hgd : o.guard = none) (s x : Operand)
    (ho : o.op = .call { callee := .builtin .append, args := #[s, x], argTypes := #[t, t] }) (E : Enc α size) (base : Nat) (v : Value) (l : List α) (hs : a.eval s = v) (hown : Own w base e E v l)
    (A : Option Addr) (c : Nat) (l2 : List α) (B : Nat) (hx : a.eval x = .slice A l2.length c) (hsrc : Sl w B E A l2) (hn : (l.length + l2.length) * bytes ≤ 140737488355328) (hm : l.length + l2.length ≤ maxLen) (hbase : base ≤ w.heap.size)
    (h : ∀ v' w', Own w' base e E v' (l ++ l2) → w.grownBy w' v.ownBlock → (v'.ownBlock = v.ownBlock ∨ v'.ownBlock = some w.heap.size) → Below base w w' → (l2 ≠ [] → v' ≠ .slice none 0 0) →
      wpListIn F n P ops Q rest (a.put o.dst v') w') : wpListIn F n P ops Q (o :: rest) a w := by
  refine wpListIn_plain hgd fun K hK => ?_
  obtain ⟨v', w', hr, h2, h3, h4, h5⟩ := app_run T o.type w base v l hown A c l2 B hsrc hn hm hbase
  unfold Oper.wpIn
  refine ⟨?_, ?_⟩
  · simp [Oper.about, ho, resolve, Target.leads, Sem.run_pure]
  · rw [Oper.semAt_plain F _ _ (by rw [ho]; intro c hc'; cases hc')]
    simp only [execOp, ho, resolve, invoke, builtin, Sem.run_bind, Sem.run_pure, Result.andThen_ok, List.map_toArray, List.map_cons, List.map_nil, hs, hx, hr]
    exact hK _ _ (h v' w' h2 h3 h4 ((Below.refl base w).grown h3 hbase fun k hk => (hown.lt k hk).1) h5)
theorem wpListIn_push {w : World} {ops : Array Oper} {rest : List Oper} {o : Oper} {a : Act} {Q : Exit → Act → World → Prop} (T : SliceTy P t e size bytes z) (hgd : o.guard = none) (s x : Operand)
    (ho : o.op = .call { callee := .builtin .append, args := #[s, x], argTypes := #[t, t] }) (E : Enc α size) (W : World) (base : Nat) (v : Value) (l : List α) (hs : a.eval s = v) (hown : Own W base e E v l)
    (x0 : α) (hx : a.eval x = .slice (some ⟨W.heap.size, 0, none⟩) 1 1) (hw : w = W.alloc (.cells (E.enc x0).toArray e)) (hn : (l.length + 1) * bytes ≤ 140737488355328) (hm : l.length + 1 ≤ maxLen) (hbase : base ≤ W.heap.size)
    (h : ∀ v' w', Own w' base e E v' (l ++ [x0]) → W.grownBy w' v.ownBlock → W.heap.size < w'.heap.size → (v'.ownBlock = v.ownBlock ∨ v'.ownBlock = some (W.heap.size + 1)) → Below base W w' → v' ≠ .slice none 0 0 →
      wpListIn F n P ops Q rest (a.put o.dst v') w') : wpListIn F n P ops Q (o :: rest) a w := by
  subst hw
  have hsl := sl_lit W E [x0] e _ rfl
  simp only [List.flatMap_cons, List.flatMap_nil, List.append_nil] at hsl
  refine wpListIn_app T hgd s x ho E base v l hs (hown.alloc _) (some ⟨W.heap.size, 0, none⟩) 1 [x0] _ (by simpa using hx) hsl (by simpa using hn) (by simpa using hm) (by simp; omega) fun v' w' h2 h3 h4 h5 h6 => ?_
  have hs := h3.size
  simp at hs
  refine h v' w' h2 ⟨h3.os, h3.tape, h3.output, by omega, fun i hi hne => (h3.block i (by simp; omega) hne).trans (Below.heap_alloc W _ i hi)⟩ (by omega) ?_ ?_ (h6 (by simp))
  · rcases h4 with h4 | h4
    · exact .inl h4
    · right; rw [h4]; simp
  · exact ((Below.refl base W).alloc hbase _).trans h5
end

/-- A round keeps the rows below z, but for those in X. -/
def KeepX (z : Nat) (X : Nat → Prop) (A B : World) : Prop := A.heap.size ≤ B.heap.size ∧ ∀ (b : Nat) (cs : Array Value) (t : TypeId) (fr : Nat × Nat), b < z → ¬ X b → A.heap[b]? = some (.cells cs t fr) → B.heap[b]? = some (.cells cs t fr)
section
variable {z : Nat} {X : Nat → Prop} {A B C : World}
theorem keepX_t (h : KeepX z X A B) (k : KeepX z X B C) : KeepX z X A C := ⟨Nat.le_trans h.1 k.1, fun b cs t fr hz hx hb => k.2 b cs t fr hz hx (h.2 b cs t fr hz hx hb)⟩
theorem keepX_b (W : World) (l : Nat) (o o' : Obj) (h : W.heap[l]? = some o) (hc : o.isCells = false) : KeepX z X W (W.putObj l o') := by
  refine ⟨(grownBy_putObj' W l o').size, fun b cs t fr _ _ hb => ?_⟩
  have hne : b ≠ l := by
    rintro rfl
    rw [h] at hb
    cases hb
    simp [Obj.isCells] at hc
  rw [World.putObj_heap_other hne]
  exact hb
theorem KeepX.refl (W : World) : KeepX z X W W := ⟨Nat.le_refl _, fun _ _ _ _ _ _ h => h⟩
theorem KeepX.of_below (h : Below A.heap.size A B) : KeepX z X A B := ⟨h.size, fun b cs t fr _ _ hb => (h.block b (lt_of_block hb)).trans hb⟩
/-- A store to a block of X, or beyond z. -/
theorem KeepX.set (h : KeepX z X A B) {p : Addr} (hp : X p.block ∨ z ≤ p.block) (u : Value) : KeepX z X A (B.setCell p u) :=
  keepX_t h ⟨by simp [World.setCell], fun b cs t fr hz hx hb => by
    rw [Below.heap_setCell _ _ _ _ (by
      rintro rfl
      rcases hp with hp | hp
      · exact hx hp
      · omega)]
    exact hb⟩
theorem KeepX.grown (h : KeepX z X A B) {row : Option Nat} (hg : B.grownBy C row) (hr : ∀ b, row = some b → z ≤ b) : KeepX z X A C :=
  keepX_t h ⟨hg.size, fun b cs t fr hz hx hb => (hg.block b (lt_of_block hb) (fun e => by have := hr b e.symm; omega)).trans hb⟩
theorem KeepX.cell (h : KeepX z X A B) {b o : Nat} {v : Value} (hz : b < z) (hx : ¬ X b) (hc : A.cell? ⟨b, o, none⟩ = some v) : B.cell? ⟨b, o, none⟩ = some v := by
  obtain ⟨ob, h1, h2⟩ := cells_of_cell hc
  cases ob with
  | cells cs t fr => exact (World.cell?_of_block ((h.2 b cs t fr hz hx h1).trans h1.symm)).trans hc
  | _ => simp [Obj.isCells] at h2
/-- A row is kept where what is no row turns. -/
theorem row_grown {row : Option Nat} {b : Nat} {cs : Array Value} {t : TypeId} {fr : Nat × Nat} (h : A.heap[b]? = some (.cells cs t fr)) (hg : A.grownBy B row) (hr : ∀ r, row = some r → ∃ o : Obj, A.heap[r]? = some o ∧ o.isCells = false) : B.heap[b]? = some (.cells cs t fr) :=
  (grownBy_keeps_cells hg hr h rfl).trans h
theorem own_grown {α : Type} {size base e : Nat} {E : Enc α size} {v : Value} {l : List α} {row : Option Nat} (h : Own A base e E v l) (hg : A.grownBy B row) (hr : ∀ r, row = some r → ∃ o : Obj, A.heap[r]? = some o ∧ o.isCells = false) : Own B base e E v l :=
  h.of_block fun g hv => by
    rcases h with ⟨rfl, _⟩ | ⟨g1, o1, c1, u1, rfl, _, hh1, _⟩
    · cases hv
    · have : g1 = g := by simpa [Value.ownBlock] using hv
      subst this
      exact grownBy_keeps_cells hg hr hh1 rfl
end
/-- A slice of ints that reads as a list, in a block below z that is none of X. -/
def SlX (w : World) (z : Nat) (X : Nat → Prop) (A : Option Addr) (es : List Int) : Prop := es = [] ∨ ∃ b off, A = some ⟨b, off, none⟩ ∧ b < z ∧ ¬ X b ∧ ∀ i x, es[i]? = some x → w.cell? ⟨b, off + i, none⟩ = some (.int .i64 x)
theorem SlX.keep {w w' : World} {z : Nat} {X : Nat → Prop} {A : Option Addr} {es : List Int} (h : SlX w z X A es) (k : KeepX z X w w') : SlX w' z X A es := by
  rcases h with h | ⟨b, off, rfl, hz, hx, hc⟩
  · exact .inl h
  · exact .inr ⟨b, off, rfl, hz, hx, fun i x hi => k.cell hz hx (hc i x hi)⟩
theorem SlX.below {w w' : World} {z : Nat} {X : Nat → Prop} {A : Option Addr} {es : List Int} (h : SlX w z X A es) (hb : Below z w w') : SlX w' z X A es := by
  rcases h with h | ⟨b, off, rfl, hz, hx, hc⟩
  · exact .inl h
  · exact .inr ⟨b, off, rfl, hz, hx, fun i x hi => (hb.cell (p := ⟨b, off + i, none⟩) hz).trans (hc i x hi)⟩
theorem SlX.of {w : World} {B z : Nat} {X : Nat → Prop} {A : Option Addr} {es : List Int} (h : Sl w B encZ A es) (hB : B ≤ z) (hX : ∀ b, b < B → ¬ X b) : SlX w z X A es := by
  rcases h with h | ⟨b, off, rfl, hb, hc⟩
  · exact .inl h
  · refine .inr ⟨b, off, rfl, by omega, hX b hb, fun i x hi => ?_⟩
    have := hc i x hi 0 (.int .i64 x) rfl
    simpa using this
theorem SlX.at_ {w : World} {z : Nat} {X : Nat → Prop} {A : Option Addr} {es : List Int} (h : SlX w z X A es) {i : Nat} (hi : i < es.length) : ∃ b off, A = some ⟨b, off, none⟩ ∧ b < z ∧ w.cell? ⟨b, off + i, none⟩ = some (.int .i64 es[i]) := by
  rcases h with h | ⟨b, off, rfl, hz, hx, hc⟩
  · subst h; simp at hi
  · exact ⟨b, off, rfl, hz, hc i _ (List.getElem?_eq_getElem hi)⟩
end Go.Proofs.YtmadmlkmdnjmaaaGreat
/- Chapter 19: bins: plain laws. -/
namespace Go.Proofs.YtmadmlkmdnjmaaaGreat
open Go.ChangeShapes Go.WideShapes Go.ChangeAt Go.RowKit
set_option linter.unusedVariables false

/-- Are numbers edges of a universe, behind a number? -/
def rightE (l : Nat) (p : Int) : List Int → Bool
  | [] => true
  | x :: r => (decide (0 ≤ x) && decide (x < 2 ^ l) && decide (p < x)) && rightE l x r
/-- The edge ahead of a place. -/
def prevE (es : List Int) (q : Nat) : Int := if q = 0 then -1 else es.getD (q - 1) 0
theorem prevE_succ {es : List Int} {q : Nat} (h : q < es.length) : prevE es (q + 1) = es[q] := by
  unfold prevE
  rw [if_neg (by omega), Nat.add_sub_cancel, List.getD_eq_getElem?_getD, List.getElem?_eq_getElem h]; rfl
theorem prevE_at {es : List Int} {q : Nat} (h : q < es.length) (h0 : 0 < q) : prevE es q = es[q - 1] := by
  unfold prevE
  rw [if_neg (by omega), List.getD_eq_getElem?_getD, List.getElem?_eq_getElem (by omega)]; rfl
theorem rightE_drop {l : Nat} {es : List Int} {q : Nat} (h : q < es.length) : rightE l (prevE es q) (es.drop q) = ((decide (0 ≤ es[q]) && decide (es[q] < 2 ^ l) && decide (prevE es q < es[q])) && rightE l (prevE es (q + 1)) (es.drop (q + 1))) := by
  rw [List.drop_eq_getElem_cons h, prevE_succ h]; rfl
/-- What weighs at least ahead of a bin. -/
def lowN (l : Int) (r : List Nd) (es : List Int) : Nat → Int
  | 0 => 0
  | q + 1 => if h : q < es.length then lowOf l r es[q] else sumR r
def binAt (l : Int) (r : List Nd) (es : List Int) (q : Nat) : Int := lowN l r es (q + 1) - lowN l r es q
def binsL (l : Int) (r : List Nd) (es : List Int) : List Int := (List.range (es.length + 1)).map (binAt l r es)
/-- A bin's first and last value. -/
def runAt (l : Nat) (es : List Int) (q : Nat) : Int × Int := (if q = 0 then 0 else es.getD (q - 1) 0 + 1, if q < es.length then es.getD q 0 else 2 ^ l - 1)
def runsL (l : Nat) (es : List Int) : List (Int × Int) := (List.range (es.length + 1)).map (runAt l es)
theorem binsL_len (l : Int) (r : List Nd) (es : List Int) : (binsL l r es).length = es.length + 1 := by simp [binsL]
theorem runsL_len (l : Nat) (es : List Int) : (runsL l es).length = es.length + 1 := by simp [runsL]
theorem binsL_at {l : Int} {r : List Nd} {es : List Int} {q : Nat} (h : q < (binsL l r es).length) : (binsL l r es)[q] = binAt l r es q := by simp [binsL]
theorem map_range_succ {α : Type} (f : Nat → α) (q : Nat) : (List.range (q + 1)).map f = (List.range q).map f ++ [f q] := by rw [List.range_succ, List.map_append]; rfl
/-- The program's sums: run by run. -/
def binStep (l : Int) (r : List Nd) (a : List Int × Int) (p : Int × Int) : List Int × Int := (a.1 ++ [lowOf l r p.2 - a.2], lowOf l r p.2)
def binFold (l : Int) (r : List Nd) (ps : List (Int × Int)) : List Int × Int := ps.foldl (binStep l r) ([], 0)
theorem binFold_snoc (l : Int) (r : List Nd) (ps : List (Int × Int)) (p : Int × Int) : binFold l r (ps ++ [p]) = binStep l r (binFold l r ps) p := by
  unfold binFold
  rw [List.foldl_append]; rfl
theorem binFold_len (l : Int) (r : List Nd) (ps : List (Int × Int)) : (binFold l r ps).1.length = ps.length := by
  suffices h : ∀ (a : List Int × Int), (ps.foldl (binStep l r) a).1.length = a.1.length + ps.length by
    have := h ([], 0)
    unfold binFold
    simpa using this
  induction ps with
  | nil => intro a; simp
  | cons p ps ih => intro a; rw [List.foldl_cons, ih]; simp [binStep]; omega
theorem binFold_range {l : Nat} {r : List Nd} (hr : rightOf l r = true) (es : List Int) (q : Nat) (hq : q ≤ es.length + 1) : binFold l r ((List.range q).map (runAt l es)) = ((List.range q).map (binAt l r es), lowN l r es q) := by
  induction q with
  | zero => rfl
  | succ q ih =>
    rw [map_range_succ, binFold_snoc, ih (by omega), map_range_succ]
    have e : lowOf l r (runAt l es q).2 = lowN l r es (q + 1) := by
      unfold runAt
      simp only [lowN]
      by_cases h : q < es.length
      · rw [dif_pos h, if_pos h, List.getD_eq_getElem?_getD, List.getElem?_eq_getElem h]; rfl
      · rw [dif_neg h, if_neg h]
        exact low_top hr (by omega)
    simp only [binStep, binAt, e]
theorem binFold_runs {l : Nat} {r : List Nd} (hr : rightOf l r = true) (es : List Int) : (binFold l r (runsL l es)).1 = binsL l r es := by
  unfold runsL
  rw [binFold_range hr es _ (Nat.le_refl _)]; rfl
/-- An edge less. -/
def lessE (es : List Int) (at_ : Nat) : List Int := es.take at_ ++ es.drop (at_ + 1)
theorem lessE_len {es : List Int} {at_ : Nat} (h : at_ < es.length) : (lessE es at_).length = es.length - 1 := by
  unfold lessE
  rw [List.length_append, List.length_take, List.length_drop]; omega
theorem lessE_get (es : List Int) (at_ i : Nat) (h : at_ < es.length) : (lessE es at_)[i]? = if i < at_ then es[i]? else es[i + 1]? := by
  unfold lessE
  by_cases hi : i < at_
  · rw [if_pos hi, List.getElem?_append_left (by rw [List.length_take]; omega), List.getElem?_take, if_pos hi]
  · rw [if_neg hi, List.getElem?_append_right (by rw [List.length_take]; omega), List.getElem?_drop, List.length_take]
    congr 1; omega
theorem lowN_get (l : Int) (r : List Nd) (es : List Int) (q : Nat) : lowN l r es (q + 1) = match es[q]? with | some x => lowOf l r x | none => sumR r := by
  simp only [lowN]
  by_cases h : q < es.length
  · rw [dif_pos h, List.getElem?_eq_getElem h]
  · rw [dif_neg h, List.getElem?_eq_none (by omega)]
theorem lowN_less {l : Int} {r : List Nd} {es : List Int} {at_ : Nat} (h : at_ < es.length) (j : Nat) : lowN l r (lessE es at_) j = if j ≤ at_ then lowN l r es j else lowN l r es (j + 1) := by
  cases j with
  | zero => rw [if_pos (Nat.zero_le _)]; rfl
  | succ j =>
    rw [lowN_get, lessE_get _ _ _ h, lowN_get, lowN_get]
    by_cases hj : j < at_
    · rw [if_pos hj, if_pos (by omega)]
    · rw [if_neg hj, if_neg (by omega)]
theorem bins_join {l : Int} {r : List Nd} {es : List Int} {at_ : Nat} (h : at_ < es.length) :
    binsL l r (lessE es at_) = (binsL l r es).take at_ ++ [binAt l r es at_ + binAt l r es (at_ + 1)] ++ (binsL l r es).drop (at_ + 2) := by
  have hl := lessE_len h
  apply List.ext_getElem
  · rw [binsL_len, hl, List.length_append, List.length_append, List.length_take, List.length_drop, binsL_len]; simp only [List.length_singleton]; omega
  · intro i h1 h2
    rw [binsL_at]
    rw [binsL_len] at h1
    have hb : ∀ j, binAt l r (lessE es at_) j = (if j + 1 ≤ at_ then lowN l r es (j + 1) else lowN l r es (j + 1 + 1)) - (if j ≤ at_ then lowN l r es j else lowN l r es (j + 1)) := fun j => by
      unfold binAt; rw [lowN_less h, lowN_less h]
    rw [hb]
    have ht : ((binsL l r es).take at_).length = at_ := by rw [List.length_take, binsL_len]; omega
    rcases Nat.lt_trichotomy i at_ with hi | hi | hi
    · rw [if_pos (by omega), if_pos (by omega), List.getElem_append_left (by rw [List.length_append, ht]; omega), List.getElem_append_left (by rw [ht]; omega), List.getElem_take, binsL_at]; rfl
    · subst hi
      rw [if_neg (by omega), if_pos (by omega), List.getElem_append_left (by rw [List.length_append, ht]; simp), List.getElem_append_right (by rw [ht]; omega)]
      simp only [ht, Nat.sub_self, List.getElem_singleton, binAt]; omega
    · rw [if_neg (by omega), if_neg (by omega), List.getElem_append_right (by rw [List.length_append, ht]; simp; omega), List.getElem_drop, binsL_at]
      unfold binAt
      have e : at_ + 2 + (i - ((binsL l r es).take at_ ++ [binAt l r es at_ + binAt l r es (at_ + 1)]).length) = i + 1 := by
        rw [List.length_append, ht]; simp only [List.length_singleton]; omega
      simp only [binAt] at e
      rw [e]
theorem rightE_less {l : Nat} (es : List Int) : ∀ (p : Int) (at_ : Nat), rightE l p es = true → rightE l p (lessE es at_) = true := by
  induction es with
  | nil => intro p at_ h; simp [lessE, rightE]
  | cons x es ih =>
    intro p at_ h
    simp only [rightE, Bool.and_eq_true, decide_eq_true_eq] at h
    obtain ⟨⟨⟨h1, h2⟩, h3⟩, h4⟩ := h
    cases at_ with
    | zero =>
      show rightE l p es = true
      cases es with
      | nil => rfl
      | cons y es =>
        simp only [rightE, Bool.and_eq_true, decide_eq_true_eq] at h4 ⊢
        obtain ⟨⟨⟨h5, h6⟩, h7⟩, h8⟩ := h4
        exact ⟨⟨⟨h5, h6⟩, by omega⟩, h8⟩
    | succ a =>
      show rightE l p (x :: lessE es a) = true
      simp only [rightE, Bool.and_eq_true, decide_eq_true_eq]
      exact ⟨⟨⟨h1, h2⟩, h3⟩, ih x a h4⟩
end Go.Proofs.YtmadmlkmdnjmaaaGreat
/- Package bins: runs, an iterator over where bins begin and end. -/
namespace Go.Proofs.YtmadmlkmdnjmaaaGreat
open Go.ChangeShapes Go.WideShapes Go.ChangeAt Go.RowKit
set_option linter.unusedVariables false
attribute [local go_sem] Oper.semAt_some

theorem runAt_fst_succ {l : Nat} {es : List Int} {q : Nat} (h : q < es.length) : (runAt l es (q + 1)).1 = es[q] + 1 := by
  unfold runAt
  simp only
  rw [if_neg (by omega), Nat.add_sub_cancel, List.getD_eq_getElem?_getD, List.getElem?_eq_getElem h]; rfl
theorem runAt_in {l : Nat} {es : List Int} {q : Nat} (h : q < es.length) : (runAt l es q).2 = es[q] := by
  unfold runAt
  simp only
  rw [if_pos h, List.getD_eq_getElem?_getD, List.getElem?_eq_getElem h]; rfl
theorem runAt_last (l : Nat) (es : List Int) : (runAt l es es.length).2 = 2 ^ l - 1 := by
  unfold runAt
  simp
theorem runs_take (l : Nat) (es : List Int) {q : Nat} (h : q ≤ es.length) : (runsL l es).take q ++ [((runAt l es q).1, (runAt l es q).2)] = (runsL l es).take (q + 1) := by
  have hq : q < (runsL l es).length := by rw [runsL_len]; omega
  rw [List.take_succ_eq_append_getElem hq]
  congr 1
  simp [runsL]
end Go.Proofs.YtmadmlkmdnjmaaaGreat
/- The reference of layer 18 (reach): Between, Share. -/
namespace Go.Proofs.YtmadmlkmdnjmaaaGreat
open Go.ChangeShapes Go.WideShapes Go.ChangeAt Go.RowKit
set_option linter.unusedVariables false
set_option maxRecDepth 100000

theorem three (p q : Prop) [Decidable p] [Decidable q] : (p ∧ q) ∨ (p ∧ decide q = false) ∨ decide p = false := by
  by_cases hp : p
  · by_cases hq : q
    · exact .inl ⟨hp, hq⟩
    · exact .inr (.inl ⟨hp, decide_eq_false hq⟩)
  · exact .inr (.inr (decide_eq_false hp))
theorem drew_heap (W : World) : W.drew.heap = W.heap := rfl
end Go.Proofs.YtmadmlkmdnjmaaaGreat
/- Edges of bins: package bins, and the reference of layer 19: Right. -/
namespace Go.Proofs.YtmadmlkmdnjmaaaGreat
open Go.ChangeShapes Go.WideShapes Go.ChangeAt Go.RowKit
set_option linter.unusedVariables false
set_option maxRecDepth 100000

theorem isNode_one {l : Nat} (h1 : 1 ≤ l) (h2 : l ≤ 48) : isNode l 1 = true := by
  have := pow_pos' l
  simp only [isNode, decide_eq_true_eq, Int.toNat_natCast]; omega
/-- One edge more. -/
theorem right_step {l : Nat} {es : List Int} {q : Nat} (h : q < es.length) :
    (isVal l es[q] = true ∧ (q = 0 ∨ prevE es q < es[q]) → rightE l (prevE es q) (es.drop q) = rightE l (prevE es (q + 1)) (es.drop (q + 1))) ∧
    (isVal l es[q] = false ∨ (0 < q ∧ es[q] ≤ prevE es q) → rightE l (prevE es q) (es.drop q) = false) := by
  rw [rightE_drop h]
  unfold isVal
  constructor
  · rintro ⟨h1, h2⟩
    simp only [Bool.and_eq_true, decide_eq_true_eq] at h1
    have : prevE es q < es[q] := by
      rcases h2 with rfl | h2
      · unfold prevE; simp; omega
      · exact h2
    simp [h1.1, h1.2, this]
  · rintro (h1 | ⟨h1, h2⟩)
    · rw [h1]; simp
    · have : decide (prevE es q < es[q]) = false := by simp; omega
      rw [this]; simp
/-- Why there are no bins. -/
def binErr (l : Nat) (es : List Int) : Int := if rightE l (-1) es = true then 0 else 8
end Go.Proofs.YtmadmlkmdnjmaaaGreat
/- Package bins: Of. -/
namespace Go.Proofs.YtmadmlkmdnjmaaaGreat
open Go.ChangeShapes Go.WideShapes Go.ChangeAt Go.RowKit
set_option linter.unusedVariables false
set_option maxRecDepth 100000
attribute [local go_sem] Oper.semAt_some

/-- What Of tells. -/
def ofBins (l : Nat) (r : List Nd) (es : List Int) : List Int := if binErr l es = 0 then binsL l r es else []
def BinsPost (l : Nat) (r : List Nd) (es : List Int) (w : World) (e : Ending) (w' : World) : Prop := ∃ v, e = .returned (.tuple #[v, .int .i64 (binErr l es)]) ∧ Own w' w.heap.size 3 encZ v (ofBins l r es) ∧ Below w.heap.size w w'
theorem rightE_all {l : Nat} (es : List Int) : ∀ p, rightE l p es = true → ∀ x ∈ es, 0 ≤ x ∧ x < 2 ^ l := by
  induction es with
  | nil => intro p _ x hx; simp at hx
  | cons y es ih =>
    intro p h x hx
    simp only [rightE, Bool.and_eq_true, decide_eq_true_eq] at h
    rcases List.mem_cons.1 hx with rfl | hx
    · exact h.1.1
    · exact ih y h.2 x hx
/-- The state behind some runs. -/
structure OfI (w : World) (l : Nat) (r : List Nd) (L B g bt bo ba z : Nat) (lt ft : List Nd) (pre : List (Int × Int)) (W : World) : Prop where
  t : W.heap[bt]? = some (.cells #[.pointer (some ⟨g, 0, none⟩)] 86 (0, 0))
  o : ∃ v, W.heap[bo]? = some (.cells #[v] 49 (0, 0)) ∧ Own W z 3 encZ v (binFold l r pre).1
  a : W.heap[ba]? = some (.cells #[.int .i64 (binFold l r pre).2] 3 (0, 0))
  tab : TabAt W L B g (sumR r) lt ft
  sz : z ≤ W.heap.size
theorem tab_grown {A B : World} {L B0 g : Nat} {n : Int} {lt ft : List Nd} {row : Option Nat} (h : TabAt A L B0 g n lt ft) (hg : A.grownBy B row) (hr : ∀ r, row = some r → ∃ o : Obj, A.heap[r]? = some o ∧ o.isCells = false) : TabAt B L B0 g n lt ft := by
  obtain ⟨h0, h0', A1, c1, A2, c2, A3, c3, A4, c4, h1, ⟨h2, h3, h4, h5⟩, h6⟩ := h
  exact ⟨h0, h0', A1, c1, A2, c2, A3, c3, A4, c4, row_grown h1 hg hr, ⟨own_grown h2 hg hr, own_grown h3 hg hr, own_grown h4 hg hr, own_grown h5 hg hr⟩, h6⟩
theorem binFold_range2 (l : Int) (r : List Nd) (hr : Roll r) (ps : List (Int × Int)) : 0 ≤ (binFold l r ps).2 ∧ (binFold l r ps).2 ≤ sumR r := by
  have h0 := sumR_nonneg hr
  rcases List.eq_nil_or_concat ps with rfl | ⟨qs, p, rfl⟩
  · simp only [binFold, List.foldl_nil]; omega
  · rw [List.concat_eq_append, binFold_snoc]
    exact weighR_le hr
end Go.Proofs.YtmadmlkmdnjmaaaGreat
/- A digest's blocks are rows of cells: what an iterator's state turns is none of them. -/
namespace Go.Proofs.YtmadmlkmdnjmaaaGreat
open Go.ChangeShapes Go.WideShapes Go.ChangeAt Go.RowKit
set_option linter.unusedVariables false

theorem own_cells {α : Type} {size base e : Nat} {E : Enc α size} {w : World} {v : Value} {l : List α} (h : Own w base e E v l) {b : Nat} (hb : v.ownBlock = some b) : ∃ o, w.heap[b]? = some o ∧ o.isCells = true := by
  rcases h with ⟨rfl, _⟩ | ⟨g1, o1, c1, u1, rfl, _, hh1, _⟩
  · cases hb
  · have : g1 = b := by simpa [Value.ownBlock] using hb
    subst this
    exact ⟨_, hh1, rfl⟩
theorem DigAt.cells {w : World} {g K l : Nat} {k : Int} {r : List Nd} {F : Nat → Prop} (h : DigAt w g K l k r F) : ∀ b, F b → ∃ o, w.heap[b]? = some o ∧ o.isCells = true := by
  obtain ⟨h1, h2, p, F0, rfl, h3, h4⟩ := h
  rintro q (rfl | hq)
  · exact ⟨_, h3, rfl⟩
  · obtain ⟨a1, a2, a3, p2, F1, rfl, h5⟩ := h4
    rcases h5 with ⟨_, _, c, d⟩ | ⟨_, c, d⟩
    · rcases hq with rfl | hq
      · exact ⟨_, c, rfl⟩
      · obtain ⟨v, C, e1, e2, _, _, rfl⟩ := d
        rcases hq with rfl | hq
        · exact ⟨_, e1, rfl⟩
        · exact own_cells e2 hq
    · rcases hq with rfl | hq
      · exact ⟨_, c, rfl⟩
      · obtain ⟨v, S, b, e1, e2, _, _, _, _, rfl⟩ := d
        rcases hq with rfl | hq
        · exact ⟨_, e1, rfl⟩
        · exact own_cells e2 hq
theorem DigAt.grown {A B : World} {g K l : Nat} {k : Int} {r : List Nd} {F : Nat → Prop} {row : Option Nat} (h : DigAt A g K l k r F) (hg : A.grownBy B row) (hr : ∀ r, row = some r → ∃ o : Obj, A.heap[r]? = some o ∧ o.isCells = false) : DigAt B g K l k r F :=
  h.keep fun b hb => by
    obtain ⟨o, ho, hc⟩ := h.cells b hb
    exact hg.block b (h.lt b hb) fun e => by
      obtain ⟨o2, ho2, hc2⟩ := hr b e.symm
      rw [ho] at ho2; cases ho2
      rw [hc] at hc2; cases hc2
end Go.Proofs.YtmadmlkmdnjmaaaGreat
/- append(s, x, y ..): a list that was made for the call alone. -/
namespace Go.Proofs.YtmadmlkmdnjmaaaGreat
open Go.ChangeShapes Go.WideShapes Go.ChangeAt Go.RowKit
set_option linter.unusedVariables false

section
variable {α : Type} {P : Program} {t e : TypeId} {size bytes : Nat} {z : Value}
theorem wpList_pushes {w : World} {ops : Array Oper} {rest : List Oper} {o : Oper} {a : Act} {Q : Exit → Act → World → Prop} (T : SliceTy P t e size bytes z) (hgd : o.guard = none) (s x : Operand)
    (ho : o.op = .call { callee := .builtin .append, args := #[s, x], argTypes := #[t, t] }) (E : Enc α size) (W : World) (base : Nat) (v : Value) (l : List α) (hs : a.eval s = v) (hown : Own W base e E v l)
    (l2 : List α) (n : Nat) (hn2 : n = l2.length) (hx : a.eval x = .slice (some ⟨W.heap.size, 0, none⟩) n n) (hw : w = W.alloc (.cells (l2.flatMap E.enc).toArray e)) (hn : (l.length + l2.length) * bytes ≤ 140737488355328) (hm : l.length + l2.length ≤ maxLen) (hbase : base ≤ W.heap.size)
    (h : ∀ v' w', Own w' base e E v' (l ++ l2) → W.grownBy w' v.ownBlock → W.heap.size < w'.heap.size → (v'.ownBlock = v.ownBlock ∨ v'.ownBlock = some (W.heap.size + 1)) → Below base W w' → (l2 ≠ [] → v' ≠ .slice none 0 0) →
      wpList P ops Q rest (a.put o.dst v') w') : wpList P ops Q (o :: rest) a w := by
  subst hw hn2
  refine wpList_app T hgd s x ho E base v l hs (hown.alloc _) (some ⟨W.heap.size, 0, none⟩) l2.length l2 _ hx (sl_lit W E l2 e _ rfl) hn hm (by simp; omega) fun v' w' h2 h3 h4 h5 h6 => ?_
  have hs := h3.size
  simp at hs
  refine h v' w' h2 ⟨h3.os, h3.tape, h3.output, by omega, fun i hi hne => (h3.block i (by simp; omega) hne).trans (Below.heap_alloc W _ i hi)⟩ (by omega) ?_ ?_ h6
  · rcases h4 with h4 | h4
    · exact .inl h4
    · right; rw [h4]; simp
  · exact ((Below.refl base W).alloc hbase _).trans h5
end
end Go.Proofs.YtmadmlkmdnjmaaaGreat
/- slices.Sort and slices.Compact on a list of ints that the call owns. -/
namespace Go.Proofs.YtmadmlkmdnjmaaaGreat
open Go.ChangeShapes Go.WideShapes Go.ChangeAt Go.RowKit
set_option linter.unusedVariables false

theorem flatZ (l : List Int) : l.flatMap encZ.enc = l.map (Value.int .i64) := by
  induction l with
  | nil => rfl
  | cons x l ih => rw [List.flatMap_cons, ih]; rfl
theorem Own.holdsZ {w : World} {base g off cap : Nat} {l : List Int} (h : Own w base 3 encZ (.slice (some ⟨g, off, none⟩) l.length cap) l) : Go.Sort.Holds (Value.int .i64) w g off l.toArray := by
  intro j hj
  have hj : j < l.length := by simpa using hj
  rcases h with ⟨h, _⟩ | ⟨g', off', cap', cur, hv, hb, hh, h1, h2, h3, hc⟩
  · cases h
  · injection hv with hv _ _
    injection hv with hv
    injection hv with e1 e2
    subst e1 e2
    rw [blk_cell hh, blk_frozen hh]
    refine ⟨hc j _ ?_, rfl⟩
    rw [flatZ, List.getElem?_map, List.getElem?_eq_getElem hj]
    simp [hj]
theorem Own.putZ {w : World} {base g off cap : Nat} {l : List Int} (h : Own w base 3 encZ (.slice (some ⟨g, off, none⟩) l.length cap) l) (d l' : List Int) (hd : d.length = l.length) (rest : List Int) (hr : d = l' ++ rest) (n : Nat) (os : Array Obj) :
    Own (Go.Sort.grow (Go.Sort.putRow (Value.int .i64) (Go.Sort.ahead w n) g off d.toArray) os) base 3 encZ (.slice (some ⟨g, off, none⟩) l'.length cap) l' ∧ Turn (fun b => b = g) w (Go.Sort.grow (Go.Sort.putRow (Value.int .i64) (Go.Sort.ahead w n) g off d.toArray) os) ∧ base ≤ g := by
  have hl : l'.length ≤ l.length := by rw [← hd, hr, List.length_append]; omega
  rcases h with ⟨h, _⟩ | ⟨g', off', cap', cur, hv, hb, hh, h1, h2, h3, hc⟩
  · cases h
  · injection hv with hv _ hcap
    injection hv with hv
    injection hv with e1 e2
    subst e1 e2 hcap
    have hlt : g < w.heap.size := lt_of_block hh
    have hg : (Go.Sort.grow (Go.Sort.putRow (Value.int .i64) (Go.Sort.ahead w n) g off d.toArray) os).heap[g]? = some (.cells (Go.Sort.putCells (Value.int .i64) off d.toArray cur) 3 (0, 0)) := by
      rw [Go.Sort.heap_grow_old _ _ (by simp [Go.Sort.putRow, Go.Sort.mapBlock, Go.Sort.ahead]; exact hlt)]
      simp [Go.Sort.putRow, Go.Sort.mapBlock, Go.Sort.ahead, Array.getElem?_modify, Go.Sort.onCells, hh]
    refine ⟨.inr ⟨g, off, cap, _, rfl, hb, hg, by omega, h2, by simpa [Go.Sort.putCells] using h3, fun j u hj => ?_⟩, ⟨rfl, rfl, rfl, ?_, fun b hlb hn => ?_⟩, hb⟩
    · rw [flatZ, List.getElem?_map] at hj
      obtain ⟨x, hx, rfl⟩ := Option.map_eq_some_iff.1 hj
      have hjl : j < l'.length := (List.getElem?_eq_some_iff.1 hx).1
      have hcur : cur[off + j]? = some cur[off + j] := Array.getElem?_eq_getElem (by omega)
      simp only [Go.Sort.putCells, Array.getElem?_mapIdx, hcur, Option.map_some]
      rw [if_pos ⟨by omega, by simp [hd]; omega⟩]
      have hdj : d[j]? = some x := by rw [hr, List.getElem?_append_left hjl]; exact hx
      have e : d.toArray[off + j - off]! = x := by
        rw [Nat.add_sub_cancel_left, getElem!_pos _ _ (by simpa using (List.getElem?_eq_some_iff.1 hdj).1)]
        simpa using (List.getElem?_eq_some_iff.1 hdj).2
      rw [e]
    · simp [Go.Sort.grow, Go.Sort.putRow, Go.Sort.mapBlock, Go.Sort.ahead]
    · rw [Go.Sort.heap_grow_old _ _ (by simp [Go.Sort.putRow, Go.Sort.mapBlock, Go.Sort.ahead]; exact hlb)]
      simp only [Go.Sort.putRow, Go.Sort.mapBlock, Go.Sort.ahead, Array.getElem?_modify]
      rw [if_neg (by intro h; exact hn h.symm)]
/-- slices.Sort. -/
theorem sort_own (w : World) (base g off cap : Nat) (l : List Int) (h : Own w base 3 encZ (.slice (some ⟨g, off, none⟩) l.length cap) l) (hb : base ≤ w.heap.size) (hm : l.length ≤ 1000000000000) :
    Calls Tryz.prog 108 #[.slice (some ⟨g, off, none⟩) l.length cap] w fun e w' => e = .returned (.tuple #[]) ∧ Own w' base 3 encZ (.slice (some ⟨g, off, none⟩) l.length cap) (l.mergeSort fun x y => decide (x ≤ y)) ∧ Turn (fun b => b = g) w w' ∧ base ≤ g := by
  refine (Go.Proofs.Tryz.slices_Sort_int g off cap l w h.holdsZ ((h.lt g rfl).2) (by omega)).mono ?_
  rintro e w' ⟨rfl, n, os, rfl⟩
  have hl : (l.mergeSort fun x y => decide (x ≤ y)).length = l.length := List.length_mergeSort _
  obtain ⟨h1, h2, h3⟩ := h.putZ (l.mergeSort fun x y => decide (x ≤ y)) (l.mergeSort fun x y => decide (x ≤ y)) hl [] (by simp) n os
  rw [hl] at h1
  exact ⟨rfl, h1, h2, h3⟩
/-- slices.Compact. -/
theorem compact_own (w : World) (base g off cap : Nat) (l : List Int) (h : Own w base 3 encZ (.slice (some ⟨g, off, none⟩) l.length cap) l) (hm : l.length ≤ 1000000000000) :
    Calls Tryz.prog 178 #[.slice (some ⟨g, off, none⟩) l.length cap] w fun e w' => e = .returned (.slice (some ⟨g, off, none⟩) (Lib.compact l).length cap) ∧ Own w' base 3 encZ (.slice (some ⟨g, off, none⟩) (Lib.compact l).length cap) (Lib.compact l) ∧ Turn (fun b => b = g) w w' ∧ base ≤ g := by
  have hc := h.len_le
  have hle := (compact_sub l).length_le
  refine (Go.Proofs.Tryz.slices_Compact_int g off cap l w h.holdsZ (by omega) hc.2.1).mono ?_
  rintro e w' ⟨rfl, n, rfl⟩
  obtain ⟨h1, h2, h3⟩ := h.putZ (Lib.compact l ++ List.replicate (l.length - (Lib.compact l).length) 0) (Lib.compact l) (by simp; omega) _ rfl n #[]
  rw [Go.Sort.grow_empty] at h1 h2
  exact ⟨rfl, h1, h2, h3⟩
end Go.Proofs.YtmadmlkmdnjmaaaGreat
/- Package gap: ends: an iterator over where something may change. -/
namespace Go.Proofs.YtmadmlkmdnjmaaaGreat
open Go.ChangeShapes Go.WideShapes Go.ChangeAt Go.RowKit
set_option linter.unusedVariables false
set_option linter.unusedSimpArgs false
set_option maxRecDepth 100000
attribute [local go_sem] Oper.semAt_some

/-- Where the nodes of so many of two digests begin and end. -/
def endsJ (l : Int) (r1 r2 : List Nd) (j : Nat) : List Int := match j with
  | 0 => [0]
  | 1 => 0 :: edgeL l r1
  | _ => gapE l r1 r2
/-- One of two digests, as the loop meets it. -/
structure GapDig (w : World) (s l : Nat) (r1 r2 : List Nd) (j g K : Nat) (k : Int) (r : List Nd) (F : Nat → Prop) : Prop where
  c : w.cell? ⟨s, j, none⟩ = some (.pointer (some ⟨g, 0, none⟩))
  d : DigAt w g K l k r F
  m : r.length ≤ 67108864
  e : endsJ l r1 r2 (j + 1) = endsJ l r1 r2 j ++ edgeL l r
  el : (endsJ l r1 r2 j).length ≤ 134217729
/-- What ends hands back. -/
def EndsPost (E : List Int) (w : World) (e : Ending) (w' : World) : Prop := ∃ (b : Nat) (A : Option Addr) (cap : Nat) (L : List Int), e = .returned (.func (.func 179) #[] #[.pointer (some ⟨b, 0, none⟩)]) ∧ w.heap.size ≤ b ∧ w'.heap[b]? = some (.cells #[.slice A L.length cap] 49 (0, 0)) ∧ Own w' w.heap.size 3 encZ (.slice A L.length cap) L ∧ Rising L E ∧ L.length ≤ E.length ∧ Below w.heap.size w w'
set_option maxHeartbeats 4000000 in
theorem gap_ends (w : World) (s g1 g2 K1 K2 l : Nat) (k1 k2 : Int) (r1 r2 : List Nd) (F1 F2 : Nat → Prop) (hs : w.heap[s]? = some (.cells #[.pointer (some ⟨g1, 0, none⟩), .pointer (some ⟨g2, 0, none⟩)] 28 (0, 0))) (h1 : DigAt w g1 K1 l k1 r1 F1) (h2 : DigAt w g2 K2 l k2 r2 F2) (m1 : r1.length ≤ 67108864) (m2 : r2.length ≤ 67108864) :
    Calls Tryz.prog 112 #[.slice (some ⟨s, 0, none⟩) 2 2] w (EndsPost (gapE l r1 r2) w) := by
  have HJ : Hid (∀ j, j < 2 → ∃ g K k r F, GapDig w s l r1 r2 j g K k r F) := Lib.hid fun j hj => by
    have c := blk_cell hs
    rcases (show j = 0 ∨ j = 1 by omega) with rfl | rfl
    · exact ⟨g1, K1, k1, r1, F1, c 0, h1, m1, rfl, by simp [endsJ]⟩
    · exact ⟨g2, K2, k2, r2, F2, c 1, h2, m2, by simp only [endsJ, gapE, edgeL_append]; rfl, by simp only [endsJ, List.length_cons, edgeL_len]; omega⟩
  have zs := lt_of_block hs
  have hl := h1.l_le
  have HE := Lib.hid (fun (W : World) (id : Int) (h : id ≤ 9223372036854775807) => twig_Ends W l id h)
  have HG2 := Lib.hid (gapE_len l r1 r2)
  clear hs h1 h2
  go_enter Tryz.func112, Tryz.ntmps112
  go_upto_region 2 with fail
  have O0 := Lib.hid (Own.lit (base := w.heap.size) w encZ [0] 3 (Nat.le_refl _) (by simp [maxLen]))
  simp only [List.flatMap_cons, List.flatMap_nil, List.append_nil, encZ, List.length_singleton] at O0
  have OB := Lib.hid (O0.out.alloc (.cells #[.slice (some ⟨w.heap.size, 0, none⟩) 1 1] 49))
  have KB := Lib.hid (heap_new_at (w.alloc (.cells #[.int .i64 0] 3)) (.cells #[.slice (some ⟨w.heap.size, 0, none⟩) 1 1] 49) (w.heap.size + 1) (by simp))
  have BA : Below w.heap.size w ((w.alloc (.cells #[.int .i64 0] 3)).alloc (.cells #[.slice (some ⟨w.heap.size, 0, none⟩) 1 1] 49)) := (by repeat (first | with_reducible exact Below.refl _ _ | with_reducible assumption | ((with_reducible refine Below.setCell ?_ ?_ _); rotate_left; · (first | omega | exact Nat.le_refl _ | (simp <;> omega))) | (with_reducible refine Below.allocW ?_ _) | (with_reducible refine Below.drew ?_) | (with_reducible refine Below.extW ?_ _)))
  have HBA := Lib.hid BA
  clear O0 BA
  generalize (w.alloc (.cells #[.int .i64 0] 3)).alloc (.cells #[.slice (some ⟨w.heap.size, 0, none⟩) 1 1] 49) = W0 at OB KB HBA ⊢
  go_wp2_with fail
  go_loopw [15] (fun i wr => ∃ j : Nat, j ≤ 2 ∧ i = .int .i64 j ∧ ∃ v, wr.heap[w.heap.size + 1]? = some (.cells #[v] 49 (0, 0)) ∧ Own wr w.heap.size 3 encZ v (endsJ l r1 r2 j) ∧ Below w.heap.size w wr) (fun i _ => 2 - (intOf i).toNat)
  case atStart => exact ⟨0, Nat.zero_le _, rfl, _, KB.out, OB.out, HBA.out⟩
  case round =>
    obtain ⟨j, hj, rfl, v, hbox, hown, hB⟩ := hrel
    by_cases hlt : j < 2
    · obtain ⟨g, K, k, r, F, G⟩ := HJ.out j hlt
      have hsz := hB.size
      have cs := (hB.cell (p := ⟨s, j, none⟩) zs).trans G.c
      have zs' : s < wr.heap.size := by omega
      have HD := Lib.hid (G.d.below hB)
      have hm := G.m
      have EJ := Lib.hid G.e
      have hel := G.el
      have hfit := G.d.fits
      have HX : Hid (∀ x ∈ r, x.1 ≤ 9223372036854775807) := Lib.hid fun x hx => by
        have a1 := hfit.lt x hx
        have a2 := pow_48 (n := l) hl.2
        omega
      have HBOX := Lib.hid hbox
      have HOWN := Lib.hid hown
      have HB := Lib.hid hB
      obtain ⟨D, hD⟩ : ∃ D, D = endsJ l r1 r2 j := ⟨_, rfl⟩
      rw [← hD] at HOWN EJ hel
      clear G hbox hown hB hD hfit
      have HBr := HB.out
      go_wp2_with fail
      refine (digest_Conf _ g K l k r F HD.out).mono ?_
      rintro e w1 ⟨rfl, hb1⟩
      have B1 : Below w.heap.size w w1 := Below.then_ (by repeat (first | with_reducible exact Below.refl _ _ | with_reducible assumption | ((with_reducible refine Below.setCell ?_ ?_ _); rotate_left; · (first | omega | exact Nat.le_refl _ | (simp <;> omega))) | (with_reducible refine Below.allocW ?_ _) | (with_reducible refine Below.drew ?_) | (with_reducible refine Below.extW ?_ _))) hb1
      have s1 : w.heap.size ≤ w1.heap.size := B1.size
      have BB1 := Lib.hid (HB.out.trans (hb1.mono HB.out.size))
      have HD1 := Lib.hid (HD.out.below hb1)
      have BX1 := Lib.hid (blk_below HBOX.out hb1)
      have OW1 := Lib.hid (HOWN.out.below hb1)
      clear hb1 HBr
      go_wp2_with fail
      refine (digest_Nodes _ g K l k r F HD1.out hm).mono ?_
      rintro e w2 ⟨vn, rfl, ho2, hb2⟩
      have BB2 := Lib.hid (BB1.out.trans (hb2.mono BB1.out.size))
      have BX2 := Lib.hid (blk_below BX1.out hb2)
      have OW2 := Lib.hid (OW1.out.below hb2)
      obtain ⟨An, cn, rfl, _⟩ := ho2.form
      have ON2 := Lib.hid (ho2.base_le (b := w.heap.size) BB1.out.size)
      clear hb2 ho2 HB HD HD1 BB1 BX1 OW1 HBOX HOWN
      go_wp2_with fail
      go_loopw [25] (fun i wr => ∃ q : Nat, q ≤ r.length ∧ i = .int .i64 q ∧ ∃ v, wr.heap[w.heap.size + 1]? = some (.cells #[v] 49 (0, 0)) ∧ Own wr w.heap.size 3 encZ v (D ++ edgeL l (r.take q)) ∧ Own wr w.heap.size 116 encN (.slice An r.length cn) r ∧ Below w.heap.size w wr) (fun i _ => r.length - (intOf i).toNat)
      case atStart => exact ⟨0, Nat.zero_le _, rfl, _, BX2.out, by simpa [edgeL] using OW2.out, ON2.out, BB2.out⟩
      case round =>
        obtain ⟨q, hq, rfl, v5, hbox, hown, hnod, hB⟩ := hrel
        have HBOX := Lib.hid hbox
        have HOWN := Lib.hid hown
        have HNOD := Lib.hid hnod
        have HB := Lib.hid hB
        have hsz5 := hB.size
        have hlen : (D ++ edgeL l (r.take q)).length ≤ 402653185 := by rw [List.length_append, edgeL_len, List.length_take, Nat.min_eq_left hq]; omega
        by_cases hlt5 : q < r.length
        · obtain ⟨c, off, rfl, hc, hcl⟩ := hnod.sl.at_ hlt5
          have d0 := hcl 0 (.int .i64 r[q].1) rfl
          have d1 := hcl 1 (.int .i64 r[q].2) rfl
          simp only [Nat.add_zero] at d0
          have hx := HX.out _ (List.getElem_mem hlt5)
          have E1 := Lib.hid (show D ++ edgeL l (r.take (q + 1)) = (D ++ edgeL l (r.take q)) ++ [(endsOf l r[q].1).1, (endsOf l r[q].1).2.1] by rw [edgeL_take (l : Int) r hlt5, List.append_assoc])
          obtain ⟨C, hC⟩ : ∃ C, C = D ++ edgeL l (r.take q) := ⟨_, rfl⟩
          rw [← hC] at HOWN hlen E1
          obtain ⟨y, hy⟩ : ∃ y, y = r[q] := ⟨_, rfl⟩
          rw [← hy] at d0 d1 hx E1
          have HEy := Lib.hid (HE.out · y.1 hx)
          generalize endsOf l y.1 = t at HEy E1
          obtain ⟨t1, t2, t3⟩ := t
          unfold endsV at HEy
          clear hcl hy hnod hx hB hC hbox hown
          go_wp2_with fail
          refine (HEy.out _).mono ?_
          rintro e w6 ⟨rfl, hb6⟩
          have BW : Below wr.heap.size wr w6 := ((Below.refl wr.heap.size wr).alloc (Nat.le_refl _) _).trans (hb6.mono (by simp))
          have k6 := blk_below HBOX.out BW
          have c6 := blk_cell k6
          have z6 := lt_of_block k6
          have K6 := Lib.hid k6
          obtain ⟨A6, n6, rfl, _⟩ := HOWN.out.form
          have O6 := Lib.hid (HOWN.out.below BW)
          have N6 := Lib.hid (HNOD.out.below BW)
          have B6 := Lib.hid (HB.out.trans (BW.mono hsz5))
          clear BW k6 hb6 HBOX HOWN HNOD HB
          go_wp2_with ((at_builtin; refine wpList_pushes tyZ rfl _ _ rfl encZ w6 w.heap.size (.slice A6 C.length n6) C rfl O6.out [t1, t2] 2 rfl (by go_simp) rfl ?c1 ?c2 ?c3 ?c4))
          case c1 => simp only [List.length_cons, List.length_nil]; omega
          case c2 => simp only [maxLen, List.length_cons, List.length_nil]; omega
          case c3 => exact B6.out.size
          case c4 =>
            intro v7 w7 ho7 hg7 hlt7 hlies hb7 _
            have N7 := Lib.hid (N6.out.kept hg7 (own_ne N6.out O6.out (by decide)))
            have K7 := Lib.hid (blk_grown K6.out O6.out hg7 (by decide))
            have B7 := Lib.hid (B6.out.trans hb7)
            obtain ⟨A7, n7, rfl, _⟩ := ho7.form
            have O7 := Lib.hid (show Own w7 w.heap.size 3 encZ (.slice A7 (C.length + 2) n7) (D ++ edgeL l (r.take (q + 1))) by rw [E1.out]; simpa using ho7)
            have c7 := blk_cell K7.out
            have f7 := blk_frozen K7.out
            have z7 := lt_of_block K7.out
            clear ho7 hg7 hlies hb7 K6 O6 N6 B6 c6 z6
            go_wp2_with fail
            go_roundw
            case rel => exact ⟨q + 1, by omega, by go_num, _, heap_set_at (i := 0) K7.out _, O7.out.setCell (fun h => O7.out.ne_block K7.out (by decide) h) _, N7.out.setCell (fun h => N7.out.ne_block K7.out (by decide) h) _, B7.out.setCell (p := ⟨w.heap.size + 1, 0, none⟩) (by simp) _⟩
            case measure => simp [intOf]; omega
        · obtain rfl : q = r.length := by omega
          rw [List.take_length] at HOWN
          rw [← EJ.out] at HOWN
          go_wp2_with fail
          go_roundw
          case rel => exact ⟨j + 1, by omega, by go_num, _, HBOX.out, HOWN.out, HB.out⟩
          case measure => simp [intOf]; omega
    · obtain rfl : j = 2 := by omega
      have HOWN := Lib.hid (show Own wr w.heap.size 3 encZ v (gapE l r1 r2) from hown)
      obtain ⟨E, hE⟩ : ∃ E, E = gapE l r1 r2 := ⟨_, rfl⟩
      have hE0 : 0 < E.length := by rw [hE, HG2.out]; omega
      have hEl : E.length ≤ 1000000000000 := by rw [hE, HG2.out]; omega
      rw [← hE] at HOWN
      have HE' := Lib.hid hE
      rcases HOWN.out with ⟨_, h0⟩ | ⟨ga, off, cap, cur, rfl, hga, _⟩
      · rw [h0] at hE0; simp at hE0
      · have HO := Lib.hid (show Own wr w.heap.size 3 encZ (.slice (some ⟨ga, off, none⟩) E.length cap) E from HOWN.out)
        have HBOX := Lib.hid hbox
        have HB := Lib.hid hB
        have cb := blk_cell hbox
        have zb := lt_of_block hbox
        clear hown hbox hB hE HOWN HJ HE
        go_wp2_with fail
        refine (sort_own _ w.heap.size ga off cap E HO.out HB.out.size hEl).mono ?_
        rintro e w1 ⟨rfl, hs1, ht1, _⟩
        have hne : w.heap.size + 1 ≠ ga := fun h => by
          have := HO.out.ne_block HBOX.out (by decide)
          exact this (by rw [h]; rfl)
        have K1 := Lib.hid (ht1.keep HBOX.out hne)
        have B1 := Lib.hid (HB.out.trans (ht1.below (base := w.heap.size) (fun b hb => by rw [hb]; exact hga) HB.out.size))
        have hl1 : (E.mergeSort fun x y => decide (x ≤ y)).length = E.length := List.length_mergeSort _
        have hr := compact_rising E
        have hle := compact_len_le E
        obtain ⟨S, hS⟩ : ∃ S, S = E.mergeSort fun x y => decide (x ≤ y) := ⟨_, rfl⟩
        rw [← hS] at hs1 hl1 hr hle
        have O1 := Lib.hid (show Own w1 w.heap.size 3 encZ (.slice (some ⟨ga, off, none⟩) S.length cap) S by rw [hl1]; exact hs1)
        have hc := compact_own w1 w.heap.size ga off cap S O1.out (by rw [hl1]; exact hEl)
        rw [hl1] at hc
        have HC := Lib.hid hc
        have c1 := blk_cell K1.out
        have f1 := blk_frozen K1.out
        have z1 := lt_of_block K1.out
        clear hs1 ht1 hl1 hS cb zb HBOX HB HO hc
        go_wp2_with fail
        refine HC.out.mono ?_
        rintro e w2 ⟨rfl, hc2, ht2, _⟩
        have K2 := Lib.hid (ht2.keep K1.out hne)
        have B2 := Lib.hid (B1.out.trans (ht2.below (base := w.heap.size) (fun b hb => by rw [hb]; exact hga) B1.out.size))
        obtain ⟨L, hL⟩ : ∃ L, L = Lib.compact S := ⟨_, rfl⟩
        rw [← hL] at hc2 hr hle ⊢
        have O2 := Lib.hid hc2
        have c2 := blk_cell K2.out
        have f2 := blk_frozen K2.out
        have z2 := lt_of_block K2.out
        clear hc2 ht2 hL c1 f1 z1 K1 O1 B1
        go_wp2_with fail
        go_ret
        exact ⟨w.heap.size + 1, some ⟨ga, off, none⟩, cap, L, rfl, by omega, heap_set_at (i := 0) K2.out _, O2.out.setCell (fun h => O2.out.ne_block K2.out (by decide) h) _, HE'.out ▸ hr, HE'.out ▸ hle, B2.out.setCell (p := ⟨w.heap.size + 1, 0, none⟩) (by simp) _⟩
end Go.Proofs.YtmadmlkmdnjmaaaGreat
/- Package gap: the iterator of ends. -/
namespace Go.Proofs.YtmadmlkmdnjmaaaGreat
open Go.ChangeShapes Go.WideShapes Go.ChangeAt Go.RowKit
set_option linter.unusedVariables false
set_option linter.unusedSimpArgs false
set_option maxRecDepth 100000
attribute [local go_sem] Oper.semAt_some

set_option maxHeartbeats 2000000 in
/-- All of these come, rising, or a part of them. -/
theorem ends_stops (n b z : Nat) (X : Nat → Prop) (A : Option Addr) (cap : Nat) (L : List Int) (w : World) (hn : 1 ≤ n) (hz : z ≤ w.heap.size)
    (hb : w.heap[b]? = some (.cells #[.slice A L.length cap] 49 (0, 0))) (hS : SlX w z X A L) (b1 : b < z) (b2 : ¬ X b) (hlen : L.length ≤ 1000000000000) :
    SeqStopsK Fence.wide n Tryz.prog 179 #[.pointer (some ⟨b, 0, none⟩)] (fun x : Int => #[Value.int .i64 x]) (KeepX z X) (fun ys => ys = L) (fun pre => pre <+: L) L.length w := fun q J Jx W hW hJ hJx hY h0 => by
  have hWz : Below z w W := hW.mono hz
  have kb := Lib.hid (blk_below hb hW)
  have KS := Lib.hid (hS.below hWz)
  have cb := blk_cell kb.out
  have zb := lt_of_block kb.out
  have HY := Lib.hid hY
  have H0 := Lib.hid h0
  clear hb hS hY hJ hJx h0
  refine callsIn_of_wp Tryz.func179 rfl trivial ?_ rfl
  simp only [Tryz.ntmps179, List.size_toArray, List.length_cons, List.length_nil, Nat.reduceAdd, Nat.reduceSub, Array.replicate_succ, Array.replicate_zero, List.push_toArray, List.append_toArray, List.nil_append, List.cons_append]
  gi_wp2_with fail
  gi_loopw [7] (fun i wr => ∃ k : Nat, k ≤ L.length ∧ i = .int .i64 k ∧ J (L.take k) wr ∧ KeepX z X W wr) (fun i _ => L.length - (intOf i).toNat)
  case atStart => exact ⟨0, Nat.zero_le _, rfl, H0.out, KeepX.refl _⟩
  case round =>
    obtain ⟨k, hk, rfl, hJk, hK⟩ := hrel
    have KJ := Lib.hid hJk
    have KK := Lib.hid hK
    by_cases hlt : k < L.length
    · obtain ⟨c, off, rfl, hc, hcl⟩ := (KS.out.keep hK).at_ hlt
      have zc : c < wr.heap.size := by have := hK.1; have := hW.size; omega
      have hT := List.take_succ_eq_append_getElem hlt
      obtain ⟨x, hx⟩ : ∃ x, x = L[k] := ⟨_, rfl⟩
      rw [← hx] at hcl hT
      obtain ⟨fn, tmps, assign, body, hy, hR⟩ := HY.out (L.take k) x _ KJ.out (by rw [List.length_take]; omega)
      rw [← hT] at hR
      clear hx hT hJk hK
      gi_wp2_with fail
      refine hR.mono ?_
      rintro e w3 (⟨rfl, hJ3, hk3⟩ | ⟨rfl, hJx3⟩)
      · have K3 := Lib.hid (keepX_t KK.out hk3)
        have J3 := Lib.hid hJ3
        clear hJ3 hk3
        gi_wp2_with fail
        go_roundw
        case rel => exact ⟨k + 1, by omega, by go_num, J3.out, K3.out⟩
        case measure => simp [intOf]; omega
      · have J3 := Lib.hid hJx3
        clear hJx3
        gi_wp2_with fail
        refine bodyPost_ret (results_none rfl _ _ _) rfl ?_
        exact ⟨⟨_, rfl⟩, .inr ⟨_, List.take_prefix _ _, J3.out⟩⟩
    · obtain rfl : k = L.length := by omega
      rw [List.take_length] at KJ
      gi_wp2_with fail
      go_end0
      exact ⟨⟨_, rfl⟩, .inl ⟨_, rfl, KJ.out⟩⟩
end Go.Proofs.YtmadmlkmdnjmaaaGreat
/- Chapter 21: two digests turned about: plain laws. -/
namespace Go.Proofs.YtmadmlkmdnjmaaaGreat
open Go.ChangeShapes Go.WideShapes Go.ChangeAt Go.RowKit
set_option linter.unusedVariables false

theorem sideV_turn {n m pl ph ql qh : Int} (h0 : 0 ≤ n) (h0' : 0 ≤ m) (h1 : pl ≤ ph) (h2 : ql ≤ qh) : sideV m n ql qh pl ph = - sideV n m pl ph ql qh := by
  unfold sideV
  have k1 := Int.mul_le_mul_of_nonneg_right h1 h0'
  have k2 := Int.mul_le_mul_of_nonneg_right h2 h0
  by_cases c1 : ph * m < ql * n
  · rw [if_pos c1, if_neg (by omega), if_pos c1]; rfl
  · rw [if_neg c1]
    by_cases c2 : qh * n < pl * m
    · rw [if_pos c2, if_pos c2]
    · rw [if_neg c2, if_neg c2, if_neg c1]; rfl
theorem sideV_same {n pl ph : Int} (h0 : 0 ≤ n) (h1 : pl ≤ ph) : sideV n n pl ph pl ph = 0 := by
  unfold sideV
  have k1 := Int.mul_le_mul_of_nonneg_right h1 h0
  rw [if_neg (by omega), if_neg (by omega)]
theorem sideOf_turn {l : Nat} {a b : List Nd} (ha : Roll a) (hb : Roll b) (ra : rightOf l a = true) (rb : rightOf l b = true) (x : Int) : sideOf l b a x = - sideOf l a b x :=
  sideV_turn (sumR_nonneg ha) (sumR_nonneg hb) (low_high ha ra x) (low_high hb rb x)
theorem sideOf_same {l : Nat} {a : List Nd} (ha : Roll a) (ra : rightOf l a = true) (x : Int) : sideOf l a a x = 0 := sideV_same (sumR_nonneg ha) (low_high ha ra x)
theorem apIs_turn {f g : Int → Int} {l : List Int} {r : Int × Int} (h : apIs f l r) (hg : ∀ x, g x = - f x) : apIs g l (r.1, - r.2) := by
  rcases h with ⟨h1, rfl⟩ | ⟨h1, h2, h3, h4⟩
  · exact .inl ⟨fun x hx => by rw [hg, h1 x hx]; rfl, rfl⟩
  · exact .inr ⟨h1, by rw [hg, h2], by simp only; omega, fun x hx h => h4 x hx (by rw [hg] at h; omega)⟩
theorem apFold_turn {f g : Int → Int} {l m : List Int} (hm : ∀ x, x ∈ m ↔ x ∈ l) (hg : ∀ x, g x = - f x) : apFold g m = ((apFold f l).1, - (apFold f l).2) :=
  apIs_unique hm (apFold_is g m) (apIs_turn (apFold_is f l) hg)
theorem apFold_none {f : Int → Int} {l : List Int} (h : ∀ x ∈ l, f x = 0) : apFold f l = (0, 0) := apIs_unique (fun _ => Iff.rfl) (apFold_is f l) (apIs_none h)
theorem gapStep_turn (l d : Int) (a b : List Nd) (o : Int × Int) (x : Int) : gapStep l d b a o x = gapStep l d a b o x := by
  unfold gapStep
  refine Prod.ext ?_ ?_
  · simp only; omega
  · simp only; omega
theorem gapFold_turn {l d : Int} {a b : List Nd} {e f : List Int} (h : ∀ x, x ∈ e ↔ x ∈ f) : gapFold l d b a e = gapFold l d a b f := by
  rw [gapFold_set h]
  unfold gapFold
  congr 1
  funext o x
  exact gapStep_turn l d a b o x
theorem upV_ge (a b c : Nat) : a * b / c ≤ upV a b c := by unfold upV; omega
theorem down_up {n d x y : Int} (hx : x ≤ y) : downV n d x ≤ upP n d y := by
  unfold downV upP
  have h1 : x.toNat ≤ y.toNat := by omega
  have h2 : x.toNat * d.toNat / n.toNat ≤ y.toNat * d.toNat / n.toNat := Nat.div_le_div_right (Nat.mul_le_mul_right _ h1)
  have h3 := upV_ge y.toNat d.toNat n.toNat
  omega
theorem gapFold_same {l : Nat} {d : Int} {a : List Nd} (ha : Roll a) (ra : rightOf l a = true) (e : List Int) : (gapFold l d a a e).1 = 0 := by
  have h := ((gapFold_le l d a a e 0 0).1).2 ⟨Int.le_refl _, fun x hx => by
    have := down_up (n := sumR a) (d := d) (low_high (l := l) ha ra x)
    simp only [gapStep]; omega⟩
  have h2 : 0 ≤ (gapFold l d a a e).1 := by
    suffices k : ∀ (e : List Int) (o : Int × Int), 0 ≤ o.1 → 0 ≤ (e.foldl (gapStep l d a a) o).1 from k e (0, 0) (Int.le_refl _)
    intro e
    induction e with
    | nil => intro o ho; exact ho
    | cons x e ih => intro o ho; exact ih _ (by simp only [gapStep]; omega)
  omega
theorem gapE_turn (l : Int) (a b : List Nd) (x : Int) : x ∈ gapE l b a ↔ x ∈ gapE l a b := by
  simp only [gapE, edgeL_append, List.mem_cons, List.mem_append]
  constructor <;> (rintro (h | h | h) <;> simp [h])
theorem gapErr_turn (l m : Int) (a b : List Nd) : gapErr m l b a = gapErr l m a b := by
  unfold gapErr
  by_cases h : l = m
  · subst h
    rw [if_neg (not_not_intro rfl), if_neg (not_not_intro rfl)]
    by_cases h1 : sumR a = 0 ∨ sumR b = 0
    · rw [if_pos h1, if_pos h1.symm]
    · rw [if_neg h1, if_neg (fun k => h1 k.symm)]
  · rw [if_pos h, if_pos (fun k => h k.symm)]
end Go.Proofs.YtmadmlkmdnjmaaaGreat
/- Package gap: Apart. -/
namespace Go.Proofs.YtmadmlkmdnjmaaaGreat
open Go.ChangeShapes Go.WideShapes Go.ChangeAt Go.RowKit
set_option linter.unusedVariables false
set_option linter.unusedSimpArgs false
set_option maxRecDepth 100000
attribute [local go_sem] Oper.semAt_some

/-- What Apart tells. -/
def apT (l m : Int) (a b : List Nd) : Int × Int := if gapErr l m a b = 0 then apFold (sideOf l a b) (gapE l a b) else (0, 0)
theorem gap_side_of {w : World} {L1 B1 g1 L2 B2 g2 l : Nat} {lt1 ft1 lt2 ft2 r1 r2 : List Nd} (x : Int) (h1 : TabAt w L1 B1 g1 (sumR r1) lt1 ft1) (h2 : TabAt w L2 B2 g2 (sumR r2) lt2 ft2) (b1 : B1 ≤ w.heap.size) (b2 : B2 ≤ w.heap.size)
    (t1 : Tab (lastL l r1) lt1) (f1 : Tab (firstL l r1) ft1) (t2 : Tab (lastL l r2) lt2) (f2 : Tab (firstL l r2) ft2) (m1 : lt1.length ≤ 67108864) (m1' : ft1.length ≤ 67108864) (m2 : lt2.length ≤ 67108864) (m2' : ft2.length ≤ 67108864) (fit1 : Fits l r1) (fit2 : Fits l r2) :
    Calls Tryz.prog 111 #[.pointer (some ⟨g1, 0, none⟩), .pointer (some ⟨g2, 0, none⟩), .int .i64 x] w fun e w' => e = .returned (.int .i64 (sideOf l r1 r2 x)) ∧ Below w.heap.size w w' := by
  have z1 := sumR_nonneg fit1.roll
  have z2 := sumR_nonneg fit2.roll
  have y1 := fit1.sum
  have y2 := fit2.sum
  have a1 := low_range (l := l) fit1.roll x
  have a2 := high_range' (l := l) fit1.roll x
  have a3 := low_range (l := l) fit2.roll x
  have a4 := high_range' (l := l) fit2.roll x
  obtain ⟨n, e1⟩ := Int.eq_ofNat_of_zero_le z1
  obtain ⟨m, e2⟩ := Int.eq_ofNat_of_zero_le z2
  obtain ⟨pl, e3⟩ := Int.eq_ofNat_of_zero_le a1.1
  obtain ⟨ph, e4⟩ := Int.eq_ofNat_of_zero_le a2.1
  obtain ⟨ql, e5⟩ := Int.eq_ofNat_of_zero_le a3.1
  obtain ⟨qh, e6⟩ := Int.eq_ofNat_of_zero_le a4.1
  unfold sideOf
  rw [e1] at h1
  rw [e2] at h2
  rw [e1, e2, e3, e4, e5, e6, sideV_nat]
  exact gap_side w x n m pl ph ql qh h1 h2 b1 b2 m1 t1.rise m1' f1.rise m2 t2.rise m2' f2.rise
    (by rw [t1.upT, low_up]; exact e3) (by rw [f1.upT, high_up]; exact e4) (by rw [t2.upT, low_up]; exact e5) (by rw [f2.upT, high_up]; exact e6) (by omega) (by omega) (by omega) (by omega) (by omega) (by omega)
/-- The boxes of Apart, between two rounds. -/
structure ApI (b4 bt bu t1 t2 L1 B1 L2 B2 : Nat) (n m : Int) (lt1 ft1 lt2 ft2 : List Nd) (W : World) : Prop where
  x4 : W.heap[b4]? = some (.cells #[.int .i64 0] 3 (0, 0))
  x5 : W.heap[b4 + 1]? = some (.cells #[.int .i64 0] 3 (0, 0))
  x6 : W.heap[b4 + 1 + 1]? = some (.cells #[.int .i64 0] 40 (0, 0))
  t : W.heap[bt]? = some (.cells #[.pointer (some ⟨t1, 0, none⟩)] 86 (0, 0))
  u : W.heap[bu]? = some (.cells #[.pointer (some ⟨t2, 0, none⟩)] 86 (0, 0))
  tab1 : TabAt W L1 B1 t1 n lt1 ft1
  tab2 : TabAt W L2 B2 t2 m lt2 ft2
theorem ApI.below {b4 bt bu t1 t2 L1 B1 L2 B2 : Nat} {n m : Int} {lt1 ft1 lt2 ft2 : List Nd} {W W' : World} (h : ApI b4 bt bu t1 t2 L1 B1 L2 B2 n m lt1 ft1 lt2 ft2 W) (hb : Below W.heap.size W W') (h1 : B1 ≤ W.heap.size) (h2 : B2 ≤ W.heap.size) : ApI b4 bt bu t1 t2 L1 B1 L2 B2 n m lt1 ft1 lt2 ft2 W' :=
  ⟨blk_below h.x4 hb, blk_below h.x5 hb, blk_below h.x6 hb, blk_below h.t hb, blk_below h.u hb, h.tab1.below (hb.mono h1), h.tab2.below (hb.mono h2)⟩
theorem ApI.grown {b4 bt bu t1 t2 L1 B1 L2 B2 : Nat} {n m : Int} {lt1 ft1 lt2 ft2 : List Nd} {A B : World} {row : Option Nat} (h : ApI b4 bt bu t1 t2 L1 B1 L2 B2 n m lt1 ft1 lt2 ft2 A) (hg : A.grownBy B row) (hr : ∀ r, row = some r → ∃ o : Obj, A.heap[r]? = some o ∧ o.isCells = false) : ApI b4 bt bu t1 t2 L1 B1 L2 B2 n m lt1 ft1 lt2 ft2 B :=
  ⟨row_grown h.x4 hg hr, row_grown h.x5 hg hr, row_grown h.x6 hg hr, row_grown h.t hg hr, row_grown h.u hg hr, tab_grown h.tab1 hg hr, tab_grown h.tab2 hg hr⟩
/-- Three results' boxes, written. -/
structure Res3 (b : Nat) (x y z : Value) (W : World) : Prop where
  r4 : W.heap[b]? = some (.cells #[x] 3 (0, 0))
  r5 : W.heap[b + 1]? = some (.cells #[y] 3 (0, 0))
  r6 : W.heap[b + 1 + 1]? = some (.cells #[z] 40 (0, 0))
theorem Res3.put {b : Nat} {x y z : Value} {W : World} (h : Res3 b x y z W) (x' y' z' : Value) : Res3 b x' y' z' (((W.setCell ⟨b, 0, none⟩ x').setCell ⟨b + 1, 0, none⟩ y').setCell ⟨b + 1 + 1, 0, none⟩ z') :=
  ⟨(Below.heap_setCell _ _ _ _ (show b ≠ b + 1 + 1 by omega)).trans ((Below.heap_setCell _ _ _ _ (show b ≠ b + 1 by omega)).trans (heap_set_at (i := 0) h.r4 _)),
   (Below.heap_setCell _ _ _ _ (show b + 1 ≠ b + 1 + 1 by omega)).trans (heap_set_at (i := 0) ((Below.heap_setCell _ _ _ _ (show b + 1 ≠ b by omega)).trans h.r5) _),
   heap_set_at (i := 0) ((Below.heap_setCell _ _ _ _ (show b + 1 + 1 ≠ b + 1 by omega)).trans ((Below.heap_setCell _ _ _ _ (show b + 1 + 1 ≠ b by omega)).trans h.r6)) _⟩
theorem Res3.below {b : Nat} {x y z : Value} {W W' : World} (h : Res3 b x y z W) (hb : Below W.heap.size W W') : Res3 b x y z W' := ⟨blk_below h.r4 hb, blk_below h.r5 hb, blk_below h.r6 hb⟩
theorem Res3.grown {b : Nat} {x y z : Value} {A B : World} {row : Option Nat} (h : Res3 b x y z A) (hg : A.grownBy B row) (hr : ∀ r, row = some r → ∃ o : Obj, A.heap[r]? = some o ∧ o.isCells = false) : Res3 b x y z B := ⟨row_grown h.r4 hg hr, row_grown h.r5 hg hr, row_grown h.r6 hg hr⟩
theorem Res3.new (w : World) : Res3 w.heap.size (.int .i64 0) (.int .i64 0) (.int .i64 0) (((w.alloc (.cells #[.int .i64 0] 3)).alloc (.cells #[.int .i64 0] 3)).alloc (.cells #[.int .i64 0] 40)) :=
  ⟨(heap_new_lt _ _ _ (by simp; omega)).trans ((heap_new_lt _ _ _ (by simp)).trans (heap_alloc_new w _)), (heap_new_lt _ _ _ (by simp)).trans (heap_new_at (w.alloc _) _ _ (by simp)), heap_new_at ((w.alloc _).alloc _) _ _ (by simp)⟩
theorem Res3.put_below {w W : World} {b : Nat} (hB : Below w.heap.size w W) (hb : w.heap.size ≤ b) (x' y' z' : Value) : Below w.heap.size w (((W.setCell ⟨b, 0, none⟩ x').setCell ⟨b + 1, 0, none⟩ y').setCell ⟨b + 1 + 1, 0, none⟩ z') :=
  ((hB.setCell (p := ⟨b, 0, none⟩) hb _).setCell (p := ⟨b + 1, 0, none⟩) (by simp only; omega) _).setCell (p := ⟨b + 1 + 1, 0, none⟩) (by simp only; omega) _
theorem gap_Apart_no (w : World) (g1 K1 l1 g2 K2 l2 : Nat) (k1 k2 : Int) (r1 r2 : List Nd) (F1 F2 : Nat → Prop) (h1 : DigAt w g1 K1 l1 k1 r1 F1) (h2 : DigAt w g2 K2 l2 k2 r2 F2) (he : gapErr l1 l2 r1 r2 ≠ 0) :
    Calls Tryz.prog 53 #[.pointer (some ⟨g1, 0, none⟩), .pointer (some ⟨g2, 0, none⟩)] w fun e w' => e = .returned (.tuple #[.int .i64 (apT l1 l2 r1 r2).1, .int .i64 (apT l1 l2 r1 r2).2, .int .i64 (gapErr l1 l2 r1 r2)]) ∧ Below w.heap.size w w' := by
  have hs : apT l1 l2 r1 r2 = (0, 0) := by unfold apT; rw [if_neg he]
  rw [hs]
  have HW := Lib.hid (gap_wrong _ g1 K1 l1 g2 K2 l2 k1 k2 r1 r2 F1 F2 (((h1.alloc (.cells #[.int .i64 0] 3)).alloc (.cells #[.int .i64 0] 3)).alloc (.cells #[.int .i64 0] 40)) (((h2.alloc (.cells #[.int .i64 0] 3)).alloc (.cells #[.int .i64 0] 3)).alloc (.cells #[.int .i64 0] 40)))
  have hne : (gapErr l1 l2 r1 r2 == 0) = false := by simpa using he
  clear hs he h1 h2
  generalize gapErr l1 l2 r1 r2 = er at HW hne ⊢
  refine (callsIn_wide (n := 3)).1 ?_
  refine callsIn_of_wp_marks Tryz.func53 rfl trivial ?_ rfl
  simp only [Tryz.ntmps53, List.size_toArray, List.length_cons, List.length_nil, Nat.reduceAdd, Nat.reduceSub, Array.replicate_succ, Array.replicate_zero, List.push_toArray, List.append_toArray, List.nil_append, List.cons_append]
  gi_wp2_with fail
  refine ⟨trivial, ?_⟩
  refine (callsIn_wide.2 HW.out).mono ?_
  rintro e w1 ⟨rfl, hb1⟩
  have B1 : Below w.heap.size w w1 := Below.then_ (by repeat (first | with_reducible exact Below.refl _ _ | with_reducible assumption | ((with_reducible refine Below.setCell ?_ ?_ _); rotate_left; · (first | omega | exact Nat.le_refl _ | (simp <;> omega))) | (with_reducible refine Below.allocW ?_ _) | (with_reducible refine Below.drew ?_) | (with_reducible refine Below.extW ?_ _))) hb1
  have R1 := (Res3.new w).below hb1
  have c4 := blk_cell R1.r4
  have c5 := blk_cell R1.r5
  have c6 := blk_cell R1.r6
  have f4 := blk_frozen R1.r4
  have f5 := blk_frozen R1.r5
  have f6 := blk_frozen R1.r6
  have z4 := lt_of_block R1.r4
  have z5 := lt_of_block R1.r5
  have z6 := lt_of_block R1.r6
  have R2 := Lib.hid (R1.put (.int .i64 0) (.int .i64 0) (.int .i64 er))
  have B2 := Lib.hid (Res3.put_below B1 (Nat.le_refl _) (.int .i64 0) (.int .i64 0) (.int .i64 er))
  clear R1 hb1
  gi_wp2_with fail
  generalize ((w1.setCell ⟨w.heap.size, 0, none⟩ (.int .i64 0)).setCell ⟨w.heap.size + 1, 0, none⟩ (.int .i64 0)).setCell ⟨w.heap.size + 1 + 1, 0, none⟩ (.int .i64 er) = W2 at R2 B2 ⊢
  have d4 := blk_cell R2.out.r4 0
  have d5 := blk_cell R2.out.r5 0
  have d6 := blk_cell R2.out.r6 0
  exact ⟨.tuple #[.int .i64 0, .int .i64 0, .int .i64 er], by simp [results, Tryz.f53, go_sem, d4, d5, d6], rfl, B2.out⟩
set_option maxHeartbeats 2000000 in
theorem gap_Apart_yes (w : World) (g1 K1 l g2 K2 : Nat) (k1 k2 : Int) (r1 r2 : List Nd) (F1 F2 : Nat → Prop) (h1 : DigAt w g1 K1 l k1 r1 F1) (h2 : DigAt w g2 K2 l k2 r2 F2) (m1 : r1.length ≤ 67108864) (m2 : r2.length ≤ 67108864) (he : gapErr l l r1 r2 = 0) :
    Calls Tryz.prog 53 #[.pointer (some ⟨g1, 0, none⟩), .pointer (some ⟨g2, 0, none⟩)] w fun e w' => e = .returned (.tuple #[.int .i64 (apT l l r1 r2).1, .int .i64 (apT l l r1 r2).2, .int .i64 0]) ∧ Below w.heap.size w w' := by
  have hs : apT l l r1 r2 = apFold (sideOf l r1 r2) (gapE l r1 r2) := by unfold apT; rw [if_pos he]
  rw [hs]
  have D1 := Lib.hid (((h1.alloc (.cells #[.int .i64 0] 3)).alloc (.cells #[.int .i64 0] 3)).alloc (.cells #[.int .i64 0] 40))
  have D2 := Lib.hid (((h2.alloc (.cells #[.int .i64 0] 3)).alloc (.cells #[.int .i64 0] 3)).alloc (.cells #[.int .i64 0] 40))
  have HW := Lib.hid (gap_wrong _ g1 K1 l g2 K2 l k1 k2 r1 r2 F1 F2 D1.out D2.out)
  rw [he] at HW
  have fit1 := h1.fits
  have fit2 := h2.fits
  have FIT := Lib.hid (And.intro fit1 fit2)
  have HGE := Lib.hid (gapE_len l r1 r2)
  clear hs he h1 h2 fit1 fit2
  refine (callsIn_wide (n := 3)).1 ?_
  refine callsIn_of_wp_marks Tryz.func53 rfl trivial ?_ rfl
  simp only [Tryz.ntmps53, List.size_toArray, List.length_cons, List.length_nil, Nat.reduceAdd, Nat.reduceSub, Array.replicate_succ, Array.replicate_zero, List.push_toArray, List.append_toArray, List.nil_append, List.cons_append]
  gi_wp2_with fail
  refine ⟨trivial, ?_⟩
  refine (callsIn_wide.2 HW.out).mono ?_
  rintro e w1 ⟨rfl, hb1⟩
  have B1 : Below w.heap.size w w1 := Below.then_ (by repeat (first | with_reducible exact Below.refl _ _ | with_reducible assumption | ((with_reducible refine Below.setCell ?_ ?_ _); rotate_left; · (first | omega | exact Nat.le_refl _ | (simp <;> omega))) | (with_reducible refine Below.allocW ?_ _) | (with_reducible refine Below.drew ?_) | (with_reducible refine Below.extW ?_ _))) hb1
  have R1 := Lib.hid ((Res3.new w).below hb1)
  have E1 := Lib.hid (D1.out.below hb1)
  have E2 := Lib.hid (D2.out.below hb1)
  have s1 := B1.size
  have s1' : w.heap.size + 3 ≤ w1.heap.size := by have := hb1.size; simp at this; omega
  clear hb1 HW D1 D2
  gi_wp2_with fail
  refine ⟨trivial, ?_⟩
  refine (callsIn_wide.2 (rank_Of _ g1 K1 l k1 r1 F1 E1.out m1)).mono ?_
  rintro e w2 ⟨t1, lt1, ft1, rfl, htab1, htl1, htf1, hl1, hl1', hb2⟩
  have B2 : Below w.heap.size w w2 := B1.trans (hb2.mono s1)
  have R2 := Lib.hid (R1.out.below hb2)
  have G1 := Lib.hid (E1.out.below hb2)
  have G2 := Lib.hid (E2.out.below hb2)
  have T1 := Lib.hid htab1
  have HT1 := Lib.hid (And.intro htl1 (And.intro htf1 (And.intro hl1 hl1')))
  have s2 := hb2.size
  clear hb2 htab1 htl1 htf1 hl1 hl1' E1 E2 R1
  gi_wp2_with fail
  refine ⟨trivial, ?_⟩
  refine (callsIn_wide.2 (rank_Of _ g2 K2 l k2 r2 F2 G2.out m2)).mono ?_
  rintro e w3 ⟨t2, lt2, ft2, rfl, htab2, htl2, htf2, hl2, hl2', hb3⟩
  have B3 : Below w.heap.size w w3 := B2.trans (hb3.mono B2.size)
  have R3 := Lib.hid (R2.out.below hb3)
  have J1 := Lib.hid (G1.out.below hb3)
  have J2 := Lib.hid (G2.out.below hb3)
  have U1 := Lib.hid (T1.out.below hb3)
  have U2 := Lib.hid htab2
  have HT2 := Lib.hid (And.intro htl2 (And.intro htf2 (And.intro hl2 hl2')))
  have s3 := hb3.size
  clear hb3 htab2 htl2 htf2 hl2 hl2' G1 G2 R2 T1
  gi_wp2_with fail
  have BA : Below w3.heap.size w3 (((w3.alloc (.cells #[.pointer (some ⟨t1, 0, none⟩)] 86)).alloc (.cells #[.pointer (some ⟨t2, 0, none⟩)] 86)).alloc (.cells #[.pointer (some ⟨g1, 0, none⟩), .pointer (some ⟨g2, 0, none⟩)] 28)) := ((((Below.refl w3.heap.size w3).alloc (Nat.le_refl _) _).alloc (by simp) _).alloc (by simp; omega) _)
  have kt := (heap_new_lt ((w3.alloc (.cells #[.pointer (some ⟨t1, 0, none⟩)] 86)).alloc (.cells #[.pointer (some ⟨t2, 0, none⟩)] 86)) (.cells #[.pointer (some ⟨g1, 0, none⟩), .pointer (some ⟨g2, 0, none⟩)] 28) w3.heap.size (by simp; omega)).trans ((heap_new_lt (w3.alloc (.cells #[.pointer (some ⟨t1, 0, none⟩)] 86)) (.cells #[.pointer (some ⟨t2, 0, none⟩)] 86) w3.heap.size (by simp)).trans (heap_alloc_new w3 (.cells #[.pointer (some ⟨t1, 0, none⟩)] 86)))
  have ku := (heap_new_lt ((w3.alloc (.cells #[.pointer (some ⟨t1, 0, none⟩)] 86)).alloc (.cells #[.pointer (some ⟨t2, 0, none⟩)] 86)) (.cells #[.pointer (some ⟨g1, 0, none⟩), .pointer (some ⟨g2, 0, none⟩)] 28) (w3.heap.size + 1) (by simp)).trans (heap_new_at (w3.alloc (.cells #[.pointer (some ⟨t1, 0, none⟩)] 86)) (.cells #[.pointer (some ⟨t2, 0, none⟩)] 86) (w3.heap.size + 1) (by simp))
  have ks := heap_new_at ((w3.alloc (.cells #[.pointer (some ⟨t1, 0, none⟩)] 86)).alloc (.cells #[.pointer (some ⟨t2, 0, none⟩)] 86)) (.cells #[.pointer (some ⟨g1, 0, none⟩), .pointer (some ⟨g2, 0, none⟩)] 28) (w3.heap.size + 1 + 1) (by simp)
  have I4 : ApI w.heap.size w3.heap.size (w3.heap.size + 1) t1 t2 w1.heap.size w2.heap.size w2.heap.size w3.heap.size (sumR r1) (sumR r2) lt1 ft1 lt2 ft2 (((w3.alloc (.cells #[.pointer (some ⟨t1, 0, none⟩)] 86)).alloc (.cells #[.pointer (some ⟨t2, 0, none⟩)] 86)).alloc (.cells #[.pointer (some ⟨g1, 0, none⟩), .pointer (some ⟨g2, 0, none⟩)] 28)) :=
    ⟨(R3.out.below BA).r4, (R3.out.below BA).r5, (R3.out.below BA).r6, kt, ku, U1.out.below (BA.mono s3), U2.out.below BA⟩
  have II := Lib.hid I4
  have KS := Lib.hid ks
  have M1 := Lib.hid (J1.out.below BA)
  have M2 := Lib.hid (J2.out.below BA)
  have BB := Lib.hid (B3.trans (BA.mono B3.size))
  have sA := BA.size
  have sA3 : w3.heap.size + 3 ≤ (((w3.alloc (.cells #[.pointer (some ⟨t1, 0, none⟩)] 86)).alloc (.cells #[.pointer (some ⟨t2, 0, none⟩)] 86)).alloc (.cells #[.pointer (some ⟨g1, 0, none⟩), .pointer (some ⟨g2, 0, none⟩)] 28)).heap.size := by simp
  clear BA kt ku ks I4 J1 J2 U1 U2 R3
  generalize ((w3.alloc (.cells #[.pointer (some ⟨t1, 0, none⟩)] 86)).alloc (.cells #[.pointer (some ⟨t2, 0, none⟩)] 86)).alloc (.cells #[.pointer (some ⟨g1, 0, none⟩), .pointer (some ⟨g2, 0, none⟩)] 28) = W4 at II KS M1 M2 BB sA sA3 ⊢
  refine ⟨trivial, ?_⟩
  refine (callsIn_wide.2 (gap_ends _ (w3.heap.size + 1 + 1) g1 g2 K1 K2 l k1 k2 r1 r2 F1 F2 KS.out M1.out M2.out m1 m2)).mono ?_
  rintro e w5 ⟨b, A, cap, L, rfl, hb0, kb, ho, hrise, hle, hb5⟩
  have I5 := Lib.hid (II.out.below hb5 (by omega) (by omega))
  have BB5 := Lib.hid (BB.out.trans (hb5.mono BB.out.size))
  have KB := Lib.hid kb
  have zb := lt_of_block kb
  have SX := Lib.hid (SlX.of (z := w5.heap.size) (X := fun _ => False) ho.sl (Nat.le_refl _) (fun _ _ h => h))
  have HR := Lib.hid hrise
  have hL : L.length ≤ 1000000000000 := by rw [HGE.out] at hle; omega
  have s5 := hb5.size
  clear kb ho hrise hle hb5 II KS M1 M2 BB
  gi_wp2_with fail
  have hKB := Lib.hid (fun (W : World) (q : Nat) (o o' : Obj) (h : W.heap[q]? = some o) (hc : o.isCells = false) => keepX_b (z := w5.heap.size) (X := fun _ => False) W q o o' h hc)
  obtain ⟨f, hf⟩ : ∃ f, f = sideOf l r1 r2 := ⟨_, rfl⟩
  have HS : Hid (∀ (x : Int) (W : World), ApI w.heap.size w3.heap.size (w3.heap.size + 1) t1 t2 w1.heap.size w2.heap.size w2.heap.size w3.heap.size (sumR r1) (sumR r2) lt1 ft1 lt2 ft2 W → Calls Tryz.prog 111 #[.pointer (some ⟨t1, 0, none⟩), .pointer (some ⟨t2, 0, none⟩), .int .i64 x] W fun e w' => e = .returned (.int .i64 (f x)) ∧ Below W.heap.size W w') := Lib.hid fun x W h => by
    have hz := lt_of_block h.t
    obtain ⟨q1, q2, q3, q4⟩ := HT1.out
    obtain ⟨p1, p2, p3, p4⟩ := HT2.out
    rw [hf]
    exact gap_side_of x h.tab1 h.tab2 (by omega) (by omega) q1 q2 p1 p2 (by omega) (by omega) (by omega) (by omega) FIT.out.1 FIT.out.2
  have HF := Lib.hid hf
  clear hf HT1 HT2 FIT HGE
  refine wpIn_rangeFunc_ownG rfl (by decide) (gf := 179) (lb := #[.pointer (some ⟨b, 0, none⟩)]) rfl trivial (enters_of Tryz.func179 (by kernel_rfl) rfl)
    (ends_stops (3 - 1) b w5.heap.size (fun _ => False) A cap L w5 (by decide) (Nat.le_refl _) KB.out SX.out zb (fun h => h) hL)
    keepX_t (fun W q o o' _ h hc _ => hKB.out W q o o' h hc) (Below.refl _ _) (fun _ => rfl)
    (fun pre W => ((∀ y ∈ pre, f y = 0) ∧ ApI w.heap.size w3.heap.size (w3.heap.size + 1) t1 t2 w1.heap.size w2.heap.size w2.heap.size w3.heap.size (sumR r1) (sumR r2) lt1 ft1 lt2 ft2 W) ∧ Below w.heap.size w W)
    (fun c pre W => (c = .ret ∧ ∃ pre' x, pre = pre' ++ [x] ∧ (∀ y ∈ pre', f y = 0) ∧ f x ≠ 0 ∧ Res3 w.heap.size (.int .i64 x) (.int .i64 (f x)) (.int .i64 0) W) ∧ Below w.heap.size w W)
    (OwnFrom.and (Go.Own.from (fun s A B row hs hg hr => ⟨hs.1, hs.2.grown hg hr⟩) _) (ownFrom_below (Nat.le_refl _) (by have := BB5.out.size; omega)))
    (fun c => OwnFrom.and (Go.Own.from (fun s A B row hs hg hr => by obtain ⟨h1, p, x, h2, h3, h4, h5⟩ := hs; exact ⟨h1, p, x, h2, h3, h4, h5.grown hg hr⟩) _) (ownFrom_below (Nat.le_refl _) (by have := BB5.out.size; omega)))
    ⟨⟨by simp, I5.out⟩, BB5.out⟩
    (fun x => { tmps := #[.pointer (some ⟨g1, 0, none⟩), .pointer (some ⟨g2, 0, none⟩), undef, undef, .pointer (some ⟨w.heap.size, 0, none⟩), .pointer (some ⟨w.heap.size + 1, 0, none⟩), .pointer (some ⟨w.heap.size + 1 + 1, 0, none⟩), .int .i64 0, .pointer (some ⟨w3.heap.size, 0, none⟩), .pointer (some ⟨w3.heap.size + 1, 0, none⟩), .int .i64 x, undef,
      .pointer (some ⟨g1, 0, none⟩), .pointer (some ⟨g2, 0, none⟩), .int .i64 0, .int .i64 0, .bool false, undef, .pointer (some ⟨g1, 0, none⟩), .pointer (some ⟨t1, 0, none⟩), .pointer (some ⟨g2, 0, none⟩), .pointer (some ⟨t2, 0, none⟩), .pointer (some ⟨g1, 0, none⟩), .pointer (some ⟨g2, 0, none⟩), .slice (some ⟨w3.heap.size + 1 + 1, 0, none⟩) 2 2,
      .func (.func 179) #[] #[.pointer (some ⟨b, 0, none⟩)], .int .i64 x, undef, undef, undef, undef, undef, undef, undef, undef], defers := [] }) ?assign ?body ?done ?stop
  case assign =>
    intro q x W Kc hK
    gi_wp2
    exact hK
  case body =>
    rintro q pre x W ⟨⟨hall, hI⟩, hB⟩ _
    have HALL := Lib.hid hall
    have HI := Lib.hid hI
    have HB := Lib.hid hB
    have ct := blk_cell hI.t
    have cu := blk_cell hI.u
    have zt := lt_of_block hI.t
    have zu := lt_of_block hI.u
    have HSx := Lib.hid (HS.out x)
    obtain ⟨n, hn⟩ : ∃ n, n = f x := ⟨_, rfl⟩
    rw [← hn] at HSx
    have HN := Lib.hid hn
    have zt0 := hI.t
    clear hall hI hB hn HS
    by_cases hz : n = 0
    · subst hz
      gi_wp2_with fail
      refine ⟨trivial, ?_⟩
      refine (CallsIn.inRound q (callsIn_wide.2 (HSx.out _ HI.out))).mono ?_
      rintro e w6 ⟨rfl, hb6⟩
      have KF := Lib.hid ((KeepsOthers.of_grownBy (grownBy_of_below hb6 none) (fun _ _ h => by cases h)).from w5.heap.size)
      have KK := Lib.hid (KeepX.of_below (z := w5.heap.size) (X := fun _ => False) hb6)
      have I6 := Lib.hid (HI.out.below hb6 (by omega) (by omega))
      have B6 := Lib.hid (HB.out.trans (hb6.mono HB.out.size))
      clear hb6
      gi_wp2_with fail
      refine ⟨KF.out, KK.out, ⟨fun y hy => ?_, I6.out⟩, B6.out⟩
      rcases List.mem_append.1 hy with hy | hy
      · exact HALL.out y hy
      · rw [List.mem_singleton.1 hy]; exact HN.out.symm
    · have h1 : (n == 0) = false := by simpa using hz
      have h2 : (n != 0) = true := by simpa using hz
      gi_wp2_with fail
      refine ⟨trivial, ?_⟩
      refine (CallsIn.inRound q (callsIn_wide.2 (HSx.out _ HI.out))).mono ?_
      rintro e w6 ⟨rfl, hb6⟩
      have KF := Lib.hid ((KeepsOthers.of_grownBy (grownBy_of_below hb6 none) (fun _ _ h => by cases h)).from w5.heap.size)
      have R6 : Res3 w.heap.size (.int .i64 0) (.int .i64 0) (.int .i64 0) w6 := ⟨blk_below HI.out.x4 hb6, blk_below HI.out.x5 hb6, blk_below HI.out.x6 hb6⟩
      have B6 := HB.out.trans (hb6.mono HB.out.size)
      have c4 := blk_cell R6.r4
      have c5 := blk_cell R6.r5
      have c6 := blk_cell R6.r6
      have f4 := blk_frozen R6.r4
      have f5 := blk_frozen R6.r5
      have f6 := blk_frozen R6.r6
      have z4 := lt_of_block R6.r4
      have z5 := lt_of_block R6.r5
      have z6 := lt_of_block R6.r6
      have R7 := Lib.hid (R6.put (.int .i64 x) (.int .i64 n) (.int .i64 0))
      have B7 := Lib.hid (Res3.put_below B6 (Nat.le_refl _) (.int .i64 x) (.int .i64 n) (.int .i64 0))
      clear hb6 R6 B6
      gi_wp2_with fail
      exact ⟨((KF.out.trans ((KeepsOthers.setCell _ _ _).from _)).trans ((KeepsOthers.setCell _ _ _).from _)).trans ((KeepsOthers.setCell _ _ _).from _), ⟨rfl, pre, x, rfl, HALL.out, by rw [← HN.out]; exact hz, by rw [← HN.out]; exact R7.out⟩, B7.out⟩
  case done =>
    rintro D ys W hD hys ⟨⟨hall, hI⟩, hB⟩ hK
    obtain rfl : ys = L := hys
    have hres : apFold (sideOf l r1 r2) (gapE l r1 r2) = (0, 0) := by
      rw [← HF.out]
      exact (apFold_rising HR.out (apIs_none hall)).symm
    have HRes := Lib.hid hres
    have R6 : Res3 w.heap.size (.int .i64 0) (.int .i64 0) (.int .i64 0) W := ⟨hI.x4, hI.x5, hI.x6⟩
    have c4 := blk_cell R6.r4
    have c5 := blk_cell R6.r5
    have c6 := blk_cell R6.r6
    have f4 := blk_frozen R6.r4
    have f5 := blk_frozen R6.r5
    have f6 := blk_frozen R6.r6
    have z4 := lt_of_block R6.r4
    have z5 := lt_of_block R6.r5
    have z6 := lt_of_block R6.r6
    have R7 := Lib.hid (R6.put (.int .i64 0) (.int .i64 0) (.int .i64 0))
    have B7 := Lib.hid (Res3.put_below hB (Nat.le_refl _) (.int .i64 0) (.int .i64 0) (.int .i64 0))
    have KO : KeepsOthers W (((W.setCell ⟨w.heap.size, 0, none⟩ (.int .i64 0)).setCell ⟨w.heap.size + 1, 0, none⟩ (.int .i64 0)).setCell ⟨w.heap.size + 1 + 1, 0, none⟩ (.int .i64 0)) := ((KeepsOthers.setCell _ _ _).trans (KeepsOthers.setCell _ _ _)).trans (KeepsOthers.setCell _ _ _)
    have hK' := Lib.hid (KO.same D _ hK rfl)
    have hDw : w.heap.size ≤ D := by have := BB5.out.size; omega
    clear hall hI hB hK R6 hres KO
    gi_wp2_with fail
    generalize ((W.setCell ⟨w.heap.size, 0, none⟩ (.int .i64 0)).setCell ⟨w.heap.size + 1, 0, none⟩ (.int .i64 0)).setCell ⟨w.heap.size + 1 + 1, 0, none⟩ (.int .i64 0) = W7 at R7 B7 hK' ⊢
    refine ⟨by simp, .inl ⟨_, _, rfl, run_takeDeferred hK'.out, ?_⟩⟩
    have R8 := R7.out.grown (grownBy_putObj' _ D (.deferred none)) (fun r e => by cases e; exact ⟨_, hK'.out, rfl⟩)
    have d4 := blk_cell R8.r4 0
    have d5 := blk_cell R8.r5 0
    have d6 := blk_cell R8.r6 0
    exact ⟨.tuple #[.int .i64 0, .int .i64 0, .int .i64 0], by simp [results, Tryz.f53, go_sem, d4, d5, d6], by rw [HRes.out], B7.out.trans (belowK_b (w := w) (Nat.le_refl _) W7 D _ _ hDw hK'.out rfl rfl)⟩
  case stop =>
    rintro D c pre W hD hpre ⟨⟨rfl, p', x, rfl, hall, hx, hR⟩, hB⟩ hK
    have hres : apFold (sideOf l r1 r2) (gapE l r1 r2) = (x, f x) := by
      rw [← HF.out]
      obtain ⟨suf, hsuf⟩ := hpre
      refine (apFold_rising HR.out ?_).symm
      rw [← hsuf, List.append_assoc]
      refine apIs_first ?_ hall hx
      have := HR.out.1
      rw [← hsuf, List.append_assoc] at this
      exact this
    have hDw : w.heap.size ≤ D := by have := BB5.out.size; omega
    gi_wp2_with fail
    refine ⟨by simp, .inl ⟨_, _, rfl, run_takeDeferred hK, ?_⟩⟩
    have R8 := hR.grown (grownBy_putObj' _ D (.deferred none)) (fun r e => by cases e; exact ⟨_, hK, rfl⟩)
    have d4 := blk_cell R8.r4 0
    have d5 := blk_cell R8.r5 0
    have d6 := blk_cell R8.r6 0
    exact ⟨.tuple #[.int .i64 x, .int .i64 (f x), .int .i64 0], by simp [results, Tryz.f53, go_sem, d4, d5, d6], by rw [hres], hB.trans (belowK_b (w := w) (Nat.le_refl _) W D _ _ hDw hK rfl rfl)⟩
theorem gap_Apart (w : World) (g1 K1 l1 g2 K2 l2 : Nat) (k1 k2 : Int) (r1 r2 : List Nd) (F1 F2 : Nat → Prop) (h1 : DigAt w g1 K1 l1 k1 r1 F1) (h2 : DigAt w g2 K2 l2 k2 r2 F2) (m1 : r1.length ≤ 67108864) (m2 : r2.length ≤ 67108864) :
    Calls Tryz.prog 53 #[.pointer (some ⟨g1, 0, none⟩), .pointer (some ⟨g2, 0, none⟩)] w fun e w' => e = .returned (.tuple #[.int .i64 (apT l1 l2 r1 r2).1, .int .i64 (apT l1 l2 r1 r2).2, .int .i64 (gapErr l1 l2 r1 r2)]) ∧ Below w.heap.size w w' := by
  by_cases he : gapErr l1 l2 r1 r2 = 0
  · have hll := gapErr_ok he
    obtain rfl : l1 = l2 := by omega
    rw [he]
    exact gap_Apart_yes w g1 K1 l1 g2 K2 k1 k2 r1 r2 F1 F2 h1 h2 m1 m2 he
  · exact gap_Apart_no w g1 K1 l1 g2 K2 l2 k1 k2 r1 r2 F1 F2 h1 h2 he
end Go.Proofs.YtmadmlkmdnjmaaaGreat
/- Package gap: Most. -/
namespace Go.Proofs.YtmadmlkmdnjmaaaGreat
open Go.ChangeShapes Go.WideShapes Go.ChangeAt Go.RowKit
set_option linter.unusedVariables false
set_option linter.unusedSimpArgs false
set_option maxRecDepth 100000
attribute [local go_sem] Oper.semAt_some

/-- What Most tells. -/
def gapMostErr (l m : Int) (a b : List Nd) (d : Int) : Int := if gapErr l m a b = 0 then (if d < 1 then 2 else 0) else gapErr l m a b
def gapMostT (l m : Int) (a b : List Nd) (d : Int) : Int × Int := if gapMostErr l m a b d = 0 then gapFold l d a b (gapE l a b) else (0, 0)
theorem SlX.own {w : World} {base n cap z : Nat} {X : Nat → Prop} {A : Option Addr} {es : List Int} (h : Own w base 3 encZ (.slice A n cap) es) (hz : w.heap.size ≤ z) (hX : ∀ b, base ≤ b → ¬ X b) : SlX w z X A es := by
  rcases h with ⟨_, h⟩ | ⟨g, off, cap', cur, hv, hb, hh, h1, h2, h3, hc⟩
  · exact .inl h
  · cases hv
    refine .inr ⟨g, off, rfl, by have := lt_of_block hh; omega, hX g hb, fun i x hi => ?_⟩
    rw [blk_cell hh]
    refine hc i _ ?_
    rw [flatZ, List.getElem?_map, hi]; rfl
theorem gap_more (w : World) (b : Nat) (lo hi a c : Int) (h : bothAt w b lo hi) :
    Calls Tryz.prog 113 #[.int .i64 a, .int .i64 c, .pointer (some ⟨b, 0, none⟩)] w fun e w' => e = .returned (.tuple #[]) ∧ (w.setCell ⟨b, 0, none⟩ (.int .i64 (max lo a))).setCell ⟨b, 1, none⟩ (.int .i64 (max hi c)) = w' := by
  have cb := blk_cell h
  have fb := blk_frozen h
  have zb := lt_of_block h
  clear h
  go_enter Tryz.func113, Tryz.ntmps113
  go_wp2_with fail
  go_end0
  exact ⟨rfl, rfl⟩
theorem gap_parts_of {w : World} {L1 B1 g1 l : Nat} {lt1 ft1 r1 : List Nd} (x : Int) (d : Nat) (h1 : TabAt w L1 B1 g1 (sumR r1) lt1 ft1) (b1 : B1 ≤ w.heap.size)
    (t1 : Tab (lastL l r1) lt1) (f1 : Tab (firstL l r1) ft1) (m1 : lt1.length ≤ 67108864) (m1' : ft1.length ≤ 67108864) (fit1 : Fits l r1) (hn : 1 ≤ sumR r1) (hd : d ≤ 9223372036854775807) :
    Calls Tryz.prog 114 #[.pointer (some ⟨g1, 0, none⟩), .int .i64 x, .int .i64 d] w fun e w' => e = .returned (.tuple #[.int .i64 (downV (sumR r1) d (lowOf l r1 x)), .int .i64 (upP (sumR r1) d (highOf l r1 x))]) ∧ Below w.heap.size w w' := by
  have y1 := fit1.sum
  have a1 := low_range (l := l) fit1.roll x
  have a2 := high_range' (l := l) fit1.roll x
  obtain ⟨n, e1⟩ := Int.eq_ofNat_of_zero_le (show 0 ≤ sumR r1 by omega)
  obtain ⟨pl, e3⟩ := Int.eq_ofNat_of_zero_le a1.1
  obtain ⟨ph, e4⟩ := Int.eq_ofNat_of_zero_le a2.1
  unfold downV upP
  rw [e1] at h1
  rw [e1, e3, e4]
  simp only [Int.toNat_natCast]
  exact gap_parts w x n d pl ph h1 b1 m1 t1.rise m1' f1.rise (by rw [t1.upT, low_up]; exact e3) (by rw [f1.upT, high_up]; exact e4) (by omega) (by omega) hd (by omega) (by omega)
theorem parts_range {n : Int} {d : Nat} {pl ph : Int} (hn : 1 ≤ n) (h1 : 0 ≤ pl ∧ pl ≤ n) (h2 : 0 ≤ ph ∧ ph ≤ n) : (0 ≤ downV n d pl ∧ downV n d pl ≤ d) ∧ (0 ≤ upP n d ph ∧ upP n d ph ≤ d) := by
  unfold downV upP
  have u1 := part_le (a := pl.toNat) (b := (d : Int).toNat) (c := n.toNat) (by omega) (by omega)
  have u2 := up_le (a := ph.toNat) (b := (d : Int).toNat) (c := n.toNat) (by omega) (by omega)
  simp only [Int.toNat_natCast] at u1 u2 ⊢
  generalize pl.toNat * d / n.toNat = u at u1 ⊢
  generalize upV ph.toNat d n.toNat = v at u2 ⊢
  omega
/-- The results' box of Most, and its number. -/
theorem gap_Most_no (w : World) (g1 K1 l1 g2 K2 l2 : Nat) (k1 k2 : Int) (r1 r2 : List Nd) (F1 F2 : Nat → Prop) (d : Int) (h1 : DigAt w g1 K1 l1 k1 r1 F1) (h2 : DigAt w g2 K2 l2 k2 r2 F2) (he : gapMostErr l1 l2 r1 r2 d ≠ 0) :
    Calls Tryz.prog 54 #[.pointer (some ⟨g1, 0, none⟩), .pointer (some ⟨g2, 0, none⟩), .int .i64 d] w fun e w' => e = .returned (.tuple #[.agg #[.int .i64 (gapMostT l1 l2 r1 r2 d).1, .int .i64 (gapMostT l1 l2 r1 r2 d).2], .int .i64 (gapMostErr l1 l2 r1 r2 d)]) ∧ Below w.heap.size w w' := by
  have hs : gapMostT l1 l2 r1 r2 d = (0, 0) := by unfold gapMostT; rw [if_neg he]
  rw [hs]
  have HW := Lib.hid (gap_wrong _ g1 K1 l1 g2 K2 l2 k1 k2 r1 r2 F1 F2 ((h1.alloc (.cells #[.int .i64 d] 3)).alloc (.cells #[.int .i64 0, .int .i64 0] 51)) ((h2.alloc (.cells #[.int .i64 d] 3)).alloc (.cells #[.int .i64 0, .int .i64 0] 51)))
  have kd := (heap_new_lt (w.alloc (.cells #[.int .i64 d] 3)) (.cells #[.int .i64 0, .int .i64 0] 51) w.heap.size (by simp)).trans (heap_alloc_new w (.cells #[.int .i64 d] 3))
  have kr : bothAt ((w.alloc (.cells #[.int .i64 d] 3)).alloc (.cells #[.int .i64 0, .int .i64 0] 51)) (w.heap.size + 1) 0 0 := heap_new_at (w.alloc (.cells #[.int .i64 d] 3)) (.cells #[.int .i64 0, .int .i64 0] 51) (w.heap.size + 1) (by simp)
  have KD := Lib.hid kd
  have KR := Lib.hid kr
  have hcase : (∃ er : Int, gapErr l1 l2 r1 r2 = er ∧ ¬ er = 0 ∧ gapMostErr l1 l2 r1 r2 d = er) ∨ (gapErr l1 l2 r1 r2 = 0 ∧ d < 1 ∧ gapMostErr l1 l2 r1 r2 d = 2) := by
    unfold gapMostErr at he ⊢
    by_cases c1 : gapErr l1 l2 r1 r2 = 0
    · rw [if_pos c1] at he ⊢
      by_cases c2 : d < 1
      · exact .inr ⟨c1, c2, by rw [if_pos c2]⟩
      · rw [if_neg c2] at he; exact absurd rfl he
    · rw [if_neg c1]
      exact .inl ⟨_, rfl, c1, rfl⟩
  clear hs he h1 h2 kd kr
  rcases hcase with ⟨er, f1, f2, f3⟩ | ⟨f1, f2, f3⟩
  · rw [f1] at HW
    rw [f3]
    have hne : (er == 0) = false := by simpa using f2
    have hne2 : (er != 0) = true := by simpa using f2
    clear f1 f3
    refine (callsIn_wide (n := 3)).1 ?_
    refine callsIn_of_wp_marks Tryz.func54 rfl trivial ?_ rfl
    simp only [Tryz.ntmps54, List.size_toArray, List.length_cons, List.length_nil, Nat.reduceAdd, Nat.reduceSub, Array.replicate_succ, Array.replicate_zero, List.push_toArray, List.append_toArray, List.nil_append, List.cons_append]
    gi_wp2_with fail
    refine ⟨trivial, ?_⟩
    refine (callsIn_wide.2 HW.out).mono ?_
    rintro e w1 ⟨rfl, hb1⟩
    have B1 : Below w.heap.size w w1 := Below.then_ (by repeat (first | with_reducible exact Below.refl _ _ | with_reducible assumption | ((with_reducible refine Below.setCell ?_ ?_ _); rotate_left; · (first | omega | exact Nat.le_refl _ | (simp <;> omega))) | (with_reducible refine Below.allocW ?_ _) | (with_reducible refine Below.drew ?_) | (with_reducible refine Below.extW ?_ _))) hb1
    have kd1 := blk_below KD.out hb1
    have kr1 := KR.out.below hb1
    have c0 := blk_cell kd1
    have z0 := lt_of_block kd1
    have c1 := blk_cell kr1
    have z1 := lt_of_block kr1
    have e1 := blk_frozen kr1
    have R2 := Lib.hid ((kr1.set0 0).set1 0)
    have B2 := Lib.hid ((B1.setCell (p := ⟨w.heap.size + 1, 0, none⟩) (by simp) (.int .i64 0)).setCell (p := ⟨w.heap.size + 1, 1, none⟩) (by simp) (.int .i64 0))
    clear hb1 kd1 kr1
    gi_wp2_with fail
    generalize (w1.setCell ⟨w.heap.size + 1, 0, none⟩ (.int .i64 0)).setCell ⟨w.heap.size + 1, 1, none⟩ (.int .i64 0) = W2 at R2 B2 ⊢
    have d0 := blk_cell R2.out 0
    have d1 := blk_cell R2.out 1
    exact ⟨.tuple #[.agg #[.int .i64 0, .int .i64 0], .int .i64 er], by (simp only [results, Tryz.f54]; go_simp), rfl, B2.out⟩
  · rw [f1] at HW
    rw [f3]
    clear f1 f3
    refine (callsIn_wide (n := 3)).1 ?_
    refine callsIn_of_wp_marks Tryz.func54 rfl trivial ?_ rfl
    simp only [Tryz.ntmps54, List.size_toArray, List.length_cons, List.length_nil, Nat.reduceAdd, Nat.reduceSub, Array.replicate_succ, Array.replicate_zero, List.push_toArray, List.append_toArray, List.nil_append, List.cons_append]
    gi_wp2_with fail
    refine ⟨trivial, ?_⟩
    refine (callsIn_wide.2 HW.out).mono ?_
    rintro e w1 ⟨rfl, hb1⟩
    have B1 : Below w.heap.size w w1 := Below.then_ (by repeat (first | with_reducible exact Below.refl _ _ | with_reducible assumption | ((with_reducible refine Below.setCell ?_ ?_ _); rotate_left; · (first | omega | exact Nat.le_refl _ | (simp <;> omega))) | (with_reducible refine Below.allocW ?_ _) | (with_reducible refine Below.drew ?_) | (with_reducible refine Below.extW ?_ _))) hb1
    have kd1 := blk_below KD.out hb1
    have kr1 := KR.out.below hb1
    have c0 := blk_cell kd1
    have z0 := lt_of_block kd1
    have c1 := blk_cell kr1
    have z1 := lt_of_block kr1
    have e1 := blk_frozen kr1
    have R2 := Lib.hid ((kr1.set0 0).set1 0)
    have B2 := Lib.hid ((B1.setCell (p := ⟨w.heap.size + 1, 0, none⟩) (by simp) (.int .i64 0)).setCell (p := ⟨w.heap.size + 1, 1, none⟩) (by simp) (.int .i64 0))
    clear hb1 kd1 kr1
    gi_wp2_with fail
    generalize (w1.setCell ⟨w.heap.size + 1, 0, none⟩ (.int .i64 0)).setCell ⟨w.heap.size + 1, 1, none⟩ (.int .i64 0) = W2 at R2 B2 ⊢
    have d0 := blk_cell R2.out 0
    have d1 := blk_cell R2.out 1
    exact ⟨.tuple #[.agg #[.int .i64 0, .int .i64 0], .int .i64 2], by (simp only [results, Tryz.f54]; go_simp), rfl, B2.out⟩
end Go.Proofs.YtmadmlkmdnjmaaaGreat
/- Package gap: Most, where it tells. -/
namespace Go.Proofs.YtmadmlkmdnjmaaaGreat
open Go.ChangeShapes Go.WideShapes Go.ChangeAt Go.RowKit
set_option linter.unusedVariables false
set_option linter.unusedSimpArgs false
set_option maxRecDepth 100000
attribute [local go_sem] Oper.semAt_some

/-- The boxes of Most, between two rounds; but for the box of what is told. -/
structure MoI (bw bo bt t1 t2 L1 B1 L2 B2 : Nat) (d n m : Int) (lt1 ft1 lt2 ft2 : List Nd) (W : World) : Prop where
  d : W.heap[bw]? = some (.cells #[.int .i64 d] 3 (0, 0))
  r : bothAt W (bw + 1) 0 0
  f : W.heap[bo + 1]? = some (.cells #[.func (.func 113) #[] #[.pointer (some ⟨bo, 0, none⟩)]] 171 (0, 0))
  t : W.heap[bt]? = some (.cells #[.pointer (some ⟨t1, 0, none⟩)] 86 (0, 0))
  u : W.heap[bt + 1]? = some (.cells #[.pointer (some ⟨t2, 0, none⟩)] 86 (0, 0))
  tab1 : TabAt W L1 B1 t1 n lt1 ft1
  tab2 : TabAt W L2 B2 t2 m lt2 ft2
section
variable {bw bo bt t1 t2 L1 B1 L2 B2 : Nat} {d n m : Int} {lt1 ft1 lt2 ft2 : List Nd} {W W' : World}
theorem MoI.below (h : MoI bw bo bt t1 t2 L1 B1 L2 B2 d n m lt1 ft1 lt2 ft2 W) (hb : Below W.heap.size W W') (h1 : B1 ≤ W.heap.size) (h2 : B2 ≤ W.heap.size) : MoI bw bo bt t1 t2 L1 B1 L2 B2 d n m lt1 ft1 lt2 ft2 W' :=
  ⟨blk_below h.d hb, h.r.below hb, blk_below h.f hb, blk_below h.t hb, blk_below h.u hb, h.tab1.below (hb.mono h1), h.tab2.below (hb.mono h2)⟩
theorem MoI.grown {row : Option Nat} (h : MoI bw bo bt t1 t2 L1 B1 L2 B2 d n m lt1 ft1 lt2 ft2 W) (hg : W.grownBy W' row) (hr : ∀ r, row = some r → ∃ o : Obj, W.heap[r]? = some o ∧ o.isCells = false) : MoI bw bo bt t1 t2 L1 B1 L2 B2 d n m lt1 ft1 lt2 ft2 W' :=
  ⟨row_grown h.d hg hr, row_grown h.r hg hr, row_grown h.f hg hr, row_grown h.t hg hr, row_grown h.u hg hr, tab_grown h.tab1 hg hr, tab_grown h.tab2 hg hr⟩
/-- A store to the box of what is told. -/
theorem MoI.set (h : MoI bw bo bt t1 t2 L1 B1 L2 B2 d n m lt1 ft1 lt2 ft2 W) {o : Nat} {v : Value} (h0 : bw + 1 < bo) (h1 : bo + 1 < bt) (h2 : bo < L1) (h3 : bo < L2) : MoI bw bo bt t1 t2 L1 B1 L2 B2 d n m lt1 ft1 lt2 ft2 (W.setCell ⟨bo, o, none⟩ v) :=
  ⟨(Below.heap_setCell _ _ _ _ (show bw ≠ bo by omega)).trans h.d, (Below.heap_setCell _ _ _ _ (show bw + 1 ≠ bo by omega)).trans h.r, (Below.heap_setCell _ _ _ _ (show bo + 1 ≠ bo by omega)).trans h.f, (Below.heap_setCell _ _ _ _ (show bt ≠ bo by omega)).trans h.t, (Below.heap_setCell _ _ _ _ (show bt + 1 ≠ bo by omega)).trans h.u, h.tab1.set h2 v, h.tab2.set h3 v⟩
end
set_option maxHeartbeats 4000000 in
theorem gap_Most_yes (w : World) (g1 K1 l g2 K2 d : Nat) (k1 k2 : Int) (r1 r2 : List Nd) (F1 F2 : Nat → Prop) (h1 : DigAt w g1 K1 l k1 r1 F1) (h2 : DigAt w g2 K2 l k2 r2 F2) (m1 : r1.length ≤ 67108864) (m2 : r2.length ≤ 67108864) (he : gapErr l l r1 r2 = 0) (hd : 1 ≤ d) (hd2 : d ≤ 9223372036854775807) :
    Calls Tryz.prog 54 #[.pointer (some ⟨g1, 0, none⟩), .pointer (some ⟨g2, 0, none⟩), .int .i64 d] w fun e w' => e = .returned (.tuple #[.agg #[.int .i64 (gapFold l d r1 r2 (gapE l r1 r2)).1, .int .i64 (gapFold l d r1 r2 (gapE l r1 r2)).2], .int .i64 0]) ∧ Below w.heap.size w w' := by
  have hsum : sumR r1 ≠ 0 ∧ sumR r2 ≠ 0 := by
    unfold gapErr at he
    rw [if_neg (not_not_intro rfl)] at he
    by_cases c : sumR r1 = 0 ∨ sumR r2 = 0
    · rw [if_pos c] at he; cases he
    · exact ⟨fun h => c (.inl h), fun h => c (.inr h)⟩
  have D1 := Lib.hid ((h1.alloc (.cells #[.int .i64 d] 3)).alloc (.cells #[.int .i64 0, .int .i64 0] 51))
  have D2 := Lib.hid ((h2.alloc (.cells #[.int .i64 d] 3)).alloc (.cells #[.int .i64 0, .int .i64 0] 51))
  have HW := Lib.hid (gap_wrong _ g1 K1 l g2 K2 l k1 k2 r1 r2 F1 F2 D1.out D2.out)
  rw [he] at HW
  have kd := (heap_new_lt (w.alloc (.cells #[.int .i64 d] 3)) (.cells #[.int .i64 0, .int .i64 0] 51) w.heap.size (by simp)).trans (heap_alloc_new w (.cells #[.int .i64 d] 3))
  have kr : bothAt ((w.alloc (.cells #[.int .i64 d] 3)).alloc (.cells #[.int .i64 0, .int .i64 0] 51)) (w.heap.size + 1) 0 0 := heap_new_at (w.alloc (.cells #[.int .i64 d] 3)) (.cells #[.int .i64 0, .int .i64 0] 51) (w.heap.size + 1) (by simp)
  have KD := Lib.hid kd
  have KR := Lib.hid kr
  have fit1 := h1.fits
  have fit2 := h2.fits
  have n1 := sumR_nonneg fit1.roll
  have n2 := sumR_nonneg fit2.roll
  have SUM : Hid (1 ≤ sumR r1 ∧ 1 ≤ sumR r2) := Lib.hid ⟨by omega, by omega⟩
  have FIT := Lib.hid (And.intro fit1 fit2)
  have HGE := Lib.hid (gapE_len l r1 r2)
  have hd1 : decide ((d : Int) < 1) = false := by simp; omega
  clear he h1 h2 fit1 fit2 kd kr hsum n1 n2
  refine (callsIn_wide (n := 3)).1 ?_
  refine callsIn_of_wp_marks Tryz.func54 rfl trivial ?_ rfl
  simp only [Tryz.ntmps54, List.size_toArray, List.length_cons, List.length_nil, Nat.reduceAdd, Nat.reduceSub, Array.replicate_succ, Array.replicate_zero, List.push_toArray, List.append_toArray, List.nil_append, List.cons_append]
  gi_wp2_with fail
  refine ⟨trivial, ?_⟩
  refine (callsIn_wide.2 HW.out).mono ?_
  rintro e w1 ⟨rfl, hb1⟩
  have B1 : Below w.heap.size w w1 := Below.then_ (by repeat (first | with_reducible exact Below.refl _ _ | with_reducible assumption | ((with_reducible refine Below.setCell ?_ ?_ _); rotate_left; · (first | omega | exact Nat.le_refl _ | (simp <;> omega))) | (with_reducible refine Below.allocW ?_ _) | (with_reducible refine Below.drew ?_) | (with_reducible refine Below.extW ?_ _))) hb1
  have kd1 := blk_below KD.out hb1
  have c0 := blk_cell kd1
  have z0 := lt_of_block kd1
  have KD1 := Lib.hid kd1
  have KR1 := Lib.hid (KR.out.below hb1)
  have E1 := Lib.hid (D1.out.below hb1)
  have E2 := Lib.hid (D2.out.below hb1)
  have s1 : w.heap.size + 2 ≤ w1.heap.size := by have := hb1.size; simp at this; omega
  clear hb1 HW D1 D2 KD KR kd1
  gi_wp2_with fail
  have BA : Below w1.heap.size w1 ((w1.alloc (.cells #[.int .i64 0, .int .i64 0] 51)).alloc (.cells #[.func (.func 113) #[] #[.pointer (some ⟨w1.heap.size, 0, none⟩)]] 171)) := ((Below.refl w1.heap.size w1).alloc (Nat.le_refl _) _).alloc (by simp) _
  have ko : bothAt ((w1.alloc (.cells #[.int .i64 0, .int .i64 0] 51)).alloc (.cells #[.func (.func 113) #[] #[.pointer (some ⟨w1.heap.size, 0, none⟩)]] 171)) w1.heap.size 0 0 := (heap_new_lt (w1.alloc (.cells #[.int .i64 0, .int .i64 0] 51)) (.cells #[.func (.func 113) #[] #[.pointer (some ⟨w1.heap.size, 0, none⟩)]] 171) w1.heap.size (by simp)).trans (heap_alloc_new w1 (.cells #[.int .i64 0, .int .i64 0] 51))
  have kf := heap_new_at (w1.alloc (.cells #[.int .i64 0, .int .i64 0] 51)) (.cells #[.func (.func 113) #[] #[.pointer (some ⟨w1.heap.size, 0, none⟩)]] 171) (w1.heap.size + 1) (by simp)
  have KO := Lib.hid ko
  have KF := Lib.hid kf
  have KD2 := Lib.hid (blk_below KD1.out BA)
  have KR2 := Lib.hid (KR1.out.below BA)
  have G1 := Lib.hid (E1.out.below BA)
  have G2 := Lib.hid (E2.out.below BA)
  have BV := Lib.hid (B1.trans (BA.mono B1.size))
  have sV : w1.heap.size + 2 ≤ ((w1.alloc (.cells #[.int .i64 0, .int .i64 0] 51)).alloc (.cells #[.func (.func 113) #[] #[.pointer (some ⟨w1.heap.size, 0, none⟩)]] 171)).heap.size := by simp
  clear BA ko kf KD1 KR1 E1 E2 c0 z0
  generalize (w1.alloc (.cells #[.int .i64 0, .int .i64 0] 51)).alloc (.cells #[.func (.func 113) #[] #[.pointer (some ⟨w1.heap.size, 0, none⟩)]] 171) = V1 at KO KF KD2 KR2 G1 G2 BV sV ⊢
  refine ⟨trivial, ?_⟩
  refine (callsIn_wide.2 (rank_Of _ g1 K1 l k1 r1 F1 G1.out m1)).mono ?_
  rintro e w2 ⟨t1, lt1, ft1, rfl, htab1, htl1, htf1, hl1, hl1', hb2⟩
  have B2 := Lib.hid (BV.out.trans (hb2.mono BV.out.size))
  have T1 := Lib.hid htab1
  have HT1 := Lib.hid (And.intro htl1 (And.intro htf1 (And.intro hl1 hl1')))
  have s2 := hb2.size
  have HB2 := Lib.hid hb2
  clear hb2 htab1 htl1 htf1 hl1 hl1'
  gi_wp2_with fail
  refine ⟨trivial, ?_⟩
  refine (callsIn_wide.2 (rank_Of _ g2 K2 l k2 r2 F2 (G2.out.below HB2.out) m2)).mono ?_
  rintro e w3 ⟨t2, lt2, ft2, rfl, htab2, htl2, htf2, hl2, hl2', hb3⟩
  have B3 := B2.out.trans (hb3.mono B2.out.size)
  have s3 := hb3.size
  have BB3 := HB2.out.trans (hb3.mono s2)
  have KO3 := Lib.hid (KO.out.below BB3)
  have KF3 := Lib.hid (blk_below KF.out BB3)
  have KD3 := Lib.hid (blk_below KD2.out BB3)
  have KR3 := Lib.hid (KR2.out.below BB3)
  have J1 := Lib.hid (G1.out.below BB3)
  have J2 := Lib.hid (G2.out.below BB3)
  have U1 := Lib.hid (T1.out.below hb3)
  have U2 := Lib.hid htab2
  have HT2 := Lib.hid (And.intro htl2 (And.intro htf2 (And.intro hl2 hl2')))
  clear hb3 htab2 htl2 htf2 hl2 hl2' G1 G2 T1 KO KF KD2 KR2 BB3 HB2 B2 BV B1
  gi_wp2_with fail
  have BA : Below w3.heap.size w3 (((w3.alloc (.cells #[.pointer (some ⟨t1, 0, none⟩)] 86)).alloc (.cells #[.pointer (some ⟨t2, 0, none⟩)] 86)).alloc (.cells #[.pointer (some ⟨g1, 0, none⟩), .pointer (some ⟨g2, 0, none⟩)] 28)) := ((((Below.refl w3.heap.size w3).alloc (Nat.le_refl _) _).alloc (by simp) _).alloc (by simp; omega) _)
  have kt := (heap_new_lt ((w3.alloc (.cells #[.pointer (some ⟨t1, 0, none⟩)] 86)).alloc (.cells #[.pointer (some ⟨t2, 0, none⟩)] 86)) (.cells #[.pointer (some ⟨g1, 0, none⟩), .pointer (some ⟨g2, 0, none⟩)] 28) w3.heap.size (by simp; omega)).trans ((heap_new_lt (w3.alloc (.cells #[.pointer (some ⟨t1, 0, none⟩)] 86)) (.cells #[.pointer (some ⟨t2, 0, none⟩)] 86) w3.heap.size (by simp)).trans (heap_alloc_new w3 (.cells #[.pointer (some ⟨t1, 0, none⟩)] 86)))
  have ku := (heap_new_lt ((w3.alloc (.cells #[.pointer (some ⟨t1, 0, none⟩)] 86)).alloc (.cells #[.pointer (some ⟨t2, 0, none⟩)] 86)) (.cells #[.pointer (some ⟨g1, 0, none⟩), .pointer (some ⟨g2, 0, none⟩)] 28) (w3.heap.size + 1) (by simp)).trans (heap_new_at (w3.alloc (.cells #[.pointer (some ⟨t1, 0, none⟩)] 86)) (.cells #[.pointer (some ⟨t2, 0, none⟩)] 86) (w3.heap.size + 1) (by simp))
  have ks := heap_new_at ((w3.alloc (.cells #[.pointer (some ⟨t1, 0, none⟩)] 86)).alloc (.cells #[.pointer (some ⟨t2, 0, none⟩)] 86)) (.cells #[.pointer (some ⟨g1, 0, none⟩), .pointer (some ⟨g2, 0, none⟩)] 28) (w3.heap.size + 1 + 1) (by simp)
  have I4 : MoI w.heap.size w1.heap.size w3.heap.size t1 t2 V1.heap.size w2.heap.size w2.heap.size w3.heap.size d (sumR r1) (sumR r2) lt1 ft1 lt2 ft2 (((w3.alloc (.cells #[.pointer (some ⟨t1, 0, none⟩)] 86)).alloc (.cells #[.pointer (some ⟨t2, 0, none⟩)] 86)).alloc (.cells #[.pointer (some ⟨g1, 0, none⟩), .pointer (some ⟨g2, 0, none⟩)] 28)) :=
    ⟨blk_below KD3.out BA, KR3.out.below BA, blk_below KF3.out BA, kt, ku, U1.out.below (BA.mono s3), U2.out.below BA⟩
  have II := Lib.hid I4
  have OO := Lib.hid (KO3.out.below BA)
  have KS := Lib.hid ks
  have M1 := Lib.hid (J1.out.below BA)
  have M2 := Lib.hid (J2.out.below BA)
  have BB := Lib.hid (B3.trans (BA.mono B3.size))
  have sA := BA.size
  have sA3 : w3.heap.size + 3 ≤ (((w3.alloc (.cells #[.pointer (some ⟨t1, 0, none⟩)] 86)).alloc (.cells #[.pointer (some ⟨t2, 0, none⟩)] 86)).alloc (.cells #[.pointer (some ⟨g1, 0, none⟩), .pointer (some ⟨g2, 0, none⟩)] 28)).heap.size := by simp
  clear BA kt ku ks I4 J1 J2 U1 U2 KO3 KF3 KD3 KR3 B3
  generalize ((w3.alloc (.cells #[.pointer (some ⟨t1, 0, none⟩)] 86)).alloc (.cells #[.pointer (some ⟨t2, 0, none⟩)] 86)).alloc (.cells #[.pointer (some ⟨g1, 0, none⟩), .pointer (some ⟨g2, 0, none⟩)] 28) = W4 at II OO KS M1 M2 BB sA sA3 ⊢
  refine ⟨trivial, ?_⟩
  refine (callsIn_wide.2 (gap_ends _ (w3.heap.size + 1 + 1) g1 g2 K1 K2 l k1 k2 r1 r2 F1 F2 KS.out M1.out M2.out m1 m2)).mono ?_
  rintro e w5 ⟨b, A, cap, L, rfl, hb0, kb, ho, hrise, hle, hb5⟩
  have I5 := Lib.hid (II.out.below hb5 (by omega) (by omega))
  have O5 := Lib.hid (OO.out.below hb5)
  have BB5 := Lib.hid (BB.out.trans (hb5.mono BB.out.size))
  have KB := Lib.hid kb
  have zb := lt_of_block kb
  have SX := Lib.hid (SlX.own (z := w5.heap.size) (X := fun b => b = w1.heap.size) ho (Nat.le_refl _) (fun c hc => by omega))
  have HR := Lib.hid hrise
  have hL : L.length ≤ 1000000000000 := by rw [HGE.out] at hle; omega
  have s5 := hb5.size
  clear kb ho hrise hle hb5 II OO KS M1 M2 BB
  gi_wp2_with fail
  have hKB := Lib.hid (fun (W : World) (q : Nat) (o o' : Obj) (h : W.heap[q]? = some o) (hc : o.isCells = false) => keepX_b (z := w5.heap.size) (X := fun b => b = w1.heap.size) W q o o' h hc)
  have HP1 : Hid (∀ (x : Int) (W : World), MoI w.heap.size w1.heap.size w3.heap.size t1 t2 V1.heap.size w2.heap.size w2.heap.size w3.heap.size d (sumR r1) (sumR r2) lt1 ft1 lt2 ft2 W → Calls Tryz.prog 114 #[.pointer (some ⟨t1, 0, none⟩), .int .i64 x, .int .i64 d] W fun e w' => e = .returned (.tuple #[.int .i64 (downV (sumR r1) d (lowOf l r1 x)), .int .i64 (upP (sumR r1) d (highOf l r1 x))]) ∧ Below W.heap.size W w') := Lib.hid fun x W h => by
    have hz := lt_of_block h.t
    obtain ⟨q1, q2, q3, q4⟩ := HT1.out
    exact gap_parts_of x d h.tab1 (by omega) q1 q2 (by omega) (by omega) FIT.out.1 SUM.out.1 hd2
  have HP2 : Hid (∀ (x : Int) (W : World), MoI w.heap.size w1.heap.size w3.heap.size t1 t2 V1.heap.size w2.heap.size w2.heap.size w3.heap.size d (sumR r1) (sumR r2) lt1 ft1 lt2 ft2 W → Calls Tryz.prog 114 #[.pointer (some ⟨t2, 0, none⟩), .int .i64 x, .int .i64 d] W fun e w' => e = .returned (.tuple #[.int .i64 (downV (sumR r2) d (lowOf l r2 x)), .int .i64 (upP (sumR r2) d (highOf l r2 x))]) ∧ Below W.heap.size W w') := Lib.hid fun x W h => by
    have hz := lt_of_block h.t
    obtain ⟨q1, q2, q3, q4⟩ := HT2.out
    exact gap_parts_of x d h.tab2 (by omega) q1 q2 (by omega) (by omega) FIT.out.2 SUM.out.2 hd2
  have HPR := Lib.hid (fun x => And.intro (parts_range (d := d) SUM.out.1 (low_range (l := l) FIT.out.1.roll x) (high_range' (l := l) FIT.out.1.roll x)) (parts_range (d := d) SUM.out.2 (low_range (l := l) FIT.out.2.roll x) (high_range' (l := l) FIT.out.2.roll x)))
  clear HT1 HT2 FIT HGE SUM
  refine wpIn_rangeFunc_ownG rfl (by decide) (gf := 179) (lb := #[.pointer (some ⟨b, 0, none⟩)]) rfl trivial (enters_of Tryz.func179 (by kernel_rfl) rfl)
    (ends_stops (3 - 1) b w5.heap.size (fun b => b = w1.heap.size) A cap L w5 (by decide) (Nat.le_refl _) KB.out SX.out zb (fun h => by omega) hL)
    keepX_t (fun W q o o' _ h hc _ => hKB.out W q o o' h hc) (Below.refl _ _) (fun _ => rfl)
    (fun pre W => (MoI w.heap.size w1.heap.size w3.heap.size t1 t2 V1.heap.size w2.heap.size w2.heap.size w3.heap.size d (sumR r1) (sumR r2) lt1 ft1 lt2 ft2 W ∧ bothAt W w1.heap.size (gapFold l d r1 r2 pre).1 (gapFold l d r1 r2 pre).2) ∧ Below w.heap.size w W)
    (fun _ _ _ => False)
    (OwnFrom.and (Go.Own.from (fun s A B row hs hg hr => ⟨hs.1.grown hg hr, row_grown hs.2 hg hr⟩) _) (ownFrom_below (Nat.le_refl _) (by have := BB5.out.size; omega)))
    (fun c => fun _ _ _ _ hs _ _ => hs)
    ⟨⟨I5.out, O5.out⟩, BB5.out⟩
    (fun x => { tmps := #[.pointer (some ⟨g1, 0, none⟩), .pointer (some ⟨g2, 0, none⟩), .int .i64 d, undef, undef, .pointer (some ⟨w.heap.size, 0, none⟩), .pointer (some ⟨w.heap.size + 1, 0, none⟩), .int .i64 0, .int .i64 0, .pointer (some ⟨w1.heap.size, 0, none⟩), .pointer (some ⟨w1.heap.size + 1, 0, none⟩), .pointer (some ⟨w3.heap.size, 0, none⟩), .pointer (some ⟨w3.heap.size + 1, 0, none⟩), .int .i64 x, undef, undef, undef, undef, .pointer (some ⟨g1, 0, none⟩), .pointer (some ⟨g2, 0, none⟩), .int .i64 0, .int .i64 0, .bool true, .bool true, .int .i64 d, .bool false, .bool false, .int .i64 0, .bool false, undef, undef, .func (.func 113) #[] #[.pointer (some ⟨w1.heap.size, 0, none⟩)], .pointer (some ⟨g1, 0, none⟩), .pointer (some ⟨t1, 0, none⟩), .pointer (some ⟨g2, 0, none⟩), .pointer (some ⟨t2, 0, none⟩), .pointer (some ⟨g1, 0, none⟩), .pointer (some ⟨g2, 0, none⟩), .slice (some ⟨w3.heap.size + 1 + 1, 0, none⟩) 2 2, .func (.func 179) #[] #[.pointer (some ⟨b, 0, none⟩)], .int .i64 x, undef, undef, undef, undef, undef, undef, undef, undef, undef, undef, undef, undef, undef, undef, undef, undef, undef, undef, undef, undef, undef, undef, undef, undef, undef, undef, undef, undef, undef, undef, undef], defers := [] }) ?assign ?body ?done ?stop
  case assign =>
    intro q x W Kc hK
    gi_wp2
    exact hK
  case body =>
    rintro q pre x W ⟨⟨hI, hO⟩, hB⟩ _
    have HI := Lib.hid hI
    have HO := Lib.hid hO
    have HB := Lib.hid hB
    have ct := blk_cell hI.t
    have cd := blk_cell hI.d
    have zt := lt_of_block hI.t
    have zd := lt_of_block hI.d
    have h1 := Lib.hid (HP1.out x)
    have h2 := Lib.hid (HP2.out x)
    have hsn := gapFold_snoc l d r1 r2 pre x
    have hst : ∀ o : Int × Int, gapStep l d r1 r2 o x = (max (max o.1 (downV (sumR r1) d (lowOf l r1 x) - upP (sumR r2) d (highOf l r2 x))) (downV (sumR r2) d (lowOf l r2 x) - upP (sumR r1) d (highOf l r1 x)), max (max o.2 (upP (sumR r1) d (highOf l r1 x) - downV (sumR r2) d (lowOf l r2 x))) (upP (sumR r2) d (highOf l r2 x) - downV (sumR r1) d (lowOf l r1 x))) := fun o => rfl
    rw [hst] at hsn
    have hpr := HPR.out x
    generalize downV (sumR r1) d (lowOf l r1 x) = p at h1 hsn hpr
    generalize upP (sumR r1) d (highOf l r1 x) = u at h1 hsn hpr
    generalize downV (sumR r2) d (lowOf l r2 x) = r at h2 hsn hpr
    generalize upP (sumR r2) d (highOf l r2 x) = s at h2 hsn hpr
    have HSN := Lib.hid hsn
    generalize gapFold l d r1 r2 pre = o at HSN HO
    obtain ⟨lo, hi⟩ := o
    simp only at HSN HO
    clear hI hO hB hsn hst HP1 HP2 HPR
    gi_wp2_with fail
    refine ⟨trivial, ?_⟩
    refine (CallsIn.inRound q (callsIn_wide.2 (h1.out _ HI.out))).mono ?_
    rintro e w6 ⟨rfl, hb6⟩
    have KF6 := Lib.hid ((KeepsOthers.of_grownBy (grownBy_of_below hb6 none) (fun _ _ h => by cases h)).from w5.heap.size)
    have KK6 := Lib.hid (KeepX.of_below (z := w5.heap.size) (X := fun b => b = w1.heap.size) hb6)
    have I6 := Lib.hid (HI.out.below hb6 (by omega) (by omega))
    have O6 := Lib.hid (HO.out.below hb6)
    have B6 := Lib.hid (HB.out.trans (hb6.mono HB.out.size))
    have s6 := hb6.size
    have cu6 := blk_cell I6.out.u
    have cd6 := blk_cell I6.out.d
    have zu6 := lt_of_block I6.out.u
    have zd6 := lt_of_block I6.out.d
    clear hb6 HI HO HB ct cd
    gi_wp2_with fail
    refine ⟨trivial, ?_⟩
    refine (CallsIn.inRound q (callsIn_wide.2 (h2.out _ I6.out))).mono ?_
    rintro e w7 ⟨rfl, hb7⟩
    have KF7 := Lib.hid (KF6.out.trans ((KeepsOthers.of_grownBy (grownBy_of_below hb7 none) (fun _ _ h => by cases h)).from w5.heap.size))
    have KK7 := Lib.hid (keepX_t KK6.out (KeepX.of_below (z := w5.heap.size) (X := fun b => b = w1.heap.size) hb7))
    have I7 := Lib.hid (I6.out.below hb7 (by omega) (by omega))
    have O7 := Lib.hid (O6.out.below hb7)
    have B7 := Lib.hid (B6.out.trans (hb7.mono B6.out.size))
    have cf7 := blk_cell I7.out.f
    have zf7 := lt_of_block I7.out.f
    clear hb7 I6 O6 B6 KF6 KK6 cu6 cd6
    gi_wp2_with fail
    refine ⟨trivial, ?_⟩
    refine (CallsIn.inRound q (callsIn_wide.2 (gap_more w7 w1.heap.size lo hi (p - s) (u - r) O7.out))).mono ?_
    rintro e w8 ⟨rfl, hw8⟩
    have i8 := (I7.out.set (o := 0) (v := .int .i64 (max lo (p - s))) (by omega) (by omega) (by omega) (by omega)).set (o := 1) (v := .int .i64 (max hi (u - r))) (by omega) (by omega) (by omega) (by omega)
    have o8 := (O7.out.set0 (max lo (p - s))).set1 (max hi (u - r))
    have b8 := (B7.out.setCell (p := ⟨w1.heap.size, 0, none⟩) (by simp only; omega) (.int .i64 (max lo (p - s)))).setCell (p := ⟨w1.heap.size, 1, none⟩) (by simp only; omega) (.int .i64 (max hi (u - r)))
    have kf8 := (KF7.out.trans ((KeepsOthers.setCell w7 ⟨w1.heap.size, 0, none⟩ (.int .i64 (max lo (p - s)))).from w5.heap.size)).trans ((KeepsOthers.setCell _ ⟨w1.heap.size, 1, none⟩ (.int .i64 (max hi (u - r)))).from w5.heap.size)
    have kk8 := (KK7.out.set (p := ⟨w1.heap.size, 0, none⟩) (.inl rfl) (.int .i64 (max lo (p - s)))).set (p := ⟨w1.heap.size, 1, none⟩) (.inl rfl) (.int .i64 (max hi (u - r)))
    rw [hw8] at i8 o8 b8 kf8 kk8
    have I8 := Lib.hid i8
    have O8 := Lib.hid o8
    have B8 := Lib.hid b8
    have KF8 := Lib.hid kf8
    have KK8 := Lib.hid kk8
    have cf8 := blk_cell I8.out.f
    have zf8 := lt_of_block I8.out.f
    clear hw8 i8 o8 b8 kf8 kk8 I7 O7 B7 KF7 KK7 cf7 zf7
    gi_wp2_with fail
    refine ⟨trivial, ?_⟩
    refine (CallsIn.inRound q (callsIn_wide.2 (gap_more w8 w1.heap.size (max lo (p - s)) (max hi (u - r)) (r - u) (s - p) O8.out))).mono ?_
    rintro e w9 ⟨rfl, hw9⟩
    have i9 := (I8.out.set (o := 0) (v := .int .i64 (max (max lo (p - s)) (r - u))) (by omega) (by omega) (by omega) (by omega)).set (o := 1) (v := .int .i64 (max (max hi (u - r)) (s - p))) (by omega) (by omega) (by omega) (by omega)
    have o9 := (O8.out.set0 (max (max lo (p - s)) (r - u))).set1 (max (max hi (u - r)) (s - p))
    have b9 := (B8.out.setCell (p := ⟨w1.heap.size, 0, none⟩) (by simp only; omega) (.int .i64 (max (max lo (p - s)) (r - u)))).setCell (p := ⟨w1.heap.size, 1, none⟩) (by simp only; omega) (.int .i64 (max (max hi (u - r)) (s - p)))
    have kf9 := (KF8.out.trans ((KeepsOthers.setCell w8 ⟨w1.heap.size, 0, none⟩ (.int .i64 (max (max lo (p - s)) (r - u)))).from w5.heap.size)).trans ((KeepsOthers.setCell _ ⟨w1.heap.size, 1, none⟩ (.int .i64 (max (max hi (u - r)) (s - p)))).from w5.heap.size)
    have kk9 := (KK8.out.set (p := ⟨w1.heap.size, 0, none⟩) (.inl rfl) (.int .i64 (max (max lo (p - s)) (r - u)))).set (p := ⟨w1.heap.size, 1, none⟩) (.inl rfl) (.int .i64 (max (max hi (u - r)) (s - p)))
    rw [hw9] at i9 o9 b9 kf9 kk9
    have I9 := Lib.hid i9
    have O9 := Lib.hid o9
    have B9 := Lib.hid b9
    have KF9 := Lib.hid kf9
    have KK9 := Lib.hid kk9
    have cf9 := blk_cell I9.out.f
    have zf9 := lt_of_block I9.out.f
    clear hw9 i9 o9 b9 kf9 kk9 I8 O8 B8 KF8 KK8 cf8 zf8
    gi_wp2_with fail
    exact ⟨KF9.out, KK9.out, ⟨I9.out, by rw [HSN.out]; exact O9.out⟩, B9.out⟩
  case done =>
    rintro D ys W hD hys ⟨⟨hI, hO⟩, hB⟩ hK
    obtain rfl : ys = L := hys
    have hres : gapFold l d r1 r2 ys = gapFold l d r1 r2 (gapE l r1 r2) := gapFold_rising HR.out
    rw [hres] at hO
    obtain ⟨o, ho⟩ : ∃ o, o = gapFold l d r1 r2 (gapE l r1 r2) := ⟨_, rfl⟩
    rw [← ho] at hO
    have HOE := Lib.hid ho
    have co := blk_cell hO
    have zo := lt_of_block hO
    have cr := blk_cell hI.r
    have fr := blk_frozen hI.r
    have zr := lt_of_block hI.r
    have R7 := Lib.hid ((hI.r.set0 o.1).set1 o.2)
    have B7 := Lib.hid ((hB.setCell (p := ⟨w.heap.size + 1, 0, none⟩) (by simp) (.int .i64 o.1)).setCell (p := ⟨w.heap.size + 1, 1, none⟩) (by simp) (.int .i64 o.2))
    have KO : KeepsOthers W ((W.setCell ⟨w.heap.size + 1, 0, none⟩ (.int .i64 o.1)).setCell ⟨w.heap.size + 1, 1, none⟩ (.int .i64 o.2)) := (KeepsOthers.setCell _ _ _).trans (KeepsOthers.setCell _ _ _)
    have hK' := Lib.hid (KO.same D _ hK rfl)
    have hDw : w.heap.size ≤ D := by have := BB5.out.size; omega
    clear hI hO hB hK KO hres ho
    gi_wp2_with fail
    generalize (W.setCell ⟨w.heap.size + 1, 0, none⟩ (.int .i64 o.1)).setCell ⟨w.heap.size + 1, 1, none⟩ (.int .i64 o.2) = W7 at R7 B7 hK' ⊢
    refine ⟨by simp, .inl ⟨_, _, rfl, run_takeDeferred hK'.out, ?_⟩⟩
    have R8 : bothAt (W7.putObj D (.deferred none)) (w.heap.size + 1) o.1 o.2 := row_grown R7.out (grownBy_putObj' _ D (.deferred none)) (fun r e => by cases e; exact ⟨_, hK'.out, rfl⟩)
    have d0 := blk_cell R8 0
    have d1 := blk_cell R8 1
    exact ⟨.tuple #[.agg #[.int .i64 o.1, .int .i64 o.2], .int .i64 0], by (simp only [results, Tryz.f54]; go_simp), by rw [HOE.out], B7.out.trans (belowK_b (w := w) (Nat.le_refl _) W7 D _ _ hDw hK'.out rfl rfl)⟩
  case stop =>
    rintro D c pre W hD hpre h hK
    exact h.elim
theorem gap_Most (w : World) (g1 K1 l1 g2 K2 l2 : Nat) (k1 k2 : Int) (r1 r2 : List Nd) (F1 F2 : Nat → Prop) (d : Int) (h1 : DigAt w g1 K1 l1 k1 r1 F1) (h2 : DigAt w g2 K2 l2 k2 r2 F2) (m1 : r1.length ≤ 67108864) (m2 : r2.length ≤ 67108864) (hd : d ≤ 9223372036854775807) :
    Calls Tryz.prog 54 #[.pointer (some ⟨g1, 0, none⟩), .pointer (some ⟨g2, 0, none⟩), .int .i64 d] w fun e w' => e = .returned (.tuple #[.agg #[.int .i64 (gapMostT l1 l2 r1 r2 d).1, .int .i64 (gapMostT l1 l2 r1 r2 d).2], .int .i64 (gapMostErr l1 l2 r1 r2 d)]) ∧ Below w.heap.size w w' := by
  by_cases he : gapMostErr l1 l2 r1 r2 d = 0
  · have h0 : gapErr l1 l2 r1 r2 = 0 ∧ ¬ d < 1 := by
      unfold gapMostErr at he
      by_cases c : gapErr l1 l2 r1 r2 = 0
      · rw [if_pos c] at he
        by_cases c2 : d < 1
        · rw [if_pos c2] at he; cases he
        · exact ⟨c, c2⟩
      · rw [if_neg c] at he; exact absurd he c
    have hll := gapErr_ok h0.1
    obtain rfl : l1 = l2 := by omega
    obtain ⟨n, rfl⟩ := Int.eq_ofNat_of_zero_le (show 0 ≤ d by omega)
    have ht : gapMostT l1 l1 r1 r2 n = gapFold l1 n r1 r2 (gapE l1 r1 r2) := by unfold gapMostT; rw [if_pos he]
    rw [ht, he]
    exact gap_Most_yes w g1 K1 l1 g2 K2 n k1 k2 r1 r2 F1 F2 h1 h2 m1 m2 h0.1 (by omega) (by omega)
  · exact gap_Most_no w g1 K1 l1 g2 K2 l2 k1 k2 r1 r2 F1 F2 d h1 h2 he
end Go.Proofs.YtmadmlkmdnjmaaaGreat
