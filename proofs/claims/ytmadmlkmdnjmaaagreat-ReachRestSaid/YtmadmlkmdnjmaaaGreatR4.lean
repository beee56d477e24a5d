/-
  Texts of this proof, one behind the other: Reach2, Table, TabOf, FitsP, Of, EachOf, Bound, Bound2, BoundRef, Part1, GapEnds, Leaf, MemIn, BinsLaw, Runs, ReachRef, Edges, BinsOfP, DigCells, MemTwo, SortZ.
-/
import Derived.Deep.RegionWith
import Derived.Deep.DeepCutAuto
import Derived.Shelf.SlSorted.Search
import Derived.Lib.SlicesCompact
import Derived.Laws.BitsLemmas
import Derived.OwnWalkIn
import Derived.Test.YtmadmlkmdnjmaaaGreatShelf
import Derived.Test.YtmadmlkmdnjmaaaGreatP2
import Derived.Test.YtmadmlkmdnjmaaaGreatP3
/- Package reach: Between and Share. -/
set_option linter.unusedSimpArgs false namespace Go.Proofs.YtmadmlkmdnjmaaaGreat
open Go.ChangeShapes Go.WideShapes Go.ChangeAt Go.RowKit
set_option linter.unusedVariables false
set_option maxRecDepth 100000

/-- What Between tells: the two weights, and the error. -/
def betw (l : Int) (r : List Nd) (a b : Int) : Int × Int × Int := if b < a then (0, 0, 2) else (betwLow l r a b, betwHigh l r a b, 0)
/-- What Share tells. -/
def share (l : Int) (r : List Nd) (a b d : Int) : Int × Int × Int :=
  if sumR r = 0 then (0, 0, 7) else if d < 1 ∨ b < a then (0, 0, 2) else (((betwLow l r a b).toNat * d.toNat / (sumR r).toNat : Nat), (upV (betwHigh l r a b).toNat d.toNat (sumR r).toNat : Nat), 0)
def bothV (t : Int × Int × Int) : Value := .tuple #[.agg #[.int .i64 t.1, .int .i64 t.2.1], .int .i64 t.2.2]
theorem betw_no {l a b : Int} {r : List Nd} (h : b < a) : bothV (betw l r a b) = .tuple #[.agg #[.int .i64 0, .int .i64 0], .int .i64 2] := by unfold betw; rw [if_pos h]; rfl
theorem betw_yes {l a b : Int} {r : List Nd} (h : ¬ b < a) : bothV (betw l r a b) = .tuple #[.agg #[.int .i64 (betwLow l r a b), .int .i64 (betwHigh l r a b)], .int .i64 0] := by unfold betw; rw [if_neg h]; rfl

theorem reach_Between (w : World) (g K l : Nat) (k : Int) (r : List Nd) (F : Nat → Prop) (a b : Int) (h : DigAt w g K l k r F) (hn : r.length ≤ 67108864) :
    Calls Tryz.prog 32 #[.pointer (some ⟨g, 0, none⟩), .int .i64 a, .int .i64 b] w fun e w' => e = .returned (bothV (betw l r a b)) ∧ Below w.heap.size w w' := by
  have HD := Lib.hid h
  clear h
  by_cases hab : b < a
  · rw [betw_no hab]
    go_enter Tryz.func32, Tryz.ntmps32
    go_wp2_with fail
    exact bodyPost_ret (v := .tuple #[.agg #[.int .i64 0, .int .i64 0], .int .i64 2]) (by simp only [results, Tryz.results32]; go_simp) rfl ⟨rfl, (by repeat (first | with_reducible exact Below.refl _ _ | with_reducible assumption | ((with_reducible refine Below.setCell ?_ ?_ _); rotate_left; · (first | omega | exact Nat.le_refl _ | (simp <;> omega))) | (with_reducible refine Below.allocW ?_ _) | (with_reducible refine Below.drew ?_) | (with_reducible refine Below.extW ?_ _)))⟩
  · rw [betw_yes hab]
    have h1 : decide (b < a) = false := by simpa using hab
    have hba : a ≤ b := by omega
    clear hab
    go_enter Tryz.func32, Tryz.ntmps32
    go_wp2_with fail
    have B0 : Below w.heap.size w (((w.alloc (.cells #[.int .i64 a] 3)).alloc (.cells #[.int .i64 b] 3)).alloc (.cells #[.int .i64 0, .int .i64 0] 51)) := (by repeat (first | with_reducible exact Below.refl _ _ | with_reducible assumption | ((with_reducible refine Below.setCell ?_ ?_ _); rotate_left; · (first | omega | exact Nat.le_refl _ | (simp <;> omega))) | (with_reducible refine Below.allocW ?_ _) | (with_reducible refine Below.drew ?_) | (with_reducible refine Below.extW ?_ _)))
    have ca : (((w.alloc (.cells #[.int .i64 a] 3)).alloc (.cells #[.int .i64 b] 3)).alloc (.cells #[.int .i64 0, .int .i64 0] 51)).cell? ⟨w.heap.size, 0, none⟩ = some (.int .i64 a) := by go_simp
    have cb : (((w.alloc (.cells #[.int .i64 a] 3)).alloc (.cells #[.int .i64 b] 3)).alloc (.cells #[.int .i64 0, .int .i64 0] 51)).cell? ⟨w.heap.size + 1, 0, none⟩ = some (.int .i64 b) := by go_simp
    have HA := Lib.hid ca
    have HB := Lib.hid cb
    clear ca cb
    refine (digest_Conf _ g K l k r F (HD.out.below B0)).mono ?_
    rintro e w1 ⟨rfl, hb1⟩
    have B1 : Below w.heap.size w w1 := Below.then_ (by repeat (first | with_reducible exact Below.refl _ _ | with_reducible assumption | ((with_reducible refine Below.setCell ?_ ?_ _); rotate_left; · (first | omega | exact Nat.le_refl _ | (simp <;> omega))) | (with_reducible refine Below.allocW ?_ _) | (with_reducible refine Below.drew ?_) | (with_reducible refine Below.extW ?_ _))) hb1
    have s1 : w.heap.size ≤ w1.heap.size := B1.size
    have z1_0 : w.heap.size < w1.heap.size := by have := hb1.size; (try simp at this); omega
    have y1_0 : w.heap.size ≤ w1.heap.size := Nat.le_of_lt z1_0
    have c1_0 := fun o => hb1.cell (p := ⟨w.heap.size, o, none⟩) (by first | omega | (simp <;> omega))
    have f1_0 := fun o => hb1.frozen (p := ⟨w.heap.size, o, none⟩) (by first | omega | (simp <;> omega))
    have z1_1 : w.heap.size + 1 < w1.heap.size := by have := hb1.size; (try simp at this); omega
    have y1_1 : w.heap.size + 1 ≤ w1.heap.size := Nat.le_of_lt z1_1
    have c1_1 := fun o => hb1.cell (p := ⟨w.heap.size + 1, o, none⟩) (by first | omega | (simp <;> omega))
    have f1_1 := fun o => hb1.frozen (p := ⟨w.heap.size + 1, o, none⟩) (by first | omega | (simp <;> omega))
    have z1_2 : w.heap.size + 1 + 1 < w1.heap.size := by have := hb1.size; (try simp at this); omega
    have y1_2 : w.heap.size + 1 + 1 ≤ w1.heap.size := Nat.le_of_lt z1_2
    have c1_2 := fun o => hb1.cell (p := ⟨w.heap.size + 1 + 1, o, none⟩) (by first | omega | (simp <;> omega))
    have f1_2 := fun o => hb1.frozen (p := ⟨w.heap.size + 1 + 1, o, none⟩) (by first | omega | (simp <;> omega))
    have KD := Lib.hid ((HD.out.below B1).below ((Below.refl w1.heap.size w1).alloc (Nat.le_refl _) (.cells #[.int .i64 l] 3)))
    have WA := (Below.refl w1.heap.size w1).alloc (Nat.le_refl _) (.cells #[.int .i64 l] 3)
    have ca := (WA.cell (p := ⟨w.heap.size, 0, none⟩) z1_0).trans ((c1_0 0).trans HA.out)
    have cb := (WA.cell (p := ⟨w.heap.size + 1, 0, none⟩) z1_1).trans ((c1_1 0).trans HB.out)
    have HA1 := Lib.hid ca
    have HB1 := Lib.hid cb
    clear ca cb WA hb1
    go_wp2_with fail
    refine (sum_Between _ g K l k r F a b w1.heap.size w.heap.size (w.heap.size + 1) KD.out hn (by go_simp) HA1.out HB1.out).mono ?_
    rintro e w2 ⟨rfl, hb2⟩
    have B2 : Below w.heap.size w w2 := Below.then_ (by repeat (first | with_reducible exact Below.refl _ _ | with_reducible assumption | ((with_reducible refine Below.setCell ?_ ?_ _); rotate_left; · (first | omega | exact Nat.le_refl _ | (simp <;> omega))) | (with_reducible refine Below.allocW ?_ _) | (with_reducible refine Below.drew ?_) | (with_reducible refine Below.extW ?_ _))) hb2
    have s2 : w.heap.size ≤ w2.heap.size := B2.size
    have z2_0 : w.heap.size + 1 + 1 < w2.heap.size := by have := hb2.size; (try simp at this); omega
    have y2_0 : w.heap.size + 1 + 1 ≤ w2.heap.size := Nat.le_of_lt z2_0
    have c2_0 := fun o => hb2.cell (p := ⟨w.heap.size + 1 + 1, o, none⟩) (by first | omega | (simp <;> omega))
    have f2_0 := fun o => hb2.frozen (p := ⟨w.heap.size + 1 + 1, o, none⟩) (by first | omega | (simp <;> omega))
    go_wp2_with fail
    exact bodyPost_ret (v := .tuple #[.agg #[.int .i64 (betwLow l r a b), .int .i64 (betwHigh l r a b)], .int .i64 0]) (by simp only [results, Tryz.results32]; go_simp) rfl ⟨rfl, (by repeat (first | with_reducible exact Below.refl _ _ | with_reducible assumption | ((with_reducible refine Below.setCell ?_ ?_ _); rotate_left; · (first | omega | exact Nat.le_refl _ | (simp <;> omega))) | (with_reducible refine Below.allocW ?_ _) | (with_reducible refine Below.drew ?_) | (with_reducible refine Below.extW ?_ _)))⟩
theorem reach_Between_nil (w : World) (a b : Int) :
    Calls Tryz.prog 32 #[.pointer none, .int .i64 a, .int .i64 b] w fun e w' => e = .returned (bothV (0, 0, 1)) ∧ Below w.heap.size w w' := by
  unfold bothV
  go_enter Tryz.func32, Tryz.ntmps32
  go_wp2_with fail
  exact bodyPost_ret (v := .tuple #[.agg #[.int .i64 0, .int .i64 0], .int .i64 1]) (by simp only [results, Tryz.results32]; go_simp) rfl ⟨rfl, (by repeat (first | with_reducible exact Below.refl _ _ | with_reducible assumption | ((with_reducible refine Below.setCell ?_ ?_ _); rotate_left; · (first | omega | exact Nat.le_refl _ | (simp <;> omega))) | (with_reducible refine Below.allocW ?_ _) | (with_reducible refine Below.drew ?_) | (with_reducible refine Below.extW ?_ _)))⟩
end Go.Proofs.YtmadmlkmdnjmaaaGreat
/- Package rank: tables. -/
namespace Go.Proofs.YtmadmlkmdnjmaaaGreat
open Go.ChangeShapes Go.WideShapes Go.ChangeAt Go.RowKit
set_option linter.unusedVariables false
set_option maxRecDepth 100000

/-- What a table says of a number. -/
def upT (t : List Nd) (x : Int) : Int := if atMost t x = 0 then 0 else (t.getD (atMost t x - 1) (0, 0)).2
theorem Tab.upT {l t : List Nd} (h : Tab l t) (x : Int) : upT t x = wUp l x := by
  unfold Go.Proofs.YtmadmlkmdnjmaaaGreat.upT
  by_cases h0 : atMost t x = 0
  · rw [if_pos h0, h.none h0]
  · have hi : atMost t x - 1 < t.length := by have := atMost_le t x; omega
    rw [if_neg h0, getD_at hi, h.some h0 hi]
theorem upTo_closure (W : World) (b2 b3 i n c2 blk off : Nat) (v2 : Value) (x y : Int) (hi : i < n) (hn : n ≤ 67108864) (h2 : W.cell? ⟨b2, 0, none⟩ = some (.slice (some ⟨blk, off, none⟩) n c2)) (h3 : W.cell? ⟨b3, 0, none⟩ = some (.int .i64 x)) (h4 : W.cell? ⟨blk, off + i, none⟩ = some (.int .i64 y)) :
    Calls Tryz.prog 169 (#[.int .i64 i] ++ #[.pointer (some ⟨b2, 0, none⟩), .pointer (some ⟨b3, 0, none⟩)]) W fun e w' => e = .returned (.bool (decide (x < y))) ∧ ∃ q os, w' = Go.Sort.grow (W.drewN q) os := by
  have hi1 : (i : Int) < (n : Int) := by omega
  go_enter Tryz.func169, Tryz.ntmps169
  go_wp2_with fail
  go_region
  all_goals go_wp2_with fail
  all_goals go_ret
  all_goals exact ⟨rfl, 1, #[], by rw [Go.Sort.grow_empty]; rfl⟩
theorem enters_upTo : ∀ args W, (callFunc 169 args).run Tryz.prog W = .ok (.enter 169 args) W := enters_of Tryz.func169 (by kernel_rfl) rfl
theorem rise_mono {t : List Nd} (hr : t.Pairwise fun a b => a.1 < b.1) (x : Int) (a b : Nat) (hab : a ≤ b) (hb : b < t.length) (h : decide (x < (t.getD a (0, 0)).1) = true) : decide (x < (t.getD b (0, 0)).1) = true := by
  rw [getD_at (by omega)] at h
  rw [getD_at hb]
  simp only [decide_eq_true_eq] at h ⊢
  rcases Nat.lt_or_ge a b with hlt | hge
  · have := List.pairwise_iff_getElem.1 hr a b (by omega) hb hlt; omega
  · obtain rfl : a = b := by omega
    exact h
theorem sums_upTo (w : World) (A1 A2 : Option Addr) (c1 c2 : Nat) (t : List Nd) (x : Int) (h1 : Sl w w.heap.size encZ A1 (t.map (·.1))) (h2 : Sl w w.heap.size encZ A2 (t.map (·.2))) (hm : t.length ≤ 67108864) (hr : t.Pairwise fun a b => a.1 < b.1) :
    Calls Tryz.prog 102 #[.agg #[.slice A1 t.length c1, .slice A2 t.length c2], .int .i64 x] w fun e w' => e = .returned (.int .i64 (upT t x)) ∧ Below w.heap.size w w' := by
  obtain ⟨W0, hW0⟩ : ∃ W0, W0 = (w.alloc (.cells #[.slice A1 t.length c1, .slice A2 t.length c2] 161)).alloc (.cells #[.int .i64 x] 3) := ⟨_, rfl⟩
  have hsz : W0.heap.size = w.heap.size + 1 + 1 := by rw [hW0]; simp
  have B0 : Below w.heap.size w W0 := by rw [hW0]; exact (by repeat (first | with_reducible exact Below.refl _ _ | with_reducible assumption | ((with_reducible refine Below.setCell ?_ ?_ _); rotate_left; · (first | omega | exact Nat.le_refl _ | (simp <;> omega))) | (with_reducible refine Below.allocW ?_ _) | (with_reducible refine Below.drew ?_) | (with_reducible refine Below.extW ?_ _)))
  have k0 : W0.cell? ⟨w.heap.size, 0, none⟩ = some (.slice A1 t.length c1) := by rw [hW0]; go_simp
  have k1 : W0.cell? ⟨w.heap.size, 1, none⟩ = some (.slice A2 t.length c2) := by rw [hW0]; go_simp
  have k2 : W0.cell? ⟨w.heap.size + 1, 0, none⟩ = some (.int .i64 x) := by rw [hW0]; go_simp
  have hS := Go.Proofs.Any.sort_Search Tryz.search 169 #[.pointer (some ⟨w.heap.size, 0, none⟩), .pointer (some ⟨w.heap.size + 1, 0, none⟩)] t.length (fun i => decide (x < (t.getD i (0, 0)).1)) W0 enters_upTo (by omega)
    (fun m os i hi => by
      rw [getD_at hi]
      rcases h1 with h1 | ⟨blk, off, rfl, hb, hc⟩
      · have : t.length = 0 := by have := congrArg List.length h1; simpa using this
        omega
      · have hc' := hc i t[i].1 (by simp [hi]) 0 (.int .i64 t[i].1) rfl
        simp only [Nat.add_zero, Nat.mul_one] at hc'
        refine upTo_closure _ w.heap.size (w.heap.size + 1) i t.length c1 blk off undef x t[i].1 hi hm (Go.cell_grown (by simp only [hsz]; omega) k0 m os) (Go.cell_grown (by simp only [hsz]; omega) k2 m os) (Go.cell_grown (by simp only [hsz]; omega) ((B0.cell (p := ⟨blk, off + i, none⟩) hb).trans hc') m os))
    (rise_mono hr x)
  have HS : Hid (Calls Tryz.prog 165 #[.int .i64 t.length, .func (.func 169) #[] #[.pointer (some ⟨w.heap.size, 0, none⟩), .pointer (some ⟨w.heap.size + 1, 0, none⟩)]] W0 fun e w' => e = .returned (.int .i64 (atMost t x)) ∧ ∃ q os, w' = Go.Sort.grow (W0.drewN q) os) := Lib.hid hS
  have hle := atMost_le t x
  have H2 := Lib.hid h2
  have HW := Lib.hid hW0
  have K1 := Lib.hid k1
  have HB0 := Lib.hid B0
  have HZ := Lib.hid hsz
  clear hS h1 h2 hr k0 k1 k2 B0 hsz hW0
  unfold upT
  generalize hk : atMost t x = k at HS hle ⊢
  clear hk
  by_cases hk0 : k = 0
  · subst hk0
    rw [if_pos rfl]
    go_enter Tryz.func102, Tryz.ntmps102
    go_wp2_with fail
    rw [← HW.out]
    refine HS.out.mono ?_
    rintro e w1 ⟨rfl, q, os, rfl⟩
    go_wp2_with fail
    go_ret
    exact ⟨rfl, HB0.out.trans (Go.Proofs.below_grown_sl w.heap.size W0 q os (by have := HZ.out; omega))⟩
  · rw [if_neg hk0]
    obtain ⟨m, rfl⟩ : ∃ m, k = m + 1 := ⟨k - 1, by omega⟩
    simp only [Nat.add_sub_cancel]
    have hm1 : m < t.length := by omega
    rw [getD_at hm1]
    have g0 : ((m + 1 : Nat) == 0) = false := by simp
    have g2 : (m : Int) < (t.length : Int) := by omega
    obtain ⟨blk, off, rfl, hb, hc⟩ := H2.out.at_ (k := m) (by simpa using hm1)
    have hc' := hc 0 (.int .i64 t[m].2) (by simp [encZ])
    simp only [Nat.add_zero, Nat.mul_one] at hc'
    generalize t[m].2 = z at hc' ⊢
    clear hc
    go_enter Tryz.func102, Tryz.ntmps102
    go_wp2_with fail
    rw [← HW.out]
    refine HS.out.mono ?_
    rintro e w1 ⟨rfl, q, os, hw1⟩
    have hB1 : Below w.heap.size w w1 := by rw [hw1]; exact HB0.out.trans (Go.Proofs.below_grown_sl w.heap.size W0 q os (by have := HZ.out; omega))
    have c1' : w1.cell? ⟨w.heap.size, 1, none⟩ = some (.slice (some ⟨blk, off, none⟩) t.length c2) := by rw [hw1]; exact Go.cell_grown (by have := HZ.out; simp only; omega) K1.out q os
    have c2' := (hB1.cell (p := ⟨blk, off + m, none⟩) hb).trans hc'
    clear hw1 hc'
    go_wp2_with fail
    go_ret
    exact ⟨rfl, hB1⟩
end Go.Proofs.YtmadmlkmdnjmaaaGreat
/- Package rank: Low, High, Both, Steps of a table; Of. -/
namespace Go.Proofs.YtmadmlkmdnjmaaaGreat
open Go.ChangeShapes Go.WideShapes Go.ChangeAt Go.RowKit
set_option linter.unusedVariables false
set_option maxRecDepth 100000

/-- A table in block g: n, and two tables; all of it in blocks from L on and below B. -/
def TabAt (w : World) (L B g : Nat) (n : Int) (lt ft : List Nd) : Prop :=
  L ≤ g ∧ g < B ∧ ∃ A1 c1 A2 c2 A3 c3 A4 c4, w.heap[g]? = some (.cells #[.int .i64 n, .slice A1 lt.length c1, .slice A2 lt.length c2, .slice A3 ft.length c3, .slice A4 ft.length c4] 164 (0, 0)) ∧
    (Own w L 3 encZ (.slice A1 lt.length c1) (lt.map (·.1)) ∧ Own w L 3 encZ (.slice A2 lt.length c2) (lt.map (·.2)) ∧ Own w L 3 encZ (.slice A3 ft.length c3) (ft.map (·.1)) ∧ Own w L 3 encZ (.slice A4 ft.length c4) (ft.map (·.2))) ∧
    ∀ A n c, (A, n, c) ∈ [(A1, lt.length, c1), (A2, lt.length, c2), (A3, ft.length, c3), (A4, ft.length, c4)] → ∀ k, (Value.slice A n c).ownBlock = some k → k < B
section
variable {w w' : World} {L B g : Nat} {n : Int} {lt ft : List Nd}
theorem TabAt.keep (h : TabAt w L B g n lt ft) (hk : ∀ b, L ≤ b → b < B → w'.heap[b]? = w.heap[b]?) : TabAt w' L B g n lt ft := by
  obtain ⟨h0, h0', A1, c1, A2, c2, A3, c3, A4, c4, h1, ⟨h2, h3, h4, h5⟩, h6⟩ := h
  refine ⟨h0, h0', A1, c1, A2, c2, A3, c3, A4, c4, (hk g h0 h0').trans h1, ⟨?_, ?_, ?_, ?_⟩, h6⟩
  · exact h2.of_block fun b hb => hk b (h2.lt b hb).1 (h6 _ _ _ (by simp) b hb)
  · exact h3.of_block fun b hb => hk b (h3.lt b hb).1 (h6 _ _ _ (by simp) b hb)
  · exact h4.of_block fun b hb => hk b (h4.lt b hb).1 (h6 _ _ _ (by simp) b hb)
  · exact h5.of_block fun b hb => hk b (h5.lt b hb).1 (h6 _ _ _ (by simp) b hb)
theorem TabAt.below (h : TabAt w L B g n lt ft) (hb : Below B w w') : TabAt w' L B g n lt ft := h.keep fun b _ hlt => hb.block b hlt
theorem TabAt.set (h : TabAt w L B g n lt ft) {p : Addr} (hp : p.block < L) (u : Value) : TabAt (w.setCell p u) L B g n lt ft := h.keep fun b hb _ => Below.heap_setCell _ _ _ _ (by omega)
theorem table_Low (x : Int) (h : TabAt w L B g n lt ft) (hm : lt.length ≤ 67108864) (hr : lt.Pairwise fun a b => a.1 < b.1) :
    Calls Tryz.prog 39 #[.pointer (some ⟨g, 0, none⟩), .int .i64 x] w fun e w' => e = .returned (.int .i64 (upT lt x)) ∧ Below w.heap.size w w' := by
  obtain ⟨h0, h0', A1, c1, A2, c2, A3, c3, A4, c4, h1, ⟨o2, o3, o4, o5⟩, h6⟩ := h
  have h2 := o2.sl
  have h3 := o3.sl
  have h4 := o4.sl
  have h5 := o5.sl
  have c := blk_cell h1
  have H2 := Lib.hid h2
  have H3 := Lib.hid h3
  have HR := Lib.hid hr
  clear h1 h2 h3 h4 h5 hr o2 o3 o4 o5 h6
  go_enter Tryz.func39, Tryz.ntmps39
  go_wp2_with fail
  refine (sums_upTo _ A1 A2 c1 c2 lt x H2.out H3.out hm HR.out).mono ?_
  rintro e w1 ⟨rfl, hb1⟩
  have B1 : Below w.heap.size w w1 := Below.then_ (by repeat (first | with_reducible exact Below.refl _ _ | with_reducible assumption | ((with_reducible refine Below.setCell ?_ ?_ _); rotate_left; · (first | omega | exact Nat.le_refl _ | (simp <;> omega))) | (with_reducible refine Below.allocW ?_ _) | (with_reducible refine Below.drew ?_) | (with_reducible refine Below.extW ?_ _))) hb1
  have s1 : w.heap.size ≤ w1.heap.size := B1.size
  go_wp2_with fail
  go_ret
  exact ⟨rfl, (by repeat (first | with_reducible exact Below.refl _ _ | with_reducible assumption | ((with_reducible refine Below.setCell ?_ ?_ _); rotate_left; · (first | omega | exact Nat.le_refl _ | (simp <;> omega))) | (with_reducible refine Below.allocW ?_ _) | (with_reducible refine Below.drew ?_) | (with_reducible refine Below.extW ?_ _)))⟩
theorem table_High (x : Int) (h : TabAt w L B g n lt ft) (hm : ft.length ≤ 67108864) (hr : ft.Pairwise fun a b => a.1 < b.1) :
    Calls Tryz.prog 40 #[.pointer (some ⟨g, 0, none⟩), .int .i64 x] w fun e w' => e = .returned (.int .i64 (upT ft x)) ∧ Below w.heap.size w w' := by
  obtain ⟨h0, h0', A1, c1, A2, c2, A3, c3, A4, c4, h1, ⟨o2, o3, o4, o5⟩, h6⟩ := h
  have h2 := o2.sl
  have h3 := o3.sl
  have h4 := o4.sl
  have h5 := o5.sl
  have c := blk_cell h1
  have H2 := Lib.hid h4
  have H3 := Lib.hid h5
  have HR := Lib.hid hr
  clear h1 h2 h3 h4 h5 hr o2 o3 o4 o5 h6
  go_enter Tryz.func40, Tryz.ntmps40
  go_wp2_with fail
  refine (sums_upTo _ A3 A4 c3 c4 ft x H2.out H3.out hm HR.out).mono ?_
  rintro e w1 ⟨rfl, hb1⟩
  have B1 : Below w.heap.size w w1 := Below.then_ (by repeat (first | with_reducible exact Below.refl _ _ | with_reducible assumption | ((with_reducible refine Below.setCell ?_ ?_ _); rotate_left; · (first | omega | exact Nat.le_refl _ | (simp <;> omega))) | (with_reducible refine Below.allocW ?_ _) | (with_reducible refine Below.drew ?_) | (with_reducible refine Below.extW ?_ _))) hb1
  have s1 : w.heap.size ≤ w1.heap.size := B1.size
  go_wp2_with fail
  go_ret
  exact ⟨rfl, (by repeat (first | with_reducible exact Below.refl _ _ | with_reducible assumption | ((with_reducible refine Below.setCell ?_ ?_ _); rotate_left; · (first | omega | exact Nat.le_refl _ | (simp <;> omega))) | (with_reducible refine Below.allocW ?_ _) | (with_reducible refine Below.drew ?_) | (with_reducible refine Below.extW ?_ _)))⟩
theorem table_Both (x : Int) (h : TabAt w L B g n lt ft) (hBw : B ≤ w.heap.size) (hm : lt.length ≤ 67108864) (hr : lt.Pairwise fun a b => a.1 < b.1) (hm2 : ft.length ≤ 67108864) (hr2 : ft.Pairwise fun a b => a.1 < b.1) :
    Calls Tryz.prog 41 #[.pointer (some ⟨g, 0, none⟩), .int .i64 x] w fun e w' => e = .returned (.agg #[.int .i64 (upT lt x), .int .i64 (upT ft x)]) ∧ Below w.heap.size w w' := by
  have HA := Lib.hid (h.below ((Below.refl B w).alloc hBw (.cells #[.int .i64 0, .int .i64 0] 51)))
  have HR := Lib.hid hr
  have HR2 := Lib.hid hr2
  clear h hr hr2
  go_enter Tryz.func41, Tryz.ntmps41
  go_wp2_with fail
  refine (table_Low x HA.out hm HR.out).mono ?_
  rintro e w1 ⟨rfl, hb1⟩
  have B1 : Below w.heap.size w w1 := Below.then_ (by repeat (first | with_reducible exact Below.refl _ _ | with_reducible assumption | ((with_reducible refine Below.setCell ?_ ?_ _); rotate_left; · (first | omega | exact Nat.le_refl _ | (simp <;> omega))) | (with_reducible refine Below.allocW ?_ _) | (with_reducible refine Below.drew ?_) | (with_reducible refine Below.extW ?_ _))) hb1
  have s1 : w.heap.size ≤ w1.heap.size := B1.size
  have z1_0 : w.heap.size < w1.heap.size := by have := hb1.size; (try simp at this); omega
  have y1_0 : w.heap.size ≤ w1.heap.size := Nat.le_of_lt z1_0
  have c1_0 := fun o => hb1.cell (p := ⟨w.heap.size, o, none⟩) (by first | omega | (simp <;> omega))
  have f1_0 := fun o => hb1.frozen (p := ⟨w.heap.size, o, none⟩) (by first | omega | (simp <;> omega))
  have HA1 := Lib.hid (HA.out.below (hb1.mono (by simp; omega)))
  have K := Lib.hid ((bothAt.new w 0 0).below hb1)
  go_wp2_with fail
  refine (table_High x HA1.out hm2 HR2.out).mono ?_
  rintro e w2 ⟨rfl, hb2⟩
  have B2 : Below w.heap.size w w2 := Below.then_ (by repeat (first | with_reducible exact Below.refl _ _ | with_reducible assumption | ((with_reducible refine Below.setCell ?_ ?_ _); rotate_left; · (first | omega | exact Nat.le_refl _ | (simp <;> omega))) | (with_reducible refine Below.allocW ?_ _) | (with_reducible refine Below.drew ?_) | (with_reducible refine Below.extW ?_ _))) hb2
  have s2 : w.heap.size ≤ w2.heap.size := B2.size
  have k := K.out.below hb2
  have cc := blk_cell k
  have cf := blk_frozen k
  have zz := lt_of_block k
  clear k
  go_wp2_with fail
  exact bodyPost_ret (v := .agg #[.int .i64 (upT lt x), .int .i64 (upT ft x)]) (by simp only [results, Tryz.results41]; go_simp) rfl ⟨rfl, (by repeat (first | with_reducible exact Below.refl _ _ | with_reducible assumption | ((with_reducible refine Below.setCell ?_ ?_ _); rotate_left; · (first | omega | exact Nat.le_refl _ | (simp <;> omega))) | (with_reducible refine Below.allocW ?_ _) | (with_reducible refine Below.drew ?_) | (with_reducible refine Below.extW ?_ _)))⟩
end
@[go_sem] theorem run_eqZ_nil (w : World) (A : Option Addr) (n c : Nat) : (binOp .eql 49 (.slice A n c) (.slice none 0 0)).run Tryz.prog w = .ok (.bool A.isNone) w := Lib.run_eql_slice_nil w _ _ A n c 0 0 Tryz.underlying49
theorem clone_Z (w : World) (A : Option Addr) (cap : Nat) (l : List Int) (hS : Sl w w.heap.size encZ A l) (hn : l.length ≤ 67108864) :
    Calls Tryz.prog 103 #[.slice A l.length cap] w (OwnPost 3 encZ l w) := by
  rcases A with _ | a
  · have h0 : l = [] := by
      rcases hS with h | ⟨b, off, hA, _⟩
      · exact h
      · cases hA
    subst h0
    go_enter Tryz.func103, Tryz.ntmps103
    go_wp2_with fail
    go_ret
    exact ⟨_, rfl, Own.nil _ _ _ _, (by repeat (first | with_reducible exact Below.refl _ _ | with_reducible assumption | ((with_reducible refine Below.setCell ?_ ?_ _); rotate_left; · (first | omega | exact Nat.le_refl _ | (simp <;> omega))) | (with_reducible refine Below.allocW ?_ _) | (with_reducible refine Below.drew ?_) | (with_reducible refine Below.extW ?_ _)))⟩
  · have HS := Lib.hid hS
    clear hS
    go_enter Tryz.func103, Tryz.ntmps103
    go_wp2_with ((at_builtin; refine wpList_app tyZ rfl _ _ rfl encZ w.heap.size (.slice (some ⟨w.heap.size, 0, none⟩) 0 0) [] rfl ?ho (some a) cap l w.heap.size rfl ?hs ?c1 ?c2 ?c3 ?c4))
    case ho => exact .inr ⟨w.heap.size, 0, 0, #[], rfl, Nat.le_refl _, heap_alloc_new w _, Nat.le_refl _, by simp, by simp, fun j u hj => by simp at hj⟩
    case hs => exact HS.out.keep (Nat.le_refl _) fun p hp => ((Below.refl w.heap.size w).alloc (Nat.le_refl _) _).cell hp
    case c1 => simp; omega
    case c2 => simp [maxLen]; omega
    case c3 => simp
    case c4 =>
      intro v' w1 ho1 _ _ hb1 _
      have B1 : Below w.heap.size w w1 := ((Below.refl w.heap.size w).alloc (Nat.le_refl _) _).trans hb1
      have HO1 := Lib.hid (show Own w1 w.heap.size 3 encZ v' l by simpa using ho1)
      clear ho1
      go_wp2_with fail
      go_ret
      exact ⟨_, rfl, HO1.out, B1⟩
theorem table_Steps {w : World} {L B g : Nat} {n : Int} {lt ft : List Nd} (h : TabAt w L B g n lt ft) (hm : lt.length ≤ 67108864) :
    Calls Tryz.prog 42 #[.pointer (some ⟨g, 0, none⟩)] w (OwnPost 3 encZ (lt.map (·.1)) w) := by
  obtain ⟨h0, h0', A1, c1, A2, c2, A3, c3, A4, c4, h1, ⟨o2, o3, o4, o5⟩, h6⟩ := h
  have h2 := o2.sl
  have h3 := o3.sl
  have h4 := o4.sl
  have h5 := o5.sl
  have c := blk_cell h1
  have HC := Lib.hid (clone_Z w A1 c1 (lt.map (·.1)) h2 (by simpa using hm))
  rw [List.length_map] at HC
  clear h1 h2 h3 h4 h5 o2 o3 o4 o5 h6
  go_enter Tryz.func42, Tryz.ntmps42
  go_wp2_with fail
  refine HC.out.mono ?_
  rintro e w1 ⟨v, rfl, ho, hb⟩
  have HO := Lib.hid ho
  clear ho
  go_wp2_with fail
  go_ret
  exact ⟨_, rfl, HO.out, hb⟩
end Go.Proofs.YtmadmlkmdnjmaaaGreat
/- The ends of the nodes of a roll that fits. -/
namespace Go.Proofs.YtmadmlkmdnjmaaaGreat
open Go.ChangeShapes Go.WideShapes Go.ChangeAt Go.RowKit
set_option linter.unusedVariables false

theorem ends_48 {l : Nat} (hl : l ≤ 48) {id : Int} (h : isNode l id = true) : 0 ≤ (endsOf l id).1 ∧ (endsOf l id).1 ≤ (endsOf l id).2.1 ∧ (endsOf l id).2.1 ≤ 281474976710655 := by
  have h1 := ends_bounds h
  have h2 := pow_48 (n := l) hl
  omega
theorem Fits.nodes {l : Nat} {r : List Nd} (hf : Fits l r) (hl : 1 ≤ l ∧ l ≤ 48) : ∀ x ∈ r, isNode l x.1 = true := by
  intro x hx
  have h1 := (hf.roll.2 x hx).1
  have h2 := hf.lt x hx
  simp only [isNode, decide_eq_true_eq, Int.toNat_natCast]
  omega
end Go.Proofs.YtmadmlkmdnjmaaaGreat
/- Package rank: Of: a digest's table. -/
namespace Go.Proofs.YtmadmlkmdnjmaaaGreat
open Go.ChangeShapes Go.WideShapes Go.ChangeAt Go.RowKit
set_option linter.unusedVariables false
set_option maxRecDepth 100000

/-- Where nodes end, and begin, and what they weigh. -/
def lastL (l : Int) (r : List Nd) : List Nd := r.map fun x => ((endsOf l x.1).2.1, x.2)
def firstL (l : Int) (r : List Nd) : List Nd := r.map fun x => ((endsOf l x.1).1, x.2)
theorem low_up (l : Int) (r : List Nd) (y : Int) : wUp (lastL l r) y = lowOf l r y := by
  induction r with
  | nil => rfl
  | cons x r ih =>
    simp only [lastL, List.map_cons, wUp, lowOf, weighR, decide_eq_true_eq] at ih ⊢
    rw [ih]
theorem high_up (l : Int) (r : List Nd) (y : Int) : wUp (firstL l r) y = highOf l r y := by
  induction r with
  | nil => rfl
  | cons x r ih =>
    simp only [firstL, List.map_cons, wUp, highOf, weighR, decide_eq_true_eq] at ih ⊢
    rw [ih]
theorem sum_last (l : Int) (r : List Nd) : sumR (lastL l r) = sumR r := by
  induction r with
  | nil => rfl
  | cons x r ih => simp only [lastL, List.map_cons, sumR] at ih ⊢; rw [ih]
theorem sum_first (l : Int) (r : List Nd) : sumR (firstL l r) = sumR r := by
  induction r with
  | nil => rfl
  | cons x r ih => simp only [firstL, List.map_cons, sumR] at ih ⊢; rw [ih]
theorem tyRd : SliceTy Tryz.prog 29 128 2 16 (.agg #[.int .i64 0, .int .i64 0]) := ⟨Tryz.underlying29, by kernel_rfl, rfl, by decide⟩
/-- A digest's table. -/
def OfPost (l : Int) (r : List Nd) (w : World) (e : Ending) (w' : World) : Prop :=
  ∃ g lt ft, e = .returned (.pointer (some ⟨g, 0, none⟩)) ∧ TabAt w' w.heap.size w'.heap.size g (sumR r) lt ft ∧ Tab (lastL l r) lt ∧ Tab (firstL l r) ft ∧ lt.length ≤ r.length ∧ ft.length ≤ r.length ∧ Below w.heap.size w w'
/-- Two lists of readings that grow. -/
structure TwoR (W : World) (B : Nat) (U1 : Value) (L1 : List Nd) (U2 : Value) (L2 : List Nd) : Prop where
  own1 : Own W B 128 encN U1 L1
  own2 : Own W B 128 encN U2 L2
  sep : Sep U1 U2
section
variable {W W' : World} {B : Nat} {U1 U1' : Value} {L1 L1' : List Nd} {U2 U2' : Value} {L2 L2' : List Nd}
theorem TwoR.below (h : TwoR W B U1 L1 U2 L2) (hb : Below W.heap.size W W') : TwoR W' B U1 L1 U2 L2 := ⟨h.own1.below hb, h.own2.below hb, h.sep⟩
theorem TwoR.app1 (h : TwoR W B U1 L1 U2 L2) {k : Nat} (hg : W.grownBy W' U1.ownBlock) (ho : Own W' B 128 encN U1' L1') (hl : U1'.ownBlock = U1.ownBlock ∨ U1'.ownBlock = some (W.heap.size + k)) : TwoR W' B U1' L1' U2 L2 :=
  ⟨ho, h.own2.kept hg (by
    cases e : U2.ownBlock with
    | none => exact .inl rfl
    | some g => exact .inr fun he => h.sep g (by rw [← he]) e), fun g h1 h2 => by
      rcases hl with hl | hl
      · exact h.sep g (hl ▸ h1) h2
      · rw [hl] at h1; cases h1; have := (h.own2.lt _ h2).2; omega⟩
theorem TwoR.app2 (h : TwoR W B U1 L1 U2 L2) {k : Nat} (hg : W.grownBy W' U2.ownBlock) (ho : Own W' B 128 encN U2' L2') (hl : U2'.ownBlock = U2.ownBlock ∨ U2'.ownBlock = some (W.heap.size + k)) : TwoR W' B U1 L1 U2' L2' :=
  ⟨h.own1.kept hg (by
    cases e : U1.ownBlock with
    | none => exact .inl rfl
    | some g => exact .inr fun he => h.sep g e (by rw [← he])), ho, fun g h1 h2 => by
      rcases hl with hl | hl
      · exact h.sep g h1 (hl ▸ h2)
      · rw [hl] at h2; cases h2; have := (h.own1.lt _ h1).2; omega⟩
end
theorem take_last {l : Int} {r : List Nd} {q : Nat} (h : q < r.length) : lastL l (r.take (q + 1)) = lastL l (r.take q) ++ [((endsOf l r[q].1).2.1, r[q].2)] := by
  unfold lastL; rw [List.take_succ_eq_append_getElem h, List.map_append]; rfl
theorem take_first {l : Int} {r : List Nd} {q : Nat} (h : q < r.length) : firstL l (r.take (q + 1)) = firstL l (r.take q) ++ [((endsOf l r[q].1).1, r[q].2)] := by
  unfold firstL; rw [List.take_succ_eq_append_getElem h, List.map_append]; rfl
theorem rank_Of_nil (w : World) : Calls Tryz.prog 37 #[.pointer none] w fun e w' => e = .returned (.pointer none) ∧ Below w.heap.size w w' := by
  go_enter Tryz.func37, Tryz.ntmps37
  go_wp2_with fail
  go_ret
  exact ⟨rfl, (by repeat (first | with_reducible exact Below.refl _ _ | with_reducible assumption | ((with_reducible refine Below.setCell ?_ ?_ _); rotate_left; · (first | omega | exact Nat.le_refl _ | (simp <;> omega))) | (with_reducible refine Below.allocW ?_ _) | (with_reducible refine Below.drew ?_) | (with_reducible refine Below.extW ?_ _)))⟩
set_option maxHeartbeats 2000000 in
theorem rank_Of (w : World) (g K l : Nat) (k : Int) (r : List Nd) (F : Nat → Prop) (h : DigAt w g K l k r F) (hn : r.length ≤ 67108864) :
    Calls Tryz.prog 37 #[.pointer (some ⟨g, 0, none⟩)] w (OfPost l r w) := by
  have hf := h.fits
  have hll := h.l_le
  have HD := Lib.hid h
  have hnd := hf.nodes hll
  have hlast : ∀ x ∈ lastL l r, 0 ≤ x.1 ∧ x.1 ≤ 281474976710655 := fun x hx => by
    obtain ⟨y, hy, rfl⟩ := List.mem_map.1 hx
    have := ends_48 hll.2 (hnd y hy); simp only; omega
  have hfirst : ∀ x ∈ firstL l r, 0 ≤ x.1 ∧ x.1 ≤ 281474976710655 := fun x hx => by
    obtain ⟨y, hy, rfl⟩ := List.mem_map.1 hx
    have := ends_48 hll.2 (hnd y hy); simp only; omega
  have hlast1 : ∀ x ∈ lastL l r, 1 ≤ x.2 := fun x hx => by obtain ⟨y, hy, rfl⟩ := List.mem_map.1 hx; exact (hf.roll.2 y hy).2
  have hfirst1 : ∀ x ∈ firstL l r, 1 ≤ x.2 := fun x hx => by obtain ⟨y, hy, rfl⟩ := List.mem_map.1 hx; exact (hf.roll.2 y hy).2
  have ML := Lib.hid (fun W base v (ho : Own W base 128 encN v (lastL l r)) => rank_made W base v (lastL l r) ho hlast hlast1 (by rw [sum_last]; exact hf.sum) (by simpa [lastL] using hn))
  have MF := Lib.hid (fun W base v (ho : Own W base 128 encN v (firstL l r)) => rank_made W base v (firstL l r) ho hfirst hfirst1 (by rw [sum_first]; exact hf.sum) (by simpa [firstL] using hn))
  clear h hlast hfirst hlast1 hfirst1 hnd
  go_enter Tryz.func37, Tryz.ntmps37
  go_wp2_with fail
  refine (digest_Conf _ g K l k r F HD.out).mono ?_
  rintro e w1 ⟨rfl, hb1⟩
  have B1 : Below w.heap.size w w1 := Below.then_ (by repeat (first | with_reducible exact Below.refl _ _ | with_reducible assumption | ((with_reducible refine Below.setCell ?_ ?_ _); rotate_left; · (first | omega | exact Nat.le_refl _ | (simp <;> omega))) | (with_reducible refine Below.allocW ?_ _) | (with_reducible refine Below.drew ?_) | (with_reducible refine Below.extW ?_ _))) hb1
  have s1 : w.heap.size ≤ w1.heap.size := B1.size
  have HD1 := Lib.hid (HD.out.below B1)
  go_wp2_with fail
  refine (digest_Nodes _ g K l k r F HD1.out hn).mono ?_
  rintro e w2 ⟨v, rfl, ho, hb2⟩
  have B2 : Below w.heap.size w w2 := Below.then_ (by repeat (first | with_reducible exact Below.refl _ _ | with_reducible assumption | ((with_reducible refine Below.setCell ?_ ?_ _); rotate_left; · (first | omega | exact Nat.le_refl _ | (simp <;> omega))) | (with_reducible refine Below.allocW ?_ _) | (with_reducible refine Below.drew ?_) | (with_reducible refine Below.extW ?_ _))) hb2
  have s2 : w.heap.size ≤ w2.heap.size := B2.size
  have HO := Lib.hid ho
  have HB2 := Lib.hid B2
  obtain ⟨A, cap, rfl, _⟩ := ho.form
  clear ho hb1 hb2 B1 B2
  go_wp2_with fail
  go_loopw [3, 4, 19] (fun f t i wr => ∃ (q : Nat) (v1 v2 : Value), q ≤ r.length ∧ i = .int .i64 q ∧ f = v1 ∧ t = v2 ∧ TwoR wr w2.heap.size v1 (firstL l (r.take q)) v2 (lastL l (r.take q)) ∧ Own wr w1.heap.size 116 encN (.slice A r.length cap) r ∧ Below w.heap.size w wr ∧ w2.heap.size ≤ wr.heap.size) (fun _ _ i _ => r.length - (intOf i).toNat)
  case atStart => exact ⟨0, .slice none 0 0, .slice none 0 0, Nat.zero_le _, rfl, rfl, rfl, ⟨Own.nil _ _ _ _, Own.nil _ _ _ _, (fun g h => by cases h)⟩, HO.out, HB2.out, Nat.le_refl _⟩
  case round =>
    obtain ⟨q, v1, v2, hq, rfl, rfl, rfl, htwo, hown, hB, hs⟩ := hrel
    have KT := Lib.hid htwo
    have KO := Lib.hid hown
    have KB := Lib.hid hB
    clear htwo hown
    by_cases hlt : q < r.length
    · obtain ⟨c, off, rfl, hc, hcl⟩ := KO.out.sl.at_ hlt
      have d0 := hcl 0 (.int .i64 r[q].1) rfl
      have d1 := hcl 1 (.int .i64 r[q].2) rfl
      simp only [Nat.add_zero] at d0
      have hxl := hf.lt _ (List.getElem_mem hlt)
      have hp := pow_48 (n := l) hll.2
      have TL := Lib.hid (take_last (l := l) hlt)
      have TF := Lib.hid (take_first (l := l) hlt)
      obtain ⟨x, hxe⟩ : ∃ x, x = r[q] := ⟨_, rfl⟩
      rw [← hxe] at d0 d1 hxl TL TF
      have hx1 : x.1 ≤ 562949953421312 := by omega
      have HE := Lib.hid (twig_Ends · l x.1 (by omega))
      have lf : (firstL l (r.take q)).length = q := by simp [firstL]; omega
      have ll : (lastL l (r.take q)).length = q := by simp [lastL]; omega
      have LF := Lib.hid lf
      have LL := Lib.hid ll
      generalize endsOf l x.1 = t at HE TL TF
      obtain ⟨t1, t2, t3⟩ := t
      simp only at TL TF
      unfold endsV at HE
      clear hcl hxe hxl hp lf ll
      go_wp2_with fail
      refine (HE.out _).mono ?_
      rintro e w3 ⟨rfl, hb3⟩
      have c3 := fun o => hb3.cell (p := ⟨wr.heap.size, o, none⟩) (by simp)
      have z3 : wr.heap.size < w3.heap.size := by have := hb3.size; simp at this; omega
      have BW : Below wr.heap.size wr w3 := ((Below.refl wr.heap.size wr).alloc (Nat.le_refl _) _).trans (hb3.mono (by simp))
      have T3 := Lib.hid (KT.out.below BW)
      have O3 := Lib.hid (KO.out.below BW)
      have B3 := Lib.hid (KB.out.trans (BW.mono KB.out.size))
      clear BW hb3
      go_wp2_with ((at_builtin; refine wpList_push tyRd rfl _ _ rfl encN w3 w2.heap.size u3 _ rfl T3.out.own1 (t1, x.2) (by go_simp) rfl ?c1 ?c2 ?c3 ?c4))
      case c1 => have := LF.out; omega
      case c2 => have := LF.out; simp only [maxLen]; omega
      case c3 => omega
      case c4 =>
        intro v1' w4 ho4 hg4 hz4 hl4 hb4 _
        have T4 := Lib.hid (T3.out.app1 hg4 ho4 hl4)
        have O4 := Lib.hid (O3.out.kept hg4 (own_ne O3.out T3.out.own1 (by decide)))
        have s2w : w.heap.size ≤ w2.heap.size := HB2.out.size
        have B4 := Lib.hid (B3.out.trans (hb4.mono s2w))
        have ow1 : ∀ g, (u3 : Value).ownBlock = some g → g < wr.heap.size := fun g hg => (KT.out.own1.lt g hg).2
        have c4 := fun o => (grown_cell hg4 wr.heap.size z3 (fun h => by have := ow1 _ h; omega) o).trans (c3 o)
        have z4 : wr.heap.size < w4.heap.size := by omega
        clear ho4 hg4 hl4 hb4 ow1 c3
        go_wp2_with ((at_builtin; refine wpList_push tyRd rfl _ _ rfl encN w4 w2.heap.size u4 _ rfl T4.out.own2 (t2, x.2) (by go_simp) rfl ?c1 ?c2 ?c3 ?c4))
        case c1 => have := LL.out; omega
        case c2 => have := LL.out; simp only [maxLen]; omega
        case c3 => omega
        case c4 =>
          intro v2' w5 ho5 hg5 hz5 hl5 hb5 _
          have T5 := Lib.hid (T4.out.app2 hg5 ho5 hl5)
          have O5 := Lib.hid (O4.out.kept hg5 (own_ne O4.out T4.out.own2 (by decide)))
          have B5 := Lib.hid (B4.out.trans (hb5.mono s2w))
          have z5 : w2.heap.size ≤ w5.heap.size := by omega
          clear ho5 hg5 hl5 hb5
          go_wp2_with fail
          go_roundw
          case rel => exact ⟨q + 1, v1', v2', by omega, by go_num, rfl, rfl, by rw [TF.out, TL.out]; exact T5.out, O5.out, B5.out, z5⟩
          case measure => simp [intOf]; omega
    · obtain rfl : q = r.length := by omega
      rw [List.take_length] at KT
      have s2w : w.heap.size ≤ w2.heap.size := HB2.out.size
      have HDr := Lib.hid (HD.out.below KB.out)
      go_wp2_with fail
      refine (digest_N _ g K l k r F HDr.out).mono ?_
      rintro e w3 ⟨rfl, hb3⟩
      have B3 : Below w.heap.size w w3 := Below.then_ (by repeat (first | with_reducible exact Below.refl _ _ | with_reducible assumption | ((with_reducible refine Below.setCell ?_ ?_ _); rotate_left; · (first | omega | exact Nat.le_refl _ | (simp <;> omega))) | (with_reducible refine Below.allocW ?_ _) | (with_reducible refine Below.drew ?_) | (with_reducible refine Below.extW ?_ _))) hb3
      have s3 : w.heap.size ≤ w3.heap.size := B3.size
      have T3 := Lib.hid (KT.out.below hb3)
      go_wp2_with fail
      refine (ML.out w3 _ _ T3.out.own2).mono ?_
      rintro e w4 ⟨lt, A1, c1, A2, c2, rfl, htl, hll1, o1, o2, hT4⟩
      have B4 := Lib.hid (hT4.below (base := w2.heap.size) (fun b hb => (T3.out.own2.lt b hb).1) (by have := hb3.size; omega))
      have F4 := Lib.hid (hT4.own T3.out.own1 (fun b hb => T3.out.sep b hb))
      have P1 := Lib.hid o1
      have P2 := Lib.hid o2
      have HTL := Lib.hid htl
      have HLL := Lib.hid hll1
      have hs4 := hT4.size
      have hfb := Lib.hid (fun b hb => (T3.out.own1.lt b hb).2)
      clear o1 o2 htl hll1 hT4
      go_wp2_with fail
      refine (MF.out w4 _ _ F4.out).mono ?_
      rintro e w5 ⟨ft, A3, c3, A4, c4, rfl, htf, hll2, o3, o4, hT5⟩
      have B5 := Lib.hid (hT5.below (base := w2.heap.size) (fun b hb => (F4.out.lt b hb).1) (by have := hb3.size; omega))
      have Q1 := Lib.hid (hT5.own P1.out (fun b hb hf => by have := (P1.out.lt b hb).1; have := hfb.out b hf; omega))
      have Q2 := Lib.hid (hT5.own P2.out (fun b hb hf => by have := (P2.out.lt b hb).1; have := hfb.out b hf; omega))
      have Q3 := Lib.hid o3
      have Q4 := Lib.hid o4
      have HTF := Lib.hid htf
      have HLL2 := Lib.hid hll2
      clear o3 o4 htf hll2 hT5
      go_wp2_with fail
      go_ret
      have BF : Below w.heap.size w w5 := (B3.trans ((B4.out.trans B5.out).mono s2w))
      have l1 := (Q1.out.alloc (.cells #[.int .i64 (sumR r), .slice A1 lt.length c1, .slice A2 lt.length c2, .slice A3 ft.length c3, .slice A4 ft.length c4] 164)).base_le (b := w.heap.size) (by have := BF.size; have := hb3.size; omega)
      have l2 := (Q2.out.alloc (.cells #[.int .i64 (sumR r), .slice A1 lt.length c1, .slice A2 lt.length c2, .slice A3 ft.length c3, .slice A4 ft.length c4] 164)).base_le (b := w.heap.size) (by have := BF.size; have := hb3.size; omega)
      have l3 := (Q3.out.alloc (.cells #[.int .i64 (sumR r), .slice A1 lt.length c1, .slice A2 lt.length c2, .slice A3 ft.length c3, .slice A4 ft.length c4] 164)).base_le (b := w.heap.size) (by have := B4.out.size; have := hb3.size; omega)
      have l4 := (Q4.out.alloc (.cells #[.int .i64 (sumR r), .slice A1 lt.length c1, .slice A2 lt.length c2, .slice A3 ft.length c3, .slice A4 ft.length c4] 164)).base_le (b := w.heap.size) (by have := B4.out.size; have := hb3.size; omega)
      refine ⟨w5.heap.size, lt, ft, rfl, ⟨BF.size, by simp, A1, c1, A2, c2, A3, c3, A4, c4, heap_alloc_new w5 _, ⟨l1, l2, l3, l4⟩, fun A n c hm k hk => ?_⟩, HTL.out, HTF.out, by have := HLL.out; simpa [lastL] using this, by have := HLL2.out; simpa [firstL] using this, BF.alloc (by have := BF.size; omega) _⟩
      simp only [List.mem_cons, List.not_mem_nil, or_false, Prod.mk.injEq] at hm
      rcases hm with ⟨rfl, rfl, rfl⟩ | ⟨rfl, rfl, rfl⟩ | ⟨rfl, rfl, rfl⟩ | ⟨rfl, rfl, rfl⟩
      · exact (l1.lt k hk).2
      · exact (l2.lt k hk).2
      · exact (l3.lt k hk).2
      · exact (l4.lt k hk).2
end Go.Proofs.YtmadmlkmdnjmaaaGreat
/- Package bound: each: a function value called for all nodes. -/
namespace Go.Proofs.YtmadmlkmdnjmaaaGreat
open Go.ChangeShapes Go.WideShapes Go.ChangeAt Go.RowKit
set_option linter.unusedVariables false
set_option maxRecDepth 100000

/-- What is so of the world behind so many nodes: it stays where only new blocks come. -/
structure Stays (I : Nat → World → Prop) : Prop where
  st : ∀ q W W', I q W → Below W.heap.size W W' → I q W'
end Go.Proofs.YtmadmlkmdnjmaaaGreat
/- Package bound: Least, Greatest. -/
namespace Go.Proofs.YtmadmlkmdnjmaaaGreat
open Go.ChangeShapes Go.WideShapes Go.ChangeAt Go.RowKit
set_option linter.unusedVariables false
set_option maxRecDepth 100000

def wrongOf (r : List Nd) : Int := if sumR r = 0 then 7 else 0
/-- The least first, and the least last value of nodes. -/
def leastStep (l : Int) (a : Int × Int) (x : Nd) : Int × Int := (min a.1 (endsOf l x.1).1, min a.2 (endsOf l x.1).2.1)
def leastOf (l : Int) (r : List Nd) : Int × Int := r.foldl (leastStep l) (9223372036854775807, 9223372036854775807)
theorem leastOf_succ {l : Int} {r : List Nd} {q : Nat} (h : q < r.length) : leastOf l (r.take (q + 1)) = leastStep l (leastOf l (r.take q)) r[q] := by
  unfold leastOf
  rw [List.take_succ_eq_append_getElem h, List.foldl_append]; rfl
theorem KeepN.set {w : World} {b o : Nat} {x y : Int} (h : bothAt w b x y) (u : Value) : KeepN w (w.setCell ⟨b, o, none⟩ u) := by
  refine ⟨by simp [World.setCell], fun c cs fr hc => ?_⟩
  have hne : c ≠ b := by
    rintro rfl
    unfold bothAt at h
    rw [h] at hc
    injection hc with hc
    injection hc with _ ht
    exact absurd ht (by decide)
  exact (Below.heap_setCell _ _ _ _ hne).trans hc
theorem Below.set_at {B : Nat} {w W : World} {b o : Nat} {u : Value} (h : Below B w W) (hb : B ≤ b) : Below B w (W.setCell ⟨b, o, none⟩ u) := h.setCell (p := ⟨b, o, none⟩) hb u

/-- The two results in memory behind some nodes. -/
def BoundI (w : World) (b0 b1 : Nat) (f : Nat → Int × Int) (q : Nat) (W : World) : Prop := Below w.heap.size w W ∧ bothAt W b0 0 0 ∧ bothAt W b1 (f q).1 (f q).2
theorem boundI_stays (w : World) (b0 b1 : Nat) (f : Nat → Int × Int) : Stays (BoundI w b0 b1 f) := ⟨fun q W W' ⟨h1, h2, h3⟩ hb => ⟨h1.trans (hb.mono h1.size), h2.below hb, h3.below hb⟩⟩
def leastT (l : Int) (r : List Nd) : Int × Int × Int := if sumR r = 0 then (0, 0, 7) else ((leastOf l r).1, (leastOf l r).2, 0)
end Go.Proofs.YtmadmlkmdnjmaaaGreat
/- Package bound: Greatest, Spread. -/
namespace Go.Proofs.YtmadmlkmdnjmaaaGreat
open Go.ChangeShapes Go.WideShapes Go.ChangeAt Go.RowKit
set_option linter.unusedVariables false
set_option maxRecDepth 100000

/-- The greatest first, and the greatest last value of nodes. -/
def mostStep (l : Int) (a : Int × Int) (x : Nd) : Int × Int := (max a.1 (endsOf l x.1).1, max a.2 (endsOf l x.1).2.1)
def mostOf (l : Int) (r : List Nd) : Int × Int := r.foldl (mostStep l) (0, 0)
theorem mostOf_succ {l : Int} {r : List Nd} {q : Nat} (h : q < r.length) : mostOf l (r.take (q + 1)) = mostStep l (mostOf l (r.take q)) r[q] := by
  unfold mostOf
  rw [List.take_succ_eq_append_getElem h, List.foldl_append]; rfl
def mostT (l : Int) (r : List Nd) : Int × Int × Int := if sumR r = 0 then (0, 0, 7) else ((mostOf l r).1, (mostOf l r).2, 0)
end Go.Proofs.YtmadmlkmdnjmaaaGreat
/- The reference of layer 20 (bound): Ends. -/
namespace Go.Proofs.YtmadmlkmdnjmaaaGreat
open Go.ChangeShapes Go.WideShapes Go.ChangeAt Go.RowKit
set_option linter.unusedVariables false
set_option maxRecDepth 100000

theorem lt_or_dec (a b : Int) : a < b ∨ decide (a < b) = false := by
  by_cases h : a < b
  · exact .inl h
  · exact .inr (decide_eq_false h)
/-- The four ends, as the document finds them. -/
structure E4 where
  a : Int
  b : Int
  c : Int
  d : Int
def e4Step (l : Int) (e : E4) (x : Nd) : E4 := ⟨if (endsOf l x.1).1 < e.a then (endsOf l x.1).1 else e.a, if (endsOf l x.1).2.1 < e.b then (endsOf l x.1).2.1 else e.b, if e.c < (endsOf l x.1).1 then (endsOf l x.1).1 else e.c, if e.d < (endsOf l x.1).2.1 then (endsOf l x.1).2.1 else e.d⟩
def e4Of (l : Int) (r : List Nd) : E4 := r.foldl (e4Step l) ⟨281474976710656, 281474976710656, -1, -1⟩
theorem e4Of_succ {l : Int} {r : List Nd} {q : Nat} (h : q < r.length) : e4Of l (r.take (q + 1)) = e4Step l (e4Of l (r.take q)) r[q] := by
  unfold e4Of
  rw [List.take_succ_eq_append_getElem h, List.foldl_append]; rfl
theorem blk_set {w : World} {b q o : Nat} {u : Value} {ob : Obj} (h : w.heap[b]? = some ob) (hne : b ≠ q) : (w.setCell ⟨q, o, none⟩ u).heap[b]? = some ob := (Below.heap_setCell _ _ _ _ hne).trans h

end Go.Proofs.YtmadmlkmdnjmaaaGreat
/- The reference of layer 1: Part. -/
namespace Go.Proofs.YtmadmlkmdnjmaaaGreat
open Go.ChangeShapes Go.WideShapes Go.ChangeAt Go.RowKit
set_option linter.unusedVariables false
set_option maxRecDepth 100000

end Go.Proofs.YtmadmlkmdnjmaaaGreat
/- Chapter 21: where something may change: plain laws. -/
namespace Go.Proofs.YtmadmlkmdnjmaaaGreat
open Go.ChangeShapes Go.WideShapes Go.ChangeAt Go.RowKit
set_option linter.unusedVariables false

/-- Where nodes begin and end. -/
def edgeL (l : Int) (r : List Nd) : List Int := r.flatMap fun x => [(endsOf l x.1).1, (endsOf l x.1).2.1]
theorem edgeL_append (l : Int) (a b : List Nd) : edgeL l (a ++ b) = edgeL l a ++ edgeL l b := by simp [edgeL]
theorem edgeL_len (l : Int) (r : List Nd) : (edgeL l r).length = 2 * r.length := by
  induction r with
  | nil => rfl
  | cons x r ih => simp only [edgeL, List.flatMap_cons, List.length_append, List.length_cons, List.length_nil] at ih ⊢; omega
theorem edgeL_take (l : Int) (r : List Nd) {q : Nat} (h : q < r.length) : edgeL l (r.take (q + 1)) = edgeL l (r.take q) ++ [(endsOf l r[q].1).1, (endsOf l r[q].1).2.1] := by
  rw [List.take_succ_eq_append_getElem h, edgeL_append]
  simp [edgeL]
/-- 0, and where the nodes of both begin and end. -/
def gapE (l : Int) (a b : List Nd) : List Int := 0 :: edgeL l (a ++ b)
theorem gapE_len (l : Int) (a b : List Nd) : (gapE l a b).length = 2 * (a.length + b.length) + 1 := by simp only [gapE, List.length_cons, edgeL_len, List.length_append]
/-- A rising list of just these. -/
def Rising (L E : List Int) : Prop := L.Pairwise (· ≤ ·) ∧ (∀ x, x ∈ L ↔ x ∈ E)
theorem compact_mem (d : Array Int) (m : Nat) : ∀ j, j < m → d[j]! ∈ Lib.compactUpTo d m := by
  induction m with
  | zero => intro j hj; omega
  | succ m ih =>
    intro j hj
    rw [Lib.compactUpTo_succ]
    by_cases e : j = m
    · subst e
      by_cases k : Lib.keeps d j = true
      · rw [if_pos k]; simp
      · rw [if_neg k, List.append_nil]
        have k' : ¬ (j = 0 ∨ d[j]! ≠ d[j - 1]!) := by simpa [Lib.keeps] using k
        have h0 : j ≠ 0 := fun h => k' (.inl h)
        have h1 : d[j]! = d[j - 1]! := Decidable.not_not.1 fun h => k' (.inr h)
        rw [h1]
        exact ih _ (by omega)
    · exact List.mem_append_left _ (ih j (by omega))
theorem compact_sub (zs : List Int) : (Lib.compact zs).Sublist zs := by
  unfold Lib.compact Lib.compactUpTo
  have h := (List.filter_sublist (l := List.range zs.length) (p := Lib.keeps zs.toArray)).map (fun j => zs.toArray[j]!)
  have e := Lib.range_map_get zs.toArray
  simp only [List.size_toArray, List.toList_toArray] at e
  rwa [e] at h
theorem compact_rising (E : List Int) : Rising (Lib.compact (E.mergeSort fun x y => decide (x ≤ y))) E := by
  have hp : (E.mergeSort fun x y => decide (x ≤ y)).Pairwise (· ≤ ·) := by
    have := List.pairwise_mergeSort (le := fun (x y : Int) => decide (x ≤ y)) (fun a b c h1 h2 => by simp only [decide_eq_true_eq] at *; omega) (fun a b => by simp only [Bool.or_eq_true, decide_eq_true_eq]; omega) E
    exact this.imp fun h => by simpa using h
  refine ⟨hp.sublist (compact_sub _), fun x => ?_⟩
  rw [← List.mem_mergeSort (le := fun (x y : Int) => decide (x ≤ y)) (l := E)]
  generalize E.mergeSort (fun x y => decide (x ≤ y)) = zs
  constructor
  · exact fun h => (compact_sub _).subset h
  · intro h
    obtain ⟨j, hj, rfl⟩ := List.getElem_of_mem h
    have := compact_mem zs.toArray zs.length j hj
    rw [getElem!_pos _ _ (by simpa using hj)] at this
    simpa [Lib.compact] using this
theorem compact_len_le (E : List Int) : (Lib.compact (E.mergeSort fun x y => decide (x ≤ y))).length ≤ E.length := by
  have := (compact_sub (E.mergeSort fun x y => decide (x ≤ y))).length_le
  rwa [List.length_mergeSort] at this
/-- The first one of a rising list is the least of any. -/
theorem apFold_rising {f : Int → Int} {L E : List Int} (h : Rising L E) {r : Int × Int} (hr : apIs f L r) : r = apFold f E := apIs_unique h.2 hr (apFold_is f E)
theorem gapFold_rising {l d : Int} {a b : List Nd} {L E : List Int} (h : Rising L E) : gapFold l d a b L = gapFold l d a b E := gapFold_set h.2
end Go.Proofs.YtmadmlkmdnjmaaaGreat
/- Leaves: package twig, and the reference of layer 2. -/
namespace Go.Proofs.YtmadmlkmdnjmaaaGreat
open Go.ChangeShapes Go.WideShapes Go.ChangeAt Go.RowKit
set_option linter.unusedVariables false
set_option maxRecDepth 100000

/-- Is a number a value of a universe? -/
def isVal (l : Nat) (x : Int) : Bool := decide (0 ≤ x) && decide (x < 2 ^ l)
def leafV (l : Nat) (x : Int) : Value := .tuple #[.int .i64 (if isVal l x = true then 2 ^ l + x else 0), .bool (isVal l x)]
theorem leafV_yes {l : Nat} {x : Int} (h : isVal l x = true) : leafV l x = .tuple #[.int .i64 (2 ^ l + x), .bool true] := by unfold leafV; rw [h]; rfl
theorem leafV_no {l : Nat} {x : Int} (h : isVal l x = false) : leafV l x = .tuple #[.int .i64 0, .bool false] := by unfold leafV; rw [h]; rfl
theorem or_leaf {l : Nat} (h : l ≤ 48) {x : Int} (h0 : 0 ≤ x) (h1 : x < 2 ^ l) : bits .or .i64 (2 ^ l) x = 2 ^ l + x := by
  have p1 := pow_48 h
  have p2 := pow_pos' l
  exact bits_join .i64 63 (by decide) (fun n h0 h1 => by rw [IntKind.wrap_i64]; omega) l (2 ^ l) x (by omega) (Int.emod_self) (by omega) h0 h1 (by omega)
theorem twig_Leaf (w : World) (l : Nat) (x : Int) (h1 : 1 ≤ l) (h2 : l ≤ 48) : Calls Tryz.prog 96 #[.int .i64 l, .int .i64 x] w fun e w' => e = .returned (leafV l x) ∧ Below w.heap.size w w' := by
  have p1 := pow_48 h2
  have p2 := pow_pos' l
  have HU := Lib.hid (show decide (1 ≤ (l : Int) ∧ (l : Int) ≤ 48) = true by simp; omega)
  have l1 : (1 : Int) ≤ (l : Int) := by omega
  have l2 : (l : Int) ≤ 48 := by omega
  by_cases hx0 : x < 0
  · rw [leafV_no (by unfold isVal; simp; omega)]
    go_enter Tryz.func96, Tryz.ntmps96
    go_wp2_with fail
    refine (universe_ _ _).mono ?_
    rintro e w1 ⟨rfl, hb1⟩
    have B1 : Below w.heap.size w w1 := Below.then_ (by repeat (first | with_reducible exact Below.refl _ _ | with_reducible assumption | ((with_reducible refine Below.setCell ?_ ?_ _); rotate_left; · (first | omega | exact Nat.le_refl _ | (simp <;> omega))) | (with_reducible refine Below.allocW ?_ _) | (with_reducible refine Below.drew ?_) | (with_reducible refine Below.extW ?_ _))) hb1
    have s1 : w.heap.size ≤ w1.heap.size := B1.size
    rw [HU.out]
    go_wp2_with fail
    go_ret2
    exact ⟨rfl, B1⟩
  · have k0 : decide (x < 0) = false := by simpa using hx0
    by_cases hx1 : x < 2 ^ l
    · rw [leafV_yes (by unfold isVal; simp; omega)]
      have HO := Lib.hid (or_leaf h2 (show 0 ≤ x by omega) hx1)
      have k1 : decide ((2 : Int) ^ l ≤ x) = false := by simp; omega
      go_enter Tryz.func96, Tryz.ntmps96
      go_wp2_with fail
      refine (universe_ _ _).mono ?_
      rintro e w1 ⟨rfl, hb1⟩
      have B1 : Below w.heap.size w w1 := Below.then_ (by repeat (first | with_reducible exact Below.refl _ _ | with_reducible assumption | ((with_reducible refine Below.setCell ?_ ?_ _); rotate_left; · (first | omega | exact Nat.le_refl _ | (simp <;> omega))) | (with_reducible refine Below.allocW ?_ _) | (with_reducible refine Below.drew ?_) | (with_reducible refine Below.extW ?_ _))) hb1
      have s1 : w.heap.size ≤ w1.heap.size := B1.size
      rw [HU.out]
      go_wp2_with fail
      go_ret2
      exact ⟨by simp [HO.out], B1⟩
    · rw [leafV_no (by unfold isVal; simp; omega)]
      have k1 : decide ((2 : Int) ^ l ≤ x) = true := by simp; omega
      go_enter Tryz.func96, Tryz.ntmps96
      go_wp2_with fail
      refine (universe_ _ _).mono ?_
      rintro e w1 ⟨rfl, hb1⟩
      have B1 : Below w.heap.size w w1 := Below.then_ (by repeat (first | with_reducible exact Below.refl _ _ | with_reducible assumption | ((with_reducible refine Below.setCell ?_ ?_ _); rotate_left; · (first | omega | exact Nat.le_refl _ | (simp <;> omega))) | (with_reducible refine Below.allocW ?_ _) | (with_reducible refine Below.drew ?_) | (with_reducible refine Below.extW ?_ _))) hb1
      have s1 : w.heap.size ≤ w1.heap.size := B1.size
      rw [HU.out]
      go_wp2_with fail
      go_ret2
      exact ⟨rfl, B1⟩
theorem ref2_Leaf (w : World) (l : Nat) (x : Int) (h1 : 1 ≤ l) (h2 : l ≤ 48) : Calls Tryz.prog 297 #[.int .i64 l, .int .i64 x] w fun e w' => e = .returned (leafV l x) ∧ Below w.heap.size w w' := by
  have p1 := pow_48 h2
  have p2 := pow_pos' l
  have HU := Lib.hid (show decide (1 ≤ (l : Int) ∧ (l : Int) ≤ 48) = true by simp; omega)
  have HP := Lib.hid (ref2_Power · l (by omega))
  by_cases hx0 : x < 0
  · rw [leafV_no (by unfold isVal; simp; omega)]
    go_enter Tryz.func297, Tryz.ntmps297
    go_wp2_with fail
    refine (ref2_Is _ _).mono ?_
    rintro e w1 ⟨rfl, hb1⟩
    have B1 : Below w.heap.size w w1 := Below.then_ (by repeat (first | with_reducible exact Below.refl _ _ | with_reducible assumption | ((with_reducible refine Below.setCell ?_ ?_ _); rotate_left; · (first | omega | exact Nat.le_refl _ | (simp <;> omega))) | (with_reducible refine Below.allocW ?_ _) | (with_reducible refine Below.drew ?_) | (with_reducible refine Below.extW ?_ _))) hb1
    have s1 : w.heap.size ≤ w1.heap.size := B1.size
    rw [HU.out]
    go_wp2_with fail
    go_ret2
    exact ⟨rfl, B1⟩
  · have k0 : decide (x < 0) = false := by simpa using hx0
    by_cases hx1 : x < 2 ^ l
    · rw [leafV_yes (by unfold isVal; simp; omega)]
      have k1 : decide ((2 : Int) ^ l ≤ x) = false := by simp; omega
      go_enter Tryz.func297, Tryz.ntmps297
      go_wp2_with fail
      refine (ref2_Is _ _).mono ?_
      rintro e w1 ⟨rfl, hb1⟩
      have B1 : Below w.heap.size w w1 := Below.then_ (by repeat (first | with_reducible exact Below.refl _ _ | with_reducible assumption | ((with_reducible refine Below.setCell ?_ ?_ _); rotate_left; · (first | omega | exact Nat.le_refl _ | (simp <;> omega))) | (with_reducible refine Below.allocW ?_ _) | (with_reducible refine Below.drew ?_) | (with_reducible refine Below.extW ?_ _))) hb1
      have s1 : w.heap.size ≤ w1.heap.size := B1.size
      rw [HU.out]
      go_wp2_with fail
      refine (HP.out _).mono ?_
      rintro e w2 ⟨rfl, hb2⟩
      have B2 : Below w.heap.size w w2 := Below.then_ (by repeat (first | with_reducible exact Below.refl _ _ | with_reducible assumption | ((with_reducible refine Below.setCell ?_ ?_ _); rotate_left; · (first | omega | exact Nat.le_refl _ | (simp <;> omega))) | (with_reducible refine Below.allocW ?_ _) | (with_reducible refine Below.drew ?_) | (with_reducible refine Below.extW ?_ _))) hb2
      have s2 : w.heap.size ≤ w2.heap.size := B2.size
      go_wp2_with fail
      refine (HP.out _).mono ?_
      rintro e w3 ⟨rfl, hb3⟩
      have B3 : Below w.heap.size w w3 := Below.then_ (by repeat (first | with_reducible exact Below.refl _ _ | with_reducible assumption | ((with_reducible refine Below.setCell ?_ ?_ _); rotate_left; · (first | omega | exact Nat.le_refl _ | (simp <;> omega))) | (with_reducible refine Below.allocW ?_ _) | (with_reducible refine Below.drew ?_) | (with_reducible refine Below.extW ?_ _))) hb3
      have s3 : w.heap.size ≤ w3.heap.size := B3.size
      go_wp2_with fail
      go_ret2
      exact ⟨rfl, B3⟩
    · rw [leafV_no (by unfold isVal; simp; omega)]
      have k1 : decide ((2 : Int) ^ l ≤ x) = true := by simp; omega
      go_enter Tryz.func297, Tryz.ntmps297
      go_wp2_with fail
      refine (ref2_Is _ _).mono ?_
      rintro e w1 ⟨rfl, hb1⟩
      have B1 : Below w.heap.size w w1 := Below.then_ (by repeat (first | with_reducible exact Below.refl _ _ | with_reducible assumption | ((with_reducible refine Below.setCell ?_ ?_ _); rotate_left; · (first | omega | exact Nat.le_refl _ | (simp <;> omega))) | (with_reducible refine Below.allocW ?_ _) | (with_reducible refine Below.drew ?_) | (with_reducible refine Below.extW ?_ _))) hb1
      have s1 : w.heap.size ≤ w1.heap.size := B1.size
      rw [HU.out]
      go_wp2_with fail
      refine (HP.out _).mono ?_
      rintro e w2 ⟨rfl, hb2⟩
      have B2 : Below w.heap.size w w2 := Below.then_ (by repeat (first | with_reducible exact Below.refl _ _ | with_reducible assumption | ((with_reducible refine Below.setCell ?_ ?_ _); rotate_left; · (first | omega | exact Nat.le_refl _ | (simp <;> omega))) | (with_reducible refine Below.allocW ?_ _) | (with_reducible refine Below.drew ?_) | (with_reducible refine Below.extW ?_ _))) hb2
      have s2 : w.heap.size ≤ w2.heap.size := B2.size
      go_wp2_with fail
      go_ret2
      exact ⟨rfl, B2⟩
end Go.Proofs.YtmadmlkmdnjmaaaGreat
/- Appends inside a fence; what a round keeps. -/
namespace Go.Proofs.YtmadmlkmdnjmaaaGreat
open Go.ChangeShapes Go.WideShapes Go.ChangeAt Go.RowKit
set_option linter.unusedVariables false

section
variable {α : Type} {P : Program} {t e : TypeId} {size bytes : Nat} {z : Value} {F : Fence} {n : Nat}
theorem wpListIn_app {w : World} {ops : Array Oper} {rest : List Oper} {o : Oper} {a : Act} {Q : Exit → Act → World → Prop} (T : SliceTy P t e size bytes z) (hgd : o.guard = none) (s x : Operand)
    (ho : o.op = .call { callee := .builtin .append, args := #[s, x], argTypes := #[t, t] }) (E : Enc α size) (base : Nat) (v : Value) (l : List α) (hs : a.eval s = v) (hown : Own w base e E v l)
    (A : Option Addr) (c : Nat) (l2 : List α) (B : Nat) (hx : a.eval x = .slice A l2.length c) (hsrc : Sl w B E A l2) (hn : (l.length + l2.length) * bytes ≤ 140737488355328) (hm : l.length + l2.length ≤ maxLen) (hbase : base ≤ w.heap.size)
    (h : ∀ v' w', Own w' base e E v' (l ++ l2) → w.grownBy w' v.ownBlock → (v'.ownBlock = v.ownBlock ∨ v'.ownBlock = some w.heap.size) → Below base w w' → (l2 ≠ [] → v' ≠ .slice none 0 0) →
      wpListIn F n P ops Q rest (a.put o.dst v') w') : wpListIn F n P ops Q (o :: rest) a w := by
  refine wpListIn_plain hgd fun K hK => ?_
  obtain ⟨v', w', hr, h2, h3, h4, h5⟩ := app_run T o.type w base v l hown A c l2 B hsrc hn hm hbase
  unfold Oper.wpIn
  refine ⟨?_, ?_⟩
  · simp [Oper.about, ho, resolve, Target.leads, Sem.run_pure]
  · rw [Oper.semAt_plain F _ _ (by rw [ho]; intro c hc'; cases hc')]
    simp only [execOp, ho, resolve, invoke, builtin, Sem.run_bind, Sem.run_pure, Result.andThen_ok, List.map_toArray, List.map_cons, List.map_nil, hs, hx, hr]
    exact hK _ _ (h v' w' h2 h3 h4 ((Below.refl base w).grown h3 hbase fun k hk => (hown.lt k hk).1) h5)
theorem wpListIn_push {w : World} {ops : Array Oper} {rest : List Oper} {o : Oper} {a : Act} {Q : Exit → Act → World → Prop} (T : SliceTy P t e size bytes z) (hgd : o.guard = none) (s x : Operand)
    (ho : o.op = .call { callee := .builtin .append, args := #[s, x], argTypes := #[t, t] }) (E : Enc α size) (W : World) (base : Nat) (v : Value) (l : List α) (hs : a.eval s = v) (hown : Own W base e E v l)
    (x0 : α) (hx : a.eval x = .slice (some ⟨W.heap.size, 0, none⟩) 1 1) (hw : w = W.alloc (.cells (E.enc x0).toArray e)) (hn : (l.length + 1) * bytes ≤ 140737488355328) (hm : l.length + 1 ≤ maxLen) (hbase : base ≤ W.heap.size)
    (h : ∀ v' w', Own w' base e E v' (l ++ [x0]) → W.grownBy w' v.ownBlock → W.heap.size < w'.heap.size → (v'.ownBlock = v.ownBlock ∨ v'.ownBlock = some (W.heap.size + 1)) → Below base W w' → v' ≠ .slice none 0 0 →
      wpListIn F n P ops Q rest (a.put o.dst v') w') : wpListIn F n P ops Q (o :: rest) a w := by
  subst hw
  have hsl := sl_lit W E [x0] e _ rfl
  simp only [List.flatMap_cons, List.flatMap_nil, List.append_nil] at hsl
  refine wpListIn_app T hgd s x ho E base v l hs (hown.alloc _) (some ⟨W.heap.size, 0, none⟩) 1 [x0] _ (by simpa using hx) hsl (by simpa using hn) (by simpa using hm) (by simp; omega) fun v' w' h2 h3 h4 h5 h6 => ?_
  have hs := h3.size
  simp at hs
  refine h v' w' h2 ⟨h3.os, h3.tape, h3.output, by omega, fun i hi hne => (h3.block i (by simp; omega) hne).trans (Below.heap_alloc W _ i hi)⟩ (by omega) ?_ ?_ (h6 (by simp))
  · rcases h4 with h4 | h4
    · exact .inl h4
    · right; rw [h4]; simp
  · exact ((Below.refl base W).alloc hbase _).trans h5
end

/-- A round keeps the rows below z, but for those in X. -/
def KeepX (z : Nat) (X : Nat → Prop) (A B : World) : Prop := A.heap.size ≤ B.heap.size ∧ ∀ (b : Nat) (cs : Array Value) (t : TypeId) (fr : Nat × Nat), b < z → ¬ X b → A.heap[b]? = some (.cells cs t fr) → B.heap[b]? = some (.cells cs t fr)
section
variable {z : Nat} {X : Nat → Prop} {A B C : World}
theorem keepX_t (h : KeepX z X A B) (k : KeepX z X B C) : KeepX z X A C := ⟨Nat.le_trans h.1 k.1, fun b cs t fr hz hx hb => k.2 b cs t fr hz hx (h.2 b cs t fr hz hx hb)⟩
theorem keepX_b (W : World) (l : Nat) (o o' : Obj) (h : W.heap[l]? = some o) (hc : o.isCells = false) : KeepX z X W (W.putObj l o') := by
  refine ⟨(grownBy_putObj' W l o').size, fun b cs t fr _ _ hb => ?_⟩
  have hne : b ≠ l := by
    rintro rfl
    rw [h] at hb
    cases hb
    simp [Obj.isCells] at hc
  rw [World.putObj_heap_other hne]
  exact hb
theorem KeepX.refl (W : World) : KeepX z X W W := ⟨Nat.le_refl _, fun _ _ _ _ _ _ h => h⟩
theorem KeepX.of_below (h : Below A.heap.size A B) : KeepX z X A B := ⟨h.size, fun b cs t fr _ _ hb => (h.block b (lt_of_block hb)).trans hb⟩
/-- A store to a block of X, or beyond z. -/
theorem KeepX.set (h : KeepX z X A B) {p : Addr} (hp : X p.block ∨ z ≤ p.block) (u : Value) : KeepX z X A (B.setCell p u) :=
  keepX_t h ⟨by simp [World.setCell], fun b cs t fr hz hx hb => by
    rw [Below.heap_setCell _ _ _ _ (by
      rintro rfl
      rcases hp with hp | hp
      · exact hx hp
      · omega)]
    exact hb⟩
theorem KeepX.grown (h : KeepX z X A B) {row : Option Nat} (hg : B.grownBy C row) (hr : ∀ b, row = some b → z ≤ b) : KeepX z X A C :=
  keepX_t h ⟨hg.size, fun b cs t fr hz hx hb => (hg.block b (lt_of_block hb) (fun e => by have := hr b e.symm; omega)).trans hb⟩
theorem KeepX.cell (h : KeepX z X A B) {b o : Nat} {v : Value} (hz : b < z) (hx : ¬ X b) (hc : A.cell? ⟨b, o, none⟩ = some v) : B.cell? ⟨b, o, none⟩ = some v := by
  obtain ⟨ob, h1, h2⟩ := cells_of_cell hc
  cases ob with
  | cells cs t fr => exact (World.cell?_of_block ((h.2 b cs t fr hz hx h1).trans h1.symm)).trans hc
  | _ => simp [Obj.isCells] at h2
/-- A row is kept where what is no row turns. -/
theorem row_grown {row : Option Nat} {b : Nat} {cs : Array Value} {t : TypeId} {fr : Nat × Nat} (h : A.heap[b]? = some (.cells cs t fr)) (hg : A.grownBy B row) (hr : ∀ r, row = some r → ∃ o : Obj, A.heap[r]? = some o ∧ o.isCells = false) : B.heap[b]? = some (.cells cs t fr) :=
  (grownBy_keeps_cells hg hr h rfl).trans h
theorem own_grown {α : Type} {size base e : Nat} {E : Enc α size} {v : Value} {l : List α} {row : Option Nat} (h : Own A base e E v l) (hg : A.grownBy B row) (hr : ∀ r, row = some r → ∃ o : Obj, A.heap[r]? = some o ∧ o.isCells = false) : Own B base e E v l :=
  h.of_block fun g hv => by
    rcases h with ⟨rfl, _⟩ | ⟨g1, o1, c1, u1, rfl, _, hh1, _⟩
    · cases hv
    · have : g1 = g := by simpa [Value.ownBlock] using hv
      subst this
      exact grownBy_keeps_cells hg hr hh1 rfl
end
/-- A slice of ints that reads as a list, in a block below z that is none of X. -/
def SlX (w : World) (z : Nat) (X : Nat → Prop) (A : Option Addr) (es : List Int) : Prop := es = [] ∨ ∃ b off, A = some ⟨b, off, none⟩ ∧ b < z ∧ ¬ X b ∧ ∀ i x, es[i]? = some x → w.cell? ⟨b, off + i, none⟩ = some (.int .i64 x)
theorem SlX.keep {w w' : World} {z : Nat} {X : Nat → Prop} {A : Option Addr} {es : List Int} (h : SlX w z X A es) (k : KeepX z X w w') : SlX w' z X A es := by
  rcases h with h | ⟨b, off, rfl, hz, hx, hc⟩
  · exact .inl h
  · exact .inr ⟨b, off, rfl, hz, hx, fun i x hi => k.cell hz hx (hc i x hi)⟩
theorem SlX.below {w w' : World} {z : Nat} {X : Nat → Prop} {A : Option Addr} {es : List Int} (h : SlX w z X A es) (hb : Below z w w') : SlX w' z X A es := by
  rcases h with h | ⟨b, off, rfl, hz, hx, hc⟩
  · exact .inl h
  · exact .inr ⟨b, off, rfl, hz, hx, fun i x hi => (hb.cell (p := ⟨b, off + i, none⟩) hz).trans (hc i x hi)⟩
theorem SlX.of {w : World} {B z : Nat} {X : Nat → Prop} {A : Option Addr} {es : List Int} (h : Sl w B encZ A es) (hB : B ≤ z) (hX : ∀ b, b < B → ¬ X b) : SlX w z X A es := by
  rcases h with h | ⟨b, off, rfl, hb, hc⟩
  · exact .inl h
  · refine .inr ⟨b, off, rfl, by omega, hX b hb, fun i x hi => ?_⟩
    have := hc i x hi 0 (.int .i64 x) rfl
    simpa using this
theorem SlX.at_ {w : World} {z : Nat} {X : Nat → Prop} {A : Option Addr} {es : List Int} (h : SlX w z X A es) {i : Nat} (hi : i < es.length) : ∃ b off, A = some ⟨b, off, none⟩ ∧ b < z ∧ w.cell? ⟨b, off + i, none⟩ = some (.int .i64 es[i]) := by
  rcases h with h | ⟨b, off, rfl, hz, hx, hc⟩
  · subst h; simp at hi
  · exact ⟨b, off, rfl, hz, hc i _ (List.getElem?_eq_getElem hi)⟩
end Go.Proofs.YtmadmlkmdnjmaaaGreat
/- Chapter 19: bins: plain laws. -/
namespace Go.Proofs.YtmadmlkmdnjmaaaGreat
open Go.ChangeShapes Go.WideShapes Go.ChangeAt Go.RowKit
set_option linter.unusedVariables false

/-- Are numbers edges of a universe, behind a number? -/
def rightE (l : Nat) (p : Int) : List Int → Bool
  | [] => true
  | x :: r => (decide (0 ≤ x) && decide (x < 2 ^ l) && decide (p < x)) && rightE l x r
/-- The edge ahead of a place. -/
def prevE (es : List Int) (q : Nat) : Int := if q = 0 then -1 else es.getD (q - 1) 0
theorem prevE_succ {es : List Int} {q : Nat} (h : q < es.length) : prevE es (q + 1) = es[q] := by
  unfold prevE
  rw [if_neg (by omega), Nat.add_sub_cancel, List.getD_eq_getElem?_getD, List.getElem?_eq_getElem h]; rfl
theorem prevE_at {es : List Int} {q : Nat} (h : q < es.length) (h0 : 0 < q) : prevE es q = es[q - 1] := by
  unfold prevE
  rw [if_neg (by omega), List.getD_eq_getElem?_getD, List.getElem?_eq_getElem (by omega)]; rfl
theorem rightE_drop {l : Nat} {es : List Int} {q : Nat} (h : q < es.length) : rightE l (prevE es q) (es.drop q) = ((decide (0 ≤ es[q]) && decide (es[q] < 2 ^ l) && decide (prevE es q < es[q])) && rightE l (prevE es (q + 1)) (es.drop (q + 1))) := by
  rw [List.drop_eq_getElem_cons h, prevE_succ h]; rfl
/-- What weighs at least ahead of a bin. -/
def lowN (l : Int) (r : List Nd) (es : List Int) : Nat → Int
  | 0 => 0
  | q + 1 => if h : q < es.length then lowOf l r es[q] else sumR r
def binAt (l : Int) (r : List Nd) (es : List Int) (q : Nat) : Int := lowN l r es (q + 1) - lowN l r es q
def binsL (l : Int) (r : List Nd) (es : List Int) : List Int := (List.range (es.length + 1)).map (binAt l r es)
/-- A bin's first and last value. -/
def runAt (l : Nat) (es : List Int) (q : Nat) : Int × Int := (if q = 0 then 0 else es.getD (q - 1) 0 + 1, if q < es.length then es.getD q 0 else 2 ^ l - 1)
def runsL (l : Nat) (es : List Int) : List (Int × Int) := (List.range (es.length + 1)).map (runAt l es)
theorem binsL_len (l : Int) (r : List Nd) (es : List Int) : (binsL l r es).length = es.length + 1 := by simp [binsL]
theorem runsL_len (l : Nat) (es : List Int) : (runsL l es).length = es.length + 1 := by simp [runsL]
theorem binsL_at {l : Int} {r : List Nd} {es : List Int} {q : Nat} (h : q < (binsL l r es).length) : (binsL l r es)[q] = binAt l r es q := by simp [binsL]
theorem map_range_succ {α : Type} (f : Nat → α) (q : Nat) : (List.range (q + 1)).map f = (List.range q).map f ++ [f q] := by rw [List.range_succ, List.map_append]; rfl
/-- The program's sums: run by run. -/
def binStep (l : Int) (r : List Nd) (a : List Int × Int) (p : Int × Int) : List Int × Int := (a.1 ++ [lowOf l r p.2 - a.2], lowOf l r p.2)
def binFold (l : Int) (r : List Nd) (ps : List (Int × Int)) : List Int × Int := ps.foldl (binStep l r) ([], 0)
theorem binFold_snoc (l : Int) (r : List Nd) (ps : List (Int × Int)) (p : Int × Int) : binFold l r (ps ++ [p]) = binStep l r (binFold l r ps) p := by
  unfold binFold
  rw [List.foldl_append]; rfl
theorem binFold_len (l : Int) (r : List Nd) (ps : List (Int × Int)) : (binFold l r ps).1.length = ps.length := by
  suffices h : ∀ (a : List Int × Int), (ps.foldl (binStep l r) a).1.length = a.1.length + ps.length by
    have := h ([], 0)
    unfold binFold
    simpa using this
  induction ps with
  | nil => intro a; simp
  | cons p ps ih => intro a; rw [List.foldl_cons, ih]; simp [binStep]; omega
theorem binFold_range {l : Nat} {r : List Nd} (hr : rightOf l r = true) (es : List Int) (q : Nat) (hq : q ≤ es.length + 1) : binFold l r ((List.range q).map (runAt l es)) = ((List.range q).map (binAt l r es), lowN l r es q) := by
  induction q with
  | zero => rfl
  | succ q ih =>
    rw [map_range_succ, binFold_snoc, ih (by omega), map_range_succ]
    have e : lowOf l r (runAt l es q).2 = lowN l r es (q + 1) := by
      unfold runAt
      simp only [lowN]
      by_cases h : q < es.length
      · rw [dif_pos h, if_pos h, List.getD_eq_getElem?_getD, List.getElem?_eq_getElem h]; rfl
      · rw [dif_neg h, if_neg h]
        exact low_top hr (by omega)
    simp only [binStep, binAt, e]
theorem binFold_runs {l : Nat} {r : List Nd} (hr : rightOf l r = true) (es : List Int) : (binFold l r (runsL l es)).1 = binsL l r es := by
  unfold runsL
  rw [binFold_range hr es _ (Nat.le_refl _)]; rfl
/-- An edge less. -/
def lessE (es : List Int) (at_ : Nat) : List Int := es.take at_ ++ es.drop (at_ + 1)
theorem lessE_len {es : List Int} {at_ : Nat} (h : at_ < es.length) : (lessE es at_).length = es.length - 1 := by
  unfold lessE
  rw [List.length_append, List.length_take, List.length_drop]; omega
theorem lessE_get (es : List Int) (at_ i : Nat) (h : at_ < es.length) : (lessE es at_)[i]? = if i < at_ then es[i]? else es[i + 1]? := by
  unfold lessE
  by_cases hi : i < at_
  · rw [if_pos hi, List.getElem?_append_left (by rw [List.length_take]; omega), List.getElem?_take, if_pos hi]
  · rw [if_neg hi, List.getElem?_append_right (by rw [List.length_take]; omega), List.getElem?_drop, List.length_take]
    congr 1; omega
theorem lowN_get (l : Int) (r : List Nd) (es : List Int) (q : Nat) : lowN l r es (q + 1) = match es[q]? with | some x => lowOf l r x | none => sumR r := by
  simp only [lowN]
  by_cases h : q < es.length
  · rw [dif_pos h, List.getElem?_eq_getElem h]
  · rw [dif_neg h, List.getElem?_eq_none (by omega)]
theorem lowN_less {l : Int} {r : List Nd} {es : List Int} {at_ : Nat} (h : at_ < es.length) (j : Nat) : lowN l r (lessE es at_) j = if j ≤ at_ then lowN l r es j else lowN l r es (j + 1) := by
  cases j with
  | zero => rw [if_pos (Nat.zero_le _)]; rfl
  | succ j =>
    rw [lowN_get, lessE_get _ _ _ h, lowN_get, lowN_get]
    by_cases hj : j < at_
    · rw [if_pos hj, if_pos (by omega)]
    · rw [if_neg hj, if_neg (by omega)]
theorem bins_join {l : Int} {r : List Nd} {es : List Int} {at_ : Nat} (h : at_ < es.length) :
    binsL l r (lessE es at_) = (binsL l r es).take at_ ++ [binAt l r es at_ + binAt l r es (at_ + 1)] ++ (binsL l r es).drop (at_ + 2) := by
  have hl := lessE_len h
  apply List.ext_getElem
  · rw [binsL_len, hl, List.length_append, List.length_append, List.length_take, List.length_drop, binsL_len]; simp only [List.length_singleton]; omega
  · intro i h1 h2
    rw [binsL_at]
    rw [binsL_len] at h1
    have hb : ∀ j, binAt l r (lessE es at_) j = (if j + 1 ≤ at_ then lowN l r es (j + 1) else lowN l r es (j + 1 + 1)) - (if j ≤ at_ then lowN l r es j else lowN l r es (j + 1)) := fun j => by
      unfold binAt; rw [lowN_less h, lowN_less h]
    rw [hb]
    have ht : ((binsL l r es).take at_).length = at_ := by rw [List.length_take, binsL_len]; omega
    rcases Nat.lt_trichotomy i at_ with hi | hi | hi
    · rw [if_pos (by omega), if_pos (by omega), List.getElem_append_left (by rw [List.length_append, ht]; omega), List.getElem_append_left (by rw [ht]; omega), List.getElem_take, binsL_at]; rfl
    · subst hi
      rw [if_neg (by omega), if_pos (by omega), List.getElem_append_left (by rw [List.length_append, ht]; simp), List.getElem_append_right (by rw [ht]; omega)]
      simp only [ht, Nat.sub_self, List.getElem_singleton, binAt]; omega
    · rw [if_neg (by omega), if_neg (by omega), List.getElem_append_right (by rw [List.length_append, ht]; simp; omega), List.getElem_drop, binsL_at]
      unfold binAt
      have e : at_ + 2 + (i - ((binsL l r es).take at_ ++ [binAt l r es at_ + binAt l r es (at_ + 1)]).length) = i + 1 := by
        rw [List.length_append, ht]; simp only [List.length_singleton]; omega
      simp only [binAt] at e
      rw [e]
theorem rightE_less {l : Nat} (es : List Int) : ∀ (p : Int) (at_ : Nat), rightE l p es = true → rightE l p (lessE es at_) = true := by
  induction es with
  | nil => intro p at_ h; simp [lessE, rightE]
  | cons x es ih =>
    intro p at_ h
    simp only [rightE, Bool.and_eq_true, decide_eq_true_eq] at h
    obtain ⟨⟨⟨h1, h2⟩, h3⟩, h4⟩ := h
    cases at_ with
    | zero =>
      show rightE l p es = true
      cases es with
      | nil => rfl
      | cons y es =>
        simp only [rightE, Bool.and_eq_true, decide_eq_true_eq] at h4 ⊢
        obtain ⟨⟨⟨h5, h6⟩, h7⟩, h8⟩ := h4
        exact ⟨⟨⟨h5, h6⟩, by omega⟩, h8⟩
    | succ a =>
      show rightE l p (x :: lessE es a) = true
      simp only [rightE, Bool.and_eq_true, decide_eq_true_eq]
      exact ⟨⟨⟨h1, h2⟩, h3⟩, ih x a h4⟩
end Go.Proofs.YtmadmlkmdnjmaaaGreat
/- Package bins: runs, an iterator over where bins begin and end. -/
namespace Go.Proofs.YtmadmlkmdnjmaaaGreat
open Go.ChangeShapes Go.WideShapes Go.ChangeAt Go.RowKit
set_option linter.unusedVariables false
attribute [local go_sem] Oper.semAt_some

theorem runAt_fst_succ {l : Nat} {es : List Int} {q : Nat} (h : q < es.length) : (runAt l es (q + 1)).1 = es[q] + 1 := by
  unfold runAt
  simp only
  rw [if_neg (by omega), Nat.add_sub_cancel, List.getD_eq_getElem?_getD, List.getElem?_eq_getElem h]; rfl
theorem runAt_in {l : Nat} {es : List Int} {q : Nat} (h : q < es.length) : (runAt l es q).2 = es[q] := by
  unfold runAt
  simp only
  rw [if_pos h, List.getD_eq_getElem?_getD, List.getElem?_eq_getElem h]; rfl
theorem runAt_last (l : Nat) (es : List Int) : (runAt l es es.length).2 = 2 ^ l - 1 := by
  unfold runAt
  simp
theorem runs_take (l : Nat) (es : List Int) {q : Nat} (h : q ≤ es.length) : (runsL l es).take q ++ [((runAt l es q).1, (runAt l es q).2)] = (runsL l es).take (q + 1) := by
  have hq : q < (runsL l es).length := by rw [runsL_len]; omega
  rw [List.take_succ_eq_append_getElem hq]
  congr 1
  simp [runsL]
end Go.Proofs.YtmadmlkmdnjmaaaGreat
/- The reference of layer 18 (reach): Between, Share. -/
namespace Go.Proofs.YtmadmlkmdnjmaaaGreat
open Go.ChangeShapes Go.WideShapes Go.ChangeAt Go.RowKit
set_option linter.unusedVariables false
set_option maxRecDepth 100000

theorem three (p q : Prop) [Decidable p] [Decidable q] : (p ∧ q) ∨ (p ∧ decide q = false) ∨ decide p = false := by
  by_cases hp : p
  · by_cases hq : q
    · exact .inl ⟨hp, hq⟩
    · exact .inr (.inl ⟨hp, decide_eq_false hq⟩)
  · exact .inr (.inr (decide_eq_false hp))
theorem drew_heap (W : World) : W.drew.heap = W.heap := rfl
end Go.Proofs.YtmadmlkmdnjmaaaGreat
/- Edges of bins: package bins, and the reference of layer 19: Right. -/
namespace Go.Proofs.YtmadmlkmdnjmaaaGreat
open Go.ChangeShapes Go.WideShapes Go.ChangeAt Go.RowKit
set_option linter.unusedVariables false
set_option maxRecDepth 100000

theorem isNode_one {l : Nat} (h1 : 1 ≤ l) (h2 : l ≤ 48) : isNode l 1 = true := by
  have := pow_pos' l
  simp only [isNode, decide_eq_true_eq, Int.toNat_natCast]; omega
/-- One edge more. -/
theorem right_step {l : Nat} {es : List Int} {q : Nat} (h : q < es.length) :
    (isVal l es[q] = true ∧ (q = 0 ∨ prevE es q < es[q]) → rightE l (prevE es q) (es.drop q) = rightE l (prevE es (q + 1)) (es.drop (q + 1))) ∧
    (isVal l es[q] = false ∨ (0 < q ∧ es[q] ≤ prevE es q) → rightE l (prevE es q) (es.drop q) = false) := by
  rw [rightE_drop h]
  unfold isVal
  constructor
  · rintro ⟨h1, h2⟩
    simp only [Bool.and_eq_true, decide_eq_true_eq] at h1
    have : prevE es q < es[q] := by
      rcases h2 with rfl | h2
      · unfold prevE; simp; omega
      · exact h2
    simp [h1.1, h1.2, this]
  · rintro (h1 | ⟨h1, h2⟩)
    · rw [h1]; simp
    · have : decide (prevE es q < es[q]) = false := by simp; omega
      rw [this]; simp
/-- Why there are no bins. -/
def binErr (l : Nat) (es : List Int) : Int := if rightE l (-1) es = true then 0 else 8
end Go.Proofs.YtmadmlkmdnjmaaaGreat
/- Package bins: Of. -/
namespace Go.Proofs.YtmadmlkmdnjmaaaGreat
open Go.ChangeShapes Go.WideShapes Go.ChangeAt Go.RowKit
set_option linter.unusedVariables false
set_option maxRecDepth 100000
attribute [local go_sem] Oper.semAt_some

/-- What Of tells. -/
def ofBins (l : Nat) (r : List Nd) (es : List Int) : List Int := if binErr l es = 0 then binsL l r es else []
def BinsPost (l : Nat) (r : List Nd) (es : List Int) (w : World) (e : Ending) (w' : World) : Prop := ∃ v, e = .returned (.tuple #[v, .int .i64 (binErr l es)]) ∧ Own w' w.heap.size 3 encZ v (ofBins l r es) ∧ Below w.heap.size w w'
theorem rightE_all {l : Nat} (es : List Int) : ∀ p, rightE l p es = true → ∀ x ∈ es, 0 ≤ x ∧ x < 2 ^ l := by
  induction es with
  | nil => intro p _ x hx; simp at hx
  | cons y es ih =>
    intro p h x hx
    simp only [rightE, Bool.and_eq_true, decide_eq_true_eq] at h
    rcases List.mem_cons.1 hx with rfl | hx
    · exact h.1.1
    · exact ih y h.2 x hx
/-- The state behind some runs. -/
structure OfI (w : World) (l : Nat) (r : List Nd) (L B g bt bo ba z : Nat) (lt ft : List Nd) (pre : List (Int × Int)) (W : World) : Prop where
  t : W.heap[bt]? = some (.cells #[.pointer (some ⟨g, 0, none⟩)] 86 (0, 0))
  o : ∃ v, W.heap[bo]? = some (.cells #[v] 49 (0, 0)) ∧ Own W z 3 encZ v (binFold l r pre).1
  a : W.heap[ba]? = some (.cells #[.int .i64 (binFold l r pre).2] 3 (0, 0))
  tab : TabAt W L B g (sumR r) lt ft
  sz : z ≤ W.heap.size
theorem tab_grown {A B : World} {L B0 g : Nat} {n : Int} {lt ft : List Nd} {row : Option Nat} (h : TabAt A L B0 g n lt ft) (hg : A.grownBy B row) (hr : ∀ r, row = some r → ∃ o : Obj, A.heap[r]? = some o ∧ o.isCells = false) : TabAt B L B0 g n lt ft := by
  obtain ⟨h0, h0', A1, c1, A2, c2, A3, c3, A4, c4, h1, ⟨h2, h3, h4, h5⟩, h6⟩ := h
  exact ⟨h0, h0', A1, c1, A2, c2, A3, c3, A4, c4, row_grown h1 hg hr, ⟨own_grown h2 hg hr, own_grown h3 hg hr, own_grown h4 hg hr, own_grown h5 hg hr⟩, h6⟩
theorem binFold_range2 (l : Int) (r : List Nd) (hr : Roll r) (ps : List (Int × Int)) : 0 ≤ (binFold l r ps).2 ∧ (binFold l r ps).2 ≤ sumR r := by
  have h0 := sumR_nonneg hr
  rcases List.eq_nil_or_concat ps with rfl | ⟨qs, p, rfl⟩
  · simp only [binFold, List.foldl_nil]; omega
  · rw [List.concat_eq_append, binFold_snoc]
    exact weighR_le hr
end Go.Proofs.YtmadmlkmdnjmaaaGreat
/- A digest's blocks are rows of cells: what an iterator's state turns is none of them. -/
namespace Go.Proofs.YtmadmlkmdnjmaaaGreat
open Go.ChangeShapes Go.WideShapes Go.ChangeAt Go.RowKit
set_option linter.unusedVariables false

theorem own_cells {α : Type} {size base e : Nat} {E : Enc α size} {w : World} {v : Value} {l : List α} (h : Own w base e E v l) {b : Nat} (hb : v.ownBlock = some b) : ∃ o, w.heap[b]? = some o ∧ o.isCells = true := by
  rcases h with ⟨rfl, _⟩ | ⟨g1, o1, c1, u1, rfl, _, hh1, _⟩
  · cases hb
  · have : g1 = b := by simpa [Value.ownBlock] using hb
    subst this
    exact ⟨_, hh1, rfl⟩
theorem DigAt.cells {w : World} {g K l : Nat} {k : Int} {r : List Nd} {F : Nat → Prop} (h : DigAt w g K l k r F) : ∀ b, F b → ∃ o, w.heap[b]? = some o ∧ o.isCells = true := by
  obtain ⟨h1, h2, p, F0, rfl, h3, h4⟩ := h
  rintro q (rfl | hq)
  · exact ⟨_, h3, rfl⟩
  · obtain ⟨a1, a2, a3, p2, F1, rfl, h5⟩ := h4
    rcases h5 with ⟨_, _, c, d⟩ | ⟨_, c, d⟩
    · rcases hq with rfl | hq
      · exact ⟨_, c, rfl⟩
      · obtain ⟨v, C, e1, e2, _, _, rfl⟩ := d
        rcases hq with rfl | hq
        · exact ⟨_, e1, rfl⟩
        · exact own_cells e2 hq
    · rcases hq with rfl | hq
      · exact ⟨_, c, rfl⟩
      · obtain ⟨v, S, b, e1, e2, _, _, _, _, rfl⟩ := d
        rcases hq with rfl | hq
        · exact ⟨_, e1, rfl⟩
        · exact own_cells e2 hq
theorem DigAt.grown {A B : World} {g K l : Nat} {k : Int} {r : List Nd} {F : Nat → Prop} {row : Option Nat} (h : DigAt A g K l k r F) (hg : A.grownBy B row) (hr : ∀ r, row = some r → ∃ o : Obj, A.heap[r]? = some o ∧ o.isCells = false) : DigAt B g K l k r F :=
  h.keep fun b hb => by
    obtain ⟨o, ho, hc⟩ := h.cells b hb
    exact hg.block b (h.lt b hb) fun e => by
      obtain ⟨o2, ho2, hc2⟩ := hr b e.symm
      rw [ho] at ho2; cases ho2
      rw [hc] at hc2; cases hc2
end Go.Proofs.YtmadmlkmdnjmaaaGreat
/- append(s, x, y ..): a list that was made for the call alone. -/
namespace Go.Proofs.YtmadmlkmdnjmaaaGreat
open Go.ChangeShapes Go.WideShapes Go.ChangeAt Go.RowKit
set_option linter.unusedVariables false

section
variable {α : Type} {P : Program} {t e : TypeId} {size bytes : Nat} {z : Value}
theorem wpList_pushes {w : World} {ops : Array Oper} {rest : List Oper} {o : Oper} {a : Act} {Q : Exit → Act → World → Prop} (T : SliceTy P t e size bytes z) (hgd : o.guard = none) (s x : Operand)
    (ho : o.op = .call { callee := .builtin .append, args := #[s, x], argTypes := #[t, t] }) (E : Enc α size) (W : World) (base : Nat) (v : Value) (l : List α) (hs : a.eval s = v) (hown : Own W base e E v l)
    (l2 : List α) (n : Nat) (hn2 : n = l2.length) (hx : a.eval x = .slice (some ⟨W.heap.size, 0, none⟩) n n) (hw : w = W.alloc (.cells (l2.flatMap E.enc).toArray e)) (hn : (l.length + l2.length) * bytes ≤ 140737488355328) (hm : l.length + l2.length ≤ maxLen) (hbase : base ≤ W.heap.size)
    (h : ∀ v' w', Own w' base e E v' (l ++ l2) → W.grownBy w' v.ownBlock → W.heap.size < w'.heap.size → (v'.ownBlock = v.ownBlock ∨ v'.ownBlock = some (W.heap.size + 1)) → Below base W w' → (l2 ≠ [] → v' ≠ .slice none 0 0) →
      wpList P ops Q rest (a.put o.dst v') w') : wpList P ops Q (o :: rest) a w := by
  subst hw hn2
  refine wpList_app T hgd s x ho E base v l hs (hown.alloc _) (some ⟨W.heap.size, 0, none⟩) l2.length l2 _ hx (sl_lit W E l2 e _ rfl) hn hm (by simp; omega) fun v' w' h2 h3 h4 h5 h6 => ?_
  have hs := h3.size
  simp at hs
  refine h v' w' h2 ⟨h3.os, h3.tape, h3.output, by omega, fun i hi hne => (h3.block i (by simp; omega) hne).trans (Below.heap_alloc W _ i hi)⟩ (by omega) ?_ ?_ h6
  · rcases h4 with h4 | h4
    · exact .inl h4
    · right; rw [h4]; simp
  · exact ((Below.refl base W).alloc hbase _).trans h5
end
end Go.Proofs.YtmadmlkmdnjmaaaGreat
/- slices.Sort and slices.Compact on a list of ints that the call owns. -/
namespace Go.Proofs.YtmadmlkmdnjmaaaGreat
open Go.ChangeShapes Go.WideShapes Go.ChangeAt Go.RowKit
set_option linter.unusedVariables false

theorem flatZ (l : List Int) : l.flatMap encZ.enc = l.map (Value.int .i64) := by
  induction l with
  | nil => rfl
  | cons x l ih => rw [List.flatMap_cons, ih]; rfl
theorem Own.holdsZ {w : World} {base g off cap : Nat} {l : List Int} (h : Own w base 3 encZ (.slice (some ⟨g, off, none⟩) l.length cap) l) : Go.Sort.Holds (Value.int .i64) w g off l.toArray := by
  intro j hj
  have hj : j < l.length := by simpa using hj
  rcases h with ⟨h, _⟩ | ⟨g', off', cap', cur, hv, hb, hh, h1, h2, h3, hc⟩
  · cases h
  · injection hv with hv _ _
    injection hv with hv
    injection hv with e1 e2
    subst e1 e2
    rw [blk_cell hh, blk_frozen hh]
    refine ⟨hc j _ ?_, rfl⟩
    rw [flatZ, List.getElem?_map, List.getElem?_eq_getElem hj]
    simp [hj]
theorem Own.putZ {w : World} {base g off cap : Nat} {l : List Int} (h : Own w base 3 encZ (.slice (some ⟨g, off, none⟩) l.length cap) l) (d l' : List Int) (hd : d.length = l.length) (rest : List Int) (hr : d = l' ++ rest) (n : Nat) (os : Array Obj) :
    Own (Go.Sort.grow (Go.Sort.putRow (Value.int .i64) (Go.Sort.ahead w n) g off d.toArray) os) base 3 encZ (.slice (some ⟨g, off, none⟩) l'.length cap) l' ∧ Turn (fun b => b = g) w (Go.Sort.grow (Go.Sort.putRow (Value.int .i64) (Go.Sort.ahead w n) g off d.toArray) os) ∧ base ≤ g := by
  have hl : l'.length ≤ l.length := by rw [← hd, hr, List.length_append]; omega
  rcases h with ⟨h, _⟩ | ⟨g', off', cap', cur, hv, hb, hh, h1, h2, h3, hc⟩
  · cases h
  · injection hv with hv _ hcap
    injection hv with hv
    injection hv with e1 e2
    subst e1 e2 hcap
    have hlt : g < w.heap.size := lt_of_block hh
    have hg : (Go.Sort.grow (Go.Sort.putRow (Value.int .i64) (Go.Sort.ahead w n) g off d.toArray) os).heap[g]? = some (.cells (Go.Sort.putCells (Value.int .i64) off d.toArray cur) 3 (0, 0)) := by
      rw [Go.Sort.heap_grow_old _ _ (by simp [Go.Sort.putRow, Go.Sort.mapBlock, Go.Sort.ahead]; exact hlt)]
      simp [Go.Sort.putRow, Go.Sort.mapBlock, Go.Sort.ahead, Array.getElem?_modify, Go.Sort.onCells, hh]
    refine ⟨.inr ⟨g, off, cap, _, rfl, hb, hg, by omega, h2, by simpa [Go.Sort.putCells] using h3, fun j u hj => ?_⟩, ⟨rfl, rfl, rfl, ?_, fun b hlb hn => ?_⟩, hb⟩
    · rw [flatZ, List.getElem?_map] at hj
      obtain ⟨x, hx, rfl⟩ := Option.map_eq_some_iff.1 hj
      have hjl : j < l'.length := (List.getElem?_eq_some_iff.1 hx).1
      have hcur : cur[off + j]? = some cur[off + j] := Array.getElem?_eq_getElem (by omega)
      simp only [Go.Sort.putCells, Array.getElem?_mapIdx, hcur, Option.map_some]
      rw [if_pos ⟨by omega, by simp [hd]; omega⟩]
      have hdj : d[j]? = some x := by rw [hr, List.getElem?_append_left hjl]; exact hx
      have e : d.toArray[off + j - off]! = x := by
        rw [Nat.add_sub_cancel_left, getElem!_pos _ _ (by simpa using (List.getElem?_eq_some_iff.1 hdj).1)]
        simpa using (List.getElem?_eq_some_iff.1 hdj).2
      rw [e]
    · simp [Go.Sort.grow, Go.Sort.putRow, Go.Sort.mapBlock, Go.Sort.ahead]
    · rw [Go.Sort.heap_grow_old _ _ (by simp [Go.Sort.putRow, Go.Sort.mapBlock, Go.Sort.ahead]; exact hlb)]
      simp only [Go.Sort.putRow, Go.Sort.mapBlock, Go.Sort.ahead, Array.getElem?_modify]
      rw [if_neg (by intro h; exact hn h.symm)]
/-- slices.Sort. -/
theorem sort_own (w : World) (base g off cap : Nat) (l : List Int) (h : Own w base 3 encZ (.slice (some ⟨g, off, none⟩) l.length cap) l) (hb : base ≤ w.heap.size) (hm : l.length ≤ 1000000000000) :
    Calls Tryz.prog 108 #[.slice (some ⟨g, off, none⟩) l.length cap] w fun e w' => e = .returned (.tuple #[]) ∧ Own w' base 3 encZ (.slice (some ⟨g, off, none⟩) l.length cap) (l.mergeSort fun x y => decide (x ≤ y)) ∧ Turn (fun b => b = g) w w' ∧ base ≤ g := by
  refine (Go.Proofs.Tryz.slices_Sort_int g off cap l w h.holdsZ ((h.lt g rfl).2) (by omega)).mono ?_
  rintro e w' ⟨rfl, n, os, rfl⟩
  have hl : (l.mergeSort fun x y => decide (x ≤ y)).length = l.length := List.length_mergeSort _
  obtain ⟨h1, h2, h3⟩ := h.putZ (l.mergeSort fun x y => decide (x ≤ y)) (l.mergeSort fun x y => decide (x ≤ y)) hl [] (by simp) n os
  rw [hl] at h1
  exact ⟨rfl, h1, h2, h3⟩
/-- slices.Compact. -/
theorem compact_own (w : World) (base g off cap : Nat) (l : List Int) (h : Own w base 3 encZ (.slice (some ⟨g, off, none⟩) l.length cap) l) (hm : l.length ≤ 1000000000000) :
    Calls Tryz.prog 178 #[.slice (some ⟨g, off, none⟩) l.length cap] w fun e w' => e = .returned (.slice (some ⟨g, off, none⟩) (Lib.compact l).length cap) ∧ Own w' base 3 encZ (.slice (some ⟨g, off, none⟩) (Lib.compact l).length cap) (Lib.compact l) ∧ Turn (fun b => b = g) w w' ∧ base ≤ g := by
  have hc := h.len_le
  have hle := (compact_sub l).length_le
  refine (Go.Proofs.Tryz.slices_Compact_int g off cap l w h.holdsZ (by omega) hc.2.1).mono ?_
  rintro e w' ⟨rfl, n, rfl⟩
  obtain ⟨h1, h2, h3⟩ := h.putZ (Lib.compact l ++ List.replicate (l.length - (Lib.compact l).length) 0) (Lib.compact l) (by simp; omega) _ rfl n #[]
  rw [Go.Sort.grow_empty] at h1 h2
  exact ⟨rfl, h1, h2, h3⟩
end Go.Proofs.YtmadmlkmdnjmaaaGreat
