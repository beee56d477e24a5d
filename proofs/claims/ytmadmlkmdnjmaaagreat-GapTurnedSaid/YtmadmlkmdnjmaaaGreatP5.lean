/-
  Texts of this proof, one behind the other: GapNil, GapNobodyW, GapRefE, GapRefA, GapRefM, GapTwo, GapSidesW, GapTurn2, CloneD, CloneP, Clone, GapTurnedW, OpenAsk2.
-/
import Derived.Laws.CopyOwn
import Derived.Deep.DeepCutAuto
import Derived.Laws.IdiomArrays
import Derived.Test.YtmadmlkmdnjmaaaGreatP1
import Derived.Test.YtmadmlkmdnjmaaaGreatP2
import Derived.Test.YtmadmlkmdnjmaaaGreatP3
import Derived.Test.YtmadmlkmdnjmaaaGreatP4
/- Chapter 21: nil is held against nothing; the chapter's example. -/
set_option linter.unusedSimpArgs false namespace Go.Proofs.YtmadmlkmdnjmaaaGreat
open Go.ChangeShapes Go.WideShapes Go.ChangeAt Go.RowKit
set_option linter.unusedVariables false
set_option linter.unusedSimpArgs false
set_option maxRecDepth 100000
attribute [local go_sem] Oper.semAt_some

theorem gap_wrong_nil (w : World) (p q : Option Nat) (h : p = none ∨ q = none) :
    Calls Tryz.prog 110 #[.pointer (p.map fun g => ⟨g, 0, none⟩), .pointer (q.map fun g => ⟨g, 0, none⟩)] w fun e w' => e = .returned (.int .i64 1) ∧ Below w.heap.size w w' := by
  cases p with
  | none =>
    clear h
    simp only [Option.map_none]
    go_enter Tryz.func110, Tryz.ntmps110
    go_wp2_with fail
    go_ret
    exact ⟨rfl, (by repeat (first | with_reducible exact Below.refl _ _ | with_reducible assumption | ((with_reducible refine Below.setCell ?_ ?_ _); rotate_left; · (first | omega | exact Nat.le_refl _ | (simp <;> omega))) | (with_reducible refine Below.allocW ?_ _) | (with_reducible refine Below.drew ?_) | (with_reducible refine Below.extW ?_ _)))⟩
  | some g =>
    obtain rfl : q = none := by simpa using h
    clear h
    simp only [Option.map_none, Option.map_some]
    go_enter Tryz.func110, Tryz.ntmps110
    go_wp2_with fail
    go_ret
    exact ⟨rfl, (by repeat (first | with_reducible exact Below.refl _ _ | with_reducible assumption | ((with_reducible refine Below.setCell ?_ ?_ _); rotate_left; · (first | omega | exact Nat.le_refl _ | (simp <;> omega))) | (with_reducible refine Below.allocW ?_ _) | (with_reducible refine Below.drew ?_) | (with_reducible refine Below.extW ?_ _)))⟩
theorem gap_Side_nil (w : World) (p q : Option Nat) (x : Int) (h : p = none ∨ q = none) :
    Calls Tryz.prog 52 #[.pointer (p.map fun g => ⟨g, 0, none⟩), .pointer (q.map fun g => ⟨g, 0, none⟩), .int .i64 x] w fun e w' => e = .returned (.tuple #[.int .i64 0, .int .i64 1]) ∧ Below w.heap.size w w' := by
  have HW := Lib.hid (gap_wrong_nil · p q h)
  clear h
  generalize (p.map fun g => (⟨g, 0, none⟩ : Addr)) = a at HW ⊢
  generalize (q.map fun g => (⟨g, 0, none⟩ : Addr)) = b at HW ⊢
  go_enter Tryz.func52, Tryz.ntmps52
  go_wp2_with fail
  refine (HW.out _).mono ?_
  rintro e w1 ⟨rfl, hb1⟩
  have B1 : Below w.heap.size w w1 := Below.then_ (by repeat (first | with_reducible exact Below.refl _ _ | with_reducible assumption | ((with_reducible refine Below.setCell ?_ ?_ _); rotate_left; · (first | omega | exact Nat.le_refl _ | (simp <;> omega))) | (with_reducible refine Below.allocW ?_ _) | (with_reducible refine Below.drew ?_) | (with_reducible refine Below.extW ?_ _))) hb1
  have s1 : w.heap.size ≤ w1.heap.size := B1.size
  go_wp2_with fail
  go_ret2
  exact ⟨rfl, B1⟩
theorem gap_Apart_nil (w : World) (p q : Option Nat) (h : p = none ∨ q = none) :
    Calls Tryz.prog 53 #[.pointer (p.map fun g => ⟨g, 0, none⟩), .pointer (q.map fun g => ⟨g, 0, none⟩)] w fun e w' => e = .returned (.tuple #[.int .i64 0, .int .i64 0, .int .i64 1]) ∧ Below w.heap.size w w' := by
  have HW := Lib.hid (gap_wrong_nil (((w.alloc (.cells #[.int .i64 0] 3)).alloc (.cells #[.int .i64 0] 3)).alloc (.cells #[.int .i64 0] 40)) p q h)
  clear h
  generalize (p.map fun g => (⟨g, 0, none⟩ : Addr)) = pa at HW ⊢
  generalize (q.map fun g => (⟨g, 0, none⟩ : Addr)) = pb at HW ⊢
  refine (callsIn_wide (n := 3)).1 ?_
  refine callsIn_of_wp_marks Tryz.func53 rfl trivial ?_ rfl
  simp only [Tryz.ntmps53, List.size_toArray, List.length_cons, List.length_nil, Nat.reduceAdd, Nat.reduceSub, Array.replicate_succ, Array.replicate_zero, List.push_toArray, List.append_toArray, List.nil_append, List.cons_append]
  gi_wp2_with fail
  refine ⟨trivial, ?_⟩
  refine (callsIn_wide.2 HW.out).mono ?_
  rintro e w1 ⟨rfl, hb1⟩
  have B1 : Below w.heap.size w w1 := Below.then_ (by repeat (first | with_reducible exact Below.refl _ _ | with_reducible assumption | ((with_reducible refine Below.setCell ?_ ?_ _); rotate_left; · (first | omega | exact Nat.le_refl _ | (simp <;> omega))) | (with_reducible refine Below.allocW ?_ _) | (with_reducible refine Below.drew ?_) | (with_reducible refine Below.extW ?_ _))) hb1
  have R1 := (Res3.new w).below hb1
  have c4 := blk_cell R1.r4
  have c5 := blk_cell R1.r5
  have c6 := blk_cell R1.r6
  have f4 := blk_frozen R1.r4
  have f5 := blk_frozen R1.r5
  have f6 := blk_frozen R1.r6
  have z4 := lt_of_block R1.r4
  have z5 := lt_of_block R1.r5
  have z6 := lt_of_block R1.r6
  have R2 := Lib.hid (R1.put (.int .i64 0) (.int .i64 0) (.int .i64 1))
  have B2 := Lib.hid (Res3.put_below B1 (Nat.le_refl _) (.int .i64 0) (.int .i64 0) (.int .i64 1))
  clear R1 hb1
  gi_wp2_with fail
  generalize ((w1.setCell ⟨w.heap.size, 0, none⟩ (.int .i64 0)).setCell ⟨w.heap.size + 1, 0, none⟩ (.int .i64 0)).setCell ⟨w.heap.size + 1 + 1, 0, none⟩ (.int .i64 1) = W2 at R2 B2 ⊢
  have d4 := blk_cell R2.out.r4 0
  have d5 := blk_cell R2.out.r5 0
  have d6 := blk_cell R2.out.r6 0
  exact ⟨.tuple #[.int .i64 0, .int .i64 0, .int .i64 1], by simp [results, Tryz.f53, go_sem, d4, d5, d6], rfl, B2.out⟩
theorem gap_Most_nil (w : World) (p q : Option Nat) (d : Int) (h : p = none ∨ q = none) :
    Calls Tryz.prog 54 #[.pointer (p.map fun g => ⟨g, 0, none⟩), .pointer (q.map fun g => ⟨g, 0, none⟩), .int .i64 d] w fun e w' => e = .returned (.tuple #[.agg #[.int .i64 0, .int .i64 0], .int .i64 1]) ∧ Below w.heap.size w w' := by
  have HW := Lib.hid (gap_wrong_nil ((w.alloc (.cells #[.int .i64 d] 3)).alloc (.cells #[.int .i64 0, .int .i64 0] 51)) p q h)
  have kd := (heap_new_lt (w.alloc (.cells #[.int .i64 d] 3)) (.cells #[.int .i64 0, .int .i64 0] 51) w.heap.size (by simp)).trans (heap_alloc_new w (.cells #[.int .i64 d] 3))
  have kr : bothAt ((w.alloc (.cells #[.int .i64 d] 3)).alloc (.cells #[.int .i64 0, .int .i64 0] 51)) (w.heap.size + 1) 0 0 := heap_new_at (w.alloc (.cells #[.int .i64 d] 3)) (.cells #[.int .i64 0, .int .i64 0] 51) (w.heap.size + 1) (by simp)
  have KD := Lib.hid kd
  have KR := Lib.hid kr
  clear h kd kr
  generalize (p.map fun g => (⟨g, 0, none⟩ : Addr)) = pa at HW ⊢
  generalize (q.map fun g => (⟨g, 0, none⟩ : Addr)) = pb at HW ⊢
  refine (callsIn_wide (n := 3)).1 ?_
  refine callsIn_of_wp_marks Tryz.func54 rfl trivial ?_ rfl
  simp only [Tryz.ntmps54, List.size_toArray, List.length_cons, List.length_nil, Nat.reduceAdd, Nat.reduceSub, Array.replicate_succ, Array.replicate_zero, List.push_toArray, List.append_toArray, List.nil_append, List.cons_append]
  gi_wp2_with fail
  refine ⟨trivial, ?_⟩
  refine (callsIn_wide.2 HW.out).mono ?_
  rintro e w1 ⟨rfl, hb1⟩
  have B1 : Below w.heap.size w w1 := Below.then_ (by repeat (first | with_reducible exact Below.refl _ _ | with_reducible assumption | ((with_reducible refine Below.setCell ?_ ?_ _); rotate_left; · (first | omega | exact Nat.le_refl _ | (simp <;> omega))) | (with_reducible refine Below.allocW ?_ _) | (with_reducible refine Below.drew ?_) | (with_reducible refine Below.extW ?_ _))) hb1
  have kd1 := blk_below KD.out hb1
  have kr1 := KR.out.below hb1
  have c0 := blk_cell kd1
  have z0 := lt_of_block kd1
  have c1 := blk_cell kr1
  have z1 := lt_of_block kr1
  have e1 := blk_frozen kr1
  have R2 := Lib.hid ((kr1.set0 0).set1 0)
  have B2 := Lib.hid ((B1.setCell (p := ⟨w.heap.size + 1, 0, none⟩) (by simp) (.int .i64 0)).setCell (p := ⟨w.heap.size + 1, 1, none⟩) (by simp) (.int .i64 0))
  clear hb1 kd1 kr1
  gi_wp2_with fail
  generalize (w1.setCell ⟨w.heap.size + 1, 0, none⟩ (.int .i64 0)).setCell ⟨w.heap.size + 1, 1, none⟩ (.int .i64 0) = W2 at R2 B2 ⊢
  have d0 := blk_cell R2.out 0
  have d1 := blk_cell R2.out 1
  exact ⟨.tuple #[.agg #[.int .i64 0, .int .i64 0], .int .i64 1], by (simp only [results, Tryz.f54]; go_simp), rfl, B2.out⟩

/-- The chapter's digests. -/
def nodesA : List Nd := [(2, 1), (3, 1)]
def nodesB : List Nd := [(3, 5)]
theorem nodesA_ints : ints nodesA := by
  intro x hx
  simp only [nodesA, List.mem_cons, List.not_mem_nil, or_false] at hx
  rcases hx with rfl | rfl <;> (unfold i64; simp)
theorem nodesB_ints : ints nodesB := by
  intro x hx
  simp only [nodesB, List.mem_cons, List.not_mem_nil, or_false] at hx
  subst hx; unfold i64; simp
theorem loadA : loadErr 1 4 2 nodesA = 0 := by decide +kernel
theorem loadB : loadErr 1 4 1 nodesB = 0 := by decide +kernel
theorem side21 : sideT ((1 : Nat) : Int) ((1 : Nat) : Int) nodesA nodesB 0 = 1 := by decide +kernel
theorem err21 : gapErr ((1 : Nat) : Int) ((1 : Nat) : Int) nodesA nodesB = 0 := by decide +kernel
theorem ap21 : apT ((1 : Nat) : Int) ((1 : Nat) : Int) nodesA nodesB = (0, 1) := by decide +kernel
theorem merr21 : gapMostErr ((1 : Nat) : Int) ((1 : Nat) : Int) nodesA nodesB 100 = 0 := by decide +kernel
theorem most21 : gapMostT ((1 : Nat) : Int) ((1 : Nat) : Int) nodesA nodesB 100 = (50, 50) := by decide +kernel
end Go.Proofs.YtmadmlkmdnjmaaaGreat
/- Chapter 21: the example, and the law GapNobody. -/
namespace Go.Proofs.YtmadmlkmdnjmaaaGreat
open Go.ChangeShapes Go.WideShapes Go.ChangeAt Go.RowKit
set_option linter.unusedVariables false
set_option linter.unusedSimpArgs false
set_option maxRecDepth 100000

set_option maxHeartbeats 2000000 in
theorem alive21 (w : World) : Calls Tryz.prog 51 #[] w fun e w' => e = .returned (.bool true) ∧ Below w.heap.size w w' := by
  have HS := Lib.hid (sl_lit w encN nodesA 116 _ rfl)
  have HC := Lib.hid (digest_Load · 1 2 4 (some ⟨w.heap.size, 0, none⟩) 2 nodesA loadA · nodesA_ints (by decide))
  go_enter Tryz.func51, Tryz.ntmps51
  go_wp2_with fail
  refine (HC.out _ (HS.out.keep (by simp) fun p hp => rfl)).mono ?_
  rintro e w1 ⟨g1, F1, rfl, hD1, _, hb1⟩
  have B1 : Below w.heap.size w w1 := Below.then_ (by repeat (first | with_reducible exact Below.refl _ _ | with_reducible assumption | ((with_reducible refine Below.setCell ?_ ?_ _); rotate_left; · (first | omega | exact Nat.le_refl _ | (simp <;> omega))) | (with_reducible refine Below.allocW ?_ _) | (with_reducible refine Below.drew ?_) | (with_reducible refine Below.extW ?_ _))) hb1
  have s1 : w.heap.size ≤ w1.heap.size := B1.size
  have KD1 := Lib.hid (hD1.alloc (.cells #[.int .i64 3, .int .i64 5] 116))
  have HS2 := Lib.hid (sl_lit w1 encN nodesB 116 _ rfl)
  have HC2 := Lib.hid (digest_Load · 1 1 4 (some ⟨w1.heap.size, 0, none⟩) 1 nodesB loadB · nodesB_ints (by decide))
  clear hD1
  go_wp2_with fail
  refine (HC2.out _ (HS2.out.keep (by simp) fun p hp => rfl)).mono ?_
  rintro e w2 ⟨g2, F2, rfl, hD2, _, hb2⟩
  have B2 : Below w.heap.size w w2 := Below.then_ (by repeat (first | with_reducible exact Below.refl _ _ | with_reducible assumption | ((with_reducible refine Below.setCell ?_ ?_ _); rotate_left; · (first | omega | exact Nat.le_refl _ | (simp <;> omega))) | (with_reducible refine Below.allocW ?_ _) | (with_reducible refine Below.drew ?_) | (with_reducible refine Below.extW ?_ _))) hb2
  have s2 : w.heap.size ≤ w2.heap.size := B2.size
  have J1 := Lib.hid (KD1.out.below hb2)
  have J2 := Lib.hid hD2
  clear hD2
  go_wp2_with fail
  refine (gap_Side _ g1 2 1 g2 1 1 4 4 nodesA nodesB F1 F2 0 J1.out J2.out (by decide) (by decide)).mono ?_
  rintro e w3 ⟨rfl, hb3⟩
  have B3 : Below w.heap.size w w3 := Below.then_ (by repeat (first | with_reducible exact Below.refl _ _ | with_reducible assumption | ((with_reducible refine Below.setCell ?_ ?_ _); rotate_left; · (first | omega | exact Nat.le_refl _ | (simp <;> omega))) | (with_reducible refine Below.allocW ?_ _) | (with_reducible refine Below.drew ?_) | (with_reducible refine Below.extW ?_ _))) hb3
  have s3 : w.heap.size ≤ w3.heap.size := B3.size
  rw [side21, err21]
  have M1 := Lib.hid (J1.out.below hb3)
  have M2 := Lib.hid (J2.out.below hb3)
  go_wp2_with fail
  refine (gap_Apart _ g1 2 1 g2 1 1 4 4 nodesA nodesB F1 F2 M1.out M2.out (by decide) (by decide)).mono ?_
  rintro e w4 ⟨rfl, hb4⟩
  have B4 : Below w.heap.size w w4 := Below.then_ (by repeat (first | with_reducible exact Below.refl _ _ | with_reducible assumption | ((with_reducible refine Below.setCell ?_ ?_ _); rotate_left; · (first | omega | exact Nat.le_refl _ | (simp <;> omega))) | (with_reducible refine Below.allocW ?_ _) | (with_reducible refine Below.drew ?_) | (with_reducible refine Below.extW ?_ _))) hb4
  have s4 : w.heap.size ≤ w4.heap.size := B4.size
  rw [ap21, err21]
  have N1 := Lib.hid (M1.out.below hb4)
  have N2 := Lib.hid (M2.out.below hb4)
  go_wp2_with fail
  refine (gap_Most _ g1 2 1 g2 1 1 4 4 nodesA nodesB F1 F2 100 N1.out N2.out (by decide) (by decide) (by decide)).mono ?_
  rintro e w5 ⟨rfl, hb5⟩
  have B5 : Below w.heap.size w w5 := Below.then_ (by repeat (first | with_reducible exact Below.refl _ _ | with_reducible assumption | ((with_reducible refine Below.setCell ?_ ?_ _); rotate_left; · (first | omega | exact Nat.le_refl _ | (simp <;> omega))) | (with_reducible refine Below.allocW ?_ _) | (with_reducible refine Below.drew ?_) | (with_reducible refine Below.extW ?_ _))) hb5
  have s5 : w.heap.size ≤ w5.heap.size := B5.size
  rw [most21, merr21]
  go_wp2_with fail
  go_ret
  exact ⟨rfl, (by repeat (first | with_reducible exact Below.refl _ _ | with_reducible assumption | ((with_reducible refine Below.setCell ?_ ?_ _); rotate_left; · (first | omega | exact Nat.le_refl _ | (simp <;> omega))) | (with_reducible refine Below.allocW ?_ _) | (with_reducible refine Below.drew ?_) | (with_reducible refine Below.extW ?_ _)))⟩
end Go.Proofs.YtmadmlkmdnjmaaaGreat
/- The reference of layer 21 (gap): Side, ends. -/
namespace Go.Proofs.YtmadmlkmdnjmaaaGreat
open Go.ChangeShapes Go.WideShapes Go.ChangeAt Go.RowKit
set_option linter.unusedVariables false
set_option linter.unusedSimpArgs false
set_option maxRecDepth 100000

/-- The records' boxes, laid. -/
abbrev twoBox (w : World) (k1 u1 : Int) (A1 : Option Addr) (n1 cap1 : Nat) (k2 u2 : Int) (A2 : Option Addr) (n2 cap2 : Nat) : World := (w.alloc (.cells #[.int .i64 k1, .int .i64 u1, .slice A1 n1 cap1] 57)).alloc (.cells #[.int .i64 k2, .int .i64 u2, .slice A2 n2 cap2] 57)
theorem twoBox_below (w : World) (k1 u1 : Int) (A1 : Option Addr) (n1 cap1 : Nat) (k2 u2 : Int) (A2 : Option Addr) (n2 cap2 : Nat) : Below w.heap.size w (twoBox w k1 u1 A1 n1 cap1 k2 u2 A2 n2 cap2) := (by repeat (first | with_reducible exact Below.refl _ _ | with_reducible assumption | ((with_reducible refine Below.setCell ?_ ?_ _); rotate_left; · (first | omega | exact Nat.le_refl _ | (simp <;> omega))) | (with_reducible refine Below.allocW ?_ _) | (with_reducible refine Below.drew ?_) | (with_reducible refine Below.extW ?_ _)))
theorem twoBox_1 (w : World) (k1 u1 : Int) (A1 : Option Addr) (n1 cap1 : Nat) (k2 u2 : Int) (A2 : Option Addr) (n2 cap2 : Nat) : digBox (twoBox w k1 u1 A1 n1 cap1 k2 u2 A2 n2 cap2) w.heap.size k1 u1 A1 n1 cap1 := (heap_new_lt _ _ _ (by simp)).trans (heap_alloc_new w _)
theorem twoBox_2 (w : World) (k1 u1 : Int) (A1 : Option Addr) (n1 cap1 : Nat) (k2 u2 : Int) (A2 : Option Addr) (n2 cap2 : Nat) : digBox (twoBox w k1 u1 A1 n1 cap1 k2 u2 A2 n2 cap2) (w.heap.size + 1) k2 u2 A2 n2 cap2 := heap_new_at (w.alloc _) _ (w.heap.size + 1) (by simp)
theorem twoBox_size (w : World) (k1 u1 : Int) (A1 : Option Addr) (n1 cap1 : Nat) (k2 u2 : Int) (A2 : Option Addr) (n2 cap2 : Nat) : (twoBox w k1 u1 A1 n1 cap1 k2 u2 A2 n2 cap2).heap.size = w.heap.size + 2 := by simp
end Go.Proofs.YtmadmlkmdnjmaaaGreat
/- The reference of layer 21 (gap): Apart. -/
namespace Go.Proofs.YtmadmlkmdnjmaaaGreat
open Go.ChangeShapes Go.WideShapes Go.ChangeAt Go.RowKit
set_option linter.unusedVariables false
set_option linter.unusedSimpArgs false
set_option maxRecDepth 100000

theorem own_at {w : World} {base : Nat} {A : Option Addr} {n cap : Nat} {l : List Int} (h : Own w base 3 encZ (.slice A n cap) l) {k : Nat} (hk : k < l.length) : ∃ b off, A = some ⟨b, off, none⟩ ∧ b < w.heap.size ∧ w.cell? ⟨b, off + k, none⟩ = some (.int .i64 l[k]) := by
  obtain ⟨b, off, hA, hb, hc⟩ := h.sl.at_ hk
  refine ⟨b, off, hA, hb, ?_⟩
  have := hc 0 (.int .i64 l[k]) rfl
  simpa using this
end Go.Proofs.YtmadmlkmdnjmaaaGreat
/- The reference of layer 21 (gap): Most. -/
namespace Go.Proofs.YtmadmlkmdnjmaaaGreat
open Go.ChangeShapes Go.WideShapes Go.ChangeAt Go.RowKit
set_option linter.unusedVariables false
set_option linter.unusedSimpArgs false
set_option maxRecDepth 100000

/-- The boxes of two records, and of a result. -/
structure Box3 (w W : World) (k1 u1 : Int) (A1 : Option Addr) (n1 cap1 : Nat) (k2 u2 : Int) (A2 : Option Addr) (n2 cap2 : Nat) : Prop where
  a : digBox W w.heap.size k1 u1 A1 n1 cap1
  b : digBox W (w.heap.size + 1) k2 u2 A2 n2 cap2
  r : bothAt W (w.heap.size + 1 + 1) 0 0
  blw : Below w.heap.size w W
theorem Box3.new (w : World) (k1 u1 : Int) (A1 : Option Addr) (n1 cap1 : Nat) (k2 u2 : Int) (A2 : Option Addr) (n2 cap2 : Nat) : Box3 w ((twoBox w k1 u1 A1 n1 cap1 k2 u2 A2 n2 cap2).alloc (.cells #[.int .i64 0, .int .i64 0] 51)) k1 u1 A1 n1 cap1 k2 u2 A2 n2 cap2 :=
  ⟨(twoBox_1 w k1 u1 A1 n1 cap1 k2 u2 A2 n2 cap2).below ((Below.refl _ _).alloc (Nat.le_refl _) _), (twoBox_2 w k1 u1 A1 n1 cap1 k2 u2 A2 n2 cap2).below ((Below.refl _ _).alloc (Nat.le_refl _) _), heap_new_at (twoBox w k1 u1 A1 n1 cap1 k2 u2 A2 n2 cap2) _ _ (by simp), (twoBox_below w k1 u1 A1 n1 cap1 k2 u2 A2 n2 cap2).alloc (twoBox_below w k1 u1 A1 n1 cap1 k2 u2 A2 n2 cap2).size _⟩
theorem Box3.below {w W W' : World} {k1 u1 : Int} {A1 : Option Addr} {n1 cap1 : Nat} {k2 u2 : Int} {A2 : Option Addr} {n2 cap2 : Nat} (h : Box3 w W k1 u1 A1 n1 cap1 k2 u2 A2 n2 cap2) (hb : Below W.heap.size W W') : Box3 w W' k1 u1 A1 n1 cap1 k2 u2 A2 n2 cap2 :=
  ⟨h.a.below hb, h.b.below hb, h.r.below hb, h.blw.trans (hb.mono h.blw.size)⟩
theorem gt_or (a b : Int) : (a < b ∧ max a b = b) ∨ (decide (a < b) = false ∧ max a b = a) := by
  by_cases h : a < b
  · exact .inl ⟨h, by omega⟩
  · exact .inr ⟨by simpa using h, by omega⟩
end Go.Proofs.YtmadmlkmdnjmaaaGreat
/- Chapter 21: two digests that come in. -/
namespace Go.Proofs.YtmadmlkmdnjmaaaGreat
open Go.ChangeShapes Go.WideShapes Go.ChangeAt Go.RowKit
set_option linter.unusedVariables false
set_option linter.unusedSimpArgs false
set_option maxRecDepth 100000

theorem digBox.put {w : World} {b : Nat} {k u : Int} {A : Option Addr} {n cap : Nat} (h : digBox w b k u A n cap) (k' u' : Int) (A' : Option Addr) (n' cap' : Nat) : digBox (((w.setCell ⟨b, 0, none⟩ (.int .i64 k')).setCell ⟨b, 1, none⟩ (.int .i64 u')).setCell ⟨b, 2, none⟩ (.slice A' n' cap')) b k' u' A' n' cap' :=
  heap_set_at (i := 2) (heap_set_at (i := 1) (heap_set_at (i := 0) h _) _) _
/-- What stands when two begins: the two that came in, and the two that it tells. -/
structure TwoW (w W : World) (v1 v2 : Array Value) (k1 u1 : Int) (A1 : Option Addr) (n1 c1 : Nat) (k2 u2 : Int) (A2 : Option Addr) (n2 c2 : Nat) : Prop where
  x : W.heap[w.heap.size]? = some (.cells v1 48 (0, 0))
  y : W.heap[w.heap.size + 1]? = some (.cells v2 48 (0, 0))
  v : digBox W (w.heap.size + 1 + 1) k1 u1 A1 n1 c1
  u : digBox W (w.heap.size + 1 + 1 + 1) k2 u2 A2 n2 c2
  blw : Below w.heap.size w W
section
variable {w W W' : World} {v1 v2 : Array Value} {k1 u1 : Int} {A1 : Option Addr} {n1 c1 : Nat} {k2 u2 : Int} {A2 : Option Addr} {n2 c2 : Nat}
theorem TwoW.below (h : TwoW w W v1 v2 k1 u1 A1 n1 c1 k2 u2 A2 n2 c2) (hb : Below W.heap.size W W') : TwoW w W' v1 v2 k1 u1 A1 n1 c1 k2 u2 A2 n2 c2 := ⟨blk_below h.x hb, blk_below h.y hb, h.v.below hb, h.u.below hb, h.blw.trans (hb.mono h.blw.size)⟩
theorem TwoW.new (w : World) (v1 v2 : Array Value) : TwoW w ((((w.alloc (.cells v1 48)).alloc (.cells v2 48)).alloc (.cells #[.int .i64 0, .int .i64 0, .slice none 0 0] 57)).alloc (.cells #[.int .i64 0, .int .i64 0, .slice none 0 0] 57)) v1 v2 0 0 none 0 0 0 0 none 0 0 :=
  ⟨(heap_new_lt _ _ _ (by simp; omega)).trans ((heap_new_lt _ _ _ (by simp; omega)).trans ((heap_new_lt _ _ _ (by simp)).trans (heap_alloc_new w _))), (heap_new_lt _ _ _ (by simp)).trans ((heap_new_lt _ _ _ (by simp)).trans (heap_new_at (w.alloc _) _ _ (by simp))), (heap_new_lt _ _ _ (by simp)).trans (heap_new_at ((w.alloc _).alloc _) _ _ (by simp)), heap_new_at (((w.alloc _).alloc _).alloc _) _ _ (by simp), (by repeat (first | with_reducible exact Below.refl _ _ | with_reducible assumption | ((with_reducible refine Below.setCell ?_ ?_ _); rotate_left; · (first | omega | exact Nat.le_refl _ | (simp <;> omega))) | (with_reducible refine Below.allocW ?_ _) | (with_reducible refine Below.drew ?_) | (with_reducible refine Below.extW ?_ _)))⟩
theorem TwoW.putv (h : TwoW w W v1 v2 k1 u1 A1 n1 c1 k2 u2 A2 n2 c2) (k u : Int) (A : Option Addr) (n c : Nat) : TwoW w (((W.setCell ⟨w.heap.size + 1 + 1, 0, none⟩ (.int .i64 k)).setCell ⟨w.heap.size + 1 + 1, 1, none⟩ (.int .i64 u)).setCell ⟨w.heap.size + 1 + 1, 2, none⟩ (.slice A n c)) v1 v2 k u A n c k2 u2 A2 n2 c2 :=
  have e : ∀ b, b ≠ w.heap.size + 1 + 1 → (((W.setCell ⟨w.heap.size + 1 + 1, 0, none⟩ (.int .i64 k)).setCell ⟨w.heap.size + 1 + 1, 1, none⟩ (.int .i64 u)).setCell ⟨w.heap.size + 1 + 1, 2, none⟩ (.slice A n c)).heap[b]? = W.heap[b]? := fun b hb => (Below.heap_setCell _ _ _ _ hb).trans ((Below.heap_setCell _ _ _ _ hb).trans (Below.heap_setCell _ _ _ _ hb))
  ⟨(e _ (by omega)).trans h.x, (e _ (by omega)).trans h.y, h.v.put k u A n c, (e _ (by omega)).trans h.u, ((h.blw.setCell (p := ⟨w.heap.size + 1 + 1, 0, none⟩) (by simp only; omega) _).setCell (p := ⟨w.heap.size + 1 + 1, 1, none⟩) (by simp only; omega) _).setCell (p := ⟨w.heap.size + 1 + 1, 2, none⟩) (by simp only; omega) _⟩
theorem TwoW.putu (h : TwoW w W v1 v2 k1 u1 A1 n1 c1 k2 u2 A2 n2 c2) (k u : Int) (A : Option Addr) (n c : Nat) : TwoW w (((W.setCell ⟨w.heap.size + 1 + 1 + 1, 0, none⟩ (.int .i64 k)).setCell ⟨w.heap.size + 1 + 1 + 1, 1, none⟩ (.int .i64 u)).setCell ⟨w.heap.size + 1 + 1 + 1, 2, none⟩ (.slice A n c)) v1 v2 k1 u1 A1 n1 c1 k u A n c :=
  have e : ∀ b, b ≠ w.heap.size + 1 + 1 + 1 → (((W.setCell ⟨w.heap.size + 1 + 1 + 1, 0, none⟩ (.int .i64 k)).setCell ⟨w.heap.size + 1 + 1 + 1, 1, none⟩ (.int .i64 u)).setCell ⟨w.heap.size + 1 + 1 + 1, 2, none⟩ (.slice A n c)).heap[b]? = W.heap[b]? := fun b hb => (Below.heap_setCell _ _ _ _ hb).trans ((Below.heap_setCell _ _ _ _ hb).trans (Below.heap_setCell _ _ _ _ hb))
  ⟨(e _ (by omega)).trans h.x, (e _ (by omega)).trans h.y, (e _ (by omega)).trans h.v, h.u.put k u A n c, ((h.blw.setCell (p := ⟨w.heap.size + 1 + 1 + 1, 0, none⟩) (by simp only; omega) _).setCell (p := ⟨w.heap.size + 1 + 1 + 1, 1, none⟩) (by simp only; omega) _).setCell (p := ⟨w.heap.size + 1 + 1 + 1, 2, none⟩) (by simp only; omega) _⟩
theorem TwoW.drew (h : TwoW w W v1 v2 k1 u1 A1 n1 c1 k2 u2 A2 n2 c2) : TwoW w W.drew v1 v2 k1 u1 A1 n1 c1 k2 u2 A2 n2 c2 := ⟨h.x, h.y, h.v, h.u, h.blw.drew⟩
end
theorem DigAt.set3 {W : World} {g K l : Nat} {k : Int} {r : List Nd} {F : Nat → Prop} (h : DigAt W g K l k r F) {b : Nat} {u0 u1 u2 : Value} (hne : ∀ c, F c → c ≠ b) : DigAt (((W.setCell ⟨b, 0, none⟩ u0).setCell ⟨b, 1, none⟩ u1).setCell ⟨b, 2, none⟩ u2) g K l k r F :=
  h.keep fun c hc => (Below.heap_setCell _ _ _ _ (hne c hc)).trans ((Below.heap_setCell _ _ _ _ (hne c hc)).trans (Below.heap_setCell _ _ _ _ (hne c hc)))
/-- Both came in, and are few. -/
def twoGood (l1 k1 K1 : Int) (r1 : List Nd) (l2 k2 K2 : Int) (r2 : List Nd) : Prop := (goodL l1 k1 K1 r1 ∧ goodL l2 k2 K2 r2) ∧ r1.length ≤ 60 ∧ r2.length ≤ 60
/-- What two hands back if one isn't there. -/
def TwoNo (w : World) (e : Ending) (w' : World) : Prop := ∃ a b x0 x1 X n m y0 y1 Y n' m', e = .returned (.tuple #[a, b, .agg #[.int .i64 x0, .int .i64 x1, .slice X n m], .agg #[.int .i64 y0, .int .i64 y1, .slice Y n' m'], .bool false]) ∧ Below w.heap.size w w'
set_option maxHeartbeats 4000000 in
theorem law21_two_no (w : World) (l1 k1 K1 l2 k2 K2 : Int) (A1 A2 : Option Addr) (cap1 cap2 : Nat) (r1 r2 : List Nd) (h : ¬ twoGood l1 k1 K1 r1 l2 k2 K2 r2) (hS1 : Sl w w.heap.size encN A1 r1) (hS2 : Sl w w.heap.size encN A2 r2) (hI1 : ints r1) (hI2 : ints r2) (hm1 : r1.length ≤ maxLen) (hm2 : r2.length ≤ maxLen) :
    Calls Tryz.prog 50 #[loadedV l1 k1 K1 A1 r1.length cap1, loadedV l2 k2 K2 A2 r2.length cap2] w (TwoNo w) := by
  have T0 := Lib.hid (TwoW.new w #[.int .i64 l1, .int .i64 k1, .int .i64 K1, .slice A1 r1.length cap1] #[.int .i64 l2, .int .i64 k2, .int .i64 K2, .slice A2 r2.length cap2])
  unfold loadedV
  by_cases hlong : 60 < r1.length ∨ 60 < r2.length
  · rcases (show (60 : Int) < (r1.length : Int) ∨ (decide ((60 : Int) < (r1.length : Int)) = false ∧ (60 : Int) < (r2.length : Int)) by by_cases hh : 60 < r1.length; exact .inl (by omega); exact .inr ⟨by simp; omega, by omega⟩) with g1 | ⟨g1, g2⟩
    all_goals (
      clear h hlong hS1 hS2 hI1 hI2
      go_enter Tryz.func50, Tryz.ntmps50
      go_upto_region 1 with fail
      generalize (((w.alloc (.cells #[.int .i64 l1, .int .i64 k1, .int .i64 K1, .slice A1 r1.length cap1] 48)).alloc (.cells #[.int .i64 l2, .int .i64 k2, .int .i64 K2, .slice A2 r2.length cap2] 48)).alloc (.cells #[.int .i64 0, .int .i64 0, .slice none 0 0] 57)).alloc (.cells #[.int .i64 0, .int .i64 0, .slice none 0 0] 57) = W0 at T0 ⊢
      have cx := blk_cell T0.out.x
      have cy := blk_cell T0.out.y
      have zx := lt_of_block T0.out.x
      have zy := lt_of_block T0.out.y
      have cv := blk_cell T0.out.v
      have cu := blk_cell T0.out.u
      have fv := blk_frozen T0.out.v
      have fu := blk_frozen T0.out.u
      have zv := lt_of_block T0.out.v
      have zu := lt_of_block T0.out.u
      have BT := T0.out.blw
      go_wp2_with fail
      go_region
      go_wp2_with fail
      exact bodyPost_ret (v := .tuple #[.pointer none, .pointer none, .agg #[.int .i64 0, .int .i64 0, .slice none 0 0], .agg #[.int .i64 0, .int .i64 0, .slice none 0 0], .bool false]) (by simp only [results, Tryz.results50]; go_simp) rfl ⟨_, _, _, _, _, _, _, _, _, _, _, _, rfl, (by repeat (first | with_reducible exact Below.refl _ _ | with_reducible assumption | ((with_reducible refine Below.setCell ?_ ?_ _); rotate_left; · (first | omega | exact Nat.le_refl _ | (simp <;> omega))) | (with_reducible refine Below.allocW ?_ _) | (with_reducible refine Below.drew ?_) | (with_reducible refine Below.extW ?_ _)))⟩)
  · have n1 : r1.length ≤ 60 := by omega
    have n2 : r2.length ≤ 60 := by omega
    have i1 : decide ((60 : Int) < (r1.length : Int)) = false := by simp; omega
    have i2 : decide ((60 : Int) < (r2.length : Int)) = false := by simp; omega
    have HS := Lib.hid (And.intro hS1 hS2)
    by_cases hg1 : goodL l1 k1 K1 r1
    · have hg2 : ¬ goodL l2 k2 K2 r2 := fun hg2 => h ⟨⟨hg1, hg2⟩, n1, n2⟩
      obtain ⟨l1, K1, rfl, rfl⟩ := goodL_nat hg1.2.2
      have HL1 := Lib.hid (law16_Load · l1 K1 k1 A1 cap1 r1 hg1 · hI1)
      have HL2 := Lib.hid (law16_Load_no · l2 k2 K2 A2 cap2 r2 hg2 · hI2 hm2)
      unfold loadedV refDig LPost at HL1
      unfold loadedV refDig at HL2
      clear hS1 hS2 hI1 hI2 hg1 hg2
      clear hlong h
      go_enter Tryz.func50, Tryz.ntmps50
      go_upto_region 1 with fail
      generalize (((w.alloc (.cells #[.int .i64 l1, .int .i64 k1, .int .i64 K1, .slice A1 r1.length cap1] 48)).alloc (.cells #[.int .i64 l2, .int .i64 k2, .int .i64 K2, .slice A2 r2.length cap2] 48)).alloc (.cells #[.int .i64 0, .int .i64 0, .slice none 0 0] 57)).alloc (.cells #[.int .i64 0, .int .i64 0, .slice none 0 0] 57) = W0 at T0 ⊢
      have cx := blk_cell T0.out.x
      have zx := lt_of_block T0.out.x
      have cy := blk_cell T0.out.y
      have zy := lt_of_block T0.out.y
      have cv := blk_cell T0.out.v
      have zv := lt_of_block T0.out.v
      have fv := blk_frozen T0.out.v
      have cu := blk_cell T0.out.u
      have zu := lt_of_block T0.out.u
      have fu := blk_frozen T0.out.u
      have BT := T0.out.blw
      have S1 := HS.out.1.keep (B' := W0.heap.size) BT.size fun p hp => BT.cell hp
      go_wp2_with fail
      refine (HL1.out _ S1).mono ?_
      rintro e w1 ⟨g1, F1, rfl, hD1, hF1, hb1⟩
      have D1 := Lib.hid hD1
      have P1 := Lib.hid (fun b (hb : F1 b) => show w.heap.size + 1 + 1 + 1 < b by have := hF1 b hb; omega)
      have T1 := Lib.hid (T0.out.below hb1)
      clear hb1 S1 hD1 hF1
      clear cx zx cy zy cv zv fv cu zu fu BT
      have cx := blk_cell T1.out.x
      have zx := lt_of_block T1.out.x
      have cy := blk_cell T1.out.y
      have zy := lt_of_block T1.out.y
      have cv := blk_cell T1.out.v
      have zv := lt_of_block T1.out.v
      have fv := blk_frozen T1.out.v
      have cu := blk_cell T1.out.u
      have zu := lt_of_block T1.out.u
      have fu := blk_frozen T1.out.u
      have BT := T1.out.blw
      have T2 := Lib.hid (T1.out.putv k1 l1 A1 r1.length cap1)
      have E1 := Lib.hid (D1.out.set3 (b := w.heap.size + 1 + 1) (u0 := .int .i64 k1) (u1 := .int .i64 l1) (u2 := .slice A1 r1.length cap1) (fun b hb => by have := P1.out b hb; omega))
      go_upto_region 4 with fail
      generalize ((w1.setCell ⟨w.heap.size + 1 + 1, 0, none⟩ (.int .i64 k1)).setCell ⟨w.heap.size + 1 + 1, 1, none⟩ (.int .i64 l1)).setCell ⟨w.heap.size + 1 + 1, 2, none⟩ (.slice A1 r1.length cap1) = W2 at T2 E1 ⊢
      clear cx zx cy zy cv zv fv cu zu fu BT
      have cx := blk_cell T2.out.x
      have zx := lt_of_block T2.out.x
      have cy := blk_cell T2.out.y
      have zy := lt_of_block T2.out.y
      have cv := blk_cell T2.out.v
      have zv := lt_of_block T2.out.v
      have fv := blk_frozen T2.out.v
      have cu := blk_cell T2.out.u
      have zu := lt_of_block T2.out.u
      have fu := blk_frozen T2.out.u
      have BT := T2.out.blw
      have S2 := HS.out.2.keep (B' := W2.heap.size) BT.size fun p hp => BT.cell hp
      go_wp2_with fail
      refine (HL2.out _ S2).mono ?_
      rintro e w3 ⟨rfl, hb3⟩
      have T3 := Lib.hid (T2.out.below hb3)
      have G1 := Lib.hid (E1.out.below hb3)
      clear hb3 S2
      clear cx zx cy zy cv zv fv cu zu fu BT
      have cx := blk_cell T3.out.x
      have zx := lt_of_block T3.out.x
      have cy := blk_cell T3.out.y
      have zy := lt_of_block T3.out.y
      have cv := blk_cell T3.out.v
      have zv := lt_of_block T3.out.v
      have fv := blk_frozen T3.out.v
      have cu := blk_cell T3.out.u
      have zu := lt_of_block T3.out.u
      have fu := blk_frozen T3.out.u
      have BT := T3.out.blw
      have T4 := Lib.hid (T3.out.putu 0 0 none 0 0)
      have I1 := Lib.hid (G1.out.set3 (b := w.heap.size + 1 + 1 + 1) (u0 := .int .i64 0) (u1 := .int .i64 0) (u2 := .slice none 0 0) (fun b hb => by have := P1.out b hb; omega))
      go_upto_region 5 with fail
      generalize ((w3.setCell ⟨w.heap.size + 1 + 1 + 1, 0, none⟩ (.int .i64 0)).setCell ⟨w.heap.size + 1 + 1 + 1, 1, none⟩ (.int .i64 0)).setCell ⟨w.heap.size + 1 + 1 + 1, 2, none⟩ (.slice none 0 0) = W4 at T4 I1 ⊢
      clear cx zx cy zy cv zv fv cu zu fu BT
      have cx := blk_cell T4.out.x
      have zx := lt_of_block T4.out.x
      have cy := blk_cell T4.out.y
      have zy := lt_of_block T4.out.y
      have cv := blk_cell T4.out.v
      have zv := lt_of_block T4.out.v
      have fv := blk_frozen T4.out.v
      have cu := blk_cell T4.out.u
      have zu := lt_of_block T4.out.u
      have fu := blk_frozen T4.out.u
      have BT := T4.out.blw
      go_region
      go_wp2_with fail
      exact bodyPost_ret (v := .tuple #[.pointer (some ⟨g1, 0, none⟩), .pointer none, .agg #[.int .i64 k1, .int .i64 l1, .slice A1 r1.length cap1], .agg #[.int .i64 0, .int .i64 0, .slice none 0 0], .bool false]) (by simp only [results, Tryz.results50]; go_simp) rfl ⟨_, _, _, _, _, _, _, _, _, _, _, _, rfl, (by repeat (first | with_reducible exact Below.refl _ _ | with_reducible assumption | ((with_reducible refine Below.setCell ?_ ?_ _); rotate_left; · (first | omega | exact Nat.le_refl _ | (simp <;> omega))) | (with_reducible refine Below.allocW ?_ _) | (with_reducible refine Below.drew ?_) | (with_reducible refine Below.extW ?_ _)))⟩
    · have HL1 := Lib.hid (law16_Load_no · l1 k1 K1 A1 cap1 r1 hg1 · hI1 hm1)
      unfold loadedV refDig at HL1
      by_cases hg2 : goodL l2 k2 K2 r2
      · obtain ⟨l2, K2, rfl, rfl⟩ := goodL_nat hg2.2.2
        have HL2 := Lib.hid (law16_Load · l2 K2 k2 A2 cap2 r2 hg2 · hI2)
        unfold loadedV refDig LPost at HL2
        clear hS1 hS2 hI1 hI2 hg1 hg2
        clear hlong h
        go_enter Tryz.func50, Tryz.ntmps50
        go_upto_region 1 with fail
        generalize (((w.alloc (.cells #[.int .i64 l1, .int .i64 k1, .int .i64 K1, .slice A1 r1.length cap1] 48)).alloc (.cells #[.int .i64 l2, .int .i64 k2, .int .i64 K2, .slice A2 r2.length cap2] 48)).alloc (.cells #[.int .i64 0, .int .i64 0, .slice none 0 0] 57)).alloc (.cells #[.int .i64 0, .int .i64 0, .slice none 0 0] 57) = W0 at T0 ⊢
        have cx := blk_cell T0.out.x
        have zx := lt_of_block T0.out.x
        have cy := blk_cell T0.out.y
        have zy := lt_of_block T0.out.y
        have cv := blk_cell T0.out.v
        have zv := lt_of_block T0.out.v
        have fv := blk_frozen T0.out.v
        have cu := blk_cell T0.out.u
        have zu := lt_of_block T0.out.u
        have fu := blk_frozen T0.out.u
        have BT := T0.out.blw
        have S1 := HS.out.1.keep (B' := W0.heap.size) BT.size fun p hp => BT.cell hp
        go_wp2_with fail
        refine (HL1.out _ S1).mono ?_
        rintro e w1 ⟨rfl, hb1⟩
        have T1 := Lib.hid (T0.out.below hb1)
        clear hb1 S1
        clear cx zx cy zy cv zv fv cu zu fu BT
        have cx := blk_cell T1.out.x
        have zx := lt_of_block T1.out.x
        have cy := blk_cell T1.out.y
        have zy := lt_of_block T1.out.y
        have cv := blk_cell T1.out.v
        have zv := lt_of_block T1.out.v
        have fv := blk_frozen T1.out.v
        have cu := blk_cell T1.out.u
        have zu := lt_of_block T1.out.u
        have fu := blk_frozen T1.out.u
        have BT := T1.out.blw
        have T2 := Lib.hid (T1.out.putv 0 0 none 0 0)
        go_upto_region 4 with fail
        generalize ((w1.setCell ⟨w.heap.size + 1 + 1, 0, none⟩ (.int .i64 0)).setCell ⟨w.heap.size + 1 + 1, 1, none⟩ (.int .i64 0)).setCell ⟨w.heap.size + 1 + 1, 2, none⟩ (.slice none 0 0) = W2 at T2 ⊢
        clear cx zx cy zy cv zv fv cu zu fu BT
        have cx := blk_cell T2.out.x
        have zx := lt_of_block T2.out.x
        have cy := blk_cell T2.out.y
        have zy := lt_of_block T2.out.y
        have cv := blk_cell T2.out.v
        have zv := lt_of_block T2.out.v
        have fv := blk_frozen T2.out.v
        have cu := blk_cell T2.out.u
        have zu := lt_of_block T2.out.u
        have fu := blk_frozen T2.out.u
        have BT := T2.out.blw
        have S2 := HS.out.2.keep (B' := W2.heap.size) BT.size fun p hp => BT.cell hp
        go_wp2_with fail
        refine (HL2.out _ S2).mono ?_
        rintro e w3 ⟨g2, F2, rfl, hD2, hF2, hb3⟩
        have D2 := Lib.hid hD2
        have P2 := Lib.hid (fun b (hb : F2 b) => show w.heap.size + 1 + 1 + 1 < b by have := hF2 b hb; omega)
        have T3 := Lib.hid (T2.out.below hb3)
        clear hb3 S2 hD2 hF2
        clear cx zx cy zy cv zv fv cu zu fu BT
        have cx := blk_cell T3.out.x
        have zx := lt_of_block T3.out.x
        have cy := blk_cell T3.out.y
        have zy := lt_of_block T3.out.y
        have cv := blk_cell T3.out.v
        have zv := lt_of_block T3.out.v
        have fv := blk_frozen T3.out.v
        have cu := blk_cell T3.out.u
        have zu := lt_of_block T3.out.u
        have fu := blk_frozen T3.out.u
        have BT := T3.out.blw
        have T4 := Lib.hid (T3.out.putu k2 l2 A2 r2.length cap2)
        have I2 := Lib.hid (D2.out.set3 (b := w.heap.size + 1 + 1 + 1) (u0 := .int .i64 k2) (u1 := .int .i64 l2) (u2 := .slice A2 r2.length cap2) (fun b hb => by have := P2.out b hb; omega))
        go_upto_region 5 with fail
        generalize ((w3.setCell ⟨w.heap.size + 1 + 1 + 1, 0, none⟩ (.int .i64 k2)).setCell ⟨w.heap.size + 1 + 1 + 1, 1, none⟩ (.int .i64 l2)).setCell ⟨w.heap.size + 1 + 1 + 1, 2, none⟩ (.slice A2 r2.length cap2) = W4 at T4 I2 ⊢
        clear cx zx cy zy cv zv fv cu zu fu BT
        have cx := blk_cell T4.out.x
        have zx := lt_of_block T4.out.x
        have cy := blk_cell T4.out.y
        have zy := lt_of_block T4.out.y
        have cv := blk_cell T4.out.v
        have zv := lt_of_block T4.out.v
        have fv := blk_frozen T4.out.v
        have cu := blk_cell T4.out.u
        have zu := lt_of_block T4.out.u
        have fu := blk_frozen T4.out.u
        have BT := T4.out.blw
        go_region
        go_wp2_with fail
        exact bodyPost_ret (v := .tuple #[.pointer none, .pointer (some ⟨g2, 0, none⟩), .agg #[.int .i64 0, .int .i64 0, .slice none 0 0], .agg #[.int .i64 k2, .int .i64 l2, .slice A2 r2.length cap2], .bool false]) (by simp only [results, Tryz.results50]; go_simp) rfl ⟨_, _, _, _, _, _, _, _, _, _, _, _, rfl, (by repeat (first | with_reducible exact Below.refl _ _ | with_reducible assumption | ((with_reducible refine Below.setCell ?_ ?_ _); rotate_left; · (first | omega | exact Nat.le_refl _ | (simp <;> omega))) | (with_reducible refine Below.allocW ?_ _) | (with_reducible refine Below.drew ?_) | (with_reducible refine Below.extW ?_ _)))⟩
      · have HL2 := Lib.hid (law16_Load_no · l2 k2 K2 A2 cap2 r2 hg2 · hI2 hm2)
        unfold loadedV refDig at HL2
        clear hS1 hS2 hI1 hI2 hg1 hg2
        clear hlong h
        go_enter Tryz.func50, Tryz.ntmps50
        go_upto_region 1 with fail
        generalize (((w.alloc (.cells #[.int .i64 l1, .int .i64 k1, .int .i64 K1, .slice A1 r1.length cap1] 48)).alloc (.cells #[.int .i64 l2, .int .i64 k2, .int .i64 K2, .slice A2 r2.length cap2] 48)).alloc (.cells #[.int .i64 0, .int .i64 0, .slice none 0 0] 57)).alloc (.cells #[.int .i64 0, .int .i64 0, .slice none 0 0] 57) = W0 at T0 ⊢
        have cx := blk_cell T0.out.x
        have zx := lt_of_block T0.out.x
        have cy := blk_cell T0.out.y
        have zy := lt_of_block T0.out.y
        have cv := blk_cell T0.out.v
        have zv := lt_of_block T0.out.v
        have fv := blk_frozen T0.out.v
        have cu := blk_cell T0.out.u
        have zu := lt_of_block T0.out.u
        have fu := blk_frozen T0.out.u
        have BT := T0.out.blw
        have S1 := HS.out.1.keep (B' := W0.heap.size) BT.size fun p hp => BT.cell hp
        go_wp2_with fail
        refine (HL1.out _ S1).mono ?_
        rintro e w1 ⟨rfl, hb1⟩
        have T1 := Lib.hid (T0.out.below hb1)
        clear hb1 S1
        clear cx zx cy zy cv zv fv cu zu fu BT
        have cx := blk_cell T1.out.x
        have zx := lt_of_block T1.out.x
        have cy := blk_cell T1.out.y
        have zy := lt_of_block T1.out.y
        have cv := blk_cell T1.out.v
        have zv := lt_of_block T1.out.v
        have fv := blk_frozen T1.out.v
        have cu := blk_cell T1.out.u
        have zu := lt_of_block T1.out.u
        have fu := blk_frozen T1.out.u
        have BT := T1.out.blw
        have T2 := Lib.hid (T1.out.putv 0 0 none 0 0)
        go_upto_region 4 with fail
        generalize ((w1.setCell ⟨w.heap.size + 1 + 1, 0, none⟩ (.int .i64 0)).setCell ⟨w.heap.size + 1 + 1, 1, none⟩ (.int .i64 0)).setCell ⟨w.heap.size + 1 + 1, 2, none⟩ (.slice none 0 0) = W2 at T2 ⊢
        clear cx zx cy zy cv zv fv cu zu fu BT
        have cx := blk_cell T2.out.x
        have zx := lt_of_block T2.out.x
        have cy := blk_cell T2.out.y
        have zy := lt_of_block T2.out.y
        have cv := blk_cell T2.out.v
        have zv := lt_of_block T2.out.v
        have fv := blk_frozen T2.out.v
        have cu := blk_cell T2.out.u
        have zu := lt_of_block T2.out.u
        have fu := blk_frozen T2.out.u
        have BT := T2.out.blw
        have S2 := HS.out.2.keep (B' := W2.heap.size) BT.size fun p hp => BT.cell hp
        go_wp2_with fail
        refine (HL2.out _ S2).mono ?_
        rintro e w3 ⟨rfl, hb3⟩
        have T3 := Lib.hid (T2.out.below hb3)
        clear hb3 S2
        clear cx zx cy zy cv zv fv cu zu fu BT
        have cx := blk_cell T3.out.x
        have zx := lt_of_block T3.out.x
        have cy := blk_cell T3.out.y
        have zy := lt_of_block T3.out.y
        have cv := blk_cell T3.out.v
        have zv := lt_of_block T3.out.v
        have fv := blk_frozen T3.out.v
        have cu := blk_cell T3.out.u
        have zu := lt_of_block T3.out.u
        have fu := blk_frozen T3.out.u
        have BT := T3.out.blw
        have T4 := Lib.hid (T3.out.putu 0 0 none 0 0)
        go_upto_region 5 with fail
        generalize ((w3.setCell ⟨w.heap.size + 1 + 1 + 1, 0, none⟩ (.int .i64 0)).setCell ⟨w.heap.size + 1 + 1 + 1, 1, none⟩ (.int .i64 0)).setCell ⟨w.heap.size + 1 + 1 + 1, 2, none⟩ (.slice none 0 0) = W4 at T4 ⊢
        clear cx zx cy zy cv zv fv cu zu fu BT
        have cx := blk_cell T4.out.x
        have zx := lt_of_block T4.out.x
        have cy := blk_cell T4.out.y
        have zy := lt_of_block T4.out.y
        have cv := blk_cell T4.out.v
        have zv := lt_of_block T4.out.v
        have fv := blk_frozen T4.out.v
        have cu := blk_cell T4.out.u
        have zu := lt_of_block T4.out.u
        have fu := blk_frozen T4.out.u
        have BT := T4.out.blw
        go_region
        go_wp2_with fail
        exact bodyPost_ret (v := .tuple #[.pointer none, .pointer none, .agg #[.int .i64 0, .int .i64 0, .slice none 0 0], .agg #[.int .i64 0, .int .i64 0, .slice none 0 0], .bool false]) (by simp only [results, Tryz.results50]; go_simp) rfl ⟨_, _, _, _, _, _, _, _, _, _, _, _, rfl, (by repeat (first | with_reducible exact Below.refl _ _ | with_reducible assumption | ((with_reducible refine Below.setCell ?_ ?_ _); rotate_left; · (first | omega | exact Nat.le_refl _ | (simp <;> omega))) | (with_reducible refine Below.allocW ?_ _) | (with_reducible refine Below.drew ?_) | (with_reducible refine Below.extW ?_ _)))⟩
/-- What two hands back. -/
def TwoPost (l1 K1 : Nat) (k1 : Int) (A1 : Option Addr) (cap1 : Nat) (r1 : List Nd) (l2 K2 : Nat) (k2 : Int) (A2 : Option Addr) (cap2 : Nat) (r2 : List Nd) (w : World) (e : Ending) (w' : World) : Prop :=
  ∃ g1 F1 g2 F2, e = .returned (.tuple #[.pointer (some ⟨g1, 0, none⟩), .pointer (some ⟨g2, 0, none⟩), .agg #[.int .i64 k1, .int .i64 l1, .slice A1 r1.length cap1], .agg #[.int .i64 k2, .int .i64 l2, .slice A2 r2.length cap2], .bool true]) ∧ DigAt w' g1 K1 l1 k1 r1 F1 ∧ DigAt w' g2 K2 l2 k2 r2 F2 ∧ Below w.heap.size w w'
set_option maxHeartbeats 4000000 in
theorem law21_two (w : World) (l1 K1 l2 K2 : Nat) (k1 k2 : Int) (A1 A2 : Option Addr) (cap1 cap2 : Nat) (r1 r2 : List Nd) (hg : twoGood l1 k1 K1 r1 l2 k2 K2 r2) (hS1 : Sl w w.heap.size encN A1 r1) (hS2 : Sl w w.heap.size encN A2 r2) (hI1 : ints r1) (hI2 : ints r2) :
    Calls Tryz.prog 50 #[loadedV l1 k1 K1 A1 r1.length cap1, loadedV l2 k2 K2 A2 r2.length cap2] w (TwoPost l1 K1 k1 A1 cap1 r1 l2 K2 k2 A2 cap2 r2 w) := by
  obtain ⟨⟨hg1, hg2⟩, n1, n2⟩ := hg
  have T0 := Lib.hid (TwoW.new w #[.int .i64 l1, .int .i64 k1, .int .i64 K1, .slice A1 r1.length cap1] #[.int .i64 l2, .int .i64 k2, .int .i64 K2, .slice A2 r2.length cap2])
  have i1 : decide ((60 : Int) < (r1.length : Int)) = false := by simp; omega
  have i2 : decide ((60 : Int) < (r2.length : Int)) = false := by simp; omega
  have HS := Lib.hid (And.intro hS1 hS2)
  have HL1 := Lib.hid (law16_Load · l1 K1 k1 A1 cap1 r1 hg1 · hI1)
  have HL2 := Lib.hid (law16_Load · l2 K2 k2 A2 cap2 r2 hg2 · hI2)
  unfold loadedV refDig LPost at HL1 HL2
  unfold loadedV TwoPost
  clear hS1 hS2 hI1 hI2 hg1 hg2
  skip
  go_enter Tryz.func50, Tryz.ntmps50
  go_upto_region 1 with fail
  generalize (((w.alloc (.cells #[.int .i64 l1, .int .i64 k1, .int .i64 K1, .slice A1 r1.length cap1] 48)).alloc (.cells #[.int .i64 l2, .int .i64 k2, .int .i64 K2, .slice A2 r2.length cap2] 48)).alloc (.cells #[.int .i64 0, .int .i64 0, .slice none 0 0] 57)).alloc (.cells #[.int .i64 0, .int .i64 0, .slice none 0 0] 57) = W0 at T0 ⊢
  have cx := blk_cell T0.out.x
  have zx := lt_of_block T0.out.x
  have cy := blk_cell T0.out.y
  have zy := lt_of_block T0.out.y
  have cv := blk_cell T0.out.v
  have zv := lt_of_block T0.out.v
  have fv := blk_frozen T0.out.v
  have cu := blk_cell T0.out.u
  have zu := lt_of_block T0.out.u
  have fu := blk_frozen T0.out.u
  have BT := T0.out.blw
  have S1 := HS.out.1.keep (B' := W0.heap.size) BT.size fun p hp => BT.cell hp
  go_wp2_with fail
  refine (HL1.out _ S1).mono ?_
  rintro e w1 ⟨g1, F1, rfl, hD1, hF1, hb1⟩
  have D1 := Lib.hid hD1
  have P1 := Lib.hid (fun b (hb : F1 b) => show w.heap.size + 1 + 1 + 1 < b by have := hF1 b hb; omega)
  have T1 := Lib.hid (T0.out.below hb1)
  clear hb1 S1 hD1 hF1
  clear cx zx cy zy cv zv fv cu zu fu BT
  have cx := blk_cell T1.out.x
  have zx := lt_of_block T1.out.x
  have cy := blk_cell T1.out.y
  have zy := lt_of_block T1.out.y
  have cv := blk_cell T1.out.v
  have zv := lt_of_block T1.out.v
  have fv := blk_frozen T1.out.v
  have cu := blk_cell T1.out.u
  have zu := lt_of_block T1.out.u
  have fu := blk_frozen T1.out.u
  have BT := T1.out.blw
  have T2 := Lib.hid (T1.out.putv k1 l1 A1 r1.length cap1)
  have E1 := Lib.hid (D1.out.set3 (b := w.heap.size + 1 + 1) (u0 := .int .i64 k1) (u1 := .int .i64 l1) (u2 := .slice A1 r1.length cap1) (fun b hb => by have := P1.out b hb; omega))
  go_upto_region 4 with fail
  generalize ((w1.setCell ⟨w.heap.size + 1 + 1, 0, none⟩ (.int .i64 k1)).setCell ⟨w.heap.size + 1 + 1, 1, none⟩ (.int .i64 l1)).setCell ⟨w.heap.size + 1 + 1, 2, none⟩ (.slice A1 r1.length cap1) = W2 at T2 E1 ⊢
  clear cx zx cy zy cv zv fv cu zu fu BT
  have cx := blk_cell T2.out.x
  have zx := lt_of_block T2.out.x
  have cy := blk_cell T2.out.y
  have zy := lt_of_block T2.out.y
  have cv := blk_cell T2.out.v
  have zv := lt_of_block T2.out.v
  have fv := blk_frozen T2.out.v
  have cu := blk_cell T2.out.u
  have zu := lt_of_block T2.out.u
  have fu := blk_frozen T2.out.u
  have BT := T2.out.blw
  have S2 := HS.out.2.keep (B' := W2.heap.size) BT.size fun p hp => BT.cell hp
  go_wp2_with fail
  refine (HL2.out _ S2).mono ?_
  rintro e w3 ⟨g2, F2, rfl, hD2, hF2, hb3⟩
  have D2 := Lib.hid hD2
  have P2 := Lib.hid (fun b (hb : F2 b) => show w.heap.size + 1 + 1 + 1 < b by have := hF2 b hb; omega)
  have T3 := Lib.hid (T2.out.below hb3)
  have G1 := Lib.hid (E1.out.below hb3)
  clear hb3 S2 hD2 hF2
  clear cx zx cy zy cv zv fv cu zu fu BT
  have cx := blk_cell T3.out.x
  have zx := lt_of_block T3.out.x
  have cy := blk_cell T3.out.y
  have zy := lt_of_block T3.out.y
  have cv := blk_cell T3.out.v
  have zv := lt_of_block T3.out.v
  have fv := blk_frozen T3.out.v
  have cu := blk_cell T3.out.u
  have zu := lt_of_block T3.out.u
  have fu := blk_frozen T3.out.u
  have BT := T3.out.blw
  have T4 := Lib.hid (T3.out.putu k2 l2 A2 r2.length cap2)
  have I1 := Lib.hid (G1.out.set3 (b := w.heap.size + 1 + 1 + 1) (u0 := .int .i64 k2) (u1 := .int .i64 l2) (u2 := .slice A2 r2.length cap2) (fun b hb => by have := P1.out b hb; omega))
  have I2 := Lib.hid (D2.out.set3 (b := w.heap.size + 1 + 1 + 1) (u0 := .int .i64 k2) (u1 := .int .i64 l2) (u2 := .slice A2 r2.length cap2) (fun b hb => by have := P2.out b hb; omega))
  go_upto_region 5 with fail
  generalize ((w3.setCell ⟨w.heap.size + 1 + 1 + 1, 0, none⟩ (.int .i64 k2)).setCell ⟨w.heap.size + 1 + 1 + 1, 1, none⟩ (.int .i64 l2)).setCell ⟨w.heap.size + 1 + 1 + 1, 2, none⟩ (.slice A2 r2.length cap2) = W4 at T4 I1 I2 ⊢
  clear cx zx cy zy cv zv fv cu zu fu BT
  have cx := blk_cell T4.out.x
  have zx := lt_of_block T4.out.x
  have cy := blk_cell T4.out.y
  have zy := lt_of_block T4.out.y
  have cv := blk_cell T4.out.v
  have zv := lt_of_block T4.out.v
  have fv := blk_frozen T4.out.v
  have cu := blk_cell T4.out.u
  have zu := lt_of_block T4.out.u
  have fu := blk_frozen T4.out.u
  have BT := T4.out.blw
  go_region
  go_wp2_with fail
  refine bodyPost_ret (v := .tuple #[.pointer (some ⟨g1, 0, none⟩), .pointer (some ⟨g2, 0, none⟩), .agg #[.int .i64 k1, .int .i64 l1, .slice A1 r1.length cap1], .agg #[.int .i64 k2, .int .i64 l2, .slice A2 r2.length cap2], .bool true]) (by simp only [results, Tryz.results50]; go_simp) rfl ⟨g1, F1, g2, F2, rfl, ?_, ?_, (by repeat (first | with_reducible exact Below.refl _ _ | with_reducible assumption | ((with_reducible refine Below.setCell ?_ ?_ _); rotate_left; · (first | omega | exact Nat.le_refl _ | (simp <;> omega))) | (with_reducible refine Below.allocW ?_ _) | (with_reducible refine Below.drew ?_) | (with_reducible refine Below.extW ?_ _)))⟩
  · have ne2 : ∀ b, F1 b → b ≠ w.heap.size + 1 + 1 := fun b hb => by have := P1.out b hb; omega
    have ne3 : ∀ b, F1 b → b ≠ w.heap.size + 1 + 1 + 1 := fun b hb => by have := P1.out b hb; omega
    repeat (first | with_reducible exact I1.out | with_reducible exact I1.out.drew | with_reducible refine DigAt.drew ?_ | (refine DigAt.set ?_ ne2) | (refine DigAt.set ?_ ne3))
  · have ne2 : ∀ b, F2 b → b ≠ w.heap.size + 1 + 1 := fun b hb => by have := P2.out b hb; omega
    have ne3 : ∀ b, F2 b → b ≠ w.heap.size + 1 + 1 + 1 := fun b hb => by have := P2.out b hb; omega
    repeat (first | with_reducible exact I2.out | with_reducible exact I2.out.drew | with_reducible refine DigAt.drew ?_ | (refine DigAt.set ?_ ne2) | (refine DigAt.set ?_ ne3))
end Go.Proofs.YtmadmlkmdnjmaaaGreat
/- Chapter 21: the laws GapSides, GapMost. -/
namespace Go.Proofs.YtmadmlkmdnjmaaaGreat
open Go.ChangeShapes Go.WideShapes Go.ChangeAt Go.RowKit
set_option linter.unusedVariables false
set_option linter.unusedSimpArgs false
set_option maxRecDepth 100000

/-- The two that came in, in boxes. -/
structure In2 (w W : World) (v1 v2 : Array Value) : Prop where
  x : W.heap[w.heap.size]? = some (.cells v1 48 (0, 0))
  y : W.heap[w.heap.size + 1]? = some (.cells v2 48 (0, 0))
  blw : Below w.heap.size w W
theorem In2.new (w : World) (v1 v2 : Array Value) : In2 w ((w.alloc (.cells v1 48)).alloc (.cells v2 48)) v1 v2 :=
  ⟨(heap_new_lt _ _ _ (by simp)).trans (heap_alloc_new w _), heap_new_at (w.alloc _) _ _ (by simp), (by repeat (first | with_reducible exact Below.refl _ _ | with_reducible assumption | ((with_reducible refine Below.setCell ?_ ?_ _); rotate_left; · (first | omega | exact Nat.le_refl _ | (simp <;> omega))) | (with_reducible refine Below.allocW ?_ _) | (with_reducible refine Below.drew ?_) | (with_reducible refine Below.extW ?_ _)))⟩
end Go.Proofs.YtmadmlkmdnjmaaaGreat
/- Chapter 21: what Side, Apart and Most tell of two digests turned about, and of a digest and its like: plain laws. -/
namespace Go.Proofs.YtmadmlkmdnjmaaaGreat
open Go.ChangeShapes Go.WideShapes Go.ChangeAt Go.RowKit
set_option linter.unusedVariables false

theorem sideV_range (n m pl ph ql qh : Int) : -1 ≤ sideV n m pl ph ql qh ∧ sideV n m pl ph ql qh ≤ 1 := by
  unfold sideV
  by_cases c1 : qh * n < pl * m
  · rw [if_pos c1]; omega
  · rw [if_neg c1]
    by_cases c2 : ph * m < ql * n
    · rw [if_pos c2]; omega
    · rw [if_neg c2]; omega
theorem sideT_range (l m : Int) (a b : List Nd) (x : Int) : -1 ≤ sideT l m a b x ∧ sideT l m a b x ≤ 1 := by
  unfold sideT
  by_cases h : gapErr l m a b = 0
  · rw [if_pos h]; exact sideV_range _ _ _ _ _ _
  · rw [if_neg h]; omega
theorem apFold_range {f : Int → Int} (hf : ∀ x, -1 ≤ f x ∧ f x ≤ 1) (l : List Int) : -1 ≤ (apFold f l).2 ∧ (apFold f l).2 ≤ 1 := by
  rcases apFold_is f l with ⟨_, h⟩ | ⟨_, h, _⟩
  · rw [h]; simp
  · rw [h]; exact hf _
theorem apT_range (l m : Int) (a b : List Nd) : -1 ≤ (apT l m a b).2 ∧ (apT l m a b).2 ≤ 1 := by
  unfold apT
  by_cases h : gapErr l m a b = 0
  · rw [if_pos h]; exact apFold_range (fun x => sideV_range _ _ _ _ _ _) _
  · rw [if_neg h]; simp
section
variable {l m : Nat} {a b : List Nd}
theorem sideT_turn (ha : Roll a) (hb : Roll b) (ra : rightOf l a = true) (rb : rightOf m b = true) (x : Int) : sideT m l b a x = - sideT l m a b x := by
  unfold sideT
  rw [gapErr_turn]
  by_cases h : gapErr l m a b = 0
  · obtain rfl : l = m := by have := gapErr_ok h; omega
    rw [if_pos h, if_pos h]
    exact sideOf_turn ha hb ra rb x
  · rw [if_neg h, if_neg h]; rfl
theorem apT_turn (ha : Roll a) (hb : Roll b) (ra : rightOf l a = true) (rb : rightOf m b = true) : apT m l b a = ((apT l m a b).1, - (apT l m a b).2) := by
  unfold apT
  rw [gapErr_turn]
  by_cases h : gapErr l m a b = 0
  · obtain rfl : l = m := by have := gapErr_ok h; omega
    rw [if_pos h, if_pos h]
    exact apFold_turn (fun x => gapE_turn l a b x) (fun x => sideOf_turn ha hb ra rb x)
  · rw [if_neg h, if_neg h]; rfl
theorem gapMostErr_turn (l m : Int) (a b : List Nd) (d : Int) : gapMostErr m l b a d = gapMostErr l m a b d := by
  unfold gapMostErr; rw [gapErr_turn]
theorem gapMostT_turn (d : Int) : gapMostT (m : Int) l b a d = gapMostT l m a b d := by
  unfold gapMostT
  rw [gapMostErr_turn]
  by_cases h : gapMostErr l m a b d = 0
  · rw [if_pos h, if_pos h]
    have h0 : gapErr l m a b = 0 := by
      unfold gapMostErr at h
      by_cases c : gapErr l m a b = 0
      · exact c
      · rw [if_neg c] at h; exact absurd h c
    obtain rfl : l = m := by have := gapErr_ok h0; omega
    exact gapFold_turn (fun x => gapE_turn l a b x)
  · rw [if_neg h, if_neg h]
theorem apT_same (ha : Roll a) (ra : rightOf l a = true) : apT l l a a = (0, 0) := by
  unfold apT
  by_cases h : gapErr l l a a = 0
  · rw [if_pos h]; exact apFold_none fun x _ => sideOf_same ha ra x
  · rw [if_neg h]
theorem gapMostT_same (ha : Roll a) (ra : rightOf l a = true) (d : Int) : (gapMostT l l a a d).1 = 0 := by
  unfold gapMostT
  by_cases h : gapMostErr l l a a d = 0
  · rw [if_pos h]; exact gapFold_same ha ra _
  · rw [if_neg h]
theorem gapErr_same (l : Int) (ha : Roll a) : decide (gapErr l l a a = 0) = decide (0 < sumR a) := by
  have := sumR_nonneg ha
  unfold gapErr
  rw [if_neg (not_not_intro rfl)]
  by_cases h : sumR a = 0 ∨ sumR a = 0
  · rw [if_pos h]; simp; omega
  · rw [if_neg h]; simp; omega
theorem gapMostErr_same (l : Int) (ha : Roll a) (d : Int) : decide (gapMostErr l l a a d = 0) = (decide (0 < sumR a) && decide (1 ≤ d)) := by
  have h1 := gapErr_same l ha
  unfold gapMostErr
  by_cases h : gapErr l l a a = 0
  · rw [if_pos h]
    have h2 : 0 < sumR a := by simpa [h] using h1
    by_cases hd : d < 1
    · rw [if_pos hd]; simp; omega
    · rw [if_neg hd]; simp; omega
  · rw [if_neg h]
    have h2 : ¬ 0 < sumR a := by simpa [h] using h1
    simp [h, h2]
end
end Go.Proofs.YtmadmlkmdnjmaaaGreat
/- (*dense.Dense).Clone: a copy of its own. -/
namespace Go.Proofs.YtmadmlkmdnjmaaaGreat
open Go.ChangeShapes Go.WideShapes Go.ChangeAt Go.RowKit
set_option linter.unusedVariables false
set_option linter.unusedSimpArgs false

theorem flatZC (C : List Int) : C.flatMap encZ.enc = C.map (fun x => Value.int .i64 x) := by
  induction C with
  | nil => rfl
  | cons x C ih => rw [List.flatMap_cons, ih]; rfl
theorem dense_Clone_nil (w : World) : Calls Tryz.prog 182 #[.pointer none] w fun e w' => e = .returned (.pointer none) ∧ Below w.heap.size w w' := by
  go_enter Tryz.func182, Tryz.ntmps182
  go_wp2_with fail
  go_ret
  exact ⟨rfl, (by repeat (first | with_reducible exact Below.refl _ _ | with_reducible assumption | ((with_reducible refine Below.setCell ?_ ?_ _); rotate_left; · (first | omega | exact Nat.le_refl _ | (simp <;> omega))) | (with_reducible refine Below.allocW ?_ _) | (with_reducible refine Below.drew ?_) | (with_reducible refine Below.extW ?_ _)))⟩
set_option maxRecDepth 100000 in
theorem dense_Clone (w : World) (g l : Nat) (r : List Nd) (F : Nat → Prop) (h : DenseAt w g l r F) (h16 : l ≤ 16) : Calls Tryz.prog 182 #[.pointer (some ⟨g, 0, none⟩)] w fun e w' =>
    ∃ g' F', e = .returned (.pointer (some ⟨g', 0, none⟩)) ∧ DenseAt w' g' l r F' ∧ (∀ b, F' b → w.heap.size ≤ b) ∧ Below w.heap.size w w' := by
  obtain ⟨i, hi, hz0, hz1, hz2⟩ := info_parts infoZ
  obtain ⟨v, C, hh, ho, hl, hc, _⟩ := h
  have q5 : 2 ^ l ≤ 65536 := by have := Nat.pow_le_pow_right (n := 2) (by decide) h16; simpa using this
  have q6 := Nat.two_pow_pos l
  obtain ⟨b, off, cap, rfl, hcap⟩ := own_at0 ho (by omega)
  obtain ⟨n, hn⟩ : ∃ n, n = C.length := ⟨_, rfl⟩
  have n1 : n ≤ 131072 := by omega
  have n0 : 0 < n := by omega
  rw [← hn] at ho hh
  have HN := Lib.hid hn
  have HL := Lib.hid hl
  have HC := Lib.hid hc
  have HO := Lib.hid ho
  have H := Lib.hid hh
  have c := blk_cell hh
  have z := lt_of_block hh
  clear hh ho hl hc q5 q6 hn hcap
  go_enter Tryz.func182, Tryz.ntmps182
  go_upto_region 4 with fail
  go_wp2_with ((at_make; refine wpList_make_full _ rfl _ _ 49 rfl w.heap.size 3 i (.int .i64 0) 1 Tryz.underlying49 hi hz0 hz1 _ _ _ _ n rfl rfl ?hL ?hC ?b2 ?b3 ?b4 ?hK))
  case hL => simp
  case hC => simp
  case b2 => rw [hz2]; omega
  case b3 => simp only [maxLen]; omega
  case b4 => simp
  case hK =>
    intro w1 hr hg
    have hmf := made_flat encZ 0 #[.int .i64 0] n rfl (by decide)
    rw [Nat.mul_one] at hmf
    rw [hmf] at hr
    have b0 : Below (w.heap.size + 1) (w.alloc (.cells #[.int .i64 l, .int .i64 r.length, .int .i64 (sumR r), .slice (some ⟨b, off, none⟩) n cap] 240)) w1 := (Below.refl _ _).grown hg (by simp) (fun k hk => by cases hk)
    have b1 : Below w.heap.size w w1 := ((Below.refl w.heap.size w).alloc (Nat.le_refl _) _).trans (b0.mono (Nat.le_succ _))
    have k1 := (b0.block w.heap.size (by omega)).trans (heap_alloc_new w _)
    obtain ⟨cur, kc, hcs⟩ : ∃ cur, w1.heap[w.heap.size + 1]? = some (.cells cur 3 (0, 0)) ∧ cur.size = n := by
      obtain ⟨_, ⟨_, h0⟩ | ⟨g', cap', cur, he, _, hc, _, _, hs, _⟩⟩ := hr
      · omega
      · simp only [Value.slice.injEq, Option.some.injEq, Addr.mk.injEq, true_and, and_true] at he
        obtain ⟨rfl, rfl⟩ := he
        exact ⟨cur, hc, by omega⟩
    have kg := Lib.hid ((b1.block g z).trans H.out)
    have ko := Lib.hid ((HO.out.of_block fun q hq => b1.block q (HO.out.lt q hq).2 : Own w1 0 3 encZ _ C))
    have K1 := Lib.hid k1
    have KC := Lib.hid kc
    have cs1 := Lib.hid hcs
    have c1 := blk_cell k1
    have z1 := lt_of_block k1
    have f1 := blk_frozen k1
    have B1 := Lib.hid b1
    clear b0 b1 hr hg hmf c k1 kc hcs
    go_upto_region 5 with fail
    have hne : Value.ownBlock (.slice (some ⟨b, off, none⟩) n cap) ≠ some w.heap.size := fun he => by
      have := (HO.out.lt _ he).2
      omega
    have k2 : (w1.setCell ⟨w.heap.size, 3, none⟩ (.slice (some ⟨w.heap.size + 1, 0, none⟩) n n)).heap[w.heap.size]? = some (.cells #[.int .i64 l, .int .i64 r.length, .int .i64 (sumR r), .slice (some ⟨w.heap.size + 1, 0, none⟩) n n] 240 (0, 0)) := heap_set_at (i := 3) K1.out _
    have g2 := (Below.heap_setCell w1 ⟨w.heap.size, 3, none⟩ (.slice (some ⟨w.heap.size + 1, 0, none⟩) n n) g (by simp; omega)).trans kg.out
    have r2 := (Below.heap_setCell w1 ⟨w.heap.size, 3, none⟩ (.slice (some ⟨w.heap.size + 1, 0, none⟩) n n) (w.heap.size + 1) (by simp)).trans KC.out
    have o2 := ko.out.setCell (p := ⟨w.heap.size, 3, none⟩) hne (.slice (some ⟨w.heap.size + 1, 0, none⟩) n n)
    have b2 : Below w.heap.size w (w1.setCell ⟨w.heap.size, 3, none⟩ (.slice (some ⟨w.heap.size + 1, 0, none⟩) n n)) := B1.out.setCell (Nat.le_refl _) _
    generalize w1.setCell ⟨w.heap.size, 3, none⟩ (.slice (some ⟨w.heap.size + 1, 0, none⟩) n n) = W2 at k2 g2 r2 o2 b2 ⊢
    clear K1 kg ko KC B1 c1 z1 f1
    obtain ⟨cs, hcs⟩ : ∃ cs, cs = C.map (fun x => Value.int .i64 x) := ⟨_, rfl⟩
    have el : cs.length = n := by rw [hcs, List.length_map]; exact HN.out.symm
    have e1 : ∀ u ∈ cs, u.oneCell' = true := by
      intro u hu
      rw [hcs] at hu
      obtain ⟨x, _, rfl⟩ := List.mem_map.1 hu
      rfl
    have src : ∀ j u, cs[j]? = some u → W2.cell? ((⟨b, off, none⟩ : Addr).add j) = some u := by
      intro j u hj
      rcases o2 with ⟨h0, _⟩ | ⟨b', off', cap', cur', he, _, hb2, _, _, _, hx⟩
      · cases h0
      · simp only [Value.slice.injEq, Option.some.injEq, Addr.mk.injEq, and_true] at he
        obtain ⟨⟨rfl, rfl⟩, _⟩ := he
        rw [add_plain, blk_cell hb2]
        refine hx j u ?_
        rw [hcs, List.getElem?_map] at hj
        rw [flatZC, List.getElem?_map]; exact hj
    have c2 := blk_cell k2
    have z2 := lt_of_block k2
    have f2 := blk_frozen k2
    have c3 := blk_cell g2
    have HB := Lib.hid b2
    have hlt0 : Hid (b < W2.heap.size) := Lib.hid (o2.lt b rfl).2
    have HK := Lib.hid k2
    have G2 := Lib.hid g2
    have HS := Lib.hid src
    have HE := Lib.hid e1
    have R2 := Lib.hid r2
    have EL := Lib.hid el
    have CS := Lib.hid cs1.out
    have HCS := Lib.hid hcs
    clear b2 k2 src e1 r2 el g2 o2 hcs
    refine wp_region_N (fun W => Below W2.heap.size W2 W) [6] (by kernel_rfl) (Below.drew (Below.refl _ _)) (fun hHeld => ?_)
    refine wpAnyN_pure (i := 0) (v := .pointer (some ⟨w.heap.size, 3, none⟩)) rfl (by kernel_rfl) (by kernel_rfl) (by kernel_rfl) (fun _ _ _ h => h) (Or.inl ⟨by rfl, fun W _ => by go_simp⟩) ?_
    try simp only [Act.put, List.setIfInBounds_toArray, List.set_cons_zero, List.set_cons_succ]
    refine wpAnyN_take (i := 1) (v := .slice (some ⟨w.heap.size + 1, 0, none⟩) n n) rfl (by kernel_rfl) (by kernel_rfl) (by kernel_rfl) (by kernel_rfl) (fun _ _ _ h => h) (Or.inl ⟨by rfl, fun W hW => by have q1 := blk_cell (blk_below HK.out hW); have q2 := blk_cell (blk_below G2.out hW); go_simp⟩) hHeld ?_
    try simp only [Act.put, List.setIfInBounds_toArray, List.set_cons_zero, List.set_cons_succ]
    refine wpAnyN_pure (i := 2) (v := .pointer (some ⟨g, 0, none⟩)) rfl (by kernel_rfl) (by kernel_rfl) (by kernel_rfl) (fun _ _ _ h => h) (Or.inl ⟨by rfl, fun W _ => by go_simp⟩) ?_
    try simp only [Act.put, List.setIfInBounds_toArray, List.set_cons_zero, List.set_cons_succ]
    refine wpAnyN_pure (i := 3) (v := .pointer (some ⟨g, 0, none⟩)) rfl (by kernel_rfl) (by kernel_rfl) (by kernel_rfl) (fun _ _ _ h => h) (Or.inl ⟨by rfl, fun W _ => by go_simp⟩) ?_
    try simp only [Act.put, List.setIfInBounds_toArray, List.set_cons_zero, List.set_cons_succ]
    refine wpAnyN_pure (i := 4) (v := .pointer (some ⟨g, 3, none⟩)) rfl (by kernel_rfl) (by kernel_rfl) (by kernel_rfl) (fun _ _ _ h => h) (Or.inl ⟨by rfl, fun W _ => by go_simp⟩) ?_
    try simp only [Act.put, List.setIfInBounds_toArray, List.set_cons_zero, List.set_cons_succ]
    refine wpAnyN_take (i := 5) (v := .slice (some ⟨b, off, none⟩) n cap) rfl (by kernel_rfl) (by kernel_rfl) (by kernel_rfl) (by kernel_rfl) (fun _ _ _ h => h) (Or.inl ⟨by rfl, fun W hW => by have q1 := blk_cell (blk_below HK.out hW); have q2 := blk_cell (blk_below G2.out hW); go_simp⟩) hHeld ?_
    try simp only [Act.put, List.setIfInBounds_toArray, List.set_cons_zero, List.set_cons_succ]
    have BW := Lib.hid hHeld
    clear hHeld
    generalize W2.drew = W3 at BW ⊢
    have r3 := blk_below R2.out BW.out
    have k3 := Lib.hid (blk_below HK.out BW.out)
    refine wpAnyN_one (i := 6) (by kernel_rfl) rfl (fun K hK => ?_)
    go_simp
    rw [run_copy_row (P := Tryz.prog) W3 49 49 _ 3 (w.heap.size + 1) 0 n n ⟨b, off, none⟩ n cap cur 3 cs Tryz.underlying49 (by kernel_rfl) r3 (by rw [EL.out]; exact (Nat.min_self n).symm) (fun j u hj => (BW.out.cell ?hlt).trans (HS.out j u hj)) (by rw [EL.out, CS.out]; omega) HE.out]
    case hlt => rw [add_plain]; exact hlt0.out
    go_simp
    refine hK.out _ _ (fun h => absurd (by simp) h) ?_
    refine wpAnyN_done (by kernel_rfl) ?_ _
    have row := Lib.hid (setRow_heap W3 (w.heap.size + 1) _ (cs ++ List.drop cs.length cur.toList).toArray 3 _ r3)
    have k4 := Lib.hid ((setRow_other W3 (w.heap.size + 1) w.heap.size (cs ++ List.drop cs.length cur.toList).toArray (by omega)).trans k3.out)
    have b4 := Lib.hid (below_setRow (HB.out.trans (BW.out.mono HB.out.size)) (Nat.le_succ _) (cs ++ List.drop cs.length cur.toList).toArray : Below w.heap.size w (W3.setRow (w.heap.size + 1) _))
    generalize W3.setRow (w.heap.size + 1) (cs ++ List.drop cs.length cur.toList).toArray = W4 at row k4 b4 ⊢
    clear hK K r3 k3
    go_wp2_with fail
    go_ret
    refine ⟨w.heap.size, _, rfl, ⟨_, C, k4.out, .inr ⟨w.heap.size + 1, 0, n, _, by rw [HN.out], Nat.zero_le _, row.out, Nat.le_of_eq HN.out.symm, by simp only [maxLen]; omega, by simp [EL.out], fun j u hj => ?_⟩, HL.out, HC.out, rfl⟩, ?_, b4.out⟩
    · rw [flatZC, ← HCS.out] at hj
      have hlt : j < cs.length := (List.getElem?_eq_some_iff.1 hj).1
      simp only [Nat.zero_add, List.getElem?_toArray]
      rw [List.getElem?_append_left hlt]; exact hj
    · rintro q (rfl | hq)
      · exact Nat.le_refl _
      · cases hq; exact Nat.le_succ _
end Go.Proofs.YtmadmlkmdnjmaaaGreat
/- (*probe.Probe).Clone: a copy of its own. -/
namespace Go.Proofs.YtmadmlkmdnjmaaaGreat
open Go.ChangeShapes Go.WideShapes Go.ChangeAt Go.RowKit
set_option linter.unusedVariables false
set_option linter.unusedSimpArgs false

set_option maxRecDepth 100000 in
/-- clone_N for any table. -/
theorem clone_T (w : World) (A : Option Addr) (cap : Nat) (l : List Nd) (hS : Sl w w.heap.size encN A l) (hn : l.length ≤ 17179869184) :
    Calls Tryz.prog 239 #[.slice A l.length cap] w (OwnPost 116 encN l w) := by
  rcases A with _ | a
  · have h0 : l = [] := by
      rcases hS with h | ⟨b, off, hA, _⟩
      · exact h
      · cases hA
    subst h0
    go_enter Tryz.func239, Tryz.ntmps239
    go_wp2_with fail
    go_ret
    exact ⟨_, rfl, Own.nil _ _ _ _, (by repeat (first | with_reducible exact Below.refl _ _ | with_reducible assumption | ((with_reducible refine Below.setCell ?_ ?_ _); rotate_left; · (first | omega | exact Nat.le_refl _ | (simp <;> omega))) | (with_reducible refine Below.allocW ?_ _) | (with_reducible refine Below.drew ?_) | (with_reducible refine Below.extW ?_ _)))⟩
  · have HS := Lib.hid hS
    clear hS
    go_enter Tryz.func239, Tryz.ntmps239
    go_wp2_with ((at_builtin; refine wpList_app tyN rfl _ _ rfl encN w.heap.size (.slice (some ⟨w.heap.size, 0, none⟩) 0 0) [] rfl ?ho (some a) cap l w.heap.size rfl ?hs ?c1 ?c2 ?c3 ?c4))
    case ho => exact .inr ⟨w.heap.size, 0, 0, #[], rfl, Nat.le_refl _, heap_alloc_new w _, Nat.le_refl _, by simp, by simp, fun j u hj => by simp at hj⟩
    case hs => exact HS.out.keep (Nat.le_refl _) fun p hp => ((Below.refl w.heap.size w).alloc (Nat.le_refl _) _).cell hp
    case c1 => simp; omega
    case c2 => simp [maxLen]; omega
    case c3 => simp
    case c4 =>
      intro v' w1 ho1 _ _ hb1 _
      have B1 : Below w.heap.size w w1 := ((Below.refl w.heap.size w).alloc (Nat.le_refl _) _).trans hb1
      have HO1 := Lib.hid (show Own w1 w.heap.size 116 encN v' l by simpa using ho1)
      clear ho1
      go_wp2_with fail
      go_ret
      exact ⟨_, rfl, HO1.out, B1⟩

theorem probe_Clone_nil (w : World) : Calls Tryz.prog 183 #[.pointer none] w fun e w' => e = .returned (.pointer none) ∧ Below w.heap.size w w' := by
  go_enter Tryz.func183, Tryz.ntmps183
  go_wp2_with fail
  go_ret
  exact ⟨rfl, (by repeat (first | with_reducible exact Below.refl _ _ | with_reducible assumption | ((with_reducible refine Below.setCell ?_ ?_ _); rotate_left; · (first | omega | exact Nat.le_refl _ | (simp <;> omega))) | (with_reducible refine Below.allocW ?_ _) | (with_reducible refine Below.drew ?_) | (with_reducible refine Below.extW ?_ _)))⟩
theorem PInv.length {b : Nat} {S m : List Nd} (h : PInv b S m) : S.length = 2 ^ b := h.len
set_option maxRecDepth 100000 in
theorem probe_Clone (w : World) (g l : Nat) (r : List Nd) (F : Nat → Prop) (h : ProbeAt w g l r F) : Calls Tryz.prog 183 #[.pointer (some ⟨g, 0, none⟩)] w fun e w' =>
    ∃ g' F', e = .returned (.pointer (some ⟨g', 0, none⟩)) ∧ ProbeAt w' g' l r F' ∧ (∀ b, F' b → w.heap.size ≤ b) ∧ Below w.heap.size w w' := by
  obtain ⟨v, S, b, hh, ho, hI, h3, h34, h2, _⟩ := h
  have hlen : S.length ≤ 17179869184 := by
    have := PInv.length hI
    have h5 := Nat.pow_le_pow_right (n := 2) (by decide) h34
    have h6 : (2 : Nat) ^ 34 = 17179869184 := by decide
    omega
  obtain ⟨A, cap, rfl, hc1, hc2, hS⟩ := ho.rd
  have HC := Lib.hid (fun (W : World) (a : Sl W W.heap.size encN A S) => clone_T W A cap S a hlen)
  have HS := Lib.hid hS
  have HI := Lib.hid hI
  have H2 := Lib.hid h2
  have c := blk_cell hh
  have z := lt_of_block hh
  clear hh ho hS hI h2 hc1 hc2 hlen
  go_enter Tryz.func183, Tryz.ntmps183
  go_wp2_with fail
  refine (HC.out _ ?hs).mono ?_
  case hs => exact HS.out.keep (by simp) fun p hp => ((Below.refl w.heap.size w).alloc (Nat.le_refl _) _).cell hp
  rintro e w1 ⟨v', rfl, ho1, hb1⟩
  obtain ⟨A', cap', rfl, hf1, hf2, _⟩ := ho1.form
  have k1 := blk_below (heap_alloc_new w _) hb1
  have c1 := blk_cell k1
  have z1 := lt_of_block k1
  have f1 := blk_frozen k1
  have B1 := Lib.hid (((Below.refl w.heap.size w).alloc (Nat.le_refl _) (.cells #[.int .i64 l, .int .i64 b, .int .i64 r.length, .int .i64 (sumR r), .slice A S.length cap] 242)).trans (hb1.mono (by simp)))
  have K1 := Lib.hid k1
  have O1 := Lib.hid ho1
  clear c k1 ho1 hb1
  go_wp2_with fail
  go_ret
  have hne : Value.ownBlock (.slice A' S.length cap') ≠ some w.heap.size := fun he => by
    have := (O1.out.lt _ he).1
    simp at this
    omega
  refine ⟨w.heap.size, _, rfl, ⟨_, S, b, heap_set_at (i := 4) K1.out _, (O1.out.setCell (p := ⟨w.heap.size, 4, none⟩) hne _).base_le (Nat.zero_le _), HI.out, h3, h34, H2.out, rfl⟩, ?_, B1.out.setCell (Nat.le_refl _) _⟩
  rintro q (rfl | hq)
  · exact Nat.le_refl _
  · have := (O1.out.lt _ hq).1
    simp at this
    omega
end Go.Proofs.YtmadmlkmdnjmaaaGreat
/- Clone of a pool and of a digest: a copy of its own (printed by wip/tools/gen_clone.py). -/
namespace Go.Proofs.YtmadmlkmdnjmaaaGreat
open Go.ChangeShapes Go.WideShapes Go.ChangeAt Go.RowKit
set_option linter.unusedVariables false
set_option linter.unusedSimpArgs false
set_option maxRecDepth 100000

set_option maxHeartbeats 2000000 in
theorem pool_Clone (w : World) (g K l : Nat) (r : List Nd) (F : Nat → Prop) (h : PoolAt w g K l r F) : Calls Tryz.prog 115 #[.pointer (some ⟨g, 0, none⟩)] w fun e w' =>
    ∃ g' F', e = .returned (.pointer (some ⟨g', 0, none⟩)) ∧ PoolAt w' g' K l r F' ∧ (∀ b, F' b → w.heap.size ≤ b) ∧ Below w.heap.size w w' := by
  obtain ⟨h1, h2, hf, p, F0, _, h4⟩ := h
  have HF := Lib.hid hf
  rcases h4 with ⟨rfl, h16, hh, hd⟩ | ⟨rfl, hh, hd⟩
  · skip
    have H := Lib.hid hh
    have Z := Lib.hid (lt_of_block hh)
    have HD := Lib.hid hd
    clear hh hd hf
    go_enter Tryz.func115, Tryz.ntmps115
    go_upto_region 3 with fail
    refine wp_region_N (fun W => Below w.heap.size w W) [] (by kernel_rfl) (Below.drew (Below.refl _ _)) (fun hHeld => ?_)
    refine wpAnyN_pure (i := 0) (v := .pointer (some ⟨g, 0, none⟩)) rfl (by kernel_rfl) (by kernel_rfl) (by kernel_rfl) (fun _ _ _ h => h) (Or.inl ⟨by rfl, fun W _ => by go_simp⟩) ?_
    try simp only [Act.put, List.setIfInBounds_toArray, List.set_cons_zero, List.set_cons_succ]
    refine wpAnyN_pure (i := 1) (v := .pointer (some ⟨g, 0, none⟩)) rfl (by kernel_rfl) (by kernel_rfl) (by kernel_rfl) (fun _ _ _ h => h) (Or.inl ⟨by rfl, fun W _ => by go_simp⟩) ?_
    try simp only [Act.put, List.setIfInBounds_toArray, List.set_cons_zero, List.set_cons_succ]
    refine wpAnyN_pure (i := 2) (v := .pointer (some ⟨g, 0, none⟩)) rfl (by kernel_rfl) (by kernel_rfl) (by kernel_rfl) (fun _ _ _ h => h) (Or.inl ⟨by rfl, fun W _ => by go_simp⟩) ?_
    try simp only [Act.put, List.setIfInBounds_toArray, List.set_cons_zero, List.set_cons_succ]
    refine wpAnyN_take (i := 3) (v := .pointer (some ⟨p, 0, none⟩)) rfl (by kernel_rfl) (by kernel_rfl) (by kernel_rfl) (by kernel_rfl) (fun _ _ _ h => h) (Or.inl ⟨by rfl, fun W hW => by have q1 := blk_cell ((hW.block g Z.out).trans H.out); go_simp⟩) hHeld ?_
    try simp only [Act.put, List.setIfInBounds_toArray, List.set_cons_zero, List.set_cons_succ]
    refine wpAnyN_pure (i := 5) (v := .pointer (some ⟨g, 0, none⟩)) rfl (by kernel_rfl) (by kernel_rfl) (by kernel_rfl) (fun _ _ _ h => h) (Or.inl ⟨by rfl, fun W _ => by go_simp⟩) ?_
    try simp only [Act.put, List.setIfInBounds_toArray, List.set_cons_zero, List.set_cons_succ]
    refine wpAnyN_pure (i := 6) (v := .pointer (some ⟨g, 0, none⟩)) rfl (by kernel_rfl) (by kernel_rfl) (by kernel_rfl) (fun _ _ _ h => h) (Or.inl ⟨by rfl, fun W _ => by go_simp⟩) ?_
    try simp only [Act.put, List.setIfInBounds_toArray, List.set_cons_zero, List.set_cons_succ]
    refine wpAnyN_pure (i := 7) (v := .pointer (some ⟨g, 1, none⟩)) rfl (by kernel_rfl) (by kernel_rfl) (by kernel_rfl) (fun _ _ _ h => h) (Or.inl ⟨by rfl, fun W _ => by go_simp⟩) ?_
    try simp only [Act.put, List.setIfInBounds_toArray, List.set_cons_zero, List.set_cons_succ]
    refine wpAnyN_take (i := 8) (v := .pointer none) rfl (by kernel_rfl) (by kernel_rfl) (by kernel_rfl) (by kernel_rfl) (fun _ _ _ h => h) (Or.inl ⟨by rfl, fun W hW => by have q1 := blk_cell ((hW.block g Z.out).trans H.out); go_simp⟩) hHeld ?_
    try simp only [Act.put, List.setIfInBounds_toArray, List.set_cons_zero, List.set_cons_succ]
    have B0 := hHeld
    clear hHeld
    generalize w.drew = V0 at B0 ⊢
    refine wpAnyN_one (i := 4) (by kernel_rfl) rfl (fun K' hK => ?_)
    go_simp
    refine (dense_Clone _ p l r F0 (HD.out.keep fun q hq => B0.block q (HD.out.lt q hq)) h16).mono ?_
    rintro e V1 ⟨p', F1, rfl, hd1, hF1, hb⟩
    have B1 := B0.trans (hb.mono B0.size)
    refine hK.out _ _ (fun _ _ => B1) ?_
    clear hK K'
    try simp only [Act.put, List.setIfInBounds_toArray, List.set_cons_zero, List.set_cons_succ]
    refine wpAnyN_one (i := 9) (by kernel_rfl) rfl (fun K' hK => ?_)
    go_simp
    refine (probe_Clone_nil _).mono ?_
    rintro e V2 ⟨rfl, hb2⟩
    have hd2 := Lib.hid (hd1.below hb2)
    have hF2 := Lib.hid (fun q hq => Nat.le_trans B0.size (hF1 q hq))
    clear hd1 hF1
    have B2 := B1.trans (hb2.mono B1.size)
    refine hK.out _ _ (fun _ _ => B2) ?_
    clear hK K'
    try simp only [Act.put, List.setIfInBounds_toArray, List.set_cons_zero, List.set_cons_succ]
    refine wpAnyN_pure (i := 10) (v := .agg #[.pointer (some ⟨p', 0, none⟩), .pointer none]) rfl (by kernel_rfl) (by kernel_rfl) (by kernel_rfl) (fun _ _ _ h => h) (Or.inl ⟨by rfl, fun W _ => by go_simp⟩) ?_
    try simp only [Act.put, List.setIfInBounds_toArray, List.set_cons_zero, List.set_cons_succ]
    refine wpAnyN_one (i := 11) (by kernel_rfl) rfl (fun K' hK => ?_)
    go_simp
    have B3 := B2.alloc B2.size (.cells #[.pointer (some ⟨p', 0, none⟩), .pointer none] 200)
    refine hK.out _ _ (fun _ _ => B3) ?_
    clear hK K'
    try simp only [Act.put, List.setIfInBounds_toArray, List.set_cons_zero, List.set_cons_succ]
    refine wpAnyN_one (i := 12) (by kernel_rfl) rfl (fun K' hK => ?_)
    go_simp
    refine hK.out _ _ (fun _ _ => B3) ?_
    clear hK K'
    try simp only [Act.put, List.setIfInBounds_toArray, List.set_cons_zero, List.set_cons_succ]
    refine wpAnyN_done (by kernel_rfl) ?_ _
    clear hb hb2 B0 B1
    have HB2 := Lib.hid B2
    have HB3 := Lib.hid B3
    clear B2 B3
    go_wp2_with fail
    go_ret
    refine ⟨V2.heap.size, footP V2.heap.size F1, rfl, ⟨h1, h2, HF.out, p', F1, rfl, .inl ⟨rfl, h16, heap_alloc_new V2 _, hd2.out.below ((Below.refl _ _).alloc (Nat.le_refl _) _)⟩⟩, ?_, HB3.out⟩
    rintro q (rfl | hq)
    · exact HB2.out.size
    · exact hF2.out q hq
  · skip
    have H := Lib.hid hh
    have Z := Lib.hid (lt_of_block hh)
    have HD := Lib.hid hd
    clear hh hd hf
    go_enter Tryz.func115, Tryz.ntmps115
    go_upto_region 3 with fail
    refine wp_region_N (fun W => Below w.heap.size w W) [] (by kernel_rfl) (Below.drew (Below.refl _ _)) (fun hHeld => ?_)
    refine wpAnyN_pure (i := 0) (v := .pointer (some ⟨g, 0, none⟩)) rfl (by kernel_rfl) (by kernel_rfl) (by kernel_rfl) (fun _ _ _ h => h) (Or.inl ⟨by rfl, fun W _ => by go_simp⟩) ?_
    try simp only [Act.put, List.setIfInBounds_toArray, List.set_cons_zero, List.set_cons_succ]
    refine wpAnyN_pure (i := 1) (v := .pointer (some ⟨g, 0, none⟩)) rfl (by kernel_rfl) (by kernel_rfl) (by kernel_rfl) (fun _ _ _ h => h) (Or.inl ⟨by rfl, fun W _ => by go_simp⟩) ?_
    try simp only [Act.put, List.setIfInBounds_toArray, List.set_cons_zero, List.set_cons_succ]
    refine wpAnyN_pure (i := 2) (v := .pointer (some ⟨g, 0, none⟩)) rfl (by kernel_rfl) (by kernel_rfl) (by kernel_rfl) (fun _ _ _ h => h) (Or.inl ⟨by rfl, fun W _ => by go_simp⟩) ?_
    try simp only [Act.put, List.setIfInBounds_toArray, List.set_cons_zero, List.set_cons_succ]
    refine wpAnyN_take (i := 3) (v := .pointer none) rfl (by kernel_rfl) (by kernel_rfl) (by kernel_rfl) (by kernel_rfl) (fun _ _ _ h => h) (Or.inl ⟨by rfl, fun W hW => by have q1 := blk_cell ((hW.block g Z.out).trans H.out); go_simp⟩) hHeld ?_
    try simp only [Act.put, List.setIfInBounds_toArray, List.set_cons_zero, List.set_cons_succ]
    refine wpAnyN_pure (i := 5) (v := .pointer (some ⟨g, 0, none⟩)) rfl (by kernel_rfl) (by kernel_rfl) (by kernel_rfl) (fun _ _ _ h => h) (Or.inl ⟨by rfl, fun W _ => by go_simp⟩) ?_
    try simp only [Act.put, List.setIfInBounds_toArray, List.set_cons_zero, List.set_cons_succ]
    refine wpAnyN_pure (i := 6) (v := .pointer (some ⟨g, 0, none⟩)) rfl (by kernel_rfl) (by kernel_rfl) (by kernel_rfl) (fun _ _ _ h => h) (Or.inl ⟨by rfl, fun W _ => by go_simp⟩) ?_
    try simp only [Act.put, List.setIfInBounds_toArray, List.set_cons_zero, List.set_cons_succ]
    refine wpAnyN_pure (i := 7) (v := .pointer (some ⟨g, 1, none⟩)) rfl (by kernel_rfl) (by kernel_rfl) (by kernel_rfl) (fun _ _ _ h => h) (Or.inl ⟨by rfl, fun W _ => by go_simp⟩) ?_
    try simp only [Act.put, List.setIfInBounds_toArray, List.set_cons_zero, List.set_cons_succ]
    refine wpAnyN_take (i := 8) (v := .pointer (some ⟨p, 0, none⟩)) rfl (by kernel_rfl) (by kernel_rfl) (by kernel_rfl) (by kernel_rfl) (fun _ _ _ h => h) (Or.inl ⟨by rfl, fun W hW => by have q1 := blk_cell ((hW.block g Z.out).trans H.out); go_simp⟩) hHeld ?_
    try simp only [Act.put, List.setIfInBounds_toArray, List.set_cons_zero, List.set_cons_succ]
    have B0 := hHeld
    clear hHeld
    generalize w.drew = V0 at B0 ⊢
    refine wpAnyN_one (i := 4) (by kernel_rfl) rfl (fun K' hK => ?_)
    go_simp
    refine (dense_Clone_nil _).mono ?_
    rintro e V1 ⟨rfl, hb⟩
    have B1 := B0.trans (hb.mono B0.size)
    refine hK.out _ _ (fun _ _ => B1) ?_
    clear hK K'
    try simp only [Act.put, List.setIfInBounds_toArray, List.set_cons_zero, List.set_cons_succ]
    refine wpAnyN_one (i := 9) (by kernel_rfl) rfl (fun K' hK => ?_)
    go_simp
    refine (probe_Clone _ p l r F0 (HD.out.keep fun q hq => B1.block q (HD.out.lt q hq))).mono ?_
    rintro e V2 ⟨p', F1, rfl, hd1, hF1, hb2⟩
    have hd2 := Lib.hid hd1
    have hF2 := Lib.hid (fun q hq => Nat.le_trans B1.size (hF1 q hq))
    clear hd1 hF1
    have B2 := B1.trans (hb2.mono B1.size)
    refine hK.out _ _ (fun _ _ => B2) ?_
    clear hK K'
    try simp only [Act.put, List.setIfInBounds_toArray, List.set_cons_zero, List.set_cons_succ]
    refine wpAnyN_pure (i := 10) (v := .agg #[.pointer none, .pointer (some ⟨p', 0, none⟩)]) rfl (by kernel_rfl) (by kernel_rfl) (by kernel_rfl) (fun _ _ _ h => h) (Or.inl ⟨by rfl, fun W _ => by go_simp⟩) ?_
    try simp only [Act.put, List.setIfInBounds_toArray, List.set_cons_zero, List.set_cons_succ]
    refine wpAnyN_one (i := 11) (by kernel_rfl) rfl (fun K' hK => ?_)
    go_simp
    have B3 := B2.alloc B2.size (.cells #[.pointer none, .pointer (some ⟨p', 0, none⟩)] 200)
    refine hK.out _ _ (fun _ _ => B3) ?_
    clear hK K'
    try simp only [Act.put, List.setIfInBounds_toArray, List.set_cons_zero, List.set_cons_succ]
    refine wpAnyN_one (i := 12) (by kernel_rfl) rfl (fun K' hK => ?_)
    go_simp
    refine hK.out _ _ (fun _ _ => B3) ?_
    clear hK K'
    try simp only [Act.put, List.setIfInBounds_toArray, List.set_cons_zero, List.set_cons_succ]
    refine wpAnyN_done (by kernel_rfl) ?_ _
    clear hb hb2 B0 B1
    have HB2 := Lib.hid B2
    have HB3 := Lib.hid B3
    clear B2 B3
    go_wp2_with fail
    go_ret
    refine ⟨V2.heap.size, footP V2.heap.size F1, rfl, ⟨h1, h2, HF.out, p', F1, rfl, .inr ⟨rfl, heap_alloc_new V2 _, hd2.out.below ((Below.refl _ _).alloc (Nat.le_refl _) _)⟩⟩, ?_, HB3.out⟩
    rintro q (rfl | hq)
    · exact HB2.out.size
    · exact hF2.out q hq

set_option maxHeartbeats 2000000 in
theorem digest_Clone (w : World) (g K l : Nat) (k : Int) (r : List Nd) (F : Nat → Prop) (h : DigAt w g K l k r F) : Calls Tryz.prog 55 #[.pointer (some ⟨g, 0, none⟩)] w fun e w' =>
    ∃ g' F', e = .returned (.pointer (some ⟨g', 0, none⟩)) ∧ DigAt w' g' K l k r F' ∧ (∀ b, F' b → w.heap.size ≤ b) ∧ Below w.heap.size w w' := by
  obtain ⟨hk1, hk2, p, F0, _, hh, hd⟩ := h
  have H := Lib.hid hh
  have Z := Lib.hid (lt_of_block hh)
  have HD := Lib.hid hd
  clear hh hd
  go_enter Tryz.func55, Tryz.ntmps55
  go_upto_region 3 with fail
  refine wp_region_N (fun W => Below w.heap.size w W) [] (by kernel_rfl) (Below.drew (Below.refl _ _)) (fun hHeld => ?_)
  refine wpAnyN_pure (i := 0) (v := .pointer (some ⟨g, 0, none⟩)) rfl (by kernel_rfl) (by kernel_rfl) (by kernel_rfl) (fun _ _ _ h => h) (Or.inl ⟨by rfl, fun W _ => by go_simp⟩) ?_
  try simp only [Act.put, List.setIfInBounds_toArray, List.set_cons_zero, List.set_cons_succ]
  refine wpAnyN_pure (i := 1) (v := .pointer (some ⟨g, 0, none⟩)) rfl (by kernel_rfl) (by kernel_rfl) (by kernel_rfl) (fun _ _ _ h => h) (Or.inl ⟨by rfl, fun W _ => by go_simp⟩) ?_
  try simp only [Act.put, List.setIfInBounds_toArray, List.set_cons_zero, List.set_cons_succ]
  refine wpAnyN_pure (i := 2) (v := .pointer (some ⟨g, 0, none⟩)) rfl (by kernel_rfl) (by kernel_rfl) (by kernel_rfl) (fun _ _ _ h => h) (Or.inl ⟨by rfl, fun W _ => by go_simp⟩) ?_
  try simp only [Act.put, List.setIfInBounds_toArray, List.set_cons_zero, List.set_cons_succ]
  refine wpAnyN_take (i := 3) (v := .agg #[.int .i64 k]) rfl (by kernel_rfl) (by kernel_rfl) (by kernel_rfl) (by kernel_rfl) (fun _ _ _ h => h) (Or.inl ⟨by rfl, fun W hW => by have q1 := blk_cell ((hW.block g Z.out).trans H.out); go_simp⟩) hHeld ?_
  try simp only [Act.put, List.setIfInBounds_toArray, List.set_cons_zero, List.set_cons_succ]
  refine wpAnyN_pure (i := 4) (v := .pointer (some ⟨g, 0, none⟩)) rfl (by kernel_rfl) (by kernel_rfl) (by kernel_rfl) (fun _ _ _ h => h) (Or.inl ⟨by rfl, fun W _ => by go_simp⟩) ?_
  try simp only [Act.put, List.setIfInBounds_toArray, List.set_cons_zero, List.set_cons_succ]
  refine wpAnyN_pure (i := 5) (v := .pointer (some ⟨g, 0, none⟩)) rfl (by kernel_rfl) (by kernel_rfl) (by kernel_rfl) (fun _ _ _ h => h) (Or.inl ⟨by rfl, fun W _ => by go_simp⟩) ?_
  try simp only [Act.put, List.setIfInBounds_toArray, List.set_cons_zero, List.set_cons_succ]
  refine wpAnyN_pure (i := 6) (v := .pointer (some ⟨g, 1, none⟩)) rfl (by kernel_rfl) (by kernel_rfl) (by kernel_rfl) (fun _ _ _ h => h) (Or.inl ⟨by rfl, fun W _ => by go_simp⟩) ?_
  try simp only [Act.put, List.setIfInBounds_toArray, List.set_cons_zero, List.set_cons_succ]
  refine wpAnyN_pure (i := 7) (v := .pointer (some ⟨g, 1, none⟩)) rfl (by kernel_rfl) (by kernel_rfl) (by kernel_rfl) (fun _ _ _ h => h) (Or.inl ⟨by rfl, fun W _ => by go_simp⟩) ?_
  try simp only [Act.put, List.setIfInBounds_toArray, List.set_cons_zero, List.set_cons_succ]
  refine wpAnyN_take (i := 8) (v := .pointer (some ⟨p, 0, none⟩)) rfl (by kernel_rfl) (by kernel_rfl) (by kernel_rfl) (by kernel_rfl) (fun _ _ _ h => h) (Or.inl ⟨by rfl, fun W hW => by have q1 := blk_cell ((hW.block g Z.out).trans H.out); go_simp⟩) hHeld ?_
  try simp only [Act.put, List.setIfInBounds_toArray, List.set_cons_zero, List.set_cons_succ]
  have B0 := hHeld
  clear hHeld
  generalize w.drew = V0 at B0 ⊢
  refine wpAnyN_one (i := 9) (by kernel_rfl) rfl (fun K' hK => ?_)
  go_simp
  refine (pool_Clone _ p K l r F0 (HD.out.keep fun q hq => B0.block q (HD.out.lt q hq))).mono ?_
  rintro e V1 ⟨p', F1, rfl, hd1, hF1, hb⟩
  have B1 := B0.trans (hb.mono B0.size)
  have hd2 := Lib.hid hd1
  have hF2 := Lib.hid (fun q hq => Nat.le_trans B0.size (hF1 q hq))
  clear hd1 hF1
  refine hK.out _ _ (fun _ _ => B1) ?_
  clear hK K'
  try simp only [Act.put, List.setIfInBounds_toArray, List.set_cons_zero, List.set_cons_succ]
  refine wpAnyN_pure (i := 10) (v := .agg #[.pointer (some ⟨p', 0, none⟩)]) rfl (by kernel_rfl) (by kernel_rfl) (by kernel_rfl) (fun _ _ _ h => h) (Or.inl ⟨by rfl, fun W _ => by go_simp⟩) ?_
  try simp only [Act.put, List.setIfInBounds_toArray, List.set_cons_zero, List.set_cons_succ]
  refine wpAnyN_pure (i := 11) (v := .agg #[.int .i64 k, .pointer (some ⟨p', 0, none⟩)]) rfl (by kernel_rfl) (by kernel_rfl) (by kernel_rfl) (fun _ _ _ h => h) (Or.inl ⟨by rfl, fun W _ => by go_simp⟩) ?_
  try simp only [Act.put, List.setIfInBounds_toArray, List.set_cons_zero, List.set_cons_succ]
  refine wpAnyN_one (i := 12) (by kernel_rfl) rfl (fun K' hK => ?_)
  go_simp
  have B3 := B1.alloc B1.size (.cells #[.int .i64 k, .pointer (some ⟨p', 0, none⟩)] 152)
  refine hK.out _ _ (fun _ _ => B3) ?_
  clear hK K'
  try simp only [Act.put, List.setIfInBounds_toArray, List.set_cons_zero, List.set_cons_succ]
  refine wpAnyN_one (i := 13) (by kernel_rfl) rfl (fun K' hK => ?_)
  go_simp
  refine hK.out _ _ (fun _ _ => B3) ?_
  clear hK K'
  try simp only [Act.put, List.setIfInBounds_toArray, List.set_cons_zero, List.set_cons_succ]
  refine wpAnyN_done (by kernel_rfl) ?_ _
  have HB2 := Lib.hid B1
  have HB3 := Lib.hid B3
  clear hb B0 B1 B3
  go_wp2_with fail
  go_ret
  refine ⟨V1.heap.size, footP V1.heap.size F1, rfl, ⟨hk1, hk2, p', F1, rfl, heap_alloc_new V1 _, hd2.out.below ((Below.refl _ _).alloc (Nat.le_refl _) _)⟩, ?_, HB3.out⟩
  rintro q (rfl | hq)
  · exact HB2.out.size
  · exact hF2.out q hq
theorem digest_Clone_nil (w : World) : Calls Tryz.prog 55 #[.pointer none] w fun e w' => e = .returned (.pointer none) ∧ Below w.heap.size w w' := by
  go_enter Tryz.func55, Tryz.ntmps55
  go_wp2_with fail
  go_ret
  exact ⟨rfl, (by repeat (first | with_reducible exact Below.refl _ _ | with_reducible assumption | ((with_reducible refine Below.setCell ?_ ?_ _); rotate_left; · (first | omega | exact Nat.le_refl _ | (simp <;> omega))) | (with_reducible refine Below.allocW ?_ _) | (with_reducible refine Below.drew ?_) | (with_reducible refine Below.extW ?_ _)))⟩
end Go.Proofs.YtmadmlkmdnjmaaaGreat
/- Chapter 21: the law GapTurned (under way). -/
namespace Go.Proofs.YtmadmlkmdnjmaaaGreat
open Go.ChangeShapes Go.WideShapes Go.ChangeAt Go.RowKit
set_option linter.unusedVariables false
set_option linter.unusedSimpArgs false
set_option maxRecDepth 100000

/-- The three that came in, in boxes. -/
structure In3 (w W : World) (v1 v2 v3 : Array Value) : Prop where
  x : W.heap[w.heap.size]? = some (.cells v1 48 (0, 0))
  y : W.heap[w.heap.size + 1]? = some (.cells v2 48 (0, 0))
  z : W.heap[w.heap.size + 1 + 1]? = some (.cells v3 74 (0, 0))
  blw : Below w.heap.size w W
theorem In3.new (w : World) (v1 v2 v3 : Array Value) : In3 w (((w.alloc (.cells v1 48)).alloc (.cells v2 48)).alloc (.cells v3 74)) v1 v2 v3 :=
  ⟨(heap_new_lt _ _ _ (by simp; omega)).trans ((heap_new_lt _ _ _ (by simp)).trans (heap_alloc_new w _)), (heap_new_lt _ _ _ (by simp)).trans (heap_new_at (w.alloc _) _ _ (by simp)), heap_new_at ((w.alloc _).alloc _) _ _ (by simp), (by repeat (first | with_reducible exact Below.refl _ _ | with_reducible assumption | ((with_reducible refine Below.setCell ?_ ?_ _); rotate_left; · (first | omega | exact Nat.le_refl _ | (simp <;> omega))) | (with_reducible refine Below.allocW ?_ _) | (with_reducible refine Below.drew ?_) | (with_reducible refine Below.extW ?_ _)))⟩
set_option maxHeartbeats 4000000 in
theorem law_GapTurned (l1 k1 K1 : Int) (r1 : List Nd) (A1 : Option Addr) (cap1 : Nat) (l2 k2 K2 : Int) (r2 : List Nd) (A2 : Option Addr) (cap2 : Nat) (x y : Int) (w : World) (hS1 : Sl w w.heap.size encN A1 r1) (hI1 : ints r1) (_ : i64 l1) (_ : i64 k1) (_ : i64 K1) (hm1 : r1.length ≤ maxLen) (hS2 : Sl w w.heap.size encN A2 r2) (hI2 : ints r2) (_ : i64 l2) (_ : i64 k2) (_ : i64 K2) (hm2 : r2.length ≤ maxLen) (wx : i64 x) (wy : i64 y) :
    Calls Tryz.prog 11 #[loadedV l1 k1 K1 A1 r1.length cap1, loadedV l2 k2 K2 A2 r2.length cap2, .agg #[.int .i64 x, .int .i64 y]] w fun e w' => e = .returned (.bool true) ∧ Below w.heap.size w w' := by
  have HX := Lib.hid (In3.new w #[.int .i64 l1, .int .i64 k1, .int .i64 K1, .slice A1 r1.length cap1] #[.int .i64 l2, .int .i64 k2, .int .i64 K2, .slice A2 r2.length cap2] #[.int .i64 x, .int .i64 y])
  have HS := Lib.hid (And.intro hS1 hS2)
  by_cases h : twoGood l1 k1 K1 r1 l2 k2 K2 r2
  · have hg := h
    obtain ⟨⟨hg1, hg2⟩, n1, n2⟩ := hg
    obtain ⟨l1, K1, rfl, rfl⟩ := goodL_nat hg1.2.2
    obtain ⟨l2, K2, rfl, rfl⟩ := goodL_nat hg2.2.2
    have HC := Lib.hid (fun (W : World) (a : Sl W W.heap.size encN A1 r1) (b : Sl W W.heap.size encN A2 r2) => law21_two W l1 K1 l2 K2 k1 k2 A1 A2 cap1 cap2 r1 r2 h a b hI1 hI2)
    have f1 := right_fits (goodL_parts hg1.2.2).1
    have f2 := right_fits (goodL_parts hg2.2.2).1
    have p1 : r1.length ≤ 67108864 := by omega
    have p2 : r2.length ≤ 67108864 := by omega
    have hy : y ≤ 9223372036854775807 := wy.2
    have R1 := (goodL_parts hg1.2.2).1
    have R2 := (goodL_parts hg2.2.2).1
    unfold loadedV TwoPost at HC
    unfold loadedV
    clear h hS1 hS2 hI1 hI2 hg1 hg2 f1 f2
    go_enter Tryz.func11, Tryz.ntmps11
    go_upto_region 1 with fail
    generalize ((w.alloc (.cells #[.int .i64 l1, .int .i64 k1, .int .i64 K1, .slice A1 r1.length cap1] 48)).alloc (.cells #[.int .i64 l2, .int .i64 k2, .int .i64 K2, .slice A2 r2.length cap2] 48)).alloc (.cells #[.int .i64 x, .int .i64 y] 74) = W0 at HX ⊢
    have cx := blk_cell HX.out.x
    have cy := blk_cell HX.out.y
    have zx := lt_of_block HX.out.x
    have zy := lt_of_block HX.out.y
    have BX := HX.out.blw
    have S1 := Lib.hid (HS.out.1.keep (B' := W0.heap.size) BX.size fun p hp => BX.cell hp)
    have S2 := Lib.hid (HS.out.2.keep (B' := W0.heap.size) BX.size fun p hp => BX.cell hp)
    go_wp2_with fail
    refine (HC.out _ S1.out S2.out).mono ?_
    rintro e w1 ⟨g1, F1, g2, F2, rfl, hD1, hD2, hb1⟩
    have B1 := Lib.hid (BX.trans (hb1.mono BX.size))
    have T1 := Lib.hid (SlU.alloc (SlU.alloc (S1.out.keep (B' := w1.heap.size) hb1.size fun p hp => hb1.cell hp) (.cells #[.int .i64 k1, .int .i64 l1, .slice A1 r1.length cap1] 57)) (.cells #[.int .i64 k2, .int .i64 l2, .slice A2 r2.length cap2] 57))
    have T2 := Lib.hid (SlU.alloc (SlU.alloc (S2.out.keep (B' := w1.heap.size) hb1.size fun p hp => hb1.cell hp) (.cells #[.int .i64 k1, .int .i64 l1, .slice A1 r1.length cap1] 57)) (.cells #[.int .i64 k2, .int .i64 l2, .slice A2 r2.length cap2] 57))
    have D1 := Lib.hid ((hD1.alloc (.cells #[.int .i64 k1, .int .i64 l1, .slice A1 r1.length cap1] 57)).alloc (.cells #[.int .i64 k2, .int .i64 l2, .slice A2 r2.length cap2] 57))
    have D2 := Lib.hid ((hD2.alloc (.cells #[.int .i64 k1, .int .i64 l1, .slice A1 r1.length cap1] 57)).alloc (.cells #[.int .i64 k2, .int .i64 l2, .slice A2 r2.length cap2] 57))
    have q1 := hD1.l_le
    have q2 := hD2.l_le
    have X1 : Hid (digBox ((w1.alloc (.cells #[.int .i64 k1, .int .i64 l1, .slice A1 r1.length cap1] 57)).alloc (.cells #[.int .i64 k2, .int .i64 l2, .slice A2 r2.length cap2] 57)) w1.heap.size k1 l1 A1 r1.length cap1) := Lib.hid (twoBox_1 w1 k1 l1 A1 r1.length cap1 k2 l2 A2 r2.length cap2)
    have X2 : Hid (digBox ((w1.alloc (.cells #[.int .i64 k1, .int .i64 l1, .slice A1 r1.length cap1] 57)).alloc (.cells #[.int .i64 k2, .int .i64 l2, .slice A2 r2.length cap2] 57)) (w1.heap.size + 1) k2 l2 A2 r2.length cap2) := Lib.hid (twoBox_2 w1 k1 l1 A1 r1.length cap1 k2 l2 A2 r2.length cap2)
    have BB : Hid (Below w.heap.size w ((w1.alloc (.cells #[.int .i64 k1, .int .i64 l1, .slice A1 r1.length cap1] 57)).alloc (.cells #[.int .i64 k2, .int .i64 l2, .slice A2 r2.length cap2] 57))) := Lib.hid (B1.out.trans ((twoBox_below w1 k1 l1 A1 r1.length cap1 k2 l2 A2 r2.length cap2).mono B1.out.size))
    have Z2 : Hid (((w1.alloc (.cells #[.int .i64 k1, .int .i64 l1, .slice A1 r1.length cap1] 57)).alloc (.cells #[.int .i64 k2, .int .i64 l2, .slice A2 r2.length cap2] 57)).heap[w.heap.size + 1 + 1]? = some (.cells #[.int .i64 x, .int .i64 y] 74 (0, 0))) := Lib.hid (blk_below (blk_below HX.out.z hb1) (twoBox_below w1 k1 l1 A1 r1.length cap1 k2 l2 A2 r2.length cap2))
    clear hb1 hD1 hD2 cx cy zx zy BX B1 T1 T2 X1 X2
    go_upto_region 4 with fail
    generalize (w1.alloc (.cells #[.int .i64 k1, .int .i64 l1, .slice A1 r1.length cap1] 57)).alloc (.cells #[.int .i64 k2, .int .i64 l2, .slice A2 r2.length cap2] 57) = w2 at D1 D2 Z2 BB ⊢
    have u1 := (D1.out.fits).roll
    have u2 := (D2.out.fits).roll
    have HSd := Lib.hid (fun (W : World) (a : DigAt W g1 K1 l1 k1 r1 F1) (b : DigAt W g2 K2 l2 k2 r2 F2) => gap_Side W g1 K1 l1 g2 K2 l2 k1 k2 r1 r2 F1 F2 x a b p1 p2)
    have HSe := Lib.hid (fun (W : World) (a : DigAt W g1 K1 l1 k1 r1 F1) (b : DigAt W g2 K2 l2 k2 r2 F2) => by
      have := gap_Side W g2 K2 l2 g1 K1 l1 k2 k1 r2 r1 F2 F1 x b a p2 p1
      rw [sideT_turn u1 u2 R1 R2, gapErr_turn] at this
      exact this)
    have HAp := Lib.hid (fun (W : World) (a : DigAt W g1 K1 l1 k1 r1 F1) (b : DigAt W g2 K2 l2 k2 r2 F2) => gap_Apart W g1 K1 l1 g2 K2 l2 k1 k2 r1 r2 F1 F2 a b p1 p2)
    have HAq := Lib.hid (fun (W : World) (a : DigAt W g1 K1 l1 k1 r1 F1) (b : DigAt W g2 K2 l2 k2 r2 F2) => by
      have := gap_Apart W g2 K2 l2 g1 K1 l1 k2 k1 r2 r1 F2 F1 b a p2 p1
      rw [apT_turn u1 u2 R1 R2, gapErr_turn] at this
      exact this)
    have HMo := Lib.hid (fun (W : World) (a : DigAt W g1 K1 l1 k1 r1 F1) (b : DigAt W g2 K2 l2 k2 r2 F2) => gap_Most W g1 K1 l1 g2 K2 l2 k1 k2 r1 r2 F1 F2 y a b p1 p2 hy)
    have HMp := Lib.hid (fun (W : World) (a : DigAt W g1 K1 l1 k1 r1 F1) (b : DigAt W g2 K2 l2 k2 r2 F2) => by
      have := gap_Most W g2 K2 l2 g1 K1 l1 k2 k1 r2 r1 F2 F1 y b a p2 p1 hy
      rw [gapMostT_turn, gapMostErr_turn] at this
      exact this)
    have rs := sideT_range l1 l2 r1 r2 x
    have ra := apT_range l1 l2 r1 r2
    generalize sideT l1 l2 r1 r2 x = s at HSd HSe rs
    generalize apT l1 l2 r1 r2 = ap at HAp HAq ra
    generalize gapErr l1 l2 r1 r2 = er at HSd HSe HAp HAq
    generalize gapMostT l1 l2 r1 r2 y = mo at HMo HMp
    generalize gapMostErr l1 l2 r1 r2 y = me at HMo HMp
    have cz : w2.cell? ⟨w.heap.size + 1 + 1, 0, none⟩ = some (.int .i64 x) := blk_cell Z2.out 0
    have zz := lt_of_block Z2.out
    go_wp2_with fail
    refine (HSd.out _ D1.out D2.out).mono ?_
    rintro e w3 ⟨rfl, hb3⟩
    have D3 := Lib.hid (D1.out.below hb3)
    have E3 := Lib.hid (D2.out.below hb3)
    have Z3 := Lib.hid (blk_below Z2.out hb3)
    have B3 := Lib.hid (BB.out.trans (hb3.mono BB.out.size))
    clear hb3 cz zz D1 D2 Z2 BB
    have cz : w3.cell? ⟨w.heap.size + 1 + 1, 0, none⟩ = some (.int .i64 x) := blk_cell Z3.out 0
    have zz := lt_of_block Z3.out
    go_wp2_with fail
    refine (HSe.out _ D3.out E3.out).mono ?_
    rintro e w4 ⟨rfl, hb3⟩
    have D4 := Lib.hid (D3.out.below hb3)
    have E4 := Lib.hid (E3.out.below hb3)
    have Z4 := Lib.hid (blk_below Z3.out hb3)
    have B4 := Lib.hid (B3.out.trans (hb3.mono B3.out.size))
    clear hb3 cz zz D3 E3 Z3 B3
    go_wp2_with fail
    refine (HAp.out _ D4.out E4.out).mono ?_
    rintro e w5 ⟨rfl, hb3⟩
    have D5 := Lib.hid (D4.out.below hb3)
    have E5 := Lib.hid (E4.out.below hb3)
    have Z5 := Lib.hid (blk_below Z4.out hb3)
    have B5 := Lib.hid (B4.out.trans (hb3.mono B4.out.size))
    clear hb3 D4 E4 Z4 B4
    go_wp2_with fail
    refine (HAq.out _ D5.out E5.out).mono ?_
    rintro e w6 ⟨rfl, hb3⟩
    have D6 := Lib.hid (D5.out.below hb3)
    have E6 := Lib.hid (E5.out.below hb3)
    have Z6 := Lib.hid (blk_below Z5.out hb3)
    have B6 := Lib.hid (B5.out.trans (hb3.mono B5.out.size))
    clear hb3 D5 E5 Z5 B5
    have cz : w6.cell? ⟨w.heap.size + 1 + 1, 1, none⟩ = some (.int .i64 y) := blk_cell Z6.out 1
    have zz := lt_of_block Z6.out
    go_upto_region 8 with fail
    go_wp2_with fail
    refine (HMo.out _ D6.out E6.out).mono ?_
    rintro e w7 ⟨rfl, hb7⟩
    have D7 := Lib.hid ((D6.out.below hb7).alloc (.cells #[.int .i64 mo.1, .int .i64 mo.2] 51))
    have E7 := Lib.hid ((E6.out.below hb7).alloc (.cells #[.int .i64 mo.1, .int .i64 mo.2] 51))
    have Z7 := Lib.hid (blk_below Z6.out (hb7.alloc hb7.size (.cells #[.int .i64 mo.1, .int .i64 mo.2] 51)))
    have B7 := Lib.hid (B6.out.trans ((hb7.alloc hb7.size (.cells #[.int .i64 mo.1, .int .i64 mo.2] 51)).mono B6.out.size))
    have R7 := Lib.hid (bothAt.new w7 mo.1 mo.2)
    clear hb7 cz zz D6 E6 Z6 B6
    go_upto_region 9 with fail
    obtain ⟨b8, hb8⟩ : ∃ b, b = w7.heap.size := ⟨_, rfl⟩
    rw [← hb8] at R7 ⊢
    generalize w7.alloc (.cells #[.int .i64 mo.1, .int .i64 mo.2] 51) = w8 at D7 E7 Z7 B7 R7 ⊢
    have cz : w8.cell? ⟨w.heap.size + 1 + 1, 1, none⟩ = some (.int .i64 y) := blk_cell Z7.out 1
    have zz := lt_of_block Z7.out
    clear hb8
    go_wp2_with fail
    refine (HMp.out _ D7.out E7.out).mono ?_
    rintro e w9 ⟨rfl, hb9⟩
    have D9 := Lib.hid ((D7.out.below hb9).alloc (.cells #[.int .i64 mo.1, .int .i64 mo.2] 51))
    have Z9 := Lib.hid (blk_below Z7.out (hb9.alloc hb9.size (.cells #[.int .i64 mo.1, .int .i64 mo.2] 51)))
    have B9 := Lib.hid (B7.out.trans ((hb9.alloc hb9.size (.cells #[.int .i64 mo.1, .int .i64 mo.2] 51)).mono B7.out.size))
    have R9 := Lib.hid (R7.out.below (hb9.alloc hb9.size (.cells #[.int .i64 mo.1, .int .i64 mo.2] 51)))
    have Q9 := Lib.hid (bothAt.new w9 mo.1 mo.2)
    clear hb9 cz zz D7 E7 Z7 B7 R7
    go_upto_region 10 with fail
    obtain ⟨b9, hb9⟩ : ∃ b, b = w9.heap.size := ⟨_, rfl⟩
    rw [← hb9] at Q9 ⊢
    generalize w9.alloc (.cells #[.int .i64 mo.1, .int .i64 mo.2] 51) = wA at D9 Z9 B9 R9 Q9 ⊢
    clear hb9
    have cr := blk_cell R9.out
    have zr := lt_of_block R9.out
    have cq := blk_cell Q9.out
    have zq := lt_of_block Q9.out
    obtain ⟨rs1, rs2⟩ := rs
    obtain ⟨ra1, ra2⟩ := ra
    go_upto_region 12 with fail
    clear cr zr cq zq
    go_wp2_with fail
    refine (digest_Clone _ g1 K1 l1 k1 r1 F1 D9.out).mono ?_
    rintro e wB ⟨gc, Fc, rfl, hDc, _, hbB⟩
    have DB := Lib.hid (D9.out.below hbB)
    have ZB := Lib.hid (blk_below Z9.out hbB)
    have BB := Lib.hid (B9.out.trans (hbB.mono B9.out.size))
    have hA := gap_Apart wB g1 K1 l1 gc K1 l1 k1 k1 r1 r1 F1 Fc DB.out hDc p1 p1
    rw [apT_same u1 R1] at hA
    have HA := Lib.hid hA
    clear hA hDc hbB D9 Z9 B9 R9 Q9
    go_wp2_with fail
    refine HA.out.mono ?_
    rintro e wC ⟨rfl, hbC⟩
    have DD := Lib.hid (DB.out.below hbC)
    have ZD := Lib.hid (blk_below ZB.out hbC)
    have BD := Lib.hid (BB.out.trans (hbC.mono BB.out.size))
    clear hbC DB ZB BB HA
    go_upto_region 13 with fail
    have HCl := Lib.hid (fun (W : World) (h : DigAt W g1 K1 l1 k1 r1 F1) => digest_Clone W g1 K1 l1 k1 r1 F1 h)
    have HMs := Lib.hid (fun (W : World) (gc : Nat) (Fc : Nat → Prop) (h : DigAt W g1 K1 l1 k1 r1 F1) (hc : DigAt W gc K1 l1 k1 r1 Fc) => gap_Most W g1 K1 l1 gc K1 l1 k1 k1 r1 r1 F1 Fc y h hc p1 p1 hy)
    have M0 := Lib.hid (gapMostT_same u1 R1 y)
    have M1 := Lib.hid (gapMostErr_same l1 u1 y)
    have M2 := Lib.hid (gapErr_same l1 u1)
    generalize gapMostT l1 l1 r1 r1 y = mo2 at HMs M0
    generalize gapMostErr l1 l1 r1 r1 y = me2 at HMs M1
    have cZ := blk_cell ZD.out
    have zZ := lt_of_block ZD.out
    go_cut [29, 30] (fun p q wx => ∃ P : Nat, p = .pointer (some ⟨P, 0, none⟩) ∧ q = .int .i64 me2 ∧ bothAt wx P mo2.1 mo2.2 ∧ Below wC.heap.size wC wx)
    case first =>
      refine wp_region_noPanic ?_
      refine wp_region_N (fun W => Below wC.heap.size wC W) [] (by kernel_rfl) (Below.drew (Below.refl _ _)) (fun hHeld => ?_)
      refine wpAnyN_pure (i := 0) (v := .pointer (some ⟨g1, 0, none⟩)) rfl (by kernel_rfl) (by kernel_rfl) (by kernel_rfl) (fun _ _ _ h => h) (Or.inl ⟨by rfl, fun W _ => by go_simp⟩) ?_
      try simp only [Act.put, List.setIfInBounds_toArray, List.set_cons_zero, List.set_cons_succ]
      refine wpAnyN_pure (i := 1) (v := .pointer (some ⟨g1, 0, none⟩)) rfl (by kernel_rfl) (by kernel_rfl) (by kernel_rfl) (fun _ _ _ h => h) (Or.inl ⟨by rfl, fun W _ => by go_simp⟩) ?_
      try simp only [Act.put, List.setIfInBounds_toArray, List.set_cons_zero, List.set_cons_succ]
      refine wpAnyN_pure (i := 3) (v := .pointer (some ⟨w.heap.size + 1 + 1, 1, none⟩)) rfl (by kernel_rfl) (by kernel_rfl) (by kernel_rfl) (fun _ _ _ h => h) (Or.inl ⟨by rfl, fun W _ => by go_simp⟩) ?_
      try simp only [Act.put, List.setIfInBounds_toArray, List.set_cons_zero, List.set_cons_succ]
      refine wpAnyN_take (i := 4) (v := .int .i64 y) rfl (by kernel_rfl) (by kernel_rfl) (by kernel_rfl) (by kernel_rfl) (fun _ _ _ h => h) (Or.inl ⟨by rfl, fun W hW => by have q1 := blk_cell (blk_below ZD.out hW); have q2 := lt_of_block (blk_below ZD.out hW); go_simp⟩) hHeld ?_
      try simp only [Act.put, List.setIfInBounds_toArray, List.set_cons_zero, List.set_cons_succ]
      have BW0 := hHeld
      clear hHeld cZ zZ
      generalize wC.drew = V0 at BW0 ⊢
      refine wpAnyN_two (i := 2) (k := 9) (by kernel_rfl) rfl rfl (fun K hK => ?_) (fun K hK => ?_)
      · skip
        go_simp
        refine (HCl.out _ (DD.out.below BW0)).mono ?_
        rintro e V1 ⟨gc2, Fc2, rfl, hDc1, _, hb⟩
        have BW1 := BW0.trans (hb.mono BW0.size)
        refine hK.out _ _ (fun _ _ => BW1) ?_
        clear hK K hb
        try simp only [Act.put, List.setIfInBounds_toArray, List.set_cons_zero, List.set_cons_succ]
        refine wpAnyN_two (i := 5) (k := 9) (by kernel_rfl) rfl rfl (fun K hK => ?_) (fun K hK => ?_)
        · skip
          go_simp
          refine (HMs.out _ gc2 Fc2 (DD.out.below BW1) hDc1).mono ?_
          rintro e V2 ⟨rfl, hb⟩
          have BW2 := BW1.trans (hb.mono BW1.size)
          refine hK.out _ _ (fun _ _ => BW2) ?_
          clear hK K hb
          try simp only [Act.put, List.setIfInBounds_toArray, List.set_cons_zero, List.set_cons_succ]
          refine wpAnyN_pure (i := 6) (v := .tuple #[.agg #[.int .i64 mo2.1, .int .i64 mo2.2], .int .i64 me2]) rfl (by kernel_rfl) (by kernel_rfl) (by kernel_rfl) (fun _ _ _ h => h) (Or.inl ⟨by rfl, fun W _ => by go_simp⟩) ?_
          try simp only [Act.put, List.setIfInBounds_toArray, List.set_cons_zero, List.set_cons_succ]
          refine wpAnyN_pure (i := 7) (v := .agg #[.int .i64 mo2.1, .int .i64 mo2.2]) rfl (by kernel_rfl) (by kernel_rfl) (by kernel_rfl) (fun _ _ _ h => h) (Or.inl ⟨by rfl, fun W _ => by go_simp⟩) ?_
          try simp only [Act.put, List.setIfInBounds_toArray, List.set_cons_zero, List.set_cons_succ]
          refine wpAnyN_pure (i := 8) (v := .int .i64 me2) rfl (by kernel_rfl) (by kernel_rfl) (by kernel_rfl) (fun _ _ _ h => h) (Or.inl ⟨by rfl, fun W _ => by go_simp⟩) ?_
          try simp only [Act.put, List.setIfInBounds_toArray, List.set_cons_zero, List.set_cons_succ]
          refine wpAnyN_one (i := 9) (by kernel_rfl) rfl (fun K hK => ?_)
          go_simp
          refine hK.out _ _ (fun _ _ => BW2.alloc BW2.size _) ?_
          clear hK K
          try simp only [Act.put, List.setIfInBounds_toArray, List.set_cons_zero, List.set_cons_succ]
          have hp3 := heap_alloc_new V2 (.cells #[.int .i64 0, .int .i64 0] 51)
          have BW3 := BW2.alloc BW2.size (.cells #[.int .i64 0, .int .i64 0] 51)
          have gP := BW2.size
          generalize V2.heap.size = P at hp3 gP ⊢
          generalize V2.alloc (.cells #[.int .i64 0, .int .i64 0] 51) = V3 at hp3 BW3 ⊢
          refine wpAnyN_one (i := 10) (by kernel_rfl) rfl (fun K hK => ?_)
          have ca := blk_cell hp3
          have fa := blk_frozen hp3
          have za := lt_of_block hp3
          go_simp
          have BW4 : Below wC.heap.size wC ((V3.setCell ⟨P, 0, none⟩ (.int .i64 mo2.1)).setCell ⟨P, 1, none⟩ (.int .i64 mo2.2)) := (BW3.setCell (p := ⟨P, 0, none⟩) gP _).setCell (p := ⟨P, 1, none⟩) gP _
          refine hK.out _ _ (fun _ _ => BW4) ?_
          clear hK K ca fa za
          try simp only [Act.put, List.setIfInBounds_toArray, List.set_cons_zero, List.set_cons_succ]
          have hp4 := (bothAt.set0 hp3 mo2.1).set1 mo2.2
          generalize ((V3.setCell ⟨P, 0, none⟩ (.int .i64 mo2.1)).setCell ⟨P, 1, none⟩ (.int .i64 mo2.2)) = V4 at BW4 hp4 ⊢
          refine wpAnyN_one (i := 11) (by kernel_rfl) rfl (fun K hK => ?_)
          go_simp
          refine hK.out _ _ (fun _ h => h) ?_
          clear hK K
          try simp only [Act.put, List.setIfInBounds_toArray, List.set_cons_zero, List.set_cons_succ]
          refine wpAnyN_done (by kernel_rfl) ?_ _
          refine NoPanic.normal ?_
          go_wp2_with fail
          go_meet
          exact ⟨P, rfl, rfl, hp4, BW4⟩
        · skip
          go_simp
          refine hK.out _ _ (fun _ _ => BW1.alloc BW1.size _) ?_
          clear hK K
          try simp only [Act.put, List.setIfInBounds_toArray, List.set_cons_zero, List.set_cons_succ]
          have hp2 := heap_alloc_new V1 (.cells #[.int .i64 0, .int .i64 0] 51)
          have BW2 := BW1.alloc BW1.size (.cells #[.int .i64 0, .int .i64 0] 51)
          have gP := BW1.size
          have hDc2 := hDc1.alloc (.cells #[.int .i64 0, .int .i64 0] 51)
          generalize V1.heap.size = P at hp2 gP ⊢
          generalize V1.alloc (.cells #[.int .i64 0, .int .i64 0] 51) = V2 at hp2 BW2 hDc2 ⊢
          refine wpAnyN_one (i := 5) (by kernel_rfl) rfl (fun K hK => ?_)
          go_simp
          refine (HMs.out _ gc2 Fc2 (DD.out.below BW2) hDc2).mono ?_
          rintro e V3 ⟨rfl, hb⟩
          have BW3 := BW2.trans (hb.mono BW2.size)
          have hp3 := blk_below hp2 hb
          refine hK.out _ _ (fun _ _ => BW3) ?_
          clear hK K hb
          try simp only [Act.put, List.setIfInBounds_toArray, List.set_cons_zero, List.set_cons_succ]
          refine wpAnyN_pure (i := 6) (v := .tuple #[.agg #[.int .i64 mo2.1, .int .i64 mo2.2], .int .i64 me2]) rfl (by kernel_rfl) (by kernel_rfl) (by kernel_rfl) (fun _ _ _ h => h) (Or.inl ⟨by rfl, fun W _ => by go_simp⟩) ?_
          try simp only [Act.put, List.setIfInBounds_toArray, List.set_cons_zero, List.set_cons_succ]
          refine wpAnyN_pure (i := 7) (v := .agg #[.int .i64 mo2.1, .int .i64 mo2.2]) rfl (by kernel_rfl) (by kernel_rfl) (by kernel_rfl) (fun _ _ _ h => h) (Or.inl ⟨by rfl, fun W _ => by go_simp⟩) ?_
          try simp only [Act.put, List.setIfInBounds_toArray, List.set_cons_zero, List.set_cons_succ]
          refine wpAnyN_pure (i := 8) (v := .int .i64 me2) rfl (by kernel_rfl) (by kernel_rfl) (by kernel_rfl) (fun _ _ _ h => h) (Or.inl ⟨by rfl, fun W _ => by go_simp⟩) ?_
          try simp only [Act.put, List.setIfInBounds_toArray, List.set_cons_zero, List.set_cons_succ]
          refine wpAnyN_one (i := 10) (by kernel_rfl) rfl (fun K hK => ?_)
          have ca := blk_cell hp3
          have fa := blk_frozen hp3
          have za := lt_of_block hp3
          go_simp
          have BW4 : Below wC.heap.size wC ((V3.setCell ⟨P, 0, none⟩ (.int .i64 mo2.1)).setCell ⟨P, 1, none⟩ (.int .i64 mo2.2)) := (BW3.setCell (p := ⟨P, 0, none⟩) gP _).setCell (p := ⟨P, 1, none⟩) gP _
          refine hK.out _ _ (fun _ _ => BW4) ?_
          clear hK K ca fa za
          try simp only [Act.put, List.setIfInBounds_toArray, List.set_cons_zero, List.set_cons_succ]
          have hp4 := (bothAt.set0 hp3 mo2.1).set1 mo2.2
          generalize ((V3.setCell ⟨P, 0, none⟩ (.int .i64 mo2.1)).setCell ⟨P, 1, none⟩ (.int .i64 mo2.2)) = V4 at BW4 hp4 ⊢
          refine wpAnyN_one (i := 11) (by kernel_rfl) rfl (fun K hK => ?_)
          go_simp
          refine hK.out _ _ (fun _ h => h) ?_
          clear hK K
          try simp only [Act.put, List.setIfInBounds_toArray, List.set_cons_zero, List.set_cons_succ]
          refine wpAnyN_done (by kernel_rfl) ?_ _
          refine NoPanic.normal ?_
          go_wp2_with fail
          go_meet
          exact ⟨P, rfl, rfl, hp4, BW4⟩
      · skip
        go_simp
        refine hK.out _ _ (fun _ _ => BW0.alloc BW0.size _) ?_
        clear hK K
        try simp only [Act.put, List.setIfInBounds_toArray, List.set_cons_zero, List.set_cons_succ]
        have hp1 := heap_alloc_new V0 (.cells #[.int .i64 0, .int .i64 0] 51)
        have BW1 := BW0.alloc BW0.size (.cells #[.int .i64 0, .int .i64 0] 51)
        have gP := BW0.size
        generalize V0.heap.size = P at hp1 gP ⊢
        generalize V0.alloc (.cells #[.int .i64 0, .int .i64 0] 51) = V1 at hp1 BW1 ⊢
        refine wpAnyN_one (i := 2) (by kernel_rfl) rfl (fun K hK => ?_)
        go_simp
        refine (HCl.out _ (DD.out.below BW1)).mono ?_
        rintro e V2 ⟨gc2, Fc2, rfl, hDc2, _, hb⟩
        have BW2 := BW1.trans (hb.mono BW1.size)
        have hp2 := blk_below hp1 hb
        refine hK.out _ _ (fun _ _ => BW2) ?_
        clear hK K hb
        try simp only [Act.put, List.setIfInBounds_toArray, List.set_cons_zero, List.set_cons_succ]
        refine wpAnyN_one (i := 5) (by kernel_rfl) rfl (fun K hK => ?_)
        go_simp
        refine (HMs.out _ gc2 Fc2 (DD.out.below BW2) hDc2).mono ?_
        rintro e V3 ⟨rfl, hb⟩
        have BW3 := BW2.trans (hb.mono BW2.size)
        have hp3 := blk_below hp2 hb
        refine hK.out _ _ (fun _ _ => BW3) ?_
        clear hK K hb
        try simp only [Act.put, List.setIfInBounds_toArray, List.set_cons_zero, List.set_cons_succ]
        refine wpAnyN_pure (i := 6) (v := .tuple #[.agg #[.int .i64 mo2.1, .int .i64 mo2.2], .int .i64 me2]) rfl (by kernel_rfl) (by kernel_rfl) (by kernel_rfl) (fun _ _ _ h => h) (Or.inl ⟨by rfl, fun W _ => by go_simp⟩) ?_
        try simp only [Act.put, List.setIfInBounds_toArray, List.set_cons_zero, List.set_cons_succ]
        refine wpAnyN_pure (i := 7) (v := .agg #[.int .i64 mo2.1, .int .i64 mo2.2]) rfl (by kernel_rfl) (by kernel_rfl) (by kernel_rfl) (fun _ _ _ h => h) (Or.inl ⟨by rfl, fun W _ => by go_simp⟩) ?_
        try simp only [Act.put, List.setIfInBounds_toArray, List.set_cons_zero, List.set_cons_succ]
        refine wpAnyN_pure (i := 8) (v := .int .i64 me2) rfl (by kernel_rfl) (by kernel_rfl) (by kernel_rfl) (fun _ _ _ h => h) (Or.inl ⟨by rfl, fun W _ => by go_simp⟩) ?_
        try simp only [Act.put, List.setIfInBounds_toArray, List.set_cons_zero, List.set_cons_succ]
        refine wpAnyN_one (i := 10) (by kernel_rfl) rfl (fun K hK => ?_)
        have ca := blk_cell hp3
        have fa := blk_frozen hp3
        have za := lt_of_block hp3
        go_simp
        have BW4 : Below wC.heap.size wC ((V3.setCell ⟨P, 0, none⟩ (.int .i64 mo2.1)).setCell ⟨P, 1, none⟩ (.int .i64 mo2.2)) := (BW3.setCell (p := ⟨P, 0, none⟩) gP _).setCell (p := ⟨P, 1, none⟩) gP _
        refine hK.out _ _ (fun _ _ => BW4) ?_
        clear hK K ca fa za
        try simp only [Act.put, List.setIfInBounds_toArray, List.set_cons_zero, List.set_cons_succ]
        have hp4 := (bothAt.set0 hp3 mo2.1).set1 mo2.2
        generalize ((V3.setCell ⟨P, 0, none⟩ (.int .i64 mo2.1)).setCell ⟨P, 1, none⟩ (.int .i64 mo2.2)) = V4 at BW4 hp4 ⊢
        refine wpAnyN_one (i := 11) (by kernel_rfl) rfl (fun K hK => ?_)
        go_simp
        refine hK.out _ _ (fun _ h => h) ?_
        clear hK K
        try simp only [Act.put, List.setIfInBounds_toArray, List.set_cons_zero, List.set_cons_succ]
        refine wpAnyN_done (by kernel_rfl) ?_ _
        refine NoPanic.normal ?_
        go_wp2_with fail
        go_meet
        exact ⟨P, rfl, rfl, hp4, BW4⟩
    case rest =>
      obtain ⟨P, rfl, rfl, hP, hbX⟩ := hcut
      have DX := Lib.hid (DD.out.below hbX)
      have ZX := Lib.hid (blk_below ZD.out hbX)
      have BX := Lib.hid (BD.out.trans (hbX.mono BD.out.size))
      rw [M0.out] at hP
      have PX := Lib.hid hP
      clear hbX hP cZ zZ
      have cP := blk_cell PX.out
      have zP := lt_of_block PX.out
      have cZ := blk_cell ZX.out
      have zZ := lt_of_block ZX.out
      have hN0 := sumR_nonneg u1
      have HN := Lib.hid (fun (W : World) (h : DigAt W g1 K1 l1 k1 r1 F1) => digest_N W g1 K1 l1 k1 r1 F1 h)
      generalize gapErr l1 l1 r1 r1 = e1 at M2 ⊢
      generalize sumR r1 = N at HN M1 M2 hN0
      rcases lt_or_dec 0 N with n1 | n1
      all_goals rcases le_or_dec 1 y with y1 | y1
      · skip
        have q1 := M2.out
        have q2 := M1.out
        have q3 := M0.out
        simp only [n1, y1, decide_true, Bool.and_true, Bool.true_and, Bool.false_and, Bool.and_false, decide_eq_true_eq, decide_eq_false_iff_not, Bool.and_self] at q1 q2
        have hq := q1
        have hm := q2
        subst hq
        subst hm
        clear q1 q2 q3 M0 M1 M2 HMs HCl
        go_wp2_with fail
        refine (HN.out _ DX.out).mono ?_
        rintro e w20 ⟨rfl, hb20⟩
        have DY := Lib.hid (DX.out.below hb20)
        have BY := Lib.hid (BX.out.trans (hb20.mono BX.out.size))
        have PY := Lib.hid (blk_below PX.out hb20)
        have ZY := Lib.hid (blk_below ZX.out hb20)
        clear hb20 cP zP cZ zZ
        have cP := blk_cell PY.out
        have cP := blk_cell PY.out
        have zP := lt_of_block PY.out
        have cZ := blk_cell ZY.out
        have zZ := lt_of_block ZY.out
        go_wp2_with fail
        refine (HN.out _ DY.out).mono ?_
        rintro e w21 ⟨rfl, hb21⟩
        have BV := Lib.hid (BY.out.trans (hb21.mono BY.out.size))
        have ZV := Lib.hid (blk_below ZY.out hb21)
        clear hb21 cP zP cZ zZ
        have cZ := blk_cell ZV.out
        have zZ := lt_of_block ZV.out
        go_wp2_with fail
        refine (alive21 _).mono ?_
        rintro e w30 ⟨rfl, hb30⟩
        go_wp2_with fail
        go_ret
        exact ⟨rfl, BV.out.trans (hb30.mono BV.out.size)⟩
      · skip
        have q1 := M2.out
        have q2 := M1.out
        have q3 := M0.out
        simp only [n1, y1, decide_true, Bool.and_true, Bool.true_and, Bool.false_and, Bool.and_false, decide_eq_true_eq, decide_eq_false_iff_not, Bool.and_self] at q1 q2
        have hq := q1
        have hm : decide (me2 = 0) = false := by simpa using q2
        have hmB : (me2 == 0) = false := by simpa using hm
        have hmF : (me2 = 0) = False := by simpa using hm
        have hyF : (1 ≤ y) = False := by simpa using y1
        subst hq
        clear q1 q2 q3 M0 M1 M2 HMs HCl
        go_wp2_with fail
        refine (HN.out _ DX.out).mono ?_
        rintro e w20 ⟨rfl, hb20⟩
        have DY := Lib.hid (DX.out.below hb20)
        have BY := Lib.hid (BX.out.trans (hb20.mono BX.out.size))
        have PY := Lib.hid (blk_below PX.out hb20)
        have ZY := Lib.hid (blk_below ZX.out hb20)
        clear hb20 cP zP cZ zZ
        have cP := blk_cell PY.out
        have cP := blk_cell PY.out
        have zP := lt_of_block PY.out
        have cZ := blk_cell ZY.out
        have zZ := lt_of_block ZY.out
        go_wp2_with fail
        refine (HN.out _ DY.out).mono ?_
        rintro e w21 ⟨rfl, hb21⟩
        have BV := Lib.hid (BY.out.trans (hb21.mono BY.out.size))
        have ZV := Lib.hid (blk_below ZY.out hb21)
        clear hb21 cP zP cZ zZ
        have cZ := blk_cell ZV.out
        have zZ := lt_of_block ZV.out
        go_wp2_with fail
        refine (alive21 _).mono ?_
        rintro e w30 ⟨rfl, hb30⟩
        go_wp2_with fail
        go_ret
        exact ⟨rfl, BV.out.trans (hb30.mono BV.out.size)⟩
      · skip
        have q1 := M2.out
        have q2 := M1.out
        have q3 := M0.out
        simp only [n1, y1, decide_true, Bool.and_true, Bool.true_and, Bool.false_and, Bool.and_false, decide_eq_true_eq, decide_eq_false_iff_not, Bool.and_self] at q1 q2
        have hq : decide (e1 = 0) = false := by simpa using q1
        have hm : decide (me2 = 0) = false := by simpa using q2
        have hqB : (e1 == 0) = false := by simpa using hq
        have hmB : (me2 == 0) = false := by simpa using hm
        have hqF : (e1 = 0) = False := by simpa using hq
        have hmF : (me2 = 0) = False := by simpa using hm
        have hNF : (0 < N) = False := by simpa using n1
        clear q1 q2 q3 M0 M1 M2 HMs HCl
        go_wp2_with fail
        refine (HN.out _ DX.out).mono ?_
        rintro e w20 ⟨rfl, hb20⟩
        have DY := Lib.hid (DX.out.below hb20)
        have BY := Lib.hid (BX.out.trans (hb20.mono BX.out.size))
        have PY := Lib.hid (blk_below PX.out hb20)
        have ZY := Lib.hid (blk_below ZX.out hb20)
        clear hb20 cP zP cZ zZ
        have cP := blk_cell PY.out
        have cP := blk_cell PY.out
        have zP := lt_of_block PY.out
        have cZ := blk_cell ZY.out
        have zZ := lt_of_block ZY.out
        go_wp2_with fail
        refine (HN.out _ DY.out).mono ?_
        rintro e w21 ⟨rfl, hb21⟩
        have BV := Lib.hid (BY.out.trans (hb21.mono BY.out.size))
        have ZV := Lib.hid (blk_below ZY.out hb21)
        clear hb21 cP zP cZ zZ
        have cZ := blk_cell ZV.out
        have zZ := lt_of_block ZV.out
        go_wp2_with fail
        refine (alive21 _).mono ?_
        rintro e w30 ⟨rfl, hb30⟩
        go_wp2_with fail
        go_ret
        exact ⟨rfl, BV.out.trans (hb30.mono BV.out.size)⟩
      · skip
        have q1 := M2.out
        have q2 := M1.out
        have q3 := M0.out
        simp only [n1, y1, decide_true, Bool.and_true, Bool.true_and, Bool.false_and, Bool.and_false, decide_eq_true_eq, decide_eq_false_iff_not, Bool.and_self] at q1 q2
        have hq : decide (e1 = 0) = false := by simpa using q1
        have hm : decide (me2 = 0) = false := by simpa using q2
        have hqB : (e1 == 0) = false := by simpa using hq
        have hmB : (me2 == 0) = false := by simpa using hm
        have hqF : (e1 = 0) = False := by simpa using hq
        have hmF : (me2 = 0) = False := by simpa using hm
        have hNF : (0 < N) = False := by simpa using n1
        clear q1 q2 q3 M0 M1 M2 HMs HCl
        go_wp2_with fail
        refine (HN.out _ DX.out).mono ?_
        rintro e w20 ⟨rfl, hb20⟩
        have DY := Lib.hid (DX.out.below hb20)
        have BY := Lib.hid (BX.out.trans (hb20.mono BX.out.size))
        have PY := Lib.hid (blk_below PX.out hb20)
        have ZY := Lib.hid (blk_below ZX.out hb20)
        clear hb20 cP zP cZ zZ
        have cP := blk_cell PY.out
        have cP := blk_cell PY.out
        have zP := lt_of_block PY.out
        have cZ := blk_cell ZY.out
        have zZ := lt_of_block ZY.out
        go_wp2_with fail
        refine (HN.out _ DY.out).mono ?_
        rintro e w21 ⟨rfl, hb21⟩
        have BV := Lib.hid (BY.out.trans (hb21.mono BY.out.size))
        have ZV := Lib.hid (blk_below ZY.out hb21)
        clear hb21 cP zP cZ zZ
        have cZ := blk_cell ZV.out
        have zZ := lt_of_block ZV.out
        go_wp2_with fail
        refine (alive21 _).mono ?_
        rintro e w30 ⟨rfl, hb30⟩
        go_wp2_with fail
        go_ret
        exact ⟨rfl, BV.out.trans (hb30.mono BV.out.size)⟩
  · have HC := Lib.hid (fun (W : World) (a : Sl W W.heap.size encN A1 r1) (b : Sl W W.heap.size encN A2 r2) => law21_two_no W l1 k1 K1 l2 k2 K2 A1 A2 cap1 cap2 r1 r2 h a b hI1 hI2 hm1 hm2)
    unfold loadedV at HC
    unfold loadedV
    clear h hS1 hS2 hI1 hI2
    go_enter Tryz.func11, Tryz.ntmps11
    go_upto_region 1 with fail
    generalize ((w.alloc (.cells #[.int .i64 l1, .int .i64 k1, .int .i64 K1, .slice A1 r1.length cap1] 48)).alloc (.cells #[.int .i64 l2, .int .i64 k2, .int .i64 K2, .slice A2 r2.length cap2] 48)).alloc (.cells #[.int .i64 x, .int .i64 y] 74) = W0 at HX ⊢
    have cx := blk_cell HX.out.x
    have cy := blk_cell HX.out.y
    have zx := lt_of_block HX.out.x
    have zy := lt_of_block HX.out.y
    have BX := HX.out.blw
    go_wp2_with fail
    refine (HC.out _ (HS.out.1.keep BX.size fun p hp => BX.cell hp) (HS.out.2.keep BX.size fun p hp => BX.cell hp)).mono ?_
    rintro e w1 ⟨a, b, x0, x1, X, n, m, y0, y1, Y, n', m', rfl, hb1⟩
    have B1 := BX.trans (hb1.mono BX.size)
    clear hb1 cx cy zx zy
    go_wp2_with fail
    refine (alive21 _).mono ?_
    rintro e w2 ⟨rfl, hb2⟩
    have B2 : Below w.heap.size w w2 := Below.then_ (by repeat (first | with_reducible exact Below.refl _ _ | with_reducible assumption | ((with_reducible refine Below.setCell ?_ ?_ _); rotate_left; · (first | omega | exact Nat.le_refl _ | (simp <;> omega))) | (with_reducible refine Below.allocW ?_ _) | (with_reducible refine Below.drew ?_) | (with_reducible refine Below.extW ?_ _))) hb2
    have s2 : w.heap.size ≤ w2.heap.size := B2.size
    go_wp2_with fail
    go_ret
    exact ⟨rfl, (by repeat (first | with_reducible exact Below.refl _ _ | with_reducible assumption | ((with_reducible refine Below.setCell ?_ ?_ _); rotate_left; · (first | omega | exact Nat.le_refl _ | (simp <;> omega))) | (with_reducible refine Below.allocW ?_ _) | (with_reducible refine Below.drew ?_) | (with_reducible refine Below.extW ?_ _)))⟩
end Go.Proofs.YtmadmlkmdnjmaaaGreat
/- Two numbers that come in. -/
namespace Go.Proofs.YtmadmlkmdnjmaaaGreat
open Go.ChangeShapes Go.WideShapes Go.ChangeAt Go.RowKit
set_option linter.unusedVariables false
set_option maxRecDepth 100000

theorem trod_two {H : Type} {enc : TypeId × Value → H} {P : Program} {w : World} {base : Nat} {spare : Nat → Bool} {held : Bool} {t e : TypeId} {fuel : Nat} {c0 c1 : Value} {x : DataW H × List MemPlace} (ht : P.underlying t = some (.array 2 e)) (hce : P.cellsOf e = 1)
    (h : DataW.trod enc P w base spare held fuel t [c0, c1] = some x) :
    ∃ y0 y1 n, x = (.agg [y0.1, y1.1], y0.2 ++ y1.2) ∧ DataW.trod enc P w base spare held n e [c0] = some y0 ∧ DataW.trod enc P w base spare held n e [c1] = some y1 := by
  cases fuel with
  | zero => simp [DataW.trod] at h
  | succ n =>
    unfold DataW.trod at h
    rw [ht] at h
    have r2 : List.range 2 = [0, 1] := rfl
    simp [r2, hce] at h
    obtain ⟨_, h⟩ := h
    cases h0 : DataW.trod enc P w base spare held n e [c0] with
    | none => simp [h0] at h
    | some y0 =>
      cases h1 : DataW.trod enc P w base spare held n e [c1] with
      | none => simp [h0, h1] at h
      | some y1 =>
        simp [h0, h1] at h
        exact ⟨y0, y1, n, h.symm, h0, h1⟩
theorem open_Ask2 {H : Type} {enc : TypeId × Value → H} {w : World} {base : Nat} {spare : Nat → Bool} {held : Bool} {r : Reach} {b0 : Nat} {v : Value} {d : DataW H} {p : List MemPlace}
    (hv : Value.okWide Tryz.prog w r b0 74 v) (h : DataW.Trod enc Tryz.prog w base spare held 74 v d p) :
    ∃ (a b : Int), v = .agg #[.int .i64 a, .int .i64 b] ∧ i64 a ∧ i64 b := by
  obtain ⟨cs, rfl, hsz, _⟩ : ∃ cs, v = .agg cs ∧ cs.size = (Tryz.prog).cellsOf 74 ∧ Row.okWide Tryz.prog w r b0 74 cs := by
    simpa [Value.okWide, Tryz.underlying74] using hv
  have hC : (Tryz.prog).cellsOf 74 = 2 := by kernel_rfl
  have hCi : (Tryz.prog).cellsOf 3 = 1 := by kernel_rfl
  rw [hC] at hsz
  obtain ⟨cs⟩ := cs
  match cs, hsz with
  | [c0, c1], _ =>
    obtain ⟨fuel, hf⟩ := h
    obtain ⟨y0, y1, m, _, g0, g1⟩ := trod_two Tryz.underlying74 hCi hf
    obtain ⟨k, e0, _, k0⟩ := DataW.trod_int Tryz.underlying3 g0
    obtain ⟨i, e1, _, k1⟩ := DataW.trod_int Tryz.underlying3 g1
    simp at e0 e1
    subst e0 e1
    exact ⟨k, i, rfl, i64_of_wf k0, i64_of_wf k1⟩
end Go.Proofs.YtmadmlkmdnjmaaaGreat
