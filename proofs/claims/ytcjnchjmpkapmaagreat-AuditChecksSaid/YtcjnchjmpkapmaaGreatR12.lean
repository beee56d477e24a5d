/-
  Texts of this proof, one behind the other: Two34, Two34N, Two34B, Two34D, Two34E, Two34A, OpenReads, AuditStandsW, AuditOffW, Ref11, Ref11A, Ref11B, Ref11C, AuditChecksW.
-/
import Derived.Test.YtcjnchjmpkapmaaGreatP2
import Derived.Test.YtcjnchjmpkapmaaGreatP3
import Derived.Test.YtcjnchjmpkapmaaGreatR4
import Derived.Test.YtcjnchjmpkapmaaGreatR5
import Derived.Test.YtcjnchjmpkapmaaGreatR6
import Derived.Test.YtcjnchjmpkapmaaGreatR9
import Derived.Test.YtcjnchjmpkapmaaGreatR11
/- Chapter 34: two. -/
set_option linter.unusedSimpArgs false namespace Go.Proofs.YtcjnchjmpkapmaaGreat
open Go.ChangeShapes Go.WideShapes Go.ChangeAt Go.RowKit
set_option linter.unusedVariables false
set_option linter.unusedSimpArgs false
set_option maxRecDepth 100000

set_option maxHeartbeats 8000000 in
theorem law34_two (w : World) (l K lb : Nat) (k : Int) (r : List Nd) (A : Option Addr) (cap : Nat) (q : List Nd) (B : Option Addr) (cb : Nat) (hg : goodL l k K r) (hS : Sl w w.heap.size encN A r) (hI : ints r) (hSb : Sl w w.heap.size encN B q) (hIb : ints q) (hlb : 1 ≤ lb ∧ lb ≤ 48) (h1 : r.length ≤ 60) (h2 : q.length ≤ 60) :
    Calls Tryz.prog 58 #[loadedV l k K A r.length cap, .int .i64 lb, .slice B q.length cb] w fun e w' => ∃ g F gb A2 c2, e = .returned (.tuple #[.pointer (some ⟨g, 0, none⟩), .pointer (some ⟨gb, 0, none⟩), .agg #[.int .i64 k, .int .i64 l, .slice A r.length cap], bagV lb A2 (madeB lb q).length c2, .bool true]) ∧ DigAt w' g K l k r F ∧ BagAt w' w.heap.size gb lb (madeB lb q) ∧ SlT w' 96 encN A2 (madeB lb q) ∧ Below w.heap.size w w' := by
  have HC := Lib.hid (law16_Load · l K k A cap r hg · hI)
  have HM := Lib.hid (law10_Made · lb B cb q hlb · hIb (by omega))
  have HS := Lib.hid (And.intro hS hSb)
  unfold loadedV refDig at HC
  unfold bagV at HM ⊢
  unfold loadedV
  have r1 : decide ((60 : Int) < (r.length : Int)) = false := by simp; omega
  have r2 : decide ((60 : Int) < (q.length : Int)) = false := by simp; omega
  have r3 : (1 : Int) ≤ (lb : Int) := by omega
  have r4 : (lb : Int) ≤ 48 := by omega
  clear hS hSb hI hIb hg
  obtain ⟨W0, hW0⟩ : ∃ W0, W0 = ((w.alloc (.cells #[.int .i64 l, .int .i64 k, .int .i64 K, .slice A r.length cap] 48)).alloc (.cells #[.int .i64 0, .int .i64 0, .slice none 0 0] 63)).alloc (.cells #[.int .i64 0, .slice none 0 0] 31) := ⟨_, rfl⟩
  have Z0 : Hid (W0.heap.size = w.heap.size + 3) := Lib.hid (by rw [hW0]; simp)
  have BW0 := Lib.hid (show Below w.heap.size w W0 by rw [hW0]; exact (by repeat (first | with_reducible exact Below.refl _ _ | with_reducible assumption | ((with_reducible refine Below.setCell ?_ ?_ _); rotate_left; · (first | omega | exact Nat.le_refl _ | (simp <;> omega))) | (with_reducible refine Below.allocW ?_ _) | (with_reducible refine Below.drew ?_) | (with_reducible refine Below.extW ?_ _))))
  have X0 : Hid (W0.heap[w.heap.size]? = some (.cells #[.int .i64 l, .int .i64 k, .int .i64 K, .slice A r.length cap] 48 (0, 0))) := Lib.hid (by rw [hW0]; exact (heap_new_lt _ _ _ (by simp; omega)).trans ((heap_new_lt _ _ _ (by simp)).trans (heap_alloc_new w _)))
  have X1 : Hid (W0.heap[w.heap.size + 1]? = some (.cells #[.int .i64 0, .int .i64 0, .slice none 0 0] 63 (0, 0))) := Lib.hid (by rw [hW0]; exact (heap_new_lt _ _ _ (by simp)).trans (heap_new_at (w.alloc _) _ _ (by simp)))
  have X2 : Hid (W0.heap[w.heap.size + 2]? = some (.cells #[.int .i64 0, .slice none 0 0] 31 (0, 0))) := Lib.hid (by rw [hW0]; exact heap_new_at _ _ _ (by simp))
  go_enter Tryz.func58, Tryz.ntmps58
  go_upto_region 1 with fail
  rw [← hW0]
  have c0 := blk_cell X0.out
  have z0 := lt_of_block X0.out
  have S0 := Lib.hid (HS.out.1.keep (B' := W0.heap.size) BW0.out.size fun p hp => BW0.out.cell hp)
  clear hW0
  go_wp2_with fail
  refine (HC.out _ S0.out).mono ?_
  rintro e w1 ⟨g, F, rfl, hD, hF, hb1⟩
  have Y1 := blk_below X1.out hb1
  have Y2 := blk_below X2.out hb1
  have d1 := blk_cell Y1
  have f1 := blk_frozen Y1
  have z1 := lt_of_block Y1
  have hFw : ∀ b, F b → b ≠ w.heap.size + 1 := fun b hb => by have := hF b hb; have := Z0.out; omega
  have hFw2 : ∀ b, F b → b ≠ w.heap.size + 2 := fun b hb => by have := hF b hb; have := Z0.out; omega
  have y0 := heap_set_at (i := 0) Y1 (.int .i64 k)
  have y1 := heap_set_at (i := 1) y0 (.int .i64 l)
  have y2 := heap_set_at (i := 2) y1 (.slice A r.length cap)
  have D3 := ((hD.set (q := w.heap.size + 1) (o := 0) (u := .int .i64 k) hFw).set (q := w.heap.size + 1) (o := 1) (u := .int .i64 l) hFw).set (q := w.heap.size + 1) (o := 2) (u := .slice A r.length cap) hFw
  have B3 := ((((Below.then_ BW0.out hb1).setCell (p := ⟨w.heap.size + 1, 0, none⟩) (by simp) (.int .i64 k)).setCell (p := ⟨w.heap.size + 1, 1, none⟩) (by simp) (.int .i64 l)).setCell (p := ⟨w.heap.size + 1, 2, none⟩) (by simp) (.slice A r.length cap))
  have q2 := (Below.heap_setCell ((w1.setCell ⟨w.heap.size + 1, 0, none⟩ (.int .i64 k)).setCell ⟨w.heap.size + 1, 1, none⟩ (.int .i64 l)) ⟨w.heap.size + 1, 2, none⟩ (.slice A r.length cap) (w.heap.size + 2) (by simp)).trans ((Below.heap_setCell (w1.setCell ⟨w.heap.size + 1, 0, none⟩ (.int .i64 k)) ⟨w.heap.size + 1, 1, none⟩ (.int .i64 l) (w.heap.size + 2) (by simp)).trans ((Below.heap_setCell w1 ⟨w.heap.size + 1, 0, none⟩ (.int .i64 k) (w.heap.size + 2) (by simp)).trans Y2))
  have N := Lib.hid (And.intro y2 (And.intro q2 (And.intro D3 B3)))
  have HFW := Lib.hid (And.intro hFw hFw2)
  clear hb1 hD hF Y2 y0 y1 y2 D3 B3 q2 hFw hFw2 c0 z0
  go_upto_region 4 with fail
  generalize ((w1.setCell ⟨w.heap.size + 1, 0, none⟩ (.int .i64 k)).setCell ⟨w.heap.size + 1, 1, none⟩ (.int .i64 l)).setCell ⟨w.heap.size + 1, 2, none⟩ (.slice A r.length cap) = w3 at N ⊢
  clear d1 f1 z1 Y1
  have S3 := Lib.hid (HS.out.2.keep (B' := w3.heap.size) N.out.2.2.2.size fun p hp => N.out.2.2.2.cell hp)
  go_wp2_with fail
  refine (HM.out _ S3.out).mono ?_
  rintro e w4 ⟨gb, A2, c2, rfl, hBg, hS2, hb4⟩
  have Y2 := blk_below N.out.2.1 hb4
  have Y1 := blk_below N.out.1 hb4
  have d1 := blk_cell Y2
  have f1 := blk_frozen Y2
  have z1 := lt_of_block Y2
  have hz3 : w.heap.size + 3 ≤ w3.heap.size := by have := lt_of_block N.out.2.1; omega
  have y0 := heap_set_at (i := 0) Y2 (.int .i64 lb)
  have y1 := heap_set_at (i := 1) y0 (.slice A2 (madeB lb q).length c2)
  have q1 := (Below.heap_setCell (w4.setCell ⟨w.heap.size + 2, 0, none⟩ (.int .i64 lb)) ⟨w.heap.size + 2, 1, none⟩ (.slice A2 (madeB lb q).length c2) (w.heap.size + 1) (by simp)).trans ((Below.heap_setCell w4 ⟨w.heap.size + 2, 0, none⟩ (.int .i64 lb) (w.heap.size + 1) (by simp)).trans Y1)
  have T2 : TypeAt w4 (w.heap.size + 2) 31 := TypeAt.of Y2
  have D5 := ((N.out.2.2.1.below hb4).set (q := w.heap.size + 2) (o := 0) (u := .int .i64 lb) HFW.out.2).set (q := w.heap.size + 2) (o := 1) (u := .slice A2 (madeB lb q).length c2) HFW.out.2
  have G5 := ((hBg.setCellB (p := ⟨w.heap.size + 2, 0, none⟩) (by simp only; omega) (.int .i64 lb)).setCellB (p := ⟨w.heap.size + 2, 1, none⟩) (by simp only; omega) (.slice A2 (madeB lb q).length c2))
  have L5 := (hS2.setCellT (p := ⟨w.heap.size + 2, 0, none⟩) (u := .int .i64 lb) T2 (by decide)).setCellT (p := ⟨w.heap.size + 2, 1, none⟩) (u := .slice A2 (madeB lb q).length c2) T2.setCell (by decide)
  have B5 := ((Below.then_ N.out.2.2.2 hb4).setCell (p := ⟨w.heap.size + 2, 0, none⟩) (by simp) (.int .i64 lb)).setCell (p := ⟨w.heap.size + 2, 1, none⟩) (by simp) (.slice A2 (madeB lb q).length c2)
  have M := Lib.hid (And.intro q1 (And.intro y1 (And.intro D5 (And.intro G5 (And.intro L5 B5)))))
  clear Y1 y0 y1 q1 T2 D5 G5 L5 B5 hBg hS2 hb4
  go_upto_region 6 with fail
  generalize (w4.setCell ⟨w.heap.size + 2, 0, none⟩ (.int .i64 lb)).setCell ⟨w.heap.size + 2, 1, none⟩ (.slice A2 (madeB lb q).length c2) = w5 at M ⊢
  clear d1 f1 z1 Y2
  have e1 := blk_cell M.out.1
  have g1 := blk_frozen M.out.1
  have t1 := lt_of_block M.out.1
  have e2 := blk_cell M.out.2.1
  have g2 := blk_frozen M.out.2.1
  have t2 := lt_of_block M.out.2.1
  go_region
  have T1 : TypeAt w5 (w.heap.size + 1) 63 := TypeAt.of M.out.1
  have T2 : TypeAt w5 (w.heap.size + 1 + 1) 31 := TypeAt.of M.out.2.1
  have D6 := Lib.hid (((((M.out.2.2.1.set (q := w.heap.size + 1) (o := 0) (u := .int .i64 k) HFW.out.1).set (q := w.heap.size + 1) (o := 1) (u := .int .i64 l) HFW.out.1).set (q := w.heap.size + 1) (o := 2) (u := .slice A r.length cap) HFW.out.1).set (q := w.heap.size + 1 + 1) (o := 0) (u := .int .i64 lb) HFW.out.2).set (q := w.heap.size + 1 + 1) (o := 1) (u := .slice A2 (madeB lb q).length c2) HFW.out.2)
  have G6 := Lib.hid ((((((M.out.2.2.2.1).setCellB (p := ⟨w.heap.size + 1, 0, none⟩) (by simp only; omega) (.int .i64 k)).setCellB (p := ⟨w.heap.size + 1, 1, none⟩) (by simp only; omega) (.int .i64 l)).setCellB (p := ⟨w.heap.size + 1, 2, none⟩) (by simp only; omega) (.slice A r.length cap)).setCellB (p := ⟨w.heap.size + 1 + 1, 0, none⟩) (by simp only; omega) (.int .i64 lb)).setCellB (p := ⟨w.heap.size + 1 + 1, 1, none⟩) (by simp only; omega) (.slice A2 (madeB lb q).length c2))
  have L6 := Lib.hid (((((M.out.2.2.2.2.1.setCellT (p := ⟨w.heap.size + 1, 0, none⟩) (u := .int .i64 k) T1 (by decide)).setCellT (p := ⟨w.heap.size + 1, 1, none⟩) (u := .int .i64 l) T1.setCell (by decide)).setCellT (p := ⟨w.heap.size + 1, 2, none⟩) (u := .slice A r.length cap) T1.setCell.setCell (by decide)).setCellT (p := ⟨w.heap.size + 1 + 1, 0, none⟩) (u := .int .i64 lb) T2.setCell.setCell.setCell (by decide)).setCellT (p := ⟨w.heap.size + 1 + 1, 1, none⟩) (u := .slice A2 (madeB lb q).length c2) T2.setCell.setCell.setCell.setCell (by decide))
  have B6 := Lib.hid (Below.setCell (p := ⟨w.heap.size + 1 + 1, 1, none⟩) (Below.setCell (p := ⟨w.heap.size + 1 + 1, 0, none⟩) (Below.setCell (p := ⟨w.heap.size + 1, 2, none⟩) (Below.setCell (p := ⟨w.heap.size + 1, 1, none⟩) (Below.setCell (p := ⟨w.heap.size + 1, 0, none⟩) M.out.2.2.2.2.2 (by simp only; omega) (.int .i64 k)) (by simp only; omega) (.int .i64 l)) (by simp only; omega) (.slice A r.length cap)) (by simp only; omega) (.int .i64 lb)) (by simp only; omega) (.slice A2 (madeB lb q).length c2))
  clear T1 T2
  go_wp2_with fail
  exact bodyPost_ret (v := .tuple #[.pointer (some ⟨g, 0, none⟩), .pointer (some ⟨gb, 0, none⟩), .agg #[.int .i64 k, .int .i64 l, .slice A r.length cap], .agg #[.int .i64 lb, .slice A2 (madeB lb q).length c2], .bool true]) (by simp only [results, Tryz.results58]; go_simp) rfl ⟨g, F, gb, A2, c2, rfl, D6.out.drew, G6.out.mono (by omega), L6.out.drew, B6.out.drew⟩
end Go.Proofs.YtcjnchjmpkapmaaGreat
/- Chapter 34: two, where there is too much. -/
namespace Go.Proofs.YtcjnchjmpkapmaaGreat
open Go.ChangeShapes Go.WideShapes Go.ChangeAt Go.RowKit
set_option linter.unusedVariables false
set_option linter.unusedSimpArgs false
set_option maxRecDepth 100000

def nothing34 : Value := .tuple #[.pointer none, .pointer none, .agg #[.int .i64 0, .int .i64 0, .slice none 0 0], .agg #[.int .i64 0, .slice none 0 0], .bool false]
set_option maxHeartbeats 8000000 in
theorem law34_two_many (w : World) (l K k lb : Int) (A B : Option Addr) (n cap q cb : Nat) (h : 60 < n ∨ 60 < q) :
    Calls Tryz.prog 58 #[loadedV l k K A n cap, .int .i64 lb, .slice B q cb] w fun e w' => e = .returned nothing34 ∧ Below w.heap.size w w' := by
  unfold loadedV nothing34
  obtain ⟨W0, hW0⟩ : ∃ W0, W0 = ((w.alloc (.cells #[.int .i64 l, .int .i64 k, .int .i64 K, .slice A n cap] 48)).alloc (.cells #[.int .i64 0, .int .i64 0, .slice none 0 0] 63)).alloc (.cells #[.int .i64 0, .slice none 0 0] 31) := ⟨_, rfl⟩
  have BW0 := Lib.hid (show Below w.heap.size w W0 by rw [hW0]; exact (by repeat (first | with_reducible exact Below.refl _ _ | with_reducible assumption | ((with_reducible refine Below.setCell ?_ ?_ _); rotate_left; · (first | omega | exact Nat.le_refl _ | (simp <;> omega))) | (with_reducible refine Below.allocW ?_ _) | (with_reducible refine Below.drew ?_) | (with_reducible refine Below.extW ?_ _))))
  have X0 : Hid (W0.heap[w.heap.size]? = some (.cells #[.int .i64 l, .int .i64 k, .int .i64 K, .slice A n cap] 48 (0, 0))) := Lib.hid (by rw [hW0]; exact (heap_new_lt _ _ _ (by simp; omega)).trans ((heap_new_lt _ _ _ (by simp)).trans (heap_alloc_new w _)))
  have X1 : Hid (W0.heap[w.heap.size + 1]? = some (.cells #[.int .i64 0, .int .i64 0, .slice none 0 0] 63 (0, 0))) := Lib.hid (by rw [hW0]; exact (heap_new_lt _ _ _ (by simp)).trans (heap_new_at (w.alloc _) _ _ (by simp)))
  have X2 : Hid (W0.heap[w.heap.size + 1 + 1]? = some (.cells #[.int .i64 0, .slice none 0 0] 31 (0, 0))) := Lib.hid (by rw [hW0]; exact heap_new_at _ _ _ (by simp))
  have cs : (60 : Int) < (n : Int) ∨ (decide ((60 : Int) < (n : Int)) = false ∧ (60 : Int) < (q : Int)) := by
    by_cases hn : 60 < n
    · exact .inl (by omega)
    · exact .inr ⟨by simp; omega, by omega⟩
  go_enter Tryz.func58, Tryz.ntmps58
  go_upto_region 1 with fail
  rw [← hW0]
  have c0 := blk_cell X0.out
  have z0 := lt_of_block X0.out
  have e1 := blk_cell X1.out
  have g1 := blk_frozen X1.out
  have t1 := lt_of_block X1.out
  have e2 := blk_cell X2.out
  have g2 := blk_frozen X2.out
  have t2 := lt_of_block X2.out
  have B6 := Lib.hid ((((((BW0.out.setCell (p := ⟨w.heap.size + 1, 0, none⟩) (by simp) (.int .i64 0)).setCell (p := ⟨w.heap.size + 1, 1, none⟩) (by simp) (.int .i64 0)).setCell (p := ⟨w.heap.size + 1, 2, none⟩) (by simp) (.slice none 0 0)).setCell (p := ⟨w.heap.size + 1 + 1, 0, none⟩) (by simp only; omega) (.int .i64 0)).setCell (p := ⟨w.heap.size + 1 + 1, 1, none⟩) (by simp only; omega) (.slice none 0 0)))
  clear hW0 h
  rcases cs with k1 | ⟨k1, k2⟩
  · go_upto_region 2 with fail
    go_region
    all_goals go_wp2_with fail
    all_goals exact bodyPost_ret (v := .tuple #[.pointer none, .pointer none, .agg #[.int .i64 0, .int .i64 0, .slice none 0 0], .agg #[.int .i64 0, .slice none 0 0], .bool false]) (by simp only [results, Tryz.results58]; go_simp) rfl ⟨rfl, B6.out.drew⟩
  · go_upto_region 2 with fail
    go_region
    all_goals go_wp2_with fail
    all_goals exact bodyPost_ret (v := .tuple #[.pointer none, .pointer none, .agg #[.int .i64 0, .int .i64 0, .slice none 0 0], .agg #[.int .i64 0, .slice none 0 0], .bool false]) (by simp only [results, Tryz.results58]; go_simp) rfl ⟨rfl, B6.out.drew⟩
end Go.Proofs.YtcjnchjmpkapmaaGreat
/- Chapter 34: two, where there is no bag. -/
namespace Go.Proofs.YtcjnchjmpkapmaaGreat
open Go.ChangeShapes Go.WideShapes Go.ChangeAt Go.RowKit
set_option linter.unusedVariables false
set_option linter.unusedSimpArgs false
set_option maxRecDepth 100000

set_option maxHeartbeats 8000000 in
theorem law34_two_bag (w : World) (l K : Nat) (k lb : Int) (r : List Nd) (A : Option Addr) (cap : Nat) (q : List Nd) (B : Option Addr) (cb : Nat) (hg : goodL l k K r) (hS : Sl w w.heap.size encN A r) (hI : ints r) (hSb : Sl w w.heap.size encN B q) (hIb : ints q) (hlb : lb < 1 ∨ 48 < lb) (h1 : r.length ≤ 60) (h2 : q.length ≤ 60) :
    Calls Tryz.prog 58 #[loadedV l k K A r.length cap, .int .i64 lb, .slice B q.length cb] w fun e w' => (∃ d b a1 a2 A1 n1 c1 b1 A2 n2 c2, e = .returned (.tuple #[d, b, .agg #[.int .i64 a1, .int .i64 a2, .slice A1 n1 c1], .agg #[.int .i64 b1, .slice A2 n2 c2], .bool false])) ∧ Below w.heap.size w w' := by
  have HC := Lib.hid (law16_Load · l K k A cap r hg · hI)
  have HS := Lib.hid (And.intro hS hSb)
  unfold loadedV refDig at HC
  unfold loadedV
  have r1 : decide ((60 : Int) < (r.length : Int)) = false := by simp; omega
  have r2 : decide ((60 : Int) < (q.length : Int)) = false := by simp; omega
  have lc : decide (1 ≤ lb) = false ∨ (1 ≤ lb ∧ decide (lb ≤ 48) = false) := by
    by_cases h : 1 ≤ lb
    · exact .inr ⟨h, by simp; omega⟩
    · exact .inl (by simpa using h)
  clear hS hSb hI hIb hg
  obtain ⟨W0, hW0⟩ : ∃ W0, W0 = ((w.alloc (.cells #[.int .i64 l, .int .i64 k, .int .i64 K, .slice A r.length cap] 48)).alloc (.cells #[.int .i64 0, .int .i64 0, .slice none 0 0] 63)).alloc (.cells #[.int .i64 0, .slice none 0 0] 31) := ⟨_, rfl⟩
  have Z0 : Hid (W0.heap.size = w.heap.size + 3) := Lib.hid (by rw [hW0]; simp)
  have BW0 := Lib.hid (show Below w.heap.size w W0 by rw [hW0]; exact (by repeat (first | with_reducible exact Below.refl _ _ | with_reducible assumption | ((with_reducible refine Below.setCell ?_ ?_ _); rotate_left; · (first | omega | exact Nat.le_refl _ | (simp <;> omega))) | (with_reducible refine Below.allocW ?_ _) | (with_reducible refine Below.drew ?_) | (with_reducible refine Below.extW ?_ _))))
  have X0 : Hid (W0.heap[w.heap.size]? = some (.cells #[.int .i64 l, .int .i64 k, .int .i64 K, .slice A r.length cap] 48 (0, 0))) := Lib.hid (by rw [hW0]; exact (heap_new_lt _ _ _ (by simp; omega)).trans ((heap_new_lt _ _ _ (by simp)).trans (heap_alloc_new w _)))
  have X1 : Hid (W0.heap[w.heap.size + 1]? = some (.cells #[.int .i64 0, .int .i64 0, .slice none 0 0] 63 (0, 0))) := Lib.hid (by rw [hW0]; exact (heap_new_lt _ _ _ (by simp)).trans (heap_new_at (w.alloc _) _ _ (by simp)))
  have X2 : Hid (W0.heap[w.heap.size + 2]? = some (.cells #[.int .i64 0, .slice none 0 0] 31 (0, 0))) := Lib.hid (by rw [hW0]; exact heap_new_at _ _ _ (by simp))
  go_enter Tryz.func58, Tryz.ntmps58
  go_upto_region 1 with fail
  rw [← hW0]
  have c0 := blk_cell X0.out
  have z0 := lt_of_block X0.out
  have S0 := Lib.hid (HS.out.1.keep (B' := W0.heap.size) BW0.out.size fun p hp => BW0.out.cell hp)
  clear hW0
  go_wp2_with fail
  refine (HC.out _ S0.out).mono ?_
  rintro e w1 ⟨g, F, rfl, hD, hF, hb1⟩
  have Y1 := blk_below X1.out hb1
  have Y2 := blk_below X2.out hb1
  have d1 := blk_cell Y1
  have f1 := blk_frozen Y1
  have z1 := lt_of_block Y1
  have hFw : ∀ b, F b → b ≠ w.heap.size + 1 := fun b hb => by have := hF b hb; have := Z0.out; omega
  have hFw2 : ∀ b, F b → b ≠ w.heap.size + 2 := fun b hb => by have := hF b hb; have := Z0.out; omega
  have y0 := heap_set_at (i := 0) Y1 (.int .i64 k)
  have y1 := heap_set_at (i := 1) y0 (.int .i64 l)
  have y2 := heap_set_at (i := 2) y1 (.slice A r.length cap)
  have D3 := ((hD.set (q := w.heap.size + 1) (o := 0) (u := .int .i64 k) hFw).set (q := w.heap.size + 1) (o := 1) (u := .int .i64 l) hFw).set (q := w.heap.size + 1) (o := 2) (u := .slice A r.length cap) hFw
  have B3 := ((((Below.then_ BW0.out hb1).setCell (p := ⟨w.heap.size + 1, 0, none⟩) (by simp) (.int .i64 k)).setCell (p := ⟨w.heap.size + 1, 1, none⟩) (by simp) (.int .i64 l)).setCell (p := ⟨w.heap.size + 1, 2, none⟩) (by simp) (.slice A r.length cap))
  have q2 := (Below.heap_setCell ((w1.setCell ⟨w.heap.size + 1, 0, none⟩ (.int .i64 k)).setCell ⟨w.heap.size + 1, 1, none⟩ (.int .i64 l)) ⟨w.heap.size + 1, 2, none⟩ (.slice A r.length cap) (w.heap.size + 2) (by simp)).trans ((Below.heap_setCell (w1.setCell ⟨w.heap.size + 1, 0, none⟩ (.int .i64 k)) ⟨w.heap.size + 1, 1, none⟩ (.int .i64 l) (w.heap.size + 2) (by simp)).trans ((Below.heap_setCell w1 ⟨w.heap.size + 1, 0, none⟩ (.int .i64 k) (w.heap.size + 2) (by simp)).trans Y2))
  have N := Lib.hid (And.intro y2 (And.intro q2 (And.intro D3 B3)))
  have HFW := Lib.hid (And.intro hFw hFw2)
  clear hb1 hD hF Y2 y0 y1 y2 D3 B3 q2 hFw hFw2 c0 z0
  go_upto_region 4 with fail
  generalize ((w1.setCell ⟨w.heap.size + 1, 0, none⟩ (.int .i64 k)).setCell ⟨w.heap.size + 1, 1, none⟩ (.int .i64 l)).setCell ⟨w.heap.size + 1, 2, none⟩ (.slice A r.length cap) = w3 at N ⊢
  clear d1 f1 z1 Y1
  have e1 := blk_cell N.out.1
  have g1 := blk_frozen N.out.1
  have t1 := lt_of_block N.out.1
  have e2 := blk_cell N.out.2.1
  have g2 := blk_frozen N.out.2.1
  have t2 := lt_of_block N.out.2.1
  have B6 := Lib.hid (((((N.out.2.2.2.setCell (p := ⟨w.heap.size + 1, 0, none⟩) (by simp) (.int .i64 k)).setCell (p := ⟨w.heap.size + 1, 1, none⟩) (by simp) (.int .i64 l)).setCell (p := ⟨w.heap.size + 1, 2, none⟩) (by simp) (.slice A r.length cap)).setCell (p := ⟨w.heap.size + 1 + 1, 0, none⟩) (by simp only; omega) (.int .i64 0)).setCell (p := ⟨w.heap.size + 1 + 1, 1, none⟩) (by simp only; omega) (.slice none 0 0))
  rcases lc with k1 | ⟨k1, k2⟩
  all_goals
    go_upto_region 6 with fail
    go_region
    all_goals go_wp2_with fail
    all_goals exact bodyPost_ret (v := .tuple #[.pointer (some ⟨g, 0, none⟩), .pointer none, .agg #[.int .i64 k, .int .i64 l, .slice A r.length cap], .agg #[.int .i64 0, .slice none 0 0], .bool false]) (by simp only [results, Tryz.results58]; go_simp) rfl ⟨⟨_, _, _, _, _, _, _, _, _, _, _, rfl⟩, B6.out.drew⟩
end Go.Proofs.YtcjnchjmpkapmaaGreat
/- Chapter 34: two, where there is no digest. -/
namespace Go.Proofs.YtcjnchjmpkapmaaGreat
open Go.ChangeShapes Go.WideShapes Go.ChangeAt Go.RowKit
set_option linter.unusedVariables false
set_option linter.unusedSimpArgs false
set_option maxRecDepth 100000

set_option maxHeartbeats 8000000 in
theorem law34_two_dig_out (w : World) (l K k lb : Int) (r : List Nd) (A : Option Addr) (cap : Nat) (q : List Nd) (B : Option Addr) (cb : Nat) (hg : ¬ goodL l k K r) (hS : Sl w w.heap.size encN A r) (hI : ints r) (hSb : Sl w w.heap.size encN B q) (hIb : ints q) (hlb : lb < 1 ∨ 48 < lb) (h1 : r.length ≤ 60) (h2 : q.length ≤ 60) :
    Calls Tryz.prog 58 #[loadedV l k K A r.length cap, .int .i64 lb, .slice B q.length cb] w fun e w' => (∃ d b a1 a2 A1 n1 c1 b1 A2 n2 c2, e = .returned (.tuple #[d, b, .agg #[.int .i64 a1, .int .i64 a2, .slice A1 n1 c1], .agg #[.int .i64 b1, .slice A2 n2 c2], .bool false])) ∧ Below w.heap.size w w' := by
  have HC := Lib.hid (law16_Load_no · l k K A cap r hg · hI (by simp only [maxLen]; omega))
  have HS := Lib.hid (And.intro hS hSb)
  unfold loadedV refDig at HC
  unfold loadedV
  have r1 : decide ((60 : Int) < (r.length : Int)) = false := by simp; omega
  have r2 : decide ((60 : Int) < (q.length : Int)) = false := by simp; omega
  have lc : decide (1 ≤ lb) = false ∨ (1 ≤ lb ∧ decide (lb ≤ 48) = false) := by
    by_cases h : 1 ≤ lb
    · exact .inr ⟨h, by simp; omega⟩
    · exact .inl (by simpa using h)
  clear hS hSb hI hIb hg
  obtain ⟨W0, hW0⟩ : ∃ W0, W0 = ((w.alloc (.cells #[.int .i64 l, .int .i64 k, .int .i64 K, .slice A r.length cap] 48)).alloc (.cells #[.int .i64 0, .int .i64 0, .slice none 0 0] 63)).alloc (.cells #[.int .i64 0, .slice none 0 0] 31) := ⟨_, rfl⟩
  have Z0 : Hid (W0.heap.size = w.heap.size + 3) := Lib.hid (by rw [hW0]; simp)
  have BW0 := Lib.hid (show Below w.heap.size w W0 by rw [hW0]; exact (by repeat (first | with_reducible exact Below.refl _ _ | with_reducible assumption | ((with_reducible refine Below.setCell ?_ ?_ _); rotate_left; · (first | omega | exact Nat.le_refl _ | (simp <;> omega))) | (with_reducible refine Below.allocW ?_ _) | (with_reducible refine Below.drew ?_) | (with_reducible refine Below.extW ?_ _))))
  have X0 : Hid (W0.heap[w.heap.size]? = some (.cells #[.int .i64 l, .int .i64 k, .int .i64 K, .slice A r.length cap] 48 (0, 0))) := Lib.hid (by rw [hW0]; exact (heap_new_lt _ _ _ (by simp; omega)).trans ((heap_new_lt _ _ _ (by simp)).trans (heap_alloc_new w _)))
  have X1 : Hid (W0.heap[w.heap.size + 1]? = some (.cells #[.int .i64 0, .int .i64 0, .slice none 0 0] 63 (0, 0))) := Lib.hid (by rw [hW0]; exact (heap_new_lt _ _ _ (by simp)).trans (heap_new_at (w.alloc _) _ _ (by simp)))
  have X2 : Hid (W0.heap[w.heap.size + 2]? = some (.cells #[.int .i64 0, .slice none 0 0] 31 (0, 0))) := Lib.hid (by rw [hW0]; exact heap_new_at _ _ _ (by simp))
  go_enter Tryz.func58, Tryz.ntmps58
  go_upto_region 1 with fail
  rw [← hW0]
  have c0 := blk_cell X0.out
  have z0 := lt_of_block X0.out
  have S0 := Lib.hid (HS.out.1.keep (B' := W0.heap.size) BW0.out.size fun p hp => BW0.out.cell hp)
  clear hW0
  go_wp2_with fail
  refine (HC.out _ S0.out).mono ?_
  rintro e w1 ⟨rfl, hb1⟩
  have Y1 := blk_below X1.out hb1
  have Y2 := blk_below X2.out hb1
  have d1 := blk_cell Y1
  have f1 := blk_frozen Y1
  have z1 := lt_of_block Y1
  have y0 := heap_set_at (i := 0) Y1 (.int .i64 0)
  have y1 := heap_set_at (i := 1) y0 (.int .i64 0)
  have y2 := heap_set_at (i := 2) y1 (.slice none 0 0)
  have B3 := ((((Below.then_ BW0.out hb1).setCell (p := ⟨w.heap.size + 1, 0, none⟩) (by simp) (.int .i64 0)).setCell (p := ⟨w.heap.size + 1, 1, none⟩) (by simp) (.int .i64 0)).setCell (p := ⟨w.heap.size + 1, 2, none⟩) (by simp) (.slice none 0 0))
  have q2 := (Below.heap_setCell ((w1.setCell ⟨w.heap.size + 1, 0, none⟩ (.int .i64 0)).setCell ⟨w.heap.size + 1, 1, none⟩ (.int .i64 0)) ⟨w.heap.size + 1, 2, none⟩ (.slice none 0 0) (w.heap.size + 2) (by simp)).trans ((Below.heap_setCell (w1.setCell ⟨w.heap.size + 1, 0, none⟩ (.int .i64 0)) ⟨w.heap.size + 1, 1, none⟩ (.int .i64 0) (w.heap.size + 2) (by simp)).trans ((Below.heap_setCell w1 ⟨w.heap.size + 1, 0, none⟩ (.int .i64 0) (w.heap.size + 2) (by simp)).trans Y2))
  have N := Lib.hid (And.intro y2 (And.intro q2 B3))
  clear hb1 Y2 y0 y1 y2 B3 q2 c0 z0
  go_upto_region 4 with fail
  generalize ((w1.setCell ⟨w.heap.size + 1, 0, none⟩ (.int .i64 0)).setCell ⟨w.heap.size + 1, 1, none⟩ (.int .i64 0)).setCell ⟨w.heap.size + 1, 2, none⟩ (.slice none 0 0) = w3 at N ⊢
  clear d1 f1 z1 Y1
  have e1 := blk_cell N.out.1
  have g1 := blk_frozen N.out.1
  have t1 := lt_of_block N.out.1
  have e2 := blk_cell N.out.2.1
  have g2 := blk_frozen N.out.2.1
  have t2 := lt_of_block N.out.2.1
  have B6 := Lib.hid (((((N.out.2.2.setCell (p := ⟨w.heap.size + 1, 0, none⟩) (by simp) (.int .i64 0)).setCell (p := ⟨w.heap.size + 1, 1, none⟩) (by simp) (.int .i64 0)).setCell (p := ⟨w.heap.size + 1, 2, none⟩) (by simp) (.slice none 0 0)).setCell (p := ⟨w.heap.size + 1 + 1, 0, none⟩) (by simp only; omega) (.int .i64 0)).setCell (p := ⟨w.heap.size + 1 + 1, 1, none⟩) (by simp only; omega) (.slice none 0 0))
  rcases lc with k1 | ⟨k1, k2⟩
  all_goals
    go_upto_region 6 with fail
    go_region
    all_goals go_wp2_with fail
    all_goals exact bodyPost_ret (v := .tuple #[.pointer none, .pointer none, .agg #[.int .i64 0, .int .i64 0, .slice none 0 0], .agg #[.int .i64 0, .slice none 0 0], .bool false]) (by simp only [results, Tryz.results58]; go_simp) rfl ⟨⟨_, _, _, _, _, _, _, _, _, _, _, rfl⟩, B6.out.drew⟩
end Go.Proofs.YtcjnchjmpkapmaaGreat
/- Chapter 34: two, where there is no digest, but a bag. -/
namespace Go.Proofs.YtcjnchjmpkapmaaGreat
open Go.ChangeShapes Go.WideShapes Go.ChangeAt Go.RowKit
set_option linter.unusedVariables false
set_option linter.unusedSimpArgs false
set_option maxRecDepth 100000

set_option maxHeartbeats 8000000 in
theorem law34_two_dig_in (w : World) (l K k : Int) (lb : Nat) (r : List Nd) (A : Option Addr) (cap : Nat) (q : List Nd) (B : Option Addr) (cb : Nat) (hg : ¬ goodL l k K r) (hS : Sl w w.heap.size encN A r) (hI : ints r) (hSb : Sl w w.heap.size encN B q) (hIb : ints q) (hlb : 1 ≤ lb ∧ lb ≤ 48) (h1 : r.length ≤ 60) (h2 : q.length ≤ 60) :
    Calls Tryz.prog 58 #[loadedV l k K A r.length cap, .int .i64 lb, .slice B q.length cb] w fun e w' => (∃ d b a1 a2 A1 n1 c1 b1 A2 n2 c2, e = .returned (.tuple #[d, b, .agg #[.int .i64 a1, .int .i64 a2, .slice A1 n1 c1], .agg #[.int .i64 b1, .slice A2 n2 c2], .bool false])) ∧ Below w.heap.size w w' := by
  have HC := Lib.hid (law16_Load_no · l k K A cap r hg · hI (by simp only [maxLen]; omega))
  have HM := Lib.hid (law10_Made · lb B cb q hlb · hIb (by omega))
  have HS := Lib.hid (And.intro hS hSb)
  unfold loadedV refDig at HC
  unfold bagV at HM
  unfold loadedV
  have r1 : decide ((60 : Int) < (r.length : Int)) = false := by simp; omega
  have r2 : decide ((60 : Int) < (q.length : Int)) = false := by simp; omega
  have r3 : (1 : Int) ≤ (lb : Int) := by omega
  have r4 : (lb : Int) ≤ 48 := by omega
  clear hS hSb hI hIb hg
  obtain ⟨W0, hW0⟩ : ∃ W0, W0 = ((w.alloc (.cells #[.int .i64 l, .int .i64 k, .int .i64 K, .slice A r.length cap] 48)).alloc (.cells #[.int .i64 0, .int .i64 0, .slice none 0 0] 63)).alloc (.cells #[.int .i64 0, .slice none 0 0] 31) := ⟨_, rfl⟩
  have Z0 : Hid (W0.heap.size = w.heap.size + 3) := Lib.hid (by rw [hW0]; simp)
  have BW0 := Lib.hid (show Below w.heap.size w W0 by rw [hW0]; exact (by repeat (first | with_reducible exact Below.refl _ _ | with_reducible assumption | ((with_reducible refine Below.setCell ?_ ?_ _); rotate_left; · (first | omega | exact Nat.le_refl _ | (simp <;> omega))) | (with_reducible refine Below.allocW ?_ _) | (with_reducible refine Below.drew ?_) | (with_reducible refine Below.extW ?_ _))))
  have X0 : Hid (W0.heap[w.heap.size]? = some (.cells #[.int .i64 l, .int .i64 k, .int .i64 K, .slice A r.length cap] 48 (0, 0))) := Lib.hid (by rw [hW0]; exact (heap_new_lt _ _ _ (by simp; omega)).trans ((heap_new_lt _ _ _ (by simp)).trans (heap_alloc_new w _)))
  have X1 : Hid (W0.heap[w.heap.size + 1]? = some (.cells #[.int .i64 0, .int .i64 0, .slice none 0 0] 63 (0, 0))) := Lib.hid (by rw [hW0]; exact (heap_new_lt _ _ _ (by simp)).trans (heap_new_at (w.alloc _) _ _ (by simp)))
  have X2 : Hid (W0.heap[w.heap.size + 2]? = some (.cells #[.int .i64 0, .slice none 0 0] 31 (0, 0))) := Lib.hid (by rw [hW0]; exact heap_new_at _ _ _ (by simp))
  go_enter Tryz.func58, Tryz.ntmps58
  go_upto_region 1 with fail
  rw [← hW0]
  have c0 := blk_cell X0.out
  have z0 := lt_of_block X0.out
  have S0 := Lib.hid (HS.out.1.keep (B' := W0.heap.size) BW0.out.size fun p hp => BW0.out.cell hp)
  clear hW0
  go_wp2_with fail
  refine (HC.out _ S0.out).mono ?_
  rintro e w1 ⟨rfl, hb1⟩
  have Y1 := blk_below X1.out hb1
  have Y2 := blk_below X2.out hb1
  have d1 := blk_cell Y1
  have f1 := blk_frozen Y1
  have z1 := lt_of_block Y1
  have y0 := heap_set_at (i := 0) Y1 (.int .i64 0)
  have y1 := heap_set_at (i := 1) y0 (.int .i64 0)
  have y2 := heap_set_at (i := 2) y1 (.slice none 0 0)
  have B3 := ((((Below.then_ BW0.out hb1).setCell (p := ⟨w.heap.size + 1, 0, none⟩) (by simp) (.int .i64 0)).setCell (p := ⟨w.heap.size + 1, 1, none⟩) (by simp) (.int .i64 0)).setCell (p := ⟨w.heap.size + 1, 2, none⟩) (by simp) (.slice none 0 0))
  have q2 := (Below.heap_setCell ((w1.setCell ⟨w.heap.size + 1, 0, none⟩ (.int .i64 0)).setCell ⟨w.heap.size + 1, 1, none⟩ (.int .i64 0)) ⟨w.heap.size + 1, 2, none⟩ (.slice none 0 0) (w.heap.size + 2) (by simp)).trans ((Below.heap_setCell (w1.setCell ⟨w.heap.size + 1, 0, none⟩ (.int .i64 0)) ⟨w.heap.size + 1, 1, none⟩ (.int .i64 0) (w.heap.size + 2) (by simp)).trans ((Below.heap_setCell w1 ⟨w.heap.size + 1, 0, none⟩ (.int .i64 0) (w.heap.size + 2) (by simp)).trans Y2))
  have N := Lib.hid (And.intro y2 (And.intro q2 B3))
  clear hb1 Y2 y0 y1 y2 B3 q2 c0 z0
  go_upto_region 4 with fail
  generalize ((w1.setCell ⟨w.heap.size + 1, 0, none⟩ (.int .i64 0)).setCell ⟨w.heap.size + 1, 1, none⟩ (.int .i64 0)).setCell ⟨w.heap.size + 1, 2, none⟩ (.slice none 0 0) = w3 at N ⊢
  clear d1 f1 z1 Y1
  have S3 := Lib.hid (HS.out.2.keep (B' := w3.heap.size) N.out.2.2.size fun p hp => N.out.2.2.cell hp)
  go_wp2_with fail
  refine (HM.out _ S3.out).mono ?_
  rintro e w4 ⟨gb, A2, c2, rfl, hBg, hS2, hb4⟩
  have Y2 := blk_below N.out.2.1 hb4
  have Y1 := blk_below N.out.1 hb4
  have d1 := blk_cell Y2
  have f1 := blk_frozen Y2
  have z1 := lt_of_block Y2
  have hz3 : w.heap.size + 3 ≤ w3.heap.size := by have := lt_of_block N.out.2.1; omega
  have y0 := heap_set_at (i := 0) Y2 (.int .i64 lb)
  have y1 := heap_set_at (i := 1) y0 (.slice A2 (madeB lb q).length c2)
  have q1 := (Below.heap_setCell (w4.setCell ⟨w.heap.size + 2, 0, none⟩ (.int .i64 lb)) ⟨w.heap.size + 2, 1, none⟩ (.slice A2 (madeB lb q).length c2) (w.heap.size + 1) (by simp)).trans ((Below.heap_setCell w4 ⟨w.heap.size + 2, 0, none⟩ (.int .i64 lb) (w.heap.size + 1) (by simp)).trans Y1)
  have T2 : TypeAt w4 (w.heap.size + 2) 31 := TypeAt.of Y2
  have B5 := ((Below.then_ N.out.2.2 hb4).setCell (p := ⟨w.heap.size + 2, 0, none⟩) (by simp) (.int .i64 lb)).setCell (p := ⟨w.heap.size + 2, 1, none⟩) (by simp) (.slice A2 (madeB lb q).length c2)
  have M := Lib.hid (And.intro q1 (And.intro y1 B5))
  clear Y1 y0 y1 q1 T2 B5 hBg hS2 hb4
  go_upto_region 6 with fail
  generalize (w4.setCell ⟨w.heap.size + 2, 0, none⟩ (.int .i64 lb)).setCell ⟨w.heap.size + 2, 1, none⟩ (.slice A2 (madeB lb q).length c2) = w5 at M ⊢
  clear d1 f1 z1 Y2
  have e1 := blk_cell M.out.1
  have g1 := blk_frozen M.out.1
  have t1 := lt_of_block M.out.1
  have e2 := blk_cell M.out.2.1
  have g2 := blk_frozen M.out.2.1
  have t2 := lt_of_block M.out.2.1
  go_region
  have T1 : TypeAt w5 (w.heap.size + 1) 63 := TypeAt.of M.out.1
  have T2 : TypeAt w5 (w.heap.size + 1 + 1) 31 := TypeAt.of M.out.2.1
  have B6 := Lib.hid (Below.setCell (p := ⟨w.heap.size + 1 + 1, 1, none⟩) (Below.setCell (p := ⟨w.heap.size + 1 + 1, 0, none⟩) (Below.setCell (p := ⟨w.heap.size + 1, 2, none⟩) (Below.setCell (p := ⟨w.heap.size + 1, 1, none⟩) (Below.setCell (p := ⟨w.heap.size + 1, 0, none⟩) M.out.2.2 (by simp only; omega) (.int .i64 0)) (by simp only; omega) (.int .i64 0)) (by simp only; omega) (.slice none 0 0)) (by simp only; omega) (.int .i64 lb)) (by simp only; omega) (.slice A2 (madeB lb q).length c2))
  clear T1 T2
  go_wp2_with fail
  exact bodyPost_ret (v := .tuple #[.pointer none, .pointer (some ⟨gb, 0, none⟩), .agg #[.int .i64 0, .int .i64 0, .slice none 0 0], .agg #[.int .i64 lb, .slice A2 (madeB lb q).length c2], .bool false]) (by simp only [results, Tryz.results58]; go_simp) rfl ⟨⟨_, _, _, _, _, _, _, _, _, _, _, rfl⟩, B6.out.drew⟩
end Go.Proofs.YtcjnchjmpkapmaaGreat
/- Chapter 34: two, wherever one is not there. -/
namespace Go.Proofs.YtcjnchjmpkapmaaGreat
open Go.ChangeShapes Go.WideShapes Go.ChangeAt Go.RowKit
set_option linter.unusedVariables false

def NoTwo (w : World) (e : Ending) (w' : World) : Prop := (∃ d b a1 a2 A1 n1 c1 b1 A2 n2 c2, e = .returned (.tuple #[d, b, .agg #[.int .i64 a1, .int .i64 a2, .slice A1 n1 c1], .agg #[.int .i64 b1, .slice A2 n2 c2], .bool false])) ∧ Below w.heap.size w w'
theorem law34_two_no (w : World) (l k K lb : Int) (r : List Nd) (A : Option Addr) (cap : Nat) (q : List Nd) (B : Option Addr) (cb : Nat) (h : ¬ (goodL l k K r ∧ (1 ≤ lb ∧ lb ≤ 48) ∧ r.length ≤ 60 ∧ q.length ≤ 60)) (hS : Sl w w.heap.size encN A r) (hI : ints r) (hSb : Sl w w.heap.size encN B q) (hIb : ints q) :
    Calls Tryz.prog 58 #[loadedV l k K A r.length cap, .int .i64 lb, .slice B q.length cb] w (NoTwo w) := by
  by_cases hn : 60 < r.length ∨ 60 < q.length
  · refine (law34_two_many w l K k lb A B r.length cap q.length cb hn).mono ?_
    rintro e w' ⟨rfl, hb⟩
    exact ⟨⟨_, _, _, _, _, _, _, _, _, _, _, rfl⟩, hb⟩
  · have h1 : r.length ≤ 60 := by omega
    have h2 : q.length ≤ 60 := by omega
    by_cases hg : goodL l k K r
    · obtain ⟨n, m, rfl, rfl⟩ := goodL_nat hg.2.2
      exact law34_two_bag w n m k lb r A cap q B cb hg hS hI hSb hIb (by have : ¬ (1 ≤ lb ∧ lb ≤ 48) := fun hl => h ⟨hg, hl, h1, h2⟩; omega) h1 h2
    · by_cases hl : 1 ≤ lb ∧ lb ≤ 48
      · obtain ⟨n, rfl⟩ : ∃ n : Nat, lb = n := ⟨lb.toNat, by omega⟩
        exact law34_two_dig_in w l K k n r A cap q B cb hg hS hI hSb hIb (by omega) h1 h2
      · exact law34_two_dig_out w l K k lb r A cap q B cb hg hS hI hSb hIb (by omega) h1 h2
end Go.Proofs.YtcjnchjmpkapmaaGreat
/- A list of readings that came in, and one of them. -/
namespace Go.Proofs.YtcjnchjmpkapmaaGreat
open Go.ChangeShapes Go.WideShapes Go.ChangeAt Go.RowKit
set_option linter.unusedVariables false
set_option maxRecDepth 100000

section
variable {H : Type} {enc : TypeId × Value → H} {w : World} {base : Nat} {spare : Nat → Bool} {held : Bool} {fuel : Nat} {cs : List Value} {x : DataW H × List MemPlace}
theorem read_of_trod (h : DataW.trod enc Tryz.prog w base spare held fuel 96 cs = some x) : ∃ o : Nd, cs = encN.enc o ∧ i64 o.1 ∧ i64 o.2 := by
  obtain ⟨xs, n, _, _, hlen, hxl, hf⟩ := DataW.trod_struct Tryz.underlying96 h
  have hC : (Tryz.prog).cellsOf 96 = 2 := by kernel_rfl
  have hCi : (Tryz.prog).cellsOf 3 = 1 := by kernel_rfl
  rw [hC] at hlen
  match cs, hlen with
  | [c0, c1], _ =>
    match xs, hxl with
    | [y0, y1], _ =>
      have g0 : DataW.trod enc Tryz.prog w base spare held n 3 (([c0, c1].drop 0).take ((Tryz.prog).cellsOf 3)) = some y0 := hf 0 _ rfl
      have g1 : DataW.trod enc Tryz.prog w base spare held n 3 (([c0, c1].drop 1).take ((Tryz.prog).cellsOf 3)) = some y1 := hf 1 _ rfl
      simp only [hCi] at g0 g1
      obtain ⟨k, e0, _, k0⟩ := DataW.trod_int Tryz.underlying3 g0
      obtain ⟨i, e1, _, k1⟩ := DataW.trod_int Tryz.underlying3 g1
      simp at e0 e1
      subst e0 e1
      exact ⟨(k, i), rfl, i64_of_wf k0, i64_of_wf k1⟩
end
theorem open_Reads {H : Type} {enc : TypeId × Value → H} {w : World} {base : Nat} {spare : Nat → Bool} {held : Bool} {r : Reach} {b0 : Nat} {v : Value} {d : DataW H} {p : List MemPlace}
    (hv : Value.okWide Tryz.prog w r b0 29 v) (h : DataW.Trod enc Tryz.prog w base spare held 29 v d p) :
    ∃ (ks : List Nd) (A : Option Addr) (cap : Nat), v = .slice A ks.length cap ∧ Sl w w.heap.size encN A ks ∧ ints ks ∧ ks.length ≤ maxLen := by
  obtain ⟨A, n, cap, rfl⟩ := okWide_slice Tryz.underlying29 hv
  obtain ⟨fuel, hf⟩ := h
  obtain ⟨l, A', cap', hc, rest⟩ := slice_of_trod encN (fun o => i64 o.1 ∧ i64 o.2) Tryz.underlying29 (by kernel_rfl) (by decide) (fun fuel cs x h => read_of_trod h) hf
  have hc' : Value.slice A n cap = .slice A' l.length cap' := by simpa [Value.cells] using hc
  rw [hc']
  exact ⟨l, A', cap', rfl, rest⟩
end Go.Proofs.YtcjnchjmpkapmaaGreat
/- Chapter 34: does a digest stand for a bag: the law. -/
namespace Go.Proofs.YtcjnchjmpkapmaaGreat
open Go.ChangeShapes Go.WideShapes Go.ChangeAt Go.RowKit
set_option linter.unusedVariables false
set_option linter.unusedSimpArgs false
set_option maxRecDepth 100000

structure AudW (w : World) (g K l : Nat) (k : Int) (r : List Nd) (F : Nat → Prop) (gb lb : Nat) (m : List Nd) (A : Option Addr) (cap : Nat) (A2 : Option Addr) (W : World) : Prop where
  d : DigAt W g K l k r F
  b : BagAt W w.heap.size gb lb m
  x : W.heap[w.heap.size]? = some (.cells #[.int .i64 l, .int .i64 k, .int .i64 K, .slice A r.length cap] 48 (0, 0))
  s : Sl W W.heap.size encN A r
  t : Sl W W.heap.size encN A2 m
  blw : Below w.heap.size w W
theorem AudW.below {w : World} {g K l : Nat} {k : Int} {r : List Nd} {F : Nat → Prop} {gb lb : Nat} {m : List Nd} {A : Option Addr} {cap : Nat} {A2 : Option Addr} {W W' : World} (h : AudW w g K l k r F gb lb m A cap A2 W) (hb : Below W.heap.size W W') : AudW w g K l k r F gb lb m A cap A2 W' :=
  ⟨h.d.below hb, h.b.below hb, blk_below h.x hb, h.s.keep hb.size fun p hp => hb.cell hp, h.t.keep hb.size fun p hp => hb.cell hp, h.blw.trans (hb.mono h.blw.size)⟩
theorem AudW.alloc {w : World} {g K l : Nat} {k : Int} {r : List Nd} {F : Nat → Prop} {gb lb : Nat} {m : List Nd} {A : Option Addr} {cap : Nat} {A2 : Option Addr} {W : World} (h : AudW w g K l k r F gb lb m A cap A2 W) (o : Obj) : AudW w g K l k r F gb lb m A cap A2 (W.alloc o) :=
  h.below ((Below.refl _ _).alloc (Nat.le_refl _) o)
structure AudV (w : World) (g K l : Nat) (k : Int) (r : List Nd) (F : Nat → Prop) (gb lb : Nat) (m : List Nd) (A : Option Addr) (cap : Nat) (A2 : Option Addr) (pv c2 : Nat) (W : World) : Prop where
  a : AudW w g K l k r F gb lb m A cap A2 W
  v : W.heap[pv]? = some (.cells #[.int .i64 k, .int .i64 l, .slice A r.length cap] 63 (0, 0))
  u : W.heap[pv + 1]? = some (.cells #[.int .i64 lb, .slice A2 m.length c2] 31 (0, 0))
theorem AudV.below {w : World} {g K l : Nat} {k : Int} {r : List Nd} {F : Nat → Prop} {gb lb : Nat} {m : List Nd} {A : Option Addr} {cap : Nat} {A2 : Option Addr} {pv c2 : Nat} {W W' : World} (h : AudV w g K l k r F gb lb m A cap A2 pv c2 W) (hb : Below W.heap.size W W') : AudV w g K l k r F gb lb m A cap A2 pv c2 W' :=
  ⟨h.a.below hb, blk_below h.v hb, blk_below h.u hb⟩
theorem AudV.new {w : World} {g K l : Nat} {k : Int} {r : List Nd} {F : Nat → Prop} {gb lb : Nat} {m : List Nd} {A : Option Addr} {cap : Nat} {A2 : Option Addr} {c2 : Nat} {W : World} (h : AudW w g K l k r F gb lb m A cap A2 W) :
    AudV w g K l k r F gb lb m A cap A2 W.heap.size c2 ((W.alloc (.cells #[.int .i64 k, .int .i64 l, .slice A r.length cap] 63)).alloc (.cells #[.int .i64 lb, .slice A2 m.length c2] 31)) :=
  ⟨(h.alloc _).alloc _, (heap_new_lt _ _ _ (by simp)).trans (heap_alloc_new W _), heap_new_at (W.alloc _) _ _ (by simp)⟩
end Go.Proofs.YtcjnchjmpkapmaaGreat
/- Chapter 34: how far ranks are from a bag's: the law. -/
namespace Go.Proofs.YtcjnchjmpkapmaaGreat
open Go.ChangeShapes Go.WideShapes Go.ChangeAt Go.RowKit
set_option linter.unusedVariables false
set_option linter.unusedSimpArgs false
set_option maxRecDepth 100000

end Go.Proofs.YtcjnchjmpkapmaaGreat
/- References 6, 7, 11: Find, Get, Mass, Ready, Ahead. -/
namespace Go.Proofs.YtcjnchjmpkapmaaGreat
open Go.ChangeShapes Go.WideShapes Go.ChangeAt Go.RowKit
set_option linter.unusedVariables false
set_option linter.unusedSimpArgs false
set_option maxRecDepth 100000

theorem getR_no {r : List Nd} {id : Int} (h : ∀ x ∈ r, x.1 ≠ id) : getR r id = 0 := by
  induction r with
  | nil => rfl
  | cons x r ih => simp only [getR]; rw [if_neg (h x (by simp)), ih fun y hy => h y (by simp [hy])]
theorem getR_first {r : List Nd} {id : Int} {q : Nat} (hq : q < r.length) (h : ∀ x ∈ r.take q, x.1 ≠ id) (he : r[q].1 = id) : getR r id = r[q].2 := by
  induction r generalizing q with
  | nil => simp at hq
  | cons x r ih =>
    cases q with
    | zero => simp only [List.getElem_cons_zero] at he ⊢; simp [getR, he]
    | succ q =>
      simp only [List.take_succ_cons, List.mem_cons] at h
      simp only [List.getElem_cons_succ] at he ⊢
      simp only [getR]
      rw [if_neg (h x (.inl rfl))]
      exact ih (by simpa using hq) (fun y hy => h y (.inr hy)) he
theorem ref6_Find (w : World) (A : Option Addr) (cap : Nat) (r : List Nd) (hS : Sl w w.heap.size encN A r) (hI : ints r) (hm : r.length ≤ maxLen) (id : Int) :
    Calls Tryz.prog 380 #[.slice A r.length cap, .int .i64 id] w fun e w' => e = .returned (.int .i64 (getR r id)) ∧ Below w.heap.size w w' := by
  have HS := Lib.hid hS
  have HI := Lib.hid hI
  unfold maxLen at hm
  have HNo := Lib.hid (@getR_no r id)
  have HYes := Lib.hid (fun (q : Nat) hq h he => @getR_first r id q hq h he)
  obtain ⟨n, hn⟩ : ∃ n, n = getR r id := ⟨_, rfl⟩
  rw [← hn] at HNo HYes ⊢
  clear hS hI hn
  go_enter Tryz.func380, Tryz.ntmps380
  go_wp2_with fail
  go_loopw [5] (fun i wr => ∃ q : Nat, q ≤ r.length ∧ i = .int .i64 q ∧ (∀ x ∈ r.take q, x.1 ≠ id) ∧ wr = w) (fun i _ => r.length - (intOf i).toNat)
  case atStart => exact ⟨0, Nat.zero_le _, rfl, by simp, rfl⟩
  case round =>
    obtain ⟨q, hq, rfl, hX, rfl⟩ := hrel
    have HX := Lib.hid hX
    clear hX
    by_cases hlt : q < r.length
    · obtain ⟨b, off, rfl, hb, hc⟩ := HS.out.at_ hlt
      have d0 := hc 0 (.int .i64 r[q].1) rfl
      have d1 := hc 1 (.int .i64 r[q].2) rfl
      simp only [Nat.add_zero] at d0
      have i1 : (q : Int) < (r.length : Int) := by omega
      have HY := Lib.hid (fun he => HYes.out q hlt HX.out he)
      have HXx : Hid (r[q].1 ≠ id → ∀ x ∈ r.take (q + 1), x.1 ≠ id) := Lib.hid fun h z hz => by
        rw [List.take_succ_eq_append_getElem hlt] at hz
        rcases List.mem_append.1 hz with hz | hz
        · exact HX.out z hz
        · rw [List.mem_singleton.1 hz]; exact h
      obtain ⟨x, hxe⟩ : ∃ x, x = r[q] := ⟨_, rfl⟩
      rw [← hxe] at d0 d1 HY HXx
      clear hc hxe
      by_cases he : x.1 = id
      · have he' : (x.1 == id) = true := by simpa using he
        have E2 := Lib.hid (HY.out he)
        clear he
        go_wp2_with fail
        go_ret
        exact ⟨by rw [E2.out]; rfl, (by repeat (first | with_reducible exact Below.refl _ _ | with_reducible assumption | ((with_reducible refine Below.setCell ?_ ?_ _); rotate_left; · (first | omega | exact Nat.le_refl _ | (simp <;> omega))) | (with_reducible refine Below.allocW ?_ _) | (with_reducible refine Below.drew ?_) | (with_reducible refine Below.extW ?_ _)))⟩
      · have he' : (x.1 == id) = false := by simpa using he
        have HX2 := Lib.hid (HXx.out he)
        clear he
        go_wp2_with fail
        go_roundw
        case rel => exact ⟨q + 1, by omega, by go_num, HX2.out, by first | rfl | trivial⟩
        case measure => simp [intOf]; omega
    · obtain rfl : q = r.length := by omega
      rw [List.take_length] at HX
      have E2 := Lib.hid (HNo.out HX.out)
      have hqi : decide ((r.length : Int) < (r.length : Int)) = false := by simp
      go_wp2_with fail
      go_ret
      exact ⟨by rw [E2.out]; rfl, (by repeat (first | with_reducible exact Below.refl _ _ | with_reducible assumption | ((with_reducible refine Below.setCell ?_ ?_ _); rotate_left; · (first | omega | exact Nat.le_refl _ | (simp <;> omega))) | (with_reducible refine Below.allocW ?_ _) | (with_reducible refine Below.drew ?_) | (with_reducible refine Below.extW ?_ _)))⟩
theorem ref7_Get (w : World) (u : Int) (A : Option Addr) (cap : Nat) (r : List Nd) (hS : Sl w w.heap.size encN A r) (hI : ints r) (hm : r.length ≤ maxLen) (id : Int) :
    Calls Tryz.prog 360 #[.agg #[.int .i64 u, .slice A r.length cap], .int .i64 id] w fun e w' => e = .returned (.int .i64 (getR r id)) ∧ Below w.heap.size w w' := by
  have HC := Lib.hid (ref6_Find · A cap r · hI hm id)
  have HS := Lib.hid hS
  clear hS hI hm
  generalize getR r id = t at HC ⊢
  go_enter Tryz.func360, Tryz.ntmps360
  go_wp2_with fail
  refine (HC.out _ (HS.out.keep (by simp) fun p hp => ((Below.refl w.heap.size w).alloc (Nat.le_refl _) _).cell hp)).mono ?_
  rintro e w1 ⟨rfl, hb1⟩
  have B1 : Below w.heap.size w w1 := Below.then_ (by repeat (first | with_reducible exact Below.refl _ _ | with_reducible assumption | ((with_reducible refine Below.setCell ?_ ?_ _); rotate_left; · (first | omega | exact Nat.le_refl _ | (simp <;> omega))) | (with_reducible refine Below.allocW ?_ _) | (with_reducible refine Below.drew ?_) | (with_reducible refine Below.extW ?_ _))) hb1
  have s1 : w.heap.size ≤ w1.heap.size := B1.size
  have z1_0 : w.heap.size < w1.heap.size := by have := hb1.size; (try simp at this); omega
  have y1_0 : w.heap.size ≤ w1.heap.size := Nat.le_of_lt z1_0
  have c1_0 := fun o => hb1.cell (p := ⟨w.heap.size, o, none⟩) (by first | omega | (simp <;> omega))
  have f1_0 := fun o => hb1.frozen (p := ⟨w.heap.size, o, none⟩) (by first | omega | (simp <;> omega))
  go_wp2_with fail
  go_ret
  exact ⟨rfl, (by repeat (first | with_reducible exact Below.refl _ _ | with_reducible assumption | ((with_reducible refine Below.setCell ?_ ?_ _); rotate_left; · (first | omega | exact Nat.le_refl _ | (simp <;> omega))) | (with_reducible refine Below.allocW ?_ _) | (with_reducible refine Below.drew ?_) | (with_reducible refine Below.extW ?_ _)))⟩
def massR (l : Nat) (r : List Nd) (p : Int) : Int × Int := if (kidsOf l p).2.2 = true then (pairR r p, pairR r p + getR r p) else (0, 0)
set_option maxHeartbeats 2000000 in
theorem ref11_Mass (w : World) (l : Nat) (A : Option Addr) (cap : Nat) (r : List Nd) (hS : Sl w w.heap.size encN A r) (hI : ints r) (hm : r.length ≤ maxLen) (hr : Roll r) (hs : sumR r ≤ 72057594037927935) (p : Int) (hp : p ≤ 9223372036854775807) :
    Calls Tryz.prog 304 #[.agg #[.int .i64 l, .slice A r.length cap], .int .i64 p] w fun e w' => e = .returned (.tuple #[.int .i64 (massR l r p).1, .int .i64 (massR l r p).2]) ∧ Below w.heap.size w w' := by
  have HK := Lib.hid (ref2_Kids · l p hp)
  have HS := Lib.hid (hS.keep (B' := w.heap.size) (Nat.le_refl _) fun p hp => ((Below.refl w.heap.size w).alloc (Nat.le_refl _) (.cells #[.int .i64 l, .slice A r.length cap] 61)).cell hp)
  cases hk : (kidsOf l p).2.2
  · have e1 : massR l r p = (0, 0) := by simp [massR, hk]
    rw [e1]
    rw [kids_no hk] at HK
    unfold endsV at HK
    clear hS hI hr hk e1
    go_enter Tryz.func304, Tryz.ntmps304
    go_wp2_with fail
    refine (HK.out _).mono ?_
    rintro e w1 ⟨rfl, hb1⟩
    have B1 : Below w.heap.size w w1 := Below.then_ (by repeat (first | with_reducible exact Below.refl _ _ | with_reducible assumption | ((with_reducible refine Below.setCell ?_ ?_ _); rotate_left; · (first | omega | exact Nat.le_refl _ | (simp <;> omega))) | (with_reducible refine Below.allocW ?_ _) | (with_reducible refine Below.drew ?_) | (with_reducible refine Below.extW ?_ _))) hb1
    have s1 : w.heap.size ≤ w1.heap.size := B1.size
    have z1_0 : w.heap.size < w1.heap.size := by have := hb1.size; (try simp at this); omega
    have y1_0 : w.heap.size ≤ w1.heap.size := Nat.le_of_lt z1_0
    have c1_0 := fun o => hb1.cell (p := ⟨w.heap.size, o, none⟩) (by first | omega | (simp <;> omega))
    have f1_0 := fun o => hb1.frozen (p := ⟨w.heap.size, o, none⟩) (by first | omega | (simp <;> omega))
    go_wp2_with fail
    go_ret2
    exact ⟨rfl, (by repeat (first | with_reducible exact Below.refl _ _ | with_reducible assumption | ((with_reducible refine Below.setCell ?_ ?_ _); rotate_left; · (first | omega | exact Nat.le_refl _ | (simp <;> omega))) | (with_reducible refine Below.allocW ?_ _) | (with_reducible refine Below.drew ?_) | (with_reducible refine Below.extW ?_ _)))⟩
  · have e1 : massR l r p = (pairR r p, pairR r p + getR r p) := by simp [massR, hk]
    rw [e1]
    rw [kids_yes hk] at HK
    unfold endsV at HK
    have HG1 := Lib.hid (ref7_Get · l A cap r · hI hm (2 * p))
    have HG2 := Lib.hid (ref7_Get · l A cap r · hI hm (2 * p + 1))
    have HG3 := Lib.hid (ref7_Get · l A cap r · hI hm p)
    have a0 := getR_nonneg hr (2 * p)
    have a1 := getR_le_sum hr (2 * p)
    have b0 := getR_nonneg hr (2 * p + 1)
    have b1 := getR_le_sum hr (2 * p + 1)
    have c0 := getR_nonneg hr p
    have c1 := getR_le_sum hr p
    unfold pairR
    generalize getR r (2 * p) = n1 at HG1 a0 a1 ⊢
    generalize getR r (2 * p + 1) = n2 at HG2 b0 b1 ⊢
    generalize getR r p = n3 at HG3 c0 c1 ⊢
    generalize sumR r = n4 at hs a1 b1 c1
    obtain ⟨p1, hp1⟩ : ∃ z, z = 2 * p := ⟨_, rfl⟩
    obtain ⟨p2, hp2⟩ : ∃ z, z = 2 * p + 1 := ⟨_, rfl⟩
    rw [← hp2] at HK HG2
    rw [← hp1] at HK HG1
    clear hS hI hr hk e1 hp1 hp2
    go_enter Tryz.func304, Tryz.ntmps304
    go_wp2_with fail
    refine (HK.out _).mono ?_
    rintro e w1 ⟨rfl, hb1⟩
    have B1 : Below w.heap.size w w1 := Below.then_ (by repeat (first | with_reducible exact Below.refl _ _ | with_reducible assumption | ((with_reducible refine Below.setCell ?_ ?_ _); rotate_left; · (first | omega | exact Nat.le_refl _ | (simp <;> omega))) | (with_reducible refine Below.allocW ?_ _) | (with_reducible refine Below.drew ?_) | (with_reducible refine Below.extW ?_ _))) hb1
    have s1 : w.heap.size ≤ w1.heap.size := B1.size
    have z1_0 : w.heap.size < w1.heap.size := by have := hb1.size; (try simp at this); omega
    have y1_0 : w.heap.size ≤ w1.heap.size := Nat.le_of_lt z1_0
    have c1_0 := fun o => hb1.cell (p := ⟨w.heap.size, o, none⟩) (by first | omega | (simp <;> omega))
    have f1_0 := fun o => hb1.frozen (p := ⟨w.heap.size, o, none⟩) (by first | omega | (simp <;> omega))
    have zw1 : w.heap.size ≤ w1.heap.size := by have := hb1.size; simp at this; omega
    have S1 := Lib.hid ((HS.out.below (hb1.mono (by simp))).keep (B' := w1.heap.size) zw1 fun p hp => rfl)
    go_wp2_with fail
    refine wp_region_ext (by kernel_rfl) (by kernel_rfl) ?_
    repeat (go_big_quiet_step (first | (go_at_call_of 360 (Value.int IntKind.i64 p1); exact quiet_ext (HG1.out _ (S1.out.keep (ext_below _ _).size fun p hp => (ext_below _ _).cell hp))) | (go_at_call 360; first | exact quiet_ext (HG1.out _ (S1.out.keep (ext_below _ _).size fun p hp => (ext_below _ _).cell hp)) | exact quiet_ext (HG2.out _ (S1.out.keep (ext_below _ _).size fun p hp => (ext_below _ _).cell hp)))))
    refine wpQuiet_nil ?_
    intro w2 hb2
    replace hb2 := below_of_ext hb2
    have B2 : Below w.heap.size w w2 := Below.then_ (by repeat (first | with_reducible exact Below.refl _ _ | with_reducible assumption | ((with_reducible refine Below.setCell ?_ ?_ _); rotate_left; · (first | omega | exact Nat.le_refl _ | (simp <;> omega))) | (with_reducible refine Below.allocW ?_ _) | (with_reducible refine Below.drew ?_) | (with_reducible refine Below.extW ?_ _))) hb2
    have s2 : w.heap.size ≤ w2.heap.size := B2.size
    have z2_0 : w.heap.size < w2.heap.size := by have := hb2.size; (try simp at this); omega
    have y2_0 : w.heap.size ≤ w2.heap.size := Nat.le_of_lt z2_0
    have c2_0 := fun o => hb2.cell (p := ⟨w.heap.size, o, none⟩) (by first | omega | (simp <;> omega))
    have f2_0 := fun o => hb2.frozen (p := ⟨w.heap.size, o, none⟩) (by first | omega | (simp <;> omega))
    have S2 := Lib.hid ((S1.out.below hb2).keep (B' := w2.heap.size) hb2.size fun p hp => rfl)
    go_wp2_with fail
    refine (HG3.out _ (S2.out.keep (Nat.le_refl _) fun p hp => rfl)).mono ?_
    rintro e w3 ⟨rfl, hb3⟩
    have B3 : Below w.heap.size w w3 := Below.then_ (by repeat (first | with_reducible exact Below.refl _ _ | with_reducible assumption | ((with_reducible refine Below.setCell ?_ ?_ _); rotate_left; · (first | omega | exact Nat.le_refl _ | (simp <;> omega))) | (with_reducible refine Below.allocW ?_ _) | (with_reducible refine Below.drew ?_) | (with_reducible refine Below.extW ?_ _))) hb3
    have s3 : w.heap.size ≤ w3.heap.size := B3.size
    go_wp2_with fail
    go_ret2
    exact ⟨rfl, (by repeat (first | with_reducible exact Below.refl _ _ | with_reducible assumption | ((with_reducible refine Below.setCell ?_ ?_ _); rotate_left; · (first | omega | exact Nat.le_refl _ | (simp <;> omega))) | (with_reducible refine Below.allocW ?_ _) | (with_reducible refine Below.drew ?_) | (with_reducible refine Below.extW ?_ _)))⟩
end Go.Proofs.YtcjnchjmpkapmaaGreat
/- Reference 11: Ready, Ahead, With. -/
namespace Go.Proofs.YtcjnchjmpkapmaaGreat
open Go.ChangeShapes Go.WideShapes Go.ChangeAt Go.RowKit
set_option linter.unusedVariables false
set_option linter.unusedSimpArgs false
set_option maxRecDepth 100000

theorem ready_mass (l : Nat) (r : List Nd) (p most : Int) : readyR l r p most = (decide (0 < (massR l r p).1) && decide ((massR l r p).2 ≤ most)) := by
  unfold readyR massR
  cases (kidsOf l p).2.2
  · simp
  · simp [Bool.decide_and]
theorem ref11_Ready (w : World) (l : Nat) (A : Option Addr) (cap : Nat) (r : List Nd) (hS : Sl w w.heap.size encN A r) (hI : ints r) (hm : r.length ≤ maxLen) (hr : Roll r) (hs : sumR r ≤ 72057594037927935) (p most : Int) (hp : p ≤ 9223372036854775807) :
    Calls Tryz.prog 243 #[.agg #[.int .i64 l, .slice A r.length cap], .int .i64 p, .int .i64 most] w fun e w' => e = .returned (.bool (readyR l r p most)) ∧ Below w.heap.size w w' := by
  have HC := Lib.hid (ref11_Mass · l A cap r · hI hm hr hs p hp)
  have HS := Lib.hid hS
  rw [ready_mass]
  clear hS hI hm hr hs
  generalize (massR l r p).1 = a at HC ⊢
  generalize (massR l r p).2 = b at HC ⊢
  by_cases h1 : 0 < a
  · by_cases h2 : b ≤ most
    · go_enter Tryz.func243, Tryz.ntmps243
      go_wp2_with fail
      refine (HC.out _ (HS.out.keep (by simp) fun p hp => ((Below.refl w.heap.size w).alloc (Nat.le_refl _) _).cell hp)).mono ?_
      rintro e w1 ⟨rfl, hb1⟩
      have B1 : Below w.heap.size w w1 := Below.then_ (by repeat (first | with_reducible exact Below.refl _ _ | with_reducible assumption | ((with_reducible refine Below.setCell ?_ ?_ _); rotate_left; · (first | omega | exact Nat.le_refl _ | (simp <;> omega))) | (with_reducible refine Below.allocW ?_ _) | (with_reducible refine Below.drew ?_) | (with_reducible refine Below.extW ?_ _))) hb1
      have s1 : w.heap.size ≤ w1.heap.size := B1.size
      have z1_0 : w.heap.size < w1.heap.size := by have := hb1.size; (try simp at this); omega
      have y1_0 : w.heap.size ≤ w1.heap.size := Nat.le_of_lt z1_0
      have c1_0 := fun o => hb1.cell (p := ⟨w.heap.size, o, none⟩) (by first | omega | (simp <;> omega))
      have f1_0 := fun o => hb1.frozen (p := ⟨w.heap.size, o, none⟩) (by first | omega | (simp <;> omega))
      go_wp2_with fail
      go_ret
      exact ⟨ret_bool (by simp [h1, h2]), (by repeat (first | with_reducible exact Below.refl _ _ | with_reducible assumption | ((with_reducible refine Below.setCell ?_ ?_ _); rotate_left; · (first | omega | exact Nat.le_refl _ | (simp <;> omega))) | (with_reducible refine Below.allocW ?_ _) | (with_reducible refine Below.drew ?_) | (with_reducible refine Below.extW ?_ _)))⟩
    · have h2' : decide (b ≤ most) = false := by simpa using h2
      clear h2
      go_enter Tryz.func243, Tryz.ntmps243
      go_wp2_with fail
      refine (HC.out _ (HS.out.keep (by simp) fun p hp => ((Below.refl w.heap.size w).alloc (Nat.le_refl _) _).cell hp)).mono ?_
      rintro e w1 ⟨rfl, hb1⟩
      have B1 : Below w.heap.size w w1 := Below.then_ (by repeat (first | with_reducible exact Below.refl _ _ | with_reducible assumption | ((with_reducible refine Below.setCell ?_ ?_ _); rotate_left; · (first | omega | exact Nat.le_refl _ | (simp <;> omega))) | (with_reducible refine Below.allocW ?_ _) | (with_reducible refine Below.drew ?_) | (with_reducible refine Below.extW ?_ _))) hb1
      have s1 : w.heap.size ≤ w1.heap.size := B1.size
      have z1_0 : w.heap.size < w1.heap.size := by have := hb1.size; (try simp at this); omega
      have y1_0 : w.heap.size ≤ w1.heap.size := Nat.le_of_lt z1_0
      have c1_0 := fun o => hb1.cell (p := ⟨w.heap.size, o, none⟩) (by first | omega | (simp <;> omega))
      have f1_0 := fun o => hb1.frozen (p := ⟨w.heap.size, o, none⟩) (by first | omega | (simp <;> omega))
      go_wp2_with fail
      go_ret
      exact ⟨ret_bool (by simp [h2']), (by repeat (first | with_reducible exact Below.refl _ _ | with_reducible assumption | ((with_reducible refine Below.setCell ?_ ?_ _); rotate_left; · (first | omega | exact Nat.le_refl _ | (simp <;> omega))) | (with_reducible refine Below.allocW ?_ _) | (with_reducible refine Below.drew ?_) | (with_reducible refine Below.extW ?_ _)))⟩
  · have h1' : decide (0 < a) = false := by simpa using h1
    clear h1
    go_enter Tryz.func243, Tryz.ntmps243
    go_wp2_with fail
    refine (HC.out _ (HS.out.keep (by simp) fun p hp => ((Below.refl w.heap.size w).alloc (Nat.le_refl _) _).cell hp)).mono ?_
    rintro e w1 ⟨rfl, hb1⟩
    have B1 : Below w.heap.size w w1 := Below.then_ (by repeat (first | with_reducible exact Below.refl _ _ | with_reducible assumption | ((with_reducible refine Below.setCell ?_ ?_ _); rotate_left; · (first | omega | exact Nat.le_refl _ | (simp <;> omega))) | (with_reducible refine Below.allocW ?_ _) | (with_reducible refine Below.drew ?_) | (with_reducible refine Below.extW ?_ _))) hb1
    have s1 : w.heap.size ≤ w1.heap.size := B1.size
    have z1_0 : w.heap.size < w1.heap.size := by have := hb1.size; (try simp at this); omega
    have y1_0 : w.heap.size ≤ w1.heap.size := Nat.le_of_lt z1_0
    have c1_0 := fun o => hb1.cell (p := ⟨w.heap.size, o, none⟩) (by first | omega | (simp <;> omega))
    have f1_0 := fun o => hb1.frozen (p := ⟨w.heap.size, o, none⟩) (by first | omega | (simp <;> omega))
    go_wp2_with fail
    go_ret
    exact ⟨ret_bool (by simp [h1']), (by repeat (first | with_reducible exact Below.refl _ _ | with_reducible assumption | ((with_reducible refine Below.setCell ?_ ?_ _); rotate_left; · (first | omega | exact Nat.le_refl _ | (simp <;> omega))) | (with_reducible refine Below.allocW ?_ _) | (with_reducible refine Below.drew ?_) | (with_reducible refine Below.extW ?_ _)))⟩
theorem depth_any (n : Int) : (if 1 ≤ n then Value.tuple #[.int .i64 n.toNat.log2, .bool true] else Value.tuple #[.int .i64 0, .bool false]) = .tuple #[.int .i64 (n.toNat.log2 : Nat), .bool (decide (1 ≤ n))] := by
  by_cases h : 1 ≤ n
  · rw [if_pos h]; simp [h]
  · rw [if_neg h]
    have : n.toNat = 0 := by omega
    rw [this]; simp [h, Nat.log2_zero]
theorem ref11_Ahead (w : World) (a b : Int) (ha : a ≤ 9223372036854775807) (hb : b ≤ 9223372036854775807) :
    Calls Tryz.prog 359 #[.int .i64 a, .int .i64 b] w fun e w' => e = .returned (.bool (aheadI a b)) ∧ Below w.heap.size w w' := by
  have HX := Lib.hid (fun W => ref2_Depth W a ha)
  have HY := Lib.hid (fun W => ref2_Depth W b hb)
  rw [depth_any] at HX HY
  unfold aheadI
  generalize a.toNat.log2 = n at HX ⊢
  generalize b.toNat.log2 = m at HY ⊢
  clear ha hb
  by_cases he : n = m
  · subst he
    rw [if_neg (by simp)]
    have hnn : decide (n < n) = false := by simp
    have hnn2 : decide ((n : Int) < (n : Int)) = false := by simp
    by_cases hlt : a < b
    · rw [decide_eq_true hlt]
      go_enter Tryz.func359, Tryz.ntmps359
      go_wp2_with fail
      refine (HX.out _).mono ?_
      rintro e w1 ⟨rfl, hb1⟩
      have B1 : Below w.heap.size w w1 := Below.then_ (by repeat (first | with_reducible exact Below.refl _ _ | with_reducible assumption | ((with_reducible refine Below.setCell ?_ ?_ _); rotate_left; · (first | omega | exact Nat.le_refl _ | (simp <;> omega))) | (with_reducible refine Below.allocW ?_ _) | (with_reducible refine Below.drew ?_) | (with_reducible refine Below.extW ?_ _))) hb1
      have s1 : w.heap.size ≤ w1.heap.size := B1.size
      go_wp2_with fail
      refine (HY.out _).mono ?_
      rintro e w2 ⟨rfl, hb2⟩
      have B2 : Below w.heap.size w w2 := Below.then_ (by repeat (first | with_reducible exact Below.refl _ _ | with_reducible assumption | ((with_reducible refine Below.setCell ?_ ?_ _); rotate_left; · (first | omega | exact Nat.le_refl _ | (simp <;> omega))) | (with_reducible refine Below.allocW ?_ _) | (with_reducible refine Below.drew ?_) | (with_reducible refine Below.extW ?_ _))) hb2
      have s2 : w.heap.size ≤ w2.heap.size := B2.size
      go_wp2_with fail
      go_ret
      exact ⟨rfl, (by repeat (first | with_reducible exact Below.refl _ _ | with_reducible assumption | ((with_reducible refine Below.setCell ?_ ?_ _); rotate_left; · (first | omega | exact Nat.le_refl _ | (simp <;> omega))) | (with_reducible refine Below.allocW ?_ _) | (with_reducible refine Below.drew ?_) | (with_reducible refine Below.extW ?_ _)))⟩
    · have hlt' : decide (a < b) = false := by simpa using hlt
      rw [hlt']
      clear hlt
      go_enter Tryz.func359, Tryz.ntmps359
      go_wp2_with fail
      refine (HX.out _).mono ?_
      rintro e w1 ⟨rfl, hb1⟩
      have B1 : Below w.heap.size w w1 := Below.then_ (by repeat (first | with_reducible exact Below.refl _ _ | with_reducible assumption | ((with_reducible refine Below.setCell ?_ ?_ _); rotate_left; · (first | omega | exact Nat.le_refl _ | (simp <;> omega))) | (with_reducible refine Below.allocW ?_ _) | (with_reducible refine Below.drew ?_) | (with_reducible refine Below.extW ?_ _))) hb1
      have s1 : w.heap.size ≤ w1.heap.size := B1.size
      go_wp2_with fail
      refine (HY.out _).mono ?_
      rintro e w2 ⟨rfl, hb2⟩
      have B2 : Below w.heap.size w w2 := Below.then_ (by repeat (first | with_reducible exact Below.refl _ _ | with_reducible assumption | ((with_reducible refine Below.setCell ?_ ?_ _); rotate_left; · (first | omega | exact Nat.le_refl _ | (simp <;> omega))) | (with_reducible refine Below.allocW ?_ _) | (with_reducible refine Below.drew ?_) | (with_reducible refine Below.extW ?_ _))) hb2
      have s2 : w.heap.size ≤ w2.heap.size := B2.size
      go_wp2_with fail
      go_ret
      exact ⟨rfl, (by repeat (first | with_reducible exact Below.refl _ _ | with_reducible assumption | ((with_reducible refine Below.setCell ?_ ?_ _); rotate_left; · (first | omega | exact Nat.le_refl _ | (simp <;> omega))) | (with_reducible refine Below.allocW ?_ _) | (with_reducible refine Below.drew ?_) | (with_reducible refine Below.extW ?_ _)))⟩
  · rw [if_pos he]
    have he' : ((n : Int) == (m : Int)) = false := by simp; omega
    have he2 : (n == m) = false := by simpa using he
    by_cases hlt : m < n
    · rw [decide_eq_true hlt]
      have hlt2 : (m : Int) < (n : Int) := by omega
      clear he
      go_enter Tryz.func359, Tryz.ntmps359
      go_wp2_with fail
      refine (HX.out _).mono ?_
      rintro e w1 ⟨rfl, hb1⟩
      have B1 : Below w.heap.size w w1 := Below.then_ (by repeat (first | with_reducible exact Below.refl _ _ | with_reducible assumption | ((with_reducible refine Below.setCell ?_ ?_ _); rotate_left; · (first | omega | exact Nat.le_refl _ | (simp <;> omega))) | (with_reducible refine Below.allocW ?_ _) | (with_reducible refine Below.drew ?_) | (with_reducible refine Below.extW ?_ _))) hb1
      have s1 : w.heap.size ≤ w1.heap.size := B1.size
      go_wp2_with fail
      refine (HY.out _).mono ?_
      rintro e w2 ⟨rfl, hb2⟩
      have B2 : Below w.heap.size w w2 := Below.then_ (by repeat (first | with_reducible exact Below.refl _ _ | with_reducible assumption | ((with_reducible refine Below.setCell ?_ ?_ _); rotate_left; · (first | omega | exact Nat.le_refl _ | (simp <;> omega))) | (with_reducible refine Below.allocW ?_ _) | (with_reducible refine Below.drew ?_) | (with_reducible refine Below.extW ?_ _))) hb2
      have s2 : w.heap.size ≤ w2.heap.size := B2.size
      go_wp2_with fail
      go_ret
      exact ⟨rfl, (by repeat (first | with_reducible exact Below.refl _ _ | with_reducible assumption | ((with_reducible refine Below.setCell ?_ ?_ _); rotate_left; · (first | omega | exact Nat.le_refl _ | (simp <;> omega))) | (with_reducible refine Below.allocW ?_ _) | (with_reducible refine Below.drew ?_) | (with_reducible refine Below.extW ?_ _)))⟩
    · have hlt' : decide (m < n) = false := by simpa using hlt
      have hlt2 : decide ((m : Int) < (n : Int)) = false := by simp; omega
      rw [hlt']
      clear hlt he
      go_enter Tryz.func359, Tryz.ntmps359
      go_wp2_with fail
      refine (HX.out _).mono ?_
      rintro e w1 ⟨rfl, hb1⟩
      have B1 : Below w.heap.size w w1 := Below.then_ (by repeat (first | with_reducible exact Below.refl _ _ | with_reducible assumption | ((with_reducible refine Below.setCell ?_ ?_ _); rotate_left; · (first | omega | exact Nat.le_refl _ | (simp <;> omega))) | (with_reducible refine Below.allocW ?_ _) | (with_reducible refine Below.drew ?_) | (with_reducible refine Below.extW ?_ _))) hb1
      have s1 : w.heap.size ≤ w1.heap.size := B1.size
      go_wp2_with fail
      refine (HY.out _).mono ?_
      rintro e w2 ⟨rfl, hb2⟩
      have B2 : Below w.heap.size w w2 := Below.then_ (by repeat (first | with_reducible exact Below.refl _ _ | with_reducible assumption | ((with_reducible refine Below.setCell ?_ ?_ _); rotate_left; · (first | omega | exact Nat.le_refl _ | (simp <;> omega))) | (with_reducible refine Below.allocW ?_ _) | (with_reducible refine Below.drew ?_) | (with_reducible refine Below.extW ?_ _))) hb2
      have s2 : w.heap.size ≤ w2.heap.size := B2.size
      go_wp2_with fail
      go_ret
      exact ⟨rfl, (by repeat (first | with_reducible exact Below.refl _ _ | with_reducible assumption | ((with_reducible refine Below.setCell ?_ ?_ _); rotate_left; · (first | omega | exact Nat.le_refl _ | (simp <;> omega))) | (with_reducible refine Below.allocW ?_ _) | (with_reducible refine Below.drew ?_) | (with_reducible refine Below.extW ?_ _)))⟩
end Go.Proofs.YtcjnchjmpkapmaaGreat
/- Reference 11: With, Parents, First; reference 12: Is, Cap, Tight, Light. -/
namespace Go.Proofs.YtcjnchjmpkapmaaGreat
open Go.ChangeShapes Go.WideShapes Go.ChangeAt Go.RowKit
set_option linter.unusedVariables false
set_option linter.unusedSimpArgs false
set_option maxRecDepth 100000

theorem zl_take {w : World} {B : Nat} {A : Option Addr} {l : List Int} (h : Sl w B encZ A l) (a : Nat) : Sl w B encZ A (l.take a) := by
  rcases h with h | ⟨b, off, rfl, hb, hc⟩
  · subst h; exact .inl (by simp)
  · refine .inr ⟨b, off, rfl, hb, fun i x hi j u hj => ?_⟩
    rw [List.getElem?_take] at hi
    split at hi
    · exact hc i x hi j u hj
    · cases hi
theorem zl_drop {w : World} {B b off : Nat} {l : List Int} (h : Sl w B encZ (some ⟨b, off, none⟩) l) (a : Nat) : Sl w B encZ (some ⟨b, off + a, none⟩) (l.drop a) := by
  rcases h with h | ⟨b', off', hA, hb, hc⟩
  · subst h; exact .inl (by simp)
  · cases hA
    refine .inr ⟨b, off + a, rfl, hb, fun i x hi j u hj => ?_⟩
    rw [List.getElem?_drop] at hi
    have := hc (a + i) x hi j u hj
    rw [show off + a + i * 1 + j = off + (a + i) * 1 + j by omega]
    exact this
def pickZ (c : Prop) [Decidable c] (x y : Option Addr) : Option Addr := if c then x else y
theorem slice_pickZ (c : Prop) [Decidable c] (x y : Option Addr) (n m : Nat) : Value.slice (if c then x else y) n m = Value.slice (pickZ c x y) n m := rfl
theorem zl_pick {w : World} {B : Nat} {c : Prop} [Decidable c] {x y : Option Addr} {l : List Int} (h : c → l = []) (h2 : Sl w B encZ y l) : Sl w B encZ (pickZ c x y) l := by
  unfold pickZ
  by_cases hc : c
  · rw [if_pos hc]; exact .inl (h hc)
  · rw [if_neg hc]; exact h2
theorem mem_cut {L : List Int} {q : Nat} {id : Int} (z : Int) : z ∈ (L.take q ++ [id]) ++ L.drop q ↔ z ∈ L ∨ z = id := by
  have h : z ∈ L ↔ z ∈ L.take q ∨ z ∈ L.drop q := by rw [← List.mem_append, List.take_append_drop]
  simp only [List.mem_append, List.mem_singleton, h]
  constructor
  · rintro ((h | h) | h) <;> simp [h]
  · rintro ((h | h) | h) <;> simp [h]
theorem own_addr {w : World} {base e n cap : Nat} {E : Enc Int 1} {A : Option Addr} {l : List Int} (h : Own w base e E (.slice A n cap) l) : (A = none ∧ cap = 0) ∨ ∃ b off, A = some ⟨b, off, none⟩ := by
  rcases h with ⟨hv, _⟩ | ⟨g, off, cap', cur, hv, _⟩
  · cases hv; exact .inl ⟨rfl, rfl⟩
  · cases hv; exact .inr ⟨_, _, rfl⟩
def WithPost (L : List Int) (id : Int) (w : World) (e : Ending) (w' : World) : Prop :=
  ∃ (A' : Option Addr) (cap' : Nat) (L' : List Int), e = .returned (.slice A' L'.length cap') ∧ L'.length ≤ cap' ∧ cap' ≤ maxLen ∧ ((A' = none ∧ cap' = 0) ∨ ∃ b off, A' = some ⟨b, off, none⟩) ∧ Sl w' w'.heap.size encZ A' L' ∧ (∀ z, z ∈ L' ↔ z ∈ L ∨ z = id) ∧ L'.length ≤ L.length + 1 ∧ Below w.heap.size w w'
section
attribute [local go_sem] slice_pickZ
set_option maxHeartbeats 8000000 in
theorem ref11_With (w : World) (A : Option Addr) (cap : Nat) (L : List Int) (id : Int) (hS : Sl w w.heap.size encZ A L) (hc1 : L.length ≤ cap) (hc2 : cap ≤ maxLen) (hO : (A = none ∧ cap = 0) ∨ ∃ b off, A = some ⟨b, off, none⟩) (hlen : L.length ≤ 1000) (hI : ∀ x ∈ L, x ≤ 9223372036854775807) (hid : id ≤ 9223372036854775807) :
    Calls Tryz.prog 303 #[.slice A L.length cap, .int .i64 id] w (WithPost L id w) := by
  have HS := Lib.hid hS
  have HI := Lib.hid hI
  unfold WithPost
  unfold maxLen at hc2
  clear hS hI
  go_enter Tryz.func303, Tryz.ntmps303
  go_wp2_with fail
  go_loopw [5] (fun i wr => ∃ q : Nat, q ≤ L.length ∧ i = .int .i64 q ∧ Below w.heap.size w wr) (fun i _ => L.length - (intOf i).toNat)
  case atStart => exact ⟨0, Nat.zero_le _, rfl, Below.refl _ _⟩
  case round =>
    obtain ⟨q, hq, rfl, hBr⟩ := hrel
    have BR := Lib.hid hBr
    have sR := hBr.size
    clear hBr
    by_cases hlt : q < L.length
    · obtain ⟨b, off, rfl, hb, hc⟩ := HS.out.at_ hlt
      have c0 := (BR.out.cell (p := ⟨b, off + q, none⟩) hb).trans (by have := hc 0 (.int .i64 L[q]) rfl; simpa using this)
      have lb : b < wr.heap.size := Nat.lt_of_lt_of_le hb sR
      have i1 : (q : Int) < (L.length : Int) := by omega
      have hx1 := HI.out _ (List.getElem_mem hlt)
      obtain ⟨x, hx⟩ : ∃ x, x = L[q] := ⟨_, rfl⟩
      have HX : Hid (x ∈ L) := Lib.hid (hx ▸ List.getElem_mem hlt)
      rw [← hx] at c0 hx1
      have HA := Lib.hid (fun W => ref11_Ahead W x id hx1 hid)
      generalize aheadI x id = ah at HA
      clear hx hc hx1
      cases ah
      · go_wp2_with fail
        refine (HA.out wr).mono ?_
        rintro e w1 ⟨rfl, hb1⟩
        have c1 := (hb1.cell (p := ⟨b, off + q, none⟩) lb).trans c0
        have l1 : b < w1.heap.size := Nat.lt_of_lt_of_le lb hb1.size
        have BV := Lib.hid (Below.then_ BR.out hb1)
        have SV := Lib.hid (HS.out.keep (B' := w1.heap.size) BV.out.size fun p hp => BV.out.cell hp)
        clear hb1 HA c0 lb
        by_cases he : x = id
        · subst he
          have he1 : (x == x) = true := by simp
          go_wp2_with fail
          go_ret
          exact ⟨some ⟨b, off, none⟩, cap, L, rfl, hc1, by unfold maxLen; omega, .inr ⟨b, off, rfl⟩, SV.out, fun z => ⟨.inl, fun h => by rcases h with h | rfl; exact h; exact HX.out⟩, by omega, BV.out⟩
        · have he1 : (x == id) = false := by simpa using he
          clear he
          obtain ⟨M, hM⟩ : ∃ M, M = L.take q := ⟨_, rfl⟩
          obtain ⟨D, hD⟩ : ∃ D, D = L.drop q := ⟨_, rfl⟩
          have HM := Lib.hid (show M.length = q by rw [hM, List.length_take]; omega)
          have HDl := Lib.hid (show D.length = L.length - q by rw [hD, List.length_drop])
          have HMD : Hid (∀ z, z ∈ (M ++ [id]) ++ D ↔ z ∈ L ∨ z = id) := Lib.hid (fun z => by rw [hM, hD]; exact mem_cut z)
          have TM := Lib.hid (hM ▸ zl_take SV.out q)
          have TD := Lib.hid (hD ▸ zl_drop SV.out q)
          have TD0 : Hid (cap = q → D = []) := Lib.hid (fun h => List.eq_nil_of_length_eq_zero (by rw [HDl.out]; omega))
          have hDs := TD
          clear hM hD
          have i1 : q ≤ cap := by omega
          go_wp2_with ((at_builtin; refine wpList_app tyZ rfl _ _ rfl encZ w1.heap.size (.slice none 0 0) [] rfl (Own.nil _ _ _ _) (some ⟨b, off, none⟩) cap M w1.heap.size ?hx TM.out ?c1 ?c2 ?c3 ?c4))
          case hx => rw [HM.out]; rfl
          case c1 => have := HM.out; simp only [List.length_nil]; omega
          case c2 => have := HM.out; simp only [maxLen, List.length_nil]; omega
          case c3 => exact Nat.le_refl _
          case c4 =>
            intro v4 w4 ho4 hg4 _ hb4 _
            have O4 := Lib.hid (show Own w4 w1.heap.size 3 encZ v4 M from ho4)
            have B4 := Lib.hid (Below.then_ BV.out hb4)
            have b4 := hb4.size
            have TD4 := Lib.hid (TD.out.keep (B' := w4.heap.size) hb4.size fun p hp => hb4.cell hp)
            have HB4 := Lib.hid hb4
            clear ho4 hg4 hb4 TM TD
            obtain ⟨A4, c4, rfl, _⟩ := O4.out.form
            go_wp2_with ((at_builtin; refine wpList_push tyZ rfl _ _ rfl encZ w4 w1.heap.size (.slice A4 M.length c4) M rfl O4.out id (by go_simp) rfl ?d1 ?d2 ?d3 ?d4))
            case d1 => have := HM.out; omega
            case d2 => have := HM.out; simp only [maxLen]; omega
            case d3 => exact b4
            case d4 =>
              intro v5 w5 ho5 hg5 hs5 _ hb5 _
              obtain ⟨N, hN⟩ : ∃ N, N = M ++ [id] := ⟨_, rfl⟩
              have HN := Lib.hid (show N.length = q + 1 by rw [hN, List.length_append, HM.out]; rfl)
              rw [← hN] at ho5 HMD
              have O5 := Lib.hid ho5
              have B5 := Lib.hid (B4.out.trans (hb5.mono BV.out.size))
              have b5 : w4.heap.size ≤ w5.heap.size := Nat.le_of_lt hs5
              have b6 : w1.heap.size ≤ w5.heap.size := Nat.le_trans b4 b5
              have HB5 := Lib.hid (HB4.out.trans hb5)
              clear ho5 hg5 hb5 hN
              obtain ⟨A5, c5, rfl, _⟩ := O5.out.form
              have TDx := Lib.hid ((hDs.out).keep (B' := w5.heap.size) b6 fun p hp => HB5.out.cell hp)
              go_wp2_with ((at_builtin; refine wpList_app tyZ rfl _ _ rfl encZ w1.heap.size (.slice A5 N.length c5) N rfl O5.out (some ⟨b, off + q, none⟩) (cap - q) D w5.heap.size ?hx TDx.out ?e1 ?e2 ?e3 ?e4))
              case hx => rw [HDl.out]; rfl
              case e1 => have := HN.out; have := HDl.out; omega
              case e2 => have := HN.out; have := HDl.out; simp only [maxLen]; omega
              case e3 => exact b6
              case e4 =>
                intro v6 w6 ho6 _ _ hb6 _
                obtain ⟨Z, hZ⟩ : ∃ Z, Z = N ++ D := ⟨_, rfl⟩
                have HZ : Hid (Z.length ≤ L.length + 1) := Lib.hid (by rw [hZ, List.length_append, HN.out, HDl.out]; omega)
                rw [← hZ] at ho6 HMD
                have B6 := Lib.hid (B5.out.trans (hb6.mono BV.out.size))
                have O6 := Lib.hid ho6
                clear ho6 hb6 hZ
                obtain ⟨A6, c6, rfl, k1, k2, _⟩ := O6.out.form
                go_wp2_with fail
                go_ret
                exact ⟨A6, c6, Z, rfl, k1, k2, own_addr O6.out, O6.out.sl, HMD.out, HZ.out, B6.out⟩
      · go_wp2_with fail
        refine (HA.out wr).mono ?_
        rintro e w1 ⟨rfl, hb1⟩
        have BV := Lib.hid (Below.then_ BR.out hb1)
        clear hb1 HA c0 lb
        go_wp2_with fail
        go_roundw
        case rel => exact ⟨q + 1, by omega, by go_num, BV.out⟩
        case measure => simp [intOf]; omega
    · have hqe : q = L.length := by omega
      have hqi : decide ((q : Int) < (L.length : Int)) = false := by simp; omega
      clear hlt
      have BV := BR
      have SV := Lib.hid (HS.out.keep (B' := wr.heap.size) BV.out.size fun p hp => BV.out.cell hp)
      rcases hO with ⟨rfl, rfl⟩ | ⟨b, off, rfl⟩
      · obtain rfl : L = [] := by
          rcases HS.out with h | ⟨b, off, h, _⟩
          · exact h
          · cases h
        obtain rfl : q = 0 := by simpa using hqe
        clear hqe hq
        go_wp2_with ((at_builtin; refine wpList_app tyZ rfl _ _ rfl encZ wr.heap.size (.slice none 0 0) [] rfl (Own.nil _ _ _ _) none 0 [] wr.heap.size ?hx (.inl rfl) ?c1 ?c2 ?c3 ?c4))
        case hx => rfl
        case c1 => simp
        case c2 => simp [maxLen]
        case c3 => exact Nat.le_refl _
        case c4 =>
          intro v4 w4 ho4 hg4 _ hb4
          try intro _
          have O4 := Lib.hid (show Own w4 wr.heap.size 3 encZ v4 [] from ho4)
          have B4 := Lib.hid (Below.then_ BV.out hb4)
          have b4 := hb4.size
          have HB4 := Lib.hid hb4
          clear ho4 hg4 hb4
          obtain ⟨A4, c4, rfl, _⟩ := O4.out.form
          go_wp2_with ((at_builtin; refine wpList_push tyZ rfl _ _ rfl encZ w4 wr.heap.size (.slice A4 ([] : List Int).length c4) [] rfl O4.out id (by go_simp) rfl ?d1 ?d2 ?d3 ?d4))
          case d1 => simp
          case d2 => simp [maxLen]
          case d3 => exact b4
          case d4 =>
            intro v5 w5 ho5 hg5 hs5 _ hb5 _
            have O5 := Lib.hid (show Own w5 wr.heap.size 3 encZ v5 [id] from ho5)
            have B5 := Lib.hid (B4.out.trans (hb5.mono BV.out.size))
            have b6 : wr.heap.size ≤ w5.heap.size := Nat.le_trans b4 (Nat.le_of_lt hs5)
            clear ho5 hg5 hb5
            obtain ⟨A5, c5, rfl, _⟩ := O5.out.form
            go_wp2_with ((at_builtin; refine wpList_app tyZ rfl _ _ rfl encZ wr.heap.size (.slice A5 ([id] : List Int).length c5) [id] rfl O5.out none 0 [] w5.heap.size ?hx (.inl rfl) ?e1 ?e2 ?e3 ?e4))
            case hx => rfl
            case e1 => simp
            case e2 => simp [maxLen]
            case e3 => exact b6
            case e4 =>
              intro v6 w6 ho6 _ _ hb6
              try intro _
              have B6 := Lib.hid (B5.out.trans (hb6.mono BV.out.size))
              have O6 := Lib.hid (show Own w6 wr.heap.size 3 encZ v6 [id] from by simpa using ho6)
              clear ho6 hb6
              obtain ⟨A6, c6, rfl, k1, k2, _⟩ := O6.out.form
              go_wp2_with fail
              go_ret
              exact ⟨A6, c6, [id], rfl, k1, k2, own_addr O6.out, O6.out.sl, fun z => by simp, by simp, B6.out⟩
      · have hqe' : L.length ≤ q := by omega
        clear hqe
        obtain ⟨M, hM⟩ : ∃ M, M = L.take q := ⟨_, rfl⟩
        obtain ⟨D, hD⟩ : ∃ D, D = L.drop q := ⟨_, rfl⟩
        have HM := Lib.hid (show M.length = q by rw [hM, List.length_take]; omega)
        have HDl := Lib.hid (show D.length = L.length - q by rw [hD, List.length_drop])
        have HMD : Hid (∀ z, z ∈ (M ++ [id]) ++ D ↔ z ∈ L ∨ z = id) := Lib.hid (fun z => by rw [hM, hD]; exact mem_cut z)
        have TM := Lib.hid (hM ▸ zl_take SV.out q)
        have TD := Lib.hid (hD ▸ zl_drop SV.out q)
        have TD0 : Hid (cap = q → D = []) := Lib.hid (fun h => List.eq_nil_of_length_eq_zero (by rw [HDl.out]; omega))
        have hDs := TD
        clear hM hD
        have i1 : q ≤ cap := by omega
        go_wp2_with ((at_builtin; refine wpList_app tyZ rfl _ _ rfl encZ wr.heap.size (.slice none 0 0) [] rfl (Own.nil _ _ _ _) (some ⟨b, off, none⟩) cap M wr.heap.size ?hx TM.out ?c1 ?c2 ?c3 ?c4))
        case hx => rw [HM.out]; rfl
        case c1 => have := HM.out; simp only [List.length_nil]; omega
        case c2 => have := HM.out; simp only [maxLen, List.length_nil]; omega
        case c3 => exact Nat.le_refl _
        case c4 =>
          intro v4 w4 ho4 hg4 _ hb4 _
          have O4 := Lib.hid (show Own w4 wr.heap.size 3 encZ v4 M from ho4)
          have B4 := Lib.hid (Below.then_ BV.out hb4)
          have b4 := hb4.size
          have TD4 := Lib.hid (TD.out.keep (B' := w4.heap.size) hb4.size fun p hp => hb4.cell hp)
          have HB4 := Lib.hid hb4
          clear ho4 hg4 hb4 TM TD
          obtain ⟨A4, c4, rfl, _⟩ := O4.out.form
          go_wp2_with ((at_builtin; refine wpList_push tyZ rfl _ _ rfl encZ w4 wr.heap.size (.slice A4 M.length c4) M rfl O4.out id (by go_simp) rfl ?d1 ?d2 ?d3 ?d4))
          case d1 => have := HM.out; omega
          case d2 => have := HM.out; simp only [maxLen]; omega
          case d3 => exact b4
          case d4 =>
            intro v5 w5 ho5 hg5 hs5 _ hb5 _
            obtain ⟨N, hN⟩ : ∃ N, N = M ++ [id] := ⟨_, rfl⟩
            have HN := Lib.hid (show N.length = q + 1 by rw [hN, List.length_append, HM.out]; rfl)
            rw [← hN] at ho5 HMD
            have O5 := Lib.hid ho5
            have B5 := Lib.hid (B4.out.trans (hb5.mono BV.out.size))
            have b5 : w4.heap.size ≤ w5.heap.size := Nat.le_of_lt hs5
            have b6 : wr.heap.size ≤ w5.heap.size := Nat.le_trans b4 b5
            have HB5 := Lib.hid (HB4.out.trans hb5)
            clear ho5 hg5 hb5 hN
            obtain ⟨A5, c5, rfl, _⟩ := O5.out.form
            have TDx := Lib.hid (zl_pick (c := cap = q) (x := some ⟨b, off, none⟩) TD0.out ((hDs.out).keep (B' := w5.heap.size) b6 fun p hp => HB5.out.cell hp))
            go_wp2_with ((at_builtin; refine wpList_app tyZ rfl _ _ rfl encZ wr.heap.size (.slice A5 N.length c5) N rfl O5.out (pickZ (cap = q) (some ⟨b, off, none⟩) (some ⟨b, off + q, none⟩)) (cap - q) D w5.heap.size ?hx TDx.out ?e1 ?e2 ?e3 ?e4))
            case hx => rw [show D.length = 0 by rw [HDl.out]; omega]; rfl
            case e1 => have := HN.out; have := HDl.out; omega
            case e2 => have := HN.out; have := HDl.out; simp only [maxLen]; omega
            case e3 => exact b6
            case e4 =>
              intro v6 w6 ho6 _ _ hb6 _
              obtain ⟨Z, hZ⟩ : ∃ Z, Z = N ++ D := ⟨_, rfl⟩
              have HZ : Hid (Z.length ≤ L.length + 1) := Lib.hid (by rw [hZ, List.length_append, HN.out, HDl.out]; omega)
              rw [← hZ] at ho6 HMD
              have B6 := Lib.hid (B5.out.trans (hb6.mono BV.out.size))
              have O6 := Lib.hid ho6
              clear ho6 hb6 hZ
              obtain ⟨A6, c6, rfl, k1, k2, _⟩ := O6.out.form
              go_wp2_with fail
              go_ret
              exact ⟨A6, c6, Z, rfl, k1, k2, own_addr O6.out, O6.out.sl, HMD.out, HZ.out, B6.out⟩
end
end Go.Proofs.YtcjnchjmpkapmaaGreat
/- Reference 11: Parents, First; reference 12: Tight. -/
namespace Go.Proofs.YtcjnchjmpkapmaaGreat
open Go.ChangeShapes Go.WideShapes Go.ChangeAt Go.RowKit
set_option linter.unusedVariables false
set_option linter.unusedSimpArgs false
set_option maxRecDepth 100000

structure SlP (w : World) (A : Option Addr) (cap : Nat) (L : List Int) : Prop where
  s : Sl w w.heap.size encZ A L
  c1 : L.length ≤ cap
  c2 : cap ≤ maxLen
  o : (A = none ∧ cap = 0) ∨ ∃ b off, A = some ⟨b, off, none⟩
def ParPost (r : List Nd) (w : World) (e : Ending) (w' : World) : Prop :=
  ∃ (A' : Option Addr) (cap' : Nat) (L : List Int), e = .returned (.slice A' L.length cap') ∧ SlP w' A' cap' L ∧ (∀ z ∈ L, z ≤ 9223372036854775807) ∧ (∀ x ∈ r, 1 < x.1 → x.1 / 2 ∈ L) ∧ L.length ≤ r.length ∧ Below w.heap.size w w'
set_option maxHeartbeats 2000000 in
theorem ref11_Parents (w : World) (A : Option Addr) (cap : Nat) (r : List Nd) (hS : Sl w w.heap.size encN A r) (hI : ints r) (hlen : r.length ≤ 999) :
    Calls Tryz.prog 242 #[.slice A r.length cap] w (ParPost r w) := by
  have HS := Lib.hid hS
  have HI := Lib.hid hI
  unfold ParPost
  clear hS hI
  go_enter Tryz.func242, Tryz.ntmps242
  go_wp2_with fail
  go_loopw [3, 4] (fun o i wr => ∃ (q : Nat) (A' : Option Addr) (cap' : Nat) (L : List Int), q ≤ r.length ∧ i = .int .i64 q ∧ o = .slice A' L.length cap' ∧ SlP wr A' cap' L ∧ (∀ z ∈ L, z ≤ 9223372036854775807) ∧ (∀ x ∈ r.take q, 1 < x.1 → x.1 / 2 ∈ L) ∧ L.length ≤ q ∧ Below w.heap.size w wr) (fun _ i _ => r.length - (intOf i).toNat)
  case atStart => exact ⟨0, none, 0, [], Nat.zero_le _, rfl, rfl, ⟨.inl rfl, by simp, by simp, .inl ⟨rfl, rfl⟩⟩, by simp, by simp, by simp, Below.refl _ _⟩
  case round =>
    obtain ⟨q, A', cap', L, hq, rfl, rfl, hP, hZ, hX, hL, hBr⟩ := hrel
    have BR := Lib.hid hBr
    have HP := Lib.hid hP
    have HZ := Lib.hid hZ
    have HX := Lib.hid hX
    have HL := Lib.hid hL
    have sR := hBr.size
    clear hBr hP hZ hX hL
    by_cases hlt : q < r.length
    · obtain ⟨b, off, rfl, hb, hc⟩ := HS.out.at_ hlt
      have c0 := (BR.out.cell (p := ⟨b, off + q * 2, none⟩) hb).trans (by have := hc 0 (.int .i64 r[q].1) rfl; simpa using this)
      have lb : b < wr.heap.size := Nat.lt_of_lt_of_le hb sR
      have i1 : (q : Int) < (r.length : Int) := by omega
      have hx1 := (HI.out _ (List.getElem_mem hlt)).1.2
      have HXx : Hid (∀ M : List Int, (∀ z ∈ L, z ∈ M) → (1 < r[q].1 → r[q].1 / 2 ∈ M) → ∀ x ∈ r.take (q + 1), 1 < x.1 → x.1 / 2 ∈ M) := Lib.hid fun M h1 h2 x hx h => by
        rw [List.take_succ_eq_append_getElem hlt] at hx
        rcases List.mem_append.1 hx with hx | hx
        · exact h1 _ (HX.out x hx h)
        · obtain rfl := List.mem_singleton.1 hx
          exact h2 h
      obtain ⟨x, hxe⟩ : ∃ x, x = r[q].1 := ⟨_, rfl⟩
      rw [← hxe] at c0 hx1 HXx
      clear hc hxe
      by_cases h1 : 1 < x
      · have td : Int.tdiv x 2 = x / 2 := Int.tdiv_eq_ediv_of_nonneg (by omega)
        have hy : x / 2 ≤ 9223372036854775807 := by omega
        have hw : wrap64 (x / 2) = x / 2 := by unfold wrap64; omega
        have HW := Lib.hid (fun W h => ref11_With W A' cap' L (x / 2) h HP.out.c1 HP.out.c2 HP.out.o (by have := HL.out; omega) HZ.out hy)
        obtain ⟨y, hye⟩ : ∃ y, y = x / 2 := ⟨_, rfl⟩
        rw [← hye] at td HW HXx hy hw
        clear hye
        go_wp2_with fail
        refine (HW.out wr HP.out.s).mono ?_
        rintro e w1 ⟨A2, cap2, M, rfl, k1, k2, k3, hSM, hM, hMl, hb1⟩
        have HE : Hid (SlP w1 A2 cap2 M ∧ (∀ z ∈ M, z ≤ 9223372036854775807) ∧ (∀ x ∈ r.take (q + 1), 1 < x.1 → x.1 / 2 ∈ M) ∧ M.length ≤ q + 1 ∧ Below w.heap.size w w1) := Lib.hid ⟨⟨hSM, k1, k2, k3⟩, fun z hz => by
          rcases (hM z).1 hz with h | rfl
          · exact HZ.out z h
          · exact hy, HXx.out M (fun z hz => (hM z).2 (.inl hz)) (fun _ => (hM y).2 (.inr rfl)), by have := HL.out; omega, Below.then_ BR.out hb1⟩
        clear k1 k2 k3 hSM hM hMl hb1 HW HXx c0 lb td hw
        go_wp2_with fail
        go_roundw
        case rel => exact ⟨q + 1, A2, cap2, M, by omega, by go_num, rfl, HE.out.1, HE.out.2.1, HE.out.2.2.1, HE.out.2.2.2.1, HE.out.2.2.2.2⟩
        case measure => simp [intOf]; omega
      · have h1' : decide (1 < x) = false := by simpa using h1
        have HE := Lib.hid (HXx.out L (fun z hz => hz) (fun h => absurd h h1))
        clear h1 HXx
        go_wp2_with fail
        go_roundw
        case rel => exact ⟨q + 1, A', cap', L, by omega, by go_num, rfl, HP.out, HZ.out, HE.out, by have := HL.out; omega, BR.out⟩
        case measure => simp [intOf]; omega
    · have hqe : q = r.length := by omega
      have hqi : decide ((q : Int) < (r.length : Int)) = false := by simp; omega
      have HX2 : Hid (∀ x ∈ r, 1 < x.1 → x.1 / 2 ∈ L) := Lib.hid (by have := HX.out; rwa [hqe, List.take_length] at this)
      clear hqe
      go_wp2_with fail
      go_ret
      exact ⟨A', cap', L, rfl, HP.out, HZ.out, HX2.out, by have := HL.out; omega, BR.out⟩
def First11 (l : Nat) (most : Int) (r : List Nd) (w : World) (e : Ending) (w' : World) : Prop :=
  ∃ (id : Int) (ok : Bool), e = .returned (.tuple #[.int .i64 id, .bool ok]) ∧ (ok = true → ∃ p, readyR l r p most = true) ∧ (ok = false → ∀ p, readyR l r p most = false) ∧ Below w.heap.size w w'
set_option maxHeartbeats 2000000 in
theorem ref11_First (w : World) (l : Nat) (A : Option Addr) (cap : Nat) (r : List Nd) (hS : Sl w w.heap.size encN A r) (hI : ints r) (hlen : r.length ≤ 999) (hr : Roll r) (hs : sumR r ≤ 72057594037927935) (most : Int) :
    Calls Tryz.prog 146 #[.agg #[.int .i64 l, .slice A r.length cap], .int .i64 most] w (First11 l most r w) := by
  have HPa := Lib.hid (fun W h => ref11_Parents W A cap r h hI hlen)
  have HRd := Lib.hid (fun W p h hp => ref11_Ready W l A cap r h hI (by unfold maxLen; omega) hr hs p most hp)
  have HWt : Hid (∀ L : List Int, (∀ x ∈ r, 1 < x.1 → x.1 / 2 ∈ L) → Waits l most r L) := Lib.hid fun L h => Waits.start (fun x hx h1 => h x hx (by omega)) hr
  have BW0 : Hid (Below w.heap.size w (w.alloc (.cells #[.int .i64 l, .slice A r.length cap] 61))) := Lib.hid (by repeat (first | with_reducible exact Below.refl _ _ | with_reducible assumption | ((with_reducible refine Below.setCell ?_ ?_ _); rotate_left; · (first | omega | exact Nat.le_refl _ | (simp <;> omega))) | (with_reducible refine Below.allocW ?_ _) | (with_reducible refine Below.drew ?_) | (with_reducible refine Below.extW ?_ _)))
  have X0 : Hid ((w.alloc (.cells #[.int .i64 l, .slice A r.length cap] 61)).heap[w.heap.size]? = some (.cells #[.int .i64 l, .slice A r.length cap] 61 (0, 0))) := Lib.hid (heap_alloc_new w _)
  have S0 := Lib.hid (hS.keep (B' := (w.alloc (.cells #[.int .i64 l, .slice A r.length cap] 61)).heap.size) BW0.out.size fun p hp => BW0.out.cell hp)
  unfold First11
  clear hS hI hr hs
  go_enter Tryz.func146, Tryz.ntmps146
  go_upto_region 1 with fail
  generalize w.alloc (.cells #[.int .i64 l, .slice A r.length cap] 61) = W0 at X0 BW0 S0 ⊢
  have x0 := blk_cell X0.out
  have xz := lt_of_block X0.out
  go_wp2_with fail
  refine (HPa.out W0 S0.out).mono ?_
  rintro e w1 ⟨A2, cap2, L, rfl, hP, hZ, hX, hL, hb1⟩
  have P1 := Lib.hid hP
  have HZ := Lib.hid hZ
  have HW := Lib.hid (HWt.out L hX)
  have X1 := Lib.hid (blk_below X0.out hb1)
  have S1 := Lib.hid (S0.out.keep (B' := w1.heap.size) hb1.size fun p hp => hb1.cell hp)
  have B1 := Lib.hid (Below.then_ BW0.out hb1)
  have hL2 : L.length ≤ 999 := by omega
  clear hP hZ hX hb1 x0 xz X0 S0 BW0 HPa HWt hL
  go_wp2_with fail
  go_loopw [7] (fun i wr => ∃ q : Nat, q ≤ L.length ∧ i = .int .i64 q ∧ (∀ z ∈ L.take q, readyR l r z most = false) ∧ Below w1.heap.size w1 wr) (fun i _ => L.length - (intOf i).toNat)
  case atStart => exact ⟨0, Nat.zero_le _, rfl, by simp, Below.refl _ _⟩
  case round =>
    obtain ⟨q, hq, rfl, hN, hBr⟩ := hrel
    have BR := Lib.hid hBr
    have HN := Lib.hid hN
    have sR := hBr.size
    clear hBr hN
    by_cases hlt : q < L.length
    · obtain ⟨b, off, rfl, hb, hc⟩ := P1.out.s.at_ hlt
      have c0 := (BR.out.cell (p := ⟨b, off + q, none⟩) hb).trans (by have := hc 0 (.int .i64 L[q]) rfl; simpa using this)
      have lb : b < wr.heap.size := Nat.lt_of_lt_of_le hb sR
      have i1 : (q : Int) < (L.length : Int) := by omega
      have hx1 := HZ.out _ (List.getElem_mem hlt)
      have HNx : Hid (readyR l r L[q] most = false → ∀ z ∈ L.take (q + 1), readyR l r z most = false) := Lib.hid fun h z hz => by
        rw [List.take_succ_eq_append_getElem hlt] at hz
        rcases List.mem_append.1 hz with hz | hz
        · exact HN.out z hz
        · rw [List.mem_singleton.1 hz]; exact h
      obtain ⟨x, hxe⟩ : ∃ x, x = L[q] := ⟨_, rfl⟩
      rw [← hxe] at c0 hx1 HNx
      clear hc hxe
      have XR := Lib.hid (blk_below X1.out BR.out)
      have x1 := blk_cell XR.out
      have xz1 := lt_of_block XR.out
      have SR := Lib.hid (S1.out.keep (B' := wr.heap.size) sR fun p hp => BR.out.cell hp)
      have HRx := Lib.hid (fun W h => HRd.out W x h hx1)
      obtain ⟨y, hy⟩ : ∃ y, y = readyR l r x most := ⟨_, rfl⟩
      rw [← hy] at HRx HNx
      have HY := Lib.hid hy
      clear hx1 hy
      go_upto_region 5 with fail
      refine wp_region_ext (by kernel_rfl) (by kernel_rfl) ?_
      repeat (go_big_quiet_step (first | (go_at_call 243; exact quiet_ext (HRx.out _ (SR.out.keep (ext_below _ _).size fun p hp => (ext_below _ _).cell hp)))))
      refine wpQuiet_nil ?_
      intro w2 hb2
      replace hb2 := below_of_ext hb2
      have c2 := (hb2.cell (p := ⟨b, off + q, none⟩) lb).trans c0
      have l2 : b < w2.heap.size := Nat.lt_of_lt_of_le lb hb2.size
      have B2 := Lib.hid (Below.then_ BR.out hb2)
      have B3 := Lib.hid (B1.out.trans (B2.out.mono B1.out.size))
      clear hb2 c0 lb x1 xz1 XR SR HRx
      cases y
      · have HE := Lib.hid (HNx.out rfl)
        clear HNx
        go_wp2_with fail
        go_roundw
        case rel => exact ⟨q + 1, by omega, by go_num, HE.out, B2.out⟩
        case measure => simp [intOf]; omega
      · go_wp2_with fail
        go_ret2
        exact ⟨x, true, rfl, fun _ => ⟨x, HY.out.symm⟩, (fun h => by cases h), B3.out⟩
    · have hqe : q = L.length := by omega
      have hqi : decide ((q : Int) < (L.length : Int)) = false := by simp; omega
      have HE : Hid (∀ p, readyR l r p most = false) := Lib.hid fun p => by
        rw [← Bool.not_eq_true]
        intro hp
        have h1 := HN.out p (by rw [hqe, List.take_length]; exact HW.out p hp)
        rw [hp] at h1; cases h1
      have B3 := Lib.hid (B1.out.trans (BR.out.mono B1.out.size))
      clear hqe
      go_wp2_with fail
      go_ret2
      exact ⟨0, false, rfl, (fun h => by cases h), fun _ => HE.out, B3.out⟩
set_option maxHeartbeats 4000000 in
theorem ref12_Tight (w : World) (l : Nat) (k : Int) (A : Option Addr) (cap : Nat) (r : List Nd) (hS : Sl w w.heap.size encN A r) (hI : ints r) (hlen : r.length ≤ 999) (hr : Roll r) (hs : sumR r ≤ 72057594037927935) (ht : (totalOf r).1 = sumR r) (hk : 1 ≤ k) (hk2 : k ≤ 1048576) :
    Calls Tryz.prog 65 #[.agg #[.int .i64 l, .slice A r.length cap], .int .i64 k] w fun e w' => ∃ t : Bool, e = .returned (.bool t) ∧ (t = true ↔ ∀ p, readyR l r p (sumR r / k) = false) ∧ Below w.heap.size w w' := by
  have hs0 := sumR_nonneg hr
  have HIs := Lib.hid (fun W => ref12_Is W k)
  rw [decide_eq_true (show 1 ≤ k ∧ k ≤ 1048576 from ⟨hk, hk2⟩)] at HIs
  have HC := Lib.hid (fun W h => ref12_Cap W l k A cap r h hI (by unfold maxLen; omega) (by omega) (by omega) hk hk2)
  rw [ht] at HC
  have HF := Lib.hid (fun W h => ref11_First W l A cap r h hI hlen hr hs (sumR r / k))
  have BW0 : Hid (Below w.heap.size w (w.alloc (.cells #[.int .i64 l, .slice A r.length cap] 61))) := Lib.hid (by repeat (first | with_reducible exact Below.refl _ _ | with_reducible assumption | ((with_reducible refine Below.setCell ?_ ?_ _); rotate_left; · (first | omega | exact Nat.le_refl _ | (simp <;> omega))) | (with_reducible refine Below.allocW ?_ _) | (with_reducible refine Below.drew ?_) | (with_reducible refine Below.extW ?_ _)))
  have X0 : Hid ((w.alloc (.cells #[.int .i64 l, .slice A r.length cap] 61)).heap[w.heap.size]? = some (.cells #[.int .i64 l, .slice A r.length cap] 61 (0, 0))) := Lib.hid (heap_alloc_new w _)
  have S0 := Lib.hid (hS.keep (B' := (w.alloc (.cells #[.int .i64 l, .slice A r.length cap] 61)).heap.size) BW0.out.size fun p hp => BW0.out.cell hp)
  generalize sumR r / k = most at HC HF ⊢
  clear hS hI hr hs hs0 ht
  go_enter Tryz.func65, Tryz.ntmps65
  go_upto_region 1 with fail
  generalize w.alloc (.cells #[.int .i64 l, .slice A r.length cap] 61) = W0 at X0 BW0 S0 ⊢
  go_wp2_with fail
  refine (HIs.out W0).mono ?_
  rintro e w1 ⟨rfl, hb1⟩
  have X1 := Lib.hid (blk_below X0.out hb1)
  have S1 := Lib.hid (S0.out.keep (B' := w1.heap.size) hb1.size fun p hp => hb1.cell hp)
  have B1 := Lib.hid (Below.then_ BW0.out hb1)
  clear hb1 X0 S0 BW0 HIs
  have x1 := blk_cell X1.out
  have xz1 := lt_of_block X1.out
  go_upto_region 3 with fail
  refine wp_region_noPanic ?_
  refine wp_region_N (fun w' => w'.heap[w.heap.size]? = some (.cells #[.int .i64 l, .slice A r.length cap] 61 (0, 0))) [] (by kernel_rfl) (X1.out) (fun hHeld => ?_)
  refine wpAnyN_take (i := 0) (v := Value.agg #[.int .i64 l, .slice A r.length cap]) rfl (by kernel_rfl) (by kernel_rfl) (by kernel_rfl) (by kernel_rfl) (fun _ _ _ h => h) (Or.inl ⟨by rfl, fun W hW => by have q1 := blk_cell hW; have q2 := lt_of_block hW; go_simp⟩) X1.out ?_
  try simp only [List.getElem_toArray, List.getElem_cons_zero, List.getElem_cons_succ, Act.put, List.setIfInBounds_toArray, List.set_cons_zero, List.set_cons_succ]
  refine wpAnyN_take (i := 1) (v := Value.agg #[.int .i64 l, .slice A r.length cap]) rfl (by kernel_rfl) (by kernel_rfl) (by kernel_rfl) (by kernel_rfl) (fun _ _ _ h => h) (Or.inl ⟨by rfl, fun W hW => by have q1 := blk_cell hW; have q2 := lt_of_block hW; go_simp⟩) X1.out ?_
  try simp only [List.getElem_toArray, List.getElem_cons_zero, List.getElem_cons_succ, Act.put, List.setIfInBounds_toArray, List.set_cons_zero, List.set_cons_succ]
  refine wpAnyN_pure (i := 2) (v := Value.int .i64 k) rfl (by kernel_rfl) (by kernel_rfl) (by kernel_rfl) (fun _ _ _ h => h) (Or.inl ⟨by rfl, fun W _ => by go_simp⟩) ?_
  try simp only [List.getElem_toArray, List.getElem_cons_zero, List.getElem_cons_succ, Act.put, List.setIfInBounds_toArray, List.set_cons_zero, List.set_cons_succ]
  refine wpAnyN_one (i := 3) (by kernel_rfl) rfl (fun K hK => ?_)
  go_simp
  refine (HC.out w1.drew (S1.out.keep (B' := w1.drew.heap.size) (Nat.le_refl _) fun p hp => rfl)).mono ?_
  rintro e w2 ⟨rfl, hb2⟩
  have X2 := Lib.hid (blk_below (w := w1.drew) X1.out hb2)
  have S2 := Lib.hid ((S1.out.keep (w' := w1.drew) (B' := w1.drew.heap.size) (Nat.le_refl _) fun p hp => rfl).keep (B' := w2.heap.size) hb2.size fun p hp => hb2.cell hp)
  have B2 := Lib.hid (Below.then_ (B1.out.drew) hb2)
  clear hb2
  refine hK.out _ _ (fun _ _ => X2.out) ?_
  clear hK K
  try simp only [List.getElem_toArray, List.getElem_cons_zero, List.getElem_cons_succ, Act.put, List.setIfInBounds_toArray, List.set_cons_zero, List.set_cons_succ]
  refine wpAnyN_one (i := 4) (by kernel_rfl) rfl (fun K hK => ?_)
  go_simp
  refine (HF.out w2 S2.out).mono ?_
  rintro e w3 ⟨id, ok, rfl, h1, h2, hb3⟩
  have HK := Lib.hid (And.intro h1 h2)
  have X3 := Lib.hid (blk_below X2.out hb3)
  have B3 := Lib.hid (Below.then_ B2.out hb3)
  clear hb3 h1 h2
  refine hK.out _ _ (fun _ _ => X3.out) ?_
  clear hK K
  try simp only [List.getElem_toArray, List.getElem_cons_zero, List.getElem_cons_succ, Act.put, List.setIfInBounds_toArray, List.set_cons_zero, List.set_cons_succ]
  refine wpAnyN_pure (i := 5) (v := Value.tuple #[.int .i64 id, .bool ok]) rfl (by kernel_rfl) (by kernel_rfl) (by kernel_rfl) (fun _ _ _ h => h) (Or.inl ⟨by rfl, fun W _ => by go_simp⟩) ?_
  try simp only [List.getElem_toArray, List.getElem_cons_zero, List.getElem_cons_succ, Act.put, List.setIfInBounds_toArray, List.set_cons_zero, List.set_cons_succ]
  refine wpAnyN_pure (i := 6) (v := Value.int .i64 id) rfl (by kernel_rfl) (by kernel_rfl) (by kernel_rfl) (fun _ _ _ h => h) (Or.inl ⟨by rfl, fun W _ => by go_simp⟩) ?_
  try simp only [List.getElem_toArray, List.getElem_cons_zero, List.getElem_cons_succ, Act.put, List.setIfInBounds_toArray, List.set_cons_zero, List.set_cons_succ]
  refine wpAnyN_pure (i := 7) (v := Value.bool ok) rfl (by kernel_rfl) (by kernel_rfl) (by kernel_rfl) (fun _ _ _ h => h) (Or.inl ⟨by rfl, fun W _ => by go_simp⟩) ?_
  try simp only [List.getElem_toArray, List.getElem_cons_zero, List.getElem_cons_succ, Act.put, List.setIfInBounds_toArray, List.set_cons_zero, List.set_cons_succ]
  refine wpAnyN_pure (i := 8) (v := Value.int .i64 id) rfl (by kernel_rfl) (by kernel_rfl) (by kernel_rfl) (fun _ _ _ h => h) (Or.inl ⟨by rfl, fun W _ => by go_simp⟩) ?_
  try simp only [List.getElem_toArray, List.getElem_cons_zero, List.getElem_cons_succ, Act.put, List.setIfInBounds_toArray, List.set_cons_zero, List.set_cons_succ]
  refine wpAnyN_one (i := 9) (by kernel_rfl) rfl (fun K hK => ?_)
  go_simp
  refine hK.out _ _ (fun _ _ => X3.out) ?_
  clear hK K
  try simp only [List.getElem_toArray, List.getElem_cons_zero, List.getElem_cons_succ, Act.put, List.setIfInBounds_toArray, List.set_cons_zero, List.set_cons_succ]
  refine wpAnyN_done (by kernel_rfl) ?_ _
  refine NoPanic.normal ?_
  clear x1 xz1 X1 X2 X3 S1 S2 B1 B2
  go_wp2_with fail
  go_ret
  refine ⟨!ok, rfl, ?_, B3.out⟩
  cases ok
  · exact ⟨fun _ => HK.out.2 rfl, fun _ => rfl⟩
  · refine ⟨fun h => (by cases h), fun h => ?_⟩
    obtain ⟨p, hp⟩ := HK.out.1 rfl
    rw [h p] at hp
    cases hp
end Go.Proofs.YtcjnchjmpkapmaaGreat
/- Chapter 34: what a check tells: the law. -/
namespace Go.Proofs.YtcjnchjmpkapmaaGreat
open Go.ChangeShapes Go.WideShapes Go.ChangeAt Go.RowKit
set_option linter.unusedVariables false
set_option linter.unusedSimpArgs false
set_option maxRecDepth 100000

theorem mul_small {a b : Nat} (h1 : a ≤ 60) (h2 : b ≤ 48) : wrap64 ((a : Int) * (b : Int)) = ((a * b : Nat) : Int) := by
  have : a * b ≤ 60 * 48 := Nat.mul_le_mul h1 h2
  rw [← Int.natCast_mul]
  unfold wrap64
  omega
theorem not_400 {n : Nat} (h : ¬ 400 < n) : decide ((400 : Int) < (n : Int)) = false := by simp; omega
theorem over_400 {n : Nat} (h : 400 < n) : (400 : Int) < (n : Int) := by omega
theorem eight_k {k : Int} (h1 : 1 ≤ k) (h2 : k ≤ 1048576) : wrap64 (8 * k) = 8 * k := by unfold wrap64; omega
theorem eight_w {k : Int} (h1 : 1 ≤ k) (h2 : k ≤ 1048576) : IntKind.i64.wrap (8 * k) = 8 * k := by rw [IntKind.wrap_i64]; omega
theorem dig_l {l k K : Int} (h : isDig l k K = true) : l ≤ 48 ∧ 1 ≤ k ∧ k ≤ 1048576 := by
  simp only [isDig, isPool, Bool.and_eq_true, decide_eq_true_eq] at h
  omega
set_option maxHeartbeats 8000000 in
theorem law_AuditChecks_no (l k K lb : Int) (r : List Nd) (A : Option Addr) (cap : Nat) (q : List Nd) (B : Option Addr) (cb : Nat) (w : World) (h : ¬ (goodL l k K r ∧ (1 ≤ lb ∧ lb ≤ 48) ∧ r.length ≤ 60 ∧ q.length ≤ 60)) (hS : Sl w w.heap.size encN A r) (hI : ints r) (hSb : Sl w w.heap.size encN B q) (hIb : ints q) :
    Calls Tryz.prog 9 #[loadedV l k K A r.length cap, .int .i64 lb, .slice B q.length cb] w fun e w' => e = .returned (.bool true) ∧ Below w.heap.size w w' := by
  have HC := Lib.hid (fun W hS hSb => law34_two_no W l k K lb r A cap q B cb h hS hI hSb hIb)
  have HS := Lib.hid (And.intro hS hSb)
  have BW0 : Hid (Below w.heap.size w (w.alloc (.cells #[.int .i64 l, .int .i64 k, .int .i64 K, .slice A r.length cap] 48))) := Lib.hid (by repeat (first | with_reducible exact Below.refl _ _ | with_reducible assumption | ((with_reducible refine Below.setCell ?_ ?_ _); rotate_left; · (first | omega | exact Nat.le_refl _ | (simp <;> omega))) | (with_reducible refine Below.allocW ?_ _) | (with_reducible refine Below.drew ?_) | (with_reducible refine Below.extW ?_ _)))
  have X0 : Hid ((w.alloc (.cells #[.int .i64 l, .int .i64 k, .int .i64 K, .slice A r.length cap] 48)).heap[w.heap.size]? = some (.cells #[.int .i64 l, .int .i64 k, .int .i64 K, .slice A r.length cap] 48 (0, 0))) := Lib.hid (heap_alloc_new w _)
  unfold loadedV at HC ⊢
  clear h hS hSb
  go_enter Tryz.func9, Tryz.ntmps9
  go_upto_region 1 with fail
  generalize w.alloc (.cells #[.int .i64 l, .int .i64 k, .int .i64 K, .slice A r.length cap] 48) = W0 at X0 BW0 ⊢
  have cx := blk_cell X0.out
  have zx := lt_of_block X0.out
  have S0 := Lib.hid (HS.out.1.keep (B' := W0.heap.size) BW0.out.size fun p hp => BW0.out.cell hp)
  have S1 := Lib.hid (HS.out.2.keep (B' := W0.heap.size) BW0.out.size fun p hp => BW0.out.cell hp)
  go_wp2_with fail
  refine (HC.out _ S0.out S1.out).mono ?_
  rintro e w1 ⟨⟨d, b, a1, a2, A1, n1, c1, b1, A2, n2, c2, rfl⟩, hb1⟩
  have B1 := Lib.hid (Below.then_ BW0.out hb1)
  clear cx zx S0 S1 X0 BW0 HC
  go_wp2_with fail
  refine (alive34 _).mono ?_
  rintro e w2 ⟨rfl, hb2⟩
  have B2 := Lib.hid (Below.then_ ((B1.out.alloc B1.out.size (.cells #[.int .i64 a1, .int .i64 a2, .slice A1 n1 c1] 63)).alloc (by have := B1.out.size; simp; omega) (.cells #[.int .i64 b1, .slice A2 n2 c2] 31)) hb2)
  go_wp2_with fail
  go_ret
  exact ⟨rfl, B2.out⟩
set_option maxHeartbeats 8000000 in
theorem law_AuditChecks_big (l K lb : Nat) (k : Int) (r : List Nd) (A : Option Addr) (cap : Nat) (q : List Nd) (B : Option Addr) (cb : Nat) (w : World) (hg : goodL l k K r) (hlb : 1 ≤ lb ∧ lb ≤ 48) (h1 : r.length ≤ 60) (h2 : q.length ≤ 60) (h3 : 400 < r.length * l) (hS : Sl w w.heap.size encN A r) (hI : ints r) (hSb : Sl w w.heap.size encN B q) (hIb : ints q) :
    Calls Tryz.prog 9 #[loadedV l k K A r.length cap, .int .i64 lb, .slice B q.length cb] w fun e w' => e = .returned (.bool true) ∧ Below w.heap.size w w' := by
  have HC := Lib.hid (fun W hS hSb => law34_two W l K lb k r A cap q B cb hg hS hI hSb hIb hlb h1 h2)
  have HS := Lib.hid (And.intro hS hSb)
  have BW0 : Hid (Below w.heap.size w (w.alloc (.cells #[.int .i64 l, .int .i64 k, .int .i64 K, .slice A r.length cap] 48))) := Lib.hid (by repeat (first | with_reducible exact Below.refl _ _ | with_reducible assumption | ((with_reducible refine Below.setCell ?_ ?_ _); rotate_left; · (first | omega | exact Nat.le_refl _ | (simp <;> omega))) | (with_reducible refine Below.allocW ?_ _) | (with_reducible refine Below.drew ?_) | (with_reducible refine Below.extW ?_ _)))
  have X0 : Hid ((w.alloc (.cells #[.int .i64 l, .int .i64 k, .int .i64 K, .slice A r.length cap] 48)).heap[w.heap.size]? = some (.cells #[.int .i64 l, .int .i64 k, .int .i64 K, .slice A r.length cap] 48 (0, 0))) := Lib.hid (heap_alloc_new w _)
  have hl4 : l ≤ 48 := by have := (dig_l (goodL_dig hg.2.2)).1; omega
  have hwm := mul_small h1 hl4
  have h4 := over_400 h3
  generalize r.length * l = rl at hwm h4
  clear h3
  unfold loadedV bagV at HC
  unfold loadedV
  clear hS hSb hg hI hIb
  go_enter Tryz.func9, Tryz.ntmps9
  go_upto_region 1 with fail
  generalize w.alloc (.cells #[.int .i64 l, .int .i64 k, .int .i64 K, .slice A r.length cap] 48) = W0 at X0 BW0 ⊢
  have cx := blk_cell X0.out
  have zx := lt_of_block X0.out
  have S0 := Lib.hid (HS.out.1.keep (B' := W0.heap.size) BW0.out.size fun p hp => BW0.out.cell hp)
  have S1 := Lib.hid (HS.out.2.keep (B' := W0.heap.size) BW0.out.size fun p hp => BW0.out.cell hp)
  go_wp2_with fail
  refine (HC.out _ S0.out S1.out).mono ?_
  rintro e w1 ⟨g, F, gb, A2, c2, rfl, hD, hB, hT, hb1⟩
  have R1 : Hid (AudW w g K l k r F gb lb (madeB lb q) A cap A2 w1) := Lib.hid ⟨hD, hB.mono BW0.out.size, blk_below X0.out hb1, S0.out.keep hb1.size (fun p hp => hb1.cell hp), hT.sl, Below.then_ BW0.out hb1⟩
  clear cx zx S0 S1 X0 BW0 HC hD hB hT hb1
  have R2 := Lib.hid ((R1.out.alloc (.cells #[.int .i64 k, .int .i64 l, .slice A r.length cap] 63)).alloc (.cells #[.int .i64 lb, .slice A2 (madeB lb q).length c2] 31))
  go_upto_region 2 with fail
  generalize (w1.alloc (.cells #[.int .i64 k, .int .i64 l, .slice A r.length cap] 63)).alloc (.cells #[.int .i64 lb, .slice A2 (madeB lb q).length c2] 31) = w2 at R2 ⊢
  clear R1
  have cx := blk_cell R2.out.x
  have zx := lt_of_block R2.out.x
  go_wp2_with fail
  refine (alive34 _).mono ?_
  rintro e w5 ⟨rfl, hb5⟩
  have R5 := Lib.hid (R2.out.below hb5)
  go_wp2_with fail
  go_ret
  exact ⟨rfl, R5.out.blw⟩
set_option maxHeartbeats 8000000 in
theorem law_AuditChecks_ne (l K lb : Nat) (k : Int) (r : List Nd) (A : Option Addr) (cap : Nat) (q : List Nd) (B : Option Addr) (cb : Nat) (w : World) (hg : goodL l k K r) (hlb : 1 ≤ lb ∧ lb ≤ 48) (h1 : r.length ≤ 60) (h2 : q.length ≤ 60) (hne : l ≠ lb) (h3 : ¬ 400 < r.length * l) (hS : Sl w w.heap.size encN A r) (hI : ints r) (hSb : Sl w w.heap.size encN B q) (hIb : ints q) :
    Calls Tryz.prog 9 #[loadedV l k K A r.length cap, .int .i64 lb, .slice B q.length cb] w fun e w' => e = .returned (.bool true) ∧ Below w.heap.size w w' := by
  have HC := Lib.hid (fun W hS hSb => law34_two W l K lb k r A cap q B cb hg hS hI hSb hIb hlb h1 h2)
  have HW := Lib.hid (fun W g F gb m (h : DigAt W g K l k r F) (hb : BagAt W w.heap.size gb lb m) => audit_wrong W g K l k r F w.heap.size gb lb m h hb)
  rw [if_neg hne] at HW
  have HS := Lib.hid (And.intro hS hSb)
  have BW0 : Hid (Below w.heap.size w (w.alloc (.cells #[.int .i64 l, .int .i64 k, .int .i64 K, .slice A r.length cap] 48))) := Lib.hid (by repeat (first | with_reducible exact Below.refl _ _ | with_reducible assumption | ((with_reducible refine Below.setCell ?_ ?_ _); rotate_left; · (first | omega | exact Nat.le_refl _ | (simp <;> omega))) | (with_reducible refine Below.allocW ?_ _) | (with_reducible refine Below.drew ?_) | (with_reducible refine Below.extW ?_ _)))
  have X0 : Hid ((w.alloc (.cells #[.int .i64 l, .int .i64 k, .int .i64 K, .slice A r.length cap] 48)).heap[w.heap.size]? = some (.cells #[.int .i64 l, .int .i64 k, .int .i64 K, .slice A r.length cap] 48 (0, 0))) := Lib.hid (heap_alloc_new w _)
  have hne' : ((l : Int) != (lb : Int)) = true := by simp; omega
  have hl4 : l ≤ 48 := by have := (dig_l (goodL_dig hg.2.2)).1; omega
  have hwm := mul_small h1 hl4
  have h4 := not_400 h3
  generalize r.length * l = rl at hwm h4
  clear h3
  unfold loadedV bagV at HC
  unfold loadedV
  clear hS hSb hg hI hIb
  go_enter Tryz.func9, Tryz.ntmps9
  go_upto_region 1 with fail
  generalize w.alloc (.cells #[.int .i64 l, .int .i64 k, .int .i64 K, .slice A r.length cap] 48) = W0 at X0 BW0 ⊢
  have cx := blk_cell X0.out
  have zx := lt_of_block X0.out
  have S0 := Lib.hid (HS.out.1.keep (B' := W0.heap.size) BW0.out.size fun p hp => BW0.out.cell hp)
  have S1 := Lib.hid (HS.out.2.keep (B' := W0.heap.size) BW0.out.size fun p hp => BW0.out.cell hp)
  go_wp2_with fail
  refine (HC.out _ S0.out S1.out).mono ?_
  rintro e w1 ⟨g, F, gb, A2, c2, rfl, hD, hB, hT, hb1⟩
  have R1 : Hid (AudW w g K l k r F gb lb (madeB lb q) A cap A2 w1) := Lib.hid ⟨hD, hB.mono BW0.out.size, blk_below X0.out hb1, S0.out.keep hb1.size (fun p hp => hb1.cell hp), hT.sl, Below.then_ BW0.out hb1⟩
  clear cx zx S0 S1 X0 BW0 HC hD hB hT hb1
  have R2 := Lib.hid ((R1.out.alloc (.cells #[.int .i64 k, .int .i64 l, .slice A r.length cap] 63)).alloc (.cells #[.int .i64 lb, .slice A2 (madeB lb q).length c2] 31))
  go_upto_region 2 with fail
  generalize (w1.alloc (.cells #[.int .i64 k, .int .i64 l, .slice A r.length cap] 63)).alloc (.cells #[.int .i64 lb, .slice A2 (madeB lb q).length c2] 31) = w2 at R2 ⊢
  clear R1
  have cx := blk_cell R2.out.x
  have zx := lt_of_block R2.out.x
  go_upto_region 4 with fail
  go_wp2_with fail
  refine (audit_Check_err w2 (.pointer (some ⟨g, 0, none⟩)) (.pointer (some ⟨gb, 0, none⟩)) 6 (by decide) (HW.out w2 g F gb _ R2.out.d R2.out.b) (fun W hb => HW.out W g F gb _ (R2.out.below hb).d (R2.out.below hb).b)).mono ?_
  rintro e w4 ⟨rfl, hb4⟩
  unfold verdV
  have R4 := Lib.hid ((R2.out.below hb4).alloc (.cells #[.bool false, .bool false, .bool false, .bool false, .bool false, .int .i64 0, .int .i64 0, .int .i64 0] 106))
  have V4 := Lib.hid (heap_alloc_new w4 (.cells #[.bool false, .bool false, .bool false, .bool false, .bool false, .int .i64 0, .int .i64 0, .int .i64 0] 106))
  have HG := Lib.hid (fun W => audit_Good W false false false false false 0 0 0)
  unfold verdV at HG
  clear hb4 R2 cx zx
  go_upto_region 5 with fail
  obtain ⟨pu, hpu⟩ : ∃ q, q = w4.heap.size := ⟨_, rfl⟩
  rw [← hpu] at V4 ⊢
  generalize w4.alloc (.cells #[.bool false, .bool false, .bool false, .bool false, .bool false, .int .i64 0, .int .i64 0, .int .i64 0] 106) = w5 at R4 V4 ⊢
  clear hpu
  have cx := blk_cell R4.out.x
  have zx := lt_of_block R4.out.x
  have cv := blk_cell V4.out
  have zv := lt_of_block V4.out
  go_wp2_with fail
  refine (HG.out _).mono ?_
  rintro e w6 ⟨rfl, hb6⟩
  have R6 := Lib.hid (R4.out.below hb6)
  clear hb6 cx zx cv zv
  go_wp2_with fail
  refine (alive34 _).mono ?_
  rintro e w7 ⟨rfl, hb7⟩
  have R7 := Lib.hid (R6.out.below hb7)
  go_wp2_with fail
  go_ret
  exact ⟨rfl, R7.out.blw⟩
structure EndW (w : World) (pu pw : Nat) (vals : Array Value) (W : World) : Prop where
  p : W.heap[pu]? = some (.cells vals 106 (0, 0))
  q : W.heap[pw]? = some (.cells vals 106 (0, 0))
  blw : Below w.heap.size w W
theorem EndW.below {w W W' : World} {pu pw : Nat} {vals : Array Value} (h : EndW w pu pw vals W) (hb : Below W.heap.size W W') : EndW w pu pw vals W' := ⟨blk_below h.p hb, blk_below h.q hb, h.blw.trans (hb.mono h.blw.size)⟩
theorem EndW.of {w W : World} {pu pw : Nat} {x0 x1 x2 x3 x4 x5 x6 x7 a b c d e f g h : Value} (hp : W.heap[pu]? = some (.cells #[a, b, c, d, e, f, g, h] 106 (0, 0))) (hq : W.heap[pw]? = some (.cells #[x0, x1, x2, x3, x4, x5, x6, x7] 106 (0, 0))) (hne : pu ≠ pw) (le : w.heap.size ≤ pw) (hb : Below w.heap.size w W) :
    EndW w pu pw #[a, b, c, d, e, f, g, h] ((((((((W.setCell ⟨pw, 0, none⟩ a).setCell ⟨pw, 1, none⟩ b).setCell ⟨pw, 2, none⟩ c).setCell ⟨pw, 3, none⟩ d).setCell ⟨pw, 4, none⟩ e).setCell ⟨pw, 5, none⟩ f).setCell ⟨pw, 6, none⟩ g).setCell ⟨pw, 7, none⟩ h) :=
  ⟨((Below.heap_setCell _ _ _ _ hne).trans ((Below.heap_setCell _ _ _ _ hne).trans ((Below.heap_setCell _ _ _ _ hne).trans ((Below.heap_setCell _ _ _ _ hne).trans ((Below.heap_setCell _ _ _ _ hne).trans ((Below.heap_setCell _ _ _ _ hne).trans ((Below.heap_setCell _ _ _ _ hne).trans ((Below.heap_setCell _ _ _ _ hne).trans hp)))))))), by have := (heap_set_at (i := 7) (heap_set_at (i := 6) (heap_set_at (i := 5) (heap_set_at (i := 4) (heap_set_at (i := 3) (heap_set_at (i := 2) (heap_set_at (i := 1) (heap_set_at (i := 0) hq a) b) c) d) e) f) g) h); simpa using this, ((((((((hb.setCell le _).setCell le _).setCell le _).setCell le _).setCell le _).setCell le _).setCell le _).setCell le _)⟩
structure ChkW (w : World) (g K l : Nat) (k : Int) (r : List Nd) (F : Nat → Prop) (gb : Nat) (m : List Nd) (A : Option Addr) (cap : Nat) (A2 : Option Addr) (pv c2 pu : Nat) (vals : Array Value) (W : World) : Prop where
  a : AudV w g K l k r F gb l m A cap A2 pv c2 W
  p : W.heap[pu]? = some (.cells vals 106 (0, 0))
section
variable {w : World} {g K l : Nat} {k : Int} {r : List Nd} {F : Nat → Prop} {gb : Nat} {m : List Nd} {A : Option Addr} {cap : Nat} {A2 : Option Addr} {pv c2 pu : Nat} {vals : Array Value} {W W' : World}
theorem ChkW.below (h : ChkW w g K l k r F gb m A cap A2 pv c2 pu vals W) (hb : Below W.heap.size W W') : ChkW w g K l k r F gb m A cap A2 pv c2 pu vals W' := ⟨h.a.below hb, blk_below h.p hb⟩
theorem ChkW.drew (h : ChkW w g K l k r F gb m A cap A2 pv c2 pu vals W) : ChkW w g K l k r F gb m A cap A2 pv c2 pu vals W.drew := h.below (Below.drew (Below.refl _ _))
end
set_option maxHeartbeats 16000000 in
theorem law_AuditChecks_yes (l K : Nat) (k : Int) (r : List Nd) (A : Option Addr) (cap : Nat) (q : List Nd) (B : Option Addr) (cb : Nat) (w : World) (hg : goodL l k K r) (hlb : 1 ≤ l ∧ l ≤ 48) (h1 : r.length ≤ 60) (h2 : q.length ≤ 60) (h3 : ¬ 400 < r.length * l) (hS : Sl w w.heap.size encN A r) (hI : ints r) (hSb : Sl w w.heap.size encN B q) (hIb : ints q) :
    Calls Tryz.prog 9 #[loadedV l k K A r.length cap, .int .i64 l, .slice B q.length cb] w fun e w' => e = .returned (.bool true) ∧ Below w.heap.size w w' := by
  have hR := (goodL_parts hg.2.2).1
  have hf := right_fits hR
  have hr2 : ∀ x ∈ r, 1 ≤ x.2 := fun x hx => (hf.1.roll.2 x hx).2
  have hr1 : ∀ x ∈ r, 1 ≤ x.1 := fun x hx => (hf.1.roll.2 x hx).1
  have HC := Lib.hid (fun W hS hSb => law34_two W l K l k r A cap q B cb hg hS hI hSb hIb hlb h1 h2)
  have hbag := madeB_bag l q
  have hbl := madeB_len (l := l) q
  generalize madeB l q = m at HC hbag hbl
  have hrn := hf.1.nodes hlb
  have hm0 : ∀ z ∈ m, 0 ≤ z.1 := fun z hz => (hbag.val z hz).1
  have hd := goodL_dig hg.2.2
  have hk1 : 1 ≤ k := (dig_l hd).2.1
  have hk2 : k ≤ 1048576 := (dig_l hd).2.2
  have hs0 := sumR_nonneg hf.1.roll
  have hs1 := hf.1.sum
  have hms := hbag.sum
  have hmv : ∀ x ∈ m, 1 ≤ x.2 := fun x hx => (hbag.val x hx).2.2
  have HCk := Lib.hid (fun W g F gb (h : DigAt W g K l k r F) (hb : BagAt W w.heap.size gb l m) => audit_Check W g K l k r F w.heap.size gb m h hb hbag hI (by omega) (by omega))
  have HWe := Lib.hid (fun W h => ref13_Weight W k l A cap r h hI (by unfold maxLen; omega))
  rw [hf.2] at HWe
  have HTo := Lib.hid (fun W A2 c2 h => ref10_Total W l A2 c2 m h hmv hms)
  have HLi := Lib.hid (fun W h => ref12_Light W l k A cap r h hI (by unfold maxLen; omega) hf.2 hs0 hs1 hk1 hk2)
  have HTi := Lib.hid (fun W h => ref12_Tight W l k A cap r h hI (by omega) hf.1.roll hs1 hf.2 hk1 hk2)
  have HSt := Lib.hid (fun W A2 c2 h h' => ref34_Stands W k l A A2 cap c2 r m h h' hI hr2 hmv hs1 hms hr1 (by omega) hf.2)
  have HSl := Lib.hid (fun W h => ref16_Slack W k l A cap r h hI (by unfold maxLen; omega) (by rw [hf.2]; exact hs0) (by rw [hf.2]; exact hs1) hk1 hk2 hlb.2)
  rw [hf.2] at HSl
  have hw8 := eight_k hk1 hk2
  have hw9 := eight_w hk1 hk2
  have hl4 : l ≤ 48 := by have := (dig_l (goodL_dig hg.2.2)).1; omega
  have hwm := mul_small h1 hl4
  have h4 := not_400 h3
  generalize r.length * l = rl at hwm h4
  clear h3
  have HRO := Lib.hid (fun (W : World) (A2 : Option Addr) (c2 : Nat) hS hSb => ref34_Off W k l A A2 cap c2 r m hS hSb hI hf.1.roll (fun x hx => (hbag.val x hx).2.2) hf.1.sum hbag.sum (by omega) (by omega) hm0)
  have HEq := Lib.hid (fun (S T : List Int) (hS : StepsIs l r S) (hT : StepsIs l r T) => off_same hlb.2 hrn hm0 hS hT)
  have HS := Lib.hid (And.intro hS hSb)
  have BW0 : Hid (Below w.heap.size w (w.alloc (.cells #[.int .i64 l, .int .i64 k, .int .i64 K, .slice A r.length cap] 48))) := Lib.hid (by repeat (first | with_reducible exact Below.refl _ _ | with_reducible assumption | ((with_reducible refine Below.setCell ?_ ?_ _); rotate_left; · (first | omega | exact Nat.le_refl _ | (simp <;> omega))) | (with_reducible refine Below.allocW ?_ _) | (with_reducible refine Below.drew ?_) | (with_reducible refine Below.extW ?_ _)))
  have X0 : Hid ((w.alloc (.cells #[.int .i64 l, .int .i64 k, .int .i64 K, .slice A r.length cap] 48)).heap[w.heap.size]? = some (.cells #[.int .i64 l, .int .i64 k, .int .i64 K, .slice A r.length cap] 48 (0, 0))) := Lib.hid (heap_alloc_new w _)
  unfold loadedV bagV at HC
  unfold bagV at HRO HTo HSt
  unfold CheckPost verdV at HCk
  have hl4c := hl4
  generalize hn1 : sumR r = n1 at HCk HWe HTi HSt HSl hs0 hs1
  generalize hn2 : sumR m = n2 at HCk HTo HSt hms
  generalize hli : lightOf l r k = li at HCk HLi
  generalize hsl : (l : Int) * (n1 / k) = sl at HCk HSl
  clear hn1 hn2 hli hsl hd hl4 hl4c
  unfold loadedV
  clear hS hSb hg hI hIb hR hf hr2 hr1 hbag hrn hm0 hmv
  go_enter Tryz.func9, Tryz.ntmps9
  go_upto_region 1 with fail
  generalize w.alloc (.cells #[.int .i64 l, .int .i64 k, .int .i64 K, .slice A r.length cap] 48) = W0 at X0 BW0 ⊢
  have cx := blk_cell X0.out
  have zx := lt_of_block X0.out
  have S0 := Lib.hid (HS.out.1.keep (B' := W0.heap.size) BW0.out.size fun p hp => BW0.out.cell hp)
  have S1 := Lib.hid (HS.out.2.keep (B' := W0.heap.size) BW0.out.size fun p hp => BW0.out.cell hp)
  go_wp2_with fail
  refine (HC.out _ S0.out S1.out).mono ?_
  rintro e w1 ⟨g, F, gb, A2, c2, rfl, hD, hB, hT, hb1⟩
  have R1 : Hid (AudW w g K l k r F gb l m A cap A2 w1) := Lib.hid ⟨hD, hB.mono BW0.out.size, blk_below X0.out hb1, S0.out.keep hb1.size (fun p hp => hb1.cell hp), hT.sl, Below.then_ BW0.out hb1⟩
  clear cx zx S0 S1 X0 BW0 HC hD hB hT hb1
  have R2 := Lib.hid (AudV.new (c2 := c2) R1.out)
  go_upto_region 2 with fail
  generalize (w1.alloc (.cells #[.int .i64 k, .int .i64 l, .slice A r.length cap] 63)).alloc (.cells #[.int .i64 l, .slice A2 m.length c2] 31) = w2 at R2 ⊢
  obtain ⟨pv, hpv⟩ : ∃ pv, pv = w1.heap.size := ⟨_, rfl⟩
  rw [← hpv] at R2 ⊢
  clear R1 hpv
  have cx := blk_cell R2.out.a.x
  have zx := lt_of_block R2.out.a.x
  go_upto_region 4 with fail
  go_wp2_with fail
  refine (HCk.out w2 g F gb R2.out.a.d R2.out.a.b).mono ?_
  rintro e w3 ⟨S, ⟨a1, a2⟩, ⟨z1, z2⟩, t, rfl, hSs, ha, hSn, ht, hb3⟩
  simp only
  have HSs := Lib.hid hSs
  have HA := Lib.hid ha
  have HSn := Lib.hid hSn
  have HT := Lib.hid ht
  have R3 : Hid (ChkW w g K l k r F gb m A cap A2 pv c2 w3.heap.size #[.bool (n1 == n2), .bool li, .bool (decide ((r.length : Int) ≤ 8 * k)), .bool t, .bool (decide (n1 = n2) && decide (z1 = 0)), .int .i64 a1, .int .i64 a2, .int .i64 sl] (w3.alloc (.cells #[.bool (n1 == n2), .bool li, .bool (decide ((r.length : Int) ≤ 8 * k)), .bool t, .bool (decide (n1 = n2) && decide (z1 = 0)), .int .i64 a1, .int .i64 a2, .int .i64 sl] 106))) := Lib.hid ⟨(R2.out.below hb3).below ((Below.refl w3.heap.size w3).alloc (Nat.le_refl _) _), heap_alloc_new w3 _⟩
  clear hb3 R2 hSs ha hSn ht cx zx HCk
  go_upto_region 5 with fail
  obtain ⟨pu, hpu⟩ : ∃ q, q = w3.heap.size := ⟨_, rfl⟩
  rw [← hpu] at R3 ⊢
  generalize w3.alloc (.cells #[.bool (n1 == n2), .bool li, .bool (decide ((r.length : Int) ≤ 8 * k)), .bool t, .bool (decide (n1 = n2) && decide (z1 = 0)), .int .i64 a1, .int .i64 a2, .int .i64 sl] 106) = w4 at R3 ⊢
  clear hpu
  have cx := blk_cell R3.out.a.a.x
  have zx := lt_of_block R3.out.a.a.x
  have cv := blk_cell R3.out.a.v
  have zv := lt_of_block R3.out.a.v
  have cu := blk_cell R3.out.a.u
  have zu := lt_of_block R3.out.a.u
  go_upto_region 7 with fail
  go_wp2_with fail
  refine (HRO.out w4 A2 c2 R3.out.a.a.s R3.out.a.a.t).mono ?_
  rintro e w5 ⟨T, ⟨a5, a6⟩, rfl, hTs, ha5, hb5⟩
  obtain ⟨rfl, rfl⟩ : a1 = a5 ∧ a2 = a6 := by
    have e1 := HA.out.trans ((HEq.out S T HSs.out hTs).trans ha5.symm)
    exact ⟨congrArg Prod.fst e1, congrArg Prod.snd e1⟩
  have R5 := Lib.hid (R3.out.below hb5)
  clear hb5 R3 hTs ha5 cx zx cv zv cu zu HRO HA HSs HEq
  (try simp only)
  go_upto_region 8 with fail
  go_cut [16] (fun p wx => ∃ pw, p = .pointer (some ⟨pw, 0, none⟩) ∧ EndW w pu pw #[.bool (n1 == n2), .bool li, .bool (decide ((r.length : Int) ≤ 8 * k)), .bool t, .bool (decide (n1 = n2) && decide (z1 = 0)), .int .i64 a1, .int .i64 a2, .int .i64 sl] wx)
  case first =>
    refine wp_region_noPanic ?_
    refine wp_region_N (fun W' => ChkW w g K l k r F gb m A cap A2 pv c2 pu #[.bool (n1 == n2), .bool li, .bool (decide ((r.length : Int) ≤ 8 * k)), .bool t, .bool (decide (n1 = n2) && decide (z1 = 0)), .int .i64 a1, .int .i64 a2, .int .i64 sl] W') [31] (by kernel_rfl) (R5.out.drew) (fun hHeld => ?_)
    have R5d := Lib.hid hHeld
    refine wpAnyN_take (i := 0) (v := Value.agg #[.int .i64 k, .int .i64 l, .slice A r.length cap]) rfl (by kernel_rfl) (by kernel_rfl) (by kernel_rfl) (by kernel_rfl) (fun _ _ _ h => h) (Or.inl ⟨by rfl, fun W hW => by have q1 := blk_cell hW.a.a.x; have q2 := lt_of_block hW.a.a.x; have q3 := blk_cell hW.a.v; have q4 := lt_of_block hW.a.v; have q5 := blk_cell hW.a.u; have q6 := lt_of_block hW.a.u; go_simp⟩) R5d.out ?_
    try simp only [List.getElem_toArray, List.getElem_cons_zero, List.getElem_cons_succ, Act.put, List.setIfInBounds_toArray, List.set_cons_zero, List.set_cons_succ]
    refine wpAnyN_take (i := 2) (v := Value.agg #[.int .i64 l, .slice A2 m.length c2]) rfl (by kernel_rfl) (by kernel_rfl) (by kernel_rfl) (by kernel_rfl) (fun _ _ _ h => h) (Or.inl ⟨by rfl, fun W hW => by have q1 := blk_cell hW.a.a.x; have q2 := lt_of_block hW.a.a.x; have q3 := blk_cell hW.a.v; have q4 := lt_of_block hW.a.v; have q5 := blk_cell hW.a.u; have q6 := lt_of_block hW.a.u; go_simp⟩) R5d.out ?_
    try simp only [List.getElem_toArray, List.getElem_cons_zero, List.getElem_cons_succ, Act.put, List.setIfInBounds_toArray, List.set_cons_zero, List.set_cons_succ]
    refine wpAnyN_pure (i := 5) (v := Value.pointer (some ⟨pv, 1, none⟩)) rfl (by kernel_rfl) (by kernel_rfl) (by kernel_rfl) (fun _ _ _ h => h) (Or.inl ⟨by rfl, fun W _ => by go_simp⟩) ?_
    try simp only [List.getElem_toArray, List.getElem_cons_zero, List.getElem_cons_succ, Act.put, List.setIfInBounds_toArray, List.set_cons_zero, List.set_cons_succ]
    refine wpAnyN_take (i := 6) (v := Value.agg #[.int .i64 l, .slice A r.length cap]) rfl (by kernel_rfl) (by kernel_rfl) (by kernel_rfl) (by kernel_rfl) (fun _ _ _ h => h) (Or.inl ⟨by rfl, fun W hW => by have q1 := blk_cell hW.a.a.x; have q2 := lt_of_block hW.a.a.x; have q3 := blk_cell hW.a.v; have q4 := lt_of_block hW.a.v; have q5 := blk_cell hW.a.u; have q6 := lt_of_block hW.a.u; go_simp⟩) R5d.out ?_
    try simp only [List.getElem_toArray, List.getElem_cons_zero, List.getElem_cons_succ, Act.put, List.setIfInBounds_toArray, List.set_cons_zero, List.set_cons_succ]
    refine wpAnyN_pure (i := 7) (v := Value.pointer (some ⟨pv, 0, none⟩)) rfl (by kernel_rfl) (by kernel_rfl) (by kernel_rfl) (fun _ _ _ h => h) (Or.inl ⟨by rfl, fun W _ => by go_simp⟩) ?_
    try simp only [List.getElem_toArray, List.getElem_cons_zero, List.getElem_cons_succ, Act.put, List.setIfInBounds_toArray, List.set_cons_zero, List.set_cons_succ]
    refine wpAnyN_take (i := 8) (v := Value.int .i64 k) rfl (by kernel_rfl) (by kernel_rfl) (by kernel_rfl) (by kernel_rfl) (fun _ _ _ h => h) (Or.inl ⟨by rfl, fun W hW => by have q1 := blk_cell hW.a.a.x; have q2 := lt_of_block hW.a.a.x; have q3 := blk_cell hW.a.v; have q4 := lt_of_block hW.a.v; have q5 := blk_cell hW.a.u; have q6 := lt_of_block hW.a.u; go_simp⟩) R5d.out ?_
    try simp only [List.getElem_toArray, List.getElem_cons_zero, List.getElem_cons_succ, Act.put, List.setIfInBounds_toArray, List.set_cons_zero, List.set_cons_succ]
    refine wpAnyN_pure (i := 10) (v := Value.pointer (some ⟨w.heap.size, 3, none⟩)) rfl (by kernel_rfl) (by kernel_rfl) (by kernel_rfl) (fun _ _ _ h => h) (Or.inl ⟨by rfl, fun W _ => by go_simp⟩) ?_
    try simp only [List.getElem_toArray, List.getElem_cons_zero, List.getElem_cons_succ, Act.put, List.setIfInBounds_toArray, List.set_cons_zero, List.set_cons_succ]
    refine wpAnyN_take (i := 11) (v := Value.slice A r.length cap) rfl (by kernel_rfl) (by kernel_rfl) (by kernel_rfl) (by kernel_rfl) (fun _ _ _ h => h) (Or.inl ⟨by rfl, fun W hW => by have q1 := blk_cell hW.a.a.x; have q2 := lt_of_block hW.a.a.x; have q3 := blk_cell hW.a.v; have q4 := lt_of_block hW.a.v; have q5 := blk_cell hW.a.u; have q6 := lt_of_block hW.a.u; go_simp⟩) R5d.out ?_
    try simp only [List.getElem_toArray, List.getElem_cons_zero, List.getElem_cons_succ, Act.put, List.setIfInBounds_toArray, List.set_cons_zero, List.set_cons_succ]
    refine wpAnyN_pure (i := 12) (v := Value.int .i64 r.length) rfl (by kernel_rfl) (by kernel_rfl) (by kernel_rfl) (fun _ _ _ h => h) (Or.inl ⟨by rfl, fun W _ => by go_simp⟩) ?_
    try simp only [List.getElem_toArray, List.getElem_cons_zero, List.getElem_cons_succ, Act.put, List.setIfInBounds_toArray, List.set_cons_zero, List.set_cons_succ]
    refine wpAnyN_pure (i := 13) (v := Value.pointer (some ⟨pv, 0, none⟩)) rfl (by kernel_rfl) (by kernel_rfl) (by kernel_rfl) (fun _ _ _ h => h) (Or.inl ⟨by rfl, fun W _ => by go_simp⟩) ?_
    try simp only [List.getElem_toArray, List.getElem_cons_zero, List.getElem_cons_succ, Act.put, List.setIfInBounds_toArray, List.set_cons_zero, List.set_cons_succ]
    refine wpAnyN_take (i := 14) (v := Value.int .i64 k) rfl (by kernel_rfl) (by kernel_rfl) (by kernel_rfl) (by kernel_rfl) (fun _ _ _ h => h) (Or.inl ⟨by rfl, fun W hW => by have q1 := blk_cell hW.a.a.x; have q2 := lt_of_block hW.a.a.x; have q3 := blk_cell hW.a.v; have q4 := lt_of_block hW.a.v; have q5 := blk_cell hW.a.u; have q6 := lt_of_block hW.a.u; go_simp⟩) R5d.out ?_
    try simp only [List.getElem_toArray, List.getElem_cons_zero, List.getElem_cons_succ, Act.put, List.setIfInBounds_toArray, List.set_cons_zero, List.set_cons_succ]
    refine wpAnyN_pure (i := 15) (v := Value.int .i64 (8 * k)) rfl (by kernel_rfl) (by kernel_rfl) (by kernel_rfl) (fun _ _ _ h => h) (Or.inl ⟨by rfl, fun W _ => by go_simp; try exact hw9⟩) ?_
    try simp only [List.getElem_toArray, List.getElem_cons_zero, List.getElem_cons_succ, Act.put, List.setIfInBounds_toArray, List.set_cons_zero, List.set_cons_succ]
    refine wpAnyN_pure (i := 16) (v := Value.bool (decide ((r.length : Int) ≤ 8 * k))) rfl (by kernel_rfl) (by kernel_rfl) (by kernel_rfl) (fun _ _ _ h => h) (Or.inl ⟨by rfl, fun W _ => by go_simp⟩) ?_
    try simp only [List.getElem_toArray, List.getElem_cons_zero, List.getElem_cons_succ, Act.put, List.setIfInBounds_toArray, List.set_cons_zero, List.set_cons_succ]
    refine wpAnyN_pure (i := 17) (v := Value.pointer (some ⟨pv, 1, none⟩)) rfl (by kernel_rfl) (by kernel_rfl) (by kernel_rfl) (fun _ _ _ h => h) (Or.inl ⟨by rfl, fun W _ => by go_simp⟩) ?_
    try simp only [List.getElem_toArray, List.getElem_cons_zero, List.getElem_cons_succ, Act.put, List.setIfInBounds_toArray, List.set_cons_zero, List.set_cons_succ]
    refine wpAnyN_take (i := 18) (v := Value.agg #[.int .i64 l, .slice A r.length cap]) rfl (by kernel_rfl) (by kernel_rfl) (by kernel_rfl) (by kernel_rfl) (fun _ _ _ h => h) (Or.inl ⟨by rfl, fun W hW => by have q1 := blk_cell hW.a.a.x; have q2 := lt_of_block hW.a.a.x; have q3 := blk_cell hW.a.v; have q4 := lt_of_block hW.a.v; have q5 := blk_cell hW.a.u; have q6 := lt_of_block hW.a.u; go_simp⟩) R5d.out ?_
    try simp only [List.getElem_toArray, List.getElem_cons_zero, List.getElem_cons_succ, Act.put, List.setIfInBounds_toArray, List.set_cons_zero, List.set_cons_succ]
    refine wpAnyN_pure (i := 19) (v := Value.pointer (some ⟨pv, 0, none⟩)) rfl (by kernel_rfl) (by kernel_rfl) (by kernel_rfl) (fun _ _ _ h => h) (Or.inl ⟨by rfl, fun W _ => by go_simp⟩) ?_
    try simp only [List.getElem_toArray, List.getElem_cons_zero, List.getElem_cons_succ, Act.put, List.setIfInBounds_toArray, List.set_cons_zero, List.set_cons_succ]
    refine wpAnyN_take (i := 20) (v := Value.int .i64 k) rfl (by kernel_rfl) (by kernel_rfl) (by kernel_rfl) (by kernel_rfl) (fun _ _ _ h => h) (Or.inl ⟨by rfl, fun W hW => by have q1 := blk_cell hW.a.a.x; have q2 := lt_of_block hW.a.a.x; have q3 := blk_cell hW.a.v; have q4 := lt_of_block hW.a.v; have q5 := blk_cell hW.a.u; have q6 := lt_of_block hW.a.u; go_simp⟩) R5d.out ?_
    try simp only [List.getElem_toArray, List.getElem_cons_zero, List.getElem_cons_succ, Act.put, List.setIfInBounds_toArray, List.set_cons_zero, List.set_cons_succ]
    refine wpAnyN_take (i := 22) (v := Value.agg #[.int .i64 k, .int .i64 l, .slice A r.length cap]) rfl (by kernel_rfl) (by kernel_rfl) (by kernel_rfl) (by kernel_rfl) (fun _ _ _ h => h) (Or.inl ⟨by rfl, fun W hW => by have q1 := blk_cell hW.a.a.x; have q2 := lt_of_block hW.a.a.x; have q3 := blk_cell hW.a.v; have q4 := lt_of_block hW.a.v; have q5 := blk_cell hW.a.u; have q6 := lt_of_block hW.a.u; go_simp⟩) R5d.out ?_
    try simp only [List.getElem_toArray, List.getElem_cons_zero, List.getElem_cons_succ, Act.put, List.setIfInBounds_toArray, List.set_cons_zero, List.set_cons_succ]
    refine wpAnyN_take (i := 23) (v := Value.agg #[.int .i64 l, .slice A2 m.length c2]) rfl (by kernel_rfl) (by kernel_rfl) (by kernel_rfl) (by kernel_rfl) (fun _ _ _ h => h) (Or.inl ⟨by rfl, fun W hW => by have q1 := blk_cell hW.a.a.x; have q2 := lt_of_block hW.a.a.x; have q3 := blk_cell hW.a.v; have q4 := lt_of_block hW.a.v; have q5 := blk_cell hW.a.u; have q6 := lt_of_block hW.a.u; go_simp⟩) R5d.out ?_
    try simp only [List.getElem_toArray, List.getElem_cons_zero, List.getElem_cons_succ, Act.put, List.setIfInBounds_toArray, List.set_cons_zero, List.set_cons_succ]
    refine wpAnyN_pure (i := 25) (v := Value.int .i64 a1) rfl (by kernel_rfl) (by kernel_rfl) (by kernel_rfl) (fun _ _ _ h => h) (Or.inl ⟨by rfl, fun W _ => by go_simp⟩) ?_
    try simp only [List.getElem_toArray, List.getElem_cons_zero, List.getElem_cons_succ, Act.put, List.setIfInBounds_toArray, List.set_cons_zero, List.set_cons_succ]
    refine wpAnyN_pure (i := 26) (v := Value.int .i64 a2) rfl (by kernel_rfl) (by kernel_rfl) (by kernel_rfl) (fun _ _ _ h => h) (Or.inl ⟨by rfl, fun W _ => by go_simp⟩) ?_
    try simp only [List.getElem_toArray, List.getElem_cons_zero, List.getElem_cons_succ, Act.put, List.setIfInBounds_toArray, List.set_cons_zero, List.set_cons_succ]
    refine wpAnyN_take (i := 27) (v := Value.agg #[.int .i64 k, .int .i64 l, .slice A r.length cap]) rfl (by kernel_rfl) (by kernel_rfl) (by kernel_rfl) (by kernel_rfl) (fun _ _ _ h => h) (Or.inl ⟨by rfl, fun W hW => by have q1 := blk_cell hW.a.a.x; have q2 := lt_of_block hW.a.a.x; have q3 := blk_cell hW.a.v; have q4 := lt_of_block hW.a.v; have q5 := blk_cell hW.a.u; have q6 := lt_of_block hW.a.u; go_simp⟩) R5d.out ?_
    try simp only [List.getElem_toArray, List.getElem_cons_zero, List.getElem_cons_succ, Act.put, List.setIfInBounds_toArray, List.set_cons_zero, List.set_cons_succ]
    generalize w5.drew = u5 at R5d ⊢
    clear R5 hHeld
    refine wpAnyN_two (i := 1) (k := 30) (by kernel_rfl) rfl rfl (fun K hK => ?_) (fun K hK => ?_)
    · go_simp
      refine (HWe.out u5 R5d.out.a.a.s).mono ?_
      rintro e v0 ⟨rfl, hbc⟩
      have Q0 := Lib.hid (R5d.out.below hbc)
      clear hbc
      refine hK.out _ _ (fun _ _ => Q0.out) ?_
      clear hK K
      try simp only [List.getElem_toArray, List.getElem_cons_zero, List.getElem_cons_succ, Act.put, List.setIfInBounds_toArray, List.set_cons_zero, List.set_cons_succ]
      refine wpAnyN_two (i := 3) (k := 30) (by kernel_rfl) rfl rfl (fun K hK => ?_) (fun K hK => ?_)
      · go_simp
        refine (HTo.out v0 A2 c2 Q0.out.a.a.t).mono ?_
        rintro e v1 ⟨rfl, hbc⟩
        have Q1 := Lib.hid (Q0.out.below hbc)
        clear hbc
        refine hK.out _ _ (fun _ _ => Q1.out) ?_
        clear hK K
        try simp only [List.getElem_toArray, List.getElem_cons_zero, List.getElem_cons_succ, Act.put, List.setIfInBounds_toArray, List.set_cons_zero, List.set_cons_succ]
        refine wpAnyN_pure (i := 4) (v := Value.bool (n1 == n2)) rfl (by kernel_rfl) (by kernel_rfl) (by kernel_rfl) (fun _ _ _ h => h) (Or.inl ⟨by rfl, fun W _ => by go_simp⟩) ?_
        try simp only [List.getElem_toArray, List.getElem_cons_zero, List.getElem_cons_succ, Act.put, List.setIfInBounds_toArray, List.set_cons_zero, List.set_cons_succ]
        refine wpAnyN_two (i := 9) (k := 30) (by kernel_rfl) rfl rfl (fun K hK => ?_) (fun K hK => ?_)
        · go_simp
          refine (HLi.out v1 Q1.out.a.a.s).mono ?_
          rintro e v2 ⟨rfl, hbc⟩
          have Q2 := Lib.hid (Q1.out.below hbc)
          clear hbc
          refine hK.out _ _ (fun _ _ => Q2.out) ?_
          clear hK K
          try simp only [List.getElem_toArray, List.getElem_cons_zero, List.getElem_cons_succ, Act.put, List.setIfInBounds_toArray, List.set_cons_zero, List.set_cons_succ]
          refine wpAnyN_two (i := 21) (k := 30) (by kernel_rfl) rfl rfl (fun K hK => ?_) (fun K hK => ?_)
          · go_simp
            refine (HTi.out v2 Q2.out.a.a.s).mono ?_
            rintro e v3 ⟨t', rfl, ht', hbc⟩
            obtain rfl : t = t' := Bool.eq_iff_iff.2 (HT.out.trans ht'.symm)
            clear ht'
            have Q3 := Lib.hid (Q2.out.below hbc)
            clear hbc
            refine hK.out _ _ (fun _ _ => Q3.out) ?_
            clear hK K
            try simp only [List.getElem_toArray, List.getElem_cons_zero, List.getElem_cons_succ, Act.put, List.setIfInBounds_toArray, List.set_cons_zero, List.set_cons_succ]
            refine wpAnyN_two (i := 24) (k := 30) (by kernel_rfl) rfl rfl (fun K hK => ?_) (fun K hK => ?_)
            · go_simp
              refine (HSt.out v3 A2 c2 Q3.out.a.a.s Q3.out.a.a.t).mono ?_
              rintro e v4 ⟨⟨y1, y2⟩, rfl, hy, hbc⟩
              obtain ⟨rfl, rfl⟩ : z1 = y1 ∧ z2 = y2 := by
                have e1 := HSn.out.unique hy fun z => Iff.rfl
                exact ⟨congrArg Prod.fst e1, congrArg Prod.snd e1⟩
              clear hy
              simp only
              have Q4 := Lib.hid (Q3.out.below hbc)
              clear hbc
              refine hK.out _ _ (fun _ _ => Q4.out) ?_
              clear hK K
              try simp only [List.getElem_toArray, List.getElem_cons_zero, List.getElem_cons_succ, Act.put, List.setIfInBounds_toArray, List.set_cons_zero, List.set_cons_succ]
              refine wpAnyN_two (i := 28) (k := 30) (by kernel_rfl) rfl rfl (fun K hK => ?_) (fun K hK => ?_)
              · go_simp
                refine (HSl.out v4 Q4.out.a.a.s).mono ?_
                rintro e v5 ⟨rfl, hbc⟩
                have Q5 := Lib.hid (Q4.out.below hbc)
                clear hbc
                refine hK.out _ _ (fun _ _ => Q5.out) ?_
                clear hK K
                try simp only [List.getElem_toArray, List.getElem_cons_zero, List.getElem_cons_succ, Act.put, List.setIfInBounds_toArray, List.set_cons_zero, List.set_cons_succ]
                refine wpAnyN_pure (i := 29) (v := Value.agg #[.bool (n1 == n2), .bool li, .bool (decide ((r.length : Int) ≤ 8 * k)), .bool t, .bool (decide (n1 = n2) && decide (z1 = 0)), .int .i64 a1, .int .i64 a2, .int .i64 sl]) rfl (by kernel_rfl) (by kernel_rfl) (by kernel_rfl) (fun _ _ _ h => h) (Or.inl ⟨by rfl, fun W _ => by go_simp⟩) ?_
                try simp only [List.getElem_toArray, List.getElem_cons_zero, List.getElem_cons_succ, Act.put, List.setIfInBounds_toArray, List.set_cons_zero, List.set_cons_succ]
                refine wpAnyN_one (i := 30) (by kernel_rfl) rfl (fun K hK => ?_)
                go_simp
                have Q5a := Lib.hid (Q5.out.below ((Below.refl v5.heap.size v5).alloc (Nat.le_refl _) (.cells #[.bool false, .bool false, .bool false, .bool false, .bool false, .int .i64 0, .int .i64 0, .int .i64 0] 106)))
                have PQ5a := Lib.hid (heap_alloc_new v5 (.cells #[.bool false, .bool false, .bool false, .bool false, .bool false, .int .i64 0, .int .i64 0, .int .i64 0] 106))
                have HQ5a := Lib.hid Q5.out.a.a.blw.size
                refine hK.out _ _ (fun _ _ => Q5a.out) ?_
                clear hK K
                try simp only [List.getElem_toArray, List.getElem_cons_zero, List.getElem_cons_succ, Act.put, List.setIfInBounds_toArray, List.set_cons_zero, List.set_cons_succ]
                obtain ⟨pw, hpw⟩ : ∃ q, q = v5.heap.size := ⟨_, rfl⟩
                have le4 : w.heap.size ≤ pw := by rw [hpw]; exact HQ5a.out
                have ltu : pu < pw := by rw [hpw]; exact lt_of_block Q5.out.p
                rw [← hpw] at PQ5a ⊢
                generalize v5.alloc (.cells #[.bool false, .bool false, .bool false, .bool false, .bool false, .int .i64 0, .int .i64 0, .int .i64 0] 106) = v5a at Q5a PQ5a ⊢
                clear hpw HQ5a Q5
                have pf := blk_frozen PQ5a.out
                have pc := blk_cell PQ5a.out
                have pz := lt_of_block PQ5a.out
                refine wpAnyN_one (i := 31) (by kernel_rfl) rfl (fun K hK => ?_)
                go_simp
                refine hK.out _ _ (fun h _ => absurd (List.mem_singleton.2 rfl) h) ?_
                clear hK K pf pc pz
                try simp only [List.getElem_toArray, List.getElem_cons_zero, List.getElem_cons_succ, Act.put, List.setIfInBounds_toArray, List.set_cons_zero, List.set_cons_succ]
                refine wpAnyN_done (by kernel_rfl) ?_ _
                refine NoPanic.normal ?_
                go_wp2_with fail
                go_meet
                exact ⟨pw, rfl, EndW.of Q5a.out.p PQ5a.out (Nat.ne_of_lt ltu) le4 Q5a.out.a.a.blw⟩
              · go_simp
                have Q4a := Lib.hid (Q4.out.below ((Below.refl v4.heap.size v4).alloc (Nat.le_refl _) (.cells #[.bool false, .bool false, .bool false, .bool false, .bool false, .int .i64 0, .int .i64 0, .int .i64 0] 106)))
                have PQ4a := Lib.hid (heap_alloc_new v4 (.cells #[.bool false, .bool false, .bool false, .bool false, .bool false, .int .i64 0, .int .i64 0, .int .i64 0] 106))
                have HQ4a := Lib.hid Q4.out.a.a.blw.size
                refine hK.out _ _ (fun _ _ => Q4a.out) ?_
                clear hK K
                try simp only [List.getElem_toArray, List.getElem_cons_zero, List.getElem_cons_succ, Act.put, List.setIfInBounds_toArray, List.set_cons_zero, List.set_cons_succ]
                obtain ⟨pw, hpw⟩ : ∃ q, q = v4.heap.size := ⟨_, rfl⟩
                have le4 : w.heap.size ≤ pw := by rw [hpw]; exact HQ4a.out
                have ltu : pu < pw := by rw [hpw]; exact lt_of_block Q4.out.p
                rw [← hpw] at PQ4a ⊢
                generalize v4.alloc (.cells #[.bool false, .bool false, .bool false, .bool false, .bool false, .int .i64 0, .int .i64 0, .int .i64 0] 106) = v4a at Q4a PQ4a ⊢
                clear hpw HQ4a Q4
                refine wpAnyN_one (i := 28) (by kernel_rfl) rfl (fun K hK => ?_)
                go_simp
                refine (HSl.out v4a Q4a.out.a.a.s).mono ?_
                rintro e v5a ⟨rfl, hbc⟩
                have Q5a := Lib.hid (Q4a.out.below hbc)
                have PQ5a := Lib.hid (blk_below PQ4a.out hbc)
                clear hbc
                refine hK.out _ _ (fun _ _ => Q5a.out) ?_
                clear hK K
                try simp only [List.getElem_toArray, List.getElem_cons_zero, List.getElem_cons_succ, Act.put, List.setIfInBounds_toArray, List.set_cons_zero, List.set_cons_succ]
                refine wpAnyN_pure (i := 29) (v := Value.agg #[.bool (n1 == n2), .bool li, .bool (decide ((r.length : Int) ≤ 8 * k)), .bool t, .bool (decide (n1 = n2) && decide (z1 = 0)), .int .i64 a1, .int .i64 a2, .int .i64 sl]) rfl (by kernel_rfl) (by kernel_rfl) (by kernel_rfl) (fun _ _ _ h => h) (Or.inl ⟨by rfl, fun W _ => by go_simp⟩) ?_
                try simp only [List.getElem_toArray, List.getElem_cons_zero, List.getElem_cons_succ, Act.put, List.setIfInBounds_toArray, List.set_cons_zero, List.set_cons_succ]
                have pf := blk_frozen PQ5a.out
                have pc := blk_cell PQ5a.out
                have pz := lt_of_block PQ5a.out
                refine wpAnyN_one (i := 31) (by kernel_rfl) rfl (fun K hK => ?_)
                go_simp
                refine hK.out _ _ (fun h _ => absurd (List.mem_singleton.2 rfl) h) ?_
                clear hK K pf pc pz
                try simp only [List.getElem_toArray, List.getElem_cons_zero, List.getElem_cons_succ, Act.put, List.setIfInBounds_toArray, List.set_cons_zero, List.set_cons_succ]
                refine wpAnyN_done (by kernel_rfl) ?_ _
                refine NoPanic.normal ?_
                go_wp2_with fail
                go_meet
                exact ⟨pw, rfl, EndW.of Q5a.out.p PQ5a.out (Nat.ne_of_lt ltu) le4 Q5a.out.a.a.blw⟩
            · go_simp
              have Q3a := Lib.hid (Q3.out.below ((Below.refl v3.heap.size v3).alloc (Nat.le_refl _) (.cells #[.bool false, .bool false, .bool false, .bool false, .bool false, .int .i64 0, .int .i64 0, .int .i64 0] 106)))
              have PQ3a := Lib.hid (heap_alloc_new v3 (.cells #[.bool false, .bool false, .bool false, .bool false, .bool false, .int .i64 0, .int .i64 0, .int .i64 0] 106))
              have HQ3a := Lib.hid Q3.out.a.a.blw.size
              refine hK.out _ _ (fun _ _ => Q3a.out) ?_
              clear hK K
              try simp only [List.getElem_toArray, List.getElem_cons_zero, List.getElem_cons_succ, Act.put, List.setIfInBounds_toArray, List.set_cons_zero, List.set_cons_succ]
              obtain ⟨pw, hpw⟩ : ∃ q, q = v3.heap.size := ⟨_, rfl⟩
              have le4 : w.heap.size ≤ pw := by rw [hpw]; exact HQ3a.out
              have ltu : pu < pw := by rw [hpw]; exact lt_of_block Q3.out.p
              rw [← hpw] at PQ3a ⊢
              generalize v3.alloc (.cells #[.bool false, .bool false, .bool false, .bool false, .bool false, .int .i64 0, .int .i64 0, .int .i64 0] 106) = v3a at Q3a PQ3a ⊢
              clear hpw HQ3a Q3
              refine wpAnyN_one (i := 24) (by kernel_rfl) rfl (fun K hK => ?_)
              go_simp
              refine (HSt.out v3a A2 c2 Q3a.out.a.a.s Q3a.out.a.a.t).mono ?_
              rintro e v4a ⟨⟨y1, y2⟩, rfl, hy, hbc⟩
              obtain ⟨rfl, rfl⟩ : z1 = y1 ∧ z2 = y2 := by
                have e1 := HSn.out.unique hy fun z => Iff.rfl
                exact ⟨congrArg Prod.fst e1, congrArg Prod.snd e1⟩
              clear hy
              simp only
              have Q4a := Lib.hid (Q3a.out.below hbc)
              have PQ4a := Lib.hid (blk_below PQ3a.out hbc)
              clear hbc
              refine hK.out _ _ (fun _ _ => Q4a.out) ?_
              clear hK K
              try simp only [List.getElem_toArray, List.getElem_cons_zero, List.getElem_cons_succ, Act.put, List.setIfInBounds_toArray, List.set_cons_zero, List.set_cons_succ]
              refine wpAnyN_one (i := 28) (by kernel_rfl) rfl (fun K hK => ?_)
              go_simp
              refine (HSl.out v4a Q4a.out.a.a.s).mono ?_
              rintro e v5a ⟨rfl, hbc⟩
              have Q5a := Lib.hid (Q4a.out.below hbc)
              have PQ5a := Lib.hid (blk_below PQ4a.out hbc)
              clear hbc
              refine hK.out _ _ (fun _ _ => Q5a.out) ?_
              clear hK K
              try simp only [List.getElem_toArray, List.getElem_cons_zero, List.getElem_cons_succ, Act.put, List.setIfInBounds_toArray, List.set_cons_zero, List.set_cons_succ]
              refine wpAnyN_pure (i := 29) (v := Value.agg #[.bool (n1 == n2), .bool li, .bool (decide ((r.length : Int) ≤ 8 * k)), .bool t, .bool (decide (n1 = n2) && decide (z1 = 0)), .int .i64 a1, .int .i64 a2, .int .i64 sl]) rfl (by kernel_rfl) (by kernel_rfl) (by kernel_rfl) (fun _ _ _ h => h) (Or.inl ⟨by rfl, fun W _ => by go_simp⟩) ?_
              try simp only [List.getElem_toArray, List.getElem_cons_zero, List.getElem_cons_succ, Act.put, List.setIfInBounds_toArray, List.set_cons_zero, List.set_cons_succ]
              have pf := blk_frozen PQ5a.out
              have pc := blk_cell PQ5a.out
              have pz := lt_of_block PQ5a.out
              refine wpAnyN_one (i := 31) (by kernel_rfl) rfl (fun K hK => ?_)
              go_simp
              refine hK.out _ _ (fun h _ => absurd (List.mem_singleton.2 rfl) h) ?_
              clear hK K pf pc pz
              try simp only [List.getElem_toArray, List.getElem_cons_zero, List.getElem_cons_succ, Act.put, List.setIfInBounds_toArray, List.set_cons_zero, List.set_cons_succ]
              refine wpAnyN_done (by kernel_rfl) ?_ _
              refine NoPanic.normal ?_
              go_wp2_with fail
              go_meet
              exact ⟨pw, rfl, EndW.of Q5a.out.p PQ5a.out (Nat.ne_of_lt ltu) le4 Q5a.out.a.a.blw⟩
          · go_simp
            have Q2a := Lib.hid (Q2.out.below ((Below.refl v2.heap.size v2).alloc (Nat.le_refl _) (.cells #[.bool false, .bool false, .bool false, .bool false, .bool false, .int .i64 0, .int .i64 0, .int .i64 0] 106)))
            have PQ2a := Lib.hid (heap_alloc_new v2 (.cells #[.bool false, .bool false, .bool false, .bool false, .bool false, .int .i64 0, .int .i64 0, .int .i64 0] 106))
            have HQ2a := Lib.hid Q2.out.a.a.blw.size
            refine hK.out _ _ (fun _ _ => Q2a.out) ?_
            clear hK K
            try simp only [List.getElem_toArray, List.getElem_cons_zero, List.getElem_cons_succ, Act.put, List.setIfInBounds_toArray, List.set_cons_zero, List.set_cons_succ]
            obtain ⟨pw, hpw⟩ : ∃ q, q = v2.heap.size := ⟨_, rfl⟩
            have le4 : w.heap.size ≤ pw := by rw [hpw]; exact HQ2a.out
            have ltu : pu < pw := by rw [hpw]; exact lt_of_block Q2.out.p
            rw [← hpw] at PQ2a ⊢
            generalize v2.alloc (.cells #[.bool false, .bool false, .bool false, .bool false, .bool false, .int .i64 0, .int .i64 0, .int .i64 0] 106) = v2a at Q2a PQ2a ⊢
            clear hpw HQ2a Q2
            refine wpAnyN_one (i := 21) (by kernel_rfl) rfl (fun K hK => ?_)
            go_simp
            refine (HTi.out v2a Q2a.out.a.a.s).mono ?_
            rintro e v3a ⟨t', rfl, ht', hbc⟩
            obtain rfl : t = t' := Bool.eq_iff_iff.2 (HT.out.trans ht'.symm)
            clear ht'
            have Q3a := Lib.hid (Q2a.out.below hbc)
            have PQ3a := Lib.hid (blk_below PQ2a.out hbc)
            clear hbc
            refine hK.out _ _ (fun _ _ => Q3a.out) ?_
            clear hK K
            try simp only [List.getElem_toArray, List.getElem_cons_zero, List.getElem_cons_succ, Act.put, List.setIfInBounds_toArray, List.set_cons_zero, List.set_cons_succ]
            refine wpAnyN_one (i := 24) (by kernel_rfl) rfl (fun K hK => ?_)
            go_simp
            refine (HSt.out v3a A2 c2 Q3a.out.a.a.s Q3a.out.a.a.t).mono ?_
            rintro e v4a ⟨⟨y1, y2⟩, rfl, hy, hbc⟩
            obtain ⟨rfl, rfl⟩ : z1 = y1 ∧ z2 = y2 := by
              have e1 := HSn.out.unique hy fun z => Iff.rfl
              exact ⟨congrArg Prod.fst e1, congrArg Prod.snd e1⟩
            clear hy
            simp only
            have Q4a := Lib.hid (Q3a.out.below hbc)
            have PQ4a := Lib.hid (blk_below PQ3a.out hbc)
            clear hbc
            refine hK.out _ _ (fun _ _ => Q4a.out) ?_
            clear hK K
            try simp only [List.getElem_toArray, List.getElem_cons_zero, List.getElem_cons_succ, Act.put, List.setIfInBounds_toArray, List.set_cons_zero, List.set_cons_succ]
            refine wpAnyN_one (i := 28) (by kernel_rfl) rfl (fun K hK => ?_)
            go_simp
            refine (HSl.out v4a Q4a.out.a.a.s).mono ?_
            rintro e v5a ⟨rfl, hbc⟩
            have Q5a := Lib.hid (Q4a.out.below hbc)
            have PQ5a := Lib.hid (blk_below PQ4a.out hbc)
            clear hbc
            refine hK.out _ _ (fun _ _ => Q5a.out) ?_
            clear hK K
            try simp only [List.getElem_toArray, List.getElem_cons_zero, List.getElem_cons_succ, Act.put, List.setIfInBounds_toArray, List.set_cons_zero, List.set_cons_succ]
            refine wpAnyN_pure (i := 29) (v := Value.agg #[.bool (n1 == n2), .bool li, .bool (decide ((r.length : Int) ≤ 8 * k)), .bool t, .bool (decide (n1 = n2) && decide (z1 = 0)), .int .i64 a1, .int .i64 a2, .int .i64 sl]) rfl (by kernel_rfl) (by kernel_rfl) (by kernel_rfl) (fun _ _ _ h => h) (Or.inl ⟨by rfl, fun W _ => by go_simp⟩) ?_
            try simp only [List.getElem_toArray, List.getElem_cons_zero, List.getElem_cons_succ, Act.put, List.setIfInBounds_toArray, List.set_cons_zero, List.set_cons_succ]
            have pf := blk_frozen PQ5a.out
            have pc := blk_cell PQ5a.out
            have pz := lt_of_block PQ5a.out
            refine wpAnyN_one (i := 31) (by kernel_rfl) rfl (fun K hK => ?_)
            go_simp
            refine hK.out _ _ (fun h _ => absurd (List.mem_singleton.2 rfl) h) ?_
            clear hK K pf pc pz
            try simp only [List.getElem_toArray, List.getElem_cons_zero, List.getElem_cons_succ, Act.put, List.setIfInBounds_toArray, List.set_cons_zero, List.set_cons_succ]
            refine wpAnyN_done (by kernel_rfl) ?_ _
            refine NoPanic.normal ?_
            go_wp2_with fail
            go_meet
            exact ⟨pw, rfl, EndW.of Q5a.out.p PQ5a.out (Nat.ne_of_lt ltu) le4 Q5a.out.a.a.blw⟩
        · go_simp
          have Q1a := Lib.hid (Q1.out.below ((Below.refl v1.heap.size v1).alloc (Nat.le_refl _) (.cells #[.bool false, .bool false, .bool false, .bool false, .bool false, .int .i64 0, .int .i64 0, .int .i64 0] 106)))
          have PQ1a := Lib.hid (heap_alloc_new v1 (.cells #[.bool false, .bool false, .bool false, .bool false, .bool false, .int .i64 0, .int .i64 0, .int .i64 0] 106))
          have HQ1a := Lib.hid Q1.out.a.a.blw.size
          refine hK.out _ _ (fun _ _ => Q1a.out) ?_
          clear hK K
          try simp only [List.getElem_toArray, List.getElem_cons_zero, List.getElem_cons_succ, Act.put, List.setIfInBounds_toArray, List.set_cons_zero, List.set_cons_succ]
          obtain ⟨pw, hpw⟩ : ∃ q, q = v1.heap.size := ⟨_, rfl⟩
          have le4 : w.heap.size ≤ pw := by rw [hpw]; exact HQ1a.out
          have ltu : pu < pw := by rw [hpw]; exact lt_of_block Q1.out.p
          rw [← hpw] at PQ1a ⊢
          generalize v1.alloc (.cells #[.bool false, .bool false, .bool false, .bool false, .bool false, .int .i64 0, .int .i64 0, .int .i64 0] 106) = v1a at Q1a PQ1a ⊢
          clear hpw HQ1a Q1
          refine wpAnyN_one (i := 9) (by kernel_rfl) rfl (fun K hK => ?_)
          go_simp
          refine (HLi.out v1a Q1a.out.a.a.s).mono ?_
          rintro e v2a ⟨rfl, hbc⟩
          have Q2a := Lib.hid (Q1a.out.below hbc)
          have PQ2a := Lib.hid (blk_below PQ1a.out hbc)
          clear hbc
          refine hK.out _ _ (fun _ _ => Q2a.out) ?_
          clear hK K
          try simp only [List.getElem_toArray, List.getElem_cons_zero, List.getElem_cons_succ, Act.put, List.setIfInBounds_toArray, List.set_cons_zero, List.set_cons_succ]
          refine wpAnyN_one (i := 21) (by kernel_rfl) rfl (fun K hK => ?_)
          go_simp
          refine (HTi.out v2a Q2a.out.a.a.s).mono ?_
          rintro e v3a ⟨t', rfl, ht', hbc⟩
          obtain rfl : t = t' := Bool.eq_iff_iff.2 (HT.out.trans ht'.symm)
          clear ht'
          have Q3a := Lib.hid (Q2a.out.below hbc)
          have PQ3a := Lib.hid (blk_below PQ2a.out hbc)
          clear hbc
          refine hK.out _ _ (fun _ _ => Q3a.out) ?_
          clear hK K
          try simp only [List.getElem_toArray, List.getElem_cons_zero, List.getElem_cons_succ, Act.put, List.setIfInBounds_toArray, List.set_cons_zero, List.set_cons_succ]
          refine wpAnyN_one (i := 24) (by kernel_rfl) rfl (fun K hK => ?_)
          go_simp
          refine (HSt.out v3a A2 c2 Q3a.out.a.a.s Q3a.out.a.a.t).mono ?_
          rintro e v4a ⟨⟨y1, y2⟩, rfl, hy, hbc⟩
          obtain ⟨rfl, rfl⟩ : z1 = y1 ∧ z2 = y2 := by
            have e1 := HSn.out.unique hy fun z => Iff.rfl
            exact ⟨congrArg Prod.fst e1, congrArg Prod.snd e1⟩
          clear hy
          simp only
          have Q4a := Lib.hid (Q3a.out.below hbc)
          have PQ4a := Lib.hid (blk_below PQ3a.out hbc)
          clear hbc
          refine hK.out _ _ (fun _ _ => Q4a.out) ?_
          clear hK K
          try simp only [List.getElem_toArray, List.getElem_cons_zero, List.getElem_cons_succ, Act.put, List.setIfInBounds_toArray, List.set_cons_zero, List.set_cons_succ]
          refine wpAnyN_one (i := 28) (by kernel_rfl) rfl (fun K hK => ?_)
          go_simp
          refine (HSl.out v4a Q4a.out.a.a.s).mono ?_
          rintro e v5a ⟨rfl, hbc⟩
          have Q5a := Lib.hid (Q4a.out.below hbc)
          have PQ5a := Lib.hid (blk_below PQ4a.out hbc)
          clear hbc
          refine hK.out _ _ (fun _ _ => Q5a.out) ?_
          clear hK K
          try simp only [List.getElem_toArray, List.getElem_cons_zero, List.getElem_cons_succ, Act.put, List.setIfInBounds_toArray, List.set_cons_zero, List.set_cons_succ]
          refine wpAnyN_pure (i := 29) (v := Value.agg #[.bool (n1 == n2), .bool li, .bool (decide ((r.length : Int) ≤ 8 * k)), .bool t, .bool (decide (n1 = n2) && decide (z1 = 0)), .int .i64 a1, .int .i64 a2, .int .i64 sl]) rfl (by kernel_rfl) (by kernel_rfl) (by kernel_rfl) (fun _ _ _ h => h) (Or.inl ⟨by rfl, fun W _ => by go_simp⟩) ?_
          try simp only [List.getElem_toArray, List.getElem_cons_zero, List.getElem_cons_succ, Act.put, List.setIfInBounds_toArray, List.set_cons_zero, List.set_cons_succ]
          have pf := blk_frozen PQ5a.out
          have pc := blk_cell PQ5a.out
          have pz := lt_of_block PQ5a.out
          refine wpAnyN_one (i := 31) (by kernel_rfl) rfl (fun K hK => ?_)
          go_simp
          refine hK.out _ _ (fun h _ => absurd (List.mem_singleton.2 rfl) h) ?_
          clear hK K pf pc pz
          try simp only [List.getElem_toArray, List.getElem_cons_zero, List.getElem_cons_succ, Act.put, List.setIfInBounds_toArray, List.set_cons_zero, List.set_cons_succ]
          refine wpAnyN_done (by kernel_rfl) ?_ _
          refine NoPanic.normal ?_
          go_wp2_with fail
          go_meet
          exact ⟨pw, rfl, EndW.of Q5a.out.p PQ5a.out (Nat.ne_of_lt ltu) le4 Q5a.out.a.a.blw⟩
      · go_simp
        have Q0a := Lib.hid (Q0.out.below ((Below.refl v0.heap.size v0).alloc (Nat.le_refl _) (.cells #[.bool false, .bool false, .bool false, .bool false, .bool false, .int .i64 0, .int .i64 0, .int .i64 0] 106)))
        have PQ0a := Lib.hid (heap_alloc_new v0 (.cells #[.bool false, .bool false, .bool false, .bool false, .bool false, .int .i64 0, .int .i64 0, .int .i64 0] 106))
        have HQ0a := Lib.hid Q0.out.a.a.blw.size
        refine hK.out _ _ (fun _ _ => Q0a.out) ?_
        clear hK K
        try simp only [List.getElem_toArray, List.getElem_cons_zero, List.getElem_cons_succ, Act.put, List.setIfInBounds_toArray, List.set_cons_zero, List.set_cons_succ]
        obtain ⟨pw, hpw⟩ : ∃ q, q = v0.heap.size := ⟨_, rfl⟩
        have le4 : w.heap.size ≤ pw := by rw [hpw]; exact HQ0a.out
        have ltu : pu < pw := by rw [hpw]; exact lt_of_block Q0.out.p
        rw [← hpw] at PQ0a ⊢
        generalize v0.alloc (.cells #[.bool false, .bool false, .bool false, .bool false, .bool false, .int .i64 0, .int .i64 0, .int .i64 0] 106) = v0a at Q0a PQ0a ⊢
        clear hpw HQ0a Q0
        refine wpAnyN_one (i := 3) (by kernel_rfl) rfl (fun K hK => ?_)
        go_simp
        refine (HTo.out v0a A2 c2 Q0a.out.a.a.t).mono ?_
        rintro e v1a ⟨rfl, hbc⟩
        have Q1a := Lib.hid (Q0a.out.below hbc)
        have PQ1a := Lib.hid (blk_below PQ0a.out hbc)
        clear hbc
        refine hK.out _ _ (fun _ _ => Q1a.out) ?_
        clear hK K
        try simp only [List.getElem_toArray, List.getElem_cons_zero, List.getElem_cons_succ, Act.put, List.setIfInBounds_toArray, List.set_cons_zero, List.set_cons_succ]
        refine wpAnyN_pure (i := 4) (v := Value.bool (n1 == n2)) rfl (by kernel_rfl) (by kernel_rfl) (by kernel_rfl) (fun _ _ _ h => h) (Or.inl ⟨by rfl, fun W _ => by go_simp⟩) ?_
        try simp only [List.getElem_toArray, List.getElem_cons_zero, List.getElem_cons_succ, Act.put, List.setIfInBounds_toArray, List.set_cons_zero, List.set_cons_succ]
        refine wpAnyN_one (i := 9) (by kernel_rfl) rfl (fun K hK => ?_)
        go_simp
        refine (HLi.out v1a Q1a.out.a.a.s).mono ?_
        rintro e v2a ⟨rfl, hbc⟩
        have Q2a := Lib.hid (Q1a.out.below hbc)
        have PQ2a := Lib.hid (blk_below PQ1a.out hbc)
        clear hbc
        refine hK.out _ _ (fun _ _ => Q2a.out) ?_
        clear hK K
        try simp only [List.getElem_toArray, List.getElem_cons_zero, List.getElem_cons_succ, Act.put, List.setIfInBounds_toArray, List.set_cons_zero, List.set_cons_succ]
        refine wpAnyN_one (i := 21) (by kernel_rfl) rfl (fun K hK => ?_)
        go_simp
        refine (HTi.out v2a Q2a.out.a.a.s).mono ?_
        rintro e v3a ⟨t', rfl, ht', hbc⟩
        obtain rfl : t = t' := Bool.eq_iff_iff.2 (HT.out.trans ht'.symm)
        clear ht'
        have Q3a := Lib.hid (Q2a.out.below hbc)
        have PQ3a := Lib.hid (blk_below PQ2a.out hbc)
        clear hbc
        refine hK.out _ _ (fun _ _ => Q3a.out) ?_
        clear hK K
        try simp only [List.getElem_toArray, List.getElem_cons_zero, List.getElem_cons_succ, Act.put, List.setIfInBounds_toArray, List.set_cons_zero, List.set_cons_succ]
        refine wpAnyN_one (i := 24) (by kernel_rfl) rfl (fun K hK => ?_)
        go_simp
        refine (HSt.out v3a A2 c2 Q3a.out.a.a.s Q3a.out.a.a.t).mono ?_
        rintro e v4a ⟨⟨y1, y2⟩, rfl, hy, hbc⟩
        obtain ⟨rfl, rfl⟩ : z1 = y1 ∧ z2 = y2 := by
          have e1 := HSn.out.unique hy fun z => Iff.rfl
          exact ⟨congrArg Prod.fst e1, congrArg Prod.snd e1⟩
        clear hy
        simp only
        have Q4a := Lib.hid (Q3a.out.below hbc)
        have PQ4a := Lib.hid (blk_below PQ3a.out hbc)
        clear hbc
        refine hK.out _ _ (fun _ _ => Q4a.out) ?_
        clear hK K
        try simp only [List.getElem_toArray, List.getElem_cons_zero, List.getElem_cons_succ, Act.put, List.setIfInBounds_toArray, List.set_cons_zero, List.set_cons_succ]
        refine wpAnyN_one (i := 28) (by kernel_rfl) rfl (fun K hK => ?_)
        go_simp
        refine (HSl.out v4a Q4a.out.a.a.s).mono ?_
        rintro e v5a ⟨rfl, hbc⟩
        have Q5a := Lib.hid (Q4a.out.below hbc)
        have PQ5a := Lib.hid (blk_below PQ4a.out hbc)
        clear hbc
        refine hK.out _ _ (fun _ _ => Q5a.out) ?_
        clear hK K
        try simp only [List.getElem_toArray, List.getElem_cons_zero, List.getElem_cons_succ, Act.put, List.setIfInBounds_toArray, List.set_cons_zero, List.set_cons_succ]
        refine wpAnyN_pure (i := 29) (v := Value.agg #[.bool (n1 == n2), .bool li, .bool (decide ((r.length : Int) ≤ 8 * k)), .bool t, .bool (decide (n1 = n2) && decide (z1 = 0)), .int .i64 a1, .int .i64 a2, .int .i64 sl]) rfl (by kernel_rfl) (by kernel_rfl) (by kernel_rfl) (fun _ _ _ h => h) (Or.inl ⟨by rfl, fun W _ => by go_simp⟩) ?_
        try simp only [List.getElem_toArray, List.getElem_cons_zero, List.getElem_cons_succ, Act.put, List.setIfInBounds_toArray, List.set_cons_zero, List.set_cons_succ]
        have pf := blk_frozen PQ5a.out
        have pc := blk_cell PQ5a.out
        have pz := lt_of_block PQ5a.out
        refine wpAnyN_one (i := 31) (by kernel_rfl) rfl (fun K hK => ?_)
        go_simp
        refine hK.out _ _ (fun h _ => absurd (List.mem_singleton.2 rfl) h) ?_
        clear hK K pf pc pz
        try simp only [List.getElem_toArray, List.getElem_cons_zero, List.getElem_cons_succ, Act.put, List.setIfInBounds_toArray, List.set_cons_zero, List.set_cons_succ]
        refine wpAnyN_done (by kernel_rfl) ?_ _
        refine NoPanic.normal ?_
        go_wp2_with fail
        go_meet
        exact ⟨pw, rfl, EndW.of Q5a.out.p PQ5a.out (Nat.ne_of_lt ltu) le4 Q5a.out.a.a.blw⟩
    · go_simp
      have R5da := Lib.hid (R5d.out.below ((Below.refl u5.heap.size u5).alloc (Nat.le_refl _) (.cells #[.bool false, .bool false, .bool false, .bool false, .bool false, .int .i64 0, .int .i64 0, .int .i64 0] 106)))
      have PR5da := Lib.hid (heap_alloc_new u5 (.cells #[.bool false, .bool false, .bool false, .bool false, .bool false, .int .i64 0, .int .i64 0, .int .i64 0] 106))
      have HR5da := Lib.hid R5d.out.a.a.blw.size
      refine hK.out _ _ (fun _ _ => R5da.out) ?_
      clear hK K
      try simp only [List.getElem_toArray, List.getElem_cons_zero, List.getElem_cons_succ, Act.put, List.setIfInBounds_toArray, List.set_cons_zero, List.set_cons_succ]
      obtain ⟨pw, hpw⟩ : ∃ q, q = u5.heap.size := ⟨_, rfl⟩
      have le4 : w.heap.size ≤ pw := by rw [hpw]; exact HR5da.out
      have ltu : pu < pw := by rw [hpw]; exact lt_of_block R5d.out.p
      rw [← hpw] at PR5da ⊢
      generalize u5.alloc (.cells #[.bool false, .bool false, .bool false, .bool false, .bool false, .int .i64 0, .int .i64 0, .int .i64 0] 106) = u5a at R5da PR5da ⊢
      clear hpw HR5da R5d
      refine wpAnyN_one (i := 1) (by kernel_rfl) rfl (fun K hK => ?_)
      go_simp
      refine (HWe.out u5a R5da.out.a.a.s).mono ?_
      rintro e v0a ⟨rfl, hbc⟩
      have Q0a := Lib.hid (R5da.out.below hbc)
      have PQ0a := Lib.hid (blk_below PR5da.out hbc)
      clear hbc
      refine hK.out _ _ (fun _ _ => Q0a.out) ?_
      clear hK K
      try simp only [List.getElem_toArray, List.getElem_cons_zero, List.getElem_cons_succ, Act.put, List.setIfInBounds_toArray, List.set_cons_zero, List.set_cons_succ]
      refine wpAnyN_one (i := 3) (by kernel_rfl) rfl (fun K hK => ?_)
      go_simp
      refine (HTo.out v0a A2 c2 Q0a.out.a.a.t).mono ?_
      rintro e v1a ⟨rfl, hbc⟩
      have Q1a := Lib.hid (Q0a.out.below hbc)
      have PQ1a := Lib.hid (blk_below PQ0a.out hbc)
      clear hbc
      refine hK.out _ _ (fun _ _ => Q1a.out) ?_
      clear hK K
      try simp only [List.getElem_toArray, List.getElem_cons_zero, List.getElem_cons_succ, Act.put, List.setIfInBounds_toArray, List.set_cons_zero, List.set_cons_succ]
      refine wpAnyN_pure (i := 4) (v := Value.bool (n1 == n2)) rfl (by kernel_rfl) (by kernel_rfl) (by kernel_rfl) (fun _ _ _ h => h) (Or.inl ⟨by rfl, fun W _ => by go_simp⟩) ?_
      try simp only [List.getElem_toArray, List.getElem_cons_zero, List.getElem_cons_succ, Act.put, List.setIfInBounds_toArray, List.set_cons_zero, List.set_cons_succ]
      refine wpAnyN_one (i := 9) (by kernel_rfl) rfl (fun K hK => ?_)
      go_simp
      refine (HLi.out v1a Q1a.out.a.a.s).mono ?_
      rintro e v2a ⟨rfl, hbc⟩
      have Q2a := Lib.hid (Q1a.out.below hbc)
      have PQ2a := Lib.hid (blk_below PQ1a.out hbc)
      clear hbc
      refine hK.out _ _ (fun _ _ => Q2a.out) ?_
      clear hK K
      try simp only [List.getElem_toArray, List.getElem_cons_zero, List.getElem_cons_succ, Act.put, List.setIfInBounds_toArray, List.set_cons_zero, List.set_cons_succ]
      refine wpAnyN_one (i := 21) (by kernel_rfl) rfl (fun K hK => ?_)
      go_simp
      refine (HTi.out v2a Q2a.out.a.a.s).mono ?_
      rintro e v3a ⟨t', rfl, ht', hbc⟩
      obtain rfl : t = t' := Bool.eq_iff_iff.2 (HT.out.trans ht'.symm)
      clear ht'
      have Q3a := Lib.hid (Q2a.out.below hbc)
      have PQ3a := Lib.hid (blk_below PQ2a.out hbc)
      clear hbc
      refine hK.out _ _ (fun _ _ => Q3a.out) ?_
      clear hK K
      try simp only [List.getElem_toArray, List.getElem_cons_zero, List.getElem_cons_succ, Act.put, List.setIfInBounds_toArray, List.set_cons_zero, List.set_cons_succ]
      refine wpAnyN_one (i := 24) (by kernel_rfl) rfl (fun K hK => ?_)
      go_simp
      refine (HSt.out v3a A2 c2 Q3a.out.a.a.s Q3a.out.a.a.t).mono ?_
      rintro e v4a ⟨⟨y1, y2⟩, rfl, hy, hbc⟩
      obtain ⟨rfl, rfl⟩ : z1 = y1 ∧ z2 = y2 := by
        have e1 := HSn.out.unique hy fun z => Iff.rfl
        exact ⟨congrArg Prod.fst e1, congrArg Prod.snd e1⟩
      clear hy
      simp only
      have Q4a := Lib.hid (Q3a.out.below hbc)
      have PQ4a := Lib.hid (blk_below PQ3a.out hbc)
      clear hbc
      refine hK.out _ _ (fun _ _ => Q4a.out) ?_
      clear hK K
      try simp only [List.getElem_toArray, List.getElem_cons_zero, List.getElem_cons_succ, Act.put, List.setIfInBounds_toArray, List.set_cons_zero, List.set_cons_succ]
      refine wpAnyN_one (i := 28) (by kernel_rfl) rfl (fun K hK => ?_)
      go_simp
      refine (HSl.out v4a Q4a.out.a.a.s).mono ?_
      rintro e v5a ⟨rfl, hbc⟩
      have Q5a := Lib.hid (Q4a.out.below hbc)
      have PQ5a := Lib.hid (blk_below PQ4a.out hbc)
      clear hbc
      refine hK.out _ _ (fun _ _ => Q5a.out) ?_
      clear hK K
      try simp only [List.getElem_toArray, List.getElem_cons_zero, List.getElem_cons_succ, Act.put, List.setIfInBounds_toArray, List.set_cons_zero, List.set_cons_succ]
      refine wpAnyN_pure (i := 29) (v := Value.agg #[.bool (n1 == n2), .bool li, .bool (decide ((r.length : Int) ≤ 8 * k)), .bool t, .bool (decide (n1 = n2) && decide (z1 = 0)), .int .i64 a1, .int .i64 a2, .int .i64 sl]) rfl (by kernel_rfl) (by kernel_rfl) (by kernel_rfl) (fun _ _ _ h => h) (Or.inl ⟨by rfl, fun W _ => by go_simp⟩) ?_
      try simp only [List.getElem_toArray, List.getElem_cons_zero, List.getElem_cons_succ, Act.put, List.setIfInBounds_toArray, List.set_cons_zero, List.set_cons_succ]
      have pf := blk_frozen PQ5a.out
      have pc := blk_cell PQ5a.out
      have pz := lt_of_block PQ5a.out
      refine wpAnyN_one (i := 31) (by kernel_rfl) rfl (fun K hK => ?_)
      go_simp
      refine hK.out _ _ (fun h _ => absurd (List.mem_singleton.2 rfl) h) ?_
      clear hK K pf pc pz
      try simp only [List.getElem_toArray, List.getElem_cons_zero, List.getElem_cons_succ, Act.put, List.setIfInBounds_toArray, List.set_cons_zero, List.set_cons_succ]
      refine wpAnyN_done (by kernel_rfl) ?_ _
      refine NoPanic.normal ?_
      go_wp2_with fail
      go_meet
      exact ⟨pw, rfl, EndW.of Q5a.out.p PQ5a.out (Nat.ne_of_lt ltu) le4 Q5a.out.a.a.blw⟩
  case rest =>
    obtain ⟨pw, rfl, hE⟩ := hcut
    have E := Lib.hid hE
    have HG := Lib.hid (fun W => audit_Good W (n1 == n2) li (decide ((r.length : Int) ≤ 8 * k)) t (decide (n1 = n2) && decide (z1 = 0)) a1 a2 sl)
    clear hE R5 HT HSn HWe HTo HLi HTi HSt HSl hw8 hw9 hwm h4 hs0 hs1 hms
    unfold verdV at HG
    generalize (n1 == n2) = we at E HG
    generalize (decide (n1 = n2) && decide (z1 = 0)) = st at E HG
    generalize decide ((r.length : Int) ≤ 8 * k) = ro at E HG
    obtain ⟨gd, hgd⟩ : ∃ gd, gd = (st && li && ro && decide (a2 ≤ sl)) := ⟨_, rfl⟩
    rw [← hgd] at HG
    have cp := blk_cell E.out.p
    have zp := lt_of_block E.out.p
    have cq := blk_cell E.out.q
    have zq := lt_of_block E.out.q
    rcases (by by_cases h : a2 ≤ sl; exact .inl ⟨h, decide_eq_true h⟩; exact .inr (decide_eq_false h) : (a2 ≤ sl ∧ decide (a2 ≤ sl) = true) ∨ decide (a2 ≤ sl) = false) with ⟨_, hyz⟩ | hyz
    all_goals
      rw [hyz] at hgd
      cases st <;> cases li <;> cases ro
    all_goals
      simp only [Bool.and_true, Bool.and_false, Bool.true_and, Bool.false_and, Bool.and_self] at hgd
      subst hgd
      go_wp2_with fail
      refine (HG.out _).mono ?_
      rintro e w7 ⟨rfl, hb7⟩
      have E7 := Lib.hid (E.out.below hb7)
      clear hb7
      go_wp2_with fail
      refine (alive34 _).mono ?_
      rintro e w8 ⟨rfl, hb8⟩
      have E8 := Lib.hid (E7.out.below hb8)
      go_wp2_with fail
      go_ret
      exact ⟨rfl, E8.out.blw⟩
theorem law_AuditChecks (l k K : Int) (r : List Nd) (A : Option Addr) (cap : Nat) (lb : Int) (q : List Nd) (B : Option Addr) (cb : Nat) (W : World) (hS : Sl W W.heap.size encN A r) (hI : ints r) (_ : i64 l) (_ : i64 k) (_ : i64 K) (hm : r.length ≤ maxLen) (_ : (Lit.int IntKind.i64 lb).wf = true) (hSb : Sl W W.heap.size encN B q) (hIb : ints q) (hmb : q.length ≤ maxLen) :
    Calls Tryz.prog 9 #[loadedV l k K A r.length cap, .int .i64 lb, .slice B q.length cb] W fun e W' => e = .returned (.bool true) ∧ Below W.heap.size W W' := by
  by_cases h : goodL l k K r ∧ (1 ≤ lb ∧ lb ≤ 48) ∧ r.length ≤ 60 ∧ q.length ≤ 60
  · obtain ⟨hg, hl, h1, h2⟩ := h
    obtain ⟨n, m, rfl, rfl⟩ := goodL_nat hg.2.2
    obtain ⟨p, rfl⟩ : ∃ p : Nat, lb = p := ⟨lb.toNat, by omega⟩
    by_cases h3 : 400 < r.length * n
    · exact law_AuditChecks_big n m p k r A cap q B cb W hg (by omega) h1 h2 h3 hS hI hSb hIb
    · by_cases hne : n = p
      · subst hne
        exact law_AuditChecks_yes n m k r A cap q B cb W hg (by omega) h1 h2 h3 hS hI hSb hIb
      · exact law_AuditChecks_ne n m p k r A cap q B cb W hg (by omega) h1 h2 hne h3 hS hI hSb hIb
  · exact law_AuditChecks_no l k K lb r A cap q B cb W h hS hI hSb hIb
end Go.Proofs.YtcjnchjmpkapmaaGreat
