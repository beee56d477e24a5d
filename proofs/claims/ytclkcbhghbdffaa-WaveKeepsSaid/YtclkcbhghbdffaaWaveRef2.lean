/- The reference of chapter 30, more: Lose, Copy, Spoil, Do. -/
import Derived.Test.YtclkcbhghbdffaaWaveRef
namespace Go.Proofs.Ytclkcbhghbdffaa
open Go.ChangeShapes Go.WideShapes Go.ChangeAt Go.RowKit
set_option linter.unusedVariables false
attribute [local go_sem ↓] Go.wp_at_zero Go.wp_at_succ

set_option maxRecDepth 100000 in
theorem ref_Take_no (w : World) (A : Option Addr) (n cap : Nat) (s : WS) (i : Int) (h : RV w A n cap s) (hi : s.has i = false) :
    Calls Try.prog 28 #[rvV A n cap s, .int .i64 i] w fun e w' =>
      (∃ A' n' cap', e = .returned (.tuple #[rvV A' n' cap' s, .agg #[.int .i64 0, .string ⟨#[]⟩], .bool false]) ∧ RV w' A' n' cap' s) ∧ Below w.heap.size w w' := by
  obtain rfl := h.1
  have HV := Lib.hid h
  clear h
  unfold rvV
  go_enter Try.func28, Try.ntmps28
  go_wp2_with fail
  refine (ref_has _ _ _ _ s i rfl).mono ?_
  rintro e w1 ⟨rfl, hb1⟩
  have B1 : Below w.heap.size w w1 := Below.then_ (by repeat (first | with_reducible exact Below.refl _ _ | with_reducible assumption | ((with_reducible refine Below.setCell ?_ ?_ _); rotate_left; · (first | omega | exact Nat.le_refl _ | (simp <;> omega))) | (with_reducible refine Below.allocW ?_ _) | (with_reducible refine Below.drew ?_) | (with_reducible refine Below.extW ?_ _))) hb1
  have s1 : w.heap.size ≤ w1.heap.size := B1.size
  have z1_0 : w.heap.size < w1.heap.size := by have := hb1.size; (try simp at this); omega
  have y1_0 : w.heap.size ≤ w1.heap.size := Nat.le_of_lt z1_0
  have c1_0 := fun o => hb1.cell (p := ⟨w.heap.size, o, none⟩) (by first | omega | (simp <;> omega))
  have f1_0 := fun o => hb1.frozen (p := ⟨w.heap.size, o, none⟩) (by first | omega | (simp <;> omega))
  have z1_1 : w.heap.size + 1 < w1.heap.size := by have := hb1.size; (try simp at this); omega
  have y1_1 : w.heap.size + 1 ≤ w1.heap.size := Nat.le_of_lt z1_1
  have c1_1 := fun o => hb1.cell (p := ⟨w.heap.size + 1, o, none⟩) (by first | omega | (simp <;> omega))
  have f1_1 := fun o => hb1.frozen (p := ⟨w.heap.size + 1, o, none⟩) (by first | omega | (simp <;> omega))
  have z1_2 : w.heap.size + 1 + 1 < w1.heap.size := by have := hb1.size; (try simp at this); omega
  have y1_2 : w.heap.size + 1 + 1 ≤ w1.heap.size := Nat.le_of_lt z1_2
  have c1_2 := fun o => hb1.cell (p := ⟨w.heap.size + 1 + 1, o, none⟩) (by first | omega | (simp <;> omega))
  have f1_2 := fun o => hb1.frozen (p := ⟨w.heap.size + 1 + 1, o, none⟩) (by first | omega | (simp <;> omega))
  rw [hi]
  go_wp2_with fail
  refine bodyPost_ret (v := .tuple #[rvV A s.items.length cap s, .agg #[.int .i64 0, .string ⟨#[]⟩], .bool false]) (by simp only [results, Try.results28]; go_simp) rfl ⟨⟨A, _, cap, rfl, RV.below HV.out (by repeat (first | with_reducible exact Below.refl _ _ | with_reducible assumption | ((with_reducible refine Below.setCell ?_ ?_ _); rotate_left; · (first | omega | exact Nat.le_refl _ | (simp <;> omega))) | (with_reducible refine Below.allocW ?_ _) | (with_reducible refine Below.drew ?_) | (with_reducible refine Below.extW ?_ _)))⟩, (by repeat (first | with_reducible exact Below.refl _ _ | with_reducible assumption | ((with_reducible refine Below.setCell ?_ ?_ _); rotate_left; · (first | omega | exact Nat.le_refl _ | (simp <;> omega))) | (with_reducible refine Below.allocW ?_ _) | (with_reducible refine Below.drew ?_) | (with_reducible refine Below.extW ?_ _)))⟩

set_option maxRecDepth 100000 in
theorem ref_Lose (w : World) (A : Option Addr) (n cap : Nat) (s : WS) (i : Int) (h : RV w A n cap s) (hs : s.small) (hlen : s.items.length ≤ 256) :
    Calls Try.prog 29 #[rvV A n cap s, .int .i64 i] w (RefPost w (s.lose i).1 (s.lose i).2) := by
  obtain rfl := h.1
  have HV := Lib.hid h
  clear h
  cases hi : s.has i
  · have e2 : s.lose i = (s, 2) := by simp [WS.lose, hi]
    rw [e2]
    unfold rvV
    go_enter Try.func29, Try.ntmps29
    go_wp2_with fail
    refine (ref_has _ _ _ _ s i rfl).mono ?_
    rintro e w1 ⟨rfl, hb1⟩
    have B1 : Below w.heap.size w w1 := Below.then_ (by repeat (first | with_reducible exact Below.refl _ _ | with_reducible assumption | ((with_reducible refine Below.setCell ?_ ?_ _); rotate_left; · (first | omega | exact Nat.le_refl _ | (simp <;> omega))) | (with_reducible refine Below.allocW ?_ _) | (with_reducible refine Below.drew ?_) | (with_reducible refine Below.extW ?_ _))) hb1
    have s1 : w.heap.size ≤ w1.heap.size := B1.size
    have z1_0 : w.heap.size < w1.heap.size := by have := hb1.size; (try simp at this); omega
    have y1_0 : w.heap.size ≤ w1.heap.size := Nat.le_of_lt z1_0
    have c1_0 := fun o => hb1.cell (p := ⟨w.heap.size, o, none⟩) (by first | omega | (simp <;> omega))
    have f1_0 := fun o => hb1.frozen (p := ⟨w.heap.size, o, none⟩) (by first | omega | (simp <;> omega))
    have z1_1 : w.heap.size + 1 < w1.heap.size := by have := hb1.size; (try simp at this); omega
    have y1_1 : w.heap.size + 1 ≤ w1.heap.size := Nat.le_of_lt z1_1
    have c1_1 := fun o => hb1.cell (p := ⟨w.heap.size + 1, o, none⟩) (by first | omega | (simp <;> omega))
    have f1_1 := fun o => hb1.frozen (p := ⟨w.heap.size + 1, o, none⟩) (by first | omega | (simp <;> omega))
    rw [hi]
    go_wp2_with fail
    refine bodyPost_ret (v := .tuple #[rvV A s.items.length cap s, .int .i64 2]) (by simp only [results, Try.results29]; go_simp) rfl ⟨⟨A, _, cap, rfl, RV.below HV.out (by repeat (first | with_reducible exact Below.refl _ _ | with_reducible assumption | ((with_reducible refine Below.setCell ?_ ?_ _); rotate_left; · (first | omega | exact Nat.le_refl _ | (simp <;> omega))) | (with_reducible refine Below.allocW ?_ _) | (with_reducible refine Below.drew ?_) | (with_reducible refine Below.extW ?_ _)))⟩, (by repeat (first | with_reducible exact Below.refl _ _ | with_reducible assumption | ((with_reducible refine Below.setCell ?_ ?_ _); rotate_left; · (first | omega | exact Nat.le_refl _ | (simp <;> omega))) | (with_reducible refine Below.allocW ?_ _) | (with_reducible refine Below.drew ?_) | (with_reducible refine Below.extW ?_ _)))⟩
  · obtain ⟨k, rfl, hk⟩ := WS.has_tt hi
    have e2 : s.lose k = ({ s.cut k with lost := s.lost + 1 }, 0) := by simp [WS.lose, hi]
    have es : (s.cut k).bump 2 = { s.cut k with lost := s.lost + 1 } := rfl
    have hsc : (s.cut k).small := hs
    have HSC := Lib.hid hsc
    clear hsc hs
    rw [e2]
    unfold rvV
    go_enter Try.func29, Try.ntmps29
    go_wp2_with fail
    refine (ref_has _ _ _ _ s k rfl).mono ?_
    rintro e w1 ⟨rfl, hb1⟩
    have B1 : Below w.heap.size w w1 := Below.then_ (by repeat (first | with_reducible exact Below.refl _ _ | with_reducible assumption | ((with_reducible refine Below.setCell ?_ ?_ _); rotate_left; · (first | omega | exact Nat.le_refl _ | (simp <;> omega))) | (with_reducible refine Below.allocW ?_ _) | (with_reducible refine Below.drew ?_) | (with_reducible refine Below.extW ?_ _))) hb1
    have s1 : w.heap.size ≤ w1.heap.size := B1.size
    have z1_0 : w.heap.size < w1.heap.size := by have := hb1.size; (try simp at this); omega
    have y1_0 : w.heap.size ≤ w1.heap.size := Nat.le_of_lt z1_0
    have c1_0 := fun o => hb1.cell (p := ⟨w.heap.size, o, none⟩) (by first | omega | (simp <;> omega))
    have f1_0 := fun o => hb1.frozen (p := ⟨w.heap.size, o, none⟩) (by first | omega | (simp <;> omega))
    have z1_1 : w.heap.size + 1 < w1.heap.size := by have := hb1.size; (try simp at this); omega
    have y1_1 : w.heap.size + 1 ≤ w1.heap.size := Nat.le_of_lt z1_1
    have c1_1 := fun o => hb1.cell (p := ⟨w.heap.size + 1, o, none⟩) (by first | omega | (simp <;> omega))
    have f1_1 := fun o => hb1.frozen (p := ⟨w.heap.size + 1, o, none⟩) (by first | omega | (simp <;> omega))
    rw [hi]
    go_wp2_with fail
    refine (ref_without _ _ _ _ s k (HV.out.below B1) hk hlen).mono ?_
    rintro e w2 ⟨⟨A2, n2, c2, rfl, hO2⟩, hb2⟩
    have O2 := Lib.hid hO2
    have B2 := Below.then_ B1 hb2
    have z20 := Nat.lt_of_lt_of_le z1_1 hb2.size
    have c21 := fun o => hb2.cell (p := ⟨w.heap.size + 1, o, none⟩) z1_1
    have f21 := fun o => hb2.frozen (p := ⟨w.heap.size + 1, o, none⟩) z1_1
    clear hO2
    go_wp2_with fail
    refine (ref_count _ _ _ _ (s.cut k) 2 (by decide) HSC.out).mono ?_
    rintro e w3 ⟨rfl, hb3⟩
    have c31 := fun o => hb3.cell (p := ⟨w.heap.size + 1, o, none⟩) z20
    have f31 := fun o => hb3.frozen (p := ⟨w.heap.size + 1, o, none⟩) z20
    have B3 := Below.then_ B2 hb3
    have O3 := O2.out.below hb3
    have ec : (s.cut k).sent = s.sent ∧ (s.cut k).taken = s.taken ∧ (s.cut k).copied = s.copied ∧ (s.cut k).spoilt = s.spoilt := ⟨rfl, rfl, rfl, rfl⟩
    go_wp2_with fail
    refine bodyPost_ret (v := .tuple #[.agg #[.slice A2 n2 c2, .int .i64 s.sent, .int .i64 s.taken, .int .i64 ((s.lost + 1 : Nat) : Int), .int .i64 s.copied, .int .i64 s.spoilt], .int .i64 0]) (by simp only [results, Try.results29]; go_simp) rfl ⟨⟨A2, n2, c2, rfl, ?_⟩, (by repeat (first | with_reducible exact Below.refl _ _ | with_reducible assumption | ((with_reducible refine Below.setCell ?_ ?_ _); rotate_left; · (first | omega | exact Nat.le_refl _ | (simp <;> omega))) | (with_reducible refine Below.allocW ?_ _) | (with_reducible refine Below.drew ?_) | (with_reducible refine Below.extW ?_ _)))⟩
    exact RV.of_own (base := w1.heap.size) (l := (s.cut k).items) (by (repeat (first | with_reducible assumption | ((with_reducible refine Own.setCellB ?_ ?_); rotate_left; · (first | omega | (simp <;> omega))) | with_reducible refine Own.alloc ?_ _ | with_reducible refine Own.drew ?_))) rfl

set_option maxRecDepth 100000 in
theorem ref_Copy_ok (w : World) (A : Option Addr) (n cap : Nat) (s : WS) (k : Nat) (h : RV w A n cap s) (hs : s.small) (hlen : s.items.length ≤ 256) (hk : k < s.items.length) (hi : s.has k = true) (hfull : ¬ s.items.length = 256) :
    Calls Try.prog 31 #[rvV A n cap s, .int .i64 k] w (RefPost w { s with items := s.items ++ [s.items[k]], copied := s.copied + 1 } 0) := by
  obtain ⟨rfl, hST, hlc, hm⟩ := h
  obtain ⟨b, off, rfl, hT, hc⟩ := hST.at_ hk
  have hbb := hT.lt
  have d0 := hc 0 (.int .i64 s.items[k].1) rfl
  have d1 := hc 1 (.string s.items[k].2) rfl
  simp only [Nat.add_zero] at d0
  have i0 : (0 : Int) ≤ (k : Int) := by omega
  have i1 : (k : Int) < (s.items.length : Int) := by omega
  have ht : ¬ (256 : Int) ≤ (s.items.length : Int) := by omega
  have HST := Lib.hid hST
  clear hc hST
  unfold rvV
  go_enter Try.func31, Try.ntmps31
  go_wp2_with fail
  refine (ref_has _ _ _ _ s k rfl).mono ?_
  rintro e w1 ⟨rfl, hb1⟩
  have B1 : Below w.heap.size w w1 := Below.then_ (by repeat (first | with_reducible exact Below.refl _ _ | with_reducible assumption | ((with_reducible refine Below.setCell ?_ ?_ _); rotate_left; · (first | omega | exact Nat.le_refl _ | (simp <;> omega))) | (with_reducible refine Below.allocW ?_ _) | (with_reducible refine Below.drew ?_) | (with_reducible refine Below.extW ?_ _))) hb1
  have s1 : w.heap.size ≤ w1.heap.size := B1.size
  have z1_0 : w.heap.size < w1.heap.size := by have := hb1.size; (try simp at this); omega
  have y1_0 : w.heap.size ≤ w1.heap.size := Nat.le_of_lt z1_0
  have c1_0 := fun o => hb1.cell (p := ⟨w.heap.size, o, none⟩) (by first | omega | (simp <;> omega))
  have f1_0 := fun o => hb1.frozen (p := ⟨w.heap.size, o, none⟩) (by first | omega | (simp <;> omega))
  have z1_1 : w.heap.size + 1 < w1.heap.size := by have := hb1.size; (try simp at this); omega
  have y1_1 : w.heap.size + 1 ≤ w1.heap.size := Nat.le_of_lt z1_1
  have c1_1 := fun o => hb1.cell (p := ⟨w.heap.size + 1, o, none⟩) (by first | omega | (simp <;> omega))
  have f1_1 := fun o => hb1.frozen (p := ⟨w.heap.size + 1, o, none⟩) (by first | omega | (simp <;> omega))
  rw [hi]
  have d0' : w1.cell? ⟨b, off + k * 2, none⟩ = some (.int .i64 s.items[k].1) := (B1.cell (p := ⟨b, _, none⟩) hbb).trans d0
  have d1' : w1.cell? ⟨b, off + k * 2 + 1, none⟩ = some (.string s.items[k].2) := (B1.cell (p := ⟨b, _, none⟩) hbb).trans d1
  have lb : b < w1.heap.size := by omega
  have K0 := Lib.hid (blk_below ((heap_new_lt _ _ w.heap.size (by simp)).trans (heap_new_at w (.cells #[.slice (some ⟨b, off, none⟩) s.items.length cap, .int .i64 s.sent, .int .i64 s.taken, .int .i64 s.lost, .int .i64 s.copied, .int .i64 s.spoilt] 36) _ rfl)) hb1)
  have K1 := Lib.hid (blk_below (heap_new_at (w.alloc _) _ (w.heap.size + 1) (by simp)) hb1)
  have HS1 := Lib.hid (HST.out.below B1)
  clear d0 d1
  go_wp2_with ((at_builtin; refine wpList_app tyJ rfl _ _ rfl encI w1.heap.size _ [] rfl (Own.nil _ _ _ _) (some ⟨b, off, none⟩) cap s.items w1.heap.size ?c0 ?c1 ?c2 ?c3 ?c4 ?c5))
  case c0 => rfl
  case c1 => exact HS1.out.sl
  case c2 => (try simp only [List.length_nil]); omega
  case c3 => (try simp only [List.length_nil]); simp only [maxLen]; omega
  case c4 => omega
  case c5 =>
    intro v2 w2 ho2 hg2 hl2 hb2 _
    have hbw : Below w1.heap.size w1 w2 := hb2
    have b0 := blk_below K0.out hbw
    have b1 := blk_below K1.out hbw
    have cc0 := blk_cell b0
    have cf0 := blk_frozen b0
    have B2 := Below.then_ B1 hbw
    have z2 : w.heap.size + 1 < w2.heap.size := Nat.lt_of_lt_of_le z1_1 hbw.size
    have e0 : w2.cell? ⟨b, off + k * 2, none⟩ = _ := (hbw.cell (p := ⟨b, _, none⟩) lb).trans d0'
    have e1 : w2.cell? ⟨b, off + k * 2 + 1, none⟩ = _ := (hbw.cell (p := ⟨b, _, none⟩) lb).trans d1'
    have O2 := Lib.hid ho2
    have K2 := Lib.hid b0
    have K3 := Lib.hid b1
    clear ho2 hl2 b0 b1 c1_0 f1_0 c1_1 f1_1 d0' d1'
    go_wp2_with ((at_builtin; refine wpList_push tyJ rfl _ _ rfl encI w2 w1.heap.size v2 _ rfl O2.out s.items[k] (by go_simp) rfl ?c1 ?c2 ?c3 ?c4))
    case c1 => omega
    case c2 => simp only [maxLen]; omega
    case c3 => exact hbw.size
    case c4 =>
      intro v3 w3 ho3 hg3 hz3 hl3 hb3 _
      have b0 := blk_grown K2.out O2.out hg3 (by decide)
      have b1 := blk_grown K3.out O2.out hg3 (by decide)
      have cc0 := blk_cell b0
      have cc1 := blk_cell b1
      have cf0 := blk_frozen b0
      have cf1 := blk_frozen b1
      obtain ⟨A3, n3, c3, rfl, hn3⟩ := own_form ho3
      clear hn3
      have B3 : Below w.heap.size w w3 := B2.trans (hb3.mono s1)
      have z3 := B3.size
      have z4 : w.heap.size + 1 < w3.heap.size := by omega
      have HO3 := Lib.hid ho3
      have eb : ({ s with items := s.items ++ [s.items[k]] } : WS).bump 3 = { s with items := s.items ++ [s.items[k]], copied := s.copied + 1 } := rfl
      clear ho3 hl3 b0 b1
      go_wp2_with fail
      refine (ref_count _ A3 n3 c3 { s with items := s.items ++ [s.items[k]] } 3 (by decide) hs).mono ?_
      rintro e w4 ⟨rfl, hb4⟩
      have B4 : Below w.heap.size w w4 := Below.then_ (by repeat (first | with_reducible exact Below.refl _ _ | with_reducible assumption | ((with_reducible refine Below.setCell ?_ ?_ _); rotate_left; · (first | omega | exact Nat.le_refl _ | (simp <;> omega))) | (with_reducible refine Below.allocW ?_ _) | (with_reducible refine Below.drew ?_) | (with_reducible refine Below.extW ?_ _))) hb4
      have s4 : w.heap.size ≤ w4.heap.size := B4.size
      have z4_0 : w.heap.size + 1 < w4.heap.size := by have := hb4.size; (try simp at this); omega
      have y4_0 : w.heap.size + 1 ≤ w4.heap.size := Nat.le_of_lt z4_0
      have c4_0 := fun o => hb4.cell (p := ⟨w.heap.size + 1, o, none⟩) (by first | omega | (simp <;> omega))
      have f4_0 := fun o => hb4.frozen (p := ⟨w.heap.size + 1, o, none⟩) (by first | omega | (simp <;> omega))
      have O4 : Own w4 w1.heap.size 40 encI (.slice A3 n3 c3) (s.items ++ [s.items[k]]) := (HO3.out.setCellB z1_0).below hb4
      go_wp2_with fail
      refine bodyPost_ret (v := .tuple #[rvV A3 n3 c3 { s with items := s.items ++ [s.items[k]], copied := s.copied + 1 }, .int .i64 0]) (by simp only [results, Try.results31]; go_simp) rfl ⟨⟨A3, n3, c3, rfl, ?_⟩, (by repeat (first | with_reducible exact Below.refl _ _ | with_reducible assumption | ((with_reducible refine Below.setCell ?_ ?_ _); rotate_left; · (first | omega | exact Nat.le_refl _ | (simp <;> omega))) | (with_reducible refine Below.allocW ?_ _) | (with_reducible refine Below.drew ?_) | (with_reducible refine Below.extW ?_ _)))⟩
      exact RV.of_own (base := w1.heap.size) (l := s.items ++ [s.items[k]]) (by (repeat (first | with_reducible assumption | ((with_reducible refine Own.setCellB ?_ ?_); rotate_left; · (first | omega | (simp <;> omega))) | with_reducible refine Own.alloc ?_ _ | with_reducible refine Own.drew ?_))) rfl

set_option maxRecDepth 100000 in
theorem ref_Copy (w : World) (A : Option Addr) (n cap : Nat) (s : WS) (i : Int) (h : RV w A n cap s) (hs : s.small) (hlen : s.items.length ≤ 256) :
    Calls Try.prog 31 #[rvV A n cap s, .int .i64 i] w (RefPost w (s.copy i).1 (s.copy i).2) := by
  cases hi : s.has i
  · obtain rfl := h.1
    have HV := Lib.hid h
    clear h
    have e2 : s.copy i = (s, 2) := by simp [WS.copy, hi]
    rw [e2]
    unfold rvV
    go_enter Try.func31, Try.ntmps31
    go_wp2_with fail
    refine (ref_has _ _ _ _ s i rfl).mono ?_
    rintro e w1 ⟨rfl, hb1⟩
    have B1 : Below w.heap.size w w1 := Below.then_ (by repeat (first | with_reducible exact Below.refl _ _ | with_reducible assumption | ((with_reducible refine Below.setCell ?_ ?_ _); rotate_left; · (first | omega | exact Nat.le_refl _ | (simp <;> omega))) | (with_reducible refine Below.allocW ?_ _) | (with_reducible refine Below.drew ?_) | (with_reducible refine Below.extW ?_ _))) hb1
    have s1 : w.heap.size ≤ w1.heap.size := B1.size
    have z1_0 : w.heap.size < w1.heap.size := by have := hb1.size; (try simp at this); omega
    have y1_0 : w.heap.size ≤ w1.heap.size := Nat.le_of_lt z1_0
    have c1_0 := fun o => hb1.cell (p := ⟨w.heap.size, o, none⟩) (by first | omega | (simp <;> omega))
    have f1_0 := fun o => hb1.frozen (p := ⟨w.heap.size, o, none⟩) (by first | omega | (simp <;> omega))
    have z1_1 : w.heap.size + 1 < w1.heap.size := by have := hb1.size; (try simp at this); omega
    have y1_1 : w.heap.size + 1 ≤ w1.heap.size := Nat.le_of_lt z1_1
    have c1_1 := fun o => hb1.cell (p := ⟨w.heap.size + 1, o, none⟩) (by first | omega | (simp <;> omega))
    have f1_1 := fun o => hb1.frozen (p := ⟨w.heap.size + 1, o, none⟩) (by first | omega | (simp <;> omega))
    rw [hi]
    go_wp2_with fail
    refine bodyPost_ret (v := .tuple #[rvV A s.items.length cap s, .int .i64 2]) (by simp only [results, Try.results31]; go_simp) rfl ⟨⟨A, _, cap, rfl, RV.below HV.out (by repeat (first | with_reducible exact Below.refl _ _ | with_reducible assumption | ((with_reducible refine Below.setCell ?_ ?_ _); rotate_left; · (first | omega | exact Nat.le_refl _ | (simp <;> omega))) | (with_reducible refine Below.allocW ?_ _) | (with_reducible refine Below.drew ?_) | (with_reducible refine Below.extW ?_ _)))⟩, (by repeat (first | with_reducible exact Below.refl _ _ | with_reducible assumption | ((with_reducible refine Below.setCell ?_ ?_ _); rotate_left; · (first | omega | exact Nat.le_refl _ | (simp <;> omega))) | (with_reducible refine Below.allocW ?_ _) | (with_reducible refine Below.drew ?_) | (with_reducible refine Below.extW ?_ _)))⟩
  · obtain ⟨k, rfl, hk⟩ := WS.has_tt hi
    by_cases hfull : s.items.length = 256
    · obtain rfl := h.1
      have HV := Lib.hid h
      clear h
      have e2 : s.copy k = (s, 21) := by simp [WS.copy, hi, hfull]
      have ht : (256 : Int) ≤ (s.items.length : Int) := by omega
      have HF := Lib.hid hfull
      clear hfull
      rw [e2]
      unfold rvV
      go_enter Try.func31, Try.ntmps31
      go_wp2_with fail
      refine (ref_has _ _ _ _ s k rfl).mono ?_
      rintro e w1 ⟨rfl, hb1⟩
      have B1 : Below w.heap.size w w1 := Below.then_ (by repeat (first | with_reducible exact Below.refl _ _ | with_reducible assumption | ((with_reducible refine Below.setCell ?_ ?_ _); rotate_left; · (first | omega | exact Nat.le_refl _ | (simp <;> omega))) | (with_reducible refine Below.allocW ?_ _) | (with_reducible refine Below.drew ?_) | (with_reducible refine Below.extW ?_ _))) hb1
      have s1 : w.heap.size ≤ w1.heap.size := B1.size
      have z1_0 : w.heap.size < w1.heap.size := by have := hb1.size; (try simp at this); omega
      have y1_0 : w.heap.size ≤ w1.heap.size := Nat.le_of_lt z1_0
      have c1_0 := fun o => hb1.cell (p := ⟨w.heap.size, o, none⟩) (by first | omega | (simp <;> omega))
      have f1_0 := fun o => hb1.frozen (p := ⟨w.heap.size, o, none⟩) (by first | omega | (simp <;> omega))
      have z1_1 : w.heap.size + 1 < w1.heap.size := by have := hb1.size; (try simp at this); omega
      have y1_1 : w.heap.size + 1 ≤ w1.heap.size := Nat.le_of_lt z1_1
      have c1_1 := fun o => hb1.cell (p := ⟨w.heap.size + 1, o, none⟩) (by first | omega | (simp <;> omega))
      have f1_1 := fun o => hb1.frozen (p := ⟨w.heap.size + 1, o, none⟩) (by first | omega | (simp <;> omega))
      rw [hi]
      go_wp2_with fail
      refine bodyPost_ret (v := .tuple #[rvV A s.items.length cap s, .int .i64 21]) (by simp only [results, Try.results31]; go_simp) rfl ⟨⟨A, _, cap, rfl, RV.below HV.out (by repeat (first | with_reducible exact Below.refl _ _ | with_reducible assumption | ((with_reducible refine Below.setCell ?_ ?_ _); rotate_left; · (first | omega | exact Nat.le_refl _ | (simp <;> omega))) | (with_reducible refine Below.allocW ?_ _) | (with_reducible refine Below.drew ?_) | (with_reducible refine Below.extW ?_ _)))⟩, (by repeat (first | with_reducible exact Below.refl _ _ | with_reducible assumption | ((with_reducible refine Below.setCell ?_ ?_ _); rotate_left; · (first | omega | exact Nat.le_refl _ | (simp <;> omega))) | (with_reducible refine Below.allocW ?_ _) | (with_reducible refine Below.drew ?_) | (with_reducible refine Below.extW ?_ _)))⟩
    · have e2 : s.copy k = ({ s with items := s.items ++ [s.items[k]], copied := s.copied + 1 }, 0) := by simp [WS.copy, hi, hfull, hk]
      rw [e2]
      exact ref_Copy_ok w A n cap s k h hs hlen hk hi hfull
end Go.Proofs.Ytclkcbhghbdffaa
