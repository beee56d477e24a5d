/- The reference of layer 18 (reach): Between, Share. -/
import Derived.Test.YtalnhdfgjjhhbaaReach2
namespace Go.Proofs.Ytalnhdfgjjhhbaa
open Go.ChangeShapes Go.WideShapes Go.ChangeAt Go.RowKit
set_option linter.unusedVariables false
set_option maxRecDepth 100000

theorem three (p q : Prop) [Decidable p] [Decidable q] : (p ∧ q) ∨ (p ∧ decide q = false) ∨ decide p = false := by
  by_cases hp : p
  · by_cases hq : q
    · exact .inl ⟨hp, hq⟩
    · exact .inr (.inl ⟨hp, decide_eq_false hq⟩)
  · exact .inr (.inr (decide_eq_false hp))
theorem drew_heap (W : World) : W.drew.heap = W.heap := rfl
set_option maxHeartbeats 8000000 in
theorem ref18_Between (w : World) (k u : Int) (A : Option Addr) (cap : Nat) (l : List Nd) (a b : Int) (hS : Sl w w.heap.size encN A l) (hI : ints l) (hm : l.length ≤ 67108864) (hr : Roll l) (hs : sumR l ≤ 72057594037927935) :
    Calls Try.prog 18 #[.agg #[.int .i64 k, .int .i64 u, .slice A l.length cap], .int .i64 a, .int .i64 b] w fun e w' => e = .returned (bothV (betw u l a b)) ∧ Below w.heap.size w w' := by
  have HS := Lib.hid hS
  have HI := Lib.hid hI
  clear hS hI
  by_cases hab : b < a
  · rw [betw_no hab]
    go_enter Try.func18, Try.ntmps18
    go_wp2_with fail
    exact bodyPost_ret (v := .tuple #[.agg #[.int .i64 0, .int .i64 0], .int .i64 2]) (by simp only [results, Try.results18]; go_simp) rfl ⟨rfl, (by repeat (first | with_reducible exact Below.refl _ _ | with_reducible assumption | ((with_reducible refine Below.setCell ?_ ?_ _); rotate_left; · (first | omega | exact Nat.le_refl _ | (simp <;> omega))) | (with_reducible refine Below.allocW ?_ _) | (with_reducible refine Below.drew ?_) | (with_reducible refine Below.extW ?_ _)))⟩
  · rw [betw_yes hab]
    have h1 : decide (b < a) = false := by simpa using hab
    clear hab
    go_enter Try.func18, Try.ntmps18
    go_wp2_with fail
    have K0 : Hid ((((w.alloc (.cells #[.int .i64 k, .int .i64 u, .slice A l.length cap] 31)).alloc (.cells #[.int .i64 0, .int .i64 0] 45)).alloc (.cells #[.int .i64 0, .int .i64 0] 45)).heap[w.heap.size]? = some (.cells #[.int .i64 k, .int .i64 u, .slice A l.length cap] 31 (0, 0))) := Lib.hid (by
      rw [Below.heap_alloc _ _ _ (by simp; omega), Below.heap_alloc _ _ _ (by simp)]; exact heap_alloc_new _ _)
    have K1 := Lib.hid ((bothAt.new (w.alloc (.cells #[.int .i64 k, .int .i64 u, .slice A l.length cap] 31)) 0 0).alloc (.cells #[.int .i64 0, .int .i64 0] 45))
    have K2 := Lib.hid (bothAt.new ((w.alloc (.cells #[.int .i64 k, .int .i64 u, .slice A l.length cap] 31)).alloc (.cells #[.int .i64 0, .int .i64 0] 45)) 0 0)
    simp only [World.size_alloc] at K1 K2
    go_loopw [9] (fun i wr => ∃ q : Nat, q ≤ l.length ∧ i = .int .i64 q ∧ wr.heap[w.heap.size]? = some (.cells #[.int .i64 k, .int .i64 u, .slice A l.length cap] 31 (0, 0)) ∧ bothAt wr (w.heap.size + 1) 0 0 ∧ bothAt wr (w.heap.size + 1 + 1) (betwLow u (l.take q) a b) (betwHigh u (l.take q) a b) ∧ Below w.heap.size w wr) (fun i _ => l.length - (intOf i).toNat)
    case atStart => exact ⟨0, Nat.zero_le _, rfl, K0.out, K1.out, K2.out, (by repeat (first | with_reducible exact Below.refl _ _ | with_reducible assumption | ((with_reducible refine Below.setCell ?_ ?_ _); rotate_left; · (first | omega | exact Nat.le_refl _ | (simp <;> omega))) | (with_reducible refine Below.allocW ?_ _) | (with_reducible refine Below.drew ?_) | (with_reducible refine Below.extW ?_ _)))⟩
    case round =>
      obtain ⟨j, hj, rfl, hm0, hm1, hm2, hB⟩ := hrel
      have N0 := Lib.hid hm0
      have N1 := Lib.hid hm1
      have N2 := Lib.hid hm2
      have hs0 := hB.size
      have zn2 := lt_of_block hm2
      have zn0 := lt_of_block hm0
      have cb := blk_cell hm0
      have cc := blk_cell hm2
      have cf := blk_frozen hm2
      by_cases hlt : j < l.length
      · obtain ⟨c, off, rfl, hc, hcl⟩ := (HS.out.below hB).at_ hlt
        have d0 := hcl 0 (.int .i64 l[j].1) rfl
        have d1 := hcl 1 (.int .i64 l[j].2) rfl
        simp only [Nat.add_zero] at d0
        have zc : c < wr.heap.size := by omega
        have hx := hr.2 _ (List.getElem_mem hlt)
        have hxi := (HI.out _ (List.getElem_mem hlt)).1
        have e1 := sumR_take_succ hlt
        have e2 := sumR_take_le hr (j + 1)
        have e5 := weighR_le (l := u) (f := inLow a b) (hr.take j)
        have e6 := weighR_le (l := u) (f := inHigh a b) (hr.take j)
        have E7 : betwLow u (l.take (j + 1)) a b = _ := weighR_take hlt
        have E8 : betwHigh u (l.take (j + 1)) a b = _ := weighR_take hlt
        have i1 : (j : Int) < (l.length : Int) := by omega
        unfold betwLow at N2 E7 cc hm2 ⊢
        unfold betwHigh at N2 E8 cc hm2 ⊢
        obtain ⟨x, hxe⟩ : ∃ x, x = l[j] := ⟨_, rfl⟩
        rw [← hxe] at d0 d1 hx hxi e1 E7 E8
        have n2 : weighR u (inLow a b) (l.take j) + x.2 ≤ 72057594037927935 := by omega
        have n3 : weighR u (inHigh a b) (l.take j) + x.2 ≤ 72057594037927935 := by omega
        have n0 := e5.1
        have n1 := e6.1
        have hx2 := hx.2
        have HE := Lib.hid (ref2_Ends · u x.1 hxi.2)
        generalize weighR u (inLow a b) (l.take j) = m at n0 n2 E7 N2 cc hm2
        generalize weighR u (inHigh a b) (l.take j) = n at n1 n3 E8 N2 cc hm2
        generalize endsOf u x.1 = t at E7 E8 HE
        obtain ⟨lo, hi, ok⟩ := t
        unfold endsV at HE
        simp only [inLow, inHigh] at E7 E8
        have E7 := Lib.hid E7
        have E8 := Lib.hid E8
        clear hcl e1 e2 e5 e6 hxe hx hxi hm0 hm1 hm2
        rcases three (a ≤ lo) (hi ≤ b) with ⟨k1, k2⟩ | ⟨k1, k2⟩ | k1
        all_goals rcases three (lo ≤ b) (a ≤ hi) with ⟨k3, k4⟩ | ⟨k3, k4⟩ | k3
        all_goals (
          go_wp2_with fail
          refine wp_region_ext (by kernel_rfl) (by kernel_rfl) ?_
          repeat (go_big_quiet_step ((go_at_call 29; exact quiet_ext (HE.out _))))
          refine wpQuiet_nil ?_
          intro w1 hb1
          replace hb1 := below_of_ext hb1
          have B1 : Below w.heap.size w w1 := Below.then_ (by repeat (first | with_reducible exact Below.refl _ _ | with_reducible assumption | ((with_reducible refine Below.setCell ?_ ?_ _); rotate_left; · (first | omega | exact Nat.le_refl _ | (simp <;> omega))) | (with_reducible refine Below.allocW ?_ _) | (with_reducible refine Below.drew ?_) | (with_reducible refine Below.extW ?_ _))) hb1
          have s1 : w.heap.size ≤ w1.heap.size := B1.size
          have z1_0 : c < w1.heap.size := by have := hb1.size; (try simp at this); omega
          have y1_0 : c ≤ w1.heap.size := Nat.le_of_lt z1_0
          have c1_0 := fun o => hb1.cell (p := ⟨c, o, none⟩) (by first | omega | (simp <;> omega))
          have f1_0 := fun o => hb1.frozen (p := ⟨c, o, none⟩) (by first | omega | (simp <;> omega))
          have l0 := blk_below N0.out hb1
          have l2 := N2.out.below hb1
          have L0 := Lib.hid l0
          have L1 := Lib.hid (N1.out.below hb1)
          have L2 := Lib.hid l2
          have cb1 := blk_cell l0
          have cc1 := blk_cell l2
          have cf1 := blk_frozen l2
          have zl2 := lt_of_block l2
          have zl0 := lt_of_block l0
          have hne0 : w.heap.size ≠ w.heap.size + 1 + 1 := by omega
          have hne1 : w.heap.size + 1 ≠ w.heap.size + 1 + 1 := by omega
          clear l0 l2 hb1 cb cc cf
          go_wp2_with fail
          try (go_region; go_wp2_with fail)
          try (go_region; go_wp2_with fail)
          have F7 := E7.out
          have F8 := E8.out
          first
            | simp [k1, k2] at F7
            | simp [k1] at F7
          first
            | simp [k3, k4] at F8
            | simp [k3] at F8
          have f7 := Lib.hid F7
          have f8 := Lib.hid F8
          clear F7 F8
          go_roundw
          case rel =>
            refine ⟨j + 1, by omega, by go_num, ?_, ?_, ?_, (by repeat (first | with_reducible exact Below.refl _ _ | with_reducible assumption | ((with_reducible refine Below.setCell ?_ ?_ _); rotate_left; · (first | omega | exact Nat.le_refl _ | (simp <;> omega))) | (with_reducible refine Below.allocW ?_ _) | (with_reducible refine Below.drew ?_) | (with_reducible refine Below.extW ?_ _)))⟩
            · try simp only [drew_heap]
              first
                | exact L0.out
                | exact (Below.heap_setCell _ _ _ _ hne0).trans L0.out
                | exact (Below.heap_setCell _ _ _ _ hne0).trans ((Below.heap_setCell _ _ _ _ hne0).trans L0.out)
            · first
                | exact L1.out
                | exact (L1.out.set hne1 _).drew
                | exact ((L1.out.set hne1 _).set hne1 _).drew.drew
            · rw [f7.out, f8.out]
              first
                | exact L2.out
                | exact (L2.out.set0 _).drew
                | exact (L2.out.set1 _).drew
                | exact ((L2.out.set0 _).set1 _).drew.drew
          case measure => simp [intOf]; omega)
      · obtain rfl : j = l.length := by omega
        rw [List.take_length] at N2 hm2 cc
        have cf1 := blk_frozen hm1
        have cc1 := blk_cell hm1
        have zn1 := lt_of_block hm1
        clear hm0 hm1 hm2
        go_wp2_with fail
        exact bodyPost_ret (v := .tuple #[.agg #[.int .i64 (betwLow u l a b), .int .i64 (betwHigh u l a b)], .int .i64 0]) (by simp only [results, Try.results18]; go_simp) rfl ⟨rfl, (by repeat (first | with_reducible exact Below.refl _ _ | with_reducible assumption | ((with_reducible refine Below.setCell ?_ ?_ _); rotate_left; · (first | omega | exact Nat.le_refl _ | (simp <;> omega))) | (with_reducible refine Below.allocW ?_ _) | (with_reducible refine Below.drew ?_) | (with_reducible refine Below.extW ?_ _)))⟩
end Go.Proofs.Ytalnhdfgjjhhbaa
