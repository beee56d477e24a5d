/- The reference of layer 18 (reach): Share. -/
import Derived.Test.YtalnhdfgjjhhbaaReachRef
namespace Go.Proofs.Ytalnhdfgjjhhbaa
open Go.ChangeShapes Go.WideShapes Go.ChangeAt Go.RowKit
set_option linter.unusedVariables false
set_option maxRecDepth 100000

set_option maxHeartbeats 4000000 in
theorem ref18_Share (w : World) (k u : Int) (A : Option Addr) (cap : Nat) (l : List Nd) (a b d : Int) (hS : Sl w w.heap.size encN A l) (hI : ints l) (hm : l.length ≤ 67108864) (hr : Roll l) (hs : sumR l ≤ 72057594037927935) (ht : (totalOf l).1 = sumR l) (hd : d ≤ 9223372036854775807) :
    Calls Try.prog 19 #[.agg #[.int .i64 k, .int .i64 u, .slice A l.length cap], .int .i64 a, .int .i64 b, .int .i64 d] w fun e w' => e = .returned (bothV (share u l a b d)) ∧ Below w.heap.size w w' := by
  have hs0 := sumR_nonneg hr
  have HW := Lib.hid (ref13_Weight · k u A cap l · hI (by unfold maxLen; omega))
  rw [ht] at HW
  have HBt := Lib.hid (ref18_Between · k u A cap l a b · hI hm hr hs)
  have HS := Lib.hid hS
  have B0 : Below w.heap.size w ((w.alloc (.cells #[.int .i64 k, .int .i64 u, .slice A l.length cap] 31)).alloc (.cells #[.int .i64 0, .int .i64 0] 45)) := (by repeat (first | with_reducible exact Below.refl _ _ | with_reducible assumption | ((with_reducible refine Below.setCell ?_ ?_ _); rotate_left; · (first | omega | exact Nat.le_refl _ | (simp <;> omega))) | (with_reducible refine Below.allocW ?_ _) | (with_reducible refine Below.drew ?_) | (with_reducible refine Below.extW ?_ _)))
  have S0 := Lib.hid (hS.keep (B' := ((w.alloc (.cells #[.int .i64 k, .int .i64 u, .slice A l.length cap] 31)).alloc (.cells #[.int .i64 0, .int .i64 0] 45)).heap.size) B0.size fun p hp => B0.cell hp)
  clear hS hI hm B0
  by_cases hN : sumR l = 0
  · rw [show bothV (share u l a b d) = .tuple #[.agg #[.int .i64 0, .int .i64 0], .int .i64 7] by unfold share; rw [if_pos hN]; rfl]
    rw [hN] at HW
    clear hN
    go_enter Try.func19, Try.ntmps19
    go_wp2_with fail
    refine (HW.out _ S0.out).mono ?_
    rintro e w1 ⟨rfl, hb1⟩
    have B1 : Below w.heap.size w w1 := Below.then_ (by repeat (first | with_reducible exact Below.refl _ _ | with_reducible assumption | ((with_reducible refine Below.setCell ?_ ?_ _); rotate_left; · (first | omega | exact Nat.le_refl _ | (simp <;> omega))) | (with_reducible refine Below.allocW ?_ _) | (with_reducible refine Below.drew ?_) | (with_reducible refine Below.extW ?_ _))) hb1
    have s1 : w.heap.size ≤ w1.heap.size := B1.size
    have z1_0 : w.heap.size < w1.heap.size := by have := hb1.size; (try simp at this); omega
    have y1_0 : w.heap.size ≤ w1.heap.size := Nat.le_of_lt z1_0
    have c1_0 := fun o => hb1.cell (p := ⟨w.heap.size, o, none⟩) (by first | omega | (simp <;> omega))
    have f1_0 := fun o => hb1.frozen (p := ⟨w.heap.size, o, none⟩) (by first | omega | (simp <;> omega))
    have z1_1 : w.heap.size + 1 < w1.heap.size := by have := hb1.size; (try simp at this); omega
    have y1_1 : w.heap.size + 1 ≤ w1.heap.size := Nat.le_of_lt z1_1
    have c1_1 := fun o => hb1.cell (p := ⟨w.heap.size + 1, o, none⟩) (by first | omega | (simp <;> omega))
    have f1_1 := fun o => hb1.frozen (p := ⟨w.heap.size + 1, o, none⟩) (by first | omega | (simp <;> omega))
    go_wp2_with fail
    exact bodyPost_ret (v := .tuple #[.agg #[.int .i64 0, .int .i64 0], .int .i64 7]) (by simp only [results, Try.results19]; go_simp) rfl ⟨rfl, (by repeat (first | with_reducible exact Below.refl _ _ | with_reducible assumption | ((with_reducible refine Below.setCell ?_ ?_ _); rotate_left; · (first | omega | exact Nat.le_refl _ | (simp <;> omega))) | (with_reducible refine Below.allocW ?_ _) | (with_reducible refine Below.drew ?_) | (with_reducible refine Below.extW ?_ _)))⟩
  · have hN0 : ((sumR l) == 0) = false := by simpa using hN
    by_cases h1 : d < 1
    · rw [show bothV (share u l a b d) = .tuple #[.agg #[.int .i64 0, .int .i64 0], .int .i64 2] by unfold share; rw [if_neg hN, if_pos (.inl h1)]; rfl]
      clear hN
      go_enter Try.func19, Try.ntmps19
      go_wp2_with fail
      refine (HW.out _ S0.out).mono ?_
      rintro e w1 ⟨rfl, hb1⟩
      have B1 : Below w.heap.size w w1 := Below.then_ (by repeat (first | with_reducible exact Below.refl _ _ | with_reducible assumption | ((with_reducible refine Below.setCell ?_ ?_ _); rotate_left; · (first | omega | exact Nat.le_refl _ | (simp <;> omega))) | (with_reducible refine Below.allocW ?_ _) | (with_reducible refine Below.drew ?_) | (with_reducible refine Below.extW ?_ _))) hb1
      have s1 : w.heap.size ≤ w1.heap.size := B1.size
      have z1_0 : w.heap.size < w1.heap.size := by have := hb1.size; (try simp at this); omega
      have y1_0 : w.heap.size ≤ w1.heap.size := Nat.le_of_lt z1_0
      have c1_0 := fun o => hb1.cell (p := ⟨w.heap.size, o, none⟩) (by first | omega | (simp <;> omega))
      have f1_0 := fun o => hb1.frozen (p := ⟨w.heap.size, o, none⟩) (by first | omega | (simp <;> omega))
      have z1_1 : w.heap.size + 1 < w1.heap.size := by have := hb1.size; (try simp at this); omega
      have y1_1 : w.heap.size + 1 ≤ w1.heap.size := Nat.le_of_lt z1_1
      have c1_1 := fun o => hb1.cell (p := ⟨w.heap.size + 1, o, none⟩) (by first | omega | (simp <;> omega))
      have f1_1 := fun o => hb1.frozen (p := ⟨w.heap.size + 1, o, none⟩) (by first | omega | (simp <;> omega))
      go_wp2_with fail
      exact bodyPost_ret (v := .tuple #[.agg #[.int .i64 0, .int .i64 0], .int .i64 2]) (by simp only [results, Try.results19]; go_simp) rfl ⟨rfl, (by repeat (first | with_reducible exact Below.refl _ _ | with_reducible assumption | ((with_reducible refine Below.setCell ?_ ?_ _); rotate_left; · (first | omega | exact Nat.le_refl _ | (simp <;> omega))) | (with_reducible refine Below.allocW ?_ _) | (with_reducible refine Below.drew ?_) | (with_reducible refine Below.extW ?_ _)))⟩
    · have h1' : decide (d < 1) = false := by simpa using h1
      by_cases h2 : b < a
      · rw [show bothV (share u l a b d) = .tuple #[.agg #[.int .i64 0, .int .i64 0], .int .i64 2] by unfold share; rw [if_neg hN, if_pos (.inr h2)]; rfl]
        clear hN h1
        go_enter Try.func19, Try.ntmps19
        go_wp2_with fail
        refine (HW.out _ S0.out).mono ?_
        rintro e w1 ⟨rfl, hb1⟩
        have B1 : Below w.heap.size w w1 := Below.then_ (by repeat (first | with_reducible exact Below.refl _ _ | with_reducible assumption | ((with_reducible refine Below.setCell ?_ ?_ _); rotate_left; · (first | omega | exact Nat.le_refl _ | (simp <;> omega))) | (with_reducible refine Below.allocW ?_ _) | (with_reducible refine Below.drew ?_) | (with_reducible refine Below.extW ?_ _))) hb1
        have s1 : w.heap.size ≤ w1.heap.size := B1.size
        have z1_0 : w.heap.size < w1.heap.size := by have := hb1.size; (try simp at this); omega
        have y1_0 : w.heap.size ≤ w1.heap.size := Nat.le_of_lt z1_0
        have c1_0 := fun o => hb1.cell (p := ⟨w.heap.size, o, none⟩) (by first | omega | (simp <;> omega))
        have f1_0 := fun o => hb1.frozen (p := ⟨w.heap.size, o, none⟩) (by first | omega | (simp <;> omega))
        have z1_1 : w.heap.size + 1 < w1.heap.size := by have := hb1.size; (try simp at this); omega
        have y1_1 : w.heap.size + 1 ≤ w1.heap.size := Nat.le_of_lt z1_1
        have c1_1 := fun o => hb1.cell (p := ⟨w.heap.size + 1, o, none⟩) (by first | omega | (simp <;> omega))
        have f1_1 := fun o => hb1.frozen (p := ⟨w.heap.size + 1, o, none⟩) (by first | omega | (simp <;> omega))
        go_wp2_with fail
        exact bodyPost_ret (v := .tuple #[.agg #[.int .i64 0, .int .i64 0], .int .i64 2]) (by simp only [results, Try.results19]; go_simp) rfl ⟨rfl, (by repeat (first | with_reducible exact Below.refl _ _ | with_reducible assumption | ((with_reducible refine Below.setCell ?_ ?_ _); rotate_left; · (first | omega | exact Nat.le_refl _ | (simp <;> omega))) | (with_reducible refine Below.allocW ?_ _) | (with_reducible refine Below.drew ?_) | (with_reducible refine Below.extW ?_ _)))⟩
      · have h2' : decide (b < a) = false := by simpa using h2
        rw [betw_yes h2] at HBt
        have q1 := weighR_le (l := u) (f := inLow a b) hr
        have q2 := weighR_le (l := u) (f := inHigh a b) hr
        rw [show bothV (share u l a b d) = .tuple #[.agg #[.int .i64 ((betwLow u l a b).toNat * d.toNat / (sumR l).toNat : Nat), .int .i64 (upV (betwHigh u l a b).toNat d.toNat (sumR l).toNat : Nat)], .int .i64 0] by unfold share; rw [if_neg hN, if_neg (by omega)]; rfl]
        unfold betwLow betwHigh at HBt ⊢
        clear ht
        generalize weighR u (inLow a b) l = x at q1 HBt ⊢
        generalize weighR u (inHigh a b) l = y at q2 HBt ⊢
        generalize sumR l = n at hs0 hs q1 q2 hN hN0 HW ⊢
        obtain ⟨x, rfl⟩ := Int.eq_ofNat_of_zero_le q1.1
        obtain ⟨y, rfl⟩ := Int.eq_ofNat_of_zero_le q2.1
        obtain ⟨n, rfl⟩ := Int.eq_ofNat_of_zero_le hs0
        obtain ⟨d, rfl⟩ := Int.eq_ofNat_of_zero_le (show 0 ≤ d by omega)
        simp only [Int.toNat_natCast]
        have HP := Lib.hid (ref1_Part · x d n (by omega) (by omega) (by omega) (by omega))
        have HU := Lib.hid (ref1_PartUp · y d n (by omega) (by omega) (by omega) (by omega))
        have u1 := part_le (b := d) (show x ≤ n by omega) (by omega)
        have u2 := up_le (b := d) (show y ≤ n by omega) (by omega)
        generalize x * d / n = p at HP u1 ⊢
        generalize upV y d n = q at HU u2 ⊢
        clear hN q1 q2 h1 h2
        go_enter Try.func19, Try.ntmps19
        go_wp2_with fail
        refine (HW.out _ S0.out).mono ?_
        rintro e w1 ⟨rfl, hb1⟩
        have B1 : Below w.heap.size w w1 := Below.then_ (by repeat (first | with_reducible exact Below.refl _ _ | with_reducible assumption | ((with_reducible refine Below.setCell ?_ ?_ _); rotate_left; · (first | omega | exact Nat.le_refl _ | (simp <;> omega))) | (with_reducible refine Below.allocW ?_ _) | (with_reducible refine Below.drew ?_) | (with_reducible refine Below.extW ?_ _))) hb1
        have s1 : w.heap.size ≤ w1.heap.size := B1.size
        have z1_0 : w.heap.size < w1.heap.size := by have := hb1.size; (try simp at this); omega
        have y1_0 : w.heap.size ≤ w1.heap.size := Nat.le_of_lt z1_0
        have c1_0 := fun o => hb1.cell (p := ⟨w.heap.size, o, none⟩) (by first | omega | (simp <;> omega))
        have f1_0 := fun o => hb1.frozen (p := ⟨w.heap.size, o, none⟩) (by first | omega | (simp <;> omega))
        have z1_1 : w.heap.size + 1 < w1.heap.size := by have := hb1.size; (try simp at this); omega
        have y1_1 : w.heap.size + 1 ≤ w1.heap.size := Nat.le_of_lt z1_1
        have c1_1 := fun o => hb1.cell (p := ⟨w.heap.size + 1, o, none⟩) (by first | omega | (simp <;> omega))
        have f1_1 := fun o => hb1.frozen (p := ⟨w.heap.size + 1, o, none⟩) (by first | omega | (simp <;> omega))
        go_wp2_with fail
        refine (HBt.out _ (HS.out.keep s1 fun p hp => B1.cell hp)).mono ?_
        rintro e w2 ⟨rfl, hb2⟩
        have B2 : Below w.heap.size w w2 := Below.then_ (by repeat (first | with_reducible exact Below.refl _ _ | with_reducible assumption | ((with_reducible refine Below.setCell ?_ ?_ _); rotate_left; · (first | omega | exact Nat.le_refl _ | (simp <;> omega))) | (with_reducible refine Below.allocW ?_ _) | (with_reducible refine Below.drew ?_) | (with_reducible refine Below.extW ?_ _))) hb2
        have s2 : w.heap.size ≤ w2.heap.size := B2.size
        have z2_0 : w.heap.size < w2.heap.size := by have := hb2.size; (try simp at this); omega
        have y2_0 : w.heap.size ≤ w2.heap.size := Nat.le_of_lt z2_0
        have c2_0 := fun o => hb2.cell (p := ⟨w.heap.size, o, none⟩) (by first | omega | (simp <;> omega))
        have f2_0 := fun o => hb2.frozen (p := ⟨w.heap.size, o, none⟩) (by first | omega | (simp <;> omega))
        have z2_1 : w.heap.size + 1 < w2.heap.size := by have := hb2.size; (try simp at this); omega
        have y2_1 : w.heap.size + 1 ≤ w2.heap.size := Nat.le_of_lt z2_1
        have c2_1 := fun o => hb2.cell (p := ⟨w.heap.size + 1, o, none⟩) (by first | omega | (simp <;> omega))
        have f2_1 := fun o => hb2.frozen (p := ⟨w.heap.size + 1, o, none⟩) (by first | omega | (simp <;> omega))
        have BA : Below w.heap.size w (w2.alloc (.cells #[.int .i64 x, .int .i64 y] 45)) := (by repeat (first | with_reducible exact Below.refl _ _ | with_reducible assumption | ((with_reducible refine Below.setCell ?_ ?_ _); rotate_left; · (first | omega | exact Nat.le_refl _ | (simp <;> omega))) | (with_reducible refine Below.allocW ?_ _) | (with_reducible refine Below.drew ?_) | (with_reducible refine Below.extW ?_ _)))
        have S2 := Lib.hid (HS.out.keep (B' := (w2.alloc (.cells #[.int .i64 x, .int .i64 y] 45)).heap.size) BA.size fun p hp => BA.cell hp)
        have c2 := fun o => Go.RowKit.Below.cell ((Below.refl w2.heap.size w2).alloc (Nat.le_refl _) (.cells #[.int .i64 x, .int .i64 y] 45)) (p := ⟨w.heap.size, o, none⟩) z2_0
        clear BA
        go_wp2_with fail
        refine wp_region_ext (by kernel_rfl) (by kernel_rfl) ?_
        repeat (go_big_quiet_step (first | (go_at_call 36; exact quiet_ext (HW.out _ (S2.out.keep (ext_below _ _).size fun p hp => (ext_below _ _).cell hp))) | (go_at_call 37; exact quiet_ext (HP.out _))))
        refine wpQuiet_nil ?_
        intro w3 hb3
        replace hb3 := below_of_ext hb3
        have B3 : Below w.heap.size w w3 := Below.then_ (by repeat (first | with_reducible exact Below.refl _ _ | with_reducible assumption | ((with_reducible refine Below.setCell ?_ ?_ _); rotate_left; · (first | omega | exact Nat.le_refl _ | (simp <;> omega))) | (with_reducible refine Below.allocW ?_ _) | (with_reducible refine Below.drew ?_) | (with_reducible refine Below.extW ?_ _))) hb3
        have s3 : w.heap.size ≤ w3.heap.size := B3.size
        have z3_0 : w.heap.size < w3.heap.size := by have := hb3.size; (try simp at this); omega
        have y3_0 : w.heap.size ≤ w3.heap.size := Nat.le_of_lt z3_0
        have c3_0 := fun o => hb3.cell (p := ⟨w.heap.size, o, none⟩) (by first | omega | (simp <;> omega))
        have f3_0 := fun o => hb3.frozen (p := ⟨w.heap.size, o, none⟩) (by first | omega | (simp <;> omega))
        have z3_1 : w.heap.size + 1 < w3.heap.size := by have := hb3.size; (try simp at this); omega
        have y3_1 : w.heap.size + 1 ≤ w3.heap.size := Nat.le_of_lt z3_1
        have c3_1 := fun o => hb3.cell (p := ⟨w.heap.size + 1, o, none⟩) (by first | omega | (simp <;> omega))
        have f3_1 := fun o => hb3.frozen (p := ⟨w.heap.size + 1, o, none⟩) (by first | omega | (simp <;> omega))
        have z3_2 : w2.heap.size < w3.heap.size := by have := hb3.size; (try simp at this); omega
        have y3_2 : w2.heap.size ≤ w3.heap.size := Nat.le_of_lt z3_2
        have c3_2 := fun o => hb3.cell (p := ⟨w2.heap.size, o, none⟩) (by first | omega | (simp <;> omega))
        have f3_2 := fun o => hb3.frozen (p := ⟨w2.heap.size, o, none⟩) (by first | omega | (simp <;> omega))
        have S3 := Lib.hid (S2.out.keep hb3.size fun p hp => hb3.cell hp)
        go_wp2_with fail
        refine wp_region_ext (by kernel_rfl) (by kernel_rfl) ?_
        repeat (go_big_quiet_step (first | (go_at_call 36; exact quiet_ext (HW.out _ (S3.out.keep (ext_below _ _).size fun p hp => (ext_below _ _).cell hp))) | (go_at_call 38; exact quiet_ext (HU.out _))))
        refine wpQuiet_nil ?_
        intro w4 hb4
        replace hb4 := below_of_ext hb4
        have B4 : Below w.heap.size w w4 := Below.then_ (by repeat (first | with_reducible exact Below.refl _ _ | with_reducible assumption | ((with_reducible refine Below.setCell ?_ ?_ _); rotate_left; · (first | omega | exact Nat.le_refl _ | (simp <;> omega))) | (with_reducible refine Below.allocW ?_ _) | (with_reducible refine Below.drew ?_) | (with_reducible refine Below.extW ?_ _))) hb4
        have s4 : w.heap.size ≤ w4.heap.size := B4.size
        have z4_0 : w.heap.size < w4.heap.size := by have := hb4.size; (try simp at this); omega
        have y4_0 : w.heap.size ≤ w4.heap.size := Nat.le_of_lt z4_0
        have c4_0 := fun o => hb4.cell (p := ⟨w.heap.size, o, none⟩) (by first | omega | (simp <;> omega))
        have f4_0 := fun o => hb4.frozen (p := ⟨w.heap.size, o, none⟩) (by first | omega | (simp <;> omega))
        have z4_1 : w.heap.size + 1 < w4.heap.size := by have := hb4.size; (try simp at this); omega
        have y4_1 : w.heap.size + 1 ≤ w4.heap.size := Nat.le_of_lt z4_1
        have c4_1 := fun o => hb4.cell (p := ⟨w.heap.size + 1, o, none⟩) (by first | omega | (simp <;> omega))
        have f4_1 := fun o => hb4.frozen (p := ⟨w.heap.size + 1, o, none⟩) (by first | omega | (simp <;> omega))
        have z4_2 : w2.heap.size < w4.heap.size := by have := hb4.size; (try simp at this); omega
        have y4_2 : w2.heap.size ≤ w4.heap.size := Nat.le_of_lt z4_2
        have c4_2 := fun o => hb4.cell (p := ⟨w2.heap.size, o, none⟩) (by first | omega | (simp <;> omega))
        have f4_2 := fun o => hb4.frozen (p := ⟨w2.heap.size, o, none⟩) (by first | omega | (simp <;> omega))
        go_wp2_with fail
        exact bodyPost_ret (v := .tuple #[.agg #[.int .i64 p, .int .i64 q], .int .i64 0]) (by simp only [results, Try.results19]; go_simp) rfl ⟨rfl, (by repeat (first | with_reducible exact Below.refl _ _ | with_reducible assumption | ((with_reducible refine Below.setCell ?_ ?_ _); rotate_left; · (first | omega | exact Nat.le_refl _ | (simp <;> omega))) | (with_reducible refine Below.allocW ?_ _) | (with_reducible refine Below.drew ?_) | (with_reducible refine Below.extW ?_ _)))⟩
end Go.Proofs.Ytalnhdfgjjhhbaa
